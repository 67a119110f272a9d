/- Walks: a chunk enters an image (spec). -/
import Derived.Test.YtjjcedodjoieoaaEntM
import Derived.Test.YtjjcedodjoieoaaW11
import Derived.Test.YtjjcedodjoieoaaW61
import Derived.Test.YtjjcedodjoieoaaW119
import Derived.Test.YtjjcedodjoieoaaPut
import Derived.Test.YtjjcedodjoieoaaW80s
namespace Go.Proofs.Ytjjcedodjoieoaa
open Go.RowKit
set_option linter.unusedVariables false

section
variable {P : Program} {w : World} {base size bytes : Nat} {e : TypeId} {z v : Value} {α : Type} {f : α → List Value}
/-- append of one struct as a step of a region that draws its order; where the row may lie is told. -/
theorem step_appG {ops : Array Oper} {o : Oper} {a : Act} {K : Act → World → Prop} {Q : Exit → Act → World → Prop} {E0 : Prop} (hgd : o.guard = none) (s x : Operand) (t : TypeId)
    (ho : o.op = .call { callee := .builtin .append, args := #[s, x], argTypes := #[t, t] }) (E : Elt P t e size bytes z) (hby : bytes ≤ 1000)
    (v : Value) (l : List α) (n : Nat) (hln : n = l.length) (hsv : a.eval s = v) (hown : w.ownsRow base e size v n (flat f l)) (cs : Array Value) (te : TypeId) (y : α) (c : Nat) (hx : a.eval x = .slice (some ⟨w.heap.size, 0, none⟩) 1 c)
    (hcs : cs.toList = f y) (hlen : (f y).length = size) (h1 : ∀ u ∈ f y, u.oneCell' = true) (hsz : l.length ≤ 100000000) (hbase : base ≤ w.heap.size)
    (h : ∀ v' w', w'.ownsRow base e size v' (l ++ [y]).length (flat f (l ++ [y])) → (w.alloc (.cells cs te)).grownBy w' v.ownBlock → (v'.ownBlock = v.ownBlock ∨ v'.ownBlock = some (w.heap.size + 1)) → Below base w w' → K (a.put o.dst v') w') :
    if Region.wanted o (yielded ops a.tmps) = true then Oper.wp P o a (w.alloc (.cells cs te)) K Q else E0 := by
  subst hln
  have hw : Region.wanted o (yielded ops a.tmps) = true := by simp [Region.wanted, hgd]
  rw [if_pos hw]
  have hcl : cs.size = size := by rw [← Array.length_toList, hcs, hlen]
  have hbb : (l.length + 1) * bytes ≤ 140737488355328 := by
    have := Nat.mul_le_mul (show l.length + 1 ≤ 100000001 by omega) hby
    omega
  have hsrc : Src P size t (.slice (some ⟨w.heap.size, 0, none⟩) 1 c) 1 (f y) (w.alloc (.cells cs te)) := by
    rw [← hcs]
    refine Src.lit E.ht w cs te 1 c (by omega) ?_
    rw [hcs]
    exact h1
  obtain ⟨v', w', hr, h2, h3, h5⟩ := run_append_src (P := P) (w.alloc (.cells cs te)) base t t o.type e z size bytes E v l.length (flat f l) (World.ownsRow.alloc hown _) _ 1 (f y) hsrc (by unfold maxLen; omega) hbb (by rw [World.size_alloc]; omega)
  unfold Oper.wp execOp
  simp only [ho, resolve, invoke, builtin, Sem.run_bind, Sem.run_pure, Result.andThen_ok, List.map_toArray, List.map_cons, List.map_nil, hsv, hx, hr]
  refine h _ _ ?_ h3 (by simpa using h5) ((Below.refl base w).alloc hbase _ |>.trans (below_of_own (World.ownsRow.alloc hown _) (by rw [World.size_alloc]; omega) h3))
  rw [List.length_append, flat_snoc]
  exact h2
end
theorem BX.grown {w w' : World} {g : Nat} {t : TypeId} {vs : List Value} {row : Option Nat} (h : BX w g t vs) (hg : w.grownBy w' row) (hne : row ≠ some g) : BX w' g t vs := (hg.block g h.lt (fun e => hne e.symm)).trans h
theorem BX.drx {w : World} {g : Nat} {t : TypeId} {vs : List Value} (h : BX w g t vs) : BX w.drew g t vs := h
theorem CP.below {w w' : World} {g B : Nat} {vs : List Value} (p : CP w g vs) (hb : Below B w w') (hg : g < B) : CP w' g vs := fun j h => (hb.cell (p := ⟨g, j, none⟩) hg).trans (p j h)
theorem oneStr (x : ByteArray) : ∀ u ∈ fS x, u.oneCell' = true := by
  intro u hu
  simp only [fS, List.mem_cons, List.not_mem_nil, or_false] at hu
  subst hu
  rfl
section
variable {T P nb : Nat} {s : Int} {n : List ByteArray} {k : Int} {d : ByteArray}
theorem entB_note (hk : k = 3) {b1 : Bool} (h1 : noteB d = b1) : entB T P nb s n ⟨k, d⟩ = (b1 && decide (n.length < 8)) := by simp [entB, hk, h1]
theorem entB_no (h3 : ¬ k = 3) (h2 : ¬ k = 2) : entB T P nb s n ⟨k, d⟩ = false := by simp [entB, h3, h2]
theorem entB_trk (h2 : k = 2) : entB T P nb s n ⟨k, d⟩ = (trk T P nb s d).isSome := by subst h2; simp [entB]
end

set_option maxRecDepth 100000 in
set_option maxHeartbeats 4000000 in
theorem l13Enter_any (g : Nat) (c h s : Int) (P T nb b cp : Nat) (l : List DSector) (B : Option Addr) (q : Nat) (n : List ByteArray) (k : Int) (d : ByteArray) (w : World) (base : Nat) (hd : d.size ≤ maxLen) (hT : c * h = (T : Int)) (hT16 : T ≤ 16) (hP0 : 0 < P) (hP8 : P ≤ 8) (hs0 : 0 ≤ s) (hs2 : s ≤ 2) (hnb : szB s = (nb : Int)) (hnb32 : nb ≤ 32) (hl : l.length = T * P) (hn8 : n.length ≤ 8)
    (F : BX w g 27 [.int .i64 c, .int .i64 h, .int .i64 (P : Int), .int .i64 s, .slice (some ⟨b, 0, none⟩) l.length cp, .slice B n.length q])
    (ho : w.ownsRow base 90 2 (.slice (some ⟨b, 0, none⟩) l.length cp) l.length (flat fSector l)) (kr : w.ownsRow base 9 1 (.slice B n.length q) n.length (flat fS n))
    (hbg : base ≤ g) (hgb : g ≠ b) (hgB : (Value.slice B n.length q).ownBlock ≠ some g) (hbB : (Value.slice B n.length q).ownBlock ≠ some b) (hbs : base ≤ w.heap.size) (hbb : base ≤ b) :
    Calls Try.prog 23 #[.pointer (some ⟨g, 0, none⟩), .agg #[.int .i64 k, .string d]] w fun e w' => ∃ B' q', e = .returned (.bool (entB T P nb s n ⟨k, d⟩)) ∧ BX w' g 27 [.int .i64 c, .int .i64 h, .int .i64 (P : Int), .int .i64 s, .slice (some ⟨b, 0, none⟩) l.length cp, .slice B' (entN n ⟨k, d⟩).length q'] ∧ w'.ownsRow base 90 2 (.slice (some ⟨b, 0, none⟩) l.length cp) l.length (flat fSector (entL T P nb s l ⟨k, d⟩)) ∧ w'.ownsRow base 9 1 (.slice B' (entN n ⟨k, d⟩).length q') (entN n ⟨k, d⟩).length (flat fS (entN n ⟨k, d⟩)) ∧ (Value.slice B' (entN n ⟨k, d⟩).length q').ownBlock ≠ some g ∧ (Value.slice B' (entN n ⟨k, d⟩).length q').ownBlock ≠ some b ∧ Below base w w' := by
  unfold maxLen at hd
  have hl128 : l.length ≤ 128 := by
    rw [hl]
    exact Nat.mul_le_mul hT16 hP8
  have same : ∀ (w' : World) (bo : Bool), entB T P nb s n ⟨k, d⟩ = bo → entL T P nb s l ⟨k, d⟩ = l → entN n ⟨k, d⟩ = n → BB w w' → ∃ B' q', Ending.returned (.bool bo) = .returned (.bool (entB T P nb s n ⟨k, d⟩)) ∧ BX w' g 27 [.int .i64 c, .int .i64 h, .int .i64 (P : Int), .int .i64 s, .slice (some ⟨b, 0, none⟩) l.length cp, .slice B' (entN n ⟨k, d⟩).length q'] ∧ w'.ownsRow base 90 2 (.slice (some ⟨b, 0, none⟩) l.length cp) l.length (flat fSector (entL T P nb s l ⟨k, d⟩)) ∧ w'.ownsRow base 9 1 (.slice B' (entN n ⟨k, d⟩).length q') (entN n ⟨k, d⟩).length (flat fS (entN n ⟨k, d⟩)) ∧ (Value.slice B' (entN n ⟨k, d⟩).length q').ownBlock ≠ some g ∧ (Value.slice B' (entN n ⟨k, d⟩).length q').ownBlock ≠ some b ∧ Below base w w' := fun w' bo h1 h2 h3 hB => by
    refine ⟨B, q, by rw [h1], ?_, ?_, ?_, ?_, ?_, Below.mono hB hbs⟩
    · rw [h3]; exact F.below hB F.lt
    · rw [h2]; exact own_later ho hB (Nat.le_refl _)
    · rw [h3]; exact own_later kr hB (Nat.le_refl _)
    · rw [h3]; exact hgB
    · rw [h3]; exact hbB
  have SAME := Lib.hid same
  clear same
  have HL := Lib.hid hl
  clear hl
  have C0 : CP (w.alloc (.cells #[.int .i64 k, .string d] 47)) w.heap.size [.int .i64 k, .string d] := CP.made w [.int .i64 k, .string d] 47
  have hB : BB w (w.alloc (.cells #[.int .i64 k, .string d] 47)) := (show Below w.heap.size w (w.alloc (.cells #[.int .i64 k, .string d] 47)) from (by with_reducible repeat (first | exact Below.refl _ _ | assumption | refine below_step ?_ (by assumption) | refine Below.drew ?_ | refine below_drewN ?_ _ | refine below_alloc ?_ _ | refine Below.setCell ?_ (by simp; try omega) _)))
  have F0 : BX (w.alloc (.cells #[.int .i64 k, .string d] 47)) _ _ _ := BX.al F (.cells #[.int .i64 k, .string d] 47)
  have c0 : (_ : Option Value) = some (.int .i64 k) := C0 0 (by simp)
  have c1 : (_ : Option Value) = some (.string d) := C0 1 (by simp)
  by_cases hk3 : k = 3
  · have HK3 := Lib.hid hk3
    have hLk := Lib.hid (entL_no (T := T) (P := P) (nb := nb) (s := s) (l := l) (d := d) (show ¬ k = 2 by omega))
    have hbk : (k == 3) = true := by simpa using hk3
    have hnt := fun W => l13Note_any d W hd
    cases hnb1 : noteB d
    · rw [hnb1] at hnt
      have hE := Lib.hid ((entB_note (T := T) (P := P) (nb := nb) (s := s) (n := n) hk3 hnb1).trans (Bool.false_and _))
      have hN := Lib.hid (entN_bad (n := n) (k := k) hnb1)
      clear hk3 hnb1
      go_enter Try.func23, Try.ntmps23
      go_wp2_with (go_at_call 58; refine (hnt _).mono ?_; rintro e w1 ⟨rfl, rfl⟩)
      go_ret
      exact SAME.out _ _ hE.out hLk.out hN.out hB
    rw [hnb1] at hnt
    have f5 : (_ : Option Value) = some (.slice B n.length q) := F0.cell 5 (by simp)
    by_cases hfull : n.length < 8
    rotate_left
    · have hE := Lib.hid ((entB_note (T := T) (P := P) (nb := nb) (s := s) (n := n) hk3 hnb1).trans (by rw [decide_eq_false hfull, Bool.and_false]))
      have hN := Lib.hid (entN_full (n := n) (k := k) (d := d) hfull)
      have hge : (8 : Int) ≤ (n.length : Int) := by omega
      clear hk3 hnb1 hfull hn8
      go_enter Try.func23, Try.ntmps23
      go_wp2_with (go_at_call 58; refine (hnt _).mono ?_; rintro e w1 ⟨rfl, rfl⟩)
      go_ret
      exact SAME.out _ _ hE.out hLk.out hN.out hB
    have hE := Lib.hid ((entB_note (T := T) (P := P) (nb := nb) (s := s) (n := n) hk3 hnb1).trans (by rw [decide_eq_true hfull, Bool.and_true]))
    have hN := Lib.hid (entN_yes (n := n) hk3 hnb1 hfull)
    have hlt8 : ¬ (8 : Int) ≤ (n.length : Int) := by omega
    clear hk3 hnb1 hfull
    go_enter Try.func23, Try.ntmps23
    go_wp2_with (go_at_call 58; refine (hnt _).mono ?_; rintro e w1 ⟨rfl, rfl⟩)
    have kr0 : OO (w.alloc (.cells #[.int .i64 k, .string d] 47)) _ _ _ _ _ _ := OO.al kr (.cells #[.int .i64 k, .string d] 47)
    have ho0 : OO (w.alloc (.cells #[.int .i64 k, .string d] 47)) _ _ _ _ _ _ := OO.al ho (.cells #[.int .i64 k, .string d] 47)
    clear c0 c1 f5
    generalize (w.alloc (.cells #[.int .i64 k, .string d] 47)) = w2 at *
    have d1 : w2.drew.cell? _ = some (.string d) := C0 1 (by simp)
    have d5 : w2.drew.cell? _ = some (.slice B n.length q) := F0.cell 5 (by simp)
    have e5 : (w2.alloc (.cells #[.string d] 9)).drew.cell? _ = some (.slice B n.length q) := (F0.al (.cells #[.string d] 9)).cell 5 (by simp)
    have hlen1 : (n ++ [d]).length = n.length + 1 := by simp
    have hby16 : 16 ≤ 1000 := by decide
    have hnbig : n.length ≤ 100000000 := by omega
    have hbs2 : base ≤ w2.heap.size := Nat.le_trans hbs hB.size
    go_region_law (refine step_appG (w := w2.drew) (f := fS) rfl (.tmp 32) (.tmp 35) 25 rfl eltStr hby16 (.slice B n.length q) n n.length rfl rfl (OO.dr kr0) #[.string d] 9 d 1 rfl rfl rfl (oneStr d) hnbig hbs2 ?_; intro v5 w5 kr5 hg5 hat5 hbl5; obtain ⟨A5, c5, rfl⟩ := own_form kr5; have F5 := ((BX.drx F0).al (.cells #[.string d] 9)).grown hg5 hgB; have ho5 := World.ownsRow.kept (OO.al (OO.dr ho0) (.cells #[.string d] 9)) hg5 (.inr (fun e => hbB e.symm)); have g5 : (_ : Option Value) = some (.slice B n.length q) := F5.cell 5 (by simp); have hfz := fun j => F5.free j)
    all_goals
      go_wp2
      go_ret
      have hg1 : (Value.slice A5 (n ++ [d]).length c5).ownBlock ≠ some g := by
        rcases hat5 with h | h
        · rw [h]; exact hgB
        · rw [h]; intro e; have := F0.lt; simp at e; omega
      have hb1 : (Value.slice A5 (n ++ [d]).length c5).ownBlock ≠ some b := by
        rcases hat5 with h | h
        · rw [h]; exact hbB
        · rw [h]; intro e; have hlt := (World.ownsRow.lt ho0 b rfl).2; simp at e; omega
      refine ⟨A5, c5, by rw [hE.out]; rfl, ?_, ?_, ?_, ?_, ?_, ?_⟩
      · rw [hN.out, hlen1]; exact F5.put 5 _
      · rw [hLk.out]; exact OO.putne ho5 (a := ⟨g, 5, none⟩) (by intro e; apply hgb; simpa [Value.ownBlock] using e.symm) _
      · rw [hN.out]; rw [hlen1] at kr5 hg1 ⊢; exact OO.putne kr5 (a := ⟨g, 5, none⟩) hg1 _
      · rw [hN.out]; exact hg1
      · rw [hN.out]; exact hb1
      · exact Below.setCell ((Below.mono (BB.dr hB) hbs).trans hbl5) hbg _
  have hbk : (k == 3) = false := by simpa using hk3
  have hNk := Lib.hid (entN_no (n := n) (d := d) hk3)
  by_cases hk2 : k = 2
  rotate_left
  · have hE := Lib.hid (entB_no (T := T) (P := P) (nb := nb) (s := s) (n := n) (d := d) hk3 hk2)
    have hLk := Lib.hid (entL_no (T := T) (P := P) (nb := nb) (s := s) (l := l) (d := d) hk2)
    have hbk2 : (k != 2) = true := by simpa using hk2
    clear hk3 hk2
    go_enter Try.func23, Try.ntmps23
    go_wp2
    generalize (w.alloc (.cells #[.int .i64 k, .string d] 47)) = w2 at *
    go_quiet (fail)
    replace hB : BB w _ := BB.dn hB nq
    go_wp2
    go_ret
    exact SAME.out _ _ hE.out hLk.out hNk.out hB
  have hbk2 : (k != 2) = false := by simpa using hk2
  have hE := Lib.hid (entB_trk (T := T) (P := P) (nb := nb) (s := s) (n := n) (d := d) hk2)
  have hLk := Lib.hid (entL_yes (T := T) (P := P) (nb := nb) (s := s) (l := l) (d := d) hk2)
  have fail : ∀ (w' : World), trk T P nb s d = none → BB w w' → ∃ B' q', Ending.returned (.bool false) = .returned (.bool (entB T P nb s n ⟨k, d⟩)) ∧ BX w' g 27 [.int .i64 c, .int .i64 h, .int .i64 (P : Int), .int .i64 s, .slice (some ⟨b, 0, none⟩) l.length cp, .slice B' (entN n ⟨k, d⟩).length q'] ∧ w'.ownsRow base 90 2 (.slice (some ⟨b, 0, none⟩) l.length cp) l.length (flat fSector (entL T P nb s l ⟨k, d⟩)) ∧ w'.ownsRow base 9 1 (.slice B' (entN n ⟨k, d⟩).length q') (entN n ⟨k, d⟩).length (flat fS (entN n ⟨k, d⟩)) ∧ (Value.slice B' (entN n ⟨k, d⟩).length q').ownBlock ≠ some g ∧ (Value.slice B' (entN n ⟨k, d⟩).length q').ownBlock ≠ some b ∧ Below base w w' := fun w' h1 hB => SAME.out w' false (by rw [hE.out, h1]; rfl) (by rw [hLk.out, rtL_no h1]) hNk.out hB
  have FAIL := Lib.hid fail
  clear fail
  have f0 : (_ : Option Value) = some (.int .i64 c) := F0.cell 0 (by simp)
  have f1 : (_ : Option Value) = some (.int .i64 h) := F0.cell 1 (by simp)
  have f2 : (_ : Option Value) = some (.int .i64 (P : Int)) := F0.cell 2 (by simp)
  have f3 : (_ : Option Value) = some (.int .i64 s) := F0.cell 3 (by simp)
  have hwT : IntKind.i64.wrap (c * h) = (T : Int) := by rw [hT]; exact IntWalk.i64_in _ (by omega)
  clear hk3 hk2 hT
  by_cases h0 : d.size = 0
  · have HR := Lib.hid (trk_0 (T := T) (P := P) (nb := nb) (s := s) h0)
    obtain rfl := str_empty h0
    clear h0
    go_enter Try.func23, Try.ntmps23
    go_wp2
    generalize (w.alloc (.cells #[.int .i64 k, .string ⟨#[]⟩] 47)) = w2 at *
    go_quiet (fail)
    replace hB : BB w _ := BB.dn hB nq
    go_wp2
    go_ret
    exact FAIL.out _ HR.out hB
  have hse := str_some h0
  have hdpos : 0 < d.size := Nat.pos_of_ne_zero h0
  have e0 := bt_eq d 0 hdpos
  have b0 := bt_lt d 0
  obtain ⟨t, ht⟩ : ∃ t, bt d 0 = t := ⟨_, rfl⟩
  rw [ht] at e0 b0
  have HTB := Lib.hid ht
  have hwt : IntKind.i64.wrap (t : Int) = (t : Int) := IntWalk.i64_in _ (by omega)
  by_cases htT : T ≤ t
  · have HR := Lib.hid (trk_1 (P := P) (nb := nb) (s := s) h0 (by rw [ht]; exact htT))
    have hcmp : (T : Int) ≤ (t : Int) := by omega
    clear h0 htT ht
    go_enter Try.func23, Try.ntmps23
    go_wp2
    generalize (w.alloc (.cells #[.int .i64 k, .string d] 47)) = w2 at *
    go_quiet (fail)
    replace hB : BB w _ := BB.dn hB nq
    go_wp2
    go_ret
    exact FAIL.out _ HR.out hB
  have hcmp : ¬ (T : Int) ≤ (t : Int) := by omega
  have htlt2 : t + 1 ≤ T := by omega
  have hsz := fun W => l12Bytes_any s hs0 hs2 W
  rw [hnb] at hsz
  have hun := fun W => l14Unpack_any (d.extract 1 d.size) W (by rw [ByteArray.size_extract]; unfold maxLen; omega)
  have hd1 : (1 : Int) ≤ (d.size : Int) := by omega
  have hwn : IntKind.i64.wrap ((nb : Int) + 1) = ((nb + 1 : Nat) : Int) := IntWalk.i64_in _ (by omega)
  have hHT : ¬ T ≤ bt d 0 := by rw [ht]; exact htT
  cases hu : unp (d.extract 1 d.size) with
  | none =>
    have HR := Lib.hid (trk_2 (P := P) (nb := nb) (s := s) h0 hHT hu)
    rw [hu] at hun
    replace hun : ∀ W, Calls Try.prog 60 #[.string (d.extract 1 d.size)] W fun e w' => e = .returned (.tuple #[.string ByteArray.empty, .bool false]) ∧ Below W.heap.size W w' := hun
    clear h0 htT hHT hu ht
    go_enter Try.func23, Try.ntmps23
    go_wp2
    generalize (w.alloc (.cells #[.int .i64 k, .string d] 47)) = w2 at *
    go_quiet (fail)
    replace hB : BB w (w2.drewN nq) := BB.dn hB nq
    replace C0 : CP (w2.drewN nq) _ _ := C0
    replace F0 : BX (w2.drewN nq) _ _ _ := F0
    clear c0 c1 f0 f1 f2 f3
    generalize w2.drewN nq = w3 at *
    have c1 : (_ : Option Value) = some (.string d) := C0 1 (by simp)
    have f3 : (_ : Option Value) = some (.int .i64 s) := F0.cell 3 (by simp)
    have f2 : (_ : Option Value) = some (.int .i64 (P : Int)) := F0.cell 2 (by simp)
    go_wp2_with (first
      | (go_at_call 59; refine (hsz _).mono ?_; rintro e w5 ⟨rfl, rfl⟩)
      | (go_at_call 60; refine (hun _).mono ?_; rintro e w4 ⟨rfl, hx4⟩; replace hB : BB w _ := BB.next hB hx4; replace F0 := F0.below hx4 F0.lt; replace f2 : (_ : Option Value) = some (.int .i64 (P : Int)) := F0.cell 2 (by simp)))
    go_ret
    exact FAIL.out _ HR.out hB
  | some Z =>
    rw [hu] at hun
    replace hun : ∀ W, Calls Try.prog 60 #[.string (d.extract 1 d.size)] W fun e w' => e = .returned (.tuple #[.string ⟨Z.toArray⟩, .bool true]) ∧ Below W.heap.size W w' := hun
    have hzs : (⟨Z.toArray⟩ : ByteArray).size = Z.length := by show Z.toArray.size = Z.length; simp
    have hmm : (nb + 1) * P ≤ 264 := Nat.mul_le_mul (by omega : nb + 1 ≤ 33) hP8
    have hwm : IntKind.i64.wrap (((nb + 1 : Nat) : Int) * (P : Int)) = (((nb + 1) * P : Nat) : Int) := by rw [← Int.natCast_mul]; exact IntWalk.i64_in _ (by omega)
    by_cases hlen : Z.length = (nb + 1) * P
    rotate_left
    · have HR := Lib.hid (trk_3 (P := P) (nb := nb) (s := s) h0 hHT hu hlen)
      have hne : (((⟨Z.toArray⟩ : ByteArray).size : Int) != (((nb + 1) * P : Nat) : Int)) = true := by rw [hzs]; simpa using (by omega : ¬ (Z.length : Int) = (((nb + 1) * P : Nat) : Int))
      have hzb : (⟨Z.toArray⟩ : ByteArray).size ≤ 1000000 ∨ True := .inr trivial
      generalize (⟨Z.toArray⟩ : ByteArray) = ZB at *
      generalize (nb + 1) * P = m at *
      generalize nb + 1 = n1 at *
      clear h0 htT hHT hu hlen hzs hzb ht
      go_enter Try.func23, Try.ntmps23
      go_wp2
      generalize (w.alloc (.cells #[.int .i64 k, .string d] 47)) = w2 at *
      go_quiet (fail)
      replace hB : BB w (w2.drewN nq) := BB.dn hB nq
      replace C0 : CP (w2.drewN nq) _ _ := C0
      replace F0 : BX (w2.drewN nq) _ _ _ := F0
      clear c0 c1 f0 f1 f2 f3
      generalize w2.drewN nq = w3 at *
      have c1 : (_ : Option Value) = some (.string d) := C0 1 (by simp)
      have f3 : (_ : Option Value) = some (.int .i64 s) := F0.cell 3 (by simp)
      have f2 : (_ : Option Value) = some (.int .i64 (P : Int)) := F0.cell 2 (by simp)
      go_wp2_with (first
        | (go_at_call 59; refine (hsz _).mono ?_; rintro e w5 ⟨rfl, rfl⟩)
        | (go_at_call 60; refine (hun _).mono ?_; rintro e w4 ⟨rfl, hx4⟩; replace hB : BB w _ := BB.next hB hx4; replace F0 := F0.below hx4 F0.lt; replace f2 : (_ : Option Value) = some (.int .i64 (P : Int)) := F0.cell 2 (by simp)))
      go_ret
      exact FAIL.out _ HR.out hB
    rw [hlen] at hzs
    have HT4 := Lib.hid (fun (j : Nat) (hj : j < P) (h3 : secX s (secAt ⟨Z.toArray⟩ nb j) = false) => trk_4 (T := T) h0 hHT hu hj h3)
    have HT5 := Lib.hid (fun (h4 : ∀ j, j < P → secX s (secAt ⟨Z.toArray⟩ nb j) = true) => trk_5 (T := T) h0 hHT hu hlen h4)
    have hne : (((⟨Z.toArray⟩ : ByteArray).size : Int) != (((nb + 1) * P : Nat) : Int)) = false := by rw [hzs]; simp
    generalize (⟨Z.toArray⟩ : ByteArray) = ZB at *
    have HZS := Lib.hid hzs
    have HMM := Lib.hid hmm
    obtain ⟨m, hm⟩ : ∃ m, (nb + 1) * P = m := ⟨_, rfl⟩
    rw [hm] at hwm hne
    obtain ⟨n1, hn1⟩ : ∃ n1, nb + 1 = n1 := ⟨_, rfl⟩
    have HN1 := Lib.hid hn1
    rw [hn1] at hwm hwn
    clear h0 htT hHT hu hlen hzs hmm hm hn1 ht
    go_enter Try.func23, Try.ntmps23
    go_wp2
    generalize (w.alloc (.cells #[.int .i64 k, .string d] 47)) = w2 at *
    go_quiet (fail)
    replace hB : BB w (w2.drewN nq) := BB.dn hB nq
    replace C0 : CP (w2.drewN nq) _ _ := C0
    replace F0 : BX (w2.drewN nq) _ _ _ := F0
    clear c0 c1 f0 f1 f2 f3
    generalize w2.drewN nq = w3 at *
    have c1 : (_ : Option Value) = some (.string d) := C0 1 (by simp)
    have f3 : (_ : Option Value) = some (.int .i64 s) := F0.cell 3 (by simp)
    have f2 : (_ : Option Value) = some (.int .i64 (P : Int)) := F0.cell 2 (by simp)
    go_wp2_with (first
      | (go_at_call 59; refine (hsz _).mono ?_; rintro e w5 ⟨rfl, rfl⟩)
      | (go_at_call 60; refine (hun _).mono ?_; rintro e w4 ⟨rfl, hx4⟩; replace hB : BB w _ := BB.next hB hx4; replace F0 := F0.below hx4 F0.lt; replace C0 := C0.next hx4; replace f2 : (_ : Option Value) = some (.int .i64 (P : Int)) := F0.cell 2 (by simp)))
    have hlt4 : w.heap.size < w4.heap.size := (cell_spot (C0 0 (by simp))).2
    clear f2 hun hwm hne hwT hcmp
    have hby24 : 24 ≤ 1000 := by decide
    have hwn1 : IntKind.i64.wrap ((n1 : Int) - 1) = (nb : Int) := by have := HN1.out; rw [show (n1 : Int) - 1 = (nb : Int) by omega]; exact IntWalk.i64_in _ (by omega)
    have R4 : OO (w4.alloc (.cells #[] 90)) (w.heap.size + 1) 90 2 (.slice (some ⟨w4.heap.size, 0, none⟩) 0 0) 0 (flat fSector (secs ZB nb 0)) := own_lit0 w4 (w.heap.size + 1) hlt4
    have hB4 := BB.al hB (.cells #[] 90)
    have C4 := C0.al (.cells #[] 90)
    have F4 := F0.al (.cells #[] 90)
    generalize w4.heap.size = gs at *
    clear hB C0 F0
    go_loopw [9, 10, 11] (fun v i _ wr => ∃ j : Nat, j ≤ P ∧ i = .int .i64 j ∧ OO wr (w.heap.size + 1) 90 2 v j (flat fSector (secs ZB nb j)) ∧ BX wr g 27 [.int .i64 c, .int .i64 h, .int .i64 (P : Int), .int .i64 s, .slice (some ⟨b, 0, none⟩) l.length cp, .slice B n.length q] ∧ CP wr w.heap.size [.int .i64 k, .string d] ∧ BB w wr ∧ Hid (∀ y, y < j → secX s (secAt ZB nb y) = true)) (fun _ i _ _ => P - (intOf i).toNat)
    case atStart => exact ⟨0, Nat.zero_le _, rfl, R4, F4, C4, hB4, Lib.hid (fun j hj => absurd hj (Nat.not_lt_zero j))⟩
    case round =>
      clear R4 F4 C4 hB4
      obtain ⟨j, hj, rfl, R, F1, D, hB, HK⟩ := hrel
      have f2 : (_ : Option Value) = some (.int .i64 (P : Int)) := F1.cell 2 (by simp)
      by_cases hlt : j < P
      · obtain ⟨y, hy⟩ : ∃ y, j * (nb + 1) = y := ⟨_, rfl⟩
        have hkn : (j + 1) * (nb + 1) = y + (nb + 1) := by rw [Nat.succ_mul, hy]
        have hqm : y + (nb + 1) ≤ ZB.size := by
          rw [HZS.out, ← hkn, Nat.mul_comm (nb + 1)]
          exact Nat.mul_le_mul_right _ hlt
        have hzz : ZB.size ≤ 264 := by rw [HZS.out]; exact HMM.out
        have hsx : secX s (secAt ZB nb j) = secB (ZB.extract (y + 1) (y + (nb + 1))) (bt ZB y : Int) nb := by
          rw [secX, secAt, hy, hnb]; rfl
        have hse1 : secAt ZB nb j = ⟨ZB.extract (y + 1) (y + (nb + 1)), (bt ZB y : Int)⟩ := by rw [secAt, hy]
        have hvs := fun W => l12Sector_any (ZB.extract (y + 1) (y + (nb + 1))) (bt ZB y : Int) nb W (by rw [ByteArray.size_extract]; unfold maxLen; omega) (by omega)
        have hN1 := HN1.out
        rw [hN1] at hqm hvs hsx hy hse1
        have hqz : y < ZB.size := by omega
        have eZ := bt_eq ZB y hqz
        have bZ := bt_lt ZB y
        have hw1 : IntKind.i64.wrap ((j : Int) * (n1 : Int)) = (y : Int) := by rw [← Int.natCast_mul, hy]; exact IntWalk.i64_in _ (by omega)
        have hw2 : IntKind.i64.wrap ((y : Int) + 1) = ((y + 1 : Nat) : Int) := IntWalk.i64_in _ (by omega)
        have hw3 : IntKind.i64.wrap ((j : Int) + 1) = ((j + 1 : Nat) : Int) := IntWalk.i64_in _ (by omega)
        have hw4 : IntKind.i64.wrap ((y : Int) + (n1 : Int)) = ((y + n1 : Nat) : Int) := by rw [← Int.natCast_add]; exact IntWalk.i64_in _ (by omega)
        have HKS := Lib.hid (fun (h : secX s (secAt ZB nb j) = true) => (show ∀ z, z < j + 1 → secX s (secAt ZB nb z) = true from fun z hz => by
          rcases Nat.lt_succ_iff_lt_or_eq.1 hz with hz | rfl
          · exact HK.out z hz
          · exact h))
        have HSX := Lib.hid hsx
        have HSE := Lib.hid hse1
        have hqn : y + 1 ≤ y + n1 := by omega
        have hqni : ((y + 1 : Nat) : Int) ≤ ((y + n1 : Nat) : Int) := by omega
        have hqmi : ((y + n1 : Nat) : Int) ≤ (ZB.size : Int) := by omega
        have hqzi : (y : Int) < (ZB.size : Int) := by omega
        have hlti : (j : Int) < (P : Int) := by omega
        clear hy hkn hsx hN1 hse1
        obtain ⟨r1, hr1⟩ : ∃ r1, y + 1 = r1 := ⟨_, rfl⟩
        obtain ⟨r2, hr2⟩ : ∃ r2, y + n1 = r2 := ⟨_, rfl⟩
        obtain ⟨j1, hj1⟩ : ∃ j1, j + 1 = j1 := ⟨_, rfl⟩
        rw [hr1, hr2] at hqn hqni HSX hvs HSE
        rw [hr2] at hqmi hw4 hqm
        rw [hr1] at hw2
        rw [hj1] at hw3 HKS
        have HK1 := Lib.hid hj1
        clear hr1 hr2 hj1
        obtain ⟨X, hX⟩ : ∃ X, ZB.extract r1 r2 = X := ⟨_, rfl⟩
        rw [hX] at hvs HSX HSE
        generalize hY : bt ZB y = Y at *
        obtain ⟨A9, c9, rfl⟩ := own_form R
        go_wp2_with fail
        have hBb : Below w.heap.size w wr := hB
        have hwY : IntKind.i64.wrap (Y : Int) = (Y : Int) := IntWalk.i64_in _ (by omega)
        go_region_held3 (fun W => Below w.heap.size w W) (first | exact hBb | exact Below.drew hBb | exact below_alloc hBb _ | exact Below.drew (below_alloc hBb _)) (fail)
        all_goals
          have hneS : (Value.slice A9 j c9).ownBlock ≠ some wr.heap.size := OO.ne_box R
          have FS : BX (wr.alloc (.cells #[.string X, .int .i64 (Y : Int)] 90)).drew wr.heap.size 90 [.string X, .int .i64 (Y : Int)] := BX.made wr 90 [.string X, .int .i64 (Y : Int)]
          have F9 : BX (wr.alloc (.cells #[.string X, .int .i64 (Y : Int)] 90)).drew _ _ _ := BX.drx (F1.al (.cells #[.string X, .int .i64 (Y : Int)] 90))
          have D9 : CP (wr.alloc (.cells #[.string X, .int .i64 (Y : Int)] 90)).drew _ _ := CP.dr (D.al (.cells #[.string X, .int .i64 (Y : Int)] 90))
          have hB9 : BB w (wr.alloc (.cells #[.string X, .int .i64 (Y : Int)] 90)).drew := BB.dr (BB.al hB (.cells #[.string X, .int .i64 (Y : Int)] 90))
          have R9 : OO (wr.alloc (.cells #[.string X, .int .i64 (Y : Int)] 90)).drew _ _ _ _ _ _ := OO.dr (R.al (.cells #[.string X, .int .i64 (Y : Int)] 90))
          clear hBb hB F1 D R f2
          generalize wr.heap.size = GS at FS hneS ⊢
          generalize (wr.alloc (.cells #[.string X, .int .i64 (Y : Int)] 90)).drew = w6 at *
          have s0 : (_ : Option Value) = some (.string X) := FS.cell 0 (by simp)
          have s1 : (_ : Option Value) = some (.int .i64 (Y : Int)) := FS.cell 1 (by simp)
          generalize hsec : secB X (Y : Int) nb = sb at *
          cases sb
          · go_wp2_with (go_at_call 61; refine (hvs _).mono ?_; rintro e w7 ⟨rfl, hx7⟩; replace hB9 : BB w _ := BB.next hB9 hx7)
            go_ret
            exact FAIL.out _ (HT4.out j hlt HSX.out) hB9
          · have hcs : (#[.string X, .int .i64 (Y : Int)] : Array Value).toList = fSector (secAt ZB nb j) := by rw [HSE.out]; rfl
            have HCS := Lib.hid hcs
            clear hcs
            have hsl := secs_len ZB nb j
            have hsn := secs_snoc ZB nb j
            have hj1 := HK1.out
            rw [hj1] at hsn
            have hsl1 : (secs ZB nb j ++ [secAt ZB nb j]).length = j1 := by rw [← hsn, secs_len]
            have HSN := Lib.hid hsn
            have HSL1 := Lib.hid hsl1
            have hbig : (secs ZB nb j).length ≤ 100000000 := by rw [hsl]; omega
            have hwr : w.heap.size + 1 ≤ w6.heap.size := (cell_spot (D9 0 (by simp))).2
            have hglt : g < w.heap.size + 1 := by have := F.lt; omega
            replace R9 : World.ownsRow w6 (w.heap.size + 1) 90 2 (.slice A9 j c9) (secs ZB nb j).length (flat fSector (secs ZB nb j)) := by rw [hsl]; exact R9
            clear hsn hsl1 hsl hj1
            go_wp2_with (first
              | (at_builtin; have := mk1; go_must (refine wpList_appF (f := fSector) rfl _ _ 22 rfl eltSector hby24 _ (secs ZB nb j) rfl R9 _ _ (secAt ZB nb j) _ rfl HCS.out (fSector_len _) (oneSector _) hbig hwr ?_); intro v5 w8 R8 hg8 hat8 hbl8; rw [HSL1.out] at R8; obtain ⟨A5, c5, rfl⟩ := own_form R8; replace F9 := F9.below hbl8 hglt; replace D9 := D9.below hbl8 (Nat.lt_succ_self _); replace hB9 : BB w _ := Below.trans hB9 (hbl8.mono (Nat.le_succ _)))
              | (go_at_call 61; refine (hvs _).mono ?_; rintro e w7 ⟨rfl, hx7⟩; replace hB9 : BB w _ := BB.next hB9 hx7; replace F9 := F9.below hx7 F9.lt; replace D9 := D9.next hx7; replace R9 := own_later R9 hx7 (Nat.le_refl _); replace FS := FS.below hx7 FS.lt; clear s0 s1; have s0 : (_ : Option Value) = some (.string X) := FS.cell 0 (by simp); have s1 : (_ : Option Value) = some (.int .i64 (Y : Int)) := FS.cell 1 (by simp); replace hwr := Nat.le_trans hwr hx7.size; have mk1 := True.intro))
            go_roundw
            case rel => exact ⟨j1, by have := HK1.out; omega, rfl, by rw [HSN.out]; exact R8, F9, D9, hB9, Lib.hid (HKS.out HSX.out)⟩
            case measure => (have := HK1.out; simp [intOf]; omega)
      · obtain rfl : j = P := by omega
        have HR := Lib.hid (HT5.out HK.out)
        obtain ⟨g9, c9, hv⟩ := Go.Joins.ownsRow_form (OOf R) hP0
        cases hv
        have hssl := secs_len ZB nb j
        generalize secs ZB nb j = ss at *
        have hg9 := (World.ownsRow.lt (OOf R) g9 rfl).1
        have hbw := (World.ownsRow.lt ho b rfl).2
        have hbox : w.heap.size ≠ b := by omega
        have hrow : (Value.slice (some ⟨g9, 0, none⟩) j c9).ownBlock ≠ some b := by intro e; simp [Value.ownBlock] at e; omega
        have HSS := Lib.hid hssl
        clear hssl
        go_wp2
        go_loopw [12] (fun i wq => ∃ z : Nat, z ≤ j ∧ i = .int .i64 z ∧ wq.ownsRow base 90 2 (.slice (some ⟨b, 0, none⟩) l.length cp) l.length (flat fSector (putT l (t * j) (ss.take z))) ∧ CP wq w.heap.size [.int .i64 k, .string d] ∧ OO wq (w.heap.size + 1) 90 2 (.slice (some ⟨g9, 0, none⟩) j c9) j (flat fSector ss) ∧ w.grownBy wq (some b)) (fun i _ => j - (intOf i).toNat)
        case atStart => exact ⟨0, Nat.zero_le _, rfl, by rw [List.take_zero, putT_nil]; exact own_later ho hB (Nat.le_refl _), D, R, only_of_below hB _⟩
        case round =>
          clear F1 D R hB f2
          obtain ⟨z, hz, rfl, O, D2, R2, hg⟩ := hrel
          have F2 := F.grown hg (by intro e; cases e; exact hgb rfl)
          have f2 : (_ : Option Value) = some (.int .i64 (j : Int)) := F2.cell 2 (by simp)
          have f4 : (_ : Option Value) = some (.slice (some ⟨b, 0, none⟩) l.length cp) := F2.cell 4 (by simp)
          have d1 : (_ : Option Value) = some (.string d) := D2 1 (by simp)
          have htake : (ss.take z).length = z := by rw [List.length_take, HSS.out]; omega
          have hrs : t * j + j ≤ l.length := by rw [HL.out, ← Nat.succ_mul]; exact Nat.mul_le_mul_right j htlt2
          by_cases hlt : z < j
          · obtain ⟨⟨x, yv⟩, hsx⟩ : ∃ sx, ss[z]'(by rw [HSS.out]; exact hlt) = sx := ⟨_, rfl⟩
            have hzl : z < ss.length := by rw [HSS.out]; exact hlt
            have r0 : wr.cell? ⟨g9, z * 2, none⟩ = some (.string x) := by
              have h1 := World.ownsRow.cellAt (OOf R2) (z * 2) (by omega)
              have h2 := flat_get fSector 2 fSector_len ss z 0 hzl (by omega)
              rw [hsx] at h2
              rw [h1]
              simpa [fSector] using h2
            have r1 : wr.cell? ⟨g9, z * 2 + 1, none⟩ = some (.int .i64 yv) := by
              have h1 := World.ownsRow.cellAt (OOf R2) (z * 2 + 1) (by omega)
              have h2 := flat_get fSector 2 fSector_len ss z 1 hzl (by omega)
              rw [hsx] at h2
              rw [h1]
              simpa [fSector] using h2
            obtain ⟨v, hv⟩ : ∃ v, t * j = v := ⟨_, rfl⟩
            have HV := Lib.hid hv
            obtain ⟨u, hu⟩ : ∃ u, v + z = u := ⟨_, rfl⟩
            have hul : u < l.length := by omega
            have hvl : v ≤ 128 := by omega
            have hw1 : IntKind.i64.wrap ((t : Int) * (j : Int)) = (v : Int) := by rw [← Int.natCast_mul, hv]; exact IntWalk.i64_in _ (by omega)
            have hw2 : IntKind.i64.wrap ((v : Int) + (z : Int)) = (u : Int) := by rw [← Int.natCast_add, hu]; exact IntWalk.i64_in _ (by omega)
            obtain ⟨z1, hz1⟩ : ∃ z1, z + 1 = z1 := ⟨_, rfl⟩
            have hw3 : IntKind.i64.wrap ((z : Int) + 1) = (z1 : Int) := by rw [← hz1]; exact IntWalk.i64_in _ (by omega)
            have hlti : (z : Int) < (j : Int) := by omega
            have huli : (u : Int) < (l.length : Int) := by omega
            have hput := putT_snoc (l := l) (q := v) (ss := ss.take z) (⟨x, yv⟩ : DSector) (by rw [htake, hu]; exact hul)
            have hplen := putT_len (l := l) (q := v) (ss := ss.take z) (by rw [htake]; omega)
            rw [htake, hu, show ss.take z ++ [(⟨x, yv⟩ : DSector)] = ss.take z1 by rw [← hz1, ← hsx]; first | exact List.take_append_getElem hzl | exact (List.take_succ_eq_append_getElem hzl).symm | simp] at hput
            have hset := setS (putT l v (ss.take z)) u (by rw [hplen]; exact hul) ⟨x, yv⟩
            rw [hput] at hset
            rw [hv] at O
            have HPUT := Lib.hid hset
            have HZ1 := Lib.hid hz1
            have ku0 : u * 2 < l.length * 2 := by omega
            have ku1 : u * 2 + 1 < l.length * 2 := by omega
            clear hput hset hplen hu hz1 hsx htake hrs hv
            go_wp2
            refine wp_region_still_tail 19 (by kernel_rfl) (by kernel_rfl) ?_
            simp only [List.take_succ_cons, List.take_zero, List.drop_succ_cons, List.drop_zero]
            repeat still_step
            refine wpStill_nil ?_
            change wpList _ _ _ _ _ wr.drew
            replace D2 : CP wr.drew _ _ := D2
            replace R2 : OO wr.drew _ _ _ _ _ _ := OO.dr R2
            replace O : OO wr.drew _ _ _ _ _ _ := OO.dr O
            replace hg : w.grownBy wr.drew _ := only_drew hg
            clear r0 r1 f2 f4 d1 F2
            generalize wr.drew = w6 at *
            have o1 := (World.ownsRow.stored (OOf O) (u * 2) (.string x)).1
            have o2 := (World.ownsRow.stored o1 (u * 2 + 1) (.int .i64 yv)).1
            obtain ⟨u0, hu0⟩ := own_some (OOf O) (u * 2) ku0
            have hz0 := World.ownsRow.frozenAt (OOf O) (u * 2)
            obtain ⟨u2, hu2⟩ := own_some o1 (u * 2 + 1) ku1
            have hz2 := World.ownsRow.frozenAt o1 (u * 2 + 1)
            have D7 := (D2.put (a := ⟨b, u * 2, none⟩) hbox (.string x)).put (a := ⟨b, u * 2 + 1, none⟩) hbox (.int .i64 yv)
            have R7 := (R2.putne (a := ⟨b, u * 2, none⟩) hrow (.string x)).putne (a := ⟨b, u * 2 + 1, none⟩) hrow (.int .i64 yv)
            have hg7 := only_setCell (only_setCell hg (p := ⟨b, u * 2, none⟩) (.inl rfl) (.string x)) (p := ⟨b, u * 2 + 1, none⟩) (.inl rfl) (.int .i64 yv)
            go_wp2
            go_roundw
            case rel => exact ⟨z1, by have := HZ1.out; omega, rfl, by rw [HV.out, ← HPUT.out]; exact o2, D7, R7, hg7⟩
            case measure => (have := HZ1.out; simp [intOf]; omega)
          · obtain rfl : z = j := by omega
            rw [List.take_of_length_le (by rw [HSS.out]; exact Nat.le_refl _)] at O
            go_wp2
            go_ret
            refine ⟨B, q, by rw [hE.out, HR.out]; rfl, ?_, ?_, ?_, ?_, ?_, (Below.refl base w).grown hg hbs (fun y hy => by cases hy; exact hbb)⟩
            · rw [hNk.out]; exact F2
            · rw [hLk.out, rtL_yes HR.out, HTB.out]; exact O
            · rw [hNk.out]; exact World.ownsRow.kept kr hg (.inr hbB)
            · rw [hNk.out]; exact hgB
            · rw [hNk.out]; exact hbB
end Go.Proofs.Ytjjcedodjoieoaa
