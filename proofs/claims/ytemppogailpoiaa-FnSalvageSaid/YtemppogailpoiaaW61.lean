/- Walks: a new disc (spec). -/
import Derived.Test.YtemppogailpoiaaW60
import Derived.Deep.RegionLaw
namespace Go.Proofs.Ytemppogailpoiaa
open Go.RowKit
set_option linter.unusedVariables false

section
variable {P : Program} {w : World} {base size bytes : Nat} {e : TypeId} {z v : Value} {α : Type} {f : α → List Value}
/-- append of one struct as a step of a region that draws its order. -/
theorem step_appF {ops : Array Oper} {o : Oper} {a : Act} {K : Act → World → Prop} {Q : Exit → Act → World → Prop} {E0 : Prop} (hgd : o.guard = none) (s x : Operand) (t : TypeId)
    (ho : o.op = .call { callee := .builtin .append, args := #[s, x], argTypes := #[t, t] }) (E : Elt P t e size bytes z) (hby : bytes ≤ 1000)
    (v : Value) (l : List α) (n : Nat) (hln : n = l.length) (hsv : a.eval s = v) (hown : w.ownsRow base e size v n (flat f l)) (cs : Array Value) (te : TypeId) (y : α) (c : Nat) (hx : a.eval x = .slice (some ⟨w.heap.size, 0, none⟩) 1 c)
    (hcs : cs.toList = f y) (hlen : (f y).length = size) (h1 : ∀ u ∈ f y, u.oneCell' = true) (hsz : l.length ≤ 100000000) (hbase : base ≤ w.heap.size)
    (h : ∀ v' w', w'.ownsRow base e size v' (n + 1) (flat f (l ++ [y])) → Below base w w' → K (a.put o.dst v') w') :
    if Region.wanted o (yielded ops a.tmps) = true then Oper.wp P o a (w.alloc (.cells cs te)) K Q else E0 := by
  subst hln
  have hw : Region.wanted o (yielded ops a.tmps) = true := by simp [Region.wanted, hgd]
  rw [if_pos hw]
  have hcl : cs.size = size := by rw [← Array.length_toList, hcs, hlen]
  have hbb : (l.length + 1) * bytes ≤ 140737488355328 := by
    have := Nat.mul_le_mul (show l.length + 1 ≤ 100000001 by omega) hby
    omega
  have hsrc : Src P size t (.slice (some ⟨w.heap.size, 0, none⟩) 1 c) 1 (f y) (w.alloc (.cells cs te)) := by
    rw [← hcs]
    refine Src.lit E.ht w cs te 1 c (by omega) ?_
    rw [hcs]
    exact h1
  obtain ⟨v', w', hr, h2, h3, h5⟩ := run_append_src (P := P) (w.alloc (.cells cs te)) base t t o.type e z size bytes E v l.length (flat f l) (World.ownsRow.alloc hown _) _ 1 (f y) hsrc (by unfold maxLen; omega) hbb (by rw [World.size_alloc]; omega)
  unfold Oper.wp execOp
  simp only [ho, resolve, invoke, builtin, Sem.run_bind, Sem.run_pure, Result.andThen_ok, List.map_toArray, List.map_cons, List.map_nil, hsv, hx, hr]
  refine h _ _ ?_ ((Below.refl base w).alloc hbase _ |>.trans (below_of_own (World.ownsRow.alloc hown _) (by rw [World.size_alloc]; omega) h3))
  rw [flat_snoc]
  exact h2
end

/-- Block g is made of these cells. -/
def BX (w : World) (g : Nat) (t : TypeId) (vs : List Value) : Prop := w.heap[g]? = some (.cells vs.toArray t (0, 0))
section
variable {w w' : World} {g : Nat} {t : TypeId} {vs : List Value}
theorem BX.cell (h : BX w g t vs) (j : Nat) (hj : j < vs.length) : w.cell? ⟨g, j, none⟩ = some vs[j] := by
  rw [cell_of_row w g j vs.toArray t (0, 0) h]
  simp
theorem BX.free (h : BX w g t vs) (j : Nat) : w.frozen? ⟨g, j, none⟩ = false := by
  unfold BX at h
  simp [World.frozen?, h]
theorem BX.lt (h : BX w g t vs) : g < w.heap.size := (Array.getElem?_eq_some_iff.1 h).1
theorem BX.below {B : Nat} (h : BX w g t vs) (hb : Below B w w') (hg : g < B) : BX w' g t vs := (hb.block g hg).trans h
theorem BX.put (h : BX w g t vs) (j : Nat) (u : Value) : BX (w.setCell ⟨g, j, none⟩ u) g t (vs.set j u) := by
  unfold BX at h ⊢
  simp [World.setCell, Array.getElem?_modify, h]
theorem BX.far (h : BX w g t vs) {a : Addr} (ha : g ≠ a.block) (u : Value) : BX (w.setCell a u) g t vs := (Below.heap_setCell _ _ _ _ (fun e => ha e)).trans h
theorem BX.al (h : BX w g t vs) (o : Obj) : BX (w.alloc o) g t vs := (Below.heap_alloc w o g h.lt).trans h
theorem BX.made (w : World) (t : TypeId) (vs : List Value) : BX (w.alloc (.cells vs.toArray t)) w.heap.size t vs := heap_alloc_new w _
theorem BX.made1 (w : World) (o : Obj) (t : TypeId) (vs : List Value) : BX ((w.alloc o).alloc (.cells vs.toArray t)) (w.heap.size + 1) t vs := by
  have := BX.made (w.alloc o) t vs
  rwa [World.size_alloc] at this
end

set_option maxRecDepth 100000 in
set_option maxHeartbeats 1000000 in
theorem l12New_any (c h p s : Int) (w : World) (hg : geoB c h p s = true) :
    Calls Try.prog 86 #[.int .i64 c, .int .i64 h, .int .i64 p, .int .i64 s] w fun e w' => ∃ v, e = .returned (.agg #[.int .i64 c, .int .i64 h, .int .i64 p, .int .i64 s, v]) ∧ w'.ownsRow w.heap.size 46 2 v (newS c h p s).length (flat fSector (newS c h p s)) ∧ Below w.heap.size w w' := by
  obtain ⟨c1, c2, h1, h2, p1, p2, s1, s2⟩ := geoB_yes hg
  obtain ⟨m1, m2⟩ := prod2 c1 c2 h1 h2
  obtain ⟨q1, q2⟩ := prod3 m1 m2 p1 p2
  obtain ⟨nb, z1, z2, z3, z4⟩ := szB_nat s1 s2
  obtain ⟨n, hn⟩ : ∃ n : Nat, secN c h p = n := ⟨_, rfl⟩
  have hn2 : c * h * p = (n : Int) := by unfold secN at hn; omega
  have hn3 : n ≤ 128 := by omega
  have hnS : newS c h p s = List.replicate n (miss nb) := by unfold newS; rw [hn, z4]
  rw [hnS]
  have hsz := fun W => l12Bytes_any s s1 s2 W
  rw [z1] at hsz
  have hw1 : wrap64 (c * h) = c * h := IntWalk.wrap64_in _ ⟨by omega, by omega⟩
  have HN := Lib.hid hn2
  clear hn hn2 hnS z1 z4 hg
  go_enter Try.func86, Try.ntmps86
  go_wp2
  have G0 := (BX.made w 26 [.int .i64 0, .int .i64 0, .int .i64 0, .int .i64 0, .slice none 0 0]).al (.cells #[.int .i64 c, .int .i64 h, .int .i64 p, .int .i64 s, .slice none 0 0] 26)
  have G1 := BX.made1 w (.cells #[.int .i64 0, .int .i64 0, .int .i64 0, .int .i64 0, .slice none 0 0] 26) 26 [.int .i64 c, .int .i64 h, .int .i64 p, .int .i64 s, .slice none 0 0]
  go_loopw [10] (fun i wr => ∃ (k : Nat) (v : Value), k ≤ n ∧ i = .int .i64 k ∧ BX wr w.heap.size 26 [.int .i64 0, .int .i64 0, .int .i64 0, .int .i64 0, .slice none 0 0] ∧ BX wr (w.heap.size + 1) 26 [.int .i64 c, .int .i64 h, .int .i64 p, .int .i64 s, v] ∧ wr.ownsRow (w.heap.size + 2) 46 2 v (n - k) (flat fSector (List.replicate (n - k) (miss nb))) ∧ w.heap.size + 2 ≤ wr.heap.size ∧ Below w.heap.size w wr) (fun i _ => (intOf i).toNat)
  case atStart => exact ⟨n, _, Nat.le_refl _, by rw [HN.out], G0, G1, by rw [Nat.sub_self]; exact World.ownsRow_nil _ _ _ _, by simp, (by with_reducible repeat (first | exact Below.refl _ _ | assumption | refine below_step ?_ (by assumption) | refine Below.drew ?_ | refine below_drewN ?_ _ | refine below_alloc ?_ _ | refine Below.setCell ?_ (by simp; try omega) _))⟩
  case round =>
    obtain ⟨k, v, hk, rfl, B0, B1, hown, hsz2, hb⟩ := hrel
    obtain ⟨A, cp, rfl⟩ := own_form hown
    have d4 : (_ : Option Value) = some (.slice A (n - k) cp) := B1.cell 4 (by simp)
    by_cases hlt : 0 < k
    · go_wp2_with fail
      go_region_law (first
        | (refine step_appF (f := fSector) rfl (.tmp 26) (.tmp 31) 24 rfl eltSector (by omega) _ (List.replicate (n - k) (miss nb)) (n - k) (by simp) rfl hown _ _ (miss nb) _ rfl rfl rfl (by intro u hu; simp only [fSector, miss, List.mem_cons, List.not_mem_nil, or_false] at hu; rcases hu with rfl | rfl <;> rfl) (by simp; omega) hsz2 ?_; intro v' w4 hown' hx4; replace B0 := B0.below hx4 (by omega); replace B1 := B1.below hx4 (by omega); have hsz4 := Nat.le_trans hsz2 hx4.size; replace hb := hb.trans (hx4.mono (by omega)); obtain ⟨A', cp', rfl⟩ := own_form hown'; have d4' : (_ : Option Value) = some (.slice A (n - k) cp) := B1.cell 4 (by simp); have hz4 := B1.free 4)
        | (go_simp; first
          | (go_at_call 73; refine (hsz _).mono ?_; rintro e w1 ⟨rfl, rfl⟩)
          | (go_at_call 72; refine (l01Zeros_any nb _ (by omega)).mono ?_; rintro e w1 ⟨rfl, hx⟩; replace B0 := B0.below ((Below.drew (Below.refl _ _)).trans hx) (by first | exact B0.lt | (have := B0.lt; simpa using this)); replace B1 := B1.below ((Below.drew (Below.refl _ _)).trans hx) (by first | exact B1.lt | (have := B1.lt; simpa using this)); replace hown : World.ownsRow w1 _ _ _ _ _ _ := own_later (OO.dr hown) hx (Nat.le_refl _); replace hsz2 := Nat.le_trans hsz2 hx.size; replace hb := below_step (Below.drew hb) hx; have d4' : (_ : Option Value) = some (.slice A (n - k) cp) := B1.cell 4 (by simp); have B2 := fun o : Obj => B1.al o; have d5 : ∀ o : Obj, (_ : Option Value) = some (.slice A (n - k) cp) := fun o => (B2 o).cell 4 (by simp))))
      all_goals
        go_wp2
        go_roundw
        case rel => exact ⟨k - 1, .slice A' (n - k + 1) cp', by omega, congrArg (Value.int .i64) (by omega), B0.far (show w.heap.size ≠ w.heap.size + 1 by omega) _, B1.put 4 _, (by rw [show n - (k - 1) = n - k + 1 by omega, List.replicate_succ']; exact ownsRow_setCell_below hown' (show w.heap.size + 1 < w.heap.size + 2 by omega) _), by simpa using hsz4, Below.setCell hb (show w.heap.size ≤ w.heap.size + 1 by omega) _⟩
        case measure => (simp [intOf] <;> omega)
    · obtain rfl : k = 0 := by omega
      rw [Nat.sub_zero] at hown d4
      have d0 : (_ : Option Value) = some (.int .i64 c) := B1.cell 0 (by simp)
      have d1 : (_ : Option Value) = some (.int .i64 h) := B1.cell 1 (by simp)
      have d2 : (_ : Option Value) = some (.int .i64 p) := B1.cell 2 (by simp)
      have d3 : (_ : Option Value) = some (.int .i64 s) := B1.cell 3 (by simp)
      have y0 : (_ : Option Value) = some (.int .i64 0) := B0.cell 0 (by simp)
      have y1 : (_ : Option Value) = some (.int .i64 0) := B0.cell 1 (by simp)
      have y2 : (_ : Option Value) = some (.int .i64 0) := B0.cell 2 (by simp)
      have y3 : (_ : Option Value) = some (.int .i64 0) := B0.cell 3 (by simp)
      have y4 : (_ : Option Value) = some (.slice none 0 0) := B0.cell 4 (by simp)
      have hfz := fun j => B0.free j
      go_wp2
      refine bodyPost_ret (v := .agg #[.int .i64 c, .int .i64 h, .int .i64 p, .int .i64 s, .slice A n cp]) (by simp [results, Try.results86, go_sem, World.cell?_setCell_other, y0, y1, y2, y3, y4]) rfl ⟨_, rfl, ?_, ?_⟩
      · refine own_base (base := w.heap.size + 2) ?_ (by omega)
        rw [List.length_replicate]
        exact ownsRow_setCell_below (ownsRow_setCell_below (ownsRow_setCell_below (ownsRow_setCell_below (ownsRow_setCell_below hown (by simp) _) (by simp) _) (by simp) _) (by simp) _) (by simp) _
      · exact (by with_reducible repeat (first | exact Below.refl _ _ | assumption | refine below_step ?_ (by assumption) | refine Below.drew ?_ | refine below_drewN ?_ _ | refine below_alloc ?_ _ | refine Below.setCell ?_ (by simp; try omega) _))
end Go.Proofs.Ytemppogailpoiaa
