/- Walks: l16Open. -/
import Derived.Test.YtbobehieaaaleaaGreatDoorW97
import Derived.Test.YtbobehieaaaleaaGreatDoorMem3
import Derived.Test.YtbobehieaaaleaaGreatDoorPut
import Derived.Deep.RegionLaw
import Derived.Deep.QuietTactic
namespace Go.Proofs.YtbobehieaaaleaaGreatDoor
open Go.RowKit
set_option linter.unusedVariables false

section
variable {P : Program} {w : World} {base : Nat} {e : TypeId} {v : Value} {l : List UInt8}
theorem step_appS {ops : Array Oper} {o : Oper} {a : Act} {K : Act → World → Prop} {Q : Exit → Act → World → Prop} {E0 : Prop} (hgd : o.guard = none) (s x : Operand) (t tx : TypeId)
    (ho : o.op = .call { callee := .builtin .append, args := #[s, x], argTypes := #[t, tx] }) (E : Elt P t e 1 1 (.int .u8 0)) (htx : P.underlying tx = some .string)
    (v : Value) (l : List UInt8) (hsv : a.eval s = v) (hown : OwnB w base e v l) (str : ByteArray) (hx : a.eval x = .string str)
    (hsz : l.length + str.size ≤ 1000000000) (hbase : base ≤ w.heap.size)
    (h : ∀ v' w', OwnB w' base e v' (l ++ str.data.toList) → Below base w w' → K (a.put o.dst v') w') :
    if Region.wanted o (yielded ops a.tmps) = true then Oper.wp P o a w K Q else E0 := by
  have hw : Region.wanted o (yielded ops a.tmps) = true := by simp [Region.wanted, hgd]
  rw [if_pos hw]
  obtain ⟨v', w', hr, h2, h3, h5⟩ := run_append_src (P := P) w base t tx o.type e (.int .u8 0) 1 1 E v l.length (bcells l) hown (.string str) str.size (byteCells str) (Src.ofString w htx str) (by unfold maxLen; omega) (by omega) hbase
  unfold Oper.wp execOp
  simp only [ho, resolve, invoke, builtin, Sem.run_bind, Sem.run_pure, Result.andThen_ok, List.map_toArray, List.map_cons, List.map_nil, hsv, hx, hr]
  refine h _ _ ?_ (below_of_grown hown hbase h3)
  have hl : (l ++ str.data.toList).length = l.length + str.size := by rw [List.length_append, Array.length_toList]; rfl
  unfold OwnB
  rw [hl, bcells_append, ← byteCells_eq]
  exact h2
end
theorem blk_5 {l : List ByteArray} {s : Nat} (hs : s0 l = s) (h : (inB (l.length : Int) 8 128 && oneOf s) = false) : blkB l = false := by
  rw [blkB, hs, h, Bool.false_and]
theorem blk_6 {l : List ByteArray} {s : Nat} (hs : s0 l = s) (h : (inB (l.length : Int) 8 128 && oneOf s) = true) (h3 : ∀ k, (hk : k < l.length) → l[k].size = s) : blkB l = true := by
  have h' := h
  rw [Bool.and_eq_true] at h'
  rw [blk_4 h'.1 (fun j hj => by rw [hs]; exact h3 j hj), hs]
  exact h'.2
set_option maxRecDepth 100000 in
set_option maxHeartbeats 2000000 in
theorem l16Open_any (A : Option Addr) (cp : Nat) (l : List ByteArray) (w : World) (h : Rd w w.heap.size 1 A l.length (flat fS l)) (hn : l.length ≤ 1048576) :
    Calls Tryz.prog 11 #[.slice A l.length cp] w fun e w' => ∃ pv, e = .returned (.tuple #[pv, .int .i64 (chC l)]) ∧ Below w.heap.size w w' ∧ (chC l = 0 → ∃ (g : Nat) (a : Option Addr) (c : Nat), pv = .pointer (some ⟨g, 0, none⟩) ∧ CP w' g [.int .i64 (l.length : Int), .int .i64 (s0 l : Int), .int .i64 (chE l.length : Int), .int .i64 (chD l.length (s0 l) : Int), .int .i64 (chX l.length (s0 l) : Int), .slice a (jn l).length c] ∧ Rd w' w'.heap.size 1 a (jn l).length (bcells (jn l))) ∧ (chC l ≠ 0 → pv = .pointer none) := by
  by_cases h0 : l.length = 0
  · have HR := Lib.hid (chC_1 (l := l) (blk_1 (by rw [h0]; rfl)))
    have q0 : ((l.length : Int) == 0) = true := by rw [h0]; rfl
    clear h0
    go_enter Tryz.func11, Tryz.ntmps11
    go_wp2
    (try simp only [Exit.inBlock, Exit.then]); refine bodyPost_ret (results_tmp2 rfl _ _ _) rfl ?_
    exact ⟨.pointer none, by rw [HR.out]; rfl, (by with_reducible repeat (first | exact Below.refl _ _ | assumption | refine below_step ?_ (by assumption) | refine Below.drew ?_ | refine below_drewN ?_ _ | refine below_alloc ?_ _ | refine Below.setCell ?_ (by simp; try omega) _)), fun e => absurd (HR.out.symm.trans e) (by decide), fun _ => rfl⟩
  have hpos : 0 < l.length := by omega
  have hposi : (0 : Int) < (l.length : Int) := by omega
  have q0 : ((l.length : Int) == 0) = false := beq_false_of_ne (by omega)
  obtain ⟨b, off, rfl, hbb, hc⟩ := h.at_ fS_len rfl 0 hpos
  have hc0 := hc 0 _ (by omega) rfl
  clear hc
  simp only [Nat.zero_mul, Nat.add_zero] at hc0
  obtain ⟨b0, hb0⟩ : ∃ x, l[0] = x := ⟨_, rfl⟩
  have hs0 : s0 l = b0.size := by rw [s0_eq hpos, hb0]
  have hhd : l.headD ⟨#[]⟩ = b0 := by rw [head_eq hpos, hb0]
  have hjh := fun k => jn_head l hpos k
  rw [hb0] at hc0 hjh
  rw [hs0]
  clear h0
  have F := BX.made w 36 [.int .i64 0, .int .i64 0, .int .i64 0, .int .i64 0, .int .i64 0, .slice none 0 0]
  have hB : BB w (w.alloc (.cells #[.int .i64 0, .int .i64 0, .int .i64 0, .int .i64 0, .int .i64 0, .slice none 0 0] 36)) := (show Below w.heap.size w (w.alloc (.cells #[.int .i64 0, .int .i64 0, .int .i64 0, .int .i64 0, .int .i64 0, .slice none 0 0] 36)) from (by with_reducible repeat (first | exact Below.refl _ _ | assumption | refine below_step ?_ (by assumption) | refine Below.drew ?_ | refine below_drewN ?_ _ | refine below_alloc ?_ _ | refine Below.setCell ?_ (by simp; try omega) _)))
  have ho0 : OwnB (w.alloc (.cells #[.int .i64 0, .int .i64 0, .int .i64 0, .int .i64 0, .int .i64 0, .slice none 0 0] 36)) (w.heap.size + 1) 5 (.slice none 0 0) [] := OwnB.nil _ _ _
  have c0 := (hB.cell (p := ⟨b, off, none⟩) hbb).trans hc0
  have hsh := fun W => l16Shape_any l.length b0.size W
  cases hS : (inB (l.length : Int) 8 128 && oneOf b0.size)
  · have HR := Lib.hid (chC_1 (blk_5 hs0 hS))
    rw [hS] at hsh
    clear hS
    go_enter Tryz.func11, Tryz.ntmps11
    go_wp2_with (go_at_call 18; refine (hsh _).mono ?_; rintro e w2 ⟨rfl, hx2⟩)
    (try simp only [Exit.inBlock, Exit.then]); refine bodyPost_ret (results_tmp2 rfl _ _ _) rfl ?_
    have hBw : Below w.heap.size w w2 := BB.next hB hx2
    exact ⟨.pointer none, by rw [HR.out]; rfl, hBw, fun e => absurd (HR.out.symm.trans e) (by decide), fun _ => rfl⟩
  rw [hS] at hsh
  have hS2 := hS
  rw [Bool.and_eq_true] at hS2
  obtain ⟨n8, n128⟩ := inB_yes hS2.1
  have s3 := oneOf_yes hS2.2
  clear hS2
  have h6 : 6 ≤ b0.size := by omega
  have h32 : b0.size ≤ 32 := by omega
  have hn128 : l.length ≤ 128 := by omega
  clear s3 n8 n128
  have HS := Lib.hid hS
  clear hS
  have HDB := Lib.hid (hdB_eq hhd hs0)
  have hlay := fun W => l16Sizes_any l.length b0.size W hn128 (by omega) h32
  have hhead := fun (d x : Int) W => l16Head_any l.length b0.size d x W hn128
  obtain ⟨H, hH⟩ : ∃ H, hdS l.length b0.size = H := ⟨_, rfl⟩
  obtain ⟨S6, hS6⟩ : ∃ S, hd6 l.length = S := ⟨_, rfl⟩
  have hHs : H.size = b0.size := by rw [← hH]; exact hdS_size _ _ h6
  have h6s : S6.size = 6 := by rw [← hS6]; exact hd6_size _
  have hlo : ∀ (k : Nat) (hk : k < S6.size) (h : k < H.size), H[k] = S6[k] := by
    subst hH hS6
    exact fun k hk h => hdS_lo _ _ k h6 (by rwa [hd6_size] at hk) h
  have hhi : ∀ (k : Nat) (hk : ¬ k < S6.size) (h : k < H.size), H[k] = 0 := by
    subst hH hS6
    exact fun k hk h => hdS_hi _ _ k (by rwa [hd6_size] at hk) h
  rw [hH] at HDB
  rw [hS6] at hhead
  have HHS := Lib.hid hHs
  have H6S := Lib.hid h6s
  clear hH hS6 hHs h6s
  generalize chE l.length = E at *
  generalize chD l.length b0.size = D at *
  generalize chX l.length b0.size = X at *
  go_enter Tryz.func11, Tryz.ntmps11
  go_wp2_with (go_at_call 18; refine (hsh _).mono ?_; rintro e w2 ⟨rfl, hx2⟩; replace F := F.below hx2 F.lt; replace hB : BB w _ := BB.next hB hx2; replace ho0 := ho0.later hx2 (Nat.le_refl _))
  clear c0 hsh
  go_loopw [5] (fun i wr => ∃ (k : Nat) (v : Value), k ≤ l.length ∧ i = .int .i64 k ∧ BX wr w.heap.size 36 [.int .i64 0, .int .i64 0, .int .i64 0, .int .i64 0, .int .i64 0, v] ∧ OwnB wr (w.heap.size + 1) 5 v (jn (l.take k)) ∧ (jn (l.take k)).length ≤ 32 * k ∧ Hid (∀ j, (hj : j < k) → (hj' : j < l.length) → l[j].size = b0.size) ∧ BB w wr) (fun i _ => l.length - (intOf i).toNat)
  case atStart => exact ⟨0, _, Nat.zero_le _, rfl, F, ho0, by simp [jn], Lib.hid (fun j hj => absurd hj (by omega)), hB⟩
  case round =>
    clear F hB ho0
    obtain ⟨k, v, hk, rfl, F, ho, hlen, HI, hB⟩ := hrel
    by_cases hlt : k < l.length
    · have hlti : (k : Int) < (l.length : Int) := by omega
      obtain ⟨b', off', hbo, hbb', hc⟩ := h.at_ fS_len rfl k hlt
      cases hbo
      have hck := hc 0 _ (by omega) rfl
      clear hc
      simp only [Nat.mul_one, Nat.add_zero] at hck
      obtain ⟨bk, hbk⟩ : ∃ x, l[k] = x := ⟨_, rfl⟩
      rw [hbk] at hck
      have ck := (hB.cell (p := ⟨b, off + k, none⟩) hbb).trans hck
      have c0 := (hB.cell (p := ⟨b, off, none⟩) hbb).trans hc0
      by_cases hx : bk.size = b0.size
      rotate_left
      · have HR := Lib.hid (chC_1 (blk_3 hlt (by rw [hs0, hbk]; exact hx)))
        have hxb : ((bk.size : Int) != (b0.size : Int)) = true := by simp; omega
        clear hbk hx
        go_wp2_with fail
        go_quiet (fail)
        have hBw : Below w.heap.size w (wr.drewN nq) := below_drewN hB nq
        go_wp2
        (try simp only [Exit.inBlock, Exit.then]); refine bodyPost_ret (results_tmp2 rfl _ _ _) rfl ?_
        exact ⟨.pointer none, by rw [HR.out]; rfl, hBw, fun e => absurd (HR.out.symm.trans e) (by decide), fun _ => rfl⟩
      have hxb : ((bk.size : Int) != (b0.size : Int)) = false := by simp; omega
      have HN := Lib.hid (show ∀ j, (hj : j < k + 1) → (hj' : j < l.length) → l[j].size = b0.size from fun j hj hj' => by
        by_cases he : j = k
        · subst he
          rw [hbk, hx]
        · exact HI.out j (by omega) hj')
      have hsn := jn_snoc l k hlt
      rw [hbk] at hsn
      have hlb : (jn (l.take k)).length + bk.size ≤ 32 * (k + 1) := by omega
      have HLB := Lib.hid (show (jn (l.take (k + 1))).length ≤ 32 * (k + 1) by rw [hsn, List.length_append, Array.length_toList]; exact hlb)
      have HSN := Lib.hid hsn
      have hlb2 : (jn (l.take k)).length + bk.size ≤ 1000000000 := by omega
      clear hbk hx hsn hlb hlen
      go_wp2_with fail
      go_quiet (fail)
      replace F := BX.dn F nq
      replace ho := OwnB.drewN ho nq
      replace hB : BB w _ := below_drewN hB nq
      clear ck c0
      generalize wr.drewN nq = w4 at F ho hB ⊢
      generalize jn (l.take k) = out at ho hlb2 HSN
      have ck := (hB.cell (p := ⟨b, off + k, none⟩) hbb).trans hck
      replace ck : w4.drew.cell? ⟨b, off + k, none⟩ = _ := ck
      replace F := BX.dr F
      replace hB : BB w _ := BB.dr hB
      replace ho : OwnB w4.drew _ _ _ _ := OwnB.drewN ho 1
      have f5 : (_ : Option Value) = some v := F.cell 5 (by simp)
      have hbs : w.heap.size + 1 ≤ w4.drew.heap.size := F.lt
      have HLL := Lib.hid (show out.length + bk.size = (out ++ bk.data.toList).length by rw [List.length_append, Array.length_toList]; rfl)
      go_wp2_with fail
      go_region_law (refine step_appS rfl (.tmp 44) (.tmp 48) 34 9 rfl eltB Tryz.underlying9 _ out (by rfl) ho bk (by rfl) hlb2 hbs ?_; intro v5 w5 ho5 hbl5; obtain ⟨A5, c5, rfl⟩ := OwnB.form ho5; replace ho5 : OwnB w5 (w.heap.size + 1) 5 (.slice A5 (out.length + bk.size) c5) (out ++ bk.data.toList) := (by rw [HLL.out]; exact ho5); clear f5 ck; replace F := F.below hbl5 (by omega); replace hB : BB w _ := Below.trans hB (hbl5.mono (by omega)); have f5 : (_ : Option Value) = some v := F.cell 5 (by simp); have hfz := fun j => F.free j)
      all_goals
        go_wp2
        go_roundw
        case rel => exact ⟨k + 1, _, by omega, by go_num, F.put 5 _, by rw [HSN.out]; exact OO.put (a := ⟨w.heap.size, 5, none⟩) (show OO _ _ _ _ _ _ _ from ho5) (show w.heap.size < w.heap.size + 1 by omega) _, HLB.out, HN, BB.put hB (Nat.le_refl _) _⟩
        case measure => (simp [intOf] <;> omega)
    obtain rfl : k = l.length := by omega
    rw [List.take_length] at ho hlen
    have hbk := blk_6 hs0 HS.out (fun j hj => HI.out j hj hj)
    obtain ⟨A9, c9, rfl⟩ := ho.form
    have hjl : b0.size ≤ (jn l).length := by
      rw [jn_len l b0.size (fun x hx => by
        obtain ⟨j, hj, rfl⟩ := List.getElem_of_mem hx
        exact HI.out j hj hj)]
      exact Nat.le_mul_of_pos_left _ hpos
    have HBK := Lib.hid hbk
    clear hbk hlt
    have c0 := (hB.cell (p := ⟨b, off, none⟩) hbb).trans hc0
    have hlq : ¬ (l.length : Int) < (l.length : Int) := by omega
    go_upto_region 11 with (go_at_call 19; refine (hlay _).mono ?_; rintro e w6 ⟨rfl, hx6⟩; replace F := F.below hx6 F.lt; replace hB : BB w _ := BB.next hB hx6; replace ho := ho.later hx6 (Nat.le_refl _); have z_0 : (_ : Option Value) = some (.int .i64 0) := F.cell 0 (by simp); have z_1 : (_ : Option Value) = some (.int .i64 0) := F.cell 1 (by simp); have z_2 : (_ : Option Value) = some (.int .i64 0) := F.cell 2 (by simp); have z_3 : (_ : Option Value) = some (.int .i64 0) := F.cell 3 (by simp); have z_4 : (_ : Option Value) = some (.int .i64 0) := F.cell 4 (by simp); have z_5 : (_ : Option Value) = some (.slice A9 (jn l).length c9) := F.cell 5 (by simp); have hfz := fun j => F.free j; have P := (((((F.put 0 (.int .i64 (l.length : Int))).put 1 (.int .i64 (b0.size : Int))).put 2 (.int .i64 (E : Int))).put 3 (.int .i64 (D : Int))).put 4 (.int .i64 (X : Int))); have hoq := (OO.put (a := ⟨w.heap.size, 4, none⟩) (OO.put (a := ⟨w.heap.size, 3, none⟩) (OO.put (a := ⟨w.heap.size, 2, none⟩) (OO.put (a := ⟨w.heap.size, 1, none⟩) (OO.put (a := ⟨w.heap.size, 0, none⟩) (show OO _ _ _ _ _ _ _ from ho) (show w.heap.size < w.heap.size + 1 by omega) (.int .i64 (l.length : Int))) (show w.heap.size < w.heap.size + 1 by omega) (.int .i64 (b0.size : Int))) (show w.heap.size < w.heap.size + 1 by omega) (.int .i64 (E : Int))) (show w.heap.size < w.heap.size + 1 by omega) (.int .i64 (D : Int))) (show w.heap.size < w.heap.size + 1 by omega) (.int .i64 (X : Int))); have hBq := (BB.put (a := ⟨w.heap.size, 4, none⟩) (BB.put (a := ⟨w.heap.size, 3, none⟩) (BB.put (a := ⟨w.heap.size, 2, none⟩) (BB.put (a := ⟨w.heap.size, 1, none⟩) (BB.put (a := ⟨w.heap.size, 0, none⟩) hB (Nat.le_refl _) (.int .i64 (l.length : Int))) (Nat.le_refl _) (.int .i64 (b0.size : Int))) (Nat.le_refl _) (.int .i64 (E : Int))) (Nat.le_refl _) (.int .i64 (D : Int))) (Nat.le_refl _) (.int .i64 (X : Int))); have mk1 := True.intro)
    clear F hB ho hfz mk1 hx6 c0 z_0 z_1 z_2 z_3 z_4 z_5
    generalize (((((w6.setCell ⟨w.heap.size, 0, none⟩ (.int .i64 (l.length : Int))).setCell ⟨w.heap.size, 1, none⟩ (.int .i64 (b0.size : Int))).setCell ⟨w.heap.size, 2, none⟩ (.int .i64 (E : Int))).setCell ⟨w.heap.size, 3, none⟩ (.int .i64 (D : Int))).setCell ⟨w.heap.size, 4, none⟩ (.int .i64 (X : Int))) = w6' at *
    have q_0 : (_ : Option Value) = some (.int .i64 (l.length : Int)) := P.cell 0 (by simp)
    have q_1 : (_ : Option Value) = some (.int .i64 (b0.size : Int)) := P.cell 1 (by simp)
    have q_2 : (_ : Option Value) = some (.int .i64 (E : Int)) := P.cell 2 (by simp)
    have q_3 : (_ : Option Value) = some (.int .i64 (D : Int)) := P.cell 3 (by simp)
    have q_4 : (_ : Option Value) = some (.int .i64 (X : Int)) := P.cell 4 (by simp)
    have q_5 : (_ : Option Value) = some (.slice A9 (jn l).length c9) := P.cell 5 (by simp)
    have mk1 := True.intro
    go_wp2_with (go_at_call 20; have := mk1; refine (hhead _ _ _).mono ?_; rintro e w7 ⟨rfl, hx7⟩; replace P := P.below hx7 P.lt; replace hBq : BB w _ := BB.next hBq hx7; replace hoq : OwnB w7 _ _ _ _ := OwnB.later hoq hx7 (Nat.le_refl _))
    clear hhead hlay mk1 q_0 q_1 q_2 q_3 q_4 q_5
    go_loop [7, 8] (fun i _ => ∃ k : Nat, k ≤ b0.size ∧ i = .int .i64 k ∧ Hid (eqF b0 H k = hdB l)) (fun i _ => b0.size - (intOf i).toNat)
    case atStart => exact ⟨0, Nat.zero_le _, rfl, Lib.hid (by rw [eqF_0, HDB.out])⟩
    case round =>
      obtain ⟨k, hk, rfl, HE⟩ := hrel
      have p1 : (_ : Option Value) = some (.int .i64 (b0.size : Int)) := P.cell 1 (by simp)
      have p5 : (_ : Option Value) = some (.slice A9 (jn l).length c9) := P.cell 5 (by simp)
      by_cases hlt : k < b0.size
      · have hlti : (k : Int) < (b0.size : Int) := by omega
        have hltH : k < H.size := by have := HHS.out; omega
        have hkj : k < (jn l).length := by omega
        have hkji : (k : Int) < ((jn l).length : Int) := by omega
        obtain ⟨g9, cap9, hv9, hbg, hg9, hc9⟩ := OwnB.at_ hoq k hkj
        cases hv9
        have hgk : (jn l)[k] = b0[k] := by
          have h1 := hjh k hlt
          rw [List.getElem?_eq_getElem hkj] at h1
          injection h1
        rw [hgk] at hc9
        have HH := Lib.hid hgk
        clear hgk
        by_cases hk6 : k < S6.size
        · have hk6i : (k : Int) < (S6.size : Int) := by omega
          have e1 := hlo k hk6 hltH
          by_cases hx : b0[k] = S6[k]
          · have HN := Lib.hid (eqF_step hlt hltH HE.out (by rw [e1]; exact hx))
            have hxb : ((b0[k].toNat : Int) != (S6[k].toNat : Int)) = false := by rw [hx]; simp
            clear hx e1
            go_wp2
            go_round
            case rel => exact ⟨k + 1, by omega, by go_num, HN⟩
            case measure => simp [intOf]; omega
          · have HR := Lib.hid (chC_2 HBK.out (eqF_no hlt hltH HE.out (by rw [e1]; exact hx)))
            have hxb : ((b0[k].toNat : Int) != (S6[k].toNat : Int)) = true := by
              rw [bne_iff_ne]
              intro e
              exact hx (UInt8.toNat_inj.1 (by omega))
            clear hx e1
            have hBw : Below w.heap.size w w7 := hBq
            go_wp2
            (try simp only [Exit.inBlock, Exit.then]); refine bodyPost_ret (results_tmp2 rfl _ _ _) rfl ?_
            exact ⟨.pointer none, by rw [HR.out]; rfl, hBw, fun e => absurd (HR.out.symm.trans e) (by decide), fun _ => rfl⟩
        · have hk6i : ¬ (k : Int) < (S6.size : Int) := by omega
          have e1 := hhi k hk6 hltH
          by_cases hx : b0[k] = 0
          · have HN := Lib.hid (eqF_step hlt hltH HE.out (by rw [e1]; exact hx))
            have hxb : ((b0[k].toNat : Int) != 0) = false := by rw [hx]; simp
            clear hx e1
            go_wp2
            go_round
            case rel => exact ⟨k + 1, by omega, by go_num, HN⟩
            case measure => simp [intOf]; omega
          · have HR := Lib.hid (chC_2 HBK.out (eqF_no hlt hltH HE.out (by rw [e1]; exact hx)))
            have hxb : ((b0[k].toNat : Int) != 0) = true := by
              rw [bne_iff_ne]
              intro e
              exact hx (UInt8.toNat_inj.1 (by simpa using e))
            clear hx e1
            have hBw : Below w.heap.size w w7 := hBq
            go_wp2
            (try simp only [Exit.inBlock, Exit.then]); refine bodyPost_ret (results_tmp2 rfl _ _ _) rfl ?_
            exact ⟨.pointer none, by rw [HR.out]; rfl, hBw, fun e => absurd (HR.out.symm.trans e) (by decide), fun _ => rfl⟩
      · have hlti : ¬ (k : Int) < (b0.size : Int) := by omega
        have HR := Lib.hid (chC_3 HBK.out (eqF_end hlt (by have := HHS.out; omega) HE.out))
        have hBw : Below w.heap.size w w7 := hBq
        go_wp2
        (try simp only [Exit.inBlock, Exit.then]); refine bodyPost_ret (results_tmp2 rfl _ _ _) rfl ?_
        refine ⟨_, by rw [HR.out]; rfl, hBw, fun _ => ?_, fun e => absurd HR.out e⟩
        first
          | exact ⟨w.heap.size, A9, c9, rfl, P.cp, Rd.of_own hoq⟩
          | exact ⟨w.heap.size, rfl, A9, ⟨c9, P.cp⟩, Rd.of_own hoq⟩
end Go.Proofs.YtbobehieaaaleaaGreatDoor
