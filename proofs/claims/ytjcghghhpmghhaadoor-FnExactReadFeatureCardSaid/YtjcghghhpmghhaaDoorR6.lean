/- Walks: ReadFeature (spec). -/
import Derived.Test.YtjcghghhpmghhaaDoorR5
import Derived.Deep.CutBlock
namespace Go.Proofs.YtjcghghhpmghhaaDoor
open Go.RowKit Go.Lib
set_option linter.unusedVariables false
set_option linter.unusedSimpArgs false

theorem mkR_tl (a : List UInt8) : (mkR a).toList = a := by rw [ByteArray.toList_eq]; rfl
theorem bl_mk (t : ByteArray) : t = mkR t.data.toList := rfl
theorem mkR_eq (a b : List UInt8) : ((mkR a).toList == (mkR b).toList) = decide (a = b) := by
  rw [mkR_tl, mkR_tl, Bool.eq_iff_iff]
  simp
theorem BX.dnR {w : World} {g : Nat} {t : TypeId} {xs : List Value} (h : BX w g t xs) (n : Nat) : BX (w.drewN n) g t xs := h
theorem BB.putR {w W : World} (h : BB w W) {a : Addr} (ha : w.heap.size ≤ a.block) (u : Value) : BB w (W.setCell a u) := Below.setCell h ha u
theorem bb3 {w W : World} {g : Nat} (hg : w.heap.size = g) (h : BB w W) (u0 u1 u2 : Value) : BB w (((W.setCell ⟨g, 0, none⟩ u0).setCell ⟨g, 1, none⟩ u1).setCell ⟨g, 2, none⟩ u2) := by
  subst hg
  exact BB.putR (BB.putR (BB.putR h (a := ⟨w.heap.size, 0, none⟩) (Nat.le_refl _) _) (a := ⟨w.heap.size, 1, none⟩) (Nat.le_refl _) _) (a := ⟨w.heap.size, 2, none⟩) (Nat.le_refl _) _
theorem spl_len : ∀ (l : List UInt8), ∀ x ∈ splL l, x.length ≤ l.length
  | [], x, hx => by
    simp [splL] at hx
    subst hx
    exact Nat.le_refl _
  | b :: r, x, hx => by
    unfold splL at hx
    split at hx
    · rcases List.mem_cons.1 hx with rfl | hx
      · exact Nat.zero_le _
      · have := spl_len r x hx
        rw [List.length_cons]
        omega
    · split at hx
      · rw [List.mem_singleton] at hx
        subst hx
        rw [List.length_cons, List.length_cons]
        exact Nat.succ_le_succ (Nat.zero_le _)
      · rename_i h t heq
        rcases List.mem_cons.1 hx with rfl | hx
        · have := spl_len r h (by rw [heq]; simp)
          rw [List.length_cons, List.length_cons]
          omega
        · have := spl_len r x (by rw [heq]; simp [hx])
          rw [List.length_cons]
          omega
theorem kindN_s {w : List UInt8} {k : Nat} : kindN w (k + 1) 0 = if kw (k + 1) = w then k + 1 else kindN w k 0 := rfl
theorem kindN_le (w : List UInt8) : ∀ n, kindN w n 0 ≤ n
  | 0 => Nat.le_refl _
  | n + 1 => by
    rw [kindN_s]
    split
    · exact Nat.le_refl _
    · exact Nat.le_succ_of_le (kindN_le w n)
theorem len_two {α : Type} {r : List α} (h : r.length = 2) : ∃ a b, r = [a, b] := by
  match r, h with
  | [a, b], _ => exact ⟨a, b, rfl⟩
theorem rfZ_2y {t x0 x1 : List UInt8} (h : splL t = [x0, x1]) (g : kindOf x0 = 8) : rfZ t = ((8 : Int), 0, numS x1) := by
  have e : rfP t = (8, 0, numS x1) := by
    unfold rfP
    rw [h]
    show (if kindOf x0 = 8 then ((8 : Nat), (0 : Int), numS x1) else (kindOf x0, numS x1, 0)) = _
    rw [if_pos g]
  unfold rfZ
  rw [e]
  rfl
theorem rfZ_2n {t x0 x1 : List UInt8} (h : splL t = [x0, x1]) (g : ¬ kindOf x0 = 8) : rfZ t = ((kindOf x0 : Int), numS x1, 0) := by
  have e : rfP t = (kindOf x0, numS x1, 0) := by
    unfold rfP
    rw [h]
    show (if kindOf x0 = 8 then ((8 : Nat), (0 : Int), numS x1) else (kindOf x0, numS x1, 0)) = _
    rw [if_neg g]
  unfold rfZ
  rw [e]
theorem rfZ_3 {t x0 x1 x2 : List UInt8} (h : splL t = [x0, x1, x2]) : rfZ t = ((kindOf x0 : Int), numS x1, numS x2) := by
  unfold rfZ rfP
  rw [h]
theorem rfZ_1 {t x0 : List UInt8} {r : List (List UInt8)} (h : splL t = x0 :: r) (h2 : ¬ r.length = 1) (h3 : ¬ r.length = 2) : rfZ t = ((kindOf x0 : Int), 0, 0) := by
  unfold rfZ rfP
  rw [h]
  rcases r with _ | ⟨a, _ | ⟨b, _ | ⟨c, r⟩⟩⟩
  · rfl
  · exact absurd rfl h2
  · exact absurd rfl h3
  · rfl
theorem rf_go {t : List UInt8} {f : Int × Int × Int} (h : rfZ t = f) : rfOk t = (decide (t ≠ []) && decide (ftx f = t)) := by rw [rfOk, h]
theorem own_cells {w : World} {B g n c : Nat} {l : List ByteArray} (O : w.ownsRow B 9 1 (.slice (some ⟨g, 0, none⟩) l.length c) l.length (flat fS l)) (j : Nat) (hj : j < l.length) : w.cell? ⟨g, j, none⟩ = some (.string l[j]) := by
  obtain ⟨b, off, e, _, hc⟩ := (RR.own O).at_ fS_len rfl j hj
  cases e
  have := hc 0 _ (by omega) rfl
  simpa using this
set_option maxRecDepth 100000 in
set_option maxHeartbeats 8000000 in
theorem spec_ReadFeature_any (t : ByteArray) (w : World) (ht : t.size ≤ 1048576) : Calls Tryd.prog 4 #[.string t] w fun e w' => e = .returned (.tuple #[.agg #[.int .i64 (rfF t.data.toList).1, .int .i64 (rfF t.data.toList).2.1, .int .i64 (rfF t.data.toList).2.2], .bool (rfOk t.data.toList)]) ∧ Below w.heap.size w w' := by
  have Z0 := BX.made w 23 [.int .i64 0, .int .i64 0, .int .i64 0]
  have hB0 : BB w (w.alloc (.cells #[.int .i64 0, .int .i64 0, .int .i64 0] 23)) := BB.al (BB.start w) _
  have sp := l01Split_any t (w.alloc (.cells #[.int .i64 0, .int .i64 0, .int .i64 0] 23)) ht
  have hlt := bl_len t
  have HTM := Lib.hid (bl_mk t)
  obtain ⟨tl, htl⟩ : ∃ tl, t.data.toList = tl := ⟨_, rfl⟩
  rw [htl] at sp hlt ⊢
  have HTM := Lib.hid (show t = mkR tl by rw [← htl]; rfl)
  have hne := splL_ne tl
  have hsl := spl_len tl
  obtain ⟨x0, r, hS⟩ : ∃ x0 r, splL tl = x0 :: r := by
    cases h : splL tl with
    | nil => exact absurd h hne
    | cons x0 r => exact ⟨x0, r, rfl⟩
  have HSL := Lib.hid hsl
  have HS := Lib.hid hS
  obtain ⟨wl, hwl⟩ : ∃ wl, wdL tl = wl := ⟨_, rfl⟩
  have HWL := Lib.hid (show wl = mkR x0 :: r.map mkR by rw [← hwl, wdL, hS]; rfl)
  rw [hwl] at sp
  have hwpos : 0 < wl.length := by rw [HWL.out]; simp
  have hwposI : (0 : Int) < (wl.length : Int) := by omega
  have HNB := Lib.hid (str_nilR t)
  clear hne hsl hS hwl htl
  go_enter Tryd.func4, Tryd.ntmps4
  go_upto_block 0 with (first
    | (go_at_call 7; (with_reducible refine sp.mono ?_); rintro e w1 ⟨g4, c4, rfl, O4, hx1⟩; have Z1 := Z0.below hx1 Z0.lt; have hB1 : BB w w1 := BB.next hB0 hx1; have hz1 := Z0.lt)
    | (go_at_call 8; (with_reducible refine (words_o _).mono ?_); rintro e w3 ⟨g6, rfl, hcw, hg61, hg62, hx3⟩))
  have F1 := BX.made w1 23 [.int .i64 0, .int .i64 0, .int .i64 0]
  have F3 := F1.below hx3 F1.lt
  have Z3 := (Z1.al (.cells #[.int .i64 0, .int .i64 0, .int .i64 0] 23)).below hx3 (Z1.al (.cells #[.int .i64 0, .int .i64 0, .int .i64 0] 23)).lt
  have hB3 : BB w w3 := BB.next (BB.al hB1 (.cells #[.int .i64 0, .int .i64 0, .int .i64 0] 23)) hx3
  have O3 := own_later (World.ownsRow.alloc O4 (.cells #[.int .i64 0, .int .i64 0, .int .i64 0] 23)) hx3 (Nat.le_refl _)
  have hgF : w.heap.size < w1.heap.size := Z1.lt
  have hg4 : g4 < w1.heap.size := (World.ownsRow.lt O4 g4 rfl).2
  have hgw : w1.heap.size + 1 ≤ g6 := by rw [World.size_alloc] at hg61; exact hg61
  have HCW := Lib.hid hcw
  have HC4 := Lib.hid (fun j hj => own_cells (n := 0) O3 j hj)
  generalize w1.heap.size = gF at F3 hgF hg4 hgw ⊢
  generalize hgz : w.heap.size = gZ at Z3 hgF ⊢
  clear sp F1 Z0 Z1 hB0 hB1 O4 O3 hx1 hx3 hcw hg61 hz1
  have HGZ := Lib.hid hgz
  clear hgz
  go_wp2_with fail
  go_loopw [7] (fun i wr => ∃ k : Nat, i = .int .i64 ((k + 1 : Nat) : Int) ∧ k ≤ 8 ∧ BX wr gF 23 [.int .i64 (kindN x0 k 0 : Int), .int .i64 0, .int .i64 0] ∧ BX wr gZ 23 [.int .i64 0, .int .i64 0, .int .i64 0] ∧ Hid (∀ j, (hj : j < kwB.length) → wr.cell? ⟨g6, j, none⟩ = some (.string kwB[j])) ∧ Hid (∀ j, (hj : j < wl.length) → wr.cell? ⟨g4, j, none⟩ = some (.string wl[j])) ∧ BB w wr) (fun i _ => 9 - (intOf i).toNat)
  case atStart => exact ⟨0, rfl, by omega, F3, Z3, HCW, HC4, hB3⟩
  case round =>
    clear F3 Z3 HCW HC4 hB3
    obtain ⟨k, rfl, hk, F, Z, HC6, HC4, hB⟩ := hrel
    have hwx0 : wl[0]'hwpos = mkR x0 := by
      have := HWL.out
      simp only [this, List.getElem_cons_zero]
    by_cases hlt8 : k < 8
    · have h9 : k + 1 < kwB.length := by show k + 1 < 9; omega
      have hki : ((k + 1 : Nat) : Int) < 9 := by omega
      have hkd : decide (((k + 1 : Nat) : Int) < 9) = true := decide_eq_true hki
      have c6 := HC6.out (k + 1) h9
      rw [kwB_at h9] at c6
      have c4 := HC4.out 0 hwpos
      rw [hwx0] at c4
      have hcmp := mkR_eq (kw (k + 1)) x0
      have HK := Lib.hid (kindN_s (w := x0) (k := k))
      have hk1 : 0 ≤ ((k + 1 : Nat) : Int) := by omega
      obtain ⟨q, hq⟩ : ∃ q, k + 1 = q := ⟨_, rfl⟩
      rw [hq] at hki hkd c6 hcmp hk1 HK ⊢
      have hq8 : q ≤ 8 := by omega
      generalize mkR (kw q) = KS at c6 hcmp
      generalize hX0 : mkR x0 = XS at c4 hcmp
      have f0 : (_ : Option Value) = some (.int .i64 (kindN x0 k 0 : Int)) := (BX.drR F).cell 0 (by simp)
      by_cases he : kw q = x0
      · rw [decide_eq_true he] at hcmp
        have HN := Lib.hid (show kindN x0 q 0 = q by rw [HK.out, if_pos he])
        clear hX0 he hwx0
        go_upto_region 7 with fail
        go_quiet (fail)
        have F9 := BX.dnR F nq
        have Z9 := BX.dnR Z nq
        have hB9 : BB w (wr.drewN nq) := BB.dn hB nq
        have g0 : (_ : Option Value) = some (.int .i64 (kindN x0 k 0 : Int)) := F9.cell 0 (by simp)
        have hfz := fun j => F9.free j
        have HC69 := Lib.hid (fun j hj => (show (wr.drewN nq).cell? ⟨g6, j, none⟩ = some (.string kwB[j]) from HC6.out j hj))
        have HC49 := Lib.hid (fun j hj => (show (wr.drewN nq).cell? ⟨g4, j, none⟩ = some (.string wl[j]) from HC4.out j hj))
        generalize wr.drewN nq = w9 at F9 Z9 hB9 g0 hfz HC69 HC49 ⊢
        go_wp2_with fail
        go_roundw
        case rel =>
          refine ⟨k + 1, by rw [hq]; go_num, by omega, ?_, Z9.far (a := ⟨gF, 0, none⟩) (by show gZ ≠ gF; omega) _, Lib.hid (fun j hj => (World.cell?_setCell_other _ ⟨gF, 0, none⟩ ⟨g6, j, none⟩ _ (by intro e; injection e with e1; omega)).trans (HC69.out j hj)), Lib.hid (fun j hj => (World.cell?_setCell_other _ ⟨gF, 0, none⟩ ⟨g4, j, none⟩ _ (by intro e; injection e with e1; omega)).trans (HC49.out j hj)), BB.putR hB9 (a := ⟨gF, 0, none⟩) (by have := HGZ.out; show w.heap.size ≤ gF; omega) _⟩
          rw [hq, HN.out]
          exact F9.put 0 _
        case measure => simp [intOf]; omega
      · rw [decide_eq_false he] at hcmp
        have HN := Lib.hid (show kindN x0 q 0 = kindN x0 k 0 by rw [HK.out, if_neg he])
        clear hX0 he hwx0
        go_upto_region 7 with fail
        go_quiet (fail)
        have F9 := BX.dnR F nq
        have Z9 := BX.dnR Z nq
        have hB9 : BB w (wr.drewN nq) := BB.dn hB nq
        have HC69 := Lib.hid (fun j hj => (show (wr.drewN nq).cell? ⟨g6, j, none⟩ = some (.string kwB[j]) from HC6.out j hj))
        have HC49 := Lib.hid (fun j hj => (show (wr.drewN nq).cell? ⟨g4, j, none⟩ = some (.string wl[j]) from HC4.out j hj))
        generalize wr.drewN nq = w9 at F9 Z9 hB9 HC69 HC49 ⊢
        go_wp2_with fail
        go_roundw
        case rel =>
          refine ⟨k + 1, by rw [hq]; go_num, by omega, ?_, Z9, HC69, HC49, hB9⟩
          rw [hq, HN.out]
          exact F9
        case measure => simp [intOf]; omega
    · have hk8 : k = 8 := by omega
      subst hk8
      have F : BX wr gF 23 [.int .i64 (kindOf x0 : Int), .int .i64 0, .int .i64 0] := F
      have hKle : kindOf x0 ≤ 8 := kindN_le x0 8
      have f0 : (_ : Option Value) = some (.int .i64 (kindOf x0 : Int)) := F.cell 0 (by simp)
      have hfz := fun j => F.free j
      have f1 : (_ : Option Value) = some (.int .i64 0) := F.cell 1 (by simp)
      have f2 : (_ : Option Value) = some (.int .i64 0) := F.cell 2 (by simp)
      go_upto_block 2 with fail
      go_cut [3] (fun b wx => b = .bool false ∧ BX wx gF 23 [.int .i64 (rfZ tl).1, .int .i64 (rfZ tl).2.1, .int .i64 (rfZ tl).2.2] ∧ BX wx gZ 23 [.int .i64 0, .int .i64 0, .int .i64 0] ∧ BB w wx)
      case first =>
        have hlr : wl.length = r.length + 1 := by rw [HWL.out]; simp
        have NUM := fun (x : List UInt8) (hx : x ∈ splL tl) (W : World) => (show Calls Tryd.prog 9 #[.string (mkR x)] W fun e w' => e = .returned (.int .i64 (numS x)) ∧ W = w' from l01Number_any (mkR x) W (by rw [mkR_size]; have := HSL.out x hx; omega))
        have NUM := Lib.hid NUM
        by_cases h2 : r.length = 1
        · obtain ⟨x1, hr⟩ := List.length_eq_one_iff.1 h2
          have q2 : ((wl.length : Int) == 2) = true := by rw [hlr, h2]; rfl
          have i1 : (1 : Int) < (wl.length : Int) := by omega
          have c1 := HC4.out 1 (by omega)
          have hw1 : wl[1]'(by omega) = mkR x1 := by
            have h9 := HWL.out
            simp only [h9, hr, List.map_cons, List.getElem_cons_succ, List.getElem_cons_zero]
          rw [hw1] at c1
          have n1 := NUM.out x1 (by rw [HS.out, hr]; simp)
          have hS2 : splL tl = [x0, x1] := by rw [HS.out, hr]
          generalize mkR x1 = X1 at c1 n1
          by_cases hK : kindOf x0 = 8
          · have HR := Lib.hid (rfZ_2y hS2 hK)
            have qK : ((kindOf x0 : Int) == 8) = true := by rw [hK]; rfl
            have HKK := Lib.hid hK
            generalize numS x1 = m1 at n1 HR
            clear hw1 hS2 hr hlr hK h2 hwx0
            go_wp2_with (go_at_call 9; (with_reducible refine (n1 _).mono ?_); rintro e w9 ⟨rfl, rfl⟩)
            go_meet
            refine ⟨rfl, ?_, Z.far (a := ⟨gF, 2, none⟩) (by show gZ ≠ gF; omega) _, BB.putR hB (a := ⟨gF, 2, none⟩) (by have := HGZ.out; show w.heap.size ≤ gF; omega) _⟩
            rw [HR.out]
            have := F.put 2 (.int .i64 m1)
            rw [HKK.out] at this
            exact this
          · have HR := Lib.hid (rfZ_2n hS2 hK)
            have qK : ((kindOf x0 : Int) == 8) = false := by rw [beq_eq_false_iff_ne]; omega
            generalize numS x1 = m1 at n1 HR
            clear hw1 hS2 hr hlr hK h2 hwx0
            go_wp2_with (go_at_call 9; (with_reducible refine (n1 _).mono ?_); rintro e w9 ⟨rfl, rfl⟩)
            go_meet
            refine ⟨rfl, ?_, Z.far (a := ⟨gF, 1, none⟩) (by show gZ ≠ gF; omega) _, BB.putR hB (a := ⟨gF, 1, none⟩) (by have := HGZ.out; show w.heap.size ≤ gF; omega) _⟩
            rw [HR.out]
            exact F.put 1 (.int .i64 m1)
        · by_cases h3 : r.length = 2
          · obtain ⟨x1, x2, hr⟩ := len_two h3
            have q2 : ((wl.length : Int) == 2) = false := by rw [hlr, h3]; rfl
            have q3 : ((wl.length : Int) == 3) = true := by rw [hlr, h3]; rfl
            have i1 : (1 : Int) < (wl.length : Int) := by omega
            have i2 : (2 : Int) < (wl.length : Int) := by omega
            have c1 := HC4.out 1 (by omega)
            have c2 := HC4.out 2 (by omega)
            have hw1 : wl[1]'(by omega) = mkR x1 := by
              have h9 := HWL.out
              simp only [h9, hr, List.map_cons, List.getElem_cons_succ, List.getElem_cons_zero]
            have hw2 : wl[2]'(by omega) = mkR x2 := by
              have h9 := HWL.out
              simp only [h9, hr, List.map_cons, List.getElem_cons_succ, List.getElem_cons_zero]
            rw [hw1] at c1
            rw [hw2] at c2
            have n1 := NUM.out x1 (by rw [HS.out, hr]; simp)
            have n2 := NUM.out x2 (by rw [HS.out, hr]; simp)
            have HR := Lib.hid (rfZ_3 (show splL tl = [x0, x1, x2] by rw [HS.out, hr]))
            generalize mkR x1 = X1 at c1 n1
            generalize mkR x2 = X2 at c2 n2
            generalize numS x1 = m1 at n1 HR
            generalize numS x2 = m2 at n2 HR
            have F7 := F.put 1 (.int .i64 m1)
            have p2 : (_ : Option Value) = some (.int .i64 0) := F7.cell 2 (by simp)
            have c2b : (_ : Option Value) = some (.string X2) := (World.cell?_setCell_other wr ⟨gF, 1, none⟩ ⟨g4, 2, none⟩ (.int .i64 m1) (by intro e; injection e with e1; omega)).trans c2
            by_cases hK : kindOf x0 = 8
            · have qK : ((kindOf x0 : Int) == 8) = true := by rw [hK]; rfl
              clear hw1 hw2 hr hlr hK h2 h3 hwx0
              go_wp2_with (first | (go_at_call 9; (with_reducible refine (n1 _).mono ?_); rintro e w9 ⟨rfl, rfl⟩) | (go_at_call 9; (with_reducible refine (n2 _).mono ?_); rintro e w9 ⟨rfl, rfl⟩))
              go_meet
              refine ⟨rfl, ?_, (Z.far (a := ⟨gF, 1, none⟩) (by show gZ ≠ gF; omega) _).far (a := ⟨gF, 2, none⟩) (by show gZ ≠ gF; omega) _, BB.putR (BB.putR hB (a := ⟨gF, 1, none⟩) (by have := HGZ.out; show w.heap.size ≤ gF; omega) _) (a := ⟨gF, 2, none⟩) (by have := HGZ.out; show w.heap.size ≤ gF; omega) _⟩
              rw [HR.out]
              exact F7.put 2 (.int .i64 m2)
            · have qK : ((kindOf x0 : Int) == 8) = false := by rw [beq_eq_false_iff_ne]; omega
              clear hw1 hw2 hr hlr hK h2 h3 hwx0
              go_wp2_with (first | (go_at_call 9; (with_reducible refine (n1 _).mono ?_); rintro e w9 ⟨rfl, rfl⟩) | (go_at_call 9; (with_reducible refine (n2 _).mono ?_); rintro e w9 ⟨rfl, rfl⟩))
              go_meet
              refine ⟨rfl, ?_, (Z.far (a := ⟨gF, 1, none⟩) (by show gZ ≠ gF; omega) _).far (a := ⟨gF, 2, none⟩) (by show gZ ≠ gF; omega) _, BB.putR (BB.putR hB (a := ⟨gF, 1, none⟩) (by have := HGZ.out; show w.heap.size ≤ gF; omega) _) (a := ⟨gF, 2, none⟩) (by have := HGZ.out; show w.heap.size ≤ gF; omega) _⟩
              rw [HR.out]
              exact F7.put 2 (.int .i64 m2)
          · have q2 : ((wl.length : Int) == 2) = false := by rw [beq_eq_false_iff_ne]; omega
            have q3 : ((wl.length : Int) == 3) = false := by rw [beq_eq_false_iff_ne]; omega
            have HR := Lib.hid (rfZ_1 HS.out h2 h3)
            by_cases hK : kindOf x0 = 8
            · have qK : ((kindOf x0 : Int) == 8) = true := by rw [hK]; rfl
              clear hlr hK h2 h3 hwx0
              go_wp2_with fail
              go_meet
              refine ⟨rfl, ?_, Z, hB⟩
              rw [HR.out]
              exact F
            · have qK : ((kindOf x0 : Int) == 8) = false := by rw [beq_eq_false_iff_ne]; omega
              clear hlr hK h2 h3 hwx0
              go_wp2_with fail
              go_meet
              refine ⟨rfl, ?_, Z, hB⟩
              rw [HR.out]
              exact F
      case rest =>
        clear F Z HC6 HC4 hB f0 hfz f1 f2 hwx0 HWL HSL HS
        obtain ⟨rfl, F, Z, hB⟩ := hcut
        obtain ⟨w4, hw4⟩ : ∃ x, x = wc := ⟨_, rfl⟩
        subst hw4
        have HOK := Lib.hid (show rfOk tl = (decide (tl ≠ []) && decide (ftx (rfZ tl) = tl)) from rfl)
        have HFY := Lib.hid (fun h => rfF_y (t := tl) h)
        have HFN := Lib.hid (fun h => rfF_n (t := tl) h)
        have tx := fun W => spec_FeatureText_any (rfZ tl).1 (rfZ tl).2.1 (rfZ tl).2.2 W
        have HCM := Lib.hid (show ((mkR (ftx (rfZ tl))).toList == t.toList) = decide (ftx (rfZ tl) = tl) by rw [HTM.out]; exact mkR_eq _ _)
        generalize rfZ tl = f at F HOK HFY HFN tx HCM
        obtain ⟨k, s, v⟩ := f
        have x0 : (_ : Option Value) = some (.int .i64 k) := F.cell 0 (by simp)
        have x1 : (_ : Option Value) = some (.int .i64 s) := F.cell 1 (by simp)
        have x2 : (_ : Option Value) = some (.int .i64 v) := F.cell 2 (by simp)
        by_cases h0 : t.size = 0
        · have hnb : (t.toList == []) = true := HNB.out.trans (decide_eq_true h0)
          have hbad : rfOk tl = false := by
            rw [HOK.out]
            have : tl = [] := List.eq_nil_of_length_eq_zero (by omega)
            simp [this]
          have HR := Lib.hid (And.intro hbad (HFN.out hbad))
          have z0 : (_ : Option Value) = some (.int .i64 0) := Z.cell 0 (by simp)
          have z1 : (_ : Option Value) = some (.int .i64 0) := Z.cell 1 (by simp)
          have z2 : (_ : Option Value) = some (.int .i64 0) := Z.cell 2 (by simp)
          have hfz := fun j => Z.free j
          clear hbad h0
          go_wp2_with fail
          refine bodyPost_ret (v := .tuple #[.agg #[.int .i64 0, .int .i64 0, .int .i64 0], .bool false]) (by simp [results, Tryd.results4, go_sem, World.cell?_setCell_other, z0, z1, z2]) rfl ⟨by rw [HR.out.1, HR.out.2], ?_⟩
          exact bb3 HGZ.out hB _ _ _
        · have hnb : (t.toList == []) = false := HNB.out.trans (decide_eq_false h0)
          have htl : tl ≠ [] := fun e => by rw [e] at hlt; simp at hlt; omega
          cases hc : decide (ftx (k, s, v) = tl)
          · have hbad : rfOk tl = false := by rw [HOK.out, hc, Bool.and_false]
            have HR := Lib.hid (And.intro hbad (HFN.out hbad))
            have hcm : ((mkR (ftx (k, s, v))).toList == t.toList) = false := by rw [HCM.out, hc]
            have hcn : ((mkR (ftx (k, s, v))).toList != t.toList) = true := by rw [bne, hcm]; rfl
            generalize mkR (ftx (k, s, v)) = TX at tx hcm hcn
            clear hbad hc h0 htl HCM
            go_wp2_with (go_at_call 10; (with_reducible refine (tx _).mono ?_); rintro e w5 ⟨rfl, hx5⟩; have Z5 := Z.below hx5 Z.lt; have hB5 : BB w w5 := BB.next hB hx5; have z0 : (_ : Option Value) = some (.int .i64 0) := Z5.cell 0 (by simp); have z1 : (_ : Option Value) = some (.int .i64 0) := Z5.cell 1 (by simp); have z2 : (_ : Option Value) = some (.int .i64 0) := Z5.cell 2 (by simp); have hfz := fun j => Z5.free j)
            refine bodyPost_ret (v := .tuple #[.agg #[.int .i64 0, .int .i64 0, .int .i64 0], .bool false]) (by simp [results, Tryd.results4, go_sem, World.cell?_setCell_other, z0, z1, z2]) rfl ⟨by rw [HR.out.1, HR.out.2], ?_⟩
            exact bb3 HGZ.out hB5 _ _ _
          · have hgood : rfOk tl = true := by
              rw [HOK.out, hc]
              simp [htl]
            have HR := Lib.hid (show rfOk tl = true ∧ rfF tl = (k, s, v) from ⟨hgood, HFY.out hgood⟩)
            have hcm : ((mkR (ftx (k, s, v))).toList == t.toList) = true := by rw [HCM.out, hc]
            have hcn : ((mkR (ftx (k, s, v))).toList != t.toList) = false := by rw [bne, hcm]; rfl
            generalize mkR (ftx (k, s, v)) = TX at tx hcm hcn
            clear hgood hc h0 htl HCM
            go_wp2_with (go_at_call 10; (with_reducible refine (tx _).mono ?_); rintro e w5 ⟨rfl, hx5⟩; have Z5 := Z.below hx5 Z.lt; have hB5 : BB w w5 := BB.next hB hx5; have F5 := F.below hx5 F.lt; have y0 : (_ : Option Value) = some (.int .i64 k) := F5.cell 0 (by simp); have y1 : (_ : Option Value) = some (.int .i64 s) := F5.cell 1 (by simp); have y2 : (_ : Option Value) = some (.int .i64 v) := F5.cell 2 (by simp); have z0 : (_ : Option Value) = some (.int .i64 0) := Z5.cell 0 (by simp); have z1 : (_ : Option Value) = some (.int .i64 0) := Z5.cell 1 (by simp); have z2 : (_ : Option Value) = some (.int .i64 0) := Z5.cell 2 (by simp); have hfz := fun j => Z5.free j)
            have hne9 : gF ≠ gZ := by omega
            refine bodyPost_ret (v := .tuple #[.agg #[.int .i64 k, .int .i64 s, .int .i64 v], .bool true]) (by simp [results, Tryd.results4, go_sem, World.cell?_setCell_other, z0, z1, z2]) rfl ⟨by rw [HR.out.1, HR.out.2], ?_⟩
            exact bb3 HGZ.out hB5 _ _ _
end Go.Proofs.YtjcghghhpmghhaaDoor
