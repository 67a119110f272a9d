/- Walks: the texts R9 R10 Q3 Q8 Q9 as one text. -/
import Derived.Test.YthelfgagddldfaaGreatDoorR8
import Derived.Test.YthelfgagddldfaaGreatDoorQ2
import Derived.Test.YthelfgagddldfaaGreatDoorW161
import Derived.Test.YthelfgagddldfaaGreatDoorV1
import Derived.Test.YthelfgagddldfaaGreatDoorW167
import Derived.OpenShut
import Derived.ChangeVars
import Derived.Test.YthelfgagddldfaaGreatDoorRows
import Derived.Lib.LaidTab
import Derived.Stop.LaidErr
import Derived.HandedShaped
import Derived.MakeChecks
import Derived.Shelf.Vars
import Derived.Handed
namespace Go.Proofs.YthelfgagddldfaaGreatDoor
open Go.RowKit Go.Lib
set_option linter.unusedVariables false
set_option linter.unusedSimpArgs false

set_option maxRecDepth 100000 in
set_option maxHeartbeats 8000000 in
theorem impl_FeatureText_any (k s v : Int) (w : World) (G : GW w) : Calls Tryz.prog 8 #[.agg #[.int .i64 k, .int .i64 s, .int .i64 v]] w fun e w' => e = .returned (.string (mkR (ftx (k, s, v)))) ∧ Below w.heap.size w w' := by
  have F0 := BX.made w 29 [.int .i64 k, .int .i64 s, .int .i64 v]
  have hB0 : BB w (w.alloc (.cells #[.int .i64 k, .int .i64 s, .int .i64 v] 29)) := BB.al (BB.start w) _
  have hok := fun W => impl_ValidFeature_any k s v W
  cases hf : feB k s v
  · have HR := Lib.hid (show mkR (ftx (k, s, v)) = ⟨#[]⟩ by rw [ftx_no hf]; rfl)
    rw [hf] at hok
    clear hf G
    go_enter Tryz.func8, Tryz.ntmps8
    go_wp2_with (go_at_call 9; (with_reducible refine (hok _).mono ?_); rintro e w2 ⟨rfl, hx2⟩; have hB2 : BB w w2 := BB.next hB0 hx2)
    go_ret
    exact ⟨by rw [HR.out]; rfl, hB2⟩
  have HR := Lib.hid (show mkR (ftx (k, s, v)) = mkR (txL k.toNat s.toNat v.toNat) by rw [ftx_yes hf])
  rw [hf] at hok
  obtain ⟨a, b, c, rfl, rfl, rfl, hb, hc, hh⟩ := feB_cases hf
  simp only [Int.toNat_natCast] at HR
  rw [HR.out]
  clear HR hf
  have ha : 1 ≤ a ∧ a ≤ 8 := by omega
  have hai : (a : Int) < 9 := by omega
  have ha9 : a < kwB.length := by show a < 9; omega
  have GX := Lib.hid G
  have d1 : ∀ W : World, BB w W → Calls Tryz.prog 18 #[.int .i64 (b : Int)] W fun e w' => e = .returned (.string (mkR (decDigits b))) ∧ Below W.heap.size W w' := fun W h => by
    have := decimal_any (b : Int) W (by omega) (by omega) (GX.out.bb h)
    rwa [itoa_nonneg] at this
  have d2 : ∀ W : World, BB w W → Calls Tryz.prog 18 #[.int .i64 (c : Int)] W fun e w' => e = .returned (.string (mkR (decDigits c))) ∧ Below W.heap.size W w' := fun W h => by
    have := decimal_any (c : Int) W (by omega) (by omega) (GX.out.bb h)
    rwa [itoa_nonneg] at this
  have FWX := Lib.hid (fun (W : World) (h : BB w W) => (show W.cell? ⟨0, a, none⟩ = some (.string (mkR (kw a))) by rw [← kwB_at ha9]; exact (GX.out.bb h).fw a ha9))
  have hk9 : (mkR (kw a)).size ≤ 9 := by rw [mkR_size]; exact kw_len a
  have hs7 : (mkR (decDigits b)).size ≤ 7 := by rw [mkR_size]; exact dd_len 6 b (by simp; omega)
  have hv7 : (mkR (decDigits c)).size ≤ 7 := by rw [mkR_size]; exact dd_len 6 c (by simp; omega)
  have HB := Lib.hid (fun (h : a = 1 ∨ a = 7) => tx_b (s := b) (v := c) h)
  have H8 := Lib.hid (fun (h : a = 8) => (show mkR (kw a) ++ (⟨#[32]⟩ ++ mkR (decDigits c)) = mkR (txL a b c) by subst h; exact tx_8))
  have H2 := Lib.hid (fun (h : 2 ≤ a ∧ a ≤ 6) => tx_2 (s := b) (v := c) h)
  obtain ⟨K, hK⟩ : ∃ K, mkR (kw a) = K := ⟨_, rfl⟩
  obtain ⟨S, hS⟩ : ∃ S, mkR (decDigits b) = S := ⟨_, rfl⟩
  obtain ⟨V, hV⟩ : ∃ V, mkR (decDigits c) = V := ⟨_, rfl⟩
  obtain ⟨R, hR⟩ : ∃ R, mkR (txL a b c) = R := ⟨_, rfl⟩
  rw [hR]
  rw [hK] at FWX
  rw [hS] at d1
  rw [hV] at d2
  rw [hK, hS, hV, hR] at HB
  rw [hK, hV, hR] at H8
  rw [hK, hS, hR] at H2
  rw [hK] at hk9
  rw [hS] at hs7
  rw [hV] at hv7
  have sp1 : (⟨#[32]⟩ : ByteArray).size = 1 := rfl
  have m1 : ¬ 9223372036854775807 < 1 + S.size := by omega
  have m2 : ¬ (9223372036854775807 : Int) < 1 + (S.size : Int) := by omega
  have m3 : ¬ 9223372036854775807 < K.size + (1 + S.size) := by omega
  have m4 : ¬ (9223372036854775807 : Int) < (K.size : Int) + (1 + (S.size : Int)) := by omega
  have m5 : ¬ 9223372036854775807 < 1 + V.size := by omega
  have m6 : ¬ (9223372036854775807 : Int) < 1 + (V.size : Int) := by omega
  have m7 : ¬ 9223372036854775807 < K.size + (1 + S.size) + (1 + V.size) := by omega
  have m8 : ¬ (9223372036854775807 : Int) < (K.size : Int) + (1 + (S.size : Int)) + (1 + (V.size : Int)) := by omega
  have m9 : ¬ 9223372036854775807 < K.size + (1 + V.size) := by omega
  have m10 : ¬ (9223372036854775807 : Int) < (K.size : Int) + (1 + (V.size : Int)) := by omega
  clear hK hS hV hR hk9 hs7 hv7 hb hc hh G GX
  rcases (show a = 1 ∨ a = 7 ∨ a = 8 ∨ (2 ≤ a ∧ a ≤ 6) by omega) with h | h | h | h
  · have HR := Lib.hid (HB.out (Or.inl h))
    have q8n : ((a : Int) != 8) = true := by rw [bne_iff_ne]; omega
    have q1 : ((a : Int) == 1) = true := by rw [h]; rfl
    clear HB H8 H2 h
    go_enter Tryz.func8, Tryz.ntmps8
    go_wp2_with (first | (go_at_call 9; (with_reducible refine (hok _).mono ?_); rintro e w2 ⟨rfl, hx2⟩; have hB2 : BB w w2 := BB.next hB0 hx2; have F2 := F0.below hx2 F0.lt; have f0 : (_ : Option Value) = some (.int .i64 (a : Int)) := F2.cell 0 (by simp); have f1 : (_ : Option Value) = some (.int .i64 (b : Int)) := F2.cell 1 (by simp); have f2 : (_ : Option Value) = some (.int .i64 (c : Int)) := F2.cell 2 (by simp); have cw := FWX.out w2 hB2) | (go_at_call 18; (with_reducible refine (d1 _ hB2).mono ?_); rintro e w3 ⟨rfl, hx3⟩; have hB3 : BB w w3 := BB.next hB2 hx3; have F3 := F2.below hx3 F2.lt; have y0 : (_ : Option Value) = some (.int .i64 (a : Int)) := F3.cell 0 (by simp); have y2 : (_ : Option Value) = some (.int .i64 (c : Int)) := F3.cell 2 (by simp)) | (go_at_call 18; (with_reducible refine (d2 _ hB3).mono ?_); rintro e w4 ⟨rfl, hx4⟩; have hB9 : BB w w4 := BB.next hB3 hx4))
    go_ret
    exact ⟨by rw [← HR.out]; first | rfl | simp [ByteArray.append_assoc], hB9⟩
  · have HR := Lib.hid (HB.out (Or.inr h))
    have q8n : ((a : Int) != 8) = true := by rw [bne_iff_ne]; omega
    have q1 : ((a : Int) == 1) = false := by rw [beq_eq_false_iff_ne]; omega
    have q7 : ((a : Int) == 7) = true := by rw [h]; rfl
    clear HB H8 H2 h
    go_enter Tryz.func8, Tryz.ntmps8
    go_wp2_with (first | (go_at_call 9; (with_reducible refine (hok _).mono ?_); rintro e w2 ⟨rfl, hx2⟩; have hB2 : BB w w2 := BB.next hB0 hx2; have F2 := F0.below hx2 F0.lt; have f0 : (_ : Option Value) = some (.int .i64 (a : Int)) := F2.cell 0 (by simp); have f1 : (_ : Option Value) = some (.int .i64 (b : Int)) := F2.cell 1 (by simp); have f2 : (_ : Option Value) = some (.int .i64 (c : Int)) := F2.cell 2 (by simp); have cw := FWX.out w2 hB2) | (go_at_call 18; (with_reducible refine (d1 _ hB2).mono ?_); rintro e w3 ⟨rfl, hx3⟩; have hB3 : BB w w3 := BB.next hB2 hx3; have F3 := F2.below hx3 F2.lt; have y0 : (_ : Option Value) = some (.int .i64 (a : Int)) := F3.cell 0 (by simp); have y2 : (_ : Option Value) = some (.int .i64 (c : Int)) := F3.cell 2 (by simp)) | (go_at_call 18; (with_reducible refine (d2 _ hB3).mono ?_); rintro e w4 ⟨rfl, hx4⟩; have hB9 : BB w w4 := BB.next hB3 hx4))
    go_ret
    exact ⟨by rw [← HR.out]; first | rfl | simp [ByteArray.append_assoc], hB9⟩
  · have HR := Lib.hid (H8.out h)
    have q8n : ((a : Int) != 8) = false := by rw [h]; rfl
    have q1 : ((a : Int) == 1) = false := by rw [beq_eq_false_iff_ne]; omega
    have q7 : ((a : Int) == 7) = false := by rw [beq_eq_false_iff_ne]; omega
    have q8 : ((a : Int) == 8) = true := by rw [h]; rfl
    clear HB H8 H2 h
    go_enter Tryz.func8, Tryz.ntmps8
    go_wp2_with (first | (go_at_call 9; (with_reducible refine (hok _).mono ?_); rintro e w2 ⟨rfl, hx2⟩; have hB2 : BB w w2 := BB.next hB0 hx2; have F2 := F0.below hx2 F0.lt; have f0 : (_ : Option Value) = some (.int .i64 (a : Int)) := F2.cell 0 (by simp); have f1 : (_ : Option Value) = some (.int .i64 (b : Int)) := F2.cell 1 (by simp); have f2 : (_ : Option Value) = some (.int .i64 (c : Int)) := F2.cell 2 (by simp); have cw := FWX.out w2 hB2) | (go_at_call 18; (with_reducible refine (d2 _ hB2).mono ?_); rintro e w4 ⟨rfl, hx4⟩; have hB9 : BB w w4 := BB.next hB2 hx4))
    go_ret
    exact ⟨by rw [← HR.out]; first | rfl | simp [ByteArray.append_assoc], hB9⟩
  · have HR := Lib.hid (H2.out h)
    have q8n : ((a : Int) != 8) = true := by rw [bne_iff_ne]; omega
    have q1 : ((a : Int) == 1) = false := by rw [beq_eq_false_iff_ne]; omega
    have q7 : ((a : Int) == 7) = false := by rw [beq_eq_false_iff_ne]; omega
    have q8 : ((a : Int) == 8) = false := by rw [beq_eq_false_iff_ne]; omega
    clear HB H8 H2 h
    go_enter Tryz.func8, Tryz.ntmps8
    go_wp2_with (first | (go_at_call 9; (with_reducible refine (hok _).mono ?_); rintro e w2 ⟨rfl, hx2⟩; have hB2 : BB w w2 := BB.next hB0 hx2; have F2 := F0.below hx2 F0.lt; have f0 : (_ : Option Value) = some (.int .i64 (a : Int)) := F2.cell 0 (by simp); have f1 : (_ : Option Value) = some (.int .i64 (b : Int)) := F2.cell 1 (by simp); have f2 : (_ : Option Value) = some (.int .i64 (c : Int)) := F2.cell 2 (by simp); have cw := FWX.out w2 hB2) | (go_at_call 18; (with_reducible refine (d1 _ hB2).mono ?_); rintro e w3 ⟨rfl, hx3⟩; have hB3 : BB w w3 := BB.next hB2 hx3; have F3 := F2.below hx3 F2.lt; have y0 : (_ : Option Value) = some (.int .i64 (a : Int)) := F3.cell 0 (by simp); have y2 : (_ : Option Value) = some (.int .i64 (c : Int)) := F3.cell 2 (by simp); have hB9 := hB3))
    go_ret
    exact ⟨by rw [← HR.out]; first | rfl | simp [ByteArray.append_assoc], hB9⟩
end Go.Proofs.YthelfgagddldfaaGreatDoor
namespace Go.Proofs.YthelfgagddldfaaGreatDoor
open Go.RowKit Go.Lib
set_option linter.unusedVariables false
set_option linter.unusedSimpArgs false

theorem joL_cons {w : List UInt8} {r : List (List UInt8)} (h : r ≠ []) : joL (w :: r) = w ++ 32 :: joL r := by
  cases r with
  | nil => exact absurd rfl h
  | cons x r => rfl
theorem join_jo : ∀ L : List (List UInt8), Lib.join L [32] = joL L
  | [] => rfl
  | [w] => by simp [Lib.join, joL]
  | w :: x :: r => by
    have h := join_jo (x :: r)
    rw [joL_cons (by simp), ← h]
    simp [Lib.join, List.intercalate]
theorem jo_spl : ∀ l : List UInt8, joL (splL l) = l
  | [] => rfl
  | b :: r => by
    have h := jo_spl r
    unfold splL
    split
    · rename_i hb
      rw [joL_cons (splL_ne r), h, hb]
      rfl
    · split
      · rename_i heq
        exact absurd heq (splL_ne r)
      · rename_i x t heq
        rw [heq] at h
        cases t with
        | nil =>
          show b :: x = b :: r
          have h2 : x = r := h
          rw [h2]
        | cons y t =>
          rw [joL_cons (by simp)] at h ⊢
          rw [List.cons_append, h]
theorem jo_tail (l : List UInt8) : (joL (splL l).tail).length ≤ l.length := by
  have h := jo_spl l
  cases hs : splL l with
  | nil => exact absurd hs (splL_ne l)
  | cons x r =>
    rw [hs] at h
    show (joL r).length ≤ l.length
    cases r with
    | nil => exact Nat.zero_le _
    | cons y r =>
      rw [joL_cons (by simp)] at h
      rw [← h, List.length_append, List.length_cons]
      omega
theorem join_any (t : ByteArray) (g : Nat) (w : World) (ht : t.size ≤ 1048576) (hc : ∀ j, (hj : j < (wdL t.data.toList).length) → w.cell? ⟨g, j, none⟩ = some (.string (wdL t.data.toList)[j])) (hg : g < w.heap.size) (h2 : 1 < (wdL t.data.toList).length) :
    Calls Tryz.prog 17 #[.slice (some ⟨g, 1, none⟩) ((wdL t.data.toList).length - 1) ((wdL t.data.toList).length - 1), .string ⟨#[32]⟩] w fun e w' => e = .returned (.string (mkR (joL (splL t.data.toList).tail))) ∧ Below w.heap.size w w' := by
  have hl : (wdL t.data.toList).tail.length = (wdL t.data.toList).length - 1 := List.length_tail
  have ej : Lib.join ((wdL t.data.toList).tail.map (·.data.toList)) (⟨#[32]⟩ : ByteArray).data.toList = joL (splL t.data.toList).tail := by
    have e1 : (wdL t.data.toList).tail.map (·.data.toList) = (splL t.data.toList).tail := by
      unfold wdL
      rw [← List.map_tail, List.map_map]
      show (splL t.data.toList).tail.map (fun x => x) = _
      rw [List.map_id']
    rw [e1]
    exact join_jo _
  have hjl := jo_tail t.data.toList
  rw [bl_len] at hjl
  have hcnt := spl_cnt t.data.toList
  rw [bl_len, ← wdL_len] at hcnt
  have con := Tryz.strings_Join g 1 ((wdL t.data.toList).length - 1) (wdL t.data.toList).tail ⟨#[32]⟩ w (by
    intro j x hx
    rw [List.getElem?_tail] at hx
    obtain ⟨hj, rfl⟩ := List.getElem?_eq_some_iff.1 hx
    have := hc (j + 1) hj
    rw [show 1 + j = j + 1 by omega]
    exact this) hg (by omega) (by omega) (by rw [ej]; omega)
  rw [ej, hl] at con
  exact con
theorem fk_n {k : Nat} {x0 : Int} {r : List Int} (h : ¬ k = 8) (g : ¬ 1 < (x0 :: r).length) : fk k (x0 :: r) = ((k : Int), x0, 0) := by
  unfold fk
  rw [if_neg h, if_neg g, if_neg h]
  rfl
theorem fk_n2 {k : Nat} {x0 x1 : Int} {r : List Int} (h : ¬ k = 8) : fk k (x0 :: x1 :: r) = ((k : Int), x0, x1) := by
  unfold fk
  rw [if_neg h, if_pos (by simp)]
  rfl
theorem fk_8 {x0 : Int} {r : List Int} (g : ¬ 1 < (x0 :: r).length) : fk 8 (x0 :: r) = ((8 : Int), 0, x0) := by
  unfold fk
  rw [if_pos rfl, if_neg g, if_pos rfl]
  rfl
theorem fk_82 {x0 x1 : Int} {r : List Int} : fk 8 (x0 :: x1 :: r) = ((8 : Int), 0, x1) := by
  unfold fk
  rw [if_pos rfl, if_pos (by simp)]
  rfl
theorem own_ints {w : World} {B g c : Nat} {l : List Int} (O : w.ownsRow B 2 1 (.slice (some ⟨g, 0, none⟩) l.length c) l.length (flat fI l)) (j : Nat) (hj : j < l.length) : w.cell? ⟨g, j, none⟩ = some (.int .i64 l[j]) := by
  obtain ⟨b, off, e, _, hc⟩ := (RR.own O).at_ fI_len rfl j hj
  cases e
  have := hc 0 _ (by omega) rfl
  simpa using this
set_option maxRecDepth 100000 in
set_option maxHeartbeats 16000000 in
theorem impl_ReadFeature_any (t : ByteArray) (w : World) (ht : t.size ≤ 1048576) (G : GW w) : Calls Tryz.prog 7 #[.string t] w fun e w' => e = .returned (.tuple #[.agg #[.int .i64 (rfF t.data.toList).1, .int .i64 (rfF t.data.toList).2.1, .int .i64 (rfF t.data.toList).2.2], .bool (rfOk t.data.toList)]) ∧ Below w.heap.size w w' := by
  have Z0 := BX.made w 29 [.int .i64 0, .int .i64 0, .int .i64 0]
  have hB0 : BB w (w.alloc (.cells #[.int .i64 0, .int .i64 0, .int .i64 0] 29)) := BB.al (BB.start w) _
  have GX := Lib.hid G
  have sp := split_any t (w.alloc (.cells #[.int .i64 0, .int .i64 0, .int .i64 0] 29)) ht (G.bb hB0)
  have HJO := Lib.hid (fun g W => join_any t g W ht)
  have SN := Lib.hid (fun (W : World) (h : BB w W) => splitNumbers_any (mkR (joL (splL t.data.toList).tail)) W (by rw [mkR_size]; have := jo_tail t.data.toList; rw [bl_len] at this; omega) (GX.out.bb h))
  have hwpos : 0 < (wdL t.data.toList).length := by
    rw [wdL_len]
    cases h : splL t.data.toList with
    | nil => exact absurd h (splL_ne _)
    | cons x r => simp
  have HT1 := Lib.hid (fun (h : (wdL t.data.toList).length = 1) => (show (⟨#[]⟩ : ByteArray) = mkR (joL (splL t.data.toList).tail) by
    rw [wdL_len] at h
    obtain ⟨x, hx⟩ := List.length_eq_one_iff.1 h
    rw [hx]
    rfl))
  have HNU := Lib.hid (show numsL t.data.toList = (splL (joL (splL t.data.toList).tail)).mapM readD from rfl)
  have HTM := Lib.hid (bl_mk t)
  have HNN := Lib.hid (fun h => rf_none (t := t.data.toList) h)
  have HHIT := Lib.hid (fun l k hn h => rf_hit (t := t.data.toList) (l := l) (k := k) hn h)
  have HMISS := Lib.hid (fun l hn h => rf_miss (t := t.data.toList) (l := l) hn h)
  have HFY := Lib.hid (fun h => rfF_y (t := t.data.toList) h)
  have HFN := Lib.hid (fun h => rfF_n (t := t.data.toList) h)
  generalize wdL t.data.toList = wl at sp HJO hwpos HT1
  obtain ⟨JT, hJT⟩ : ∃ x, mkR (joL (splL t.data.toList).tail) = x := ⟨_, rfl⟩
  have SN2 : ∀ (W : World), BB w W → Calls Tryz.prog 16 #[.string JT, .string ⟨#[32]⟩] W fun e w' => ((∃ L A c, numsL t.data.toList = some L ∧ L ≠ [] ∧ e = .returned (.tuple #[.slice A L.length c, .bool true]) ∧ w'.ownsRow W.heap.size 2 1 (.slice A L.length c) L.length (flat fI L)) ∨ (numsL t.data.toList = none ∧ e = .returned (.tuple #[.slice none 0 0, .bool false]))) ∧ Below W.heap.size W w' := fun W h => by
    have := SN.out W h
    rw [hJT] at this
    rw [HNU.out]
    rw [← hJT] at this
    exact hJT ▸ this
  have SN2 := Lib.hid SN2
  rw [hJT] at HJO HT1
  generalize t.data.toList = tl at *
  clear SN HNU hJT G
  have hw1 : 1 ≤ wl.length := hwpos
  have hw1i : (1 : Int) ≤ (wl.length : Int) := by omega
  go_enter Tryz.func7, Tryz.ntmps7
  go_upto_region 2 with (go_at_call 15; (with_reducible refine sp.mono ?_); rintro e w1 ⟨g, rfl, hcw, hg1, hg2, hx1⟩; have Z1 := Z0.below hx1 Z0.lt; have hB1 : BB w w1 := BB.next hB0 hx1)
  have HCW := Lib.hid hcw
  have HZL := Lib.hid Z0.lt
  clear sp Z0 hB0 hx1 hcw hg1
  generalize hgz : w.heap.size = gZ at Z1 HZL ⊢
  have HGZ := Lib.hid hgz
  clear hgz
  go_cut [5, 6] (fun a b wx => ((∃ L g7 c, numsL tl = some L ∧ L ≠ [] ∧ a = .slice (some ⟨g7, 0, none⟩) L.length c ∧ b = .bool true ∧ gZ < g7 ∧ g7 < wx.heap.size ∧ Hid (∀ j, (hj : j < L.length) → wx.cell? ⟨g7, j, none⟩ = some (.int .i64 L[j]))) ∨ (numsL tl = none ∧ a = .slice none 0 0 ∧ b = .bool false)) ∧ BX wx gZ 29 [.int .i64 0, .int .i64 0, .int .i64 0] ∧ BB w wx)
  case first =>
    by_cases h1 : wl.length = 1
    · have hJ := HT1.out h1
      have JC : ∀ W : World, BB w W → Calls Tryz.prog 17 #[.slice (some ⟨g, 0, none⟩) 0 0, .string ⟨#[32]⟩] W fun e w' => e = .returned (.string JT) ∧ BB W w' := fun W hB => (Tryz.strings_Join_none (some ⟨g, 0, none⟩) 0 ⟨#[32]⟩ W).mono (by rintro e w' ⟨rfl, rfl⟩; exact ⟨by rw [hJ], BB.start _⟩)
      clear hJ HT1 HJO
      simp only [h1] at hwpos hw1 hw1i ⊢
      go_wp2_with (first
        | (go_at_call 17; (with_reducible refine (JC _ hB1).mono ?_); rintro e w2 ⟨rfl, hx2⟩; have Z2 := Z1.below hx2 Z1.lt; have hB2 : BB w w2 := BB.next hB1 hx2; have hz2 := Z2.lt)
        | (go_at_call 16; (with_reducible refine (SN2.out _ hB2).mono ?_); rintro e w3 ⟨(⟨L, A, c, hN, hne, rfl, OL⟩ | ⟨hN, rfl⟩), hx3⟩))
      · rw [← h1]
        go_meet
        have hlp : 0 < L.length := List.length_pos_iff.2 hne
        obtain ⟨g7, c7, e7, h7a, h7b⟩ := World.ownsRow.form OL hlp
        cases e7
        exact ⟨Or.inl ⟨L, g7, c, hN, hne, rfl, rfl, by omega, h7b, Lib.hid (fun j hj => own_ints OL j hj)⟩, Z2.below hx3 Z2.lt, BB.next hB2 hx3⟩
      · rw [← h1]
        go_meet
        exact ⟨Or.inr ⟨hN, rfl, rfl⟩, Z2.below hx3 Z2.lt, BB.next hB2 hx3⟩
    · have h2 : 1 < wl.length := by omega
      have JC := HJO.out g w1 HCW.out hg2 h2
      have hcl : (_ : Int) < _ := (show (1 : Int) < (wl.length : Int) by omega)
      clear HT1 HJO
      go_wp2_with (first
        | (go_at_call 17; (with_reducible refine JC.mono ?_); rintro e w2 ⟨rfl, hx2⟩; have Z2 := Z1.below hx2 Z1.lt; have hB2 : BB w w2 := BB.next hB1 hx2; have hz2 := Z2.lt)
        | (go_at_call 16; (with_reducible refine (SN2.out _ hB2).mono ?_); rintro e w3 ⟨(⟨L, A, c, hN, hne, rfl, OL⟩ | ⟨hN, rfl⟩), hx3⟩))
      · go_meet
        have hlp : 0 < L.length := List.length_pos_iff.2 hne
        obtain ⟨g7, c7, e7, h7a, h7b⟩ := World.ownsRow.form OL hlp
        cases e7
        exact ⟨Or.inl ⟨L, g7, c, hN, hne, rfl, rfl, by omega, h7b, Lib.hid (fun j hj => own_ints OL j hj)⟩, Z2.below hx3 Z2.lt, BB.next hB2 hx3⟩
      · go_meet
        exact ⟨Or.inr ⟨hN, rfl, rfl⟩, Z2.below hx3 Z2.lt, BB.next hB2 hx3⟩
  case rest =>
    obtain ⟨hd, Z, hB⟩ := hcut
    clear Z1 hB1 HCW hg2 HT1 HJO SN2 hwpos hw1 hw1i
    obtain ⟨w4, hw4⟩ : ∃ x, x = wc := ⟨_, rfl⟩
    subst hw4
    rcases hd with ⟨L, g7, c, hN, hne, rfl, rfl, hg7, hg7b, HC⟩ | ⟨hN, rfl, rfl⟩
    · have hlp : 0 < L.length := List.length_pos_iff.2 hne
      have HH := Lib.hid (fun k h => HHIT.out L k hN h)
      have HM := Lib.hid (fun h => HMISS.out L hN h)
      clear hne HHIT HMISS HNN hN
      obtain ⟨FK, hFK⟩ : ∃ F, (fun k => fk k L) = F := ⟨_, rfl⟩
      have HFK := Lib.hid (fun k => (show FK k = ((k : Int), if k = 8 then 0 else L.headD 0, if 1 < L.length then L.getD 1 0 else if k = 8 then L.headD 0 else 0) by rw [← hFK]; rfl))
      have HH := Lib.hid (show ∀ k, ftx (FK k) = tl → rfOk tl = true ∧ rfZ tl = FK k by rw [← hFK]; exact fun k h => HH.out k h)
      have HM := Lib.hid (show (∀ k : Nat, 1 ≤ k → k ≤ 8 → ftx (FK k) ≠ tl) → rfOk tl = false by rw [← hFK]; exact HM.out)
      have HC0 := Lib.hid (show w4.cell? ⟨g7, 0, none⟩ = some (.int .i64 (L.headD 0)) by rw [HC.out 0 hlp]; cases L with | nil => exact absurd hlp (by simp) | cons x r => rfl)
      have HC1 := Lib.hid (fun h : 1 < L.length => (show w4.cell? ⟨g7, 1, none⟩ = some (.int .i64 (L.getD 1 0)) by rw [HC.out 1 h, List.getD_eq_getElem?_getD, List.getElem?_eq_getElem h]; rfl))
      clear hFK HC
      generalize L.headD 0 = x0 at HFK HC0
      generalize L.getD 1 0 = x1 at HFK HC1
      generalize L.length = n at *
      have hlpi : (0 : Int) < (n : Int) := by omega
      go_wp2_with fail
      go_loopw [7] (fun i wr => ∃ k : Nat, i = .int .i64 ((k + 1 : Nat) : Int) ∧ k ≤ 8 ∧ BX wr gZ 29 [.int .i64 0, .int .i64 0, .int .i64 0] ∧ g7 < wr.heap.size ∧ Hid (wr.cell? ⟨g7, 0, none⟩ = some (.int .i64 x0)) ∧ Hid (1 < n → wr.cell? ⟨g7, 1, none⟩ = some (.int .i64 x1)) ∧ Hid (∀ j : Nat, 1 ≤ j → j ≤ k → ftx (FK j) ≠ tl) ∧ BB w wr) (fun i _ => 9 - (RowKit.intOf i).toNat)
      case atStart => exact ⟨0, rfl, by omega, Z, hg7b, HC0, HC1, Lib.hid (fun j h1 h2 => by omega), hB⟩
      case round =>
        clear Z hg7b HC0 HC1 hB
        obtain ⟨k, rfl, hk, Z, hg7b, HC0, HC1, HMS, hB⟩ := hrel
        by_cases hlt8 : k < 8
        · have hki : ((k + 1 : Nat) : Int) ≤ 8 := by omega
          have hkd : decide (((k + 1 : Nat) : Int) ≤ 8) = true := decide_eq_true hki
          have hk1 : 0 ≤ ((k + 1 : Nat) : Int) := by omega
          obtain ⟨q, hq⟩ : ∃ q, k + 1 = q := ⟨_, rfl⟩
          rw [hq] at hki hkd hk1 ⊢
          have HFQ := Lib.hid (HFK.out q)
          go_upto_region 9 with fail
          have F := BX.made wr 29 [.int .i64 (q : Int), .int .i64 0, .int .i64 0]
          have Z9 := Z.al (.cells #[.int .i64 (q : Int), .int .i64 0, .int .i64 0] 29)
          have hB9 := BB.al hB (.cells #[.int .i64 (q : Int), .int .i64 0, .int .i64 0] 29)
          have hx9 : Below wr.heap.size wr (wr.alloc (.cells #[.int .i64 (q : Int), .int .i64 0, .int .i64 0] 29)) := BB.al (BB.start wr) _
          have c0 := (Below.cell hx9 (p := ⟨g7, 0, none⟩) hg7b).trans HC0.out
          have HC19 := Lib.hid (fun h => (Below.cell hx9 (p := ⟨g7, 1, none⟩) hg7b).trans (HC1.out h))
          have hzF : gZ < wr.heap.size := Z.lt
          clear hx9 Z hB HC0 HC1
          have F : BX (wr.alloc (.cells #[.int .i64 (q : Int), .int .i64 0, .int .i64 0] 29)) wr.heap.size 29 [.int .i64 (q : Int), .int .i64 0, .int .i64 0] := F
          generalize wr.alloc (.cells #[.int .i64 (q : Int), .int .i64 0, .int .i64 0] 29) = w9 at F Z9 hB9 HC19 c0 ⊢
          generalize wr.heap.size = gF at F hg7b hzF ⊢
          have hwF : w.heap.size ≤ gF := by have := HGZ.out; omega
          have hfz := fun j => F.free j
          have f0 : (_ : Option Value) = some (.int .i64 (q : Int)) := F.cell 0 (by simp)
          have f1 : (_ : Option Value) = some (.int .i64 0) := F.cell 1 (by simp)
          have f2 : (_ : Option Value) = some (.int .i64 0) := F.cell 2 (by simp)
          by_cases h8 : q = 8
          · have q8 : ((q : Int) == 8) = true := by rw [h8]; rfl
            by_cases h1 : 1 < n
            · have HV := Lib.hid (show FK q = ((q : Int), 0, x1) by rw [HFQ.out]; simp [h8, h1])
              have c0b : (_ : Option Value) = some (.int .i64 x0) := (World.cell?_setCell_other w9 ⟨gF, 2, none⟩ ⟨g7, 0, none⟩ (.int .i64 x0) (by intro e; injection e with e1; omega)).trans c0
              have F1 := F.put 2 (.int .i64 x0)
              have Z1 := Z9.far (a := ⟨gF, 2, none⟩) (by show gZ ≠ gF; omega) (.int .i64 x0)
              have hB1 := BB.putR hB9 (a := ⟨gF, 2, none⟩) hwF (.int .i64 x0)
              have hfz1 := fun j => F1.free j
              have p0 : (_ : Option Value) = some (.int .i64 (q : Int)) := F1.cell 0 (by simp)
              have p1 : (_ : Option Value) = some (.int .i64 (0)) := F1.cell 1 (by simp)
              have p2 : (_ : Option Value) = some (.int .i64 (x0)) := F1.cell 2 (by simp)
              have HC11 := Lib.hid (fun h => (show (w9.setCell ⟨gF, 2, none⟩ (.int .i64 x0)).cell? ⟨g7, 1, none⟩ = some (.int .i64 x1) from (World.cell?_setCell_other w9 ⟨gF, 2, none⟩ ⟨g7, 1, none⟩ (.int .i64 x0) (by intro e; injection e with e1; omega)).trans (HC19.out h)))
              have hgt : decide ((1 : Int) < (n : Int)) = true := decide_eq_true (by omega)
              have h1i : (1 : Int) < (n : Int) := by omega
              have c1 := HC19.out h1
              have c1b := HC11.out h1
              have hB2 := BB.putR hB1 (a := ⟨gF, 2, none⟩) hwF (.int .i64 x1)
              have F2 := F1.put 2 (.int .i64 x1)
              have hfz2 := fun j => F2.free j
              have Z2 := Z1.far (a := ⟨gF, 2, none⟩) (by show gZ ≠ gF; omega) (.int .i64 x1)
              have c0c : (_ : Option Value) = some (.int .i64 x0) := (World.cell?_setCell_other (w9.setCell ⟨gF, 2, none⟩ (.int .i64 x0)) ⟨gF, 2, none⟩ ⟨g7, 0, none⟩ (.int .i64 x1) (by intro e; injection e with e1; omega)).trans c0b
              have HC12 := Lib.hid (fun h => (show ((w9.setCell ⟨gF, 2, none⟩ (.int .i64 x0)).setCell ⟨gF, 2, none⟩ (.int .i64 x1)).cell? ⟨g7, 1, none⟩ = some (.int .i64 x1) from (World.cell?_setCell_other _ ⟨gF, 2, none⟩ ⟨g7, 1, none⟩ (.int .i64 x1) (by intro e; injection e with e1; omega)).trans (HC11.out h)))
              clear h1 h8 HFQ
              go_upto_region 14 with fail
              have F13 : BX ((w9.setCell ⟨gF, 2, none⟩ (.int .i64 x0)).setCell ⟨gF, 2, none⟩ (.int .i64 x1)) gF 29 [.int .i64 (q : Int), .int .i64 0, .int .i64 x1] := F2
              have Z13 := Z2
              have hB13 := hB2
              have c013 := c0c
              have HC113 := HC12
              clear F2 Z2 hB2 c0c HC12 c1 c1b hfz2 h1i HC11 c0b F1 Z1 hB1 hfz1 p0 p1 p2 f0 f1 f2 hfz F Z9 hB9 c0 HC19 hgt
              generalize (w9.setCell ⟨gF, 2, none⟩ (.int .i64 x0)).setCell ⟨gF, 2, none⟩ (.int .i64 x1) = w13 at F13 Z13 hB13 c013 HC113 ⊢
              have e0 : (_ : Option Value) = some (.int .i64 (q : Int)) := F13.cell 0 (by simp)
              have e1 : (_ : Option Value) = some (.int .i64 0) := F13.cell 1 (by simp)
              have e2 : (_ : Option Value) = some (.int .i64 x1) := F13.cell 2 (by simp)
              have tx13 := impl_FeatureText_any ((q : Int)) (0) (x1) w13 (GX.out.bb hB13)
              have HCM := Lib.hid (show ((mkR (ftx ((q : Int), (0 : Int), (x1 : Int)))).toList == t.toList) = decide (ftx ((q : Int), (0 : Int), (x1 : Int)) = tl) by rw [HTM.out]; exact mkR_eq _ _)
              cases hc : decide (ftx ((q : Int), (0 : Int), (x1 : Int)) = tl)
              · have hcm : ((mkR (ftx ((q : Int), (0 : Int), (x1 : Int)))).toList == t.toList) = false := HCM.out.trans hc
                have HMQ := Lib.hid (show ftx (FK q) ≠ tl by rw [HV.out]; exact of_decide_eq_false hc)
                generalize mkR (ftx ((q : Int), (0 : Int), (x1 : Int))) = TX at tx13 hcm
                clear hc HCM HV
                go_wp2_with (go_at_call 8; (with_reducible refine tx13.mono ?_); rintro e w5 ⟨rfl, hx5⟩)
                go_roundw
                case rel => exact ⟨k + 1, by rw [hq]; go_num, by omega, Z13.below hx5 Z13.lt, by have := (F13.below hx5 F13.lt).lt; omega, Lib.hid ((Below.cell hx5 (p := ⟨g7, 0, none⟩) (by have := F13.lt; show g7 < _; omega)).trans c013), Lib.hid (fun h => (Below.cell hx5 (p := ⟨g7, 1, none⟩) (by have := F13.lt; show g7 < _; omega)).trans (HC113.out h)), Lib.hid (fun j h1 h2 => (show j ≤ k ∨ j = q by omega).elim (fun h => HMS.out j h1 h) (fun h => h ▸ HMQ.out)), BB.next hB13 hx5⟩
                case measure => simp [RowKit.intOf]; omega
              · have hcm : ((mkR (ftx ((q : Int), (0 : Int), (x1 : Int)))).toList == t.toList) = true := HCM.out.trans hc
                have hgood := HH.out q (by rw [HV.out]; exact of_decide_eq_true hc)
                have HR := Lib.hid (show rfOk tl = true ∧ rfF tl = ((q : Int), (0 : Int), (x1 : Int)) from ⟨hgood.1, by rw [HFY.out hgood.1, hgood.2, HV.out]⟩)
                generalize mkR (ftx ((q : Int), (0 : Int), (x1 : Int))) = TX at tx13 hcm
                clear hc HCM HV hgood
                go_wp2_with (go_at_call 8; (with_reducible refine tx13.mono ?_); rintro e w5 ⟨rfl, hx5⟩; have F5 := F13.below hx5 F13.lt; have Z5 := Z13.below hx5 Z13.lt; have hB5 : BB w w5 := BB.next hB13 hx5; have y0 : (_ : Option Value) = some (.int .i64 (q : Int)) := F5.cell 0 (by simp); have y1 : (_ : Option Value) = some (.int .i64 0) := F5.cell 1 (by simp); have y2 : (_ : Option Value) = some (.int .i64 x1) := F5.cell 2 (by simp); have z0 : (_ : Option Value) = some (.int .i64 0) := Z5.cell 0 (by simp); have z1 : (_ : Option Value) = some (.int .i64 0) := Z5.cell 1 (by simp); have z2 : (_ : Option Value) = some (.int .i64 0) := Z5.cell 2 (by simp); have hfz := fun j => Z5.free j)
                have hne9 : gF ≠ gZ := by omega
                refine bodyPost_ret (v := .tuple #[.agg #[.int .i64 (q : Int), .int .i64 0, .int .i64 x1], .bool true]) (by simp [results, Tryz.results7, go_sem, World.cell?_setCell_other, z0, z1, z2]) rfl ⟨by rw [HR.out.1, HR.out.2], ?_⟩
                exact bb3 HGZ.out hB5 _ _ _
            · have HV := Lib.hid (show FK q = ((q : Int), 0, x0) by rw [HFQ.out]; simp [h8, h1])
              have c0b : (_ : Option Value) = some (.int .i64 x0) := (World.cell?_setCell_other w9 ⟨gF, 2, none⟩ ⟨g7, 0, none⟩ (.int .i64 x0) (by intro e; injection e with e1; omega)).trans c0
              have F1 := F.put 2 (.int .i64 x0)
              have Z1 := Z9.far (a := ⟨gF, 2, none⟩) (by show gZ ≠ gF; omega) (.int .i64 x0)
              have hB1 := BB.putR hB9 (a := ⟨gF, 2, none⟩) hwF (.int .i64 x0)
              have hfz1 := fun j => F1.free j
              have p0 : (_ : Option Value) = some (.int .i64 (q : Int)) := F1.cell 0 (by simp)
              have p1 : (_ : Option Value) = some (.int .i64 (0)) := F1.cell 1 (by simp)
              have p2 : (_ : Option Value) = some (.int .i64 (x0)) := F1.cell 2 (by simp)
              have HC11 := Lib.hid (fun h => (show (w9.setCell ⟨gF, 2, none⟩ (.int .i64 x0)).cell? ⟨g7, 1, none⟩ = some (.int .i64 x1) from (World.cell?_setCell_other w9 ⟨gF, 2, none⟩ ⟨g7, 1, none⟩ (.int .i64 x0) (by intro e; injection e with e1; omega)).trans (HC19.out h)))
              have hgt : decide ((1 : Int) < (n : Int)) = false := decide_eq_false (by omega)
              clear h1 h8 HFQ
              go_upto_region 14 with fail
              have F13 : BX (w9.setCell ⟨gF, 2, none⟩ (.int .i64 x0)) gF 29 [.int .i64 (q : Int), .int .i64 0, .int .i64 x0] := F1
              have Z13 := Z1
              have hB13 := hB1
              have c013 := c0b
              have HC113 := HC11
              clear HC11 c0b F1 Z1 hB1 hfz1 p0 p1 p2 f0 f1 f2 hfz F Z9 hB9 c0 HC19 hgt
              generalize w9.setCell ⟨gF, 2, none⟩ (.int .i64 x0) = w13 at F13 Z13 hB13 c013 HC113 ⊢
              have e0 : (_ : Option Value) = some (.int .i64 (q : Int)) := F13.cell 0 (by simp)
              have e1 : (_ : Option Value) = some (.int .i64 0) := F13.cell 1 (by simp)
              have e2 : (_ : Option Value) = some (.int .i64 x0) := F13.cell 2 (by simp)
              have tx13 := impl_FeatureText_any ((q : Int)) (0) (x0) w13 (GX.out.bb hB13)
              have HCM := Lib.hid (show ((mkR (ftx ((q : Int), (0 : Int), (x0 : Int)))).toList == t.toList) = decide (ftx ((q : Int), (0 : Int), (x0 : Int)) = tl) by rw [HTM.out]; exact mkR_eq _ _)
              cases hc : decide (ftx ((q : Int), (0 : Int), (x0 : Int)) = tl)
              · have hcm : ((mkR (ftx ((q : Int), (0 : Int), (x0 : Int)))).toList == t.toList) = false := HCM.out.trans hc
                have HMQ := Lib.hid (show ftx (FK q) ≠ tl by rw [HV.out]; exact of_decide_eq_false hc)
                generalize mkR (ftx ((q : Int), (0 : Int), (x0 : Int))) = TX at tx13 hcm
                clear hc HCM HV
                go_wp2_with (go_at_call 8; (with_reducible refine tx13.mono ?_); rintro e w5 ⟨rfl, hx5⟩)
                go_roundw
                case rel => exact ⟨k + 1, by rw [hq]; go_num, by omega, Z13.below hx5 Z13.lt, by have := (F13.below hx5 F13.lt).lt; omega, Lib.hid ((Below.cell hx5 (p := ⟨g7, 0, none⟩) (by have := F13.lt; show g7 < _; omega)).trans c013), Lib.hid (fun h => (Below.cell hx5 (p := ⟨g7, 1, none⟩) (by have := F13.lt; show g7 < _; omega)).trans (HC113.out h)), Lib.hid (fun j h1 h2 => (show j ≤ k ∨ j = q by omega).elim (fun h => HMS.out j h1 h) (fun h => h ▸ HMQ.out)), BB.next hB13 hx5⟩
                case measure => simp [RowKit.intOf]; omega
              · have hcm : ((mkR (ftx ((q : Int), (0 : Int), (x0 : Int)))).toList == t.toList) = true := HCM.out.trans hc
                have hgood := HH.out q (by rw [HV.out]; exact of_decide_eq_true hc)
                have HR := Lib.hid (show rfOk tl = true ∧ rfF tl = ((q : Int), (0 : Int), (x0 : Int)) from ⟨hgood.1, by rw [HFY.out hgood.1, hgood.2, HV.out]⟩)
                generalize mkR (ftx ((q : Int), (0 : Int), (x0 : Int))) = TX at tx13 hcm
                clear hc HCM HV hgood
                go_wp2_with (go_at_call 8; (with_reducible refine tx13.mono ?_); rintro e w5 ⟨rfl, hx5⟩; have F5 := F13.below hx5 F13.lt; have Z5 := Z13.below hx5 Z13.lt; have hB5 : BB w w5 := BB.next hB13 hx5; have y0 : (_ : Option Value) = some (.int .i64 (q : Int)) := F5.cell 0 (by simp); have y1 : (_ : Option Value) = some (.int .i64 0) := F5.cell 1 (by simp); have y2 : (_ : Option Value) = some (.int .i64 x0) := F5.cell 2 (by simp); have z0 : (_ : Option Value) = some (.int .i64 0) := Z5.cell 0 (by simp); have z1 : (_ : Option Value) = some (.int .i64 0) := Z5.cell 1 (by simp); have z2 : (_ : Option Value) = some (.int .i64 0) := Z5.cell 2 (by simp); have hfz := fun j => Z5.free j)
                have hne9 : gF ≠ gZ := by omega
                refine bodyPost_ret (v := .tuple #[.agg #[.int .i64 (q : Int), .int .i64 0, .int .i64 x0], .bool true]) (by simp [results, Tryz.results7, go_sem, World.cell?_setCell_other, z0, z1, z2]) rfl ⟨by rw [HR.out.1, HR.out.2], ?_⟩
                exact bb3 HGZ.out hB5 _ _ _
          · have q8 : ((q : Int) == 8) = false := by rw [beq_eq_false_iff_ne]; omega
            by_cases h1 : 1 < n
            · have HV := Lib.hid (show FK q = ((q : Int), x0, x1) by rw [HFQ.out]; simp [h8, h1])
              have c0b : (_ : Option Value) = some (.int .i64 x0) := (World.cell?_setCell_other w9 ⟨gF, 1, none⟩ ⟨g7, 0, none⟩ (.int .i64 x0) (by intro e; injection e with e1; omega)).trans c0
              have F1 := F.put 1 (.int .i64 x0)
              have Z1 := Z9.far (a := ⟨gF, 1, none⟩) (by show gZ ≠ gF; omega) (.int .i64 x0)
              have hB1 := BB.putR hB9 (a := ⟨gF, 1, none⟩) hwF (.int .i64 x0)
              have hfz1 := fun j => F1.free j
              have p0 : (_ : Option Value) = some (.int .i64 (q : Int)) := F1.cell 0 (by simp)
              have p1 : (_ : Option Value) = some (.int .i64 (x0)) := F1.cell 1 (by simp)
              have p2 : (_ : Option Value) = some (.int .i64 (0)) := F1.cell 2 (by simp)
              have HC11 := Lib.hid (fun h => (show (w9.setCell ⟨gF, 1, none⟩ (.int .i64 x0)).cell? ⟨g7, 1, none⟩ = some (.int .i64 x1) from (World.cell?_setCell_other w9 ⟨gF, 1, none⟩ ⟨g7, 1, none⟩ (.int .i64 x0) (by intro e; injection e with e1; omega)).trans (HC19.out h)))
              have hgt : decide ((1 : Int) < (n : Int)) = true := decide_eq_true (by omega)
              have h1i : (1 : Int) < (n : Int) := by omega
              have c1 := HC19.out h1
              have c1b := HC11.out h1
              have hB2 := BB.putR hB1 (a := ⟨gF, 2, none⟩) hwF (.int .i64 x1)
              have F2 := F1.put 2 (.int .i64 x1)
              have hfz2 := fun j => F2.free j
              have Z2 := Z1.far (a := ⟨gF, 2, none⟩) (by show gZ ≠ gF; omega) (.int .i64 x1)
              have c0c : (_ : Option Value) = some (.int .i64 x0) := (World.cell?_setCell_other (w9.setCell ⟨gF, 1, none⟩ (.int .i64 x0)) ⟨gF, 2, none⟩ ⟨g7, 0, none⟩ (.int .i64 x1) (by intro e; injection e with e1; omega)).trans c0b
              have HC12 := Lib.hid (fun h => (show ((w9.setCell ⟨gF, 1, none⟩ (.int .i64 x0)).setCell ⟨gF, 2, none⟩ (.int .i64 x1)).cell? ⟨g7, 1, none⟩ = some (.int .i64 x1) from (World.cell?_setCell_other _ ⟨gF, 2, none⟩ ⟨g7, 1, none⟩ (.int .i64 x1) (by intro e; injection e with e1; omega)).trans (HC11.out h)))
              clear h1 h8 HFQ
              go_upto_region 14 with fail
              have F13 : BX ((w9.setCell ⟨gF, 1, none⟩ (.int .i64 x0)).setCell ⟨gF, 2, none⟩ (.int .i64 x1)) gF 29 [.int .i64 (q : Int), .int .i64 x0, .int .i64 x1] := F2
              have Z13 := Z2
              have hB13 := hB2
              have c013 := c0c
              have HC113 := HC12
              clear F2 Z2 hB2 c0c HC12 c1 c1b hfz2 h1i HC11 c0b F1 Z1 hB1 hfz1 p0 p1 p2 f0 f1 f2 hfz F Z9 hB9 c0 HC19 hgt
              generalize (w9.setCell ⟨gF, 1, none⟩ (.int .i64 x0)).setCell ⟨gF, 2, none⟩ (.int .i64 x1) = w13 at F13 Z13 hB13 c013 HC113 ⊢
              have e0 : (_ : Option Value) = some (.int .i64 (q : Int)) := F13.cell 0 (by simp)
              have e1 : (_ : Option Value) = some (.int .i64 x0) := F13.cell 1 (by simp)
              have e2 : (_ : Option Value) = some (.int .i64 x1) := F13.cell 2 (by simp)
              have tx13 := impl_FeatureText_any ((q : Int)) (x0) (x1) w13 (GX.out.bb hB13)
              have HCM := Lib.hid (show ((mkR (ftx ((q : Int), (x0 : Int), (x1 : Int)))).toList == t.toList) = decide (ftx ((q : Int), (x0 : Int), (x1 : Int)) = tl) by rw [HTM.out]; exact mkR_eq _ _)
              cases hc : decide (ftx ((q : Int), (x0 : Int), (x1 : Int)) = tl)
              · have hcm : ((mkR (ftx ((q : Int), (x0 : Int), (x1 : Int)))).toList == t.toList) = false := HCM.out.trans hc
                have HMQ := Lib.hid (show ftx (FK q) ≠ tl by rw [HV.out]; exact of_decide_eq_false hc)
                generalize mkR (ftx ((q : Int), (x0 : Int), (x1 : Int))) = TX at tx13 hcm
                clear hc HCM HV
                go_wp2_with (go_at_call 8; (with_reducible refine tx13.mono ?_); rintro e w5 ⟨rfl, hx5⟩)
                go_roundw
                case rel => exact ⟨k + 1, by rw [hq]; go_num, by omega, Z13.below hx5 Z13.lt, by have := (F13.below hx5 F13.lt).lt; omega, Lib.hid ((Below.cell hx5 (p := ⟨g7, 0, none⟩) (by have := F13.lt; show g7 < _; omega)).trans c013), Lib.hid (fun h => (Below.cell hx5 (p := ⟨g7, 1, none⟩) (by have := F13.lt; show g7 < _; omega)).trans (HC113.out h)), Lib.hid (fun j h1 h2 => (show j ≤ k ∨ j = q by omega).elim (fun h => HMS.out j h1 h) (fun h => h ▸ HMQ.out)), BB.next hB13 hx5⟩
                case measure => simp [RowKit.intOf]; omega
              · have hcm : ((mkR (ftx ((q : Int), (x0 : Int), (x1 : Int)))).toList == t.toList) = true := HCM.out.trans hc
                have hgood := HH.out q (by rw [HV.out]; exact of_decide_eq_true hc)
                have HR := Lib.hid (show rfOk tl = true ∧ rfF tl = ((q : Int), (x0 : Int), (x1 : Int)) from ⟨hgood.1, by rw [HFY.out hgood.1, hgood.2, HV.out]⟩)
                generalize mkR (ftx ((q : Int), (x0 : Int), (x1 : Int))) = TX at tx13 hcm
                clear hc HCM HV hgood
                go_wp2_with (go_at_call 8; (with_reducible refine tx13.mono ?_); rintro e w5 ⟨rfl, hx5⟩; have F5 := F13.below hx5 F13.lt; have Z5 := Z13.below hx5 Z13.lt; have hB5 : BB w w5 := BB.next hB13 hx5; have y0 : (_ : Option Value) = some (.int .i64 (q : Int)) := F5.cell 0 (by simp); have y1 : (_ : Option Value) = some (.int .i64 x0) := F5.cell 1 (by simp); have y2 : (_ : Option Value) = some (.int .i64 x1) := F5.cell 2 (by simp); have z0 : (_ : Option Value) = some (.int .i64 0) := Z5.cell 0 (by simp); have z1 : (_ : Option Value) = some (.int .i64 0) := Z5.cell 1 (by simp); have z2 : (_ : Option Value) = some (.int .i64 0) := Z5.cell 2 (by simp); have hfz := fun j => Z5.free j)
                have hne9 : gF ≠ gZ := by omega
                refine bodyPost_ret (v := .tuple #[.agg #[.int .i64 (q : Int), .int .i64 x0, .int .i64 x1], .bool true]) (by simp [results, Tryz.results7, go_sem, World.cell?_setCell_other, z0, z1, z2]) rfl ⟨by rw [HR.out.1, HR.out.2], ?_⟩
                exact bb3 HGZ.out hB5 _ _ _
            · have HV := Lib.hid (show FK q = ((q : Int), x0, 0) by rw [HFQ.out]; simp [h8, h1])
              have c0b : (_ : Option Value) = some (.int .i64 x0) := (World.cell?_setCell_other w9 ⟨gF, 1, none⟩ ⟨g7, 0, none⟩ (.int .i64 x0) (by intro e; injection e with e1; omega)).trans c0
              have F1 := F.put 1 (.int .i64 x0)
              have Z1 := Z9.far (a := ⟨gF, 1, none⟩) (by show gZ ≠ gF; omega) (.int .i64 x0)
              have hB1 := BB.putR hB9 (a := ⟨gF, 1, none⟩) hwF (.int .i64 x0)
              have hfz1 := fun j => F1.free j
              have p0 : (_ : Option Value) = some (.int .i64 (q : Int)) := F1.cell 0 (by simp)
              have p1 : (_ : Option Value) = some (.int .i64 (x0)) := F1.cell 1 (by simp)
              have p2 : (_ : Option Value) = some (.int .i64 (0)) := F1.cell 2 (by simp)
              have HC11 := Lib.hid (fun h => (show (w9.setCell ⟨gF, 1, none⟩ (.int .i64 x0)).cell? ⟨g7, 1, none⟩ = some (.int .i64 x1) from (World.cell?_setCell_other w9 ⟨gF, 1, none⟩ ⟨g7, 1, none⟩ (.int .i64 x0) (by intro e; injection e with e1; omega)).trans (HC19.out h)))
              have hgt : decide ((1 : Int) < (n : Int)) = false := decide_eq_false (by omega)
              clear h1 h8 HFQ
              go_upto_region 14 with fail
              have F13 : BX (w9.setCell ⟨gF, 1, none⟩ (.int .i64 x0)) gF 29 [.int .i64 (q : Int), .int .i64 x0, .int .i64 0] := F1
              have Z13 := Z1
              have hB13 := hB1
              have c013 := c0b
              have HC113 := HC11
              clear HC11 c0b F1 Z1 hB1 hfz1 p0 p1 p2 f0 f1 f2 hfz F Z9 hB9 c0 HC19 hgt
              generalize w9.setCell ⟨gF, 1, none⟩ (.int .i64 x0) = w13 at F13 Z13 hB13 c013 HC113 ⊢
              have e0 : (_ : Option Value) = some (.int .i64 (q : Int)) := F13.cell 0 (by simp)
              have e1 : (_ : Option Value) = some (.int .i64 x0) := F13.cell 1 (by simp)
              have e2 : (_ : Option Value) = some (.int .i64 0) := F13.cell 2 (by simp)
              have tx13 := impl_FeatureText_any ((q : Int)) (x0) (0) w13 (GX.out.bb hB13)
              have HCM := Lib.hid (show ((mkR (ftx ((q : Int), (x0 : Int), (0 : Int)))).toList == t.toList) = decide (ftx ((q : Int), (x0 : Int), (0 : Int)) = tl) by rw [HTM.out]; exact mkR_eq _ _)
              cases hc : decide (ftx ((q : Int), (x0 : Int), (0 : Int)) = tl)
              · have hcm : ((mkR (ftx ((q : Int), (x0 : Int), (0 : Int)))).toList == t.toList) = false := HCM.out.trans hc
                have HMQ := Lib.hid (show ftx (FK q) ≠ tl by rw [HV.out]; exact of_decide_eq_false hc)
                generalize mkR (ftx ((q : Int), (x0 : Int), (0 : Int))) = TX at tx13 hcm
                clear hc HCM HV
                go_wp2_with (go_at_call 8; (with_reducible refine tx13.mono ?_); rintro e w5 ⟨rfl, hx5⟩)
                go_roundw
                case rel => exact ⟨k + 1, by rw [hq]; go_num, by omega, Z13.below hx5 Z13.lt, by have := (F13.below hx5 F13.lt).lt; omega, Lib.hid ((Below.cell hx5 (p := ⟨g7, 0, none⟩) (by have := F13.lt; show g7 < _; omega)).trans c013), Lib.hid (fun h => (Below.cell hx5 (p := ⟨g7, 1, none⟩) (by have := F13.lt; show g7 < _; omega)).trans (HC113.out h)), Lib.hid (fun j h1 h2 => (show j ≤ k ∨ j = q by omega).elim (fun h => HMS.out j h1 h) (fun h => h ▸ HMQ.out)), BB.next hB13 hx5⟩
                case measure => simp [RowKit.intOf]; omega
              · have hcm : ((mkR (ftx ((q : Int), (x0 : Int), (0 : Int)))).toList == t.toList) = true := HCM.out.trans hc
                have hgood := HH.out q (by rw [HV.out]; exact of_decide_eq_true hc)
                have HR := Lib.hid (show rfOk tl = true ∧ rfF tl = ((q : Int), (x0 : Int), (0 : Int)) from ⟨hgood.1, by rw [HFY.out hgood.1, hgood.2, HV.out]⟩)
                generalize mkR (ftx ((q : Int), (x0 : Int), (0 : Int))) = TX at tx13 hcm
                clear hc HCM HV hgood
                go_wp2_with (go_at_call 8; (with_reducible refine tx13.mono ?_); rintro e w5 ⟨rfl, hx5⟩; have F5 := F13.below hx5 F13.lt; have Z5 := Z13.below hx5 Z13.lt; have hB5 : BB w w5 := BB.next hB13 hx5; have y0 : (_ : Option Value) = some (.int .i64 (q : Int)) := F5.cell 0 (by simp); have y1 : (_ : Option Value) = some (.int .i64 x0) := F5.cell 1 (by simp); have y2 : (_ : Option Value) = some (.int .i64 0) := F5.cell 2 (by simp); have z0 : (_ : Option Value) = some (.int .i64 0) := Z5.cell 0 (by simp); have z1 : (_ : Option Value) = some (.int .i64 0) := Z5.cell 1 (by simp); have z2 : (_ : Option Value) = some (.int .i64 0) := Z5.cell 2 (by simp); have hfz := fun j => Z5.free j)
                have hne9 : gF ≠ gZ := by omega
                refine bodyPost_ret (v := .tuple #[.agg #[.int .i64 (q : Int), .int .i64 x0, .int .i64 0], .bool true]) (by simp [results, Tryz.results7, go_sem, World.cell?_setCell_other, z0, z1, z2]) rfl ⟨by rw [HR.out.1, HR.out.2], ?_⟩
                exact bb3 HGZ.out hB5 _ _ _
        · have hk8 : k = 8 := by omega
          subst hk8
          have hbad := HM.out HMS.out
          have HR := Lib.hid (And.intro hbad (HFN.out hbad))
          have z0 : (_ : Option Value) = some (.int .i64 0) := Z.cell 0 (by simp)
          have z1 : (_ : Option Value) = some (.int .i64 0) := Z.cell 1 (by simp)
          have z2 : (_ : Option Value) = some (.int .i64 0) := Z.cell 2 (by simp)
          have hfz := fun j => Z.free j
          clear hbad
          go_wp2_with fail
          refine bodyPost_ret (v := .tuple #[.agg #[.int .i64 0, .int .i64 0, .int .i64 0], .bool false]) (by simp [results, Tryz.results7, go_sem, World.cell?_setCell_other, z0, z1, z2]) rfl ⟨by rw [HR.out.1, HR.out.2], ?_⟩
          exact bb3 HGZ.out hB _ _ _
    · have hbad := HNN.out hN
      have HR := Lib.hid (And.intro hbad (HFN.out hbad))
      have z0 : (_ : Option Value) = some (.int .i64 0) := Z.cell 0 (by simp)
      have z1 : (_ : Option Value) = some (.int .i64 0) := Z.cell 1 (by simp)
      have z2 : (_ : Option Value) = some (.int .i64 0) := Z.cell 2 (by simp)
      have hfz := fun j => Z.free j
      clear hbad hN
      go_wp2_with fail
      refine bodyPost_ret (v := .tuple #[.agg #[.int .i64 0, .int .i64 0, .int .i64 0], .bool false]) (by simp [results, Tryz.results7, go_sem, World.cell?_setCell_other, z0, z1, z2]) rfl ⟨by rw [HR.out.1, HR.out.2], ?_⟩
      exact bb3 HGZ.out hB _ _ _
end Go.Proofs.YthelfgagddldfaaGreatDoor
namespace Go.Proofs.YthelfgagddldfaaGreatDoor
open Go.RowKit
set_option linter.unusedVariables false
set_option linter.unusedSimpArgs false

theorem oneFo (x : DFound) : ∀ u ∈ fFound x, u.oneCell' = true := by
  intro u hu
  simp only [fFound, List.mem_cons, List.not_mem_nil, or_false] at hu
  rcases hu with rfl | rfl | rfl | rfl | rfl | rfl | rfl | rfl <;> rfl
theorem own_capQ {w : World} {base : Nat} {e : TypeId} {size n c : Nat} {A : Option Addr} {xs : List Value} (h : w.ownsRow base e size (.slice A n c) n xs) : n ≤ c := by
  obtain ⟨_, (⟨q, q2⟩ | ⟨g, cap', cur, q, _, _, hc, _⟩)⟩ := h
  · omega
  · cases q; exact hc
set_option maxRecDepth 100000 in
set_option maxHeartbeats 2000000 in
theorem checkTrack_any (f gp : Int) (A : Option Addr) (cx : Nat) (xs : List DSectorSpec) (w : World) (hr : Rd w w.heap.size 8 A xs.length (flat fSectorSpec xs)) (hxn : xs.length ≤ 1048576) (hts : tsB f gp xs = true) :
    Calls Tryz.prog 24 #[.agg #[.int .i64 f, .int .i64 gp, .slice A xs.length cx], .int .i64 1, .int .i64 0] w fun e w' => e = .returned (.int .i64 0) ∧ Below w.heap.size w w' := by
  have F := BX.made w 26 [.int .i64 f, .int .i64 gp, .slice A xs.length cx]
  have hB : BB w (w.alloc (.cells #[.int .i64 f, .int .i64 gp, .slice A xs.length cx] 26)) := BB.al (BB.start w) _
  have hv := impl_ValidTrackSpec_any f gp A cx xs (w.alloc (.cells #[.int .i64 f, .int .i64 gp, .slice A xs.length cx] 26)) ((hr.below hB).more hB.size) hxn
  rw [hts] at hv
  have b1 := fun W => isByte_any 1 W
  have b0 := fun W => isByte_any 0 W
  have c0 : (_ : Option Value) = some (.int .i64 f) := F.cell 0 (by simp)
  have c1 : (_ : Option Value) = some (.int .i64 gp) := F.cell 1 (by simp)
  have c2 : (_ : Option Value) = some (.slice A xs.length cx) := F.cell 2 (by simp)
  go_enter Tryz.func24, Tryz.ntmps24
  go_wp2_with (first
    | (go_at_call 20; (with_reducible refine hv.mono ?_); rintro e w2 ⟨rfl, hx2⟩; have hB2 : BB w w2 := BB.next hB hx2)
    | (go_at_call 41; (with_reducible refine (b1 _).mono ?_); rintro e w3 ⟨rfl, rfl⟩)
    | (go_at_call 41; (with_reducible refine (b0 _).mono ?_); rintro e w3 ⟨rfl, rfl⟩))
  go_ret
  exact ⟨rfl, hB2⟩

set_option maxRecDepth 100000 in
set_option maxHeartbeats 8000000 in
theorem specFeatures_any (f gp : Int) (A : Option Addr) (cx : Nat) (xs : List DSectorSpec) (w : World) (hr : Rd w w.heap.size 8 A xs.length (flat fSectorSpec xs)) (hxn : xs.length ≤ 1000) (hts : tsB f gp xs = true) :
    Calls Tryz.prog 11 #[.agg #[.int .i64 f, .int .i64 gp, .slice A xs.length cx], .int .i64 1, .int .i64 0] w fun e w' => ∃ v, e = .returned (.tuple #[v, .int .i64 0]) ∧ w'.ownsRow w.heap.size 29 3 v (ftsL xs 1 0 xs.length).length (flat fT (ftsL xs 1 0 xs.length)) ∧ Below w.heap.size w w' := by
  have F := BX.made w 26 [.int .i64 f, .int .i64 gp, .slice A xs.length cx]
  have hB : BB w (w.alloc (.cells #[.int .i64 f, .int .i64 gp, .slice A xs.length cx] 26)) := BB.al (BB.start w) _
  have ck := checkTrack_any f gp A cx xs (w.alloc (.cells #[.int .i64 f, .int .i64 gp, .slice A xs.length cx] 26)) ((hr.below hB).more hB.size) (by omega) hts
  have c0 : (_ : Option Value) = some (.int .i64 f) := F.cell 0 (by simp)
  have c1 : (_ : Option Value) = some (.int .i64 gp) := F.cell 1 (by simp)
  have c2 : (_ : Option Value) = some (.slice A xs.length cx) := F.cell 2 (by simp)
  obtain ⟨n, hnn⟩ : ∃ n, xs.length = n := ⟨_, rfl⟩
  rw [hnn] at hr hxn F hB ck c2 ⊢
  have HX := Lib.hid hnn
  clear hnn
  go_enter Tryz.func11, Tryz.ntmps11
  go_wp2_with (go_at_call 24; (with_reducible refine ck.mono ?_); rintro e w2 ⟨rfl, hx2⟩; have hB2 : BB w w2 := BB.next hB hx2; have F2 := F.below hx2 F.lt; have d2 : (_ : Option Value) = some (.slice A n cx) := F2.cell 2 (by simp))
  clear ck c0 c1 c2 d2 F hB
  have hl2 : w.heap.size + 1 ≤ w2.heap.size := F2.lt
  clear F2
  go_loopw [9, 23] (fun v i wr => ∃ (l : List DFound) (B : Option Addr) (q : Nat), i = .int .i64 (l.length : Int) ∧ v = .slice B l.length q ∧ l.length ≤ n ∧ Hid (l = (xs.take l.length).map foB) ∧ OO wr (w.heap.size + 1) 62 8 (.slice B l.length q) l.length (flat fFound l) ∧ BB w wr ∧ w.heap.size + 1 ≤ wr.heap.size) (fun _ i _ => n - (intOf i).toNat)
  case atStart => exact ⟨[], none, 0, rfl, rfl, Nat.zero_le _, Lib.hid rfl, World.ownsRow_nil _ _ _ _, hB2, hl2⟩
  case round =>
    obtain ⟨l, B, q, rfl, rfl, hk, HL, O, hb, hbs⟩ := hrel
    by_cases hlt : l.length < n
    · have hlti : (l.length : Int) < (n : Int) := by omega
      have hkx : l.length < xs.length := by rw [HX.out]; exact hlt
      obtain ⟨b, off, rfl, hbb, hc⟩ := (hr.below hb).at_ fSectorSpec_len HX.out.symm l.length hlt
      have hc0 := hc 0 _ (by omega) rfl
      have hc1 := hc 1 _ (by omega) rfl
      have hc2 := hc 2 _ (by omega) rfl
      have hc3 := hc 3 _ (by omega) rfl
      have hc4 := hc 4 _ (by omega) rfl
      have hc5 := hc 5 _ (by omega) rfl
      have hc6 := hc 6 _ (by omega) rfl
      have hc7 := hc 7 _ (by omega) rfl
      clear hc
      obtain ⟨y, hy⟩ : ∃ y, xs[l.length] = y := ⟨_, rfl⟩
      rw [hy] at hc0 hc1 hc2 hc3 hc4 hc5 hc6 hc7
      simp only [← Nat.add_assoc, Nat.add_zero] at hc0 hc1 hc2 hc3 hc4 hc5 hc6 hc7
      have HL2 := Lib.hid (show l ++ [foB y] = (xs.take (l.length + 1)).map foB by rw [List.take_succ_eq_append_getElem hkx, List.map_append, hy, ← HL.out]; rfl)
      have hno : (Value.slice B l.length q).ownBlock ≠ some (wr.heap.size + 1) := fun e => by have := (World.ownsRow.lt O _ e).2; omega
      have hby : 72 ≤ 1000 := by decide
      have hlb : l.length ≤ 100000000 := by omega
      clear hy hr
      obtain ⟨b6, hb6⟩ : ∃ b, y.f6 = b := ⟨_, rfl⟩
      obtain ⟨b7, hb7⟩ : ∃ b, y.f7 = b := ⟨_, rfl⟩
      rw [hb6] at hc6
      rw [hb7] at hc7
      have H6 := Lib.hid hb6
      have H7 := Lib.hid hb7
      clear hb6 hb7
      cases b6
      · have h6n : ¬ y.f6 = true := by rw [H6.out]; decide
        have H6n := Lib.hid h6n
        clear h6n
        cases b7
        · have H7n := Lib.hid (show ¬ y.f7 = true by rw [H7.out]; decide)
          have D1 := BX.made wr 41 [.int .i64 y.f0, .int .i64 y.f1, .int .i64 y.f2, .int .i64 y.f3, .string y.f4, .bool y.f5, .bool false, .bool false]
          have E1 := BX.made1 wr (.cells #[.int .i64 y.f0, .int .i64 y.f1, .int .i64 y.f2, .int .i64 y.f3, .string y.f4, .bool y.f5, .bool false, .bool false] 41) 62 [.int .i64 y.f0, .int .i64 y.f1, .int .i64 y.f2, .int .i64 y.f3, .string ⟨#[]⟩, .int .i64 1, .bool y.f5, .int .i64 0]
          have D2 := D1.al (.cells #[.int .i64 y.f0, .int .i64 y.f1, .int .i64 y.f2, .int .i64 y.f3, .string ⟨#[]⟩, .int .i64 1, .bool y.f5, .int .i64 0] 62)
          have d0 : (_ : Option Value) = some (.int .i64 y.f0) := D1.cell 0 (by simp)
          have d1 : (_ : Option Value) = some (.int .i64 y.f1) := D1.cell 1 (by simp)
          have d2 : (_ : Option Value) = some (.int .i64 y.f2) := D1.cell 2 (by simp)
          have d3 : (_ : Option Value) = some (.int .i64 y.f3) := D1.cell 3 (by simp)
          have d4 : (_ : Option Value) = some (.string y.f4) := D1.cell 4 (by simp)
          have d5 : (_ : Option Value) = some (.bool y.f5) := D1.cell 5 (by simp)
          have d6 : (_ : Option Value) = some (.bool false) := D1.cell 6 (by simp)
          have d7 : (_ : Option Value) = some (.bool false) := D1.cell 7 (by simp)
          have e5 : fsB y = 1 := by unfold fsB; rw [if_neg H6n.out, if_neg H7n.out]
          have E3 := BX.made1 wr (.cells #[.int .i64 y.f0, .int .i64 y.f1, .int .i64 y.f2, .int .i64 y.f3, .string y.f4, .bool y.f5, .bool false, .bool false] 41) 62 [.int .i64 y.f0, .int .i64 y.f1, .int .i64 y.f2, .int .i64 y.f3, .string ⟨#[]⟩, .int .i64 1, .bool y.f5, .int .i64 0]
          have O3 := OO.al (OO.al O (.cells #[.int .i64 y.f0, .int .i64 y.f1, .int .i64 y.f2, .int .i64 y.f3, .string y.f4, .bool y.f5, .bool false, .bool false] 41)) (.cells #[.int .i64 y.f0, .int .i64 y.f1, .int .i64 y.f2, .int .i64 y.f3, .string ⟨#[]⟩, .int .i64 1, .bool y.f5, .int .i64 0] 62)
          have hb3 : BB w _ := BB.al (BB.al hb (.cells #[.int .i64 y.f0, .int .i64 y.f1, .int .i64 y.f2, .int .i64 y.f3, .string y.f4, .bool y.f5, .bool false, .bool false] 41)) (.cells #[.int .i64 y.f0, .int .i64 y.f1, .int .i64 y.f2, .int .i64 y.f3, .string ⟨#[]⟩, .int .i64 1, .bool y.f5, .int .i64 0] 62)
          have hbs3 : w.heap.size + 1 ≤ ((wr.alloc (.cells #[.int .i64 y.f0, .int .i64 y.f1, .int .i64 y.f2, .int .i64 y.f3, .string y.f4, .bool y.f5, .bool false, .bool false] 41)).alloc (.cells #[.int .i64 y.f0, .int .i64 y.f1, .int .i64 y.f2, .int .i64 y.f3, .string ⟨#[]⟩, .int .i64 1, .bool y.f5, .int .i64 0] 62)).heap.size := by rw [World.size_alloc, World.size_alloc]; omega
          have k6 : (_ : Option Value) = some (.bool false) := D2.cell 6 (by simp)
          have k7 : (_ : Option Value) = some (.bool false) := D2.cell 7 (by simp)
          have HE := Lib.hid (show (#[.int .i64 y.f0, .int .i64 y.f1, .int .i64 y.f2, .int .i64 y.f3, .string ⟨#[]⟩, .int .i64 1, .bool y.f5, .int .i64 0] : Array Value).toList = fFound (foB y) by unfold foB; rw [e5]; rfl)
          clear e5
          go_upto_region 13 with fail
          have E3 : BX ((wr.alloc (.cells #[.int .i64 y.f0, .int .i64 y.f1, .int .i64 y.f2, .int .i64 y.f3, .string y.f4, .bool y.f5, .bool false, .bool false] 41)).alloc (.cells #[.int .i64 y.f0, .int .i64 y.f1, .int .i64 y.f2, .int .i64 y.f3, .string ⟨#[]⟩, .int .i64 1, .bool y.f5, .int .i64 0] 62)) (wr.heap.size + 1) 62 [.int .i64 y.f0, .int .i64 y.f1, .int .i64 y.f2, .int .i64 y.f3, .string ⟨#[]⟩, .int .i64 1, .bool y.f5, .int .i64 0] := E3
          have O3 : OO ((wr.alloc (.cells #[.int .i64 y.f0, .int .i64 y.f1, .int .i64 y.f2, .int .i64 y.f3, .string y.f4, .bool y.f5, .bool false, .bool false] 41)).alloc (.cells #[.int .i64 y.f0, .int .i64 y.f1, .int .i64 y.f2, .int .i64 y.f3, .string ⟨#[]⟩, .int .i64 1, .bool y.f5, .int .i64 0] 62)) _ _ _ _ _ _ := O3
          have hb3 : BB w ((wr.alloc (.cells #[.int .i64 y.f0, .int .i64 y.f1, .int .i64 y.f2, .int .i64 y.f3, .string y.f4, .bool y.f5, .bool false, .bool false] 41)).alloc (.cells #[.int .i64 y.f0, .int .i64 y.f1, .int .i64 y.f2, .int .i64 y.f3, .string ⟨#[]⟩, .int .i64 1, .bool y.f5, .int .i64 0] 62)) := hb3
          generalize ((wr.alloc (.cells #[.int .i64 y.f0, .int .i64 y.f1, .int .i64 y.f2, .int .i64 y.f3, .string y.f4, .bool y.f5, .bool false, .bool false] 41)).alloc (.cells #[.int .i64 y.f0, .int .i64 y.f1, .int .i64 y.f2, .int .i64 y.f3, .string ⟨#[]⟩, .int .i64 1, .bool y.f5, .int .i64 0] 62)) = W3 at E3 O3 hb3 hbs3 ⊢
          have e0 : (_ : Option Value) = some (.int .i64 y.f0) := E3.cell 0 (by simp)
          have e1 : (_ : Option Value) = some (.int .i64 y.f1) := E3.cell 1 (by simp)
          have e2 : (_ : Option Value) = some (.int .i64 y.f2) := E3.cell 2 (by simp)
          have e3 : (_ : Option Value) = some (.int .i64 y.f3) := E3.cell 3 (by simp)
          have e4 : (_ : Option Value) = some (.string ⟨#[]⟩) := E3.cell 4 (by simp)
          have e5c : (_ : Option Value) = some (.int .i64 1) := E3.cell 5 (by simp)
          have e6 : (_ : Option Value) = some (.bool y.f5) := E3.cell 6 (by simp)
          have e7 : (_ : Option Value) = some (.int .i64 0) := E3.cell 7 (by simp)
          go_wp2_with (at_builtin; go_must (refine wpList_appF (f := fFound) (by rfl) (.tmp 46) (.tmp 48) 60 (by rfl) eltFound hby (.slice B l.length q) l (by rfl) (OOf O3) _ _ (foB y) 1 (by rfl) HE.out (by rfl) (oneFo _) hlb hbs3 ?_); intro v' w' hown' hg' hat' hbl')
          have hl1 : (l ++ [foB y]).length = l.length + 1 := by rw [List.length_append]; rfl
          obtain ⟨B5, c5, rfl⟩ := own_form hown'
          go_roundw
          case rel => exact ⟨l ++ [foB y], B5, c5, by rw [hl1]; go_num, rfl, by rw [hl1]; omega, by rw [hl1]; exact HL2, hown', Below.trans hb3 (hbl'.mono (by omega)), Nat.le_trans hbs3 hbl'.size⟩
          case measure => simp [intOf]; omega
        · skip
          have D1 := BX.made wr 41 [.int .i64 y.f0, .int .i64 y.f1, .int .i64 y.f2, .int .i64 y.f3, .string y.f4, .bool y.f5, .bool false, .bool true]
          have E1 := BX.made1 wr (.cells #[.int .i64 y.f0, .int .i64 y.f1, .int .i64 y.f2, .int .i64 y.f3, .string y.f4, .bool y.f5, .bool false, .bool true] 41) 62 [.int .i64 y.f0, .int .i64 y.f1, .int .i64 y.f2, .int .i64 y.f3, .string ⟨#[]⟩, .int .i64 1, .bool y.f5, .int .i64 0]
          have D2 := D1.al (.cells #[.int .i64 y.f0, .int .i64 y.f1, .int .i64 y.f2, .int .i64 y.f3, .string ⟨#[]⟩, .int .i64 1, .bool y.f5, .int .i64 0] 62)
          have d0 : (_ : Option Value) = some (.int .i64 y.f0) := D1.cell 0 (by simp)
          have d1 : (_ : Option Value) = some (.int .i64 y.f1) := D1.cell 1 (by simp)
          have d2 : (_ : Option Value) = some (.int .i64 y.f2) := D1.cell 2 (by simp)
          have d3 : (_ : Option Value) = some (.int .i64 y.f3) := D1.cell 3 (by simp)
          have d4 : (_ : Option Value) = some (.string y.f4) := D1.cell 4 (by simp)
          have d5 : (_ : Option Value) = some (.bool y.f5) := D1.cell 5 (by simp)
          have d6 : (_ : Option Value) = some (.bool false) := D1.cell 6 (by simp)
          have d7 : (_ : Option Value) = some (.bool true) := D1.cell 7 (by simp)
          have ez := fun j => E1.free j
          have q0 : (_ : Option Value) = some (.int .i64 y.f0) := E1.cell 0 (by simp)
          have q1 : (_ : Option Value) = some (.int .i64 y.f1) := E1.cell 1 (by simp)
          have q2 : (_ : Option Value) = some (.int .i64 y.f2) := E1.cell 2 (by simp)
          have q3 : (_ : Option Value) = some (.int .i64 y.f3) := E1.cell 3 (by simp)
          have q4 : (_ : Option Value) = some (.string ⟨#[]⟩) := E1.cell 4 (by simp)
          have q5 : (_ : Option Value) = some (.int .i64 1) := E1.cell 5 (by simp)
          have q6 : (_ : Option Value) = some (.bool y.f5) := E1.cell 6 (by simp)
          have q7 : (_ : Option Value) = some (.int .i64 0) := E1.cell 7 (by simp)
          have e5 : fsB y = 3 := by unfold fsB; rw [if_neg H6n.out, if_pos H7.out]
          have E3 := BX.made1 wr (.cells #[.int .i64 y.f0, .int .i64 y.f1, .int .i64 y.f2, .int .i64 y.f3, .string y.f4, .bool y.f5, .bool false, .bool true] 41) 62 [.int .i64 y.f0, .int .i64 y.f1, .int .i64 y.f2, .int .i64 y.f3, .string ⟨#[]⟩, .int .i64 3, .bool y.f5, .int .i64 0]
          have O3 := OO.al (OO.al O (.cells #[.int .i64 y.f0, .int .i64 y.f1, .int .i64 y.f2, .int .i64 y.f3, .string y.f4, .bool y.f5, .bool false, .bool true] 41)) (.cells #[.int .i64 y.f0, .int .i64 y.f1, .int .i64 y.f2, .int .i64 y.f3, .string ⟨#[]⟩, .int .i64 3, .bool y.f5, .int .i64 0] 62)
          have hb3 : BB w _ := BB.al (BB.al hb (.cells #[.int .i64 y.f0, .int .i64 y.f1, .int .i64 y.f2, .int .i64 y.f3, .string y.f4, .bool y.f5, .bool false, .bool true] 41)) (.cells #[.int .i64 y.f0, .int .i64 y.f1, .int .i64 y.f2, .int .i64 y.f3, .string ⟨#[]⟩, .int .i64 3, .bool y.f5, .int .i64 0] 62)
          have hbs3 : w.heap.size + 1 ≤ ((wr.alloc (.cells #[.int .i64 y.f0, .int .i64 y.f1, .int .i64 y.f2, .int .i64 y.f3, .string y.f4, .bool y.f5, .bool false, .bool true] 41)).alloc (.cells #[.int .i64 y.f0, .int .i64 y.f1, .int .i64 y.f2, .int .i64 y.f3, .string ⟨#[]⟩, .int .i64 3, .bool y.f5, .int .i64 0] 62)).heap.size := by rw [World.size_alloc, World.size_alloc]; omega
          have k6 : (_ : Option Value) = some (.bool false) := D2.cell 6 (by simp)
          have k7 : (_ : Option Value) = some (.bool true) := D2.cell 7 (by simp)
          have HE := Lib.hid (show (#[.int .i64 y.f0, .int .i64 y.f1, .int .i64 y.f2, .int .i64 y.f3, .string ⟨#[]⟩, .int .i64 3, .bool y.f5, .int .i64 0] : Array Value).toList = fFound (foB y) by unfold foB; rw [e5]; rfl)
          clear e5
          go_upto_region 13 with fail
          have E3 : BX ((wr.alloc (.cells #[.int .i64 y.f0, .int .i64 y.f1, .int .i64 y.f2, .int .i64 y.f3, .string y.f4, .bool y.f5, .bool false, .bool true] 41)).alloc (.cells #[.int .i64 y.f0, .int .i64 y.f1, .int .i64 y.f2, .int .i64 y.f3, .string ⟨#[]⟩, .int .i64 3, .bool y.f5, .int .i64 0] 62)) (wr.heap.size + 1) 62 [.int .i64 y.f0, .int .i64 y.f1, .int .i64 y.f2, .int .i64 y.f3, .string ⟨#[]⟩, .int .i64 3, .bool y.f5, .int .i64 0] := E3
          have O3 : OO ((wr.alloc (.cells #[.int .i64 y.f0, .int .i64 y.f1, .int .i64 y.f2, .int .i64 y.f3, .string y.f4, .bool y.f5, .bool false, .bool true] 41)).alloc (.cells #[.int .i64 y.f0, .int .i64 y.f1, .int .i64 y.f2, .int .i64 y.f3, .string ⟨#[]⟩, .int .i64 3, .bool y.f5, .int .i64 0] 62)) _ _ _ _ _ _ := O3
          have hb3 : BB w ((wr.alloc (.cells #[.int .i64 y.f0, .int .i64 y.f1, .int .i64 y.f2, .int .i64 y.f3, .string y.f4, .bool y.f5, .bool false, .bool true] 41)).alloc (.cells #[.int .i64 y.f0, .int .i64 y.f1, .int .i64 y.f2, .int .i64 y.f3, .string ⟨#[]⟩, .int .i64 3, .bool y.f5, .int .i64 0] 62)) := hb3
          generalize ((wr.alloc (.cells #[.int .i64 y.f0, .int .i64 y.f1, .int .i64 y.f2, .int .i64 y.f3, .string y.f4, .bool y.f5, .bool false, .bool true] 41)).alloc (.cells #[.int .i64 y.f0, .int .i64 y.f1, .int .i64 y.f2, .int .i64 y.f3, .string ⟨#[]⟩, .int .i64 3, .bool y.f5, .int .i64 0] 62)) = W3 at E3 O3 hb3 hbs3 ⊢
          have e0 : (_ : Option Value) = some (.int .i64 y.f0) := E3.cell 0 (by simp)
          have e1 : (_ : Option Value) = some (.int .i64 y.f1) := E3.cell 1 (by simp)
          have e2 : (_ : Option Value) = some (.int .i64 y.f2) := E3.cell 2 (by simp)
          have e3 : (_ : Option Value) = some (.int .i64 y.f3) := E3.cell 3 (by simp)
          have e4 : (_ : Option Value) = some (.string ⟨#[]⟩) := E3.cell 4 (by simp)
          have e5c : (_ : Option Value) = some (.int .i64 3) := E3.cell 5 (by simp)
          have e6 : (_ : Option Value) = some (.bool y.f5) := E3.cell 6 (by simp)
          have e7 : (_ : Option Value) = some (.int .i64 0) := E3.cell 7 (by simp)
          go_wp2_with (at_builtin; go_must (refine wpList_appF (f := fFound) (by rfl) (.tmp 46) (.tmp 48) 60 (by rfl) eltFound hby (.slice B l.length q) l (by rfl) (OOf O3) _ _ (foB y) 1 (by rfl) HE.out (by rfl) (oneFo _) hlb hbs3 ?_); intro v' w' hown' hg' hat' hbl')
          have hl1 : (l ++ [foB y]).length = l.length + 1 := by rw [List.length_append]; rfl
          obtain ⟨B5, c5, rfl⟩ := own_form hown'
          go_roundw
          case rel => exact ⟨l ++ [foB y], B5, c5, by rw [hl1]; go_num, rfl, by rw [hl1]; omega, by rw [hl1]; exact HL2, hown', Below.trans hb3 (hbl'.mono (by omega)), Nat.le_trans hbs3 hbl'.size⟩
          case measure => simp [intOf]; omega
      · skip
        have D1 := BX.made wr 41 [.int .i64 y.f0, .int .i64 y.f1, .int .i64 y.f2, .int .i64 y.f3, .string y.f4, .bool y.f5, .bool true, .bool b7]
        have E1 := BX.made1 wr (.cells #[.int .i64 y.f0, .int .i64 y.f1, .int .i64 y.f2, .int .i64 y.f3, .string y.f4, .bool y.f5, .bool true, .bool b7] 41) 62 [.int .i64 y.f0, .int .i64 y.f1, .int .i64 y.f2, .int .i64 y.f3, .string ⟨#[]⟩, .int .i64 1, .bool y.f5, .int .i64 0]
        have D2 := D1.al (.cells #[.int .i64 y.f0, .int .i64 y.f1, .int .i64 y.f2, .int .i64 y.f3, .string ⟨#[]⟩, .int .i64 1, .bool y.f5, .int .i64 0] 62)
        have d0 : (_ : Option Value) = some (.int .i64 y.f0) := D1.cell 0 (by simp)
        have d1 : (_ : Option Value) = some (.int .i64 y.f1) := D1.cell 1 (by simp)
        have d2 : (_ : Option Value) = some (.int .i64 y.f2) := D1.cell 2 (by simp)
        have d3 : (_ : Option Value) = some (.int .i64 y.f3) := D1.cell 3 (by simp)
        have d4 : (_ : Option Value) = some (.string y.f4) := D1.cell 4 (by simp)
        have d5 : (_ : Option Value) = some (.bool y.f5) := D1.cell 5 (by simp)
        have d6 : (_ : Option Value) = some (.bool true) := D1.cell 6 (by simp)
        have d7 : (_ : Option Value) = some (.bool b7) := D1.cell 7 (by simp)
        have ez := fun j => E1.free j
        have q0 : (_ : Option Value) = some (.int .i64 y.f0) := E1.cell 0 (by simp)
        have q1 : (_ : Option Value) = some (.int .i64 y.f1) := E1.cell 1 (by simp)
        have q2 : (_ : Option Value) = some (.int .i64 y.f2) := E1.cell 2 (by simp)
        have q3 : (_ : Option Value) = some (.int .i64 y.f3) := E1.cell 3 (by simp)
        have q4 : (_ : Option Value) = some (.string ⟨#[]⟩) := E1.cell 4 (by simp)
        have q5 : (_ : Option Value) = some (.int .i64 1) := E1.cell 5 (by simp)
        have q6 : (_ : Option Value) = some (.bool y.f5) := E1.cell 6 (by simp)
        have q7 : (_ : Option Value) = some (.int .i64 0) := E1.cell 7 (by simp)
        have e5 : fsB y = 2 := by unfold fsB; rw [if_pos H6.out]
        have E3 := BX.made1 wr (.cells #[.int .i64 y.f0, .int .i64 y.f1, .int .i64 y.f2, .int .i64 y.f3, .string y.f4, .bool y.f5, .bool true, .bool b7] 41) 62 [.int .i64 y.f0, .int .i64 y.f1, .int .i64 y.f2, .int .i64 y.f3, .string ⟨#[]⟩, .int .i64 2, .bool y.f5, .int .i64 0]
        have O3 := OO.al (OO.al O (.cells #[.int .i64 y.f0, .int .i64 y.f1, .int .i64 y.f2, .int .i64 y.f3, .string y.f4, .bool y.f5, .bool true, .bool b7] 41)) (.cells #[.int .i64 y.f0, .int .i64 y.f1, .int .i64 y.f2, .int .i64 y.f3, .string ⟨#[]⟩, .int .i64 2, .bool y.f5, .int .i64 0] 62)
        have hb3 : BB w _ := BB.al (BB.al hb (.cells #[.int .i64 y.f0, .int .i64 y.f1, .int .i64 y.f2, .int .i64 y.f3, .string y.f4, .bool y.f5, .bool true, .bool b7] 41)) (.cells #[.int .i64 y.f0, .int .i64 y.f1, .int .i64 y.f2, .int .i64 y.f3, .string ⟨#[]⟩, .int .i64 2, .bool y.f5, .int .i64 0] 62)
        have hbs3 : w.heap.size + 1 ≤ ((wr.alloc (.cells #[.int .i64 y.f0, .int .i64 y.f1, .int .i64 y.f2, .int .i64 y.f3, .string y.f4, .bool y.f5, .bool true, .bool b7] 41)).alloc (.cells #[.int .i64 y.f0, .int .i64 y.f1, .int .i64 y.f2, .int .i64 y.f3, .string ⟨#[]⟩, .int .i64 2, .bool y.f5, .int .i64 0] 62)).heap.size := by rw [World.size_alloc, World.size_alloc]; omega
        have k6 : (_ : Option Value) = some (.bool true) := D2.cell 6 (by simp)
        have k7 : (_ : Option Value) = some (.bool b7) := D2.cell 7 (by simp)
        have HE := Lib.hid (show (#[.int .i64 y.f0, .int .i64 y.f1, .int .i64 y.f2, .int .i64 y.f3, .string ⟨#[]⟩, .int .i64 2, .bool y.f5, .int .i64 0] : Array Value).toList = fFound (foB y) by unfold foB; rw [e5]; rfl)
        clear e5
        go_upto_region 13 with fail
        have E3 : BX ((wr.alloc (.cells #[.int .i64 y.f0, .int .i64 y.f1, .int .i64 y.f2, .int .i64 y.f3, .string y.f4, .bool y.f5, .bool true, .bool b7] 41)).alloc (.cells #[.int .i64 y.f0, .int .i64 y.f1, .int .i64 y.f2, .int .i64 y.f3, .string ⟨#[]⟩, .int .i64 2, .bool y.f5, .int .i64 0] 62)) (wr.heap.size + 1) 62 [.int .i64 y.f0, .int .i64 y.f1, .int .i64 y.f2, .int .i64 y.f3, .string ⟨#[]⟩, .int .i64 2, .bool y.f5, .int .i64 0] := E3
        have O3 : OO ((wr.alloc (.cells #[.int .i64 y.f0, .int .i64 y.f1, .int .i64 y.f2, .int .i64 y.f3, .string y.f4, .bool y.f5, .bool true, .bool b7] 41)).alloc (.cells #[.int .i64 y.f0, .int .i64 y.f1, .int .i64 y.f2, .int .i64 y.f3, .string ⟨#[]⟩, .int .i64 2, .bool y.f5, .int .i64 0] 62)) _ _ _ _ _ _ := O3
        have hb3 : BB w ((wr.alloc (.cells #[.int .i64 y.f0, .int .i64 y.f1, .int .i64 y.f2, .int .i64 y.f3, .string y.f4, .bool y.f5, .bool true, .bool b7] 41)).alloc (.cells #[.int .i64 y.f0, .int .i64 y.f1, .int .i64 y.f2, .int .i64 y.f3, .string ⟨#[]⟩, .int .i64 2, .bool y.f5, .int .i64 0] 62)) := hb3
        generalize ((wr.alloc (.cells #[.int .i64 y.f0, .int .i64 y.f1, .int .i64 y.f2, .int .i64 y.f3, .string y.f4, .bool y.f5, .bool true, .bool b7] 41)).alloc (.cells #[.int .i64 y.f0, .int .i64 y.f1, .int .i64 y.f2, .int .i64 y.f3, .string ⟨#[]⟩, .int .i64 2, .bool y.f5, .int .i64 0] 62)) = W3 at E3 O3 hb3 hbs3 ⊢
        have e0 : (_ : Option Value) = some (.int .i64 y.f0) := E3.cell 0 (by simp)
        have e1 : (_ : Option Value) = some (.int .i64 y.f1) := E3.cell 1 (by simp)
        have e2 : (_ : Option Value) = some (.int .i64 y.f2) := E3.cell 2 (by simp)
        have e3 : (_ : Option Value) = some (.int .i64 y.f3) := E3.cell 3 (by simp)
        have e4 : (_ : Option Value) = some (.string ⟨#[]⟩) := E3.cell 4 (by simp)
        have e5c : (_ : Option Value) = some (.int .i64 2) := E3.cell 5 (by simp)
        have e6 : (_ : Option Value) = some (.bool y.f5) := E3.cell 6 (by simp)
        have e7 : (_ : Option Value) = some (.int .i64 0) := E3.cell 7 (by simp)
        go_wp2_with (at_builtin; go_must (refine wpList_appF (f := fFound) (by rfl) (.tmp 46) (.tmp 48) 60 (by rfl) eltFound hby (.slice B l.length q) l (by rfl) (OOf O3) _ _ (foB y) 1 (by rfl) HE.out (by rfl) (oneFo _) hlb hbs3 ?_); intro v' w' hown' hg' hat' hbl')
        have hl1 : (l ++ [foB y]).length = l.length + 1 := by rw [List.length_append]; rfl
        obtain ⟨B5, c5, rfl⟩ := own_form hown'
        go_roundw
        case rel => exact ⟨l ++ [foB y], B5, c5, by rw [hl1]; go_num, rfl, by rw [hl1]; omega, by rw [hl1]; exact HL2, hown', Below.trans hb3 (hbl'.mono (by omega)), Nat.le_trans hbs3 hbl'.size⟩
        case measure => simp [intOf]; omega
    · have hlti : ¬ (l.length : Int) < (n : Int) := by omega
      have hle : l = xs.map foB := by
        have h1 := HL.out
        rw [List.take_of_length_le (by have := HX.out; omega)] at h1
        exact h1
      subst hle
      have hcq : xs.length ≤ q := by have := own_capQ O; rw [List.length_map] at this; exact this
      have sf := sectorFeatures_any 1 0 B q xs wr (RR.own (OOf O)) (by have := HX.out; omega) hcq
      clear hr
      obtain ⟨m, hm⟩ : ∃ m, (xs.map foB).length = m := ⟨_, rfl⟩
      rw [hm] at sf hlti hlt hk O ⊢
      clear hm
      go_wp2_with (go_at_call 25; (with_reducible refine sf.mono ?_); rintro e w9 ⟨v9, rfl, O9, hx9⟩; have hb9 : BB w w9 := BB.next hb hx9)
      exact bodyPost_ret (v := .tuple #[v9, .int .i64 0]) (by simp [results, Tryz.results11, go_sem]) rfl ⟨v9, rfl, by rw [HX.out] at O9; exact own_base O9 (by omega), hb9⟩
end Go.Proofs.YthelfgagddldfaaGreatDoor
namespace Go.Proofs.YthelfgagddldfaaGreatDoor
open Go.RowKit
set_option linter.unusedVariables false
set_option linter.unusedSimpArgs false

/-- What ProtectTrack answers, over a row of the call's own. -/
theorem protect_own (f gp k s x : Int) (B : Option Addr) (q m : Nat) (xs : List DSectorSpec) (w : World) {base : Nat} (hr : w.ownsRow base 41 8 (.slice B m q) m (flat fSectorSpec xs)) (hm : xs.length = m) (hm2 : m ≤ 1000) :
    Calls Tryz.prog 10 #[.agg #[.int .i64 f, .int .i64 gp, .slice B m q], .agg #[.int .i64 k, .int .i64 s, .int .i64 x]] w fun e w' => ∃ (B' : Option Addr) (q' m' : Nat),
      e = .returned (.tuple #[.agg #[.int .i64 (prN (prC (tsB f gp xs && feB k s x) gp xs.length k s x) f), .int .i64 (prG (prC (tsB f gp xs && feB k s x) gp xs.length k s x) gp k x), .slice B' m' q'], .int .i64 (prC (tsB f gp xs && feB k s x) gp xs.length k s x)]) ∧ w'.ownsRow w.heap.size 41 8 (.slice B' m' q') m' (flat fSectorSpec (prL (prC (tsB f gp xs && feB k s x) gp xs.length k s x) xs k s x)) ∧ Hid ((prL (prC (tsB f gp xs && feB k s x) gp xs.length k s x) xs k s x).length = m') ∧ Below w.heap.size w w' := by
  subst hm
  refine (impl_ProtectTrack_any f gp k s x B q xs w (Rd.of_own hr) (by omega)).mono ?_
  rintro e w' ⟨v, rfl, O, hx⟩
  obtain ⟨B', q', rfl⟩ := own_form O
  exact ⟨B', q', _, rfl, O, Lib.hid rfl, hx⟩

set_option maxRecDepth 100000 in
set_option maxHeartbeats 16000000 in
theorem walk_Protect (A1 A2 : Option Addr) (n1 c1 n2 c2 : Nat) (L1 L2 : List UInt8) (w : World) (hn1 : L1.length = n1) (hn2 : L2.length = n2) (hr1 : Rd w w.heap.size 1 A1 n1 (flat fU L1)) (hr2 : Rd w w.heap.size 1 A2 n2 (flat fU L2)) (G : GW w) :
    Calls Tryz.prog 3 #[.slice A1 n1 c1, .slice A2 n2 c2] w fun e w' => e = .returned (.bool true) ∧ Below w.heap.size w w' := by
  have lg := fun W => a2long_any A1 A2 n1 c1 n2 c2 W
  cases hlong : (decide (3000 < n1) || decide (3000 < n2))
  rotate_left
  · rw [hlong] at lg
    clear G
    go_enter Tryz.func3, Tryz.ntmps3
    go_wp2_with (go_at_call 4; (with_reducible refine (lg _).mono ?_); rintro e w9 ⟨rfl, rfl⟩)
    go_ret
    exact ⟨rfl, Below.refl _ _⟩
  rw [hlong] at lg
  simp only [Bool.or_eq_false_iff, decide_eq_false_iff_not] at hlong
  have hl1 : n1 ≤ maxLen := by unfold maxLen; omega
  have hl2 : n2 ≤ maxLen := by unfold maxLen; omega
  clear hlong
  have GX := Lib.hid G
  have t1 := a2Track_any A1 n1 c1 L1 w hn1 hr1 hl1
  clear G
  go_enter Tryz.func3, Tryz.ntmps3
  go_upto_region 4 with (first
    | (go_at_call 4; (with_reducible refine (lg _).mono ?_); rintro e w9 ⟨rfl, rfl⟩)
    | (go_at_call 5; (with_reducible refine t1.mono ?_); rintro e w1 ⟨f, gp, B, q, m, xs, rfl, O, HM, hm8, hx1⟩))
  obtain ⟨tb, htb⟩ : ∃ tb, w1.heap.size = tb := ⟨_, rfl⟩
  have T := BX.made w1 26 [.int .i64 f, .int .i64 gp, .slice B m q]
  have hB : BB w (w1.alloc (.cells #[.int .i64 f, .int .i64 gp, .slice B m q] 26)) := BB.al (BB.next (BB.start w) hx1) _
  have O := World.ownsRow.alloc O (.cells #[.int .i64 f, .int .i64 gp, .slice B m q] 26)
  rw [htb] at T ⊢
  clear htb lg t1 hx1
  generalize (w1.alloc (.cells #[.int .i64 f, .int .i64 gp, .slice B m q] 26)) = w2 at T hB O ⊢
  have k2 : (_ : Option Value) = some (.slice B m q) := T.cell 2 (by simp)
  have fe := a2Feature_any A2 n2 c2 L2 w2 hn2 ((hr2.below hB).more hB.size) hl2 (m : Int) (by omega)
  go_upto_region 5 with (go_at_call 6; (with_reducible refine fe.mono ?_); rintro e w3 ⟨k, s, v, rfl, hx3⟩)
  obtain ⟨fb, hfb⟩ : ∃ fb, w3.heap.size = fb := ⟨_, rfl⟩
  have F := BX.made w3 29 [.int .i64 k, .int .i64 s, .int .i64 v]
  have T := (T.below hx3 T.lt).al (.cells #[.int .i64 k, .int .i64 s, .int .i64 v] 29)
  have hB : BB w (w3.alloc (.cells #[.int .i64 k, .int .i64 s, .int .i64 v] 29)) := BB.al (BB.next hB hx3) _
  have O := World.ownsRow.alloc (own_later O hx3 (Nat.le_refl _)) (.cells #[.int .i64 k, .int .i64 s, .int .i64 v] 29)
  rw [hfb] at F ⊢
  clear hfb fe hx3 k2
  generalize (w3.alloc (.cells #[.int .i64 k, .int .i64 s, .int .i64 v] 29)) = w4 at T F hB O ⊢
  have k0 : (_ : Option Value) = some (.int .i64 k) := F.cell 0 (by simp)
  have k1 : (_ : Option Value) = some (.int .i64 s) := F.cell 1 (by simp)
  have k2 : (_ : Option Value) = some (.int .i64 v) := F.cell 2 (by simp)
  have t0 : (_ : Option Value) = some (.int .i64 f) := T.cell 0 (by simp)
  have t1 : (_ : Option Value) = some (.int .i64 gp) := T.cell 1 (by simp)
  have t2 : (_ : Option Value) = some (.slice B m q) := T.cell 2 (by simp)
  have ft := impl_FeatureText_any k s v w4 (GX.out.bb hB)
  have hsz : (mkR (ftx (k, s, v))).size ≤ 1048576 := by rw [mkR_size]; have := ftx_lenP k s v; omega
  have rd := fun W (hW : BB w W) => impl_ReadFeature_any (mkR (ftx (k, s, v))) W hsz (GX.out.bb hW)
  have hrr : (mkR (ftx (k, s, v))).data.toList = ftx (k, s, v) := by simp [mkR]
  rw [hrr, rf_round] at rd
  have vf := fun W => impl_ValidFeature_any k s v W
  have HF := Lib.hid (fun h => rfF_round (k := k) (s := s) (v := v) h)
  clear hrr hsz
  generalize rfF (ftx (k, s, v)) = R at rd HF
  obtain ⟨ra, rb, rc⟩ := R
  dsimp only at rd
  generalize mkR (ftx (k, s, v)) = tx at ft rd
  have pt := fun W base (h : World.ownsRow W base 41 8 (.slice B m q) m (flat fSectorSpec xs)) => protect_own f gp k s v B q m xs W h HM.out (by omega)
  cases hf : feB k s v
  · rw [hf] at rd vf
    have pc : prC (tsB f gp xs && feB k s v) gp xs.length k s v = 1 := by rw [hf, Bool.and_false]; rfl
    rw [pc] at pt
    clear pc HF
    go_wp2_with (first
      | (go_at_call 8; (with_reducible refine ft.mono ?_); rintro e w5 ⟨rfl, hx5⟩; have hB5 := BB.next hB hx5)
      | (go_at_call 7; (with_reducible refine (rd _ hB5).mono ?_); rintro e w6 ⟨rfl, hx6⟩; have F6 := ((F.below hx5 F.lt).below hx6 (by have := hx5.size; have := F.lt; omega)).al (.cells #[.int .i64 ra, .int .i64 rb, .int .i64 rc] 29); have T6 := ((T.below hx5 T.lt).below hx6 (by have := hx5.size; have := T.lt; omega)).al (.cells #[.int .i64 ra, .int .i64 rb, .int .i64 rc] 29); have hB6 : BB w (w6.alloc (.cells #[.int .i64 ra, .int .i64 rb, .int .i64 rc] 29)) := BB.al (BB.next hB5 hx6) _; have O6 := World.ownsRow.alloc (own_later (own_later O hx5 (Nat.le_refl _)) hx6 (Nat.le_refl _)) (.cells #[.int .i64 ra, .int .i64 rb, .int .i64 rc] 29); have k0 : (_ : Option Value) = some (.int .i64 k) := F6.cell 0 (by simp); have k1 : (_ : Option Value) = some (.int .i64 s) := F6.cell 1 (by simp); have k2 : (_ : Option Value) = some (.int .i64 v) := F6.cell 2 (by simp); have t0 : (_ : Option Value) = some (.int .i64 f) := T6.cell 0 (by simp); have t1 : (_ : Option Value) = some (.int .i64 gp) := T6.cell 1 (by simp); have t2 : (_ : Option Value) = some (.slice B m q) := T6.cell 2 (by simp))
      | (go_at_call 9; (with_reducible refine (vf _).mono ?_); rintro e w7 ⟨rfl, hx7⟩; have F7 := F6.below hx7 F6.lt; have T7 := T6.below hx7 T6.lt; have hB7 : BB w w7 := BB.next hB6 hx7; have O7 := own_later O6 hx7 (Nat.le_refl _); have k0 : (_ : Option Value) = some (.int .i64 k) := F7.cell 0 (by simp); have k1 : (_ : Option Value) = some (.int .i64 s) := F7.cell 1 (by simp); have k2 : (_ : Option Value) = some (.int .i64 v) := F7.cell 2 (by simp); have t0 : (_ : Option Value) = some (.int .i64 f) := T7.cell 0 (by simp); have t1 : (_ : Option Value) = some (.int .i64 gp) := T7.cell 1 (by simp); have t2 : (_ : Option Value) = some (.slice B m q) := T7.cell 2 (by simp))
      | (go_at_call 10; (with_reducible refine (pt _ _ O7).mono ?_); rintro e w8 ⟨B8, q8, m8, rfl, O8, HL, hx8⟩; have hB8 : BB w w8 := BB.next hB7 hx8))
    go_ret
    exact ⟨rfl, BB.al hB8 _⟩
  rw [hf] at rd vf
  have e3 := HF.out hf
  simp only [Prod.mk.injEq] at e3
  obtain ⟨rfl, rfl, rfl⟩ := e3
  rw [hf] at pt
  rw [Bool.and_true] at pt
  have HFE := Lib.hid hf
  clear hf HF
  have hk0 : (ra == ra) = true := beq_self_eq_true ra
  have hk1 : (rb == rb) = true := beq_self_eq_true rb
  have hk2 : (rc == rc) = true := beq_self_eq_true rc
  obtain ⟨C, hC⟩ : ∃ C, prC (tsB f gp xs) gp xs.length ra rb rc = C := ⟨_, rfl⟩
  rw [hC] at pt
  have HC := Lib.hid hC
  clear hC
  go_upto_region 9 with (first
    | (go_at_call 8; (with_reducible refine ft.mono ?_); rintro e w5 ⟨rfl, hx5⟩; have hB5 := BB.next hB hx5)
    | (go_at_call 7; (with_reducible refine (rd _ hB5).mono ?_); rintro e w6 ⟨rfl, hx6⟩; have F6 := ((F.below hx5 F.lt).below hx6 (by have := hx5.size; have := F.lt; omega)).al (.cells #[.int .i64 ra, .int .i64 rb, .int .i64 rc] 29); have G6 := BX.made w6 29 [.int .i64 ra, .int .i64 rb, .int .i64 rc]; have T6 := ((T.below hx5 T.lt).below hx6 (by have := hx5.size; have := T.lt; omega)).al (.cells #[.int .i64 ra, .int .i64 rb, .int .i64 rc] 29); have hB6 : BB w (w6.alloc (.cells #[.int .i64 ra, .int .i64 rb, .int .i64 rc] 29)) := BB.al (BB.next hB5 hx6) _; have O6 := World.ownsRow.alloc (own_later (own_later O hx5 (Nat.le_refl _)) hx6 (Nat.le_refl _)) (.cells #[.int .i64 ra, .int .i64 rb, .int .i64 rc] 29); have k0 : (_ : Option Value) = some (.int .i64 ra) := F6.cell 0 (by simp); have k1 : (_ : Option Value) = some (.int .i64 rb) := F6.cell 1 (by simp); have k2 : (_ : Option Value) = some (.int .i64 rc) := F6.cell 2 (by simp); have t0 : (_ : Option Value) = some (.int .i64 f) := T6.cell 0 (by simp); have t1 : (_ : Option Value) = some (.int .i64 gp) := T6.cell 1 (by simp); have t2 : (_ : Option Value) = some (.slice B m q) := T6.cell 2 (by simp); have y0 : (_ : Option Value) = some (.int .i64 ra) := G6.cell 0 (by simp); have y1 : (_ : Option Value) = some (.int .i64 rb) := G6.cell 1 (by simp); have y2 : (_ : Option Value) = some (.int .i64 rc) := G6.cell 2 (by simp))
    | (go_at_call 9; (with_reducible refine (vf _).mono ?_); rintro e w7 ⟨rfl, hx7⟩; have F7 := F6.below hx7 F6.lt; have G7 := G6.below hx7 G6.lt; have T7 := T6.below hx7 T6.lt; have hB7 : BB w w7 := BB.next hB6 hx7; have O7 := own_later O6 hx7 (Nat.le_refl _); have k0 : (_ : Option Value) = some (.int .i64 ra) := F7.cell 0 (by simp); have k1 : (_ : Option Value) = some (.int .i64 rb) := F7.cell 1 (by simp); have k2 : (_ : Option Value) = some (.int .i64 rc) := F7.cell 2 (by simp); have t0 : (_ : Option Value) = some (.int .i64 f) := T7.cell 0 (by simp); have t1 : (_ : Option Value) = some (.int .i64 gp) := T7.cell 1 (by simp); have t2 : (_ : Option Value) = some (.slice B m q) := T7.cell 2 (by simp); have y0 : (_ : Option Value) = some (.int .i64 ra) := G7.cell 0 (by simp); have y1 : (_ : Option Value) = some (.int .i64 rb) := G7.cell 1 (by simp); have y2 : (_ : Option Value) = some (.int .i64 rc) := G7.cell 2 (by simp))
    | (go_at_call 10; (with_reducible refine (pt _ _ O7).mono ?_); rintro e w8 ⟨B8, q8, m8, rfl, O8, HL, hx8⟩; have F8 := F7.below hx8 F7.lt; have T8 := T7.below hx8 T7.lt; have hB8 : BB w w8 := BB.next hB7 hx8))
  have X8 := BX.made w8 26 [.int .i64 (prN C f), .int .i64 (prG C gp ra rc), .slice B8 m8 q8]
  have F8a := F8.al (.cells #[.int .i64 (prN C f), .int .i64 (prG C gp ra rc), .slice B8 m8 q8] 26)
  have T8a := T8.al (.cells #[.int .i64 (prN C f), .int .i64 (prG C gp ra rc), .slice B8 m8 q8] 26)
  have hB8a : BB w (w8.alloc (.cells #[.int .i64 (prN C f), .int .i64 (prG C gp ra rc), .slice B8 m8 q8] 26)) := BB.al hB8 (.cells #[.int .i64 (prN C f), .int .i64 (prG C gp ra rc), .slice B8 m8 q8] 26)
  have O8a := World.ownsRow.alloc O8 (.cells #[.int .i64 (prN C f), .int .i64 (prG C gp ra rc), .slice B8 m8 q8] 26)
  have hb7 := Nat.le_trans hB7.size hx8.size
  obtain ⟨xb, hxb⟩ : ∃ xb, w8.heap.size = xb := ⟨_, rfl⟩
  obtain ⟨bs, hbs⟩ : ∃ bs, w7.heap.size = bs := ⟨_, rfl⟩
  have hbs0 : w.heap.size ≤ bs := by rw [← hbs]; exact hB7.size
  rw [hxb] at X8 ⊢
  rw [hbs] at O8a
  generalize (w8.alloc (.cells #[.int .i64 (prN C f), .int .i64 (prG C gp ra rc), .slice B8 m8 q8] 26)) = wa at X8 F8a T8a hB8a O8a ⊢
  clear O8 hB8 T8 F8 hx8 hx7 hx6 hx5 hB7 hB6 hB5 F7 G7 T7 O7 F6 G6 T6 O6 F T O hB hxb hbs hb7 pt vf rd ft
  have k0 : (_ : Option Value) = some (.int .i64 ra) := F8a.cell 0 (by simp)
  have k1 : (_ : Option Value) = some (.int .i64 rb) := F8a.cell 1 (by simp)
  have k2 : (_ : Option Value) = some (.int .i64 rc) := F8a.cell 2 (by simp)
  have t0 : (_ : Option Value) = some (.int .i64 f) := T8a.cell 0 (by simp)
  have t1 : (_ : Option Value) = some (.int .i64 gp) := T8a.cell 1 (by simp)
  have t2 : (_ : Option Value) = some (.slice B m q) := T8a.cell 2 (by simp)
  by_cases c0 : C = 0
  rotate_left
  · have hc0 : (C != 0) = true := by simp [bne, c0]
    clear c0
    go_wp2_with fail
    go_ret
    exact ⟨rfl, hB8a⟩
  subst c0
  obtain ⟨hts, k5, k7, hk8, hk1', hk0'⟩ := pr_ok HC.out
  have hpn : prN 0 f = f := by unfold prN; rw [if_pos rfl]
  rw [hpn] at X8 ⊢
  have HC1 := Lib.hid (show prC true gp xs.length ra rb rc = 0 by rw [← hts]; exact HC.out)
  by_cases k8 : ra = 8
  · subst k8
    have hb8 := fe_8P HFE.out
    obtain ⟨g1, g20, _⟩ := ts_lenP hts
    have hpg : prG 0 gp 8 rc = gp + rc := by unfold prG; rw [if_pos rfl, if_pos rfl]
    rw [hpg] at X8 ⊢
    have hw : IntKind.i64.wrap (gp + rc) = gp + rc := IntWalk.i64_in _ (by omega)
    have he : (gp + rc == gp + rc) = true := beq_self_eq_true _
    have x1 : (_ : Option Value) = some (.int .i64 (gp + rc)) := X8.cell 1 (by simp)
    clear hk1' hk0' k5 k7 hk8
    go_wp2_with fail
    go_ret
    exact ⟨rfl, hB8a⟩
  have e8 : (ra == 8) = false := by simp [k8]
  have hts2 := ts_keep hts HFE.out HC1.out
  obtain ⟨s0, s1, v0, v1⟩ := pr_bounds (f := f) HFE.out HC1.out k8
  have hhas := Lib.hid (fun h2 h6 => pr_has (f := f) HFE.out HC1.out k8 h2 h6)
  obtain ⟨_, _, hl8⟩ := ts_lenP hts2
  clear hk1' hk0' k5 k7 hk8 HC HC1 HFE hpn hts
  generalize prL 0 xs ra rb rc = X at O8a HL hts2 s0 s1 v0 v1 hhas hl8
  generalize prG 0 gp ra rc = gq at X8 hts2 ⊢
  have HL1 := HL.out
  rw [HL1] at s1 v1 hl8
  obtain ⟨b, rfl⟩ : ∃ b : Nat, rb = (b : Int) := ⟨rb.toNat, by omega⟩
  obtain ⟨c, rfl⟩ : ∃ c : Nat, rc = (c : Int) := ⟨rc.toNat, by omega⟩
  obtain ⟨g8, cap8, hbe, hg8, hg8l⟩ := World.ownsRow.form O8a (by omega)
  cases hbe
  have sf := specFeatures_any f gq (some ⟨g8, 0, none⟩) q8 X wa (by rw [HL1]; exact Rd.of_own O8a) (by omega) hts2
  rw [HL1] at sf
  have hd1 : decide ((m8 : Int) ≤ (b : Int)) = false := decide_eq_false (by omega)
  have hd2 : decide ((m8 : Int) ≤ (c : Int)) = false := decide_eq_false (by omega)
  have hbX : b < X.length := by omega
  have hcX : c < X.length := by omega
  have x2 : (_ : Option Value) = some (.slice (some ⟨g8, 0, none⟩) m8 q8) := X8.cell 2 (by simp)
  have x0 : (_ : Option Value) = some (.int .i64 f) := X8.cell 0 (by simp)
  have x1 : (_ : Option Value) = some (.int .i64 gq) := X8.cell 1 (by simp)
  obtain ⟨FL, hFL⟩ : ∃ FL, ftsL X 1 0 m8 = FL := ⟨_, rfl⟩
  rw [hFL] at sf
  obtain ⟨N, hN⟩ : ∃ N, FL.length = N := ⟨_, rfl⟩
  rw [hN] at sf
  have HN := Lib.hid hN
  have hN32 : N ≤ 32 := by rw [← hN, ← hFL]; have := ftsL_len X 1 0 m8; omega
  have Hhas := Lib.hid (show ra ≠ 2 → (ra ≠ 3 → (X.getD b noSS).f6 = false ∧ (X.getD c noSS).f6 = false) → ∃ v, (ra, (b : Int), v) ∈ FL from fun h2 h6 => by
    have h := hhas.out h2 h6
    rw [HL1, hFL] at h
    exact h)
  clear hhas hN hFL hts2 HL1
  go_upto_region 14 with (go_at_call 11; (with_reducible refine sf.mono ?_); rintro e wb ⟨v9, rfl, O9, hx9⟩; obtain ⟨B9, q9, rfl⟩ := own_form O9; have F9 := F8a.below hx9 F8a.lt; have X9 := X8.below hx9 X8.lt; have hB9 : BB w wb := BB.next hB8a hx9; have OX := own_later O8a hx9 (Nat.le_refl _); have k0 : (_ : Option Value) = some (.int .i64 ra) := F9.cell 0 (by simp); have k1 : (_ : Option Value) = some (.int .i64 (b : Int)) := F9.cell 1 (by simp); have k2 : (_ : Option Value) = some (.int .i64 (c : Int)) := F9.cell 2 (by simp); have x2 : (_ : Option Value) = some (.slice (some ⟨g8, 0, none⟩) m8 q8) := X9.cell 2 (by simp))
  have ob : wb.cell? ⟨g8, b * 8 + 6, none⟩ = some (.bool X[b].f6) := by
    have h := HL.out
    subst h
    exact own_get OX fSectorSpec_len hbX (by decide) rfl
  have oc : wb.cell? ⟨g8, c * 8 + 6, none⟩ = some (.bool X[c].f6) := by
    have h := HL.out
    subst h
    exact own_get OX fSectorSpec_len hcX (by decide) rfl
  have gb : X.getD b noSS = X[b] := getD_of (List.getElem?_eq_getElem hbX)
  have gc : X.getD c noSS = X[c] := getD_of (List.getElem?_eq_getElem hcX)
  rw [gb, gc] at Hhas
  obtain ⟨y6, hy6⟩ : ∃ y, X[b].f6 = y := ⟨_, rfl⟩
  obtain ⟨u6, hu6⟩ : ∃ y, X[c].f6 = y := ⟨_, rfl⟩
  rw [hy6] at ob Hhas
  rw [hu6] at oc Hhas
  clear gb gc hy6 hu6 O8a OX X8 F8a T8a hB8a x0 x1 sf X9
  have hcs : (ra = 3 ∧ ∃ v, (ra, (b : Int), v) ∈ FL) ∨ (ra ≠ 3 ∧ (y6 = true ∨ (y6 = false ∧ u6 = true) ∨ (y6 = false ∧ u6 = false ∧ ra = 2) ∨ (y6 = false ∧ u6 = false ∧ ra ≠ 2 ∧ ∃ v, (ra, (b : Int), v) ∈ FL))) := by
    by_cases h3 : ra = 3
    · exact .inl ⟨h3, Hhas.out (by omega) (fun h => absurd h3 h)⟩
    · refine .inr ⟨h3, ?_⟩
      cases y6
      · cases u6
        · by_cases h2 : ra = 2
          · exact .inr (.inr (.inl ⟨rfl, rfl, h2⟩))
          · exact .inr (.inr (.inr ⟨rfl, rfl, h2, Hhas.out h2 (fun _ => ⟨rfl, rfl⟩)⟩))
        · exact .inr (.inl ⟨rfl, rfl⟩)
      · exact .inl rfl
  clear Hhas
  rcases hcs with ⟨h3, hex⟩ | ⟨h3, h | ⟨h, h'⟩ | ⟨h, h', h2⟩ | ⟨h, h', h2, hex⟩⟩
  · subst h3
    go_wp2_with fail
    go_loopw [13] (fun i wr => ∃ j : Nat, i = .int .i64 (j : Int) ∧ j ≤ N ∧ BX wr fb 29 [.int .i64 3, .int .i64 (b : Int), .int .i64 (c : Int)] ∧ OO wr wa.heap.size 29 3 (.slice B9 N q9) N (flat fT FL) ∧ BB w wr ∧ Hid (∀ a (ha : a < FL.length), a < j → ¬ (FL[a].1 = 3 ∧ FL[a].2.1 = (b : Int)))) (fun i _ => N - (intOf i).toNat)
    case atStart => exact ⟨0, rfl, Nat.zero_le _, F9, O9, hB9, Lib.hid (fun a _ h => absurd h (Nat.not_lt_zero _))⟩
    case round =>
      obtain ⟨j, rfl, hj, FW, OW, hBW, HI⟩ := hrel
      clear O9 F9 hB9
      by_cases hlt : j < N
      · have hlti : decide ((j : Int) < (N : Int)) = true := decide_eq_true (by omega)
        have hjF : j < FL.length := by rw [HN.out]; exact hlt
        obtain ⟨b9, o9, rfl, _, hc9⟩ := (Rd.of_own OW).at_ fT_len HN.out.symm j hlt
        have l0 := hc9 0 _ (by omega) rfl
        have l1 := hc9 1 _ (by omega) rfl
        clear hc9
        obtain ⟨⟨p0, p1, p2⟩, hp⟩ : ∃ p, FL[j] = p := ⟨_, rfl⟩
        rw [hp] at l0 l1
        dsimp only at l0 l1
        simp only [Nat.add_zero, ← Nat.add_assoc] at l0 l1
        have k0 : (_ : Option Value) = some (.int .i64 3) := FW.cell 0 (by simp)
        have k1 : (_ : Option Value) = some (.int .i64 (b : Int)) := FW.cell 1 (by simp)
        by_cases a0 : p0 = 3
        · rw [a0] at l0
          have ae : (3 == 3) = true := beq_self_eq_true _
          by_cases a1 : p1 = (b : Int)
          · rw [a1] at l1
            have ae1 : ((b : Int) == (b : Int)) = true := beq_self_eq_true _
            go_wp2_with fail
            go_quiet (fail)
            generalize nq = nd
            go_wp2
            go_ret
            exact ⟨rfl, below_drewN hBW _⟩
          · have an : (p1 == (b : Int)) = false := by simp [a1]
            have HI2 := Lib.hid (show ∀ a (ha : a < FL.length), a < j + 1 → ¬ (FL[a].1 = 3 ∧ FL[a].2.1 = (b : Int)) from fun a ha haj => by
              by_cases e : a = j
              · subst e; rw [hp]; exact fun h => a1 h.2
              · exact HI.out a ha (by omega))
            clear hp a1
            go_wp2_with fail
            go_quiet (fail)
            generalize nq = nd
            go_wp2
            go_roundw
            case rel => exact ⟨j + 1, by go_num, hlt, FW.dnx _, OW, below_drewN hBW _, HI2⟩
            case measure => (simp [intOf] <;> omega)
        · have an : (p0 == 3) = false := by simp [a0]
          have HI2 := Lib.hid (show ∀ a (ha : a < FL.length), a < j + 1 → ¬ (FL[a].1 = 3 ∧ FL[a].2.1 = (b : Int)) from fun a ha haj => by
            by_cases e : a = j
            · subst e; rw [hp]; exact fun h => a0 h.1
            · exact HI.out a ha (by omega))
          clear hp a0
          go_wp2_with fail
          go_quiet (fail)
          generalize nq = nd
          go_wp2
          go_roundw
          case rel => exact ⟨j + 1, by go_num, hlt, FW.dnx _, OW, below_drewN hBW _, HI2⟩
          case measure => (simp [intOf] <;> omega)
      · exfalso
        obtain ⟨v', hv'⟩ := hex
        obtain ⟨a, ha, hav⟩ := List.getElem_of_mem hv'
        exact HI.out a ha (by have := HN.out; omega) (by rw [hav]; exact ⟨rfl, rfl⟩)
  · have n3 : (ra != 3) = true := by simp [bne, h3]
    subst h
    go_wp2_with fail
    go_ret
    exact ⟨rfl, hB9⟩
  · have n3 : (ra != 3) = true := by simp [bne, h3]
    subst h h'
    go_wp2_with fail
    go_ret
    exact ⟨rfl, hB9⟩
  · have n3 : (ra != 3) = true := by simp [bne, h3]
    subst h h' h2
    go_wp2_with fail
    go_ret
    exact ⟨rfl, hB9⟩
  · have n3 : (ra != 3) = true := by simp [bne, h3]
    have n2 : (ra == 2) = false := by simp [h2]
    subst h h'
    go_wp2_with fail
    go_loopw [13] (fun i wr => ∃ j : Nat, i = .int .i64 (j : Int) ∧ j ≤ N ∧ BX wr fb 29 [.int .i64 ra, .int .i64 (b : Int), .int .i64 (c : Int)] ∧ OO wr wa.heap.size 29 3 (.slice B9 N q9) N (flat fT FL) ∧ BB w wr ∧ Hid (∀ a (ha : a < FL.length), a < j → ¬ (FL[a].1 = ra ∧ FL[a].2.1 = (b : Int)))) (fun i _ => N - (intOf i).toNat)
    case atStart => exact ⟨0, rfl, Nat.zero_le _, F9, O9, hB9, Lib.hid (fun a _ h => absurd h (Nat.not_lt_zero _))⟩
    case round =>
      obtain ⟨j, rfl, hj, FW, OW, hBW, HI⟩ := hrel
      clear O9 F9 hB9
      by_cases hlt : j < N
      · have hlti : decide ((j : Int) < (N : Int)) = true := decide_eq_true (by omega)
        have hjF : j < FL.length := by rw [HN.out]; exact hlt
        obtain ⟨b9, o9, rfl, _, hc9⟩ := (Rd.of_own OW).at_ fT_len HN.out.symm j hlt
        have l0 := hc9 0 _ (by omega) rfl
        have l1 := hc9 1 _ (by omega) rfl
        clear hc9
        obtain ⟨⟨p0, p1, p2⟩, hp⟩ : ∃ p, FL[j] = p := ⟨_, rfl⟩
        rw [hp] at l0 l1
        dsimp only at l0 l1
        simp only [Nat.add_zero, ← Nat.add_assoc] at l0 l1
        have k0 : (_ : Option Value) = some (.int .i64 ra) := FW.cell 0 (by simp)
        have k1 : (_ : Option Value) = some (.int .i64 (b : Int)) := FW.cell 1 (by simp)
        by_cases a0 : p0 = ra
        · rw [a0] at l0
          have ae : (ra == ra) = true := beq_self_eq_true _
          by_cases a1 : p1 = (b : Int)
          · rw [a1] at l1
            have ae1 : ((b : Int) == (b : Int)) = true := beq_self_eq_true _
            go_wp2_with fail
            go_quiet (fail)
            generalize nq = nd
            go_wp2
            go_ret
            exact ⟨rfl, below_drewN hBW _⟩
          · have an : (p1 == (b : Int)) = false := by simp [a1]
            have HI2 := Lib.hid (show ∀ a (ha : a < FL.length), a < j + 1 → ¬ (FL[a].1 = ra ∧ FL[a].2.1 = (b : Int)) from fun a ha haj => by
              by_cases e : a = j
              · subst e; rw [hp]; exact fun h => a1 h.2
              · exact HI.out a ha (by omega))
            clear hp a1
            go_wp2_with fail
            go_quiet (fail)
            generalize nq = nd
            go_wp2
            go_roundw
            case rel => exact ⟨j + 1, by go_num, hlt, FW.dnx _, OW, below_drewN hBW _, HI2⟩
            case measure => (simp [intOf] <;> omega)
        · have an : (p0 == ra) = false := by simp [a0]
          have HI2 := Lib.hid (show ∀ a (ha : a < FL.length), a < j + 1 → ¬ (FL[a].1 = ra ∧ FL[a].2.1 = (b : Int)) from fun a ha haj => by
            by_cases e : a = j
            · subst e; rw [hp]; exact fun h => a0 h.1
            · exact HI.out a ha (by omega))
          clear hp a0
          go_wp2_with fail
          go_quiet (fail)
          generalize nq = nd
          go_wp2
          go_roundw
          case rel => exact ⟨j + 1, by go_num, hlt, FW.dnx _, OW, below_drewN hBW _, HI2⟩
          case measure => (simp [intOf] <;> omega)
      · exfalso
        obtain ⟨v', hv'⟩ := hex
        obtain ⟨a, ha, hav⟩ := List.getElem_of_mem hv'
        exact HI.out a ha (by have := HN.out; omega) (by rw [hav]; exact ⟨rfl, rfl⟩)
end Go.Proofs.YthelfgagddldfaaGreatDoor
namespace Go.Proofs.YthelfgagddldfaaGreatDoor
open Go.ChangeShapes Go.WideShapes Go.ChangeAt Go.RowKit Go.Lib
set_option linter.unusedVariables false
set_option linter.unusedSimpArgs false

def laidRF : List (String × DataW Unit) := [("math/bits.deBruijn32tab", Rows.laid_math_bits_deBruijn32tab), ("math/bits.deBruijn64tab", Rows.laid_math_bits_deBruijn64tab), ("internal/strconv.uint64pow10", Rows.laid_internal_strconv_uint64pow10), ("unicode/utf8.acceptRanges", Rows.laid_unicode_utf8_acceptRanges), ("strconv.ErrRange", Rows.laid_strconv_ErrRange), ("strconv.ErrSyntax", Rows.laid_strconv_ErrSyntax), ("loop.example/g00899/impl.featureWords", Rows.laid_loop_example_g00899_impl_featureWords), ("unicode/utf8.first", Rows.laid_unicode_utf8_first)]
theorem rf_row (u : TypeId) (h : Tryz.prog.typeName? 3 u = some "*errors.errorString") : u = 146 :=
  typeName_ptr_named (nm := "errors.errorString") (by rw [show "*" ++ "errors.errorString" = "*errors.errorString" by decide]; kernel_rfl) (by kernel_rfl) (by decide) u (by rw [show "*" ++ "errors.errorString" = "*errors.errorString" by decide]; exact h)
theorem rf_words {W : World} {r : List (String × DataW Unit)} (h : laidMet Tryz.prog (("loop.example/g00899/impl.featureWords", Rows.laid_loop_example_g00899_impl_featureWords) :: r) W) (k : Nat) (hk : k < kwB.length) : W.cell? ⟨0, k, none⟩ = some (.string kwB[k]) := by
  obtain ⟨ps, ⟨g, t, cs, fuel, p, q, hg, ht, hv, hd, _, _⟩, _, _⟩ := h
  obtain rfl := Option.some.inj ((show Tryz.prog.globalNamed "loop.example/g00899/impl.featureWords" = some 0 by kernel_rfl).symm.trans hg)
  obtain rfl := Option.some.inj ((show (Tryz.prog.globals[0]?).map (·.type) = some 52 by kernel_rfl).symm.trans ht)
  obtain ⟨xs, m, _, ex, _, hl, hel⟩ := DataW.trod_array (show Tryz.prog.underlying 52 = some (.array 9 9) by kernel_rfl) hd
  have hk9 : k < 9 := hk
  have c9 : Tryz.prog.cellsOf 9 = 1 := by kernel_rfl
  have hE := hel k hk9
  rw [c9, Nat.mul_one, List.getElem?_eq_getElem (by omega)] at hE
  obtain ⟨z, e1, e2, _⟩ := DataW.trod_string Tryz.underlying9 hE
  have e3 : (xs.map (·.1)) = kwB.map fun n => (.lit (.string n.data.toList) : DataW Unit) := (DataW.agg.inj (Prod.mk.inj ex).1).symm
  have e4 : (xs.map (·.1))[k]? = (kwB.map fun n => (.lit (.string n.data.toList) : DataW Unit))[k]? := by rw [e3]
  rw [List.getElem?_map, List.getElem?_map, List.getElem?_eq_getElem (by omega : k < xs.length), List.getElem?_eq_getElem hk, e2] at e4
  have hz : z = kwB[k] := by
    simp only [Option.map_some, Option.some.injEq, DataW.lit.injEq, Lit.string.injEq] at e4
    have e5 : z.data.toList = kwB[k].data.toList := e4
    exact ByteArray.ext (Array.toList_inj.1 e5)
  rw [World.var?_cell hg hv k]
  have h8 : cs.toList[k]? = some (.string z) := by
    have h0 : ((cs.toList.drop k).take 1)[0]? = some (.string z) := by rw [e1]; rfl
    simpa using h0
  have h9 : cs[k]? = some (.string z) := by simpa using h8
  exact h9.trans (congrArg (fun x => some (Value.string x)) hz)
theorem gw_of {W : World} (h0 : laidMetH Tryz.prog laidRF W) (sh : W.ShapedOpen Tryz.prog) : GW W := by
  rw [MakeChecks.laidMetH_plain _ _ _ (by kernel_rfl)] at h0
  have h1 := h0.tail.tail
  have h2 := h1.tail.tail
  have h3 := h2.tail
  have h4 := h3.tail
  obtain ⟨a1, s1, v1, _⟩ := laid_sentinel h2 (show Tryz.prog.globalNamed "strconv.ErrRange" = some 6 by kernel_rfl) (show (Tryz.prog.globals[6]?).map (·.type) = some 80 by kernel_rfl) (show Tryz.prog.underlying 80 = some (.interface #[("Error", 83)]) by kernel_rfl) rf_row (show Tryz.prog.underlying 146 = some (.pointer 148) by kernel_rfl) (show Tryz.prog.underlying 148 = some (.struct #[⟨ "s", 9, 0, false, "", "errors", 0⟩]) by kernel_rfl) rfl rfl Tryz.underlying9 (show Tryz.prog.cellsOf 148 = 1 by kernel_rfl) (show Tryz.prog.cellsOf 9 = 1 by kernel_rfl)
  obtain ⟨a2, s2, v2, _⟩ := laid_sentinel h3 (show Tryz.prog.globalNamed "strconv.ErrSyntax" = some 5 by kernel_rfl) (show (Tryz.prog.globals[5]?).map (·.type) = some 80 by kernel_rfl) (show Tryz.prog.underlying 80 = some (.interface #[("Error", 83)]) by kernel_rfl) rf_row (show Tryz.prog.underlying 146 = some (.pointer 148) by kernel_rfl) (show Tryz.prog.underlying 148 = some (.struct #[⟨ "s", 9, 0, false, "", "errors", 0⟩]) by kernel_rfl) rfl rfl Tryz.underlying9 (show Tryz.prog.cellsOf 148 = 1 by kernel_rfl) (show Tryz.prog.cellsOf 9 = 1 by kernel_rfl)
  have c1 := World.var?_cell (show Tryz.prog.globalNamed "strconv.ErrRange" = some 6 by kernel_rfl) v1 0
  have c2 := World.var?_cell (show Tryz.prog.globalNamed "strconv.ErrSyntax" = some 5 by kernel_rfl) v2 0
  obtain ⟨m, hm⟩ : ∃ m, W.cell? ⟨1, 0, none⟩ = some (.int .i64 m) := cell_of_shapedOpen_int (zero := #[.int .i64 0]) (t := 3) sh (of_decide_eq_true (by kernel_rfl)) (by kernel_rfl) rfl (by kernel_rfl) (by kernel_rfl) (show Tryz.prog.underlying 3 = some (.int .i64) by kernel_rfl)
  have hsz : 8 < W.heap.size := by
    have h7 : (((begin Tryz.prog (fun _ _ => 0) default).world.heap[8]?).bind Obj.row?).isSome = true := by kernel_rfl
    obtain ⟨⟨z, t⟩, hz⟩ := Option.isSome_iff_exists.1 h7
    obtain ⟨cs, hh, _⟩ := sh.1 8 z t (of_decide_eq_true (by kernel_rfl)) hz
    exact (Array.getElem?_eq_some_iff.1 hh).1
  exact ⟨tabIs_of_head (zs := Lib.pow10Tab) (show Tryz.prog.globalNamed "internal/strconv.uint64pow10" = some 2 by kernel_rfl) (show (Tryz.prog.globals[2]?).map (·.type) = some 129 by kernel_rfl) (show Tryz.prog.underlying 129 = some (.array 20 67) by kernel_rfl) (show Tryz.prog.underlying 67 = some (.int .u64) by kernel_rfl) (by kernel_rfl) (by kernel_rfl) (show laidMet Tryz.prog (("internal/strconv.uint64pow10", tabData .u64 Lib.pow10Tab) :: _) W from h1), ⟨_, _, by simpa using c2⟩, ⟨_, _, by simpa using c1⟩, ⟨m, hm⟩, rf_words h4, hsz⟩
section
variable {H : Type} {enc : TypeId × Value → H}
theorem returnsInHanded_of_change_and_shaped {a : Assume} {C : Checked} {os : Os} {f : FuncId} {fn : Func} {s : ChangeSpec} {conds : List PathCond} {apart fresh handsOn again : Bool} {X : World → Array Value → Prop}
    (hX : ∀ (w w' : World) (args : Array Value), w.heap = w'.heap → X w args → X w' args)
    (own : ownKnob C.prog.godebug = none) (started : os.Started) (noInit : C.prog.inits.idxOf? f = none) (hfn : C.prog.funcs[f]? = some fn)
    (witness : ∃ (w : World) (tape : Tape) (i : Input), w.os = os ∧ (w.forCall tape i).Shaped C.prog ∧ i.vars = [] ∧ Input.okWide C.prog (w.forCall tape i) .any w.heap.size f i ∧
      ((s.pre enc C.prog fn conds apart (w.forCall tape i).memory i.args ∧ X (w.forCall tape i).memory i.args) ∧ sizedMet enc C.prog fn (OpenSpec.ofChange s) apart (w.forCall tape i).memory i.args) ∧ a.holds C.prog (lone (Frame.enter C.prog f i.args .normal) [] (w.forCall tape i)))
    (contract : ∀ (W : World) (base : Nat) (args : Array Value) (ds gs : List (DataW H)) (before : List MemPlace),
      (∀ (j : Nat) t v, fn.params[j]? = some t → args[j]? = some v → Value.okWide C.prog W .any base t v) →
      DataW.Whole enc C.prog fn.params.toList s.vars apart W args.toList ds gs before → X W args → W.ShapedOpen C.prog →
      Calls C.prog f args W fun e W' => ∃ v, e = .returned v ∧ s.post enc C.prog fn apart fresh handsOn again W args v W') :
    ReturnsInHanded a C os f .any (fun w args => (s.pre enc C.prog fn conds apart w args ∧ X w args) ∧ sizedMet enc C.prog fn (OpenSpec.ofChange s) apart w args) (s.post enc C.prog fn apart fresh handsOn again) := by
  refine returnsInHanded_of_calls own started noInit witness ?_
  intro w tape i _ hsh _ hok hpre hholds
  obtain ⟨_, _, _, fn', hfn', _, _, _, _, hval⟩ := hok
  have e : fn' = fn := Option.some.inj (hfn'.symm.trans hfn)
  subst e
  obtain ⟨⟨⟨ds, gs, before, hw, hc⟩, hx⟩, hz⟩ := hpre
  have hw' := DataW.Whole.of_heap (w' := w.forCall tape i) (by rfl) hw
  refine (contract (w.forCall tape i) w.heap.size i.args ds gs before hval hw' (hX _ _ _ (by rfl) hx) hsh).mono fun e W' ⟨v, he, hp⟩ => ?_
  subst he
  exact ChangeSpec.post_blind hp
end
open Go.Deep Go.WideMaps Go.WideElems
section
variable {H : Type} {enc : TypeId × Value → H} {P : Program}
theorem law_post1 (hl : laidOutB P = true) {f : Func} {s : ChangeSpec} {W W' : World} {args : Array Value} {ds gs : List (DataW H)} {before : List MemPlace} {tb : TypeId} {n : String}
    (hv : s.vars = [n]) (hres : f.resultTypes = #[tb]) (htb : P.underlying tb = some .bool)
    (hT : (f.params.toList.all fun t => P.readableRec t && decide (t < P.types.size)) = true)
    (hG : ∀ g t, P.globalNamed n = some g → (P.globals[g]?).map (·.type) = some t → P.readableRec t = true ∧ t < P.types.size)
    (hW : DataW.Whole enc P f.params.toList s.vars false W args.toList ds gs before)
    (hfn : s.fn H (ds ++ gs) = { results := [.lit (.bool true)], args := ds, vars := gs }) (hb : Below W.heap.size W W') :
    s.post enc P f false true false false W args (.bool true) W' := by
  have hlt : ∀ x ∈ before, x.block < W.heap.size := fun x hx => hW.lt x hx
  have hW2 := hW
  obtain ⟨p, q, hA, hV, e, _, _⟩ := hW2
  subst e
  refine post_of_below (pa := p) (pv := q) hW ?_ ?_ ?_ rfl hb ?_
  · intro b sp hd
    rw [hfn, hres]
    exact trodAll_mk1 (shut_bool htb true)
  · intro sp hsp
    rw [hfn]
    refine trodAll_stays hl hb sp ?_ hA (fun x hx => ⟨hlt x (by simp [hx]), hsp x (by simp [hx])⟩)
    intro t ht
    have := List.all_eq_true.1 hT t ht
    simpa using this
  · intro sp hsp
    rw [hfn]
    show DataW.TrodVars enc P W' sp s.vars gs q
    rw [hv] at hV ⊢
    obtain ⟨g, t, cs, fuel, d, p', rfl, h1, h2, h3, h4, rfl⟩ := trodVars_one hV
    obtain ⟨hr, hrow⟩ := hG g t h1 h2
    have hg : g < W.heap.size := by
      have h5 := h3
      simp only [World.var?, h1, Option.bind_some] at h5
      split at h5
      · rename_i hb0
        exact (Array.getElem?_eq_some_iff.1 hb0).1
      · cases h5
    have h3' : W'.var? P n = some cs := by
      have h5 := h3
      simp only [World.var?, h1, Option.bind_some] at h5 ⊢
      rw [hb.block g hg]
      exact h5
    exact trodVars_mk1 h1 h2 h3' (DataW.trod_stays (kids_book hl hr) (book_sized hr) (fun h => by cases h) ⟨hrow, book_self t⟩ h4 (fun x hx => hb.same (hlt x (by simp [hx]))) (fun x hx => hsp x (by simp [hx])))
  · exact ok_one hres rfl (okWide_bool_mk htb true)
end
end Go.Proofs.YthelfgagddldfaaGreatDoor
