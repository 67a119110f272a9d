/- Walks: the text of a feature (impl). -/
import Derived.Test.YtjcghghhpmghhaaDoorR8
namespace Go.Proofs.YtjcghghhpmghhaaDoor
open Go.RowKit Go.Lib
set_option linter.unusedVariables false
set_option linter.unusedSimpArgs false

set_option maxRecDepth 100000 in
set_option maxHeartbeats 8000000 in
theorem impl_FeatureText_any (k s v : Int) (w : World) (G : GW w) : Calls Tryd.prog 14 #[.agg #[.int .i64 k, .int .i64 s, .int .i64 v]] w fun e w' => e = .returned (.string (mkR (ftx (k, s, v)))) ∧ Below w.heap.size w w' := by
  have F0 := BX.made w 23 [.int .i64 k, .int .i64 s, .int .i64 v]
  have hB0 : BB w (w.alloc (.cells #[.int .i64 k, .int .i64 s, .int .i64 v] 23)) := BB.al (BB.start w) _
  have hok := fun W => impl_ValidFeature_any k s v W
  cases hf : feB k s v
  · have HR := Lib.hid (show mkR (ftx (k, s, v)) = ⟨#[]⟩ by rw [ftx_no hf]; rfl)
    rw [hf] at hok
    clear hf G
    go_enter Tryd.func14, Tryd.ntmps14
    go_wp2_with (go_at_call 23; (with_reducible refine (hok _).mono ?_); rintro e w2 ⟨rfl, hx2⟩; have hB2 : BB w w2 := BB.next hB0 hx2)
    go_ret
    exact ⟨by rw [HR.out]; rfl, hB2⟩
  have HR := Lib.hid (show mkR (ftx (k, s, v)) = mkR (txL k.toNat s.toNat v.toNat) by rw [ftx_yes hf])
  rw [hf] at hok
  obtain ⟨a, b, c, rfl, rfl, rfl, hb, hc, hh⟩ := feB_cases hf
  simp only [Int.toNat_natCast] at HR
  rw [HR.out]
  clear HR hf
  have ha : 1 ≤ a ∧ a ≤ 8 := by omega
  have hai : (a : Int) < 9 := by omega
  have ha9 : a < kwB.length := by show a < 9; omega
  have GX := Lib.hid G
  have d1 : ∀ W : World, BB w W → Calls Tryd.prog 24 #[.int .i64 (b : Int)] W fun e w' => e = .returned (.string (mkR (decDigits b))) ∧ Below W.heap.size W w' := fun W h => by
    have := decimal_any (b : Int) W (by omega) (by omega) (GX.out.bb h)
    rwa [itoa_nonneg] at this
  have d2 : ∀ W : World, BB w W → Calls Tryd.prog 24 #[.int .i64 (c : Int)] W fun e w' => e = .returned (.string (mkR (decDigits c))) ∧ Below W.heap.size W w' := fun W h => by
    have := decimal_any (c : Int) W (by omega) (by omega) (GX.out.bb h)
    rwa [itoa_nonneg] at this
  have FWX := Lib.hid (fun (W : World) (h : BB w W) => (show W.cell? ⟨0, a, none⟩ = some (.string (mkR (kw a))) by rw [← kwB_at ha9]; exact (GX.out.bb h).fw a ha9))
  have hk9 : (mkR (kw a)).size ≤ 9 := by rw [mkR_size]; exact kw_len a
  have hs7 : (mkR (decDigits b)).size ≤ 7 := by rw [mkR_size]; exact dd_len 6 b (by simp; omega)
  have hv7 : (mkR (decDigits c)).size ≤ 7 := by rw [mkR_size]; exact dd_len 6 c (by simp; omega)
  have HB := Lib.hid (fun (h : a = 1 ∨ a = 7) => tx_b (s := b) (v := c) h)
  have H8 := Lib.hid (fun (h : a = 8) => (show mkR (kw a) ++ (⟨#[32]⟩ ++ mkR (decDigits c)) = mkR (txL a b c) by subst h; exact tx_8))
  have H2 := Lib.hid (fun (h : 2 ≤ a ∧ a ≤ 6) => tx_2 (s := b) (v := c) h)
  obtain ⟨K, hK⟩ : ∃ K, mkR (kw a) = K := ⟨_, rfl⟩
  obtain ⟨S, hS⟩ : ∃ S, mkR (decDigits b) = S := ⟨_, rfl⟩
  obtain ⟨V, hV⟩ : ∃ V, mkR (decDigits c) = V := ⟨_, rfl⟩
  obtain ⟨R, hR⟩ : ∃ R, mkR (txL a b c) = R := ⟨_, rfl⟩
  rw [hR]
  rw [hK] at FWX
  rw [hS] at d1
  rw [hV] at d2
  rw [hK, hS, hV, hR] at HB
  rw [hK, hV, hR] at H8
  rw [hK, hS, hR] at H2
  rw [hK] at hk9
  rw [hS] at hs7
  rw [hV] at hv7
  have sp1 : (⟨#[32]⟩ : ByteArray).size = 1 := rfl
  have m1 : ¬ 9223372036854775807 < 1 + S.size := by omega
  have m2 : ¬ (9223372036854775807 : Int) < 1 + (S.size : Int) := by omega
  have m3 : ¬ 9223372036854775807 < K.size + (1 + S.size) := by omega
  have m4 : ¬ (9223372036854775807 : Int) < (K.size : Int) + (1 + (S.size : Int)) := by omega
  have m5 : ¬ 9223372036854775807 < 1 + V.size := by omega
  have m6 : ¬ (9223372036854775807 : Int) < 1 + (V.size : Int) := by omega
  have m7 : ¬ 9223372036854775807 < K.size + (1 + S.size) + (1 + V.size) := by omega
  have m8 : ¬ (9223372036854775807 : Int) < (K.size : Int) + (1 + (S.size : Int)) + (1 + (V.size : Int)) := by omega
  have m9 : ¬ 9223372036854775807 < K.size + (1 + V.size) := by omega
  have m10 : ¬ (9223372036854775807 : Int) < (K.size : Int) + (1 + (V.size : Int)) := by omega
  clear hK hS hV hR hk9 hs7 hv7 hb hc hh G GX
  rcases (show a = 1 ∨ a = 7 ∨ a = 8 ∨ (2 ≤ a ∧ a ≤ 6) by omega) with h | h | h | h
  · have HR := Lib.hid (HB.out (Or.inl h))
    have q8n : ((a : Int) != 8) = true := by rw [bne_iff_ne]; omega
    have q1 : ((a : Int) == 1) = true := by rw [h]; rfl
    clear HB H8 H2 h
    go_enter Tryd.func14, Tryd.ntmps14
    go_wp2_with (first | (go_at_call 23; (with_reducible refine (hok _).mono ?_); rintro e w2 ⟨rfl, hx2⟩; have hB2 : BB w w2 := BB.next hB0 hx2; have F2 := F0.below hx2 F0.lt; have f0 : (_ : Option Value) = some (.int .i64 (a : Int)) := F2.cell 0 (by simp); have f1 : (_ : Option Value) = some (.int .i64 (b : Int)) := F2.cell 1 (by simp); have f2 : (_ : Option Value) = some (.int .i64 (c : Int)) := F2.cell 2 (by simp); have cw := FWX.out w2 hB2) | (go_at_call 24; (with_reducible refine (d1 _ hB2).mono ?_); rintro e w3 ⟨rfl, hx3⟩; have hB3 : BB w w3 := BB.next hB2 hx3; have F3 := F2.below hx3 F2.lt; have y0 : (_ : Option Value) = some (.int .i64 (a : Int)) := F3.cell 0 (by simp); have y2 : (_ : Option Value) = some (.int .i64 (c : Int)) := F3.cell 2 (by simp)) | (go_at_call 24; (with_reducible refine (d2 _ hB3).mono ?_); rintro e w4 ⟨rfl, hx4⟩; have hB9 : BB w w4 := BB.next hB3 hx4))
    go_ret
    exact ⟨by rw [← HR.out]; first | rfl | simp [ByteArray.append_assoc], hB9⟩
  · have HR := Lib.hid (HB.out (Or.inr h))
    have q8n : ((a : Int) != 8) = true := by rw [bne_iff_ne]; omega
    have q1 : ((a : Int) == 1) = false := by rw [beq_eq_false_iff_ne]; omega
    have q7 : ((a : Int) == 7) = true := by rw [h]; rfl
    clear HB H8 H2 h
    go_enter Tryd.func14, Tryd.ntmps14
    go_wp2_with (first | (go_at_call 23; (with_reducible refine (hok _).mono ?_); rintro e w2 ⟨rfl, hx2⟩; have hB2 : BB w w2 := BB.next hB0 hx2; have F2 := F0.below hx2 F0.lt; have f0 : (_ : Option Value) = some (.int .i64 (a : Int)) := F2.cell 0 (by simp); have f1 : (_ : Option Value) = some (.int .i64 (b : Int)) := F2.cell 1 (by simp); have f2 : (_ : Option Value) = some (.int .i64 (c : Int)) := F2.cell 2 (by simp); have cw := FWX.out w2 hB2) | (go_at_call 24; (with_reducible refine (d1 _ hB2).mono ?_); rintro e w3 ⟨rfl, hx3⟩; have hB3 : BB w w3 := BB.next hB2 hx3; have F3 := F2.below hx3 F2.lt; have y0 : (_ : Option Value) = some (.int .i64 (a : Int)) := F3.cell 0 (by simp); have y2 : (_ : Option Value) = some (.int .i64 (c : Int)) := F3.cell 2 (by simp)) | (go_at_call 24; (with_reducible refine (d2 _ hB3).mono ?_); rintro e w4 ⟨rfl, hx4⟩; have hB9 : BB w w4 := BB.next hB3 hx4))
    go_ret
    exact ⟨by rw [← HR.out]; first | rfl | simp [ByteArray.append_assoc], hB9⟩
  · have HR := Lib.hid (H8.out h)
    have q8n : ((a : Int) != 8) = false := by rw [h]; rfl
    have q1 : ((a : Int) == 1) = false := by rw [beq_eq_false_iff_ne]; omega
    have q7 : ((a : Int) == 7) = false := by rw [beq_eq_false_iff_ne]; omega
    have q8 : ((a : Int) == 8) = true := by rw [h]; rfl
    clear HB H8 H2 h
    go_enter Tryd.func14, Tryd.ntmps14
    go_wp2_with (first | (go_at_call 23; (with_reducible refine (hok _).mono ?_); rintro e w2 ⟨rfl, hx2⟩; have hB2 : BB w w2 := BB.next hB0 hx2; have F2 := F0.below hx2 F0.lt; have f0 : (_ : Option Value) = some (.int .i64 (a : Int)) := F2.cell 0 (by simp); have f1 : (_ : Option Value) = some (.int .i64 (b : Int)) := F2.cell 1 (by simp); have f2 : (_ : Option Value) = some (.int .i64 (c : Int)) := F2.cell 2 (by simp); have cw := FWX.out w2 hB2) | (go_at_call 24; (with_reducible refine (d2 _ hB2).mono ?_); rintro e w4 ⟨rfl, hx4⟩; have hB9 : BB w w4 := BB.next hB2 hx4))
    go_ret
    exact ⟨by rw [← HR.out]; first | rfl | simp [ByteArray.append_assoc], hB9⟩
  · have HR := Lib.hid (H2.out h)
    have q8n : ((a : Int) != 8) = true := by rw [bne_iff_ne]; omega
    have q1 : ((a : Int) == 1) = false := by rw [beq_eq_false_iff_ne]; omega
    have q7 : ((a : Int) == 7) = false := by rw [beq_eq_false_iff_ne]; omega
    have q8 : ((a : Int) == 8) = false := by rw [beq_eq_false_iff_ne]; omega
    clear HB H8 H2 h
    go_enter Tryd.func14, Tryd.ntmps14
    go_wp2_with (first | (go_at_call 23; (with_reducible refine (hok _).mono ?_); rintro e w2 ⟨rfl, hx2⟩; have hB2 : BB w w2 := BB.next hB0 hx2; have F2 := F0.below hx2 F0.lt; have f0 : (_ : Option Value) = some (.int .i64 (a : Int)) := F2.cell 0 (by simp); have f1 : (_ : Option Value) = some (.int .i64 (b : Int)) := F2.cell 1 (by simp); have f2 : (_ : Option Value) = some (.int .i64 (c : Int)) := F2.cell 2 (by simp); have cw := FWX.out w2 hB2) | (go_at_call 24; (with_reducible refine (d1 _ hB2).mono ?_); rintro e w3 ⟨rfl, hx3⟩; have hB3 : BB w w3 := BB.next hB2 hx3; have F3 := F2.below hx3 F2.lt; have y0 : (_ : Option Value) = some (.int .i64 (a : Int)) := F3.cell 0 (by simp); have y2 : (_ : Option Value) = some (.int .i64 (c : Int)) := F3.cell 2 (by simp); have hB9 := hB3))
    go_ret
    exact ⟨by rw [← HR.out]; first | rfl | simp [ByteArray.append_assoc], hB9⟩
end Go.Proofs.YtjcghghhpmghhaaDoor
