/- Walks: the text of a feature (spec). -/
import Derived.Test.YtjcghghhpmghhaaDoorR4
namespace Go.Proofs.YtjcghghhpmghhaaDoor
open Go.RowKit Go.Lib
set_option linter.unusedVariables false

theorem BX.drR {w : World} {g : Nat} {t : TypeId} {xs : List Value} (h : BX w g t xs) : BX w.drew g t xs := h
theorem mkR_size (l : List UInt8) : (mkR l).size = l.length := List.size_toArray
theorem mkR_app (a b : List UInt8) : mkR a ++ mkR b = mkR (a ++ b) := app_arr a b
theorem sp_mk : (⟨#[32]⟩ : ByteArray) = mkR [32] := rfl
theorem kwB_at {a : Nat} (h : a < kwB.length) : kwB[a] = mkR (kw a) := by
  have h2 : a < kwL.length := h
  refine Eq.trans (List.getElem_map (f := mkR) (l := kwL) (h := h)) ?_
  unfold kw
  rw [List.getD_eq_getElem?_getD, List.getElem?_eq_getElem h2]
  rfl
theorem kw_len (a : Nat) : (kw a).length ≤ 9 := by
  by_cases h : a < 9
  · have h9 : ∀ k : Fin 9, (kw k.val).length ≤ 9 := by decide
    exact h9 ⟨a, h⟩
  · unfold kw
    rw [List.getD_eq_getElem?_getD, List.getElem?_eq_none (by simp [kwL]; omega)]
    exact Nat.zero_le _
theorem words_o (w : World) : Calls Tryd.prog 8 #[] w fun e w' => ∃ g, e = .returned (.slice (some ⟨g, 0, none⟩) 9 9) ∧ (∀ k, (hk : k < kwB.length) → w'.cell? ⟨g, k, none⟩ = some (.string kwB[k])) ∧ w.heap.size ≤ g ∧ g < w'.heap.size ∧ Below w.heap.size w w' :=
  (l11Words_any w).mono fun e w' ⟨h1, h2, h3, h4⟩ => ⟨_, h1, h2, Nat.le_refl _, h3, h4⟩
theorem tx_b {k s v : Nat} (h : k = 1 ∨ k = 7) : (mkR (kw k) ++ (⟨#[32]⟩ ++ mkR (decDigits s))) ++ (⟨#[32]⟩ ++ mkR (decDigits v)) = mkR (txL k s v) := by
  rw [txL_13 h, sp_mk, mkR_app, mkR_app, mkR_app, mkR_app]
  congr 1
  simp
theorem tx_8 {s v : Nat} : mkR (kw 8) ++ (⟨#[32]⟩ ++ mkR (decDigits v)) = mkR (txL 8 s v) := by
  rw [txL_8, sp_mk, mkR_app, mkR_app]
  congr 1
theorem tx_2 {k s v : Nat} (h : 2 ≤ k ∧ k ≤ 6) : mkR (kw k) ++ (⟨#[32]⟩ ++ mkR (decDigits s)) = mkR (txL k s v) := by
  rw [txL_2 h, sp_mk, mkR_app, mkR_app]
  congr 1
set_option maxRecDepth 100000 in
set_option maxHeartbeats 4000000 in
theorem l11Text_any (a s v : Nat) (w : World) (ha : 1 ≤ a ∧ a ≤ 8) (hs : s < 10000000) (hv : v < 10000000) :
    Calls Tryd.prog 17 #[.agg #[.int .i64 (a : Int), .int .i64 (s : Int), .int .i64 (v : Int)]] w fun e w' => e = .returned (.string (mkR (txL a s v))) ∧ Below w.heap.size w w' := by
  have F0 := BX.made w 23 [.int .i64 (a : Int), .int .i64 (s : Int), .int .i64 (v : Int)]
  have hB0 : BB w (w.alloc (.cells #[.int .i64 (a : Int), .int .i64 (s : Int), .int .i64 (v : Int)] 23)) := BB.al (BB.start w) _
  have hai : (a : Int) < 9 := by omega
  have ha9 : a < kwB.length := by show a < 9; omega
  have d1 := fun W => l01Dec_any s hs W
  have d2 := fun W => l01Dec_any v hv W
  have hk9 : (mkR (kw a)).size ≤ 9 := by rw [mkR_size]; exact kw_len a
  have hs7 : (mkR (decDigits s)).size ≤ 7 := by rw [mkR_size]; exact dd_len 6 s (by simpa using hs)
  have hv7 : (mkR (decDigits v)).size ≤ 7 := by rw [mkR_size]; exact dd_len 6 v (by simpa using hv)
  have HB := Lib.hid (fun (h : a = 1 ∨ a = 7) => tx_b (s := s) (v := v) h)
  have H8 := Lib.hid (fun (h : a = 8) => (show mkR (kw a) ++ (⟨#[32]⟩ ++ mkR (decDigits v)) = mkR (txL a s v) by subst h; exact tx_8))
  have H2 := Lib.hid (fun (h : 2 ≤ a ∧ a ≤ 6) => tx_2 (s := s) (v := v) h)
  obtain ⟨K, hK⟩ : ∃ K, mkR (kw a) = K := ⟨_, rfl⟩
  obtain ⟨S, hS⟩ : ∃ S, mkR (decDigits s) = S := ⟨_, rfl⟩
  obtain ⟨V, hV⟩ : ∃ V, mkR (decDigits v) = V := ⟨_, rfl⟩
  obtain ⟨R, hR⟩ : ∃ R, mkR (txL a s v) = R := ⟨_, rfl⟩
  rw [hR]
  have HKB := Lib.hid ((kwB_at ha9).trans hK)
  rw [hK, hS, hV, hR] at HB
  rw [hK, hV, hR] at H8
  rw [hK, hS, hR] at H2
  rw [hK] at hk9
  rw [hS] at hs7
  rw [hV] at hv7
  replace d1 : ∀ W : World, Calls Tryd.prog 26 #[.int .i64 (s : Int)] W fun e w' => e = .returned (.string S) ∧ Below W.heap.size W w' := by rw [← hS]; exact d1
  replace d2 : ∀ W : World, Calls Tryd.prog 26 #[.int .i64 (v : Int)] W fun e w' => e = .returned (.string V) ∧ Below W.heap.size W w' := by rw [← hV]; exact d2
  have sp1 : (⟨#[32]⟩ : ByteArray).size = 1 := rfl
  have m1 : ¬ 9223372036854775807 < 1 + S.size := by omega
  have m2 : ¬ (9223372036854775807 : Int) < 1 + (S.size : Int) := by omega
  have m3 : ¬ 9223372036854775807 < K.size + (1 + S.size) := by omega
  have m4 : ¬ (9223372036854775807 : Int) < (K.size : Int) + (1 + (S.size : Int)) := by omega
  have m5 : ¬ 9223372036854775807 < 1 + V.size := by omega
  have m6 : ¬ (9223372036854775807 : Int) < 1 + (V.size : Int) := by omega
  have m7 : ¬ 9223372036854775807 < K.size + (1 + S.size) + (1 + V.size) := by omega
  have m8 : ¬ (9223372036854775807 : Int) < (K.size : Int) + (1 + (S.size : Int)) + (1 + (V.size : Int)) := by omega
  have m9 : ¬ 9223372036854775807 < K.size + (1 + V.size) := by omega
  have m10 : ¬ (9223372036854775807 : Int) < (K.size : Int) + (1 + (V.size : Int)) := by omega
  clear hK hS hV hR hk9 hs7 hv7 hs hv
  go_enter Tryd.func17, Tryd.ntmps17
  go_upto_region 1 with fail
  generalize hW1 : w.alloc (.cells #[.int .i64 (a : Int), .int .i64 (s : Int), .int .i64 (v : Int)] 23) = w1 at F0 hB0 ⊢
  generalize w.heap.size = g0 at F0 ⊢
  clear hW1
  go_cut [3] (fun x wx => x = .string K ∧ BX wx g0 23 [.int .i64 (a : Int), .int .i64 (s : Int), .int .i64 (v : Int)] ∧ BB w wx)
  case first =>
    have f0 : (_ : Option Value) = some (.int .i64 (a : Int)) := (BX.drR F0).cell 0 (by simp)
    have wo := words_o w1.drew
    go_region_law (go_simp; (go_at_call 8; (with_reducible refine wo.mono ?_); rintro e w2 ⟨g, rfl, hcw, hg1, hg2, hx2⟩; have F2 := (BX.drR F0).below hx2 (BX.drR F0).lt; have hB2 : BB w w2 := BB.next (BB.dr hB0) hx2; have z0 : (_ : Option Value) = some (.int .i64 (a : Int)) := F2.cell 0 (by simp); have c8 := (hcw a ha9); rw [HKB.out] at c8; clear hcw))
    all_goals
      go_wp2_with fail
      go_meet
      exact ⟨rfl, F2, hB2⟩
  case rest =>
    obtain ⟨rfl, F2, hB2⟩ := hcut
    obtain ⟨w2, hw2⟩ : ∃ x, x = wc := ⟨_, rfl⟩
    subst hw2
    clear F0 hB0
    have f0 : (_ : Option Value) = some (.int .i64 (a : Int)) := F2.cell 0 (by simp)
    have f1 : (_ : Option Value) = some (.int .i64 (s : Int)) := F2.cell 1 (by simp)
    have f2 : (_ : Option Value) = some (.int .i64 (v : Int)) := F2.cell 2 (by simp)
    rcases (show a = 1 ∨ a = 7 ∨ a = 8 ∨ (2 ≤ a ∧ a ≤ 6) by omega) with h | h | h | h
    · have HR := Lib.hid (HB.out (Or.inl h))
      have q8n : ((a : Int) != 8) = true := by rw [bne_iff_ne]; omega
      have q1 : ((a : Int) == 1) = true := by rw [h]; rfl
      clear HB H8 H2 h
      go_wp2_with (first | (go_at_call 26; (with_reducible refine (d1 _).mono ?_); rintro e w3 ⟨rfl, hx3⟩; have hB3 : BB w w3 := BB.next hB2 hx3; have F3 := F2.below hx3 F2.lt; have y0 : (_ : Option Value) = some (.int .i64 (a : Int)) := F3.cell 0 (by simp); have y2 : (_ : Option Value) = some (.int .i64 (v : Int)) := F3.cell 2 (by simp); have mk1 := True.intro) | (go_at_call 26; (with_reducible refine (d2 _).mono ?_); rintro e w4 ⟨rfl, hx4⟩; have hB9 : BB w w4 := BB.next hB3 hx4))
      go_ret
      exact ⟨by rw [← HR.out]; first | rfl | simp [ByteArray.append_assoc], hB9⟩
    · have HR := Lib.hid (HB.out (Or.inr h))
      have q8n : ((a : Int) != 8) = true := by rw [bne_iff_ne]; omega
      have q1 : ((a : Int) == 1) = false := by rw [beq_eq_false_iff_ne]; omega
      have q7 : ((a : Int) == 7) = true := by rw [h]; rfl
      clear HB H8 H2 h
      go_wp2_with (first | (go_at_call 26; (with_reducible refine (d1 _).mono ?_); rintro e w3 ⟨rfl, hx3⟩; have hB3 : BB w w3 := BB.next hB2 hx3; have F3 := F2.below hx3 F2.lt; have y0 : (_ : Option Value) = some (.int .i64 (a : Int)) := F3.cell 0 (by simp); have y2 : (_ : Option Value) = some (.int .i64 (v : Int)) := F3.cell 2 (by simp); have mk1 := True.intro) | (go_at_call 26; (with_reducible refine (d2 _).mono ?_); rintro e w4 ⟨rfl, hx4⟩; have hB9 : BB w w4 := BB.next hB3 hx4))
      go_ret
      exact ⟨by rw [← HR.out]; first | rfl | simp [ByteArray.append_assoc], hB9⟩
    · have HR := Lib.hid (H8.out h)
      have q8n : ((a : Int) != 8) = false := by rw [h]; rfl
      have q1 : ((a : Int) == 1) = false := by rw [beq_eq_false_iff_ne]; omega
      have q7 : ((a : Int) == 7) = false := by rw [beq_eq_false_iff_ne]; omega
      have q8 : ((a : Int) == 8) = true := by rw [h]; rfl
      clear HB H8 H2 h
      go_wp2_with ((go_at_call 26; (with_reducible refine (d2 _).mono ?_); rintro e w4 ⟨rfl, hx4⟩; have hB9 : BB w w4 := BB.next hB2 hx4))
      go_ret
      exact ⟨by rw [← HR.out]; first | rfl | simp [ByteArray.append_assoc], hB9⟩
    · have HR := Lib.hid (H2.out h)
      have q8n : ((a : Int) != 8) = true := by rw [bne_iff_ne]; omega
      have q1 : ((a : Int) == 1) = false := by rw [beq_eq_false_iff_ne]; omega
      have q7 : ((a : Int) == 7) = false := by rw [beq_eq_false_iff_ne]; omega
      have q8 : ((a : Int) == 8) = false := by rw [beq_eq_false_iff_ne]; omega
      clear HB H8 H2 h
      go_wp2_with ((go_at_call 26; (with_reducible refine (d1 _).mono ?_); rintro e w3 ⟨rfl, hx3⟩; have hB3 : BB w w3 := BB.next hB2 hx3; have F3 := F2.below hx3 F2.lt; have y0 : (_ : Option Value) = some (.int .i64 (a : Int)) := F3.cell 0 (by simp); have y2 : (_ : Option Value) = some (.int .i64 (v : Int)) := F3.cell 2 (by simp); have hB9 := hB3))
      go_ret
      exact ⟨by rw [← HR.out]; first | rfl | simp [ByteArray.append_assoc], hB9⟩
set_option maxRecDepth 100000 in
set_option maxHeartbeats 4000000 in
theorem spec_FeatureText_any (k s v : Int) (w : World) : Calls Tryd.prog 10 #[.agg #[.int .i64 k, .int .i64 s, .int .i64 v]] w fun e w' => e = .returned (.string (mkR (ftx (k, s, v)))) ∧ Below w.heap.size w w' := by
  have F0 := BX.made w 23 [.int .i64 k, .int .i64 s, .int .i64 v]
  have hB0 : BB w (w.alloc (.cells #[.int .i64 k, .int .i64 s, .int .i64 v] 23)) := BB.al (BB.start w) _
  have hok := fun W => l11Ok_any k s v W
  cases hf : feB k s v
  · have HR := Lib.hid (show mkR (ftx (k, s, v)) = ⟨#[]⟩ by rw [ftx_no hf]; rfl)
    rw [hf] at hok
    clear hf
    go_enter Tryd.func10, Tryd.ntmps10
    go_wp2_with (go_at_call 16; (with_reducible refine (hok _).mono ?_); rintro e w2 ⟨rfl, hx2⟩; have hB2 : BB w w2 := BB.next hB0 hx2)
    go_ret
    exact ⟨by rw [HR.out]; rfl, hB2⟩
  · have HR := Lib.hid (show mkR (ftx (k, s, v)) = mkR (txL k.toNat s.toNat v.toNat) by rw [ftx_yes hf])
    rw [hf] at hok
    obtain ⟨a, b, c, rfl, rfl, rfl, hb, hc, hh⟩ := feB_cases hf
    simp only [Int.toNat_natCast] at HR
    have tx := fun W => l11Text_any a b c W (by omega) (by omega) (by omega)
    rw [HR.out]
    generalize mkR (txL a b c) = R at tx ⊢
    clear hf hh HR hb hc
    go_enter Tryd.func10, Tryd.ntmps10
    go_wp2_with (first
      | (go_at_call 16; (with_reducible refine (hok _).mono ?_); rintro e w2 ⟨rfl, hx2⟩; have hB2 : BB w w2 := BB.next hB0 hx2; have F2 := F0.below hx2 F0.lt; have f0 : (_ : Option Value) = some (.int .i64 (a : Int)) := F2.cell 0 (by simp); have f1 : (_ : Option Value) = some (.int .i64 (b : Int)) := F2.cell 1 (by simp); have f2 : (_ : Option Value) = some (.int .i64 (c : Int)) := F2.cell 2 (by simp))
      | (go_at_call 17; (with_reducible refine (tx _).mono ?_); rintro e w3 ⟨rfl, hx3⟩; have hB3 : BB w w3 := BB.next hB2 hx3))
    go_ret
    exact ⟨rfl, hB3⟩
end Go.Proofs.YtjcghghhpmghhaaDoor
