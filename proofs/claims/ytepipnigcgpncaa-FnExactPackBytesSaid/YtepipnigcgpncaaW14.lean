/- Walks: packing by runs (spec). -/
import Derived.Test.YtepipnigcgpncaaW12
namespace Go.Proofs.Ytepipnigcgpncaa
open Go.RowKit
set_option linter.unusedVariables false

theorem spec_cells2 (a b : Nat) (x y : Int) (hx : x = a) (hy : y = b) (ha : a < 256) (hb : b < 256) : (#[Value.int .u8 x, Value.int .u8 y] : Array Value).toList = bcells [UInt8.ofNat a, UInt8.ofNat b] := by
  subst hx hy
  simp only [bcells, List.map_cons, List.map_nil, ofNat_lt a ha, ofNat_lt b hb]
theorem spec_cells1 (a : Nat) (x : Int) (hx : x = a) (ha : a < 256) : (#[Value.int .u8 x] : Array Value).toList = bcells [UInt8.ofNat a] := by
  subst hx
  simp only [bcells, List.map_cons, List.map_nil, ofNat_lt a ha]

set_option maxRecDepth 100000 in
set_option maxHeartbeats 1000000 in
theorem spec_PackRuns_any (s : ByteArray) (w : World) (hs : s.size ≤ maxLen) :
    Calls Try.prog 27 #[.string s] w fun e w' => e = .returned (resB (pkr s)) ∧ Below w.heap.size w w' := by
  unfold maxLen at hs
  by_cases hbig : 4096 < s.size
  · have HR := Lib.hid (pkr_big s hbig)
    go_enter Try.func27, Try.ntmps27
    go_wp2
    go_ret2
    exact ⟨by rw [HR.out]; rfl, Below.refl _ _⟩
  · have HST := Lib.hid (pkr_small s (by omega))
    go_enter Try.func27, Try.ntmps27
    go_wp2
    go_loopw [4, 5, 6, 7] (fun v i _ _ wr => ∃ (f at_ : Nat) (out : List UInt8), s.size + 1 ≤ f + at_ ∧ at_ ≤ s.size ∧ out.length ≤ 2 * at_ ∧ i = .int .i64 at_ ∧ OwnB wr w.heap.size 5 v out ∧ Below w.heap.size w wr ∧ Hid (pkrG s f at_ out = pkrG s (s.size + 1) 0 []))
      (fun _ i _ _ _ => s.size - (intOf i).toNat)
    case atStart => exact ⟨s.size + 1, 0, [], by omega, by omega, by simp, rfl, OwnB.lit w [] _ rfl (Nat.le_refl _) (by simp [maxLen]), below_alloc (Below.refl _ _) _, Lib.hid rfl⟩
    case round =>
      obtain ⟨f, at_, out, hf, hat, hlen, rfl, hown, hbel, HI⟩ := hrel
      have hsz := hbel.size
      by_cases hlt : at_ < s.size
      · obtain ⟨f, rfl⟩ : ∃ f', f = f' + 1 := ⟨f - 1, by omega⟩
        have eat := bt_eq s at_ hlt
        have hb := bt_lt s at_
        have hrb := runL_bd s at_ 64 (by omega) hlt
        by_cases h3 : 3 ≤ runL s at_ 64
        · have HN := Lib.hid (pkrG_run s f at_ out hlt h3 HI.out)
          go_wp2_with (first
            | (go_at_call 63; refine (l14Run_any s at_ 64 _ (by omega) hlt (by omega) (by omega)).mono ?_; rintro e w1 ⟨rfl, q1, rfl⟩)
            | (at_builtin; go_must (refine wpList_appL rfl (.tmp 21) (.tmp 28) 62 rfl eltB _ out rfl (hown.drewN _) _ _ [UInt8.ofNat (runL s at_ 64 + 61), UInt8.ofNat (bt s at_)] 2 2 rfl (spec_cells2 (runL s at_ 64 + 61) (bt s at_) _ _ (by omega) rfl (by omega) (by omega)) rfl (by simp; omega) hsz ?_); intro v' w' hown' hg hat' hbl))
          go_roundw
          case rel => exact ⟨f, at_ + runL s at_ 64, _, by omega, by omega, by simp; omega, by go_num, hown', (below_drewN hbel _).trans hbl, HN⟩
          case measure => (simp [intOf] <;> omega)
        · go_wp2_with (go_at_call 63; refine (l14Run_any s at_ 64 _ (by omega) hlt (by omega) (by omega)).mono ?_; rintro e w1 ⟨rfl, q1, rfl⟩)
          go_loopw [7] (fun i wr' => ∃ (f2 n q : Nat), Hid (n + f2 = 64) ∧ n ≤ 64 ∧ at_ + n ≤ s.size ∧ i = .int .i64 ((at_ + n : Nat) : Int) ∧ wr' = wr.drewN q ∧ Hid (litF s at_ f2 = litF s at_ 63)) (fun i _ => at_ + 64 - (intOf i).toNat)
          case atStart => exact ⟨64, 0, _, Lib.hid rfl, by omega, by omega, rfl, rfl, Lib.hid (litF_first s at_ hlt h3)⟩
          case round =>
            obtain ⟨f2, n, q, hf2, hn64, hn2, rfl, rfl, HL⟩ := hrel
            have HC := Lib.hid (show (at_ : Int) + n = ((at_ + n : Nat) : Int) by omega)
            rcases f2 with _ | f2
            · have g64 : ¬ ((n : Int) < 64) := by have := hf2.out; omega
              have hE : n = litF s at_ 63 := (show n = 64 by have := hf2.out; omega).trans HL.out
              have hn1 : 1 ≤ n := by have := hf2.out; omega
              by_cases hlt2 : at_ + n < s.size
              all_goals
                have HN := Lib.hid (pkrG_lit s f at_ n out hlt h3 hE HI.out)
                have hsg := Lib.hid (seg_length s at_ (at_ + n) hn2)
                clear hE
                go_wp2_with (first
                  | fail
                  | (at_builtin; refine wpList_appL rfl (.tmp 52) (.tmp 58) 62 rfl eltB _ out rfl (hown.drewN _) _ _ [UInt8.ofNat (n - 1)] 1 1 rfl (spec_cells1 (n - 1) _ (by omega) (by omega)) rfl (by simp; omega) hsz ?_; intro v1 w2 hown1 hg1 hat1 hbl1)
                  | (at_builtin; go_must (refine wpList_appS rfl (.tmp 60) (.tmp 64) 62 9 rfl eltB Try.underlying9 _ (out ++ [UInt8.ofNat (n - 1)]) rfl hown1 _ rfl (by rw [ByteArray.size_extract]; simp; omega) (Nat.le_trans hsz hbl1.size) ?_); intro v2 w3 hown2 hg2 hat2 hbl2))
                go_roundw
                case rel => exact ⟨f, at_ + n, _, by omega, by omega, (by have := hsg.out; unfold seg at this; simp only [List.length_append, List.length_singleton]; omega), by go_num, hown2, ((below_drewN hbel _).trans hbl1).trans hbl2, HN⟩
                case measure => (simp [intOf] <;> omega)
            · have g64 : (n : Int) < 64 := by have := hf2.out; omega
              have hf3 : n + (f2 + 1) = 64 := hf2.out
              have HF := Lib.hid hf3
              clear hf3
              by_cases hlt2 : at_ + n < s.size
              · have hrb2 := runL_bd s (at_ + n) 3 (by omega) hlt2
                by_cases h4 : 3 ≤ runL s (at_ + n) 3
                · have h5 : 3 ≤ runL s (at_ + n) 64 := (runL_3 s (at_ + n) 64 (by omega) hlt2).2 ((runL_3 s (at_ + n) 3 (by omega) hlt2).1 h4)
                  have hE := litF_no s at_ f2 n HF.out (fun h => h.2 h5) HL.out
                  have hn1 : 1 ≤ n := by
                    rcases Nat.eq_zero_or_pos n with h0 | h0
                    · subst h0; exact absurd h5 h3
                    · exact h0
                  have HN := Lib.hid (pkrG_lit s f at_ n out hlt h3 hE HI.out)
                  have hsg := Lib.hid (seg_length s at_ (at_ + n) hn2)
                  clear hE
                  go_wp2_with (first
                    | (go_at_call 63; rw [HC.out]; refine (l14Run_any s (at_ + n) 3 _ (by omega) hlt2 (by omega) (by omega)).mono ?_; rintro e w1 ⟨rfl, q1, rfl⟩)
                    | (at_builtin; refine wpList_appL rfl (.tmp 52) (.tmp 58) 62 rfl eltB _ out rfl (hown.drewN _) _ _ [UInt8.ofNat (n - 1)] 1 1 rfl (spec_cells1 (n - 1) _ (by omega) (by omega)) rfl (by simp; omega) hsz ?_; intro v1 w2 hown1 hg1 hat1 hbl1)
                    | (at_builtin; go_must (refine wpList_appS rfl (.tmp 60) (.tmp 64) 62 9 rfl eltB Try.underlying9 _ (out ++ [UInt8.ofNat (n - 1)]) rfl hown1 _ rfl (by rw [ByteArray.size_extract]; simp; omega) (Nat.le_trans hsz hbl1.size) ?_); intro v2 w3 hown2 hg2 hat2 hbl2))
                  go_roundw
                  case rel => exact ⟨f, at_ + n, _, by omega, by omega, (by have := hsg.out; unfold seg at this; simp only [List.length_append, List.length_singleton]; omega), by go_num, hown2, ((below_drewN hbel _).trans hbl1).trans hbl2, HN⟩
                  case measure => (simp [intOf] <;> omega)
                · have h5 : ¬ 3 ≤ runL s (at_ + n) 64 := fun h => h4 ((runL_3 s (at_ + n) 3 (by omega) hlt2).2 ((runL_3 s (at_ + n) 64 (by omega) hlt2).1 h))
                  have HL2 := Lib.hid (litF_yes s at_ f2 n HF.out hlt2 h5 HL.out)
                  go_wp2_with (go_at_call 63; rw [HC.out]; refine (l14Run_any s (at_ + n) 3 _ (by omega) hlt2 (by omega) (by omega)).mono ?_; rintro e w1 ⟨rfl, q1, rfl⟩)
                  go_roundw
                  case rel => exact ⟨f2, n + 1, _, Lib.hid (by have := HF.out; omega), by omega, by omega, by go_num, rfl, HL2⟩
                  case measure => (simp [intOf] <;> omega)
              · have hE := litF_no s at_ f2 n HF.out (fun h => hlt2 h.1) HL.out
                have hn1 : 1 ≤ n := by omega
                have HN := Lib.hid (pkrG_lit s f at_ n out hlt h3 hE HI.out)
                have hsg := Lib.hid (seg_length s at_ (at_ + n) hn2)
                clear hE
                go_wp2_with (first
                  | fail
                  | (at_builtin; refine wpList_appL rfl (.tmp 52) (.tmp 58) 62 rfl eltB _ out rfl (hown.drewN _) _ _ [UInt8.ofNat (n - 1)] 1 1 rfl (spec_cells1 (n - 1) _ (by omega) (by omega)) rfl (by simp; omega) hsz ?_; intro v1 w2 hown1 hg1 hat1 hbl1)
                  | (at_builtin; go_must (refine wpList_appS rfl (.tmp 60) (.tmp 64) 62 9 rfl eltB Try.underlying9 _ (out ++ [UInt8.ofNat (n - 1)]) rfl hown1 _ rfl (by rw [ByteArray.size_extract]; simp; omega) (Nat.le_trans hsz hbl1.size) ?_); intro v2 w3 hown2 hg2 hat2 hbl2))
                go_roundw
                case rel => exact ⟨f, at_ + n, _, by omega, by omega, (by have := hsg.out; unfold seg at this; simp only [List.length_append, List.length_singleton]; omega), by go_num, hown2, ((below_drewN hbel _).trans hbl1).trans hbl2, HN⟩
                case measure => (simp [intOf] <;> omega)
      · have HR := Lib.hid (pkrG_end s f at_ out hlt HI.out)
        have hcv := run_b2s (P := Try.prog) (dst := 9) Try.underlying62 Try.underlying5 Try.underlying9 hown
        go_wp2
        go_ret2
        exact ⟨by rw [HST.out, ← HR.out]; rfl, hbel⟩
end Go.Proofs.Ytepipnigcgpncaa
