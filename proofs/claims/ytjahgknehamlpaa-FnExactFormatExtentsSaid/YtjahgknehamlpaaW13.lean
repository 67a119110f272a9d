/- Walks: packing by runs (impl). -/
import Derived.Test.YtjahgknehamlpaaW12
namespace Go.Proofs.Ytjahgknehamlpaa
open Go.RowKit
set_option linter.unusedVariables false

theorem impl_cells2 (a b : Nat) (x y : Int) (hx : x = a) (hy : y = b) (ha : a < 256) (hb : b < 256) : (#[Value.int .u8 x, Value.int .u8 y] : Array Value).toList = bcells [UInt8.ofNat a, UInt8.ofNat b] := by
  subst hx hy
  simp only [bcells, List.map_cons, List.map_nil, ofNat_lt a ha, ofNat_lt b hb]
theorem impl_cells1 (a : Nat) (x : Int) (hx : x = a) (ha : a < 256) : (#[Value.int .u8 x] : Array Value).toList = bcells [UInt8.ofNat a] := by
  subst hx
  simp only [bcells, List.map_cons, List.map_nil, ofNat_lt a ha]

set_option maxRecDepth 100000 in
set_option maxHeartbeats 1000000 in
theorem impl_PackRuns_any (s : ByteArray) (w : World) (hs : s.size ≤ maxLen) :
    Calls Try.prog 16 #[.string s] w fun e w' => e = .returned (resB (pkr s)) ∧ Below w.heap.size w w' := by
  unfold maxLen at hs
  by_cases hbig : 4096 < s.size
  · have HR := Lib.hid (pkr_big s hbig)
    go_enter Try.func16, Try.ntmps16
    go_wp2
    go_ret2
    exact ⟨by rw [HR.out]; rfl, Below.refl _ _⟩
  · have HST := Lib.hid (pkr_small s (by omega))
    go_enter Try.func16, Try.ntmps16
    go_wp2
    go_loopw [4, 5, 6, 7] (fun v i _ _ wr => ∃ (f at_ : Nat) (out : List UInt8), s.size + 1 ≤ f + at_ ∧ at_ ≤ s.size ∧ out.length ≤ 2 * at_ ∧ i = .int .i64 at_ ∧ OwnB wr w.heap.size 5 v out ∧ Below w.heap.size w wr ∧ Hid (pkrG s f at_ out = pkrG s (s.size + 1) 0 []))
      (fun _ i _ _ _ => s.size - (intOf i).toNat)
    case atStart => exact ⟨s.size + 1, 0, [], by omega, by omega, by simp, rfl, OwnB.nil _ _ _, Below.refl _ _, Lib.hid rfl⟩
    case round =>
      obtain ⟨f, at_, out, hf, hat, hlen, rfl, hown, hbel, HI⟩ := hrel
      have hsz := hbel.size
      by_cases hlt : at_ < s.size
      · obtain ⟨f, rfl⟩ : ∃ f', f = f' + 1 := ⟨f - 1, by omega⟩
        have eat := bt_eq s at_ hlt
        have hb := bt_lt s at_
        have hrb := runL_bd s at_ 64 (by omega) hlt
        by_cases h3 : 3 ≤ runL s at_ 64
        · have HN := Lib.hid (pkrG_run s f at_ out hlt h3 HI.out)
          go_wp2_with (first
            | (go_at_call 49; refine (equalBytes_any s at_ _ (by omega) hlt).mono ?_; rintro e w1 ⟨rfl, q1, rfl⟩)
            | (at_builtin; go_must (refine wpList_appL rfl (.tmp 20) (.tmp 27) 22 rfl eltB _ out rfl (hown.drewN _) _ _ [UInt8.ofNat (runL s at_ 64 + 61), UInt8.ofNat (bt s at_)] 2 2 rfl (impl_cells2 (runL s at_ 64 + 61) (bt s at_) _ _ (by omega) rfl (by omega) (by omega)) rfl (by simp; omega) hsz ?_); intro v' w' hown' hg hat' hbl))
          go_roundw
          case rel => exact ⟨f, at_ + runL s at_ 64, _, by omega, by omega, by simp; omega, by go_num, hown', (below_drewN hbel _).trans hbl, HN⟩
          case measure => (simp [intOf] <;> omega)
        · go_wp2_with (go_at_call 49; refine (equalBytes_any s at_ _ (by omega) hlt).mono ?_; rintro e w1 ⟨rfl, q1, rfl⟩)
          go_loopw [7] (fun i wr' => ∃ (f2 n q : Nat), Hid (n + f2 = 64) ∧ n ≤ 64 ∧ 1 ≤ n ∧ at_ + n ≤ s.size ∧ i = .int .i64 n ∧ wr' = wr.drewN q ∧ Hid (litF s at_ f2 = litF s at_ 63)) (fun i _ => 64 - (intOf i).toNat)
          case atStart => exact ⟨63, 1, _, Lib.hid rfl, by omega, by omega, by omega, rfl, rfl, Lib.hid rfl⟩
          case round =>
            obtain ⟨f2, n, q, hf2, hn64, hn1, hn2, rfl, rfl, HL⟩ := hrel
            have HC := Lib.hid (show (at_ : Int) + n = ((at_ + n : Nat) : Int) by omega)
            rcases f2 with _ | f2
            · have g64 : ¬ ((n : Int) < 64) := by have := hf2.out; omega
              have hE : n = litF s at_ 63 := (show n = 64 by have := hf2.out; omega).trans HL.out
              by_cases hlt2 : at_ + n < s.size
              all_goals
                have HN := Lib.hid (pkrG_lit s f at_ n out hlt h3 hE HI.out)
                have hsg := Lib.hid (seg_length s at_ (at_ + n) hn2)
                clear hE
                go_wp2_with (first
                  | fail
                  | (at_builtin; refine wpList_appL rfl (.tmp 52) (.tmp 56) 22 rfl eltB _ out rfl (hown.drewN _) _ _ [UInt8.ofNat (n - 1)] 1 1 rfl (impl_cells1 (n - 1) _ (by omega) (by omega)) rfl (by simp; omega) hsz ?_; intro v1 w2 hown1 hg1 hat1 hbl1)
                  | (at_builtin; go_must (refine wpList_appS rfl (.tmp 58) (.tmp 64) 22 9 rfl eltB Try.underlying9 _ (out ++ [UInt8.ofNat (n - 1)]) rfl hown1 _ rfl (by rw [ByteArray.size_extract]; simp; omega) (Nat.le_trans hsz hbl1.size) ?_); intro v2 w3 hown2 hg2 hat2 hbl2))
                go_roundw
                case rel => exact ⟨f, at_ + n, _, by omega, by omega, (by have := hsg.out; unfold seg at this; simp only [List.length_append, List.length_singleton]; omega), by go_num, hown2, ((below_drewN hbel _).trans hbl1).trans hbl2, HN⟩
                case measure => (simp [intOf] <;> omega)
            · have g64 : (n : Int) < 64 := by have := hf2.out; omega
              have hf3 : n + (f2 + 1) = 64 := hf2.out
              have HF := Lib.hid hf3
              clear hf3
              by_cases hlt2 : at_ + n < s.size
              · have hrb2 := runL_bd s (at_ + n) 64 (by omega) hlt2
                by_cases h4 : 3 ≤ runL s (at_ + n) 64
                · have hE := litF_no s at_ f2 n HF.out (fun h => h.2 h4) HL.out
                  have HN := Lib.hid (pkrG_lit s f at_ n out hlt h3 hE HI.out)
                  have hsg := Lib.hid (seg_length s at_ (at_ + n) hn2)
                  clear hE
                  go_wp2_with (first
                    | (go_at_call 49; rw [HC.out]; refine (equalBytes_any s (at_ + n) _ (by omega) hlt2).mono ?_; rintro e w1 ⟨rfl, q1, rfl⟩)
                    | (at_builtin; refine wpList_appL rfl (.tmp 52) (.tmp 56) 22 rfl eltB _ out rfl (hown.drewN _) _ _ [UInt8.ofNat (n - 1)] 1 1 rfl (impl_cells1 (n - 1) _ (by omega) (by omega)) rfl (by simp; omega) hsz ?_; intro v1 w2 hown1 hg1 hat1 hbl1)
                    | (at_builtin; go_must (refine wpList_appS rfl (.tmp 58) (.tmp 64) 22 9 rfl eltB Try.underlying9 _ (out ++ [UInt8.ofNat (n - 1)]) rfl hown1 _ rfl (by rw [ByteArray.size_extract]; simp; omega) (Nat.le_trans hsz hbl1.size) ?_); intro v2 w3 hown2 hg2 hat2 hbl2))
                  go_roundw
                  case rel => exact ⟨f, at_ + n, _, by omega, by omega, (by have := hsg.out; unfold seg at this; simp only [List.length_append, List.length_singleton]; omega), by go_num, hown2, ((below_drewN hbel _).trans hbl1).trans hbl2, HN⟩
                  case measure => (simp [intOf] <;> omega)
                · have HL2 := Lib.hid (litF_yes s at_ f2 n HF.out hlt2 h4 HL.out)
                  go_wp2_with (go_at_call 49; rw [HC.out]; refine (equalBytes_any s (at_ + n) _ (by omega) hlt2).mono ?_; rintro e w1 ⟨rfl, q1, rfl⟩)
                  go_roundw
                  case rel => exact ⟨f2, n + 1, _, Lib.hid (by have := HF.out; omega), by omega, by omega, by omega, by go_num, rfl, HL2⟩
                  case measure => (simp [intOf] <;> omega)
              · have hE := litF_no s at_ f2 n HF.out (fun h => hlt2 h.1) HL.out
                have HN := Lib.hid (pkrG_lit s f at_ n out hlt h3 hE HI.out)
                have hsg := Lib.hid (seg_length s at_ (at_ + n) hn2)
                clear hE
                go_wp2_with (first
                  | fail
                  | (at_builtin; refine wpList_appL rfl (.tmp 52) (.tmp 56) 22 rfl eltB _ out rfl (hown.drewN _) _ _ [UInt8.ofNat (n - 1)] 1 1 rfl (impl_cells1 (n - 1) _ (by omega) (by omega)) rfl (by simp; omega) hsz ?_; intro v1 w2 hown1 hg1 hat1 hbl1)
                  | (at_builtin; go_must (refine wpList_appS rfl (.tmp 58) (.tmp 64) 22 9 rfl eltB Try.underlying9 _ (out ++ [UInt8.ofNat (n - 1)]) rfl hown1 _ rfl (by rw [ByteArray.size_extract]; simp; omega) (Nat.le_trans hsz hbl1.size) ?_); intro v2 w3 hown2 hg2 hat2 hbl2))
                go_roundw
                case rel => exact ⟨f, at_ + n, _, by omega, by omega, (by have := hsg.out; unfold seg at this; simp only [List.length_append, List.length_singleton]; omega), by go_num, hown2, ((below_drewN hbel _).trans hbl1).trans hbl2, HN⟩
                case measure => (simp [intOf] <;> omega)
      · have HR := Lib.hid (pkrG_end s f at_ out hlt HI.out)
        have hcv := run_b2s (P := Try.prog) (dst := 9) Try.underlying22 Try.underlying5 Try.underlying9 hown
        go_wp2
        go_ret2
        exact ⟨by rw [HST.out, ← HR.out]; rfl, hbel⟩
end Go.Proofs.Ytjahgknehamlpaa
