/- Walks: unpacking by runs (spec). -/
import Derived.Test.YtgilmdohlacknaaW10
import Derived.Test.YtgilmdohlacknaaUrM
namespace Go.Proofs.Ytgilmdohlacknaa
open Go.RowKit
set_option linter.unusedVariables false

set_option maxRecDepth 100000 in
set_option maxHeartbeats 2000000 in
theorem spec_UnpackRuns_any (s : ByteArray) (w : World) (hs : s.size ≤ maxLen) :
    Calls Try.prog 4 #[.string s] w fun e w' => e = .returned (resB (ur s)) ∧ Below w.heap.size w w' := by
  unfold maxLen at hs
  by_cases hbig : 8192 < s.size
  · have HR := Lib.hid (ur_big s hbig)
    go_enter Try.func4, Try.ntmps4
    go_wp2
    go_ret2
    exact ⟨by rw [HR.out]; rfl, Below.refl _ _⟩
  · have HST := Lib.hid (ur_start s (by omega))
    have h00 : OwnB (w.alloc (.cells #[] 5)) w.heap.size 5 (.slice (some ⟨w.heap.size, 0, none⟩) 0 0) [] := OwnB.lit (e := 5) (base := w.heap.size) w [] #[] rfl (Nat.le_refl _) (by simp)
    have hb0 : Below w.heap.size w (w.alloc (.cells #[] 5)) := below_alloc (Below.refl _ _) _
    go_enter Try.func4, Try.ntmps4
    go_wp2
    go_loopw [4, 5] (fun v i wr => ∃ (f at_ : Nat) (out : List UInt8), s.size + 1 ≤ f + at_ ∧ at_ ≤ s.size ∧ out.length ≤ 4096 ∧ i = .int .i64 at_ ∧ OwnB wr w.heap.size 5 v out ∧ Below w.heap.size w wr ∧ Hid (urG s f at_ out = ur s))
      (fun _ i _ => s.size - (intOf i).toNat)
    case atStart => exact ⟨s.size + 1, 0, [], by omega, by omega, by simp, rfl, h00, hb0, HST⟩
    case round =>
      clear h00 hb0
      obtain ⟨f, at_, out, hf, hat, hol, rfl, hown, hbel, HI⟩ := hrel
      obtain ⟨A, c, rfl⟩ := hown.form
      have hsz := hbel.size
      by_cases hlt : at_ < s.size
      · obtain ⟨f, rfl⟩ : ∃ f', f = f' + 1 := ⟨f - 1, by omega⟩
        have eat := bt_eq s at_ hlt
        have hb := bt_lt s at_
        by_cases hlit : bt s at_ < 64
        · by_cases h2 : at_ + bt s at_ + 2 ≤ s.size
          · have HN := Lib.hid (urG_go s f at_ _ out _ hlt HI.out (urStep_lit s at_ out hlit h2))
            have hsg := seg_length s (at_ + 1) (at_ + bt s at_ + 2) h2
            have hsl : (s.extract (at_ + 1) (at_ + bt s at_ + 2)).size = bt s at_ + 1 := by rw [ByteArray.size_extract]; omega
            have HSG := Lib.hid hsg
            have HSL := Lib.hid hsl
            clear hsg hsl
            by_cases hl2 : 4096 < out.length + (bt s at_ + 1)
            · have HR := Lib.hid (urG_over s _ _ _ HN.out (by rw [List.length_append, HSG.out]; omega))
              have hl2i : (4096 : Int) < (out.length : Int) + ((bt s at_ : Int) + 1) := by omega
              go_wp2_with (at_builtin; go_must (refine wpList_appS rfl (.tmp 32) (.tmp 40) 25 9 rfl eltB Try.underlying9 _ out rfl hown _ rfl (by rw [ByteArray.size_extract]; omega) hsz ?_); intro v' w' hown' hg hat' hbl; obtain ⟨A8, c8, rfl⟩ := hown'.form; have hL : (out ++ (s.extract (at_ + 1) (at_ + bt s at_ + 2)).data.toList).length = out.length + (bt s at_ + 1) := (by rw [List.length_append]; have := HSG.out; unfold seg at this; omega); rw [hL] at hown'; clear hL)
              go_ret2
              exact ⟨by rw [HR.out]; rfl, hbel.trans hbl⟩
            · have hl2i : ¬ (4096 : Int) < (out.length : Int) + ((bt s at_ : Int) + 1) := by omega
              go_wp2_with (at_builtin; go_must (refine wpList_appS rfl (.tmp 32) (.tmp 40) 25 9 rfl eltB Try.underlying9 _ out rfl hown _ rfl (by rw [ByteArray.size_extract]; omega) hsz ?_); intro v' w' hown' hg hat' hbl; obtain ⟨A8, c8, rfl⟩ := hown'.form; have hL : (out ++ (s.extract (at_ + 1) (at_ + bt s at_ + 2)).data.toList).length = out.length + (bt s at_ + 1) := (by rw [List.length_append]; have := HSG.out; unfold seg at this; omega); have HLL := Lib.hid hL; rw [hL] at hown'; clear hL)
              go_roundw
              case rel => exact ⟨f, at_ + bt s at_ + 2, out ++ (s.extract (at_ + 1) (at_ + bt s at_ + 2)).data.toList, by omega, h2, (by rw [List.length_append]; have := HSG.out; unfold seg at this; omega), by go_num, (by first | exact hown' | (rw [show min (at_ + bt s at_ + 1 - at_) (s.size - (at_ + 1)) = bt s at_ + 1 by omega]; exact hown')), hbel.trans hbl, HN⟩
              case measure => (simp [intOf] <;> omega)
          · have HR := Lib.hid (urG_none s f at_ out hlt HI.out (urStep_lit_no s at_ out hlit h2))
            go_wp2
            go_ret2
            exact ⟨by rw [HR.out]; rfl, hbel⟩
        · by_cases h2 : bt s at_ ≤ 125 ∧ at_ + 1 < s.size
          · obtain ⟨h3, h4⟩ := h2
            have HN := Lib.hid (urG_go s f at_ _ out _ hlt HI.out (urStep_run s at_ out hlit h4 h3))
            have eat1 := bt_eq s (at_ + 1) h4
            have hx1 : (s.data.toList.getD (at_ + 1) 0).toNat = bt s (at_ + 1) := rfl
            obtain ⟨x, hx⟩ : ∃ x : UInt8, s.data.toList.getD (at_ + 1) 0 = x := ⟨_, rfl⟩
            rw [hx] at HN hx1
            obtain ⟨n, hn⟩ : ∃ n, bt s at_ - 61 = n := ⟨_, rfl⟩
            rw [hn] at HN
            have hn64 : n ≤ 64 := by omega
            have hwn : IntKind.i64.wrap ((bt s at_ : Int) - 61) = (n : Int) := by rw [show (bt s at_ : Int) - 61 = (n : Int) by omega]; exact IntWalk.i64_in _ (by omega)
            rw [← hx1] at eat1
            clear hx hn hx1
            go_wp2
            go_loopw [4, 7] (fun v i wr' => ∃ (j : Nat) (o : List UInt8), j ≤ n ∧ i = .int .i64 j ∧ Hid (o ++ List.replicate j x = out ++ List.replicate n x) ∧ Hid (o.length + j = out.length + n) ∧ OwnB wr' w.heap.size 5 v o ∧ Below w.heap.size w wr') (fun _ i _ => (intOf i).toNat)
            case atStart => exact ⟨n, out, Nat.le_refl _, rfl, Lib.hid rfl, Lib.hid rfl, hown, hbel⟩
            case round =>
              obtain ⟨j, o, hj, rfl, HO, HL, hown2, hbel2⟩ := hrel
              have hsz2 := hbel2.size
              have hl := HL.out
              have hol2 : o.length ≤ 5000 := by omega
              by_cases hj0 : 0 < j
              · obtain ⟨j, rfl⟩ : ∃ j', j = j' + 1 := ⟨j - 1, by omega⟩
                have HO2 := Lib.hid (show (o ++ [x]) ++ List.replicate j x = out ++ List.replicate n x by rw [← repl_snoc]; exact HO.out)
                have hwj : IntKind.i64.wrap (((j + 1 : Nat) : Int) - 1) = (j : Int) := by rw [show ((j + 1 : Nat) : Int) - 1 = (j : Int) by omega]; exact IntWalk.i64_in _ (by omega)
                have hlen1 : (o ++ [x]).length + j = out.length + n := by rw [List.length_append, List.length_singleton]; omega
                have HL2 := Lib.hid hlen1
                clear hlen1 hl
                go_wp2_with (at_builtin; go_must (refine wpList_appL rfl (.tmp 66) (.tmp 71) 25 rfl eltB _ o rfl hown2 _ _ [x] 1 1 rfl rfl rfl (by simp; omega) hsz2 ?_); intro v' w' hown' hg hat' hbl)
                go_roundw
                case rel => exact ⟨j, o ++ [x], by omega, by first | rfl | go_num, HO2, HL2, hown', hbel2.trans hbl⟩
                case measure => (simp [intOf] <;> omega)
              · obtain rfl : j = 0 := by omega
                have hE : o = out ++ List.replicate n x := by have := HO.out; simpa using this
                rw [← hE] at HN
                obtain ⟨A9, c9, rfl⟩ := hown2.form
                clear hE HO HL hj hl
                by_cases hl2 : 4096 < o.length
                · have HR := Lib.hid (urG_over s _ _ _ HN.out hl2)
                  have hl2i : (4096 : Int) < (o.length : Int) := by omega
                  go_wp2
                  go_ret2
                  exact ⟨by rw [HR.out]; rfl, hbel2⟩
                · have hl2i : ¬ (4096 : Int) < (o.length : Int) := by omega
                  go_wp2
                  go_roundw
                  case rel => exact ⟨f, at_ + 2, o, by omega, by omega, by omega, by go_num, hown2, hbel2, HN⟩
                  case measure => (simp [intOf] <;> omega)
          · have HR := Lib.hid (urG_none s f at_ out hlt HI.out (urStep_run_no s at_ out hlit h2))
            by_cases h3 : bt s at_ ≤ 125
            all_goals
              go_wp2
              go_ret2
              exact ⟨by rw [HR.out]; rfl, hbel⟩
      · have HR := Lib.hid (urG_end s f at_ out hlt HI.out (by omega))
        have hcv := run_b2s (P := Try.prog) (dst := 9) Try.underlying25 Try.underlying5 Try.underlying9 hown
        go_wp2
        go_ret2
        exact ⟨by rw [HR.out]; rfl, hbel⟩
end Go.Proofs.Ytgilmdohlacknaa
