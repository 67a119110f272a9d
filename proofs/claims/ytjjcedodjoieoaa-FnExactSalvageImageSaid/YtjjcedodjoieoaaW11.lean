/- Walks: the reference's unpacking with references. -/
import Derived.Test.YtjjcedodjoieoaaW10
namespace Go.Proofs.Ytjjcedodjoieoaa
open Go.RowKit
set_option linter.unusedVariables false

set_option maxRecDepth 100000 in
set_option maxHeartbeats 1000000 in
theorem l14Unpack_any (s : ByteArray) (w : World) (hs : s.size ≤ maxLen) :
    Calls Try.prog 60 #[.string s] w fun e w' => e = .returned (resB (unp s)) ∧ Below w.heap.size w w' := by
  unfold maxLen at hs
  by_cases hbig : 8192 < s.size
  · have HR := Lib.hid (unp_big s hbig)
    go_enter Try.func60, Try.ntmps60
    go_wp2
    go_ret2
    exact ⟨by rw [HR.out]; rfl, Below.refl _ _⟩
  · have HST := Lib.hid (unp_start s (by omega))
    go_enter Try.func60, Try.ntmps60
    go_wp2
    go_loopw [4, 5, 6, 7] (fun v i _ _ wr => ∃ (f at_ : Nat) (out : List UInt8), s.size + 1 ≤ f + at_ ∧ at_ ≤ s.size ∧ out.length ≤ 4096 ∧ i = .int .i64 at_ ∧ OwnB wr w.heap.size 5 v out ∧ Below w.heap.size w wr ∧ Hid (unpG s f at_ out = unp s))
      (fun _ i _ _ _ => s.size - (intOf i).toNat)
    case atStart => exact ⟨s.size + 1, 0, [], by omega, by omega, by simp, rfl, OwnB.lit w [] _ rfl (Nat.le_refl _) (by simp [maxLen]), below_alloc (Below.refl _ _) _, HST⟩
    case round =>
      obtain ⟨f, at_, out, hf, hat, hlen, rfl, hown, hbel, HI⟩ := hrel
      obtain ⟨A, c, rfl⟩ := hown.form
      have hsz := hbel.size
      by_cases hlt : at_ < s.size
      · obtain ⟨f, rfl⟩ : ∃ f', f = f' + 1 := ⟨f - 1, by omega⟩
        have eat := bt_eq s at_ hlt
        have hb := bt_lt s at_
        by_cases hlit : bt s at_ < 128
        · by_cases h2 : at_ + bt s at_ + 2 ≤ s.size
          · have HST1 := Lib.hid (unpStep_lit s at_ out hlit h2)
            have HSG := Lib.hid (seg_length s (at_ + 1) (at_ + bt s at_ + 2) h2)
            go_wp2_with (at_builtin; go_must (refine wpList_appS rfl (.tmp 32) (.tmp 40) 102 9 rfl eltB Try.underlying9 _ out rfl hown _ rfl (by rw [ByteArray.size_extract]; omega) hsz ?_); intro v' w' hown' hg hat' hbl; generalize hgo : out ++ (s.extract (at_ + 1) (at_ + bt s at_ + 2)).data.toList = o' at hown'; have HGO := Lib.hid hgo; clear hgo; obtain ⟨A', c', rfl⟩ := hown'.form)
            · have hl : 4096 < (o'.length : Int) := by assumption
              have hn := unpG_long s f at_ _ out o' hlt HI.out (HST1.out.trans (by rw [← HGO.out]; rfl)) (by omega)
              have HR := Lib.hid hn
              clear hn
              go_ret2
              exact ⟨by rw [HR.out]; rfl, hbel.trans hbl⟩
            · have hl : (o'.length : Int) ≤ 4096 := by assumption
              go_roundw
              case rel => exact ⟨f, at_ + bt s at_ + 2, o', by omega, h2, by omega, by go_num, hown', hbel.trans hbl, Lib.hid (unpG_go s f at_ _ out o' hlt HI.out (HST1.out.trans (by rw [← HGO.out]; rfl)) (by omega))⟩
              case measure => (simp [intOf] <;> omega)
          · have hn := unpG_none s f at_ out hlt HI.out (unpStep_lit_no s at_ out hlit h2)
            have HR := Lib.hid hn
            clear hn
            go_wp2
            go_ret2
            exact ⟨by rw [HR.out]; rfl, hbel⟩
        · by_cases h2 : at_ + 1 < s.size
          · have eat1 := bt_eq s (at_ + 1) h2
            have hb1 := bt_lt s (at_ + 1)
            by_cases h3 : 0 < bt s (at_ + 1)
            · by_cases h4 : bt s (at_ + 1) ≤ out.length
              · have d4 : decide (bt s (at_ + 1) ≤ out.length) = true := by simp; omega
                have d3 : decide (0 < bt s (at_ + 1)) = true := by simp; omega
                have HST1 := Lib.hid (unpStep_ref s at_ out hlit h2 h3 h4)
                go_wp2
                go_loopw [4, 7] (fun v i wr' => ∃ (m : Nat) (o : List UInt8), m ≤ bt s at_ - 125 ∧ i = .int .i64 m ∧ Hid (o.length + m = out.length + (bt s at_ - 125)) ∧ OwnB wr' w.heap.size 5 v o ∧ Below w.heap.size w wr' ∧ Hid (cpyBack (bt s (at_ + 1)) m o = cpyBack (bt s (at_ + 1)) (bt s at_ - 125) out))
                  (fun _ i _ => (intOf i).toNat)
                case atStart => exact ⟨bt s at_ - 125, out, Nat.le_refl _, congrArg (Value.int .i64) (by omega), Lib.hid rfl, hown, hbel, Lib.hid rfl⟩
                case round =>
                  obtain ⟨m, o, hm, rfl, HO, hown2, hbel2, HC⟩ := hrel
                  have hsz2 := hbel2.size
                  have ho1 : out.length ≤ o.length := by have := HO.out; omega
                  have ho2 : o.length ≤ out.length + 130 := by have := HO.out; omega
                  rcases m with _ | m
                  · have hE : o = cpyBack (bt s (at_ + 1)) (bt s at_ - 125) out := HC.out
                    have HE := Lib.hid hE
                    clear hE
                    obtain ⟨A', c', rfl⟩ := hown2.form
                    by_cases hl : 4096 < o.length
                    · have hn := unpG_long s f at_ _ out o hlt HI.out (HST1.out.trans (by rw [← HE.out])) hl
                      have HR := Lib.hid hn
                      clear hn
                      go_wp2
                      go_ret2
                      exact ⟨by rw [HR.out]; rfl, hbel2⟩
                    · have hn := unpG_go s f at_ _ out o hlt HI.out (HST1.out.trans (by rw [← HE.out])) hl
                      have HN := Lib.hid hn
                      clear hn
                      go_wp2
                      go_roundw
                      case rel => exact ⟨f, at_ + 2, o, by omega, by omega, by omega, by go_num, hown2, hbel2, HN⟩
                      case measure => (simp [intOf] <;> omega)
                  · have HC2 := Lib.hid (cpy_step _ _ _ _ HC.out h3 (by omega))
                    obtain ⟨g, cap, rfl, hbg, hglt, hcell⟩ := hown2.at_ (o.length - bt s (at_ + 1)) (by omega)
                    have hbb := (o[o.length - bt s (at_ + 1)]'(by omega)).toNat_lt
                    go_wp2_with (at_builtin; go_must (refine wpList_appL rfl (.tmp 79) (.tmp 91) 102 rfl eltB _ o rfl hown2 _ _ [o[o.length - bt s (at_ + 1)]'(by omega)] 1 1 rfl rfl rfl (by simp; omega) hsz2 ?_); intro v' w' hown' hg hat' hbl)
                    go_roundw
                    case rel => exact ⟨m, _, by omega, by go_num, Lib.hid (by have := HO.out; rw [List.length_append, List.length_singleton]; omega), hown', hbel2.trans hbl, HC2⟩
                    case measure => (simp [intOf] <;> omega)
              · have hn := unpG_none s f at_ out hlt HI.out (unpStep_ref_no s at_ out hlit (by omega))
                have HR := Lib.hid hn
                clear hn
                go_wp2
                go_ret2
                exact ⟨by rw [HR.out]; rfl, hbel⟩
            · have hn := unpG_none s f at_ out hlt HI.out (unpStep_ref_no s at_ out hlit (by omega))
              have HR := Lib.hid hn
              clear hn
              go_wp2
              go_ret2
              exact ⟨by rw [HR.out]; rfl, hbel⟩
          · have hn := unpG_none s f at_ out hlt HI.out (unpStep_ref_no s at_ out hlit (by omega))
            have HR := Lib.hid hn
            clear hn
            go_wp2
            go_ret2
            exact ⟨by rw [HR.out]; rfl, hbel⟩
      · have HR := Lib.hid (unpG_end s f at_ out hlt HI.out)
        have hcv := run_b2s (P := Try.prog) (dst := 9) Try.underlying102 Try.underlying5 Try.underlying9 hown
        go_wp2
        go_ret2
        exact ⟨by rw [HR.out]; rfl, hbel⟩

end Go.Proofs.Ytjjcedodjoieoaa
