/- Walks: unpacking with references. -/
import Derived.Test.YtemppogailpoiaaUnpM
import Derived.Test.YtemppogailpoiaaW2
import Derived.Deep.DeepMust
namespace Go.Proofs.Ytemppogailpoiaa
open Go.RowKit
set_option linter.unusedVariables false

theorem eltB : Elt Try.prog 22 5 1 1 (.int .u8 0) := Elt.mk' Try.underlying22 (by kernel_rfl) rfl (by decide)

/-- What the program's loop keeps: a text that has grown too long stands for no result. -/
def UnpI (s : ByteArray) (f at_ : Nat) (out : List UInt8) : Prop := (out.length ≤ 4096 → unpG s f at_ out = unp s) ∧ (4096 < out.length → unp s = none)
theorem UnpI.next {s : ByteArray} {f at_ at' : Nat} {out out' : List UInt8} (h : UnpI s (f + 1) at_ out) (hl : out.length ≤ 4096) (hlt : at_ < s.size) (hs : unpStep s at_ out = some (at', out')) : UnpI s f at' out' :=
  ⟨fun h1 => unpG_go s f at_ at' out out' hlt (h.1 hl) hs (by omega), fun h1 => unpG_long s f at_ at' out out' hlt (h.1 hl) hs h1⟩
theorem cpy_step (d n : Nat) (out R : List UInt8) (h : cpyBack d (n + 1) out = R) (hd : 0 < d) (hl : d ≤ out.length) : cpyBack d n (out ++ [out[out.length - d]'(by omega)]) = R := by
  rw [cpyBack, List.getD_eq_getElem?_getD, List.getElem?_eq_getElem (by omega)] at h
  exact h

set_option maxRecDepth 100000 in
set_option maxHeartbeats 1000000 in
theorem impl_UnpackBytes_any (s : ByteArray) (w : World) (hs : s.size ≤ maxLen) :
    Calls Try.prog 60 #[.string s] w fun e w' => e = .returned (resB (unp s)) ∧ Below w.heap.size w w' := by
  unfold maxLen at hs
  by_cases hbig : 8192 < s.size
  · have HR := Lib.hid (unp_big s hbig)
    go_enter Try.func60, Try.ntmps60
    go_wp2
    go_ret2
    exact ⟨by rw [HR.out]; rfl, Below.refl _ _⟩
  · have HST := Lib.hid (unp_start s (by omega))
    go_enter Try.func60, Try.ntmps60
    go_wp2
    go_loopw [4, 5] (fun v i wr => ∃ (f at_ : Nat) (out : List UInt8), s.size + 1 ≤ f + at_ ∧ at_ ≤ s.size ∧ out.length ≤ 4300 ∧ i = .int .i64 at_ ∧ OwnB wr w.heap.size 5 v out ∧ Below w.heap.size w wr ∧ UnpI s f at_ out)
      (fun _ i _ => s.size - (intOf i).toNat)
    case atStart => exact ⟨s.size + 1, 0, [], by omega, by omega, by simp, rfl, OwnB.nil _ _ _, Below.refl _ _, ⟨fun _ => HST.out, fun h => by simp at h⟩⟩
    case round =>
      obtain ⟨f, at_, out, hf, hat, hol, rfl, hown, hbel, HI⟩ := hrel
      obtain ⟨A, c, rfl⟩ := hown.form
      have hsz := hbel.size
      by_cases hlt : at_ < s.size
      · by_cases hlen : out.length ≤ 4096
        · obtain ⟨f, rfl⟩ : ∃ f', f = f' + 1 := ⟨f - 1, by omega⟩
          have eat := bt_eq s at_ hlt
          have hb := bt_lt s at_
          by_cases hlit : bt s at_ < 128
          · by_cases h2 : at_ + bt s at_ + 2 ≤ s.size
            · have hn := HI.next hlen hlt (unpStep_lit s at_ out hlit h2)
              have hsg := seg_length s (at_ + 1) (at_ + bt s at_ + 2) h2
              have HN := Lib.hid hn
              have HSG := Lib.hid hsg
              clear hn hsg
              go_wp2_with (at_builtin; go_must (refine wpList_appS rfl (.tmp 32) (.tmp 40) 22 9 rfl eltB Try.underlying9 _ out rfl hown _ rfl (by rw [ByteArray.size_extract]; omega) hsz ?_); intro v' w' hown' hg hat' hbl)
              go_roundw
              case rel => exact ⟨f, at_ + bt s at_ + 2, _, by omega, h2, (by rw [List.length_append]; have := HSG.out; unfold seg at this; omega), by go_num, hown', hbel.trans hbl, HN.out⟩
              case measure => (simp [intOf] <;> omega)
            · have hn := unpG_none s f at_ out hlt (HI.1 hlen) (unpStep_lit_no s at_ out hlit h2)
              have HR := Lib.hid hn
              clear hn
              go_wp2
              go_ret2
              exact ⟨by rw [HR.out]; rfl, hbel⟩
          · by_cases h2 : at_ + 1 < s.size
            · have eat1 := bt_eq s (at_ + 1) h2
              have hb1 := bt_lt s (at_ + 1)
              by_cases h3 : 0 < bt s (at_ + 1)
              · have e3 : ((bt s (at_ + 1) : Int) == 0) = false := by simp; omega
                by_cases h4 : bt s (at_ + 1) ≤ out.length
                · have d4 : decide (out.length < bt s (at_ + 1)) = false := by simp; omega
                  have hn := HI.next hlen hlt (unpStep_ref s at_ out hlit h2 h3 h4)
                  have HN := Lib.hid hn
                  clear hn
                  go_wp2
                  go_loopw [4, 70] (fun v i wr' => ∃ (j : Nat) (o : List UInt8), j ≤ bt s at_ - 125 ∧ i = .int .i64 j ∧ Hid (o.length = out.length + j) ∧ OwnB wr' w.heap.size 5 v o ∧ Below w.heap.size w wr' ∧ Hid (cpyBack (bt s (at_ + 1)) (bt s at_ - 125 - j) o = cpyBack (bt s (at_ + 1)) (bt s at_ - 125) out))
                    (fun _ i _ => bt s at_ - 125 - (intOf i).toNat)
                  case atStart => exact ⟨0, out, by omega, rfl, Lib.hid rfl, hown, hbel, Lib.hid rfl⟩
                  case round =>
                    obtain ⟨j, o, hj, rfl, HO, hown2, hbel2, HC⟩ := hrel
                    have hsz2 := hbel2.size
                    have ho1 : out.length ≤ o.length := by have := HO.out; omega
                    have ho2 : o.length ≤ out.length + 130 := by have := HO.out; omega
                    by_cases hjl : j < bt s at_ - 125
                    · have hc := HC.out
                      rw [show bt s at_ - 125 - j = bt s at_ - 125 - (j + 1) + 1 by omega] at hc
                      have HC2 := Lib.hid (cpy_step _ _ _ _ hc h3 (by omega))
                      clear hc
                      obtain ⟨g, cap, rfl, hbg, hglt, hcell⟩ := hown2.at_ (o.length - bt s (at_ + 1)) (by omega)
                      have hbb := (o[o.length - bt s (at_ + 1)]'(by omega)).toNat_lt
                      go_wp2_with (at_builtin; go_must (refine wpList_appL rfl (.tmp 72) (.tmp 84) 22 rfl eltB _ o rfl hown2 _ _ [o[o.length - bt s (at_ + 1)]'(by omega)] 1 1 rfl rfl rfl (by simp; omega) hsz2 ?_); intro v' w' hown' hg hat' hbl)
                      go_roundw
                      case rel => exact ⟨j + 1, _, by omega, by go_num, Lib.hid (by have := HO.out; rw [List.length_append, List.length_singleton]; omega), hown', hbel2.trans hbl, HC2⟩
                      case measure => (simp [intOf] <;> omega)
                    · have hE : o = cpyBack (bt s (at_ + 1)) (bt s at_ - 125) out := by have := HC.out; rw [show bt s at_ - 125 - j = 0 by omega] at this; exact this
                      have HE := Lib.hid hE
                      clear hE
                      go_wp2
                      go_roundw
                      case rel => exact ⟨f, at_ + 2, o, by omega, by omega, (by have := HO.out; omega), by go_num, hown2, hbel2, (by rw [HE.out]; exact HN.out)⟩
                      case measure => (simp [intOf] <;> omega)
                · have hn := unpG_none s f at_ out hlt (HI.1 hlen) (unpStep_ref_no s at_ out hlit (by omega))
                  have HR := Lib.hid hn
                  clear hn
                  go_wp2
                  go_ret2
                  exact ⟨by rw [HR.out]; rfl, hbel⟩
              · have e3 : ((bt s (at_ + 1) : Int) == 0) = true := by simp; omega
                have hn := unpG_none s f at_ out hlt (HI.1 hlen) (unpStep_ref_no s at_ out hlit (by omega))
                have HR := Lib.hid hn
                clear hn
                go_wp2
                go_ret2
                exact ⟨by rw [HR.out]; rfl, hbel⟩
            · have hn := unpG_none s f at_ out hlt (HI.1 hlen) (unpStep_ref_no s at_ out hlit (by omega))
              have HR := Lib.hid hn
              clear hn
              go_wp2
              go_ret2
              exact ⟨by rw [HR.out]; rfl, hbel⟩
        · have HR := Lib.hid (HI.2 (by omega))
          go_wp2
          go_ret2
          exact ⟨by rw [HR.out]; rfl, hbel⟩
      · by_cases hlen : out.length ≤ 4096
        · have HR := Lib.hid (unpG_end s f at_ out hlt (HI.1 hlen))
          have hcv := run_b2s (P := Try.prog) (dst := 9) Try.underlying22 Try.underlying5 Try.underlying9 hown
          go_wp2
          go_ret2
          exact ⟨by rw [HR.out]; rfl, hbel⟩
        · have HR := Lib.hid (HI.2 (by omega))
          go_wp2
          go_ret2
          exact ⟨by rw [HR.out]; rfl, hbel⟩
end Go.Proofs.Ytemppogailpoiaa
