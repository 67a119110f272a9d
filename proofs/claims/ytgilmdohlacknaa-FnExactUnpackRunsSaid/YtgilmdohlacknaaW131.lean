/- Walks: unpacking by runs. -/
import Derived.Test.YtgilmdohlacknaaW130
import Derived.Test.YtgilmdohlacknaaMem5
namespace Go.Proofs.Ytgilmdohlacknaa
open Go.RowKit
set_option linter.unusedVariables false

theorem rep_src {w : World} {g n : Nat} {x : UInt8} (hcell : ∀ j, j < n → w.cell? ⟨g, j, none⟩ = some (.int .u8 (x.toNat : Int))) : Src Try.prog 1 25 (.slice (some ⟨g, 0, none⟩) n n) n (bcells (List.replicate n x)) w := by
  refine Src.ofSlice w Try.underlying25 ⟨g, 0, none⟩ n n _ (by simp [bcells]) ?_ ?_
  · intro j u hj
    rw [bc_rep] at hj
    have hjn : j < n := by have := (List.getElem?_eq_some_iff.1 hj).1; simpa using this
    have hu : u = .int .u8 (x.toNat : Int) := by simpa [hjn] using hj.symm
    have h3 : (⟨g, 0, none⟩ : Addr).add j = ⟨g, j, none⟩ := by
      unfold Addr.add
      split
      · rename_i h0; rw [h0]
      · simp
    rw [h3, hu]
    exact hcell j hjn
  · intro u hu
    rw [bc_rep] at hu
    rw [rep_one u hu]
    rfl
set_option maxRecDepth 100000 in
set_option maxHeartbeats 2000000 in
theorem impl_UnpackRuns_any (s : ByteArray) (w : World) (hs : s.size ≤ maxLen) :
    Calls Try.prog 5 #[.string s] w fun e w' => e = .returned (resB (ur s)) ∧ Below w.heap.size w w' := by
  unfold maxLen at hs
  by_cases hbig : 8192 < s.size
  · have HR := Lib.hid (ur_big s hbig)
    go_enter Try.func5, Try.ntmps5
    go_wp2
    go_ret2
    exact ⟨by rw [HR.out]; rfl, Below.refl _ _⟩
  · have HST := Lib.hid (ur_start s (by omega))
    go_enter Try.func5, Try.ntmps5
    go_wp2
    go_loopw [4, 5] (fun v i wr => ∃ (f at_ : Nat) (out : List UInt8), s.size + 1 ≤ f + at_ ∧ at_ ≤ s.size ∧ out.length ≤ 64 * at_ ∧ i = .int .i64 at_ ∧ OwnB wr w.heap.size 5 v out ∧ Below w.heap.size w wr ∧ Hid (urG s f at_ out = ur s))
      (fun _ i _ => s.size - (intOf i).toNat)
    case atStart => exact ⟨s.size + 1, 0, [], by omega, by omega, by simp, rfl, OwnB.nil _ _ _, Below.refl _ _, HST⟩
    case round =>
      obtain ⟨f, at_, out, hf, hat, hol, rfl, hown, hbel, HI⟩ := hrel
      obtain ⟨A, c, rfl⟩ := hown.form
      have hsz := hbel.size
      by_cases hlt : at_ < s.size
      · obtain ⟨f, rfl⟩ : ∃ f', f = f' + 1 := ⟨f - 1, by omega⟩
        have eat := bt_eq s at_ hlt
        have hb := bt_lt s at_
        by_cases hlit : bt s at_ < 64
        · by_cases h2 : at_ + bt s at_ + 2 ≤ s.size
          · have HN := Lib.hid (urG_go s f at_ _ out _ hlt HI.out (urStep_lit s at_ out hlit h2))
            have hsg := seg_length s (at_ + 1) (at_ + bt s at_ + 2) h2
            have HSG := Lib.hid hsg
            clear hsg
            go_wp2_with (at_builtin; go_must (refine wpList_appS rfl (.tmp 30) (.tmp 38) 25 9 rfl eltB Try.underlying9 _ out rfl hown _ rfl (by rw [ByteArray.size_extract]; omega) hsz ?_); intro v' w' hown' hg hat' hbl)
            go_roundw
            case rel => exact ⟨f, at_ + bt s at_ + 2, _, by omega, h2, (by rw [List.length_append]; have := HSG.out; unfold seg at this; omega), by go_num, hown', hbel.trans hbl, HN⟩
            case measure => (simp [intOf] <;> omega)
          · have HR := Lib.hid (urG_none s f at_ out hlt HI.out (urStep_lit_no s at_ out hlit h2))
            go_wp2
            go_ret2
            exact ⟨by rw [HR.out]; rfl, hbel⟩
        · by_cases h2 : bt s at_ ≤ 125 ∧ at_ + 1 < s.size
          · obtain ⟨h3, h4⟩ := h2
            have HN := Lib.hid (urG_go s f at_ _ out _ hlt HI.out (urStep_run s at_ out hlit h4 h3))
            have eat1 := bt_eq s (at_ + 1) h4
            have hx1 : (s.data.toList.getD (at_ + 1) 0).toNat = bt s (at_ + 1) := rfl
            obtain ⟨x, hx⟩ : ∃ x : UInt8, s.data.toList.getD (at_ + 1) 0 = x := ⟨_, rfl⟩
            rw [hx] at HN hx1
            obtain ⟨n, hn⟩ : ∃ n, bt s at_ - 61 = n := ⟨_, rfl⟩
            rw [hn] at HN
            have hn1 : 1 ≤ n := by omega
            have hn64 : n ≤ 64 := by omega
            have hwn : IntKind.i64.wrap ((bt s at_ : Int) - 61) = (n : Int) := by rw [show (bt s at_ : Int) - 61 = (n : Int) by omega]; exact IntWalk.i64_in _ (by omega)
            rw [← hx1] at eat1
            have hc0 : (wr.alloc (.cells #[.int .u8 (x.toNat : Int)] 5)).cell? ⟨wr.heap.size, 0, none⟩ = some (.int .u8 (x.toNat : Int)) := by simp [go_sem]
            have hrep := Repeat1_any x n wr.heap.size 1 (wr.alloc (.cells #[.int .u8 (x.toNat : Int)] 5)) hc0 (by simp) hn1 hn64
            have hown1 : OwnB (wr.alloc (.cells #[.int .u8 (x.toNat : Int)] 5)) _ _ _ _ := OwnB.alloc hown (.cells #[.int .u8 (x.toNat : Int)] 5)
            have hbel1 := below_alloc hbel (.cells #[.int .u8 (x.toNat : Int)] 5)
            have hol2 : out.length + n ≤ 1000000 := by omega
            have hol3 : (out ++ List.replicate n x).length ≤ 64 * (at_ + 2) := by rw [List.length_append, List.length_replicate]; omega
            have HOL := Lib.hid hol3
            clear hx hn hx1 hol3
            go_wp2_with (first
              | (at_builtin; go_must (refine wpList_app _ rfl (.tmp 58) (.tmp 66) 25 25 rfl w.heap.size 5 (.int .u8 0) 1 1 eltB _ out.length (bcells out) rfl hown2 _ n (bcells (List.replicate n x)) rfl hsrc (by unfold maxLen; omega) (by omega) hsz2 ?_); intro v8 w8 hown8 hg8 hat8; have hbl8 := below_of_own hown2 hsz2 hg8)
              | (go_at_call 6; refine hrep.mono ?_; clear hrep; rintro e w2 ⟨g, rfl, hcell, hgb, hx2⟩; have hown2 : World.ownsRow w2 w.heap.size 5 1 (.slice A out.length c) out.length (bcells out) := OwnB.later hown1 hx2 (Nat.le_refl _); have hbel2 := below_step hbel1 hx2; have hsz2 := hbel2.size; have hsrc : Src Try.prog 1 25 (.slice (some ⟨g, 0, none⟩) n n) n (bcells (List.replicate n x)) w2 := rep_src hcell))
            go_roundw
            case rel => exact ⟨f, at_ + 2, out ++ List.replicate n x, by omega, by omega, HOL.out, by go_num, by unfold OwnB; rw [bcells_append, List.length_append, List.length_replicate]; exact hown8, hbel2.trans hbl8, HN⟩
            case measure => (simp [intOf] <;> omega)
          · have HR := Lib.hid (urG_none s f at_ out hlt HI.out (urStep_run_no s at_ out hlit h2))
            by_cases h3 : bt s at_ ≤ 125
            all_goals
              have h4 : ¬ (bt s at_ ≤ 125 ∧ at_ + 1 < s.size) := h2
              go_wp2
              go_ret2
              exact ⟨by rw [HR.out]; rfl, hbel⟩
      · by_cases hlen : 4096 < out.length
        · have HR := Lib.hid (urG_end_no s f at_ out hlt HI.out hlen)
          go_wp2
          go_ret2
          exact ⟨by rw [HR.out]; rfl, hbel⟩
        · have HR := Lib.hid (urG_end s f at_ out hlt HI.out hlen)
          have hcv := run_b2s (P := Try.prog) (dst := 9) Try.underlying25 Try.underlying5 Try.underlying9 hown
          go_wp2
          go_ret2
          exact ⟨by rw [HR.out]; rfl, hbel⟩
end Go.Proofs.Ytgilmdohlacknaa
