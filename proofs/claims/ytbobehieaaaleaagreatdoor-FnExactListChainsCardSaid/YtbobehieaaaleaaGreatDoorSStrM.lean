/- Walks of the helpers in laws: marks of strings. -/
import Derived.Test.YtbobehieaaaleaaGreatDoorSString
import Derived.Test.YtbobehieaaaleaaGreatDoorMark
import Derived.Deep.RegionHeld3
namespace Go.Proofs.YtbobehieaaaleaaGreatDoor
open Go.RowKit Go.ChangeShapes Go.WideShapes Go.Deep

def mksString (k m : Nat) : List ByteArray := (List.range m).map fun i => mtxt (k + i)
theorem mksString_len (k m : Nat) : (mksString k m).length = m := by simp [mksString]
theorem mksString_succ (k m : Nat) : mksString k (m + 1) = mksString k m ++ [mtxt (k + m)] := by simp [mksString, List.range_succ]
theorem mksString_get (k m i : Nat) (h : i < (mksString k m).length) : (mksString k m)[i] = mtxt (k + i) := by simp [mksString]
theorem mksString_put (k m : Nat) (l : List ByteArray) (h : m < l.length) : (flat fS (mksString k m ++ l.drop m)).set m (.string (mtxt (k + m))) = flat fS (mksString k (m + 1) ++ l.drop (m + 1)) := by
  have := flat_put fS 1 fS_len (mksString k m) (l.drop (m + 1)) l[m] (mtxt (k + m))
  rw [mksString_len, Nat.mul_one] at this
  rw [List.drop_eq_getElem_cons h, mksString_succ, List.append_assoc]
  exact this
set_option maxRecDepth 100000 in
set_option maxHeartbeats 1000000 in
theorem markStringS_any (A : Option Addr) (c k : Nat) (l : List ByteArray) (w : World) (base : Nat) (h : w.ownsRow base 9 1 (.slice A l.length c) l.length (flat fS l)) (hk1 : 1 ≤ k) (hk2 : k ≤ 10000000000) (hl : l.length ≤ 10000000000) :
    Calls Tryz.prog 9 #[.slice A l.length c, .int .i64 (k : Int)] w fun e w' => e = .returned (.int .i64 ((k + 1 * l.length : Nat) : Int)) ∧ w'.ownsRow base 9 1 (.slice A l.length c) l.length (flat fS (mksString k l.length)) ∧ w.grownBy w' (Value.slice A l.length c).ownBlock := by
  go_enter Tryz.func9, Tryz.ntmps9
  go_wp2
  go_loopw [1, 5] (fun kk i wr => ∃ m q : Nat, m ≤ l.length ∧ k + m = q ∧ i = .int .i64 m ∧ kk = .int .i64 q ∧ wr.ownsRow base 9 1 (.slice A l.length c) l.length (flat fS (mksString k m ++ l.drop m)) ∧ w.grownBy wr (Value.slice A l.length c).ownBlock) (fun _ i _ => l.length - (intOf i).toNat)
  case atStart => exact ⟨0, k, Nat.zero_le _, by omega, rfl, rfl, h, World.grownBy.refl _ _⟩
  case round =>
    obtain ⟨m, q, hm, hq, rfl, rfl, ho, hg⟩ := hrel
    by_cases hlt : m < l.length
    · obtain ⟨g, cap, hv⟩ := Go.Joins.ownsRow_form ho (by omega)
      cases hv
      have hput := mksString_put k m l hlt
      rw [hq] at hput
      have hm0 := fun W => markText_any q W (by omega) (by omega)
      go_wp2_with (go_at_call 17; refine (hm0 _).mono ?_; rintro e w10 ⟨rfl, hx⟩; replace hg := hg.trans (only_of_below hx _); replace ho := own_later ho hx (Nat.le_refl _); obtain ⟨u0, hu0⟩ := own_some ho m (by omega); have hz0 := World.ownsRow.frozenAt ho m)
      go_roundw
      case rel =>
        refine ⟨m + 1, q + 1, by omega, by omega, by go_num, by go_num, ?_, hg.trans (World.ownsRow.stored ho _ _).2⟩
        rw [← hput]
        exact (World.ownsRow.stored ho _ _).1
      case measure => (simp [intOf] <;> omega)
    · obtain rfl : m = l.length := by omega
      rw [List.drop_length, List.append_nil] at ho
      go_wp2
      go_ret
      exact ⟨ret_int (by omega), ho, hg⟩
set_option maxRecDepth 100000 in
set_option maxHeartbeats 1000000 in
theorem heldStringS_any (A : Option Addr) (c k n : Nat) (w : World) (h : Rd w w.heap.size 1 A n (flat fS (mksString k n))) (hk1 : 1 ≤ k) (hk2 : k ≤ 10000000000) (hl : n ≤ 10000000000) :
    Calls Tryz.prog 10 #[.slice A n c, .int .i64 (k : Int)] w fun e w' => e = .returned (.int .i64 ((k + 1 * n : Nat) : Int)) ∧ Below w.heap.size w w' := by
  go_enter Tryz.func10, Tryz.ntmps10
  go_wp2
  go_loopw [1, 5] (fun kk i wr => ∃ i' q : Nat, i' ≤ n ∧ k + i' = q ∧ i = .int .i64 i' ∧ kk = .int .i64 q ∧ Below w.heap.size w wr) (fun _ i _ => n - (intOf i).toNat)
  case atStart => exact ⟨0, k, Nat.zero_le _, by omega, rfl, rfl, Below.refl _ _⟩
  case round =>
    obtain ⟨i, q, hi, hq, rfl, rfl, hb⟩ := hrel
    by_cases hlt : i < n
    · obtain ⟨b, off, rfl, hbb, hc⟩ := h.at_ fS_len (mksString_len k n).symm i hlt
      have hc0 := hc 0 (.string (mtxt q)) (by omega) (by rw [mksString_get, hq]; rfl)
      clear hc
      simp only [Nat.mul_one, Nat.add_zero] at hc0
      have hm0 := fun W => markText_any q W (by omega) (by omega)
      obtain ⟨hcb, hfb⟩ := bcell hb
      have hr0 := (hb.cell (p := ⟨b, off + i, none⟩) hbb).trans hc0
      go_wp2_with fail
      go_region_held3 (fun W => Below w.heap.size w W ∧ W.cell? ⟨b, off + i, none⟩ = some (.string (mtxt q))) (first | exact keepS hc0 hbb (Below.drew hb) | exact keepS hc0 hbb (below_step (Below.drew hb) hx)) (first | (go_at_call 17; refine (hm0 _).mono ?_; rintro e w0 ⟨rfl, hx⟩))
      replace hb := below_step (Below.drew hb) hx
      clear hcb hfb
      obtain ⟨hcb, hfb⟩ := bcell hb
      go_wp2
      go_roundw
      case rel => exact ⟨i + 1, q + 1, by omega, by omega, by go_num, by go_num, hb⟩
      case measure => (simp [intOf] <;> omega)
    · obtain rfl : i = n := by omega
      go_wp2
      go_ret
      exact ⟨ret_int (by omega), hb⟩
end Go.Proofs.YtbobehieaaaleaaGreatDoor
