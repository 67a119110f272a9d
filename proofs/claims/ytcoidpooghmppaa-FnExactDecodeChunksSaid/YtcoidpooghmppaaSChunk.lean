/- Walks of the helpers in laws: Chunk. Printed by mk_leaf.py. -/
import Derived.Test.YtcoidpooghmppaaMem4
import Derived.Test.YtcoidpooghmppaaW2
import Derived.Deep.DeepMust
import Derived.StillTailTactics
import Derived.OpenShut
import Derived.Test.YtcoidpooghmppaaMark
import Derived.Lib.SmallJoins
namespace Go.Proofs.Ytcoidpooghmppaa
open Go.RowKit Go.ChangeShapes Go.WideShapes Go.Deep

structure DChunk where
  f0 : Int
  f1 : ByteArray
def fChunk (x : DChunk) : List Value := [.int .i64 x.f0, .string x.f1]
theorem fChunk_len (x : DChunk) : (fChunk x).length = 2 := rfl
def vChunk (x : DChunk) : Value := .agg #[.int .i64 x.f0, .string x.f1]
def zChunk (x : DChunk) : List Nat := [x.f1.size]
def okCk (x : DChunk) : Prop := x.f1.size ≤ maxLen ∧ (-9223372036854775808 ≤ x.f0 ∧ x.f0 ≤ 9223372036854775807)

set_option maxRecDepth 100000 in
set_option maxHeartbeats 1000000 in
theorem eqChunk_any (a0 : Int) (a1 : ByteArray) (w : World) :
    Calls Try.prog 76 #[.agg #[.int .i64 a0, .string a1], .agg #[.int .i64 a0, .string a1]] w fun e w' => e = .returned (.bool true) ∧ Below w.heap.size w w' := by
  go_enter Try.func76, Try.ntmps76
  go_wp2
  go_ret
  exact ⟨rfl, (by repeat (first | exact Below.refl _ _ | refine below_step ?_ (by assumption) | assumption | refine Below.drew ?_ | refine below_drewN ?_ _ | refine below_alloc ?_ _ | refine Below.setCell ?_ (by simp; try omega) _))⟩

set_option maxRecDepth 100000 in
set_option maxHeartbeats 1000000 in
theorem eqChunkS_any (A A' : Option Addr) (c c' : Nat) (l : List DChunk) (w : World) (h : Rd w w.heap.size 2 A l.length (flat fChunk l)) (h' : Rd w w.heap.size 2 A' l.length (flat fChunk l)) (hn : l.length ≤ 1048576) :
    Calls Try.prog 24 #[.slice A l.length c, .slice A' l.length c'] w fun e w' => e = .returned (.bool true) ∧ Below w.heap.size w w' := by
  go_enter Try.func24, Try.ntmps24
  go_wp2
  go_loopw [5] (fun i wr => ∃ k : Nat, k ≤ l.length ∧ i = .int .i64 k ∧ Below w.heap.size w wr) (fun i _ => l.length - (intOf i).toNat)
  case atStart => exact ⟨0, Nat.zero_le _, rfl, Below.refl _ _⟩
  case round =>
    obtain ⟨k, hk, rfl, hb⟩ := hrel
    by_cases hlt : k < l.length
    · obtain ⟨b, off, rfl, hbb, hc⟩ := (h.below hb).at_ fChunk_len rfl k hlt
      obtain ⟨b', off', rfl, hbb', hd⟩ := (h'.below hb).at_ fChunk_len rfl k hlt
      have hc0 := hc 0 _ (by omega) rfl
      have hd0 := hd 0 _ (by omega) rfl
      have hc1 := hc 1 _ (by omega) rfl
      have hd1 := hd 1 _ (by omega) rfl
      clear hc hd
      simp only [← Nat.add_assoc, Nat.add_zero] at hc0 hd0 hc1 hd1
      go_wp2_with fail
      go_still_tail 8, (by kernel_rfl)
      change wpList _ _ _ _ _ wr.drew
      replace hb := Below.drew hb
      generalize wr.drew = w2 at hb ⊢
      go_wp2_with (go_at_call 76; refine (eqChunk_any l[k].f0 l[k].f1 _).mono ?_; rintro e w1 ⟨rfl, hx⟩; replace hb := below_step hb hx)
      go_roundw
      case rel => exact ⟨k + 1, by omega, by go_num, hb⟩
      case measure => (simp [intOf] <;> omega)
    · go_wp2
      go_ret
      exact ⟨rfl, hb⟩

def mqChunk (q : Nat) : DChunk := ⟨(q : Int), mtxt (q + 1)⟩
def mksChunk (k m : Nat) : List DChunk := (List.range m).map fun i => mqChunk (k + 2 * i)
theorem mksChunk_len (k m : Nat) : (mksChunk k m).length = m := by simp [mksChunk]
theorem mksChunk_succ (k m : Nat) : mksChunk k (m + 1) = mksChunk k m ++ [mqChunk (k + 2 * m)] := by simp [mksChunk, List.range_succ]
theorem mksChunk_get (k m i : Nat) (h : i < (mksChunk k m).length) : (mksChunk k m)[i] = mqChunk (k + 2 * i) := by simp [mksChunk]
theorem mksChunk_put (k m : Nat) (l : List DChunk) (h : m < l.length) : putV (flat fChunk (mksChunk k m ++ l.drop m)) (m * 2) (fChunk (mqChunk (k + 2 * m))) = flat fChunk (mksChunk k (m + 1) ++ l.drop (m + 1)) := by
  have := flat_put fChunk 2 fChunk_len (mksChunk k m) (l.drop (m + 1)) l[m] (mqChunk (k + 2 * m))
  rw [mksChunk_len] at this
  rw [List.drop_eq_getElem_cons h, this, mksChunk_succ, List.append_assoc]
  rfl

set_option maxRecDepth 100000 in
set_option maxHeartbeats 1000000 in
theorem markChunkS_any (A : Option Addr) (c k : Nat) (l : List DChunk) (w : World) (base : Nat) (h : w.ownsRow base 102 2 (.slice A l.length c) l.length (flat fChunk l)) (hk1 : 1 ≤ k) (hk2 : k ≤ 10000000000) (hl : l.length ≤ 10000000000) :
    Calls Try.prog 25 #[.slice A l.length c, .int .i64 (k : Int)] w fun e w' => e = .returned (.int .i64 ((k + 2 * l.length : Nat) : Int)) ∧ w'.ownsRow base 102 2 (.slice A l.length c) l.length (flat fChunk (mksChunk k l.length)) ∧ w.grownBy w' (Value.slice A l.length c).ownBlock := by
  go_enter Try.func25, Try.ntmps25
  go_wp2
  go_loopw [1, 5] (fun kk i wr => ∃ m q : Nat, m ≤ l.length ∧ k + 2 * m = q ∧ i = .int .i64 m ∧ kk = .int .i64 q ∧ wr.ownsRow base 102 2 (.slice A l.length c) l.length (flat fChunk (mksChunk k m ++ l.drop m)) ∧ w.grownBy wr (Value.slice A l.length c).ownBlock) (fun _ i _ => l.length - (intOf i).toNat)
  case atStart => exact ⟨0, k, Nat.zero_le _, by omega, rfl, rfl, h, World.grownBy.refl _ _⟩
  case round =>
    obtain ⟨m, q, hm, hq, rfl, rfl, ho, hg⟩ := hrel
    by_cases hlt : m < l.length
    · obtain ⟨g, cap, hv⟩ := Go.Joins.ownsRow_form ho (by omega)
      cases hv
      have hput := mksChunk_put k m l hlt
      rw [hq] at hput
      have hm1 := fun W => markText_any (q + 1) W (by omega) (by omega)
      simp only [show ((q + 1 : Nat) : Int) = (q : Int) + 1 from by omega] at hm1
      obtain ⟨u0, hu0⟩ := own_some ho (m * 2 + 0) (by omega)
      have hz0 := World.ownsRow.frozenAt ho (m * 2 + 0)
      simp only [Nat.add_zero] at hu0 hz0
      go_wp2_with (first
        | (go_at_call 77; refine (hm1 _).mono ?_; rintro e w11 ⟨rfl, hx⟩; replace hg := (hg.trans (World.ownsRow.stored ho _ _).2).trans (only_of_below hx _); replace ho := own_later (World.ownsRow.stored ho _ _).1 hx (Nat.le_refl _); obtain ⟨u1, hu1⟩ := own_some ho (m * 2 + 1) (by omega); have hz1 := World.ownsRow.frozenAt ho (m * 2 + 1); have mark1 := True.intro))
      go_roundw
      case rel =>
        refine ⟨m + 1, q + 2, by omega, by omega, by go_num, by go_num, ?_, (hg.trans (World.ownsRow.stored ho _ _).2)⟩
        rw [← hput]
        exact (World.ownsRow.stored ho _ _).1
      case measure => (simp [intOf] <;> omega)
    · obtain rfl : m = l.length := by omega
      rw [List.drop_length, List.append_nil] at ho
      go_wp2
      go_ret
      exact ⟨ret_int (by omega), ho, hg⟩

set_option maxRecDepth 100000 in
set_option maxHeartbeats 1000000 in
theorem heldChunkS_any (A : Option Addr) (c k n : Nat) (w : World) (h : Rd w w.heap.size 2 A n (flat fChunk (mksChunk k n))) (hk1 : 1 ≤ k) (hk2 : k ≤ 10000000000) (hl : n ≤ 10000000000) :
    Calls Try.prog 26 #[.slice A n c, .int .i64 (k : Int)] w fun e w' => e = .returned (.int .i64 ((k + 2 * n : Nat) : Int)) ∧ Below w.heap.size w w' := by
  go_enter Try.func26, Try.ntmps26
  go_wp2
  go_loopw [1, 5] (fun kk i wr => ∃ i' q : Nat, i' ≤ n ∧ k + 2 * i' = q ∧ i = .int .i64 i' ∧ kk = .int .i64 q ∧ Below w.heap.size w wr) (fun _ i _ => n - (intOf i).toNat)
  case atStart => exact ⟨0, k, Nat.zero_le _, by omega, rfl, rfl, Below.refl _ _⟩
  case round =>
    obtain ⟨i, q, hi, hq, rfl, rfl, hb⟩ := hrel
    by_cases hlt : i < n
    · obtain ⟨b, off, rfl, hbb, hc⟩ := h.at_ fChunk_len (mksChunk_len k n).symm i hlt
      have hc0 := hc 0 (.int .i64 ((q : Int))) (by omega) (by rw [mksChunk_get, hq]; rfl)
      have hc1 := hc 1 (.string (mtxt (q + 1))) (by omega) (by rw [mksChunk_get, hq]; rfl)
      clear hc
      simp only [← Nat.add_assoc, Nat.add_zero] at hc0 hc1
      have hm1 := fun W => markText_any (q + 1) W (by omega) (by omega)
      simp only [show ((q + 1 : Nat) : Int) = (q : Int) + 1 from by omega] at hm1
      obtain ⟨hcb, hfb⟩ := bcell hb
      have hr1 := (hb.cell (p := ⟨b, off + i * 2 + 1, none⟩) hbb).trans hc1
      go_wp2_with fail
      go_region_held3 (fun W => Below w.heap.size w W ∧ W.cell? ⟨b, off + i * 2 + 1, none⟩ = some (.string (mtxt (q + 1)))) (first | exact keepS hc1 hbb (Below.drew hb) | exact keepS hc1 hbb (below_step (Below.drew hb) hx)) (first | (go_at_call 77; refine (hm1 _).mono ?_; rintro e w1 ⟨rfl, hx⟩))
      replace hb := below_step (Below.drew hb) hx
      clear hcb hfb
      obtain ⟨hcb, hfb⟩ := bcell hb
      go_wp2
      go_roundw
      case rel => exact ⟨i + 1, q + 2, by omega, by omega, by go_num, by go_num, hb⟩
      case measure => (simp [intOf] <;> omega)
    · obtain rfl : i = n := by omega
      go_wp2
      go_ret
      exact ⟨ret_int (by omega), hb⟩
end Go.Proofs.Ytcoidpooghmppaa
