/- Walks: NewDevice. -/
import Derived.Test.YtipkckoejkmhfabW78
import Derived.Test.YtipkckoejkmhfabW80
import Derived.Deep.RegionHeld3
namespace Go.Proofs.Ytipkckoejkmhfab
open Go.RowKit
set_option linter.unusedVariables false

theorem own_take {w : World} {base : Nat} {e : TypeId} {size n c k : Nat} {A : Option Addr} {xs : List Value} (h : w.ownsRow base e size (.slice A n c) n xs) (hk : k ≤ n) : w.ownsRow base e size (.slice A k c) k (xs.take (k * size)) := by
  have hks : k * size ≤ n * size := Nat.mul_le_mul_right _ hk
  refine ⟨by rw [List.length_take, h.1]; omega, ?_⟩
  rcases h.2 with ⟨hv, h0⟩ | ⟨g, cap, cur, hv, hb, hh, hnc, hcm, hcs, htake⟩
  · left
    injection hv with h1 h2 h3
    exact ⟨by rw [h1, h3, show k = 0 by omega], by omega⟩
  · right
    injection hv with h1 h2 h3
    refine ⟨g, cap, cur, by rw [h1, h3], hb, hh, by omega, hcm, hcs, ?_⟩
    rw [← htake, List.take_take, Nat.min_eq_left hks]
theorem flatI_take : ∀ (l : List Int) (k : Nat), (flat fI l).take (k * 1) = flat fI (l.take k)
  | _, 0 => by simp [flat]
  | [], k + 1 => by simp [flat]
  | x :: l, k + 1 => by
    have := flatI_take l k
    simp only [flat, List.map_cons, List.flatten_cons, fI, List.cons_append, List.nil_append, Nat.mul_one, List.take_succ_cons] at this ⊢
    rw [this]
theorem own_capN {w : World} {base : Nat} {e : TypeId} {size n c : Nat} {A : Option Addr} {xs : List Value} (h : w.ownsRow base e size (.slice A n c) n xs) : n ≤ c := by
  rcases h.2 with ⟨hv, h0⟩ | ⟨g, cap, cur, hv, _, _, hnc, _⟩
  · omega
  · injection hv with _ _ h3
    omega
/-- What NewDevice answers: d says that the disc is valid, N is the number of its sectors. -/
def nvOk (d : Bool) (k r : Int) (N : Nat) : Bool := d && inB k 0 7 && inB r 0 ((N : Int) - 1)
def nvC (d : Bool) (k r : Int) (N : Nat) : Int := if d then (if inB k 0 7 && inB r 0 ((N : Int) - 1) then 0 else 2) else 1
def nvL (b : Bool) (l : List DSector) : List DSector := if b then l else []
def nvM (b : Bool) (c h p k r : Int) (N : Nat) : List Int := if b then (ordT p.toNat k.toNat (c * h).toNat).take ((N : Int) - r).toNat else []
theorem nv_1 {k r : Int} {N : Nat} : nvOk false k r N = false ∧ nvC false k r N = 1 := by simp [nvOk, nvC]
theorem nv_2 {k r : Int} {N : Nat} (g : inB k 0 7 = false) : nvOk true k r N = false ∧ nvC true k r N = 2 := by simp [nvOk, nvC, g]
theorem nv_3 {k r : Int} {N : Nat} (g : inB r 0 ((N : Int) - 1) = false) : nvOk true k r N = false ∧ nvC true k r N = 2 := by simp [nvOk, nvC, g]
theorem nv_4 {k r : Int} {N : Nat} (g : inB k 0 7 = true) (g2 : inB r 0 ((N : Int) - 1) = true) : nvOk true k r N = true ∧ nvC true k r N = 0 := by simp [nvOk, nvC, g, g2]
theorem nvL_len (b : Bool) (l : List DSector) : (nvL b l).length ≤ l.length := by
  unfold nvL
  split <;> simp
theorem nvM_len (b : Bool) (c h p k r : Int) (N : Nat) (hb : b = true → 0 ≤ r) : (nvM b c h p k r N).length ≤ N := by
  unfold nvM
  split
  · rename_i g
    have := hb g
    rw [List.length_take]
    omega
  · simp
theorem nvOk_r {d : Bool} {k r : Int} {N : Nat} (h : nvOk d k r N = true) : 0 ≤ r := by
  simp only [nvOk, Bool.and_eq_true] at h
  exact (inB_yes h.2).1

end Go.Proofs.Ytipkckoejkmhfab
