/- A block of bytes of the call's own, whatever its mark: '[]byte(s)'. -/
import Derived.Test.YtlfmpgfobkmgfaaGreatDoorMem
import Derived.Laws.IdiomStrings
namespace Go.Proofs.YtlfmpgfobkmgfaaGreatDoor
open Go.RowKit

/-- Block g begins with the bytes l; none of them is frozen. -/
def MarkB (w : World) (g : Nat) (e : TypeId) (l : List UInt8) : Prop :=
  ∃ cs fr, w.heap[g]? = some (.cells cs e fr) ∧ (∀ j (h : j < l.length), cs[j]? = some (.int .u8 (l[j].toNat : Int))) ∧ ∀ j, j < l.length → ¬ (fr.1 ≤ j ∧ j < fr.2)

section
variable {P : Program} {w w' : World} {g : Nat} {e : TypeId} {l : List UInt8}
theorem MarkB.lt (h : MarkB w g e l) : g < w.heap.size := by
  obtain ⟨cs, fr, hg, _⟩ := h
  exact (Array.getElem?_eq_some_iff.1 hg).1
theorem MarkB.cell (h : MarkB w g e l) (j : Nat) (hj : j < l.length) : w.cell? ⟨g, j, none⟩ = some (.int .u8 (l[j].toNat : Int)) := by
  obtain ⟨cs, fr, hg, hc, _⟩ := h
  rw [cell_of_row w g j cs e fr hg]
  exact hc j hj
theorem MarkB.free (h : MarkB w g e l) (j : Nat) (hj : j < l.length) : w.frozen? ⟨g, j, none⟩ = false := by
  obtain ⟨cs, fr, hg, _, hf⟩ := h
  have := hf j hj
  simp only [World.frozen?, hg, Bool.and_eq_false_iff, decide_eq_false_iff_not]
  omega
theorem MarkB.set_ (h : MarkB w g e l) (j : Nat) (b : UInt8) (v : Int) (hv : v = (b.toNat : Int)) : MarkB (w.setCell ⟨g, j, none⟩ (.int .u8 v)) g e (l.set j b) := by
  subst hv
  obtain ⟨cs, fr, hg, hc, hf⟩ := h
  refine ⟨cs.setIfInBounds j (.int .u8 (b.toNat : Int)), fr, ?_, ?_, ?_⟩
  · simp [World.setCell, Array.getElem?_modify, hg]
  · intro i hi
    have hi' : i < l.length := by simpa using hi
    have h1 := hc i hi'
    have hlt := (Array.getElem?_eq_some_iff.1 h1).1
    by_cases hij : j = i
    · subst hij
      simp [hlt]
    · rw [Array.getElem?_setIfInBounds_ne hij, h1]
      congr 3
      rw [List.getElem_set_ne hij]
  · intro i hi
    exact hf i (by simpa using hi)
theorem MarkB.below {B : Nat} (h : MarkB w g e l) (hb : Below B w w') (hg : g < B) : MarkB w' g e l := by
  obtain ⟨cs, fr, hh, hc, hf⟩ := h
  exact ⟨cs, fr, (hb.block g hg).trans hh, hc, hf⟩
theorem MarkB.b2s {src dst : TypeId} (hs : P.underlying src = some (.slice e)) (he : P.underlying e = some (.int .u8)) (hd : P.underlying dst = some .string) (h : MarkB w g e l) (c : Nat) (n : Nat) (hn : n = l.length) :
    (convert src dst (.slice (some ⟨g, 0, none⟩) n c)).run P w = .ok (.string ⟨l.toArray⟩) w := by
  subst hn
  refine run_convert_bytes_back w src dst e ⟨g, 0, none⟩ c l hs he hd ?_
  intro j hj
  have : (⟨g, 0, none⟩ : Addr).add j = ⟨g, j, none⟩ := by
    unfold Addr.add
    split
    · rename_i h0; rw [h0]
    · simp
  rw [this]
  exact h.cell j hj
theorem MarkB.made (w : World) (s : ByteArray) (c : Nat) : MarkB (w.alloc (.cells (bytesRow s c) e ((bytesRow s c).size, (bytesRow s c).size + 1))) w.heap.size e s.data.toList := by
  refine ⟨_, _, heap_alloc_new w _, ?_, ?_⟩
  · intro j hj
    have hj' : j < s.data.size := by simpa using hj
    rw [bytesRow_at s c j hj']
    simp
  · intro j hj
    have hj' : j < s.data.size := by simpa using hj
    have h2 : j < (bytesRow s c).size := by
      have := bytesRow_at s c j hj'
      exact (Array.getElem?_eq_some_iff.1 this).1
    simp only [not_and]
    omega
end
end Go.Proofs.YtlfmpgfobkmgfaaGreatDoor
