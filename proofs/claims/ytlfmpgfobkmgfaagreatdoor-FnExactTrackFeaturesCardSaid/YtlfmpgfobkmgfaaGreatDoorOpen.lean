/- Slices of flat elements among the arguments, opened as lists. -/
import Derived.Test.YtlfmpgfobkmgfaaGreatDoorMem4
import Derived.Deep.Slices
import Derived.OpenShut
import Derived.Deep.Fields
namespace Go.Proofs.YtlfmpgfobkmgfaaGreatDoor
open Go.RowKit Go.ChangeShapes Go.WideShapes Go.Deep

theorem cell_spot {w : World} {a : Addr} {v : Value} (h : w.cell? a = some v) : a = ⟨a.block, a.off, none⟩ ∧ a.block < w.heap.size := by
  unfold World.cell? at h
  split at h
  · rename_i c e fr hh
    split at h
    · cases h
    · rename_i hs
      refine ⟨?_, (Array.getElem?_eq_some_iff.1 hh).1⟩
      obtain ⟨b, o, s⟩ := a
      cases s with
      | none => rfl
      | some x => simp at hs
  · cases h

theorem choose_list {α : Type} {p : Nat → α → Prop} : ∀ n, (∀ i, i < n → ∃ x, p i x) → ∃ l : List α, l.length = n ∧ ∀ i (h : i < l.length), p i l[i]
  | 0, _ => ⟨[], rfl, fun i h => absurd h (by simp)⟩
  | n + 1, h => by
    obtain ⟨l, hl, hp⟩ := choose_list n fun i hi => h i (by omega)
    obtain ⟨x, hx⟩ := h n (by omega)
    refine ⟨l ++ [x], by simp [hl], fun i hi => ?_⟩
    by_cases hlt : i < l.length
    · rw [List.getElem_append_left hlt]
      exact hp i hlt
    · have : i = l.length := by simp at hi; omega
      subst this
      rw [List.getElem_append_right (by omega)]
      simpa [hl] using hx

theorem flat_at {α : Type} (f : α → List Value) (size : Nat) (hs : 0 < size) (hf : ∀ x, (f x).length = size) (l : List α) (j : Nat) (hj : j < (flat f l).length) :
    ∃ (h : j / size < l.length), (flat f l)[j]? = (f l[j / size])[j % size]? := by
  have hl := flat_length f size hf l
  have hi : j / size < l.length := by
    rw [Nat.div_lt_iff_lt_mul hs]
    omega
  refine ⟨hi, ?_⟩
  have := flat_get f size hf l (j / size) (j % size) hi (Nat.mod_lt _ hs)
  rw [← this]
  congr 1
  have := Nat.div_add_mod j size
  rw [Nat.mul_comm]
  omega

section
variable {H : Type} {enc : TypeId × Value → H} {P : Program} {w : World} {α : Type}

theorem open_flat {f : α → List Value} {ok : α → Prop} {t e : TypeId} {size : Nat} (ht : P.underlying t = some (.slice e)) (hc : P.cellsOf e = size) (hs : 0 < size) (hf : ∀ x, (f x).length = size)
    (hel : ∀ fuel cs x, DataW.trod enc P w 0 (fun _ => true) true fuel e cs = some x → ∃ a : α, cs = f a ∧ ok a)
    {fuel : Nat} {cs : List Value} {x : DataW H × List MemPlace} (h : DataW.trod enc P w 0 (fun _ => true) true fuel t cs = some x) :
    ∃ (A : Option Addr) (c : Nat) (l : List α), cs = [.slice A l.length c] ∧ Rd w w.heap.size size A l.length (flat f l) ∧ l.length ≤ maxLen ∧ ∀ a ∈ l, ok a := by
  subst hc
  rcases open_slice ht h with ⟨rfl, _⟩ | ⟨a, len, cap, m, n, D, Pl, rfl, hb, hl, hm, hmm, _, hx⟩
  · exact ⟨none, 0, [], rfl, by simpa [flat] using Rd.nil w _ _ none, by simp, by simp⟩
  have hlm : len ≤ m := by rw [hmm]; simpa using hl
  obtain ⟨V, hV⟩ := choose_list (α := α) (p := fun i v => w.cells? 0 (a.add (i * P.cellsOf e)) (P.cellsOf e) = some (f v) ∧ ok v) len (fun i hi => by
    obtain ⟨cs', h1, h2⟩ := hx i (by omega)
    obtain ⟨v, hv, hok⟩ := hel _ _ _ h2
    exact ⟨v, hv ▸ h1, hok⟩)
  have hlen : (V.length) = len := hV.1
  refine ⟨some a, cap, V, by rw [hlen], ⟨flat_length f _ hf V, fun hn => ?_⟩, by omega, ?_⟩
  · have hcell : ∀ j (hj : j < (flat f V).length), w.cell? (a.add j) = some (flat f V)[j] := by
      intro j hj
      obtain ⟨hi, he⟩ := flat_at f _ hs hf V j hj
      obtain ⟨h1, _⟩ := hV.2 (j / P.cellsOf e) (by omega)
      obtain ⟨_, hlen', hcell⟩ := World.cells?_some h1
      have hmod := Nat.mod_lt j hs
      have hc := hcell (j % P.cellsOf e) (by omega)
      rw [add_add] at hc
      rw [show j / P.cellsOf e * P.cellsOf e + j % P.cellsOf e = j by rw [Nat.mul_comm]; exact Nat.div_add_mod j _] at hc
      rw [hc, ← he, List.getElem?_eq_getElem hj]
    have h0 : 0 < (flat f V).length := by rw [flat_length f _ hf V]; exact Nat.mul_pos hn hs
    have hc0 := hcell 0 h0
    rw [show a.add 0 = a from rfl] at hc0
    obtain ⟨hsp, hbl⟩ := cell_spot hc0
    refine ⟨a.block, a.off, by rw [← hsp], hbl, fun j hj => ?_⟩
    have := hcell j hj
    rw [hsp] at this
    unfold Addr.add at this
    split at this
    · rename_i h0
      subst h0
      exact this
    · exact this
  · intro x hx
    obtain ⟨k, hk, rfl⟩ := List.getElem_of_mem hx
    exact (hV.2 k (by omega)).2
end
end Go.Proofs.YtlfmpgfobkmgfaaGreatDoor
