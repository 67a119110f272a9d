/- Plain: the sectors of a description as they will be found. -/
import Derived.Test.YthelfgagddldfaaGreatDoorP3
import Derived.Test.YthelfgagddldfaaGreatDoorSFound
namespace Go.Proofs.YthelfgagddldfaaGreatDoor
open Go.RowKit Go.Lib
set_option linter.unusedVariables false
set_option linter.unusedSimpArgs false

def fsB (y : DSectorSpec) : Int := if y.f6 = true then 2 else if y.f7 = true then 3 else 1
def foB (y : DSectorSpec) : DFound := ⟨y.f0, y.f1, y.f2, y.f3, ByteArray.empty, fsB y, y.f5, 0⟩
/-- What the closure asks: a good id and the address of f. -/
def sameF (f g : DFound) : Bool := decide (g.f5 ≠ 2) && (decide (g.f0 = f.f0) && (decide (g.f1 = f.f1) && (decide (g.f2 = f.f2) && decide (g.f3 = f.f3))))
/-- The place of the first element that answers yes, or -1. -/
def idxF (o : Option Nat) : Int := match o with | some j => (j : Int) | none => -1
theorem same_fo (y z : DSectorSpec) : sameF (foB y) (foB z) = (!z.f6 && adrB z y) := by
  unfold sameF adrB foB fsB
  cases h6 : z.f6 <;> cases h7 : z.f7 <;> simp [Bool.and_assoc]
theorem fo_find (xs : List DSectorSpec) (y : DSectorSpec) (i : Nat) : ((xs.map foB).take i).findIdx? (sameF (foB y)) = dupI (xs.take i) y := by
  unfold dupI
  rw [← List.map_take, List.findIdx?_map]
  congr 1
  funext z
  exact same_fo y z
theorem find_none {α : Type} {p : α → Bool} {l : List α} {n : Nat} (hn : n = l.length) (h : ∀ j (hj : j < l.length), j < n → p l[j] = false) : l.findIdx? p = none := by
  rw [List.findIdx?_eq_none_iff]
  intro x hx
  obtain ⟨j, hj, rfl⟩ := List.getElem_of_mem hx
  exact h j hj (by omega)
theorem find_some {α : Type} {p : α → Bool} {l : List α} {k : Nat} (hk : k < l.length) (hp : p l[k] = true) (h : ∀ j (hj : j < l.length), j < k → p l[j] = false) : l.findIdx? p = some k := by
  rw [List.findIdx?_eq_some_iff_getElem]
  exact ⟨hk, hp, fun j hj => by simpa using h j (by omega) hj⟩
theorem ftAt_len (xs : List DSectorSpec) (cy hd : Int) (i : Nat) : (ftAt xs cy hd i).length ≤ 4 := by
  unfold ftAt dupL
  repeat' split
  all_goals simp
theorem ftsL_len (xs : List DSectorSpec) (cy hd : Int) (n : Nat) : (ftsL xs cy hd n).length ≤ 4 * n := by
  induction n with
  | zero => simp [ftsL]
  | succ n ih =>
    rw [ftsL_s, List.length_append]
    have := ftAt_len xs cy hd n
    omega
end Go.Proofs.YthelfgagddldfaaGreatDoor
