/- Walks: the marks of the laws' tests. -/
import Derived.Test.YtlfmpgfobkmgfaaGreatDoorMem4
import Derived.Test.YtlfmpgfobkmgfaaGreatDoorW2
import Derived.Test.YtlfmpgfobkmgfaaGreatDoorW13
import Derived.Deep.DeepMust
import Derived.Deep.RegionHeld3
namespace Go.Proofs.YtlfmpgfobkmgfaaGreatDoor
open Go.RowKit
set_option linter.unusedVariables false

/-- The digits of a number ahead of a text; none for 0. -/
def dgs (m : Nat) (acc : List UInt8) : List UInt8 := if m = 0 then acc else dgs (m / 10) (UInt8.ofNat (48 + m % 10) :: acc)
termination_by m
theorem dgs_zero (acc : List UInt8) : dgs 0 acc = acc := by rw [dgs, if_pos rfl]
theorem dgs_pos (m : Nat) (acc : List UInt8) (h : ¬ m = 0) : dgs m acc = dgs (m / 10) (UInt8.ofNat (48 + m % 10) :: acc) := by rw [dgs, if_neg h]
def mtxt (k : Nat) : ByteArray := ⟨(109 :: dgs k []).toArray⟩

theorem cat_cons (b : UInt8) (o : ByteArray) : ((⟨[b].toArray⟩ : ByteArray) ++ o).data.toList = b :: o.data.toList := by
  rw [ByteArray.data_append, Array.toList_append]
  rfl
theorem mtxt_done (k m : Nat) (s : ByteArray) (hm : ¬ 0 < m) (h : dgs m s.data.toList = dgs k []) : (⟨[109].toArray⟩ : ByteArray) ++ s = mtxt k := by
  have : m = 0 := by omega
  subst this
  rw [dgs_zero] at h
  have e : ((⟨[109].toArray⟩ : ByteArray) ++ s).data.toList = (mtxt k).data.toList := by
    rw [cat_cons, h]
    rfl
  have e2 := congrArg List.toArray e
  simp only [Array.toArray_toList] at e2
  exact ByteArray.ext e2

def putV (l : List Value) : Nat → List Value → List Value
  | _, [] => l
  | o, b :: r => putV (l.set o b) (o + 1) r
theorem putV_eq : ∀ (bs l : List Value) (o : Nat), o + bs.length ≤ l.length → putV l o bs = l.take o ++ bs ++ l.drop (o + bs.length)
  | [], l, o, _ => by simp [putV]
  | b :: r, l, o, h => by
    simp only [List.length_cons] at h
    have hlt : o < l.length := by omega
    rw [putV, putV_eq r _ _ (by rw [List.length_set]; omega), take_set_succ _ _ _ hlt, List.drop_set_of_lt (by omega)]
    simp only [List.append_assoc, List.cons_append, List.nil_append, List.length_cons]
    rw [show o + 1 + r.length = o + (r.length + 1) by omega]

theorem flat_cons {α : Type} (f : α → List Value) (x : α) (l : List α) : flat f (x :: l) = f x ++ flat f l := by simp [flat]
theorem flat_put {α : Type} (f : α → List Value) (size : Nat) (hf : ∀ x, (f x).length = size) (a b : List α) (x y : α) :
    putV (flat f (a ++ x :: b)) (a.length * size) (f y) = flat f (a ++ y :: b) := by
  have hl := flat_length f size hf a
  rw [putV_eq, flat_append, flat_append, flat_cons, flat_cons]
  · rw [List.take_left' hl, show flat f a ++ (f x ++ flat f b) = (flat f a ++ f x) ++ flat f b by rw [List.append_assoc], List.drop_left' (by rw [List.length_append, hl, hf, hf]), List.append_assoc]
  · rw [flat_append, flat_cons, List.length_append, List.length_append, hl, hf, hf]
    omega
theorem keepS {B : Nat} {w W : World} {p : Addr} {v : Value} (h : w.cell? p = some v) (hp : p.block < B) (hW : Below B w W) : Below B w W ∧ W.cell? p = some v := ⟨hW, (hW.cell hp).trans h⟩
theorem own_some {w : World} {base : Nat} {e : TypeId} {size n : Nat} {g cap : Nat} {xs : List Value} (h : w.ownsRow base e size (.slice (some ⟨g, 0, none⟩) n cap) n xs) (j : Nat) (hj : j < n * size) : ∃ u, w.cell? ⟨g, j, none⟩ = some u := by
  have hl := h.1
  exact ⟨xs[j], (World.ownsRow.cellAt h j hj).trans (List.getElem?_eq_getElem (by omega))⟩
end Go.Proofs.YtlfmpgfobkmgfaaGreatDoor
