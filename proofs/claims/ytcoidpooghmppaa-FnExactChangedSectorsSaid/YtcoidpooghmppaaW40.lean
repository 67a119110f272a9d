/- Walks: equality of slices. -/
import Derived.Test.YtcoidpooghmppaaSDisc
import Derived.Test.YtcoidpooghmppaaSInt64
import Derived.Test.YtcoidpooghmppaaSString
import Derived.Test.YtcoidpooghmppaaStep
namespace Go.Proofs.Ytcoidpooghmppaa
open Go.RowKit
set_option linter.unusedVariables false

def sameL {α : Type} (q : α → α → Bool) : List α → List α → Bool
  | [], [] => true
  | x :: l, y :: m => q x y && sameL q l m
  | _, _ => false
section
variable {α : Type} {q : α → α → Bool}
theorem sameL_len : ∀ (l m : List α), ¬ l.length = m.length → sameL q l m = false
  | [], [], h => absurd rfl h
  | [], _ :: _, _ => rfl
  | _ :: _, [], _ => rfl
  | x :: l, y :: m, h => by
    have := sameL_len l m (fun e => h (by simp [e]))
    simp [sameL, this]
theorem sameL_bad : ∀ (l m : List α) (k : Nat) (h1 : k < l.length) (h2 : k < m.length), q l[k] m[k] = false → sameL q l m = false
  | [], _, k, h1, _, _ => absurd h1 (by simp)
  | _ :: _, [], k, _, h2, _ => absurd h2 (by simp)
  | x :: l, y :: m, 0, _, _, h => by
    have : q x y = false := h
    simp [sameL, this]
  | x :: l, y :: m, k + 1, h1, h2, h => by
    have := sameL_bad l m k (by simpa using h1) (by simpa using h2) h
    simp [sameL, this]
theorem sameL_all : ∀ (l m : List α), l.length = m.length → (∀ k (h1 : k < l.length) (h2 : k < m.length), q l[k] m[k] = true) → sameL q l m = true
  | [], [], _, _ => rfl
  | [], _ :: _, h, _ => by simp at h
  | _ :: _, [], h, _ => by simp at h
  | x :: l, y :: m, h, ha => by
    have h0 : q x y = true := ha 0 (by simp) (by simp)
    have := sameL_all l m (by simpa using h) (fun k h1 h2 => ha (k + 1) (by simpa using h1) (by simpa using h2))
    simp [sameL, h0, this]
end
theorem all_next {p : Nat → Prop} {k : Nat} (h : ∀ j, j < k → p j) (hk : p k) : ∀ j, j < k + 1 → p j := fun j hj => by
  rcases Nat.lt_or_ge j k with h1 | h1
  · exact h j h1
  · obtain rfl : j = k := by omega
    exact hk
theorem quiet_draw {P : Program} {f : FuncId} {args : Array Value} {w : World} {n : Nat} {v : Value}
    (h : Calls P f args (w.drewN n) fun e w' => e = .returned v ∧ ∃ k, w' = (w.drewN n).drewN k) : Calls P f args (w.drewN n) fun e w'' => e = .returned v ∧ ∃ m, w'' = w.drewN m :=
  h.mono fun _ _ ⟨he, k, hk⟩ => ⟨he, n + k, by rw [hk, World.drewN_drewN]⟩
def qStr (x y : ByteArray) : Bool := x.toList == y.toList
def qInt (x y : Int) : Bool := x == y
def qSec (x y : DSector) : Bool := (x.f0.toList == y.f0.toList) && x.f1 == y.f1

end Go.Proofs.Ytcoidpooghmppaa
