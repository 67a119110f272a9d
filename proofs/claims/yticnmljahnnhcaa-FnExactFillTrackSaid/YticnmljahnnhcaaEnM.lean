/- Plain functions: what was found enters a disc. -/
import Derived.Test.YticnmljahnnhcaaW31
import Derived.Test.YticnmljahnnhcaaW80s
import Derived.Test.YticnmljahnnhcaaSFound
namespace Go.Proofs.Yticnmljahnnhcaa
open Go.RowKit
set_option linter.unusedVariables false

def enC (tq tm s : Int) (P : Nat) (x : DFound) : Bool := (x.f0 == tq) && (x.f1 == tm) && (x.f3 == s) && inB x.f2 1 (P : Int)
def enOk (st y : Int) : Bool := (st == 1 && (y == 3 || y == 2)) || (st == 3 && y == 3)
def enJ (q : Nat) (x : DFound) : Nat := q + (x.f2 - 1).toNat
def noS : DSector := ⟨⟨#[]⟩, 0⟩
/-- One found sector enters. -/
def en1 (q P : Nat) (tq tm s : Int) (L : List DSector) (x : DFound) : List DSector :=
  if enC tq tm s P x && enOk x.f5 (L.getD (enJ q x) noS).f1 then L.set (enJ q x) ⟨x.f4, if x.f5 = 1 then 1 else 2⟩ else L
def enL (q P : Nat) (tq tm s : Int) : List DSector → List DFound → List DSector
  | L, [] => L
  | L, x :: xs => enL q P tq tm s (en1 q P tq tm s L x) xs
theorem en1_len (q P : Nat) (tq tm s : Int) (L : List DSector) (x : DFound) : (en1 q P tq tm s L x).length = L.length := by
  unfold en1
  split <;> simp
theorem enL_len (q P : Nat) (tq tm s : Int) : ∀ (xs : List DFound) (L : List DSector), (enL q P tq tm s L xs).length = L.length
  | [], _ => rfl
  | x :: xs, L => by rw [enL, enL_len q P tq tm s xs, en1_len]
section
variable {q P : Nat} {tq tm s : Int} {L R : List DSector} {xs : List DFound} {k : Nat}
theorem enL_skip (h : k < xs.length) (g : enC tq tm s P xs[k] = false ∨ enOk xs[k].f5 (L.getD (enJ q xs[k]) noS).f1 = false) (e : enL q P tq tm s L (xs.drop k) = R) : enL q P tq tm s L (xs.drop (k + 1)) = R := by
  rw [List.drop_eq_getElem_cons h, enL, en1, if_neg] at e
  · exact e
  · rcases g with g | g
    · rw [g, Bool.false_and]; decide
    · rw [g, Bool.and_false]; decide
theorem enL_set {j : Nat} {y : DSector} (h : k < xs.length) (g : enC tq tm s P xs[k] = true) (hj : enJ q xs[k] = j) (hl : j < L.length) (g2 : enOk xs[k].f5 L[j].f1 = true) (hy : (⟨xs[k].f4, if xs[k].f5 = 1 then 1 else 2⟩ : DSector) = y) (e : enL q P tq tm s L (xs.drop k) = R) : enL q P tq tm s (L.set j y) (xs.drop (k + 1)) = R := by
  subst hj hy
  rw [List.drop_eq_getElem_cons h, enL, en1, if_pos] at e
  · exact e
  · rw [g, List.getD_eq_getElem?_getD, List.getElem?_eq_getElem hl, Option.getD_some, g2]
    rfl
theorem enL_end (h : xs.length ≤ k) (e : enL q P tq tm s L (xs.drop k) = R) : L = R := by
  rw [List.drop_eq_nil_of_le h, enL] at e
  exact e
end
/-- A store of a whole sector, the state written twice. -/
theorem set_twice (F : List Value) (a b : Nat) (u v v' : Value) : ((F.set a u).set b v).set b v' = (F.set a u).set b v' := List.set_set ..
end Go.Proofs.Yticnmljahnnhcaa
