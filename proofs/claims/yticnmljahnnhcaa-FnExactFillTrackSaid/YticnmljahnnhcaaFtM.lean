/- Plain functions: FillTrack. -/
import Derived.Test.YticnmljahnnhcaaEnM
import Derived.Test.YticnmljahnnhcaaW150
import Derived.Test.YticnmljahnnhcaaW80
namespace Go.Proofs.Yticnmljahnnhcaa
open Go.RowKit
set_option linter.unusedVariables false

def ftOk (d : Bool) (xs : List DFound) (c h t : Int) : Bool := d && xs.all foB && inB t 0 (c * h - 1)
def ftC (d : Bool) (xs : List DFound) (c h t : Int) : Int := if d && xs.all foB then (if inB t 0 (c * h - 1) then 0 else 2) else 1
def ftL (b : Bool) (h p s t : Int) (l : List DSector) (xs : List DFound) : List DSector := if b then enL (t.toNat * p.toNat) p.toNat (t.tdiv h) (t.tmod h) s l xs else []
theorem ft_1 {xs : List DFound} {c h t : Int} : ftOk false xs c h t = false ∧ ftC false xs c h t = 1 := by simp [ftOk, ftC]
theorem ft_2 {d : Bool} {xs : List DFound} {c h t : Int} (g : xs.all foB = false) : ftOk d xs c h t = false ∧ ftC d xs c h t = 1 := by
  rw [ftOk, ftC, g, Bool.and_false, Bool.false_and]
  exact ⟨rfl, rfl⟩
theorem ft_3 {xs : List DFound} {c h t : Int} (g : xs.all foB = true) (g2 : inB t 0 (c * h - 1) = false) : ftOk true xs c h t = false ∧ ftC true xs c h t = 2 := by
  rw [ftOk, ftC, g, g2]
  exact ⟨rfl, rfl⟩
theorem ft_4 {xs : List DFound} {c h t : Int} (g : xs.all foB = true) (g2 : inB t 0 (c * h - 1) = true) : ftOk true xs c h t = true ∧ ftC true xs c h t = 0 := by
  rw [ftOk, ftC, g, g2]
  exact ⟨rfl, rfl⟩
theorem ftL_len (b : Bool) (h p s t : Int) (l : List DSector) (xs : List DFound) : (ftL b h p s t l xs).length ≤ l.length := by
  unfold ftL
  split
  · rw [enL_len]; exact Nat.le_refl _
  · simp
section
variable {xs : List DFound} {k : Nat} {R : Bool}
theorem fa_no (h : k < xs.length) (g : foB xs[k] = false) (e : (xs.drop k).all foB = R) : R = false := by
  rw [← e, List.drop_eq_getElem_cons h, List.all_cons, g, Bool.false_and]
theorem fa_yes (h : k < xs.length) (g : foB xs[k] = true) (e : (xs.drop k).all foB = R) : (xs.drop (k + 1)).all foB = R := by
  rw [← e, List.drop_eq_getElem_cons h, List.all_cons, g, Bool.true_and]
theorem fa_end (h : xs.length ≤ k) (e : (xs.drop k).all foB = R) : R = true := by
  rw [← e, List.drop_eq_nil_of_le h]
  rfl
end
end Go.Proofs.Yticnmljahnnhcaa
