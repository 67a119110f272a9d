/- Plain functions: the description of a track of a disc. -/
import Derived.Test.YticnmljahnnhcaaW31
import Derived.Test.YticnmljahnnhcaaSSectorSpec
import Derived.Test.YticnmljahnnhcaaStep
namespace Go.Proofs.Yticnmljahnnhcaa
open Go.RowKit
set_option linter.unusedVariables false

/-- A track's sectors. -/
def tkQ (l : List DSector) (q P : Nat) : List DSector := (l.drop q).take P
theorem tkQ_len {l : List DSector} {q P : Nat} (h : q + P ≤ l.length) : (tkQ l q P).length = P := by simp [tkQ]; omega
theorem tkQ_get {l : List DSector} {q P k : Nat} (h : k < (tkQ l q P).length) (h2 : q + k < l.length) : (tkQ l q P)[k] = l[q + k] := by simp [tkQ]
/-- What the description says of the sectors behind the first k. -/
def tkS (tq tm s : Int) : Nat → List DSector → List DSectorSpec
  | _, [] => []
  | k, x :: xs => if x.f1 = 3 then tkS tq tm s (k + 1) xs else ⟨tq, tm, ((k + 1 : Nat) : Int), s, x.f0, false, false, decide (x.f1 = 2)⟩ :: tkS tq tm s (k + 1) xs
theorem tkS_len (tq tm s : Int) : ∀ (k : Nat) (l : List DSector), (tkS tq tm s k l).length ≤ l.length
  | _, [] => by simp [tkS]
  | k, x :: xs => by
    rw [tkS]
    have := tkS_len tq tm s (k + 1) xs
    split <;> simp only [List.length_cons] <;> omega
section
variable {tq tm s : Int} {ss : List DSector} {k : Nat} {out R : List DSectorSpec}
theorem tkS_skip (h : k < ss.length) (g : ss[k].f1 = 3) (e : out ++ tkS tq tm s k (ss.drop k) = R) : out ++ tkS tq tm s (k + 1) (ss.drop (k + 1)) = R := by
  rw [List.drop_eq_getElem_cons h, tkS, if_pos g] at e
  exact e
theorem tkS_take {dat : ByteArray} {B : Bool} (h : k < ss.length) (g : ¬ ss[k].f1 = 3) (hd : ss[k].f0 = dat) (hB : decide (ss[k].f1 = 2) = B) (e : out ++ tkS tq tm s k (ss.drop k) = R) : (out ++ [⟨tq, tm, ((k + 1 : Nat) : Int), s, dat, false, false, B⟩]) ++ tkS tq tm s (k + 1) (ss.drop (k + 1)) = R := by
  rw [List.drop_eq_getElem_cons h, tkS, if_neg g, hd, hB] at e
  rw [← e, List.append_assoc]
  rfl
theorem tkS_end (h : ss.length ≤ k) (e : out ++ tkS tq tm s k (ss.drop k) = R) : out = R := by
  rw [List.drop_eq_nil_of_le h, tkS, List.append_nil] at e
  exact e
end
/-- What TrackOf answers. -/
def tkOk (d : Bool) (c h t : Int) : Bool := d && inB t 0 (c * h - 1)
def tkC (d : Bool) (c h t : Int) : Int := if d then (if inB t 0 (c * h - 1) then 0 else 2) else 1
def tkF (b : Bool) (v : Int) : Int := if b then v else 0
def tkL (b : Bool) (h p s t : Int) (l : List DSector) : List DSectorSpec := if b then tkS (t.tdiv h) (t.tmod h) s 0 (tkQ l (t.toNat * p.toNat) p.toNat) else []
theorem tk_1 {c h t : Int} : tkOk false c h t = false ∧ tkC false c h t = 1 := by simp [tkOk, tkC]
theorem tk_2 {c h t : Int} (g : inB t 0 (c * h - 1) = false) : tkOk true c h t = false ∧ tkC true c h t = 2 := by simp [tkOk, tkC, g]
theorem tk_3 {c h t : Int} (g : inB t 0 (c * h - 1) = true) : tkOk true c h t = true ∧ tkC true c h t = 0 := by simp [tkOk, tkC, g]
theorem tkL_len (b : Bool) (h p s t : Int) (l : List DSector) : (tkL b h p s t l).length ≤ l.length := by
  unfold tkL
  split
  · refine Nat.le_trans (tkS_len _ _ _ _ _) ?_
    rw [tkQ, List.length_take, List.length_drop]
    omega
  · simp
theorem eltSectorSpec : Elt Try.prog 82 150 8 56 (.agg #[.int .i64 0, .int .i64 0, .int .i64 0, .int .i64 0, .string ByteArray.empty, .bool false, .bool false, .bool false]) := Elt.mk' Try.underlying82 (by kernel_rfl) rfl (by decide)
theorem oneSectorSpec (x : DSectorSpec) : ∀ u ∈ fSectorSpec x, u.oneCell' = true := by
  intro u hu
  simp only [fSectorSpec, List.mem_cons, List.not_mem_nil, or_false] at hu
  rcases hu with rfl | rfl | rfl | rfl | rfl | rfl | rfl | rfl <;> rfl
end Go.Proofs.Yticnmljahnnhcaa
