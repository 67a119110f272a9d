/- Walks: valid discs. -/
import Derived.Test.YtbobehieaaaleaaDoorW30
import Derived.Test.YtbobehieaaaleaaDoorSDisc
namespace Go.Proofs.YtbobehieaaaleaaDoor
open Go.RowKit
set_option linter.unusedVariables false

/-- A disc lies in block g. -/
def DP (w : World) (g : Nat) (c h p s : Int) (v : Value) : Prop :=
  w.cell? ⟨g, 0, none⟩ = some (.int .i64 c) ∧ w.cell? ⟨g, 1, none⟩ = some (.int .i64 h) ∧ w.cell? ⟨g, 2, none⟩ = some (.int .i64 p) ∧ w.cell? ⟨g, 3, none⟩ = some (.int .i64 s) ∧ w.cell? ⟨g, 4, none⟩ = some v
theorem DP.below {w w' : World} {g : Nat} {c h p s : Int} {v : Value} {B : Nat} (d : DP w g c h p s v) (hx : Below B w w') (hg : g < B) : DP w' g c h p s v :=
  ⟨(hx.cell (p := ⟨g, 0, none⟩) hg).trans d.1, (hx.cell (p := ⟨g, 1, none⟩) hg).trans d.2.1, (hx.cell (p := ⟨g, 2, none⟩) hg).trans d.2.2.1, (hx.cell (p := ⟨g, 3, none⟩) hg).trans d.2.2.2.1, (hx.cell (p := ⟨g, 4, none⟩) hg).trans d.2.2.2.2⟩
theorem DP.lt {w : World} {g : Nat} {c h p s : Int} {v : Value} (d : DP w g c h p s v) : g < w.heap.size := (cell_spot d.1).2
theorem DP.made (w : World) (c h p s : Int) (v : Value) (t : TypeId) : DP (w.alloc (.cells #[.int .i64 c, .int .i64 h, .int .i64 p, .int .i64 s, v] t)) w.heap.size c h p s v :=
  ⟨by simp [go_sem], by simp [go_sem], by simp [go_sem], by simp [go_sem], by simp [go_sem]⟩
theorem DP.drewN {w : World} {g : Nat} {c h p s : Int} {v : Value} (d : DP w g c h p s v) (k : Nat) : DP (w.drewN k) g c h p s v := d
theorem DP.drew {w : World} {g : Nat} {c h p s : Int} {v : Value} (d : DP w g c h p s v) : DP w.drew g c h p s v := d
theorem DP.alloc {w : World} {g : Nat} {c h p s : Int} {v : Value} (d : DP w g c h p s v) (o : Obj) : DP (w.alloc o) g c h p s v :=
  ⟨(World.cell?_alloc_lt w o ⟨g, 0, none⟩ d.lt).trans d.1, (World.cell?_alloc_lt w o ⟨g, 1, none⟩ d.lt).trans d.2.1, (World.cell?_alloc_lt w o ⟨g, 2, none⟩ d.lt).trans d.2.2.1, (World.cell?_alloc_lt w o ⟨g, 3, none⟩ d.lt).trans d.2.2.2.1, (World.cell?_alloc_lt w o ⟨g, 4, none⟩ d.lt).trans d.2.2.2.2⟩
theorem DP.next {w w' : World} {g : Nat} {c h p s : Int} {v : Value} (d : DP w g c h p s v) (hx : Below w.heap.size w w') : DP w' g c h p s v := d.below hx d.lt
/-- What a region that reads two discs holds on to. -/
theorem DPS2 {w W : World} {g g' : Nat} {c h p s c' h' p' s' : Int} {v v' : Value} (hB : Below w.heap.size w W) (d : DP W g c h p s v) (e : DP W g' c' h' p' s' v') :
    Below w.heap.size w W ∧ W.cell? ⟨g, 0, none⟩ = some (.int .i64 c) ∧ W.cell? ⟨g, 1, none⟩ = some (.int .i64 h) ∧ W.cell? ⟨g, 2, none⟩ = some (.int .i64 p) ∧ W.cell? ⟨g, 3, none⟩ = some (.int .i64 s) ∧ W.cell? ⟨g, 4, none⟩ = some v ∧
      W.cell? ⟨g', 0, none⟩ = some (.int .i64 c') ∧ W.cell? ⟨g', 1, none⟩ = some (.int .i64 h') ∧ W.cell? ⟨g', 2, none⟩ = some (.int .i64 p') ∧ W.cell? ⟨g', 3, none⟩ = some (.int .i64 s') ∧ W.cell? ⟨g', 4, none⟩ = some v' :=
  ⟨hB, d.1, d.2.1, d.2.2.1, d.2.2.2.1, d.2.2.2.2, e.1, e.2.1, e.2.2.1, e.2.2.2.1, e.2.2.2.2⟩

def secX (s : Int) (x : DSector) : Bool := secB x.f0 x.f1 (szB s).toNat
def okD (c h p s : Int) (l : List DSector) : Bool := geoB c h p s && decide ((l.length : Int) = c * h * p) && l.all (secX s)
theorem okD_1 {c h p s : Int} {l : List DSector} (g : geoB c h p s = false) : okD c h p s l = false := by simp [okD, g]
theorem okD_2 {c h p s : Int} {l : List DSector} (g : ¬ (l.length : Int) = c * h * p) : okD c h p s l = false := by simp [okD, g]
theorem okD_bad {c h p s : Int} {l : List DSector} (k : Nat) (hk : k < l.length) (g : secX s l[k] = false) : okD c h p s l = false := by
  have : l.all (secX s) = false := by
    rw [List.all_eq_false]
    exact ⟨l[k], List.getElem_mem hk, by simp [g]⟩
  simp [okD, this]
theorem okD_all {c h p s : Int} {l : List DSector} (g1 : geoB c h p s = true) (g2 : (l.length : Int) = c * h * p) (g : ∀ k, (hk : k < l.length) → secX s l[k] = true) : okD c h p s l = true := by
  simp only [okD, g1, Bool.true_and, Bool.and_eq_true, decide_eq_true_eq, List.all_eq_true]
  refine ⟨g2, fun x hx => ?_⟩
  obtain ⟨k, hk, rfl⟩ := List.getElem_of_mem hx
  exact g k hk
theorem okD_geo {c h p s : Int} {l : List DSector} (g : okD c h p s l = true) : geoB c h p s = true ∧ (l.length : Int) = c * h * p ∧ ∀ k, (hk : k < l.length) → secX s l[k] = true := by
  simp only [okD, Bool.and_eq_true, decide_eq_true_eq, List.all_eq_true] at g
  exact ⟨g.1.1, g.1.2, fun k hk => g.2 _ (List.getElem_mem hk)⟩
theorem prod2 {c h : Int} (a : 1 ≤ c) (b : c ≤ 8) (d : 1 ≤ h) (e : h ≤ 2) : 1 ≤ c * h ∧ c * h ≤ 16 := by
  have : h = 1 ∨ h = 2 := by omega
  rcases this with rfl | rfl <;> omega
theorem prod3 {m p : Int} (a : 1 ≤ m) (b : m ≤ 16) (d : 1 ≤ p) (e : p ≤ 8) : 1 ≤ m * p ∧ m * p ≤ 128 := by
  have : p = 1 ∨ p = 2 ∨ p = 3 ∨ p = 4 ∨ p = 5 ∨ p = 6 ∨ p = 7 ∨ p = 8 := by omega
  rcases this with rfl | rfl | rfl | rfl | rfl | rfl | rfl | rfl <;> omega
theorem szB_nat {s : Int} (a : 0 ≤ s) (b : s ≤ 2) : ∃ n : Nat, szB s = (n : Int) ∧ n ≤ 32 ∧ 8 ≤ n ∧ (szB s).toNat = n := by
  have : s = 0 ∨ s = 1 ∨ s = 2 := by omega
  rcases this with rfl | rfl | rfl
  · exact ⟨8, by decide, by decide, by decide, by decide⟩
  · exact ⟨16, by decide, by decide, by decide, by decide⟩
  · exact ⟨32, by decide, by decide, by decide, by decide⟩

end Go.Proofs.YtbobehieaaaleaaDoor
