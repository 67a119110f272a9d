/- Walks: geometry of discs, zero bytes, valid sectors. -/
import Derived.Test.YtbobehieaaaleaaDoorShelf
import Derived.Test.YtbobehieaaaleaaDoorSSector
import Derived.Test.YtbobehieaaaleaaDoorW1
import Derived.Test.YtbobehieaaaleaaDoorW10
import Derived.Test.YtbobehieaaaleaaDoorMem5
import Derived.Test.YtbobehieaaaleaaDoorOpen
import Derived.StillTailTactics
import Derived.Deep.RegionHeld3
namespace Go.Proofs.YtbobehieaaaleaaDoor
open Go.RowKit
set_option linter.unusedVariables false

theorem calls_flip {P : Program} {f : FuncId} {args : Array Value} {w : World} {v : Value} (h : Calls P f args w fun e w' => e = .returned v ∧ w = w') : Calls P f args w fun e w' => e = .returned v ∧ w' = w :=
  h.mono fun _ _ h => ⟨h.1, h.2.symm⟩

def geoB (c h p s : Int) : Bool := inB c 1 8 && inB h 1 2 && inB p 1 8 && inB s 0 2
theorem geoB_yes {c h p s : Int} (g : geoB c h p s = true) : 1 ≤ c ∧ c ≤ 8 ∧ 1 ≤ h ∧ h ≤ 2 ∧ 1 ≤ p ∧ p ≤ 8 ∧ 0 ≤ s ∧ s ≤ 2 := by
  unfold geoB inB at g
  simp only [Bool.and_eq_true, decide_eq_true_eq] at g
  omega
theorem geo_1 {c h p s : Int} (g : inB c 1 8 = false) : geoB c h p s = false := by simp [geoB, g]
theorem geo_2 {c h p s : Int} (g : inB h 1 2 = false) : geoB c h p s = false := by simp [geoB, g]
theorem geo_3 {c h p s : Int} (g : inB p 1 8 = false) : geoB c h p s = false := by simp [geoB, g]
theorem geo_4 {c h p s : Int} (g1 : inB c 1 8 = true) (g2 : inB h 1 2 = true) (g3 : inB p 1 8 = true) : geoB c h p s = inB s 0 2 := by simp [geoB, g1, g2, g3]

/-- Zero bytes. -/
def zerosB (n : Nat) : ByteArray := ⟨(List.replicate n (0 : UInt8)).toArray⟩
theorem zerosB_size (n : Nat) : (zerosB n).size = n := by show (List.replicate n (0 : UInt8)).toArray.size = n; simp
theorem repeat_zero : ∀ n : Nat, Lib.repeatL (⟨#[0]⟩ : ByteArray).data.toList n = List.replicate n (0 : UInt8)
  | 0 => rfl
  | n + 1 => by
    have := repeat_zero n
    rw [List.replicate_succ, ← this]
    rfl
set_option maxHeartbeats 400000 in
theorem zeros_any (n : Nat) (w : World) (hn : n ≤ 1000000) :
    Calls Tryd.prog 65 #[.int .i64 (n : Int)] w fun e w' => e = .returned (.string (zerosB n)) ∧ Below w.heap.size w w' := by
  have hz := Lib.hid (repeat_zero n)
  go_enter Tryd.func65, Tryd.ntmps65
  go_wp2_with (go_at_call 93; refine (Tryd.strings_Repeat ⟨#[0]⟩ n _ (by omega) (by show 1 * n ≤ _; omega)).mono ?_; rintro e w1 ⟨rfl, hx⟩; rw [hz.out])
  go_ret
  exact ⟨rfl, hx⟩
theorem made_bytes (n : Nat) : (madeCells (Value.int .u8 0).cells n).toList = bcells (List.replicate n (0 : UInt8)) := by
  apply List.ext_getElem
  · simp [size_madeCells, bcells]
  · intro i h1 h2
    simp [madeCells, bcells, Value.cells, Nat.mod_one]
/-- What is a valid sector of n bytes. -/
def secB (d : ByteArray) (st : Int) (n : Nat) : Bool := decide (d.size = n) && inB st 1 4 && (decide (¬ st = 3) || (d.toList == (zerosB n).toList))
theorem sec_1 {d : ByteArray} {st : Int} {n : Nat} (h : ¬ d.size = n) : secB d st n = false := by simp [secB, h]
theorem sec_2 {d : ByteArray} {st : Int} {n : Nat} (h : inB st 1 4 = false) : secB d st n = false := by simp [secB, h]
theorem sec_3 {d : ByteArray} {st : Int} {n : Nat} (h1 : d.size = n) (h2 : inB st 1 4 = true) (h3 : ¬ st = 3) : secB d st n = true := by simp [secB, h1, h2, h3]
theorem sec_4 {d : ByteArray} {st : Int} {n : Nat} (h1 : d.size = n) (h2 : inB st 1 4 = true) (h3 : st = 3) : secB d st n = (d.toList == (zerosB n).toList) := by subst h3; simp [secB, h1, h2]

/-- What a region with two cells of a box holds on to. -/
def Box2 (w : World) (g : Nat) (u v : Value) (W : World) : Prop := Below w.heap.size w W ∧ W.cell? ⟨g, 0, none⟩ = some u ∧ W.cell? ⟨g, 1, none⟩ = some v
theorem Box2.next {w W W' : World} {g : Nat} {u v : Value} (h : Box2 w g u v W) (hx : Below W.heap.size W W') : Box2 w g u v W' :=
  ⟨h.1.trans (hx.mono h.1.size), (hx.cell (p := ⟨g, 0, none⟩) (cell_spot h.2.1).2).trans h.2.1, (hx.cell (p := ⟨g, 1, none⟩) (cell_spot h.2.2).2).trans h.2.2⟩
theorem Box2.drew {w W : World} {g : Nat} {u v : Value} (h : Box2 w g u v W) : Box2 w g u v W.drew := ⟨Below.drew h.1, h.2.1, h.2.2⟩
theorem Box2.drewN {w W : World} {g : Nat} {u v : Value} (h : Box2 w g u v W) (k : Nat) : Box2 w g u v (W.drewN k) := ⟨below_drewN h.1 k, h.2.1, h.2.2⟩
theorem Box2.made (w : World) (u v : Value) (t : TypeId) : Box2 w w.heap.size u v (w.alloc (Obj.cells #[u, v] t)) := ⟨(by repeat (first | exact Below.refl _ _ | refine below_step ?_ (by assumption) | assumption | refine Below.drew ?_ | refine below_drewN ?_ _ | refine below_alloc ?_ _ | refine Below.setCell ?_ (by simp; try omega) _)), by simp [go_sem], by simp [go_sem]⟩

end Go.Proofs.YtbobehieaaaleaaDoor
