/- Walks: geometry of discs, zero bytes, valid sectors. -/
import Derived.Test.YtemppogailpoiaaShelf
import Derived.Test.YtemppogailpoiaaSSector
import Derived.Test.YtemppogailpoiaaW1
import Derived.Test.YtemppogailpoiaaW10
import Derived.Test.YtemppogailpoiaaMem5
import Derived.Test.YtemppogailpoiaaOpen
import Derived.StillTailTactics
import Derived.Deep.RegionHeld3
namespace Go.Proofs.Ytemppogailpoiaa
open Go.RowKit
set_option linter.unusedVariables false

theorem calls_flip {P : Program} {f : FuncId} {args : Array Value} {w : World} {v : Value} (h : Calls P f args w fun e w' => e = .returned v ∧ w = w') : Calls P f args w fun e w' => e = .returned v ∧ w' = w :=
  h.mono fun _ _ h => ⟨h.1, h.2.symm⟩

def geoB (c h p s : Int) : Bool := inB c 1 8 && inB h 1 2 && inB p 1 8 && inB s 0 2
theorem geoB_yes {c h p s : Int} (g : geoB c h p s = true) : 1 ≤ c ∧ c ≤ 8 ∧ 1 ≤ h ∧ h ≤ 2 ∧ 1 ≤ p ∧ p ≤ 8 ∧ 0 ≤ s ∧ s ≤ 2 := by
  unfold geoB inB at g
  simp only [Bool.and_eq_true, decide_eq_true_eq] at g
  omega
theorem geo_1 {c h p s : Int} (g : inB c 1 8 = false) : geoB c h p s = false := by simp [geoB, g]
theorem geo_2 {c h p s : Int} (g : inB h 1 2 = false) : geoB c h p s = false := by simp [geoB, g]
theorem geo_3 {c h p s : Int} (g : inB p 1 8 = false) : geoB c h p s = false := by simp [geoB, g]
theorem geo_4 {c h p s : Int} (g1 : inB c 1 8 = true) (g2 : inB h 1 2 = true) (g3 : inB p 1 8 = true) : geoB c h p s = inB s 0 2 := by simp [geoB, g1, g2, g3]

set_option maxHeartbeats 400000 in
theorem l12Geometry_any (c h p s : Int) (w : World) :
    Calls Try.prog 81 #[.int .i64 c, .int .i64 h, .int .i64 p, .int .i64 s] w fun e w' => e = .returned (.bool (geoB c h p s)) ∧ w = w' := by
  cases h1 : inB c 1 8
  · have HR := Lib.hid (geo_1 (h := h) (p := p) (s := s) h1)
    go_enter Try.func81, Try.ntmps81
    go_wp2_with (go_at_call 68; refine (l00In_any _ _ _ _).mono ?_; rintro e w1 ⟨rfl, rfl⟩; rw [h1])
    go_ret
    exact ⟨ret_bool (by rw [HR.out]), rfl⟩
  cases h2 : inB h 1 2
  · have HR := Lib.hid (geo_2 (c := c) (p := p) (s := s) h2)
    go_enter Try.func81, Try.ntmps81
    go_wp2_with (go_at_call 68; refine (l00In_any _ _ _ _).mono ?_; rintro e w1 ⟨rfl, rfl⟩; first | rw [h1] | rw [h2])
    go_ret
    exact ⟨ret_bool (by rw [HR.out]), rfl⟩
  cases h3 : inB p 1 8
  · have HR := Lib.hid (geo_3 (c := c) (h := h) (s := s) h3)
    go_enter Try.func81, Try.ntmps81
    go_wp2_with (go_at_call 68; refine (l00In_any _ _ _ _).mono ?_; rintro e w1 ⟨rfl, rfl⟩; first | rw [h1] | rw [h2] | rw [h3])
    go_ret
    exact ⟨ret_bool (by rw [HR.out]), rfl⟩
  have HR := Lib.hid (geo_4 (s := s) h1 h2 h3)
  go_enter Try.func81, Try.ntmps81
  go_wp2_with (go_at_call 68; refine (l00In_any _ _ _ _).mono ?_; rintro e w1 ⟨rfl, rfl⟩; first | rw [h1] | rw [h2] | rw [h3] | skip)
  go_ret
  exact ⟨ret_bool (by rw [HR.out]), rfl⟩

set_option maxHeartbeats 400000 in
theorem isGeometry_any (c h p s : Int) (w : World) :
    Calls Try.prog 57 #[.int .i64 c, .int .i64 h, .int .i64 p, .int .i64 s] w fun e w' => e = .returned (.bool (geoB c h p s)) ∧ w = w' := by
  cases h1 : inB c 1 8
  · have HR := Lib.hid (geo_1 (h := h) (p := p) (s := s) h1)
    go_enter Try.func57, Try.ntmps57
    go_wp2_with (go_at_call 54; refine (within_any _ _ _ _).mono ?_; rintro e w1 ⟨rfl, rfl⟩; rw [h1])
    go_ret
    exact ⟨ret_bool (by rw [HR.out]), rfl⟩
  cases h2 : inB h 1 2
  · have HR := Lib.hid (geo_2 (c := c) (p := p) (s := s) h2)
    go_enter Try.func57, Try.ntmps57
    go_wp2_with (go_at_call 54; refine (within_any _ _ _ _).mono ?_; rintro e w1 ⟨rfl, rfl⟩; first | rw [h1] | rw [h2])
    go_ret
    exact ⟨ret_bool (by rw [HR.out]), rfl⟩
  cases h3 : inB p 1 8
  · have HR := Lib.hid (geo_3 (c := c) (h := h) (s := s) h3)
    go_enter Try.func57, Try.ntmps57
    go_wp2_with (go_at_call 54; refine (within_any _ _ _ _).mono ?_; rintro e w1 ⟨rfl, rfl⟩; first | rw [h1] | rw [h2] | rw [h3])
    go_ret
    exact ⟨ret_bool (by rw [HR.out]), rfl⟩
  have HR := Lib.hid (geo_4 (s := s) h1 h2 h3)
  go_enter Try.func57, Try.ntmps57
  go_wp2_with (go_at_call 54; refine (within_any _ _ _ _).mono ?_; rintro e w1 ⟨rfl, rfl⟩; first | rw [h1] | rw [h2] | rw [h3] | skip)
  go_ret
  exact ⟨ret_bool (by rw [HR.out]), rfl⟩

/-- Zero bytes. -/
def zerosB (n : Nat) : ByteArray := ⟨(List.replicate n (0 : UInt8)).toArray⟩
theorem zerosB_size (n : Nat) : (zerosB n).size = n := by show (List.replicate n (0 : UInt8)).toArray.size = n; simp
theorem repeat_zero : ∀ n : Nat, Lib.repeatL (⟨#[0]⟩ : ByteArray).data.toList n = List.replicate n (0 : UInt8)
  | 0 => rfl
  | n + 1 => by
    have := repeat_zero n
    rw [List.replicate_succ, ← this]
    rfl
set_option maxHeartbeats 400000 in
theorem zeros_any (n : Nat) (w : World) (hn : n ≤ 1000000) :
    Calls Try.prog 84 #[.int .i64 (n : Int)] w fun e w' => e = .returned (.string (zerosB n)) ∧ Below w.heap.size w w' := by
  have hz := Lib.hid (repeat_zero n)
  go_enter Try.func84, Try.ntmps84
  go_wp2_with (go_at_call 92; refine (Try.strings_Repeat ⟨#[0]⟩ n _ (by omega) (by show 1 * n ≤ _; omega)).mono ?_; rintro e w1 ⟨rfl, hx⟩; rw [hz.out])
  go_ret
  exact ⟨rfl, hx⟩
theorem made_bytes (n : Nat) : (madeCells (Value.int .u8 0).cells n).toList = bcells (List.replicate n (0 : UInt8)) := by
  apply List.ext_getElem
  · simp [size_madeCells, bcells]
  · intro i h1 h2
    simp [madeCells, bcells, Value.cells, Nat.mod_one]
set_option maxRecDepth 100000 in
set_option maxHeartbeats 400000 in
theorem l01Zeros_any (n : Nat) (w : World) (hn : n ≤ 1000000) :
    Calls Try.prog 72 #[.int .i64 (n : Int)] w fun e w' => e = .returned (.string (zerosB n)) ∧ Below w.heap.size w w' := by
  have hmk := fun W => eltB.make n (by omega) (by omega) W
  have hcv := fun W => run_b2s_lit (P := Try.prog) (dst := 9) Try.underlying22 Try.underlying5 Try.underlying9 W (List.replicate n (0 : UInt8)) (madeCells (Value.int .u8 0).cells n) n (made_bytes n) (by simp) (by simp [maxLen]; omega)
  simp only [Nat.mul_one, show (Value.int .u8 0).cells = #[Value.int .u8 0] from rfl] at hmk hcv
  go_enter Try.func72, Try.ntmps72
  go_wp2
  go_ret
  exact ⟨rfl, (by repeat (first | exact Below.refl _ _ | refine below_step ?_ (by assumption) | assumption | refine Below.drew ?_ | refine below_drewN ?_ _ | refine below_alloc ?_ _ | refine Below.setCell ?_ (by simp; try omega) _))⟩

/-- What is a valid sector of n bytes. -/
def secB (d : ByteArray) (st : Int) (n : Nat) : Bool := decide (d.size = n) && inB st 1 4 && (decide (¬ st = 3) || (d.toList == (zerosB n).toList))
theorem sec_1 {d : ByteArray} {st : Int} {n : Nat} (h : ¬ d.size = n) : secB d st n = false := by simp [secB, h]
theorem sec_2 {d : ByteArray} {st : Int} {n : Nat} (h : inB st 1 4 = false) : secB d st n = false := by simp [secB, h]
theorem sec_3 {d : ByteArray} {st : Int} {n : Nat} (h1 : d.size = n) (h2 : inB st 1 4 = true) (h3 : ¬ st = 3) : secB d st n = true := by simp [secB, h1, h2, h3]
theorem sec_4 {d : ByteArray} {st : Int} {n : Nat} (h1 : d.size = n) (h2 : inB st 1 4 = true) (h3 : st = 3) : secB d st n = (d.toList == (zerosB n).toList) := by subst h3; simp [secB, h1, h2]

/-- What a region with two cells of a box holds on to. -/
def Box2 (w : World) (g : Nat) (u v : Value) (W : World) : Prop := Below w.heap.size w W ∧ W.cell? ⟨g, 0, none⟩ = some u ∧ W.cell? ⟨g, 1, none⟩ = some v
theorem Box2.next {w W W' : World} {g : Nat} {u v : Value} (h : Box2 w g u v W) (hx : Below W.heap.size W W') : Box2 w g u v W' :=
  ⟨h.1.trans (hx.mono h.1.size), (hx.cell (p := ⟨g, 0, none⟩) (cell_spot h.2.1).2).trans h.2.1, (hx.cell (p := ⟨g, 1, none⟩) (cell_spot h.2.2).2).trans h.2.2⟩
theorem Box2.drew {w W : World} {g : Nat} {u v : Value} (h : Box2 w g u v W) : Box2 w g u v W.drew := ⟨Below.drew h.1, h.2.1, h.2.2⟩
theorem Box2.drewN {w W : World} {g : Nat} {u v : Value} (h : Box2 w g u v W) (k : Nat) : Box2 w g u v (W.drewN k) := ⟨below_drewN h.1 k, h.2.1, h.2.2⟩
theorem Box2.made (w : World) (u v : Value) (t : TypeId) : Box2 w w.heap.size u v (w.alloc (Obj.cells #[u, v] t)) := ⟨(by repeat (first | exact Below.refl _ _ | refine below_step ?_ (by assumption) | assumption | refine Below.drew ?_ | refine below_drewN ?_ _ | refine below_alloc ?_ _ | refine Below.setCell ?_ (by simp; try omega) _)), by simp [go_sem], by simp [go_sem]⟩

set_option maxRecDepth 100000 in
set_option maxHeartbeats 400000 in
theorem l12Sector_any (d : ByteArray) (st : Int) (n : Nat) (w : World) (hd : d.size ≤ maxLen) (hn : n ≤ 1000000) :
    Calls Try.prog 82 #[.agg #[.string d, .int .i64 st], .int .i64 (n : Int)] w fun e w' => e = .returned (.bool (secB d st n)) ∧ Below w.heap.size w w' := by
  unfold maxLen at hd
  by_cases h1 : d.size = n
  · have g1 : (((d.size : Nat) : Int) != (n : Int)) = false := by simp; omega
    have g1' : (d.size != n) = false := by simp; omega
    cases h2 : inB st 1 4
    · have HR := Lib.hid (sec_2 (d := d) (n := n) h2)
      clear h1
      go_enter Try.func82, Try.ntmps82
      go_wp2_with (go_at_call 68; refine (l00In_any _ _ _ _).mono ?_; rintro e w1 ⟨rfl, rfl⟩; rw [h2])
      go_ret
      exact ⟨ret_bool HR.out.symm, (by repeat (first | exact Below.refl _ _ | refine below_step ?_ (by assumption) | assumption | refine Below.drew ?_ | refine below_drewN ?_ _ | refine below_alloc ?_ _ | refine Below.setCell ?_ (by simp; try omega) _))⟩
    · by_cases h3 : st = 3
      · have HR := Lib.hid (sec_4 h1 h2 h3)
        have h2' : inB 3 1 4 = true := rfl
        subst h3
        clear h1
        go_enter Try.func82, Try.ntmps82
        go_wp2_with (go_at_call 68; refine (l00In_any _ _ _ _).mono ?_; rintro e w1 ⟨rfl, rfl⟩; rw [h2'])
        have hS := Box2.made w (.string d) (.int .i64 3) 46
        generalize (w.alloc (Obj.cells #[Value.string d, Value.int IntKind.i64 3] 46)) = wb at *
        obtain ⟨hS0, hS1, hS2⟩ := id hS
        go_region_held3 (fun W => Below w.heap.size w W ∧ W.cell? ⟨w.heap.size, 0, none⟩ = some (.string d) ∧ W.cell? ⟨w.heap.size, 1, none⟩ = some (.int .i64 3)) (first | exact hS.drew | exact hS.drew.next hx) (first | (go_at_call 72; refine (l01Zeros_any _ _ hn).mono ?_; rintro e w1 ⟨rfl, hx⟩))
        go_wp2
        go_ret
        exact ⟨ret_bool HR.out.symm, (hS.drew.next hx).1⟩
      · have HR := Lib.hid (sec_3 h1 h2 h3)
        clear h1
        have g3 : (st != 3) = true := by simp [h3]
        go_enter Try.func82, Try.ntmps82
        go_wp2_with (go_at_call 68; refine (l00In_any _ _ _ _).mono ?_; rintro e w1 ⟨rfl, rfl⟩; rw [h2])
        go_quiet (fail)
        go_wp2
        go_ret
        exact ⟨ret_bool HR.out.symm, (by repeat (first | exact Below.refl _ _ | refine below_step ?_ (by assumption) | assumption | refine Below.drew ?_ | refine below_drewN ?_ _ | refine below_alloc ?_ _ | refine Below.setCell ?_ (by simp; try omega) _))⟩
  · have g1 : (((d.size : Nat) : Int) != (n : Int)) = true := by simp; omega
    have g1' : (d.size != n) = true := by simp; omega
    have HR := Lib.hid (sec_1 (st := st) h1)
    clear h1
    go_enter Try.func82, Try.ntmps82
    go_wp2
    go_ret
    exact ⟨ret_bool HR.out.symm, (by repeat (first | exact Below.refl _ _ | refine below_step ?_ (by assumption) | assumption | refine Below.drew ?_ | refine below_drewN ?_ _ | refine below_alloc ?_ _ | refine Below.setCell ?_ (by simp; try omega) _))⟩

set_option maxRecDepth 100000 in
set_option maxHeartbeats 400000 in
theorem validSector_any (d : ByteArray) (st s : Int) (n : Nat) (w : World) (hd : d.size ≤ maxLen) (h0 : 0 ≤ s) (h2s : s ≤ 2) (hz : szB s = (n : Int)) (hn : n ≤ 1000000) :
    Calls Try.prog 62 #[.agg #[.string d, .int .i64 st], .int .i64 s] w fun e w' => e = .returned (.bool (secB d st n)) ∧ Below w.heap.size w w' := by
  unfold maxLen at hd
  have hsz := fun W => sizeBytes_any s h0 h2s W
  rw [hz] at hsz
  cases h2 : inB st 1 4
  · have HR := Lib.hid (sec_2 (d := d) (n := n) h2)
    go_enter Try.func62, Try.ntmps62
    go_wp2_with fail
    go_quiet ((first | (go_at_call 54; exact quiet_left (within_any _ _ _ _)) | (go_at_call 61; exact quiet_left (hsz _))))
    simp only [h2]
    go_wp2
    go_ret
    exact ⟨ret_bool HR.out.symm, (by repeat (first | exact Below.refl _ _ | refine below_step ?_ (by assumption) | assumption | refine Below.drew ?_ | refine below_drewN ?_ _ | refine below_alloc ?_ _ | refine Below.setCell ?_ (by simp; try omega) _))⟩
  · by_cases h1 : d.size = n
    · have g1 : (((d.size : Nat) : Int) != (n : Int)) = false := by simp; omega
      have g1' : (d.size != n) = false := by simp; omega
      by_cases h3 : st = 3
      · have HR := Lib.hid (sec_4 h1 h2 h3)
        have h2' : inB 3 1 4 = true := rfl
        subst h3
        clear h1
        go_enter Try.func62, Try.ntmps62
        go_wp2_with fail
        go_quiet ((first | (go_at_call 54; exact quiet_left (within_any _ _ _ _)) | (go_at_call 61; exact quiet_left (hsz _))))
        simp only [h2']
        go_wp2_with fail
        have hS := (Box2.made w (.string d) (.int .i64 3) 46).drewN nq
        generalize ((w.alloc (Obj.cells #[Value.string d, Value.int IntKind.i64 3] 46)).drewN nq) = wb at *
        obtain ⟨hS0, hS1, hS2⟩ := id hS
        go_region_held3 (fun W => Below w.heap.size w W ∧ W.cell? ⟨w.heap.size, 0, none⟩ = some (.string d) ∧ W.cell? ⟨w.heap.size, 1, none⟩ = some (.int .i64 3)) (first | exact hS.drew | exact hS.drew.next hx) (first | (go_at_call 61; refine (hsz _).mono ?_; rintro e w1 ⟨rfl, rfl⟩) | (go_at_call 84; refine (zeros_any _ _ hn).mono ?_; rintro e w1 ⟨rfl, hx⟩))
        go_wp2
        go_ret
        exact ⟨ret_bool HR.out.symm, (hS.drew.next hx).1⟩
      · have HR := Lib.hid (sec_3 h1 h2 h3)
        clear h1
        have g3 : (st != 3) = true := by simp [h3]
        go_enter Try.func62, Try.ntmps62
        go_wp2_with fail
        go_quiet ((first | (go_at_call 54; exact quiet_left (within_any _ _ _ _)) | (go_at_call 61; exact quiet_left (hsz _))))
        simp only [h2]
        go_wp2_with fail
        go_quiet (fail)
        go_wp2
        go_ret
        exact ⟨ret_bool HR.out.symm, (by repeat (first | exact Below.refl _ _ | refine below_step ?_ (by assumption) | assumption | refine Below.drew ?_ | refine below_drewN ?_ _ | refine below_alloc ?_ _ | refine Below.setCell ?_ (by simp; try omega) _))⟩
    · have g1 : (((d.size : Nat) : Int) != (n : Int)) = true := by simp; omega
      have g1' : (d.size != n) = true := by simp; omega
      have HR := Lib.hid (sec_1 (st := st) h1)
      clear h1
      go_enter Try.func62, Try.ntmps62
      go_wp2_with fail
      go_quiet ((first | (go_at_call 54; exact quiet_left (within_any _ _ _ _)) | (go_at_call 61; exact quiet_left (hsz _))))
      simp only [h2]
      go_wp2
      go_ret
      exact ⟨ret_bool HR.out.symm, (by repeat (first | exact Below.refl _ _ | refine below_step ?_ (by assumption) | assumption | refine Below.drew ?_ | refine below_drewN ?_ _ | refine below_alloc ?_ _ | refine Below.setCell ?_ (by simp; try omega) _))⟩
end Go.Proofs.Ytemppogailpoiaa
