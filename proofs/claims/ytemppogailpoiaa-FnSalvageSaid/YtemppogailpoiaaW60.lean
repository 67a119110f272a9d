/- Walks: a new disc (impl). -/
import Derived.Test.YtemppogailpoiaaW31
import Derived.Test.YtemppogailpoiaaStep
import Derived.Deep.RegionWith
namespace Go.Proofs.Ytemppogailpoiaa
open Go.RowKit
set_option linter.unusedVariables false

theorem CP.put {w : World} {g : Nat} {vs : List Value} (p : CP w g vs) {a : Addr} (ha : g ≠ a.block) (u : Value) : CP (w.setCell a u) g vs := fun j h =>
  (World.cell?_setCell_other w a ⟨g, j, none⟩ u (by intro e; exact ha (by rw [e]))).trans (p j h)
theorem FillC.far {w : World} {g N m : Nat} {e : TypeId} {xs : List Value} (h : FillC w g e N xs m) {a : Addr} (ha : g ≠ a.block) (u : Value) : FillC (w.setCell a u) g e N xs m := by
  obtain ⟨cs, hg, hr⟩ := h
  exact ⟨cs, (Below.heap_setCell _ _ _ _ (fun e => ha e)).trans hg, hr⟩
theorem FillC.al {w : World} {g N m : Nat} {e : TypeId} {xs : List Value} (h : FillC w g e N xs m) (o : Obj) : FillC (w.alloc o) g e N xs m := h.below (below_alloc (Below.refl _ _) o) h.lt
theorem FillC.of_cells (w : World) (cs : Array Value) (e : TypeId) (xs : List Value) : FillC (w.alloc (.cells cs e)) w.heap.size e cs.size xs 0 := ⟨cs, heap_alloc_new w _, rfl, fun j h => absurd h (by omega)⟩

def miss (n : Nat) : DSector := ⟨zerosB n, 3⟩
def secN (c h p : Int) : Nat := (c * h * p).toNat
def newS (c h p s : Int) : List DSector := List.replicate (secN c h p) (miss (szB s).toNat)
theorem newS_len (c h p s : Int) : (newS c h p s).length = secN c h p := by simp [newS]

set_option maxRecDepth 100000 in
set_option maxHeartbeats 1000000 in
theorem newDisc_any (c h p s : Int) (w : World) (hg : geoB c h p s = true) :
    Calls Try.prog 58 #[.int .i64 c, .int .i64 h, .int .i64 p, .int .i64 s] w fun e w' => ∃ v, e = .returned (.agg #[.int .i64 c, .int .i64 h, .int .i64 p, .int .i64 s, v]) ∧ w'.ownsRow w.heap.size 46 2 v (newS c h p s).length (flat fSector (newS c h p s)) ∧ Below w.heap.size w w' := by
  obtain ⟨c1, c2, h1, h2, p1, p2, s1, s2⟩ := geoB_yes hg
  obtain ⟨m1, m2⟩ := prod2 c1 c2 h1 h2
  obtain ⟨q1, q2⟩ := prod3 m1 m2 p1 p2
  obtain ⟨nb, z1, z2, z3, z4⟩ := szB_nat s1 s2
  obtain ⟨n, hn⟩ : ∃ n : Nat, secN c h p = n := ⟨_, rfl⟩
  have hn2 : c * h * p = (n : Int) := by unfold secN at hn; omega
  have hn3 : n ≤ 128 := by omega
  have hnS : newS c h p s = List.replicate n (miss nb) := by unfold newS; rw [hn, z4]
  rw [hnS]
  have hsz := fun W => sizeBytes_any s s1 s2 W
  rw [z1] at hsz
  have hw1 : wrap64 (c * h) = c * h := IntWalk.wrap64_in _ ⟨by omega, by omega⟩
  have hmk : ∀ W, (Instr.makeSlice 24 (.int .i64 (c * h * p)) (.int .i64 (c * h * p))).run Try.prog W = .ok (.slice (some ⟨W.heap.size, 0, none⟩) n n) (W.alloc (.cells (madeCells (Value.agg #[.string ByteArray.empty, .int .i64 0]).cells (n * 2)) 46)) := fun W => by
    rw [hn2]
    exact eltSector.make n (by omega) (by omega) W
  clear hn hn2 hnS z1 z4 hg
  have hfl := flat_length fSector 2 fSector_len (List.replicate n (miss nb))
  rw [List.length_replicate] at hfl ⊢
  go_enter Try.func58, Try.ntmps58
  go_wp2
  have G0 := ((FillC.of_cells w #[.int .i64 0, .int .i64 0, .int .i64 0, .int .i64 0, .slice none 0 0] 26 []).al (.cells (madeCells (Value.agg #[.string ByteArray.empty, .int .i64 0]).cells (n * 2)) 46)).al (.cells #[.int .i64 c, .int .i64 h, .int .i64 p, .int .i64 s, .slice (some ⟨w.heap.size + 1, 0, none⟩) n n] 26)
  have G1 := (FillC.made (w.alloc (.cells #[.int .i64 0, .int .i64 0, .int .i64 0, .int .i64 0, .slice none 0 0] 26)) 46 (Value.agg #[.string ByteArray.empty, .int .i64 0]).cells (n * 2) (flat fSector (List.replicate n (miss nb)))).al (.cells #[.int .i64 c, .int .i64 h, .int .i64 p, .int .i64 s, .slice (some ⟨w.heap.size + 1, 0, none⟩) n n] 26)
  have G2 := CP.made ((w.alloc (.cells #[.int .i64 0, .int .i64 0, .int .i64 0, .int .i64 0, .slice none 0 0] 26)).alloc (.cells (madeCells (Value.agg #[.string ByteArray.empty, .int .i64 0]).cells (n * 2)) 46)) [.int .i64 c, .int .i64 h, .int .i64 p, .int .i64 s, .slice (some ⟨w.heap.size + 1, 0, none⟩) n n] 26
  rw [World.size_alloc] at G1
  rw [World.size_alloc, World.size_alloc] at G2
  go_loopw [10, 25] (fun _ i wr => ∃ k : Nat, k ≤ n ∧ i = .int .i64 k ∧ FillC wr w.heap.size 26 5 [] 0 ∧ FillC wr (w.heap.size + 1) 46 (n * 2) (flat fSector (List.replicate n (miss nb))) (k * 2) ∧ CP wr (w.heap.size + 1 + 1) [.int .i64 c, .int .i64 h, .int .i64 p, .int .i64 s, .slice (some ⟨w.heap.size + 1, 0, none⟩) n n] ∧ Below w.heap.size w wr) (fun _ i _ => n - (intOf i).toNat)
  case atStart => exact ⟨0, Nat.zero_le _, rfl, G0, G1, G2, (by with_reducible repeat (first | exact Below.refl _ _ | assumption | refine below_step ?_ (by assumption) | refine Below.drew ?_ | refine below_drewN ?_ _ | refine below_alloc ?_ _ | refine Below.setCell ?_ (by simp; try omega) _))⟩
  case round =>
    obtain ⟨k, hk, rfl, F0, F1, D, hb⟩ := hrel
    have hs1 := hb.size
    have d4 : (_ : Option Value) = some (.slice (some ⟨w.heap.size + 1, 0, none⟩) n n) := D 4 (by simp)
    by_cases hlt : k < n
    · have hx0 : (flat fSector (List.replicate n (miss nb)))[k * 2 + 0]? = some (.string (zerosB nb)) := by
        have := flat_get fSector 2 fSector_len (List.replicate n (miss nb)) k 0 (by simpa using hlt) (by omega)
        rw [this, List.getElem_replicate]; rfl
      have hx1 : (flat fSector (List.replicate n (miss nb)))[k * 2 + 1]? = some (.int .i64 3) := by
        have := flat_get fSector 2 fSector_len (List.replicate n (miss nb)) k 1 (by simpa using hlt) (by omega)
        rw [this, List.getElem_replicate]; rfl
      go_wp2_with fail
      go_region_with (first
        | (go_at_call 61; refine (hsz _).mono ?_; rintro e w1 ⟨rfl, rfl⟩)
        | (go_at_call 84; refine (zeros_any nb _ (by omega)).mono ?_; rintro e w1 ⟨rfl, hx⟩; replace F0 := F0.below (Below.drew (Below.refl _ _) |>.trans (hx.mono (Nat.le_refl _))) F0.lt; replace F1 := F1.below (Below.drew (Below.refl _ _) |>.trans (hx.mono (Nat.le_refl _))) F1.lt; replace D := (D.dr).next hx; replace hb := below_step (Below.drew hb) hx; have d4' : (_ : Option Value) = some (.slice (some ⟨w.heap.size + 1, 0, none⟩) n n) := D 4 (by simp); obtain ⟨u0, hu0⟩ := F1.some_ (k * 2 + 0) (by omega); have hfz0 := F1.free (k * 2 + 0); obtain ⟨u1, hu1⟩ := F1.some_ (k * 2 + 1) (by omega); have hfz1 := F1.free (k * 2 + 1); simp only [Nat.add_zero] at hu0 hfz0))
      all_goals
        have hp0 := F1.put _ (by omega) (by simpa using hx0)
        have hp1 := hp0.put _ (by omega) hx1
        go_wp2
        go_roundw
        case rel => exact ⟨k + 1, by omega, by go_num, (F0.far (show w.heap.size ≠ w.heap.size + 1 by omega) _).far (show w.heap.size ≠ w.heap.size + 1 by omega) _, (by rw [show (k + 1) * 2 = k * 2 + 2 by omega]; exact hp1), (D.put (show w.heap.size + 1 + 1 ≠ w.heap.size + 1 by omega) _).put (show w.heap.size + 1 + 1 ≠ w.heap.size + 1 by omega) _, Below.setCell (Below.setCell hb (show w.heap.size ≤ w.heap.size + 1 by omega) _) (show w.heap.size ≤ w.heap.size + 1 by omega) _⟩
        case measure => (simp [intOf] <;> omega)
    · obtain rfl : k = n := by omega
      have hown := F1.own (base := w.heap.size + 1) (size := 2) (n := k) (by omega) (by omega) (Nat.le_refl _) (by simp only [maxLen]; omega)
      have d0 : (_ : Option Value) = some (.int .i64 c) := D 0 (by simp)
      have d1 : (_ : Option Value) = some (.int .i64 h) := D 1 (by simp)
      have d2 : (_ : Option Value) = some (.int .i64 p) := D 2 (by simp)
      have d3 : (_ : Option Value) = some (.int .i64 s) := D 3 (by simp)
      obtain ⟨u0, y0⟩ := F0.some_ 0 (by omega)
      obtain ⟨u1, y1⟩ := F0.some_ 1 (by omega)
      obtain ⟨u2, y2⟩ := F0.some_ 2 (by omega)
      obtain ⟨u3, y3⟩ := F0.some_ 3 (by omega)
      obtain ⟨u4, y4⟩ := F0.some_ 4 (by omega)
      have hfz := fun j => F0.free j
      go_wp2
      refine bodyPost_ret (v := .agg #[.int .i64 c, .int .i64 h, .int .i64 p, .int .i64 s, .slice (some ⟨w.heap.size + 1, 0, none⟩) k k]) (by simp [results, Try.results58, go_sem, World.cell?_setCell_other, y0, y1, y2, y3, y4]) rfl ⟨_, rfl, ?_, ?_⟩
      · refine own_base (base := w.heap.size + 1) ?_ (by omega)
        exact ownsRow_setCell_below (ownsRow_setCell_below (ownsRow_setCell_below (ownsRow_setCell_below (ownsRow_setCell_below hown (by simp) _) (by simp) _) (by simp) _) (by simp) _) (by simp) _
      · exact (by with_reducible repeat (first | exact Below.refl _ _ | assumption | refine below_step ?_ (by assumption) | refine Below.drew ?_ | refine below_drewN ?_ _ | refine below_alloc ?_ _ | refine Below.setCell ?_ (by simp; try omega) _))
end Go.Proofs.Ytemppogailpoiaa
