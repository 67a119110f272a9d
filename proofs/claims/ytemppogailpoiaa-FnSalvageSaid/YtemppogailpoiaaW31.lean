/- Walks: valid discs. -/
import Derived.Test.YtemppogailpoiaaW30
import Derived.Test.YtemppogailpoiaaSDisc
namespace Go.Proofs.Ytemppogailpoiaa
open Go.RowKit
set_option linter.unusedVariables false

/-- A disc lies in block g. -/
def DP (w : World) (g : Nat) (c h p s : Int) (v : Value) : Prop :=
  w.cell? ⟨g, 0, none⟩ = some (.int .i64 c) ∧ w.cell? ⟨g, 1, none⟩ = some (.int .i64 h) ∧ w.cell? ⟨g, 2, none⟩ = some (.int .i64 p) ∧ w.cell? ⟨g, 3, none⟩ = some (.int .i64 s) ∧ w.cell? ⟨g, 4, none⟩ = some v
theorem DP.below {w w' : World} {g : Nat} {c h p s : Int} {v : Value} {B : Nat} (d : DP w g c h p s v) (hx : Below B w w') (hg : g < B) : DP w' g c h p s v :=
  ⟨(hx.cell (p := ⟨g, 0, none⟩) hg).trans d.1, (hx.cell (p := ⟨g, 1, none⟩) hg).trans d.2.1, (hx.cell (p := ⟨g, 2, none⟩) hg).trans d.2.2.1, (hx.cell (p := ⟨g, 3, none⟩) hg).trans d.2.2.2.1, (hx.cell (p := ⟨g, 4, none⟩) hg).trans d.2.2.2.2⟩
theorem DP.lt {w : World} {g : Nat} {c h p s : Int} {v : Value} (d : DP w g c h p s v) : g < w.heap.size := (cell_spot d.1).2
theorem DP.made (w : World) (c h p s : Int) (v : Value) (t : TypeId) : DP (w.alloc (.cells #[.int .i64 c, .int .i64 h, .int .i64 p, .int .i64 s, v] t)) w.heap.size c h p s v :=
  ⟨by simp [go_sem], by simp [go_sem], by simp [go_sem], by simp [go_sem], by simp [go_sem]⟩
theorem DP.drewN {w : World} {g : Nat} {c h p s : Int} {v : Value} (d : DP w g c h p s v) (k : Nat) : DP (w.drewN k) g c h p s v := d
theorem DP.drew {w : World} {g : Nat} {c h p s : Int} {v : Value} (d : DP w g c h p s v) : DP w.drew g c h p s v := d
theorem DP.alloc {w : World} {g : Nat} {c h p s : Int} {v : Value} (d : DP w g c h p s v) (o : Obj) : DP (w.alloc o) g c h p s v :=
  ⟨(World.cell?_alloc_lt w o ⟨g, 0, none⟩ d.lt).trans d.1, (World.cell?_alloc_lt w o ⟨g, 1, none⟩ d.lt).trans d.2.1, (World.cell?_alloc_lt w o ⟨g, 2, none⟩ d.lt).trans d.2.2.1, (World.cell?_alloc_lt w o ⟨g, 3, none⟩ d.lt).trans d.2.2.2.1, (World.cell?_alloc_lt w o ⟨g, 4, none⟩ d.lt).trans d.2.2.2.2⟩
theorem DP.next {w w' : World} {g : Nat} {c h p s : Int} {v : Value} (d : DP w g c h p s v) (hx : Below w.heap.size w w') : DP w' g c h p s v := d.below hx d.lt
/-- What a region that reads two discs holds on to. -/
theorem DPS2 {w W : World} {g g' : Nat} {c h p s c' h' p' s' : Int} {v v' : Value} (hB : Below w.heap.size w W) (d : DP W g c h p s v) (e : DP W g' c' h' p' s' v') :
    Below w.heap.size w W ∧ W.cell? ⟨g, 0, none⟩ = some (.int .i64 c) ∧ W.cell? ⟨g, 1, none⟩ = some (.int .i64 h) ∧ W.cell? ⟨g, 2, none⟩ = some (.int .i64 p) ∧ W.cell? ⟨g, 3, none⟩ = some (.int .i64 s) ∧ W.cell? ⟨g, 4, none⟩ = some v ∧
      W.cell? ⟨g', 0, none⟩ = some (.int .i64 c') ∧ W.cell? ⟨g', 1, none⟩ = some (.int .i64 h') ∧ W.cell? ⟨g', 2, none⟩ = some (.int .i64 p') ∧ W.cell? ⟨g', 3, none⟩ = some (.int .i64 s') ∧ W.cell? ⟨g', 4, none⟩ = some v' :=
  ⟨hB, d.1, d.2.1, d.2.2.1, d.2.2.2.1, d.2.2.2.2, e.1, e.2.1, e.2.2.1, e.2.2.2.1, e.2.2.2.2⟩

def secX (s : Int) (x : DSector) : Bool := secB x.f0 x.f1 (szB s).toNat
def okD (c h p s : Int) (l : List DSector) : Bool := geoB c h p s && decide ((l.length : Int) = c * h * p) && l.all (secX s)
theorem okD_1 {c h p s : Int} {l : List DSector} (g : geoB c h p s = false) : okD c h p s l = false := by simp [okD, g]
theorem okD_2 {c h p s : Int} {l : List DSector} (g : ¬ (l.length : Int) = c * h * p) : okD c h p s l = false := by simp [okD, g]
theorem okD_bad {c h p s : Int} {l : List DSector} (k : Nat) (hk : k < l.length) (g : secX s l[k] = false) : okD c h p s l = false := by
  have : l.all (secX s) = false := by
    rw [List.all_eq_false]
    exact ⟨l[k], List.getElem_mem hk, by simp [g]⟩
  simp [okD, this]
theorem okD_all {c h p s : Int} {l : List DSector} (g1 : geoB c h p s = true) (g2 : (l.length : Int) = c * h * p) (g : ∀ k, (hk : k < l.length) → secX s l[k] = true) : okD c h p s l = true := by
  simp only [okD, g1, Bool.true_and, Bool.and_eq_true, decide_eq_true_eq, List.all_eq_true]
  refine ⟨g2, fun x hx => ?_⟩
  obtain ⟨k, hk, rfl⟩ := List.getElem_of_mem hx
  exact g k hk
theorem okD_geo {c h p s : Int} {l : List DSector} (g : okD c h p s l = true) : geoB c h p s = true ∧ (l.length : Int) = c * h * p ∧ ∀ k, (hk : k < l.length) → secX s l[k] = true := by
  simp only [okD, Bool.and_eq_true, decide_eq_true_eq, List.all_eq_true] at g
  exact ⟨g.1.1, g.1.2, fun k hk => g.2 _ (List.getElem_mem hk)⟩
theorem prod2 {c h : Int} (a : 1 ≤ c) (b : c ≤ 8) (d : 1 ≤ h) (e : h ≤ 2) : 1 ≤ c * h ∧ c * h ≤ 16 := by
  have : h = 1 ∨ h = 2 := by omega
  rcases this with rfl | rfl <;> omega
theorem prod3 {m p : Int} (a : 1 ≤ m) (b : m ≤ 16) (d : 1 ≤ p) (e : p ≤ 8) : 1 ≤ m * p ∧ m * p ≤ 128 := by
  have : p = 1 ∨ p = 2 ∨ p = 3 ∨ p = 4 ∨ p = 5 ∨ p = 6 ∨ p = 7 ∨ p = 8 := by omega
  rcases this with rfl | rfl | rfl | rfl | rfl | rfl | rfl | rfl <;> omega
theorem szB_nat {s : Int} (a : 0 ≤ s) (b : s ≤ 2) : ∃ n : Nat, szB s = (n : Int) ∧ n ≤ 32 ∧ 8 ≤ n ∧ (szB s).toNat = n := by
  have : s = 0 ∨ s = 1 ∨ s = 2 := by omega
  rcases this with rfl | rfl | rfl
  · exact ⟨8, by decide, by decide, by decide, by decide⟩
  · exact ⟨16, by decide, by decide, by decide, by decide⟩
  · exact ⟨32, by decide, by decide, by decide, by decide⟩

set_option maxRecDepth 100000 in
set_option maxHeartbeats 1000000 in
theorem l12Ok_any (g : Nat) (c h p s : Int) (A : Option Addr) (cp : Nat) (l : List DSector) (w : World) (hd : DP w g c h p s (.slice A l.length cp)) (hr : Rd w w.heap.size 2 A l.length (flat fSector l)) (hn : l.length ≤ 1048576) (hok : ∀ x ∈ l, okSector x) :
    Calls Try.prog 50 #[.pointer (some ⟨g, 0, none⟩)] w fun e w' => e = .returned (.bool (okD c h p s l)) ∧ Below w.heap.size w w' := by
  obtain ⟨d0, d1, d2, d3, d4⟩ := id hd
  cases hg : geoB c h p s
  · have HR := Lib.hid (okD_1 (l := l) hg)
    go_enter Try.func50, Try.ntmps50
    go_wp2_with fail
    go_quiet ((go_at_call 81; exact quiet_left (l12Geometry_any _ _ _ _ _)))
    simp only [hg]
    go_wp2
    go_ret
    exact ⟨ret_bool HR.out.symm, (by repeat (first | exact Below.refl _ _ | refine below_step ?_ (by assumption) | assumption | refine Below.drew ?_ | refine below_drewN ?_ _ | refine below_alloc ?_ _ | refine Below.setCell ?_ (by simp; try omega) _))⟩
  · obtain ⟨c1, c2, h1, h2, p1, p2, s1, s2⟩ := geoB_yes hg
    obtain ⟨m1, m2⟩ := prod2 c1 c2 h1 h2
    obtain ⟨q1, q2⟩ := prod3 m1 m2 p1 p2
    by_cases hl : (l.length : Int) = c * h * p
    · obtain ⟨nb, z1, z2, z3, z4⟩ := szB_nat s1 s2
      have hby := fun W => l12Bytes_any s s1 s2 W
      rw [z1] at hby
      have HZ := Lib.hid z4
      clear z1 z4
      have HA := Lib.hid (fun g => okD_all (c := c) (h := h) (p := p) (s := s) (l := l) hg hl g)
      have HB := Lib.hid (fun k hk g => okD_bad (c := c) (h := h) (p := p) (s := s) (l := l) k hk g)
      have hw1 : wrap64 (c * h) = c * h := IntWalk.wrap64_in _ ⟨by omega, by omega⟩
      have hw2 : wrap64 (c * h * p) = c * h * p := IntWalk.wrap64_in _ ⟨by omega, by omega⟩
      have gl : (((l.length : Nat) : Int) != c * h * p) = false := by simp [hl]
      clear hl
      go_enter Try.func50, Try.ntmps50
      go_wp2_with fail
      go_quiet ((go_at_call 81; exact quiet_left (l12Geometry_any _ _ _ _ _)))
      simp only [hg]
      go_wp2_with fail
      go_loopw [3] (fun i wr => ∃ k : Nat, k ≤ l.length ∧ i = .int .i64 k ∧ Below w.heap.size w wr ∧ Hid (∀ j, (hj : j < k) → (hj' : j < l.length) → secX s l[j] = true)) (fun i _ => l.length - (intOf i).toNat)
      case atStart => exact ⟨0, Nat.zero_le _, rfl, (by repeat (first | exact Below.refl _ _ | refine below_step ?_ (by assumption) | assumption | refine Below.drew ?_ | refine below_drewN ?_ _ | refine below_alloc ?_ _ | refine Below.setCell ?_ (by simp; try omega) _)), Lib.hid (fun j hj => absurd hj (by omega))⟩
      case round =>
        obtain ⟨k, hk, rfl, hb, HI⟩ := hrel
        obtain ⟨e0, e1, e2, e3, e4⟩ := hd.below hb hd.lt
        by_cases hlt : k < l.length
        · obtain ⟨b, off, rfl, hbb, hc⟩ := (hr.below hb).at_ fSector_len rfl k hlt
          have hokk := hok l[k] (List.getElem_mem hlt)
          have hc0 := hc 0 _ (by omega) rfl
          have hc1 := hc 1 _ (by omega) rfl
          clear hc
          simp only [← Nat.add_assoc, Nat.add_zero] at hc0 hc1
          cases hs : secX s l[k]
          · have HR := Lib.hid (HB.out k hlt hs)
            have HS := Lib.hid (show secB l[k].f0 l[k].f1 nb = false from by rw [← HZ.out]; exact hs)
            clear hs
            go_wp2_with fail
            refine wp_region_still_tail 12 (by kernel_rfl) (by kernel_rfl) ?_
            simp only [List.take_succ_cons, List.take_zero, List.drop_succ_cons, List.drop_zero]
            repeat (first | still_step | still_call (calls_flip (hby _)))
            refine wpStill_nil ?_
            change wpList _ _ _ _ _ wr.drew
            replace hb := Below.drew hb
            generalize wr.drew = w2 at hb ⊢
            go_wp2_with (go_at_call 82; refine (l12Sector_any l[k].f0 l[k].f1 nb _ hokk.1 (by omega)).mono ?_; rintro e w1 ⟨rfl, hx⟩; rw [HS.out]; replace hb := below_step hb hx)
            go_ret
            exact ⟨ret_bool HR.out.symm, hb⟩
          · have HN := Lib.hid (show ∀ j, (hj : j < k + 1) → (hj' : j < l.length) → secX s l[j] = true from fun j hj hj' => by
              rcases Nat.lt_or_ge j k with h1 | h1
              · exact HI.out j h1 hj'
              · obtain rfl : j = k := by omega
                exact hs)
            have HS := Lib.hid (show secB l[k].f0 l[k].f1 nb = true from by rw [← HZ.out]; exact hs)
            clear hs
            go_wp2_with fail
            refine wp_region_still_tail 12 (by kernel_rfl) (by kernel_rfl) ?_
            simp only [List.take_succ_cons, List.take_zero, List.drop_succ_cons, List.drop_zero]
            repeat (first | still_step | still_call (calls_flip (hby _)))
            refine wpStill_nil ?_
            change wpList _ _ _ _ _ wr.drew
            replace hb := Below.drew hb
            generalize wr.drew = w2 at hb ⊢
            go_wp2_with (go_at_call 82; refine (l12Sector_any l[k].f0 l[k].f1 nb _ hokk.1 (by omega)).mono ?_; rintro e w1 ⟨rfl, hx⟩; rw [HS.out]; replace hb := below_step hb hx)
            go_roundw
            case rel => exact ⟨k + 1, by omega, by go_num, hb, HN⟩
            case measure => (simp [intOf] <;> omega)
        · have HR := Lib.hid (HA.out (fun j hj => HI.out j (by omega) hj))
          go_wp2
          go_ret
          exact ⟨ret_bool HR.out.symm, hb⟩
    · have HR := Lib.hid (okD_2 (s := s) hl)
      have hw1 : wrap64 (c * h) = c * h := IntWalk.wrap64_in _ ⟨by omega, by omega⟩
      have hw2 : wrap64 (c * h * p) = c * h * p := IntWalk.wrap64_in _ ⟨by omega, by omega⟩
      have gl : (((l.length : Nat) : Int) != c * h * p) = true := by simp [hl]
      clear hl
      go_enter Try.func50, Try.ntmps50
      go_wp2_with fail
      go_quiet ((go_at_call 81; exact quiet_left (l12Geometry_any _ _ _ _ _)))
      simp only [hg]
      go_wp2
      go_ret
      exact ⟨ret_bool HR.out.symm, (by repeat (first | exact Below.refl _ _ | refine below_step ?_ (by assumption) | assumption | refine Below.drew ?_ | refine below_drewN ?_ _ | refine below_alloc ?_ _ | refine Below.setCell ?_ (by simp; try omega) _))⟩
end Go.Proofs.Ytemppogailpoiaa
