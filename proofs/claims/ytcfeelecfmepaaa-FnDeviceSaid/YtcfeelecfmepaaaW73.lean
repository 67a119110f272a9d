/- Walks: ReadDeviceBlock. -/
import Derived.Test.YtcfeelecfmepaaaW72
import Derived.Deep.RegionHeld3
namespace Go.Proofs.Ytcfeelecfmepaaa
open Go.RowKit
set_option linter.unusedVariables false

def rdB (st : Int) : Bool := decide (st = 1) || decide (st = 4)
def rdD (ok : Bool) (l : List DSector) (m : List Int) (b : Int) : ByteArray × Int :=
  if ok then (if inB b 0 ((m.length : Int) - 1) then (if rdB (l.getD (m.getD b.toNat 0).toNat noSec).f1 then ((l.getD (m.getD b.toNat 0).toNat noSec).f0, 0) else (⟨#[]⟩, 10)) else (⟨#[]⟩, 2)) else (⟨#[]⟩, 1)
theorem rdD_1 {l : List DSector} {m : List Int} {b : Int} : rdD false l m b = (⟨#[]⟩, 1) := rfl
theorem rdD_2 {l : List DSector} {m : List Int} {b : Int} (h : inB b 0 ((m.length : Int) - 1) = false) : rdD true l m b = (⟨#[]⟩, 2) := by simp [rdD, h]
theorem rdD_3 {l : List DSector} {m : List Int} {B X : Nat} (h : inB (B : Int) 0 ((m.length : Int) - 1) = true) (hb : B < m.length) (hx : m[B] = (X : Int)) (hX : X < l.length) (g : rdB l[X].f1 = false) : rdD true l m B = (⟨#[]⟩, 10) := by
  simp [rdD, h, hb, hx, hX, g]
theorem rdD_4 {l : List DSector} {m : List Int} {B X : Nat} (h : inB (B : Int) 0 ((m.length : Int) - 1) = true) (hb : B < m.length) (hx : m[B] = (X : Int)) (hX : X < l.length) (g : rdB l[X].f1 = true) : rdD true l m B = (l[X].f0, 0) := by
  simp [rdD, h, hb, hx, hX, g]
set_option maxRecDepth 100000 in
set_option maxHeartbeats 1000000 in
theorem l15Readable_any (d : ByteArray) (st : Int) (w : World) : Calls Try.prog 50 #[.agg #[.string d, .int .i64 st]] w fun e w' => e = .returned (.bool (rdB st)) ∧ Below w.heap.size w w' := by
  by_cases h1 : st = 1
  · have HR := Lib.hid (show rdB st = true by simp [rdB, h1])
    subst h1
    go_enter Try.func50, Try.ntmps50
    go_wp2
    go_ret
    exact ⟨ret_bool HR.out.symm, (by with_reducible repeat (first | exact Below.refl _ _ | assumption | refine below_step ?_ (by assumption) | refine Below.drew ?_ | refine below_drewN ?_ _ | refine below_alloc ?_ _ | refine Below.setCell ?_ (by simp; try omega) _))⟩
  have c1 : (st == 1) = false := by simp [h1]
  by_cases h4 : st = 4
  · have HR := Lib.hid (show rdB st = true by simp [rdB, h4])
    subst h4
    go_enter Try.func50, Try.ntmps50
    go_wp2
    go_ret
    exact ⟨ret_bool HR.out.symm, (by with_reducible repeat (first | exact Below.refl _ _ | assumption | refine below_step ?_ (by assumption) | refine Below.drew ?_ | refine below_drewN ?_ _ | refine below_alloc ?_ _ | refine Below.setCell ?_ (by simp; try omega) _))⟩
  have HR := Lib.hid (show rdB st = false by simp [rdB, h1, h4])
  have c4 : (st == 4) = false := by simp [h4]
  go_enter Try.func50, Try.ntmps50
  go_wp2
  go_ret
  exact ⟨ret_bool HR.out.symm, (by with_reducible repeat (first | exact Below.refl _ _ | assumption | refine below_step ?_ (by assumption) | refine Below.drew ?_ | refine below_drewN ?_ _ | refine below_alloc ?_ _ | refine Below.setCell ?_ (by simp; try omega) _))⟩
set_option maxRecDepth 100000 in
set_option maxHeartbeats 1000000 in
theorem isRead_any (d : ByteArray) (st : Int) (w : World) : Calls Try.prog 23 #[.agg #[.string d, .int .i64 st]] w fun e w' => e = .returned (.bool (rdB st)) ∧ Below w.heap.size w w' := by
  by_cases h1 : st = 1
  · have HR := Lib.hid (show rdB st = true by simp [rdB, h1])
    subst h1
    go_enter Try.func23, Try.ntmps23
    go_wp2
    go_ret
    exact ⟨ret_bool HR.out.symm, (by with_reducible repeat (first | exact Below.refl _ _ | assumption | refine below_step ?_ (by assumption) | refine Below.drew ?_ | refine below_drewN ?_ _ | refine below_alloc ?_ _ | refine Below.setCell ?_ (by simp; try omega) _))⟩
  have c1 : (st == 1) = false := by simp [h1]
  by_cases h4 : st = 4
  · have HR := Lib.hid (show rdB st = true by simp [rdB, h4])
    subst h4
    go_enter Try.func23, Try.ntmps23
    go_wp2
    go_ret
    exact ⟨ret_bool HR.out.symm, (by with_reducible repeat (first | exact Below.refl _ _ | assumption | refine below_step ?_ (by assumption) | refine Below.drew ?_ | refine below_drewN ?_ _ | refine below_alloc ?_ _ | refine Below.setCell ?_ (by simp; try omega) _))⟩
  have HR := Lib.hid (show rdB st = false by simp [rdB, h1, h4])
  have c4 : (st == 4) = false := by simp [h4]
  go_enter Try.func23, Try.ntmps23
  go_wp2
  go_ret
  exact ⟨ret_bool HR.out.symm, (by with_reducible repeat (first | exact Below.refl _ _ | assumption | refine below_step ?_ (by assumption) | refine Below.drew ?_ | refine below_drewN ?_ _ | refine below_alloc ?_ _ | refine Below.setCell ?_ (by simp; try omega) _))⟩
set_option maxRecDepth 100000 in
set_option maxHeartbeats 1000000 in
theorem impl_ReadDeviceBlock_any (c h p s : Int) (A : Option Addr) (cp : Nat) (l : List DSector) (k r : Int) (N : Option Addr) (q : Nat) (m : List Int) (b : Int) (w : World) (hr : Rd w w.heap.size 2 A l.length (flat fSector l)) (hn : l.length ≤ 1048576) (hok : ∀ x ∈ l, okSector x) (kr : Rd w w.heap.size 1 N m.length (flat fI m)) (kn : m.length ≤ 1048576) (hqc : m.length ≤ q) :
    Calls Try.prog 7 #[.agg #[.int .i64 c, .int .i64 h, .int .i64 p, .int .i64 s, .slice A l.length cp, .int .i64 k, .int .i64 r, .slice N m.length q], .int .i64 b] w fun e w' => e = .returned (.tuple #[.string (rdD (okV (okD c h p s l) l.length k r m) l m b).1, .int .i64 (rdD (okV (okD c h p s l) l.length k r m) l m b).2]) ∧ Below w.heap.size w w' := by
  have hd := CP.made w [.int .i64 c, .int .i64 h, .int .i64 p, .int .i64 s, .slice A l.length cp, .int .i64 k, .int .i64 r, .slice N m.length q] 29
  have hb0 : Below w.heap.size w (w.alloc (.cells #[.int .i64 c, .int .i64 h, .int .i64 p, .int .i64 s, .slice A l.length cp, .int .i64 k, .int .i64 r, .slice N m.length q] 29)) := (by with_reducible repeat (first | exact Below.refl _ _ | assumption | refine below_step ?_ (by assumption) | refine Below.drew ?_ | refine below_drewN ?_ _ | refine below_alloc ?_ _ | refine Below.setCell ?_ (by simp; try omega) _))
  have hq := checkBlock_any c h p s A cp l k r N q m b (w.alloc (.cells #[.int .i64 c, .int .i64 h, .int .i64 p, .int .i64 s, .slice A l.length cp, .int .i64 k, .int .i64 r, .slice N m.length q] 29)) ((hr.below hb0).more hb0.size) hn hok ((kr.below hb0).more hb0.size) kn hqc
  cases hv : okV (okD c h p s l) l.length k r m
  · rw [hv] at hq
    have HA := Lib.hid (askC_1 (n := m.length) (b := b))
    have HR := Lib.hid (rdD_1 (l := l) (m := m) (b := b))
    go_enter Try.func7, Try.ntmps7
    go_wp2_with ((go_at_call 20; refine hq.mono ?_; rintro e w1 ⟨rfl, hx⟩; rw [HA.out]; replace hd := hd.next hx; have hB : Below w.heap.size w w1 := (by with_reducible repeat (first | exact Below.refl _ _ | assumption | refine below_step ?_ (by assumption) | refine Below.drew ?_ | refine below_drewN ?_ _ | refine below_alloc ?_ _ | refine Below.setCell ?_ (by simp; try omega) _))))
    exact bodyPost_ret (v := .tuple #[.string ⟨#[]⟩, .int .i64 1]) (by simp [results, Try.results7, go_sem]) rfl ⟨by rw [HR.out], hB⟩
  have hall := (okV_yes hv).2.2.2.2
  rw [hv] at hq
  clear hv
  cases g1 : inB b 0 ((m.length : Int) - 1)
  · have HA := Lib.hid (askC_2 (n := m.length) g1)
    have HR := Lib.hid (rdD_2 (l := l) (m := m) g1)
    go_enter Try.func7, Try.ntmps7
    go_wp2_with ((go_at_call 20; refine hq.mono ?_; rintro e w1 ⟨rfl, hx⟩; rw [HA.out]; replace hd := hd.next hx; have hB : Below w.heap.size w w1 := (by with_reducible repeat (first | exact Below.refl _ _ | assumption | refine below_step ?_ (by assumption) | refine Below.drew ?_ | refine below_drewN ?_ _ | refine below_alloc ?_ _ | refine Below.setCell ?_ (by simp; try omega) _))))
    exact bodyPost_ret (v := .tuple #[.string ⟨#[]⟩, .int .i64 2]) (by simp [results, Try.results7, go_sem]) rfl ⟨by rw [HR.out], hB⟩
  have HA := Lib.hid (askC_3 (n := m.length) g1)
  obtain ⟨b0, b1⟩ := inB_yes g1
  obtain ⟨B, rfl⟩ : ∃ B : Nat, b = (B : Int) := ⟨b.toNat, by omega⟩
  have hlt : B < m.length := by omega
  have hlti : (B : Int) < (m.length : Int) := by omega
  obtain ⟨x0, x1⟩ := hall m[B] (List.getElem_mem hlt)
  obtain ⟨X, hX⟩ : ∃ X : Nat, m[B] = (X : Int) := ⟨m[B].toNat, by omega⟩
  have hXl : X < l.length := by omega
  have hXi : (X : Int) < (l.length : Int) := by omega
  have H3 := Lib.hid (rdD_3 (l := l) g1 hlt hX hXl)
  have H4 := Lib.hid (rdD_4 (l := l) g1 hlt hX hXl)
  obtain ⟨bb, off, rfl, hbb, hc⟩ := kr.at_ fI_len rfl B hlt
  have hc0 := hc 0 _ (by omega) rfl
  clear hc hall
  simp only [Nat.mul_one, Nat.add_zero] at hc0
  rw [hX] at hc0
  clear hX x0 x1
  obtain ⟨b2, off2, rfl, hb2, hcc⟩ := hr.at_ fSector_len rfl X hXl
  have hs0 := hcc 0 _ (by omega) rfl
  have hs1 := hcc 1 _ (by omega) rfl
  clear hcc
  simp only [← Nat.add_assoc, Nat.add_zero] at hs0 hs1
  generalize l[X].f0 = dat at hs0 H3 H4
  generalize l[X].f1 = st at hs0 hs1 H3 H4
  cases g : rdB st
  · go_enter Try.func7, Try.ntmps7
    go_wp2_with ((go_at_call 20; refine hq.mono ?_; rintro e w1 ⟨rfl, hx⟩; rw [HA.out]; replace hd := hd.next hx; have hB : Below w.heap.size w w1 := (by with_reducible repeat (first | exact Below.refl _ _ | assumption | refine below_step ?_ (by assumption) | refine Below.drew ?_ | refine below_drewN ?_ _ | refine below_alloc ?_ _ | refine Below.setCell ?_ (by simp; try omega) _)); have e0 := (hB.cell (p := ⟨bb, off + B, none⟩) hbb).trans hc0; have e1 := (hB.cell (p := ⟨b2, off2 + X * 2, none⟩) hb2).trans hs0; have e2 := (hB.cell (p := ⟨b2, off2 + X * 2 + 1, none⟩) hb2).trans hs1; have d4 : (_ : Option Value) = some (.slice (some ⟨b2, off2, none⟩) l.length cp) := hd 4 (by simp); have d7 : (_ : Option Value) = some (.slice (some ⟨bb, off, none⟩) m.length q) := hd 7 (by simp); have n0 := World.new_ne w1 _ e0; have n1 := World.new_ne w1 _ e1; have n2 := World.new_ne w1 _ e2; have n3 := World.new_ne w1 _ d4; have n4 := World.new_ne w1 _ d7))
    go_region_held3 (fun W => W.cell? ⟨bb, off + B, none⟩ = some (.int .i64 (X : Int)) ∧ W.cell? ⟨b2, off2 + X * 2, none⟩ = some (.string dat) ∧ W.cell? ⟨b2, off2 + X * 2 + 1, none⟩ = some (.int .i64 st) ∧ W.cell? ⟨w.heap.size, 4, none⟩ = some (.slice (some ⟨b2, off2, none⟩) l.length cp) ∧ W.cell? ⟨w.heap.size, 7, none⟩ = some (.slice (some ⟨bb, off, none⟩) m.length q)) (go_keep) (fail)
    go_wp2_with (go_at_call 23; refine (isRead_any dat st _).mono ?_; rintro e w3 ⟨rfl, hx3⟩; rw [g]; obtain ⟨hc9, hf9⟩ := bcell hx3)
    exact bodyPost_ret (v := .tuple #[.string ⟨#[]⟩, .int .i64 10]) (by simp [results, Try.results7, go_sem]) rfl ⟨by rw [H3.out g], (by with_reducible repeat (first | exact Below.refl _ _ | assumption | refine below_step ?_ (by assumption) | refine Below.drew ?_ | refine below_drewN ?_ _ | refine below_alloc ?_ _ | refine Below.setCell ?_ (by simp; try omega) _))⟩
  go_enter Try.func7, Try.ntmps7
  go_wp2_with ((go_at_call 20; refine hq.mono ?_; rintro e w1 ⟨rfl, hx⟩; rw [HA.out]; replace hd := hd.next hx; have hB : Below w.heap.size w w1 := (by with_reducible repeat (first | exact Below.refl _ _ | assumption | refine below_step ?_ (by assumption) | refine Below.drew ?_ | refine below_drewN ?_ _ | refine below_alloc ?_ _ | refine Below.setCell ?_ (by simp; try omega) _)); have e0 := (hB.cell (p := ⟨bb, off + B, none⟩) hbb).trans hc0; have e1 := (hB.cell (p := ⟨b2, off2 + X * 2, none⟩) hb2).trans hs0; have e2 := (hB.cell (p := ⟨b2, off2 + X * 2 + 1, none⟩) hb2).trans hs1; have d4 : (_ : Option Value) = some (.slice (some ⟨b2, off2, none⟩) l.length cp) := hd 4 (by simp); have d7 : (_ : Option Value) = some (.slice (some ⟨bb, off, none⟩) m.length q) := hd 7 (by simp); have n0 := World.new_ne w1 _ e0; have n1 := World.new_ne w1 _ e1; have n2 := World.new_ne w1 _ e2; have n3 := World.new_ne w1 _ d4; have n4 := World.new_ne w1 _ d7))
  go_region_held3 (fun W => W.cell? ⟨bb, off + B, none⟩ = some (.int .i64 (X : Int)) ∧ W.cell? ⟨b2, off2 + X * 2, none⟩ = some (.string dat) ∧ W.cell? ⟨b2, off2 + X * 2 + 1, none⟩ = some (.int .i64 st) ∧ W.cell? ⟨w.heap.size, 4, none⟩ = some (.slice (some ⟨b2, off2, none⟩) l.length cp) ∧ W.cell? ⟨w.heap.size, 7, none⟩ = some (.slice (some ⟨bb, off, none⟩) m.length q)) (go_keep) (fail)
  go_wp2_with (go_at_call 23; refine (isRead_any dat st _).mono ?_; rintro e w3 ⟨rfl, hx3⟩; rw [g]; obtain ⟨hc9, hf9⟩ := bcell hx3)
  exact bodyPost_ret (v := .tuple #[.string dat, .int .i64 0]) (by simp [results, Try.results7, go_sem]) rfl ⟨by rw [H4.out g], (by with_reducible repeat (first | exact Below.refl _ _ | assumption | refine below_step ?_ (by assumption) | refine Below.drew ?_ | refine below_drewN ?_ _ | refine below_alloc ?_ _ | refine Below.setCell ?_ (by simp; try omega) _))⟩
end Go.Proofs.Ytcfeelecfmepaaa
