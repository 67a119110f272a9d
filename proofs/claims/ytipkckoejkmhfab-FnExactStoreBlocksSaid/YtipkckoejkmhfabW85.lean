/- Walks: WriteDeviceBlock. -/
import Derived.Test.YtipkckoejkmhfabW84
namespace Go.Proofs.Ytipkckoejkmhfab
open Go.RowKit
set_option linter.unusedVariables false

/-- The sectors and the map of the answer of WriteDeviceBlock. -/
def wdL (g : Bool) (l : List DSector) (m : List Int) (i : Int) (y : DSector) : List DSector := if g then l.set (m.getD i.toNat 0).toNat y else []
def wdM (g : Bool) (m : List Int) : List Int := if g then m else []
theorem wdL_len (g : Bool) (l : List DSector) (m : List Int) (i : Int) (y : DSector) : (wdL g l m i y).length ≤ l.length := by
  unfold wdL
  split <;> simp
theorem wdM_len (g : Bool) (m : List Int) : (wdM g m).length ≤ m.length := by
  unfold wdM
  split <;> simp
theorem wdL_in {l : List DSector} {m : List Int} {B X : Nat} (hb : B < m.length) (hx : m[B] = (X : Int)) {y : DSector} : wdL true l m (B : Int) y = l.set X y := by
  simp [wdL, hb, hx]
theorem pt_2' {d : Bool} {n : Nat} {i : Int} : ptOk d false n i = false ∧ ptC d false n i = 1 := by cases d <;> simp [ptOk, ptC]
set_option maxRecDepth 100000 in
set_option maxHeartbeats 2000000 in
theorem spec_WriteDeviceBlock_any (c h p s : Int) (A : Option Addr) (cp : Nat) (l : List DSector) (k r : Int) (N : Option Addr) (q : Nat) (m : List Int) (b : Int) (dat : ByteArray) (w : World) (hr : Rd w w.heap.size 2 A l.length (flat fSector l)) (hn : l.length ≤ 1048576) (hok : ∀ x ∈ l, okSector x) (kr : Rd w w.heap.size 1 N m.length (flat fI m)) (kn : m.length ≤ 1048576) (hqc : m.length ≤ q) (hds : dat.size ≤ maxLen) :
    Calls Try.prog 10 #[.agg #[.int .i64 c, .int .i64 h, .int .i64 p, .int .i64 s, .slice A l.length cp, .int .i64 k, .int .i64 r, .slice N m.length q], .int .i64 b, .string dat] w fun e w' => ∃ (v4 v7 : Value), e = .returned (.tuple #[.agg #[.int .i64 (ptN (ptOk (okV (okD c h p s l) l.length k r m) (decide ((dat.size : Int) = szB s)) m.length b) c), .int .i64 (ptN (ptOk (okV (okD c h p s l) l.length k r m) (decide ((dat.size : Int) = szB s)) m.length b) h), .int .i64 (ptN (ptOk (okV (okD c h p s l) l.length k r m) (decide ((dat.size : Int) = szB s)) m.length b) p), .int .i64 (ptN (ptOk (okV (okD c h p s l) l.length k r m) (decide ((dat.size : Int) = szB s)) m.length b) s), v4, .int .i64 (ptN (ptOk (okV (okD c h p s l) l.length k r m) (decide ((dat.size : Int) = szB s)) m.length b) k), .int .i64 (ptN (ptOk (okV (okD c h p s l) l.length k r m) (decide ((dat.size : Int) = szB s)) m.length b) r), v7], .int .i64 (ptC (okV (okD c h p s l) l.length k r m) (decide ((dat.size : Int) = szB s)) m.length b)]) ∧ w'.ownsRow w.heap.size 85 2 v4 (wdL (ptOk (okV (okD c h p s l) l.length k r m) (decide ((dat.size : Int) = szB s)) m.length b) l m b ⟨dat, 1⟩).length (flat fSector (wdL (ptOk (okV (okD c h p s l) l.length k r m) (decide ((dat.size : Int) = szB s)) m.length b) l m b ⟨dat, 1⟩)) ∧ w'.ownsRow w.heap.size 2 1 v7 (wdM (ptOk (okV (okD c h p s l) l.length k r m) (decide ((dat.size : Int) = szB s)) m.length b) m).length (flat fI (wdM (ptOk (okV (okD c h p s l) l.length k r m) (decide ((dat.size : Int) = szB s)) m.length b) m)) ∧ (v4.ownBlock = none ∨ v4.ownBlock ≠ v7.ownBlock) ∧ Below w.heap.size w w' := by
  have F3 := (BX.made w 33 [.int .i64 c, .int .i64 h, .int .i64 p, .int .i64 s, .slice A l.length cp, .int .i64 k, .int .i64 r, .slice N m.length q]).al (.cells #[.int .i64 0, .int .i64 0, .int .i64 0, .int .i64 0, .slice none 0 0, .int .i64 0, .int .i64 0, .slice none 0 0] 33)
  have F6 := BX.made1 w (.cells #[.int .i64 c, .int .i64 h, .int .i64 p, .int .i64 s, .slice A l.length cp, .int .i64 k, .int .i64 r, .slice N m.length q] 33) 33 [.int .i64 0, .int .i64 0, .int .i64 0, .int .i64 0, .slice none 0 0, .int .i64 0, .int .i64 0, .slice none 0 0]
  obtain ⟨wb, hwb⟩ : ∃ wb, wb = (w.alloc (.cells #[.int .i64 c, .int .i64 h, .int .i64 p, .int .i64 s, .slice A l.length cp, .int .i64 k, .int .i64 r, .slice N m.length q] 33)).alloc (.cells #[.int .i64 0, .int .i64 0, .int .i64 0, .int .i64 0, .slice none 0 0, .int .i64 0, .int .i64 0, .slice none 0 0] 33) := ⟨_, rfl⟩
  rw [← hwb] at F3 F6
  have hb0 : Below w.heap.size w wb := by rw [hwb]; exact (by with_reducible repeat (first | exact Below.refl _ _ | assumption | refine below_step ?_ (by assumption) | refine Below.drew ?_ | refine below_drewN ?_ _ | refine below_alloc ?_ _ | refine Below.setCell ?_ (by simp; try omega) _))
  have hs0 : w.heap.size + 1 < wb.heap.size := F6.lt
  have hrb := (hr.below hb0).more hb0.size
  have krb := (kr.below hb0).more hb0.size
  have HW := Lib.hid hwb
  clear hwb
  have hq := l15Ok_any w.heap.size c h p s A cp l k r N q m wb F3.cp hrb hn hok krb kn
  cases hv : okV (okD c h p s l) l.length k r m
  · rw [hv] at hq
    clear hv
    have HR := Lib.hid (pt_1 (x := decide ((dat.size : Int) = szB s)) (n := m.length) (i := b))
    go_enter Try.func10, Try.ntmps10
    go_wp2_with ((go_at_call 46; rw [← HW.out]; refine hq.mono ?_; rintro e w2 ⟨rfl, hx⟩; replace F3 := F3.below hx F3.lt; replace F6 := F6.below hx F6.lt; have hB : Below w.heap.size w w2 := hb0.trans (hx.mono (by omega)); have e0 : (_ : Option Value) = some (.int .i64 c) := F3.cell 0 (by simp); have e1 : (_ : Option Value) = some (.int .i64 h) := F3.cell 1 (by simp); have e2 : (_ : Option Value) = some (.int .i64 p) := F3.cell 2 (by simp); have e3 : (_ : Option Value) = some (.int .i64 s) := F3.cell 3 (by simp); have e4 : (_ : Option Value) = some (.slice A l.length cp) := F3.cell 4 (by simp); have e5 : (_ : Option Value) = some (.int .i64 k) := F3.cell 5 (by simp); have e6 : (_ : Option Value) = some (.int .i64 r) := F3.cell 6 (by simp); have e7 : (_ : Option Value) = some (.slice N m.length q) := F3.cell 7 (by simp); have z0 : (_ : Option Value) = some (.int .i64 0) := F6.cell 0 (by simp); have z1 : (_ : Option Value) = some (.int .i64 0) := F6.cell 1 (by simp); have z2 : (_ : Option Value) = some (.int .i64 0) := F6.cell 2 (by simp); have z3 : (_ : Option Value) = some (.int .i64 0) := F6.cell 3 (by simp); have z4 : (_ : Option Value) = some (.slice none 0 0) := F6.cell 4 (by simp); have z5 : (_ : Option Value) = some (.int .i64 0) := F6.cell 5 (by simp); have z6 : (_ : Option Value) = some (.int .i64 0) := F6.cell 6 (by simp); have z7 : (_ : Option Value) = some (.slice none 0 0) := F6.cell 7 (by simp); have hfz := fun j => F6.free j; have m1 := True.intro))
    refine bodyPost_ret (v := .tuple #[.agg #[.int .i64 0, .int .i64 0, .int .i64 0, .int .i64 0, .slice none 0 0, .int .i64 0, .int .i64 0, .slice none 0 0], .int .i64 1]) (by simp [results, Try.results10, go_sem, World.cell?_setCell_other, z0, z1, z2, z3, z4, z5, z6, z7]) rfl ⟨.slice none 0 0, .slice none 0 0, by rw [HR.out.1, HR.out.2]; rfl, ?_, ?_, .inl rfl, ?_⟩
    · rw [HR.out.1]; exact World.ownsRow_nil _ _ _ _
    · rw [HR.out.1]; exact World.ownsRow_nil _ _ _ _
    · exact (by with_reducible repeat (first | exact Below.refl _ _ | assumption | refine below_step ?_ (by assumption) | refine Below.drew ?_ | refine below_drewN ?_ _ | refine below_alloc ?_ _ | refine Below.setCell ?_ (by simp; try omega) _))
  have hall := (okV_yes hv).2.2.2.2
  obtain ⟨-, -, -, -, -, -, s1, s2⟩ := geoB_yes (okD_geo (okV_yes hv).1).1
  have hby := fun W => l12Bytes_any s s1 s2 W
  have HV := Lib.hid hv
  rw [hv] at hq
  clear hv
  by_cases hx : (dat.size : Int) = szB s
  rotate_left
  · rw [show decide ((dat.size : Int) = szB s) = false from decide_eq_false hx]
    have HR := Lib.hid (pt_2' (d := true) (n := m.length) (i := b))
    go_enter Try.func10, Try.ntmps10
    go_wp2_with (first
          | (go_at_call 47; refine (hby _).mono ?_; rintro e w9 ⟨rfl, rfl⟩)
          | (go_at_call 46; rw [← HW.out]; refine hq.mono ?_; rintro e w2 ⟨rfl, hx⟩; replace F3 := F3.below hx F3.lt; replace F6 := F6.below hx F6.lt; have hB : Below w.heap.size w w2 := hb0.trans (hx.mono (by omega)); have e0 : (_ : Option Value) = some (.int .i64 c) := F3.cell 0 (by simp); have e1 : (_ : Option Value) = some (.int .i64 h) := F3.cell 1 (by simp); have e2 : (_ : Option Value) = some (.int .i64 p) := F3.cell 2 (by simp); have e3 : (_ : Option Value) = some (.int .i64 s) := F3.cell 3 (by simp); have e4 : (_ : Option Value) = some (.slice A l.length cp) := F3.cell 4 (by simp); have e5 : (_ : Option Value) = some (.int .i64 k) := F3.cell 5 (by simp); have e6 : (_ : Option Value) = some (.int .i64 r) := F3.cell 6 (by simp); have e7 : (_ : Option Value) = some (.slice N m.length q) := F3.cell 7 (by simp); have z0 : (_ : Option Value) = some (.int .i64 0) := F6.cell 0 (by simp); have z1 : (_ : Option Value) = some (.int .i64 0) := F6.cell 1 (by simp); have z2 : (_ : Option Value) = some (.int .i64 0) := F6.cell 2 (by simp); have z3 : (_ : Option Value) = some (.int .i64 0) := F6.cell 3 (by simp); have z4 : (_ : Option Value) = some (.slice none 0 0) := F6.cell 4 (by simp); have z5 : (_ : Option Value) = some (.int .i64 0) := F6.cell 5 (by simp); have z6 : (_ : Option Value) = some (.int .i64 0) := F6.cell 6 (by simp); have z7 : (_ : Option Value) = some (.slice none 0 0) := F6.cell 7 (by simp); have hfz := fun j => F6.free j; have m1 := True.intro))
    refine bodyPost_ret (v := .tuple #[.agg #[.int .i64 0, .int .i64 0, .int .i64 0, .int .i64 0, .slice none 0 0, .int .i64 0, .int .i64 0, .slice none 0 0], .int .i64 1]) (by simp [results, Try.results10, go_sem, World.cell?_setCell_other, z0, z1, z2, z3, z4, z5, z6, z7]) rfl ⟨.slice none 0 0, .slice none 0 0, by rw [HR.out.1, HR.out.2]; rfl, ?_, ?_, .inl rfl, ?_⟩
    · rw [HR.out.1]; exact World.ownsRow_nil _ _ _ _
    · rw [HR.out.1]; exact World.ownsRow_nil _ _ _ _
    · exact (by with_reducible repeat (first | exact Below.refl _ _ | assumption | refine below_step ?_ (by assumption) | refine Below.drew ?_ | refine below_drewN ?_ _ | refine below_alloc ?_ _ | refine Below.setCell ?_ (by simp; try omega) _))
  rw [show decide ((dat.size : Int) = szB s) = true from decide_eq_true hx]
  cases g1 : inB b 0 ((m.length : Int) - 1)
  · have HA := Lib.hid (askC_2 (n := m.length) g1)
    have HR := Lib.hid (pt_3 (n := m.length) g1)
    go_enter Try.func10, Try.ntmps10
    go_wp2_with (first
          | (go_at_call 48; refine (l15Ask_any w.heap.size c h p s A cp l k r N q m _ _ F3.cp ((hr.below hB).more hB.size) hn hok ((kr.below hB).more hB.size) kn).mono ?_; rintro e w3 ⟨rfl, hx3⟩; rw [HV.out, HA.out]; clear e0 e1 e2 e3 e4 e5 e6 e7 z0 z1 z2 z3 z4 z5 z6 z7 hfz; replace F3 := F3.below hx3 F3.lt; replace F6 := F6.below hx3 F6.lt; replace hB := below_step hB hx3; have e0 : (_ : Option Value) = some (.int .i64 c) := F3.cell 0 (by simp); have e1 : (_ : Option Value) = some (.int .i64 h) := F3.cell 1 (by simp); have e2 : (_ : Option Value) = some (.int .i64 p) := F3.cell 2 (by simp); have e3 : (_ : Option Value) = some (.int .i64 s) := F3.cell 3 (by simp); have e4 : (_ : Option Value) = some (.slice A l.length cp) := F3.cell 4 (by simp); have e5 : (_ : Option Value) = some (.int .i64 k) := F3.cell 5 (by simp); have e6 : (_ : Option Value) = some (.int .i64 r) := F3.cell 6 (by simp); have e7 : (_ : Option Value) = some (.slice N m.length q) := F3.cell 7 (by simp); have z0 : (_ : Option Value) = some (.int .i64 0) := F6.cell 0 (by simp); have z1 : (_ : Option Value) = some (.int .i64 0) := F6.cell 1 (by simp); have z2 : (_ : Option Value) = some (.int .i64 0) := F6.cell 2 (by simp); have z3 : (_ : Option Value) = some (.int .i64 0) := F6.cell 3 (by simp); have z4 : (_ : Option Value) = some (.slice none 0 0) := F6.cell 4 (by simp); have z5 : (_ : Option Value) = some (.int .i64 0) := F6.cell 5 (by simp); have z6 : (_ : Option Value) = some (.int .i64 0) := F6.cell 6 (by simp); have z7 : (_ : Option Value) = some (.slice none 0 0) := F6.cell 7 (by simp); have hfz := fun j => F6.free j; have m2 := True.intro)
          | (go_at_call 47; refine (hby _).mono ?_; rintro e w9 ⟨rfl, rfl⟩)
          | (go_at_call 46; rw [← HW.out]; refine hq.mono ?_; rintro e w2 ⟨rfl, hx⟩; replace F3 := F3.below hx F3.lt; replace F6 := F6.below hx F6.lt; have hB : Below w.heap.size w w2 := hb0.trans (hx.mono (by omega)); have e0 : (_ : Option Value) = some (.int .i64 c) := F3.cell 0 (by simp); have e1 : (_ : Option Value) = some (.int .i64 h) := F3.cell 1 (by simp); have e2 : (_ : Option Value) = some (.int .i64 p) := F3.cell 2 (by simp); have e3 : (_ : Option Value) = some (.int .i64 s) := F3.cell 3 (by simp); have e4 : (_ : Option Value) = some (.slice A l.length cp) := F3.cell 4 (by simp); have e5 : (_ : Option Value) = some (.int .i64 k) := F3.cell 5 (by simp); have e6 : (_ : Option Value) = some (.int .i64 r) := F3.cell 6 (by simp); have e7 : (_ : Option Value) = some (.slice N m.length q) := F3.cell 7 (by simp); have z0 : (_ : Option Value) = some (.int .i64 0) := F6.cell 0 (by simp); have z1 : (_ : Option Value) = some (.int .i64 0) := F6.cell 1 (by simp); have z2 : (_ : Option Value) = some (.int .i64 0) := F6.cell 2 (by simp); have z3 : (_ : Option Value) = some (.int .i64 0) := F6.cell 3 (by simp); have z4 : (_ : Option Value) = some (.slice none 0 0) := F6.cell 4 (by simp); have z5 : (_ : Option Value) = some (.int .i64 0) := F6.cell 5 (by simp); have z6 : (_ : Option Value) = some (.int .i64 0) := F6.cell 6 (by simp); have z7 : (_ : Option Value) = some (.slice none 0 0) := F6.cell 7 (by simp); have hfz := fun j => F6.free j; have m1 := True.intro))
    refine bodyPost_ret (v := .tuple #[.agg #[.int .i64 0, .int .i64 0, .int .i64 0, .int .i64 0, .slice none 0 0, .int .i64 0, .int .i64 0, .slice none 0 0], .int .i64 2]) (by simp [results, Try.results10, go_sem, World.cell?_setCell_other, z0, z1, z2, z3, z4, z5, z6, z7]) rfl ⟨.slice none 0 0, .slice none 0 0, by rw [HR.out.1, HR.out.2]; rfl, ?_, ?_, .inl rfl, ?_⟩
    · rw [HR.out.1]; exact World.ownsRow_nil _ _ _ _
    · rw [HR.out.1]; exact World.ownsRow_nil _ _ _ _
    · exact (by with_reducible repeat (first | exact Below.refl _ _ | assumption | refine below_step ?_ (by assumption) | refine Below.drew ?_ | refine below_drewN ?_ _ | refine below_alloc ?_ _ | refine Below.setCell ?_ (by simp; try omega) _))
  have HA := Lib.hid (askC_3 (n := m.length) g1)
  have HR := Lib.hid (pt_4 (n := m.length) g1)
  obtain ⟨b0, b1⟩ := inB_yes g1
  obtain ⟨B, rfl⟩ : ∃ B : Nat, b = (B : Int) := ⟨b.toNat, by omega⟩
  have hlt : B < m.length := by omega
  have hlti : (B : Int) < (m.length : Int) := by omega
  obtain ⟨x0, x1⟩ := hall m[B] (List.getElem_mem hlt)
  obtain ⟨X, hX⟩ : ∃ X : Nat, m[B] = (X : Int) := ⟨m[B].toNat, by omega⟩
  have hXl : X < l.length := by omega
  have hXi : (X : Int) < (l.length : Int) := by omega
  have hpos : 0 < l.length := by omega
  have hposm : 0 < m.length := by omega
  have kb0 : X * 2 < l.length * 2 := by omega
  have kb1 : X * 2 + 1 < l.length * 2 := by omega
  have HP := Lib.hid (setS l X hXl ⟨dat, 1⟩)
  have HL := Lib.hid (wdL_in (l := l) hlt hX (y := ⟨dat, 1⟩))
  clear hall x0 x1
  clear g1
  go_enter Try.func10, Try.ntmps10
  go_upto_region 7 with (first
      | (go_at_call 49; have := m2; refine (l15Own_any w.heap.size c h p s A cp l k r N q m _ F3.cp ((hr.below hB).more hB.size) hn ((kr.below hB).more hB.size) kn).mono ?_; rintro e w4 ⟨v4, v7, rfl, ho4, ho7, hne, hx4⟩; obtain ⟨g4, c4, hv⟩ := Go.Joins.ownsRow_form ho4 hpos; cases hv; obtain ⟨g7, c7, hv⟩ := Go.Joins.ownsRow_form ho7 hposm; cases hv; have hc7 := own_cap ho7; have lt4 := World.ownsRow.lt ho4 g4 rfl; have lt7 := World.ownsRow.lt ho7 g7 rfl; have l6 := F6.lt; clear e0 e1 e2 e3 e4 e5 e6 e7 z0 z1 z2 z3 z4 z5 z6 z7 hfz; replace F3 := F3.below hx4 F3.lt; replace F6 := F6.below hx4 F6.lt; replace hB := below_step hB hx4; have m3 := True.intro)
      | (go_at_call 48; refine (l15Ask_any w.heap.size c h p s A cp l k r N q m _ _ F3.cp ((hr.below hB).more hB.size) hn hok ((kr.below hB).more hB.size) kn).mono ?_; rintro e w3 ⟨rfl, hx3⟩; rw [HV.out, HA.out]; clear e0 e1 e2 e3 e4 e5 e6 e7 z0 z1 z2 z3 z4 z5 z6 z7 hfz; replace F3 := F3.below hx3 F3.lt; replace F6 := F6.below hx3 F6.lt; replace hB := below_step hB hx3; have e0 : (_ : Option Value) = some (.int .i64 c) := F3.cell 0 (by simp); have e1 : (_ : Option Value) = some (.int .i64 h) := F3.cell 1 (by simp); have e2 : (_ : Option Value) = some (.int .i64 p) := F3.cell 2 (by simp); have e3 : (_ : Option Value) = some (.int .i64 s) := F3.cell 3 (by simp); have e4 : (_ : Option Value) = some (.slice A l.length cp) := F3.cell 4 (by simp); have e5 : (_ : Option Value) = some (.int .i64 k) := F3.cell 5 (by simp); have e6 : (_ : Option Value) = some (.int .i64 r) := F3.cell 6 (by simp); have e7 : (_ : Option Value) = some (.slice N m.length q) := F3.cell 7 (by simp); have z0 : (_ : Option Value) = some (.int .i64 0) := F6.cell 0 (by simp); have z1 : (_ : Option Value) = some (.int .i64 0) := F6.cell 1 (by simp); have z2 : (_ : Option Value) = some (.int .i64 0) := F6.cell 2 (by simp); have z3 : (_ : Option Value) = some (.int .i64 0) := F6.cell 3 (by simp); have z4 : (_ : Option Value) = some (.slice none 0 0) := F6.cell 4 (by simp); have z5 : (_ : Option Value) = some (.int .i64 0) := F6.cell 5 (by simp); have z6 : (_ : Option Value) = some (.int .i64 0) := F6.cell 6 (by simp); have z7 : (_ : Option Value) = some (.slice none 0 0) := F6.cell 7 (by simp); have hfz := fun j => F6.free j; have m2 := True.intro)
      | (go_at_call 47; refine (hby _).mono ?_; rintro e w9 ⟨rfl, rfl⟩)
      | (go_at_call 46; rw [← HW.out]; refine hq.mono ?_; rintro e w2 ⟨rfl, hx⟩; replace F3 := F3.below hx F3.lt; replace F6 := F6.below hx F6.lt; have hB : Below w.heap.size w w2 := hb0.trans (hx.mono (by omega)); have e0 : (_ : Option Value) = some (.int .i64 c) := F3.cell 0 (by simp); have e1 : (_ : Option Value) = some (.int .i64 h) := F3.cell 1 (by simp); have e2 : (_ : Option Value) = some (.int .i64 p) := F3.cell 2 (by simp); have e3 : (_ : Option Value) = some (.int .i64 s) := F3.cell 3 (by simp); have e4 : (_ : Option Value) = some (.slice A l.length cp) := F3.cell 4 (by simp); have e5 : (_ : Option Value) = some (.int .i64 k) := F3.cell 5 (by simp); have e6 : (_ : Option Value) = some (.int .i64 r) := F3.cell 6 (by simp); have e7 : (_ : Option Value) = some (.slice N m.length q) := F3.cell 7 (by simp); have z0 : (_ : Option Value) = some (.int .i64 0) := F6.cell 0 (by simp); have z1 : (_ : Option Value) = some (.int .i64 0) := F6.cell 1 (by simp); have z2 : (_ : Option Value) = some (.int .i64 0) := F6.cell 2 (by simp); have z3 : (_ : Option Value) = some (.int .i64 0) := F6.cell 3 (by simp); have z4 : (_ : Option Value) = some (.slice none 0 0) := F6.cell 4 (by simp); have z5 : (_ : Option Value) = some (.int .i64 0) := F6.cell 5 (by simp); have z6 : (_ : Option Value) = some (.int .i64 0) := F6.cell 6 (by simp); have z7 : (_ : Option Value) = some (.slice none 0 0) := F6.cell 7 (by simp); have hfz := fun j => F6.free j; have m1 := True.intro))
  have F8 := BX.made w4 33 [.int .i64 c, .int .i64 h, .int .i64 p, .int .i64 s, .slice (some ⟨g4, 0, none⟩) l.length c4, .int .i64 k, .int .i64 r, .slice (some ⟨g7, 0, none⟩) m.length c7]
  replace F3 := F3.al (.cells #[.int .i64 c, .int .i64 h, .int .i64 p, .int .i64 s, .slice (some ⟨g4, 0, none⟩) l.length c4, .int .i64 k, .int .i64 r, .slice (some ⟨g7, 0, none⟩) m.length c7] 33)
  replace F6 := F6.al (.cells #[.int .i64 c, .int .i64 h, .int .i64 p, .int .i64 s, .slice (some ⟨g4, 0, none⟩) l.length c4, .int .i64 k, .int .i64 r, .slice (some ⟨g7, 0, none⟩) m.length c7] 33)
  replace hB := BB.al hB (.cells #[.int .i64 c, .int .i64 h, .int .i64 p, .int .i64 s, .slice (some ⟨g4, 0, none⟩) l.length c4, .int .i64 k, .int .i64 r, .slice (some ⟨g7, 0, none⟩) m.length c7] 33)
  replace ho4 := OO.al ho4 (.cells #[.int .i64 c, .int .i64 h, .int .i64 p, .int .i64 s, .slice (some ⟨g4, 0, none⟩) l.length c4, .int .i64 k, .int .i64 r, .slice (some ⟨g7, 0, none⟩) m.length c7] 33)
  replace ho7 := OO.al ho7 (.cells #[.int .i64 c, .int .i64 h, .int .i64 p, .int .i64 s, .slice (some ⟨g4, 0, none⟩) l.length c4, .int .i64 k, .int .i64 r, .slice (some ⟨g7, 0, none⟩) m.length c7] 33)
  generalize hG : w4.heap.size = G at F8 lt4 lt7 hx4 ⊢
  generalize w4.alloc (.cells #[.int .i64 c, .int .i64 h, .int .i64 p, .int .i64 s, .slice (some ⟨g4, 0, none⟩) l.length c4, .int .i64 k, .int .i64 r, .slice (some ⟨g7, 0, none⟩) m.length c7] 33) = w5 at *
  have n84 : G ≠ g4 := by omega
  have n64 : w.heap.size + 1 ≠ g4 := by omega
  have n34 : w.heap.size ≠ g4 := by omega
  have n74 : (Value.slice (some ⟨g7, 0, none⟩) m.length c7).ownBlock ≠ some g4 := by
    intro e
    rcases hne with h | h
    · cases h
    · exact h (by rw [e]; rfl)
  have hw4 : w.heap.size ≤ g4 := by omega
  have hw4' : w.heap.size + 2 ≤ g4 := by omega
  have hw7' : w.heap.size + 2 ≤ g7 := by omega
  have d4 : (_ : Option Value) = some (.slice (some ⟨g4, 0, none⟩) l.length c4) := F8.cell 4 (by simp)
  have d7 : (_ : Option Value) = some (.slice (some ⟨g7, 0, none⟩) m.length c7) := F8.cell 7 (by simp)
  have e7 : (_ : Option Value) = some (.slice N m.length q) := F3.cell 7 (by simp)
  obtain ⟨bb, off, rfl, hbb, hc⟩ := ((kr.below hB).more hB.size).at_ fI_len rfl B hlt
  have hc0 := hc 0 _ (by omega) rfl
  clear hc
  simp only [Nat.mul_one, Nat.add_zero] at hc0
  rw [hX] at hc0
  refine wp_region_still_tail 10 (by kernel_rfl) (by kernel_rfl) ?_
  simp only [List.take_succ_cons, List.take_zero, List.drop_succ_cons, List.drop_zero]
  repeat still_step
  refine wpStill_nil ?_
  change wpList _ _ _ _ _ w5.drew
  replace hB : BB w _ := BB.dr hB
  replace F3 := BX.dr F3
  replace F6 := BX.dr F6
  replace F8 := BX.dr F8
  replace ho4 : OO _ _ _ _ _ _ _ := OO.dr ho4
  replace ho7 : OO _ _ _ _ _ _ _ := OO.dr ho7
  clear d4 d7 e7 hc0
  generalize w5.drew = w6 at hB F3 F6 F8 ho4 ho7 ⊢
  have o1 := World.ownsRow.stored ho4 (X * 2) (.string dat) |>.1
  have o2 := World.ownsRow.stored o1 (X * 2 + 1) (.int .i64 1) |>.1
  obtain ⟨u0, hu0⟩ := own_some ho4 (X * 2) kb0
  have hz0 := World.ownsRow.frozenAt ho4 (X * 2)
  obtain ⟨u2, hu2⟩ := own_some o1 (X * 2 + 1) kb1
  have hz2 := World.ownsRow.frozenAt o1 (X * 2 + 1)
  have P8 := ((F8.far (a := ⟨g4, X * 2, none⟩) n84 (.string dat)).far (a := ⟨g4, X * 2 + 1, none⟩) n84 (.int .i64 1))
  have P6 := ((F6.far (a := ⟨g4, X * 2, none⟩) n64 (.string dat)).far (a := ⟨g4, X * 2 + 1, none⟩) n64 (.int .i64 1))
  have q0 : (_ : Option Value) = some (.int .i64 c) := P8.cell 0 (by simp)
  have q1 : (_ : Option Value) = some (.int .i64 h) := P8.cell 1 (by simp)
  have q2 : (_ : Option Value) = some (.int .i64 p) := P8.cell 2 (by simp)
  have q3 : (_ : Option Value) = some (.int .i64 s) := P8.cell 3 (by simp)
  have q4 : (_ : Option Value) = some (.slice (some ⟨g4, 0, none⟩) l.length c4) := P8.cell 4 (by simp)
  have q5 : (_ : Option Value) = some (.int .i64 k) := P8.cell 5 (by simp)
  have q6 : (_ : Option Value) = some (.int .i64 r) := P8.cell 6 (by simp)
  have q7 : (_ : Option Value) = some (.slice (some ⟨g7, 0, none⟩) m.length c7) := P8.cell 7 (by simp)
  have z0 : (_ : Option Value) = some (.int .i64 0) := P6.cell 0 (by simp)
  have z1 : (_ : Option Value) = some (.int .i64 0) := P6.cell 1 (by simp)
  have z2 : (_ : Option Value) = some (.int .i64 0) := P6.cell 2 (by simp)
  have z3 : (_ : Option Value) = some (.int .i64 0) := P6.cell 3 (by simp)
  have z4 : (_ : Option Value) = some (.slice none 0 0) := P6.cell 4 (by simp)
  have z5 : (_ : Option Value) = some (.int .i64 0) := P6.cell 5 (by simp)
  have z6 : (_ : Option Value) = some (.int .i64 0) := P6.cell 6 (by simp)
  have z7 : (_ : Option Value) = some (.slice none 0 0) := P6.cell 7 (by simp)
  have hfz := fun j => P6.free j
  have o7 := ((ho7.putne (a := ⟨g4, X * 2, none⟩) n74 (.string dat)).putne (a := ⟨g4, X * 2 + 1, none⟩) n74 (.int .i64 1))
  have hBq := ((hB.put (a := ⟨g4, X * 2, none⟩) hw4 (.string dat)).put (a := ⟨g4, X * 2 + 1, none⟩) hw4 (.int .i64 1))
  go_wp2
  refine bodyPost_ret (v := .tuple #[.agg #[.int .i64 c, .int .i64 h, .int .i64 p, .int .i64 s, .slice (some ⟨g4, 0, none⟩) l.length c4, .int .i64 k, .int .i64 r, .slice (some ⟨g7, 0, none⟩) m.length c7], .int .i64 0]) (by simp [results, Try.results10, go_sem, World.cell?_setCell_other, z0, z1, z2, z3, z4, z5, z6, z7]) rfl ⟨_, _, by rw [HR.out.1, HR.out.2]; rfl, ?_, ?_, hne, ?_⟩
  · rw [HR.out.1, HL.out, List.length_set, ← HP.out]
    have o3 : OO _ (w.heap.size + 2) _ _ _ _ (putV (flat fSector l) (X * 2) (fSector ⟨dat, 1⟩)) := own_base (base' := w.heap.size + 2) o2 (by omega)
    exact own_base (base' := w.heap.size) ((((((((o3.put (a := ⟨w.heap.size + 1, 0, none⟩) (by simp) (.int .i64 c)).put (a := ⟨w.heap.size + 1, 1, none⟩) (by simp) (.int .i64 h)).put (a := ⟨w.heap.size + 1, 2, none⟩) (by simp) (.int .i64 p)).put (a := ⟨w.heap.size + 1, 3, none⟩) (by simp) (.int .i64 s)).put (a := ⟨w.heap.size + 1, 4, none⟩) (by simp) (.slice (some ⟨g4, 0, none⟩) l.length c4)).put (a := ⟨w.heap.size + 1, 5, none⟩) (by simp) (.int .i64 k)).put (a := ⟨w.heap.size + 1, 6, none⟩) (by simp) (.int .i64 r)).put (a := ⟨w.heap.size + 1, 7, none⟩) (by simp) (.slice (some ⟨g7, 0, none⟩) m.length c7)) (by omega)
  · rw [HR.out.1, show wdM true m = m from rfl]
    have o3 : OO _ (w.heap.size + 2) _ _ _ _ _ := own_base (base' := w.heap.size + 2) o7 (by omega)
    exact own_base (base' := w.heap.size) ((((((((o3.put (a := ⟨w.heap.size + 1, 0, none⟩) (by simp) (.int .i64 c)).put (a := ⟨w.heap.size + 1, 1, none⟩) (by simp) (.int .i64 h)).put (a := ⟨w.heap.size + 1, 2, none⟩) (by simp) (.int .i64 p)).put (a := ⟨w.heap.size + 1, 3, none⟩) (by simp) (.int .i64 s)).put (a := ⟨w.heap.size + 1, 4, none⟩) (by simp) (.slice (some ⟨g4, 0, none⟩) l.length c4)).put (a := ⟨w.heap.size + 1, 5, none⟩) (by simp) (.int .i64 k)).put (a := ⟨w.heap.size + 1, 6, none⟩) (by simp) (.int .i64 r)).put (a := ⟨w.heap.size + 1, 7, none⟩) (by simp) (.slice (some ⟨g7, 0, none⟩) m.length c7)) (by omega)
  · exact ((((((((hBq.put (a := ⟨w.heap.size + 1, 0, none⟩) (by simp) (.int .i64 c)).put (a := ⟨w.heap.size + 1, 1, none⟩) (by simp) (.int .i64 h)).put (a := ⟨w.heap.size + 1, 2, none⟩) (by simp) (.int .i64 p)).put (a := ⟨w.heap.size + 1, 3, none⟩) (by simp) (.int .i64 s)).put (a := ⟨w.heap.size + 1, 4, none⟩) (by simp) (.slice (some ⟨g4, 0, none⟩) l.length c4)).put (a := ⟨w.heap.size + 1, 5, none⟩) (by simp) (.int .i64 k)).put (a := ⟨w.heap.size + 1, 6, none⟩) (by simp) (.int .i64 r)).put (a := ⟨w.heap.size + 1, 7, none⟩) (by simp) (.slice (some ⟨g7, 0, none⟩) m.length c7))
end Go.Proofs.Ytipkckoejkmhfab
