/- Walks: the texts W86 W88 W93 W95 D20 D21 D22 as one text. -/
import Derived.Test.YtcfeelecfmepaaaI4
import Derived.Test.YtcfeelecfmepaaaQB
import Derived.Test.YtcfeelecfmepaaaSString
import Derived.Deep.RegionHeld3
import Derived.Test.YtcfeelecfmepaaaI2
import Derived.Test.YtcfeelecfmepaaaW73
namespace Go.Proofs.Ytcfeelecfmepaaa
set_option linter.unusedVariables false
open Go.RowKit

set_option maxRecDepth 100000 in
set_option maxHeartbeats 2000000 in
theorem impl_WriteDeviceBlock_any (c h p s : Int) (A : Option Addr) (cp : Nat) (l : List DSector) (k r : Int) (N : Option Addr) (q : Nat) (m : List Int) (b : Int) (dat : ByteArray) (w : World) (hr : Rd w w.heap.size 2 A l.length (flat fSector l)) (hn : l.length ≤ 1048576) (hok : ∀ x ∈ l, okSector x) (kr : Rd w w.heap.size 1 N m.length (flat fI m)) (kn : m.length ≤ 1048576) (hqc : m.length ≤ q) (hds : dat.size ≤ maxLen) :
    Calls Try.prog 6 #[.agg #[.int .i64 c, .int .i64 h, .int .i64 p, .int .i64 s, .slice A l.length cp, .int .i64 k, .int .i64 r, .slice N m.length q], .int .i64 b, .string dat] w fun e w' => ∃ (v4 v7 : Value), e = .returned (.tuple #[.agg #[.int .i64 (ptN (ptOk (okV (okD c h p s l) l.length k r m) (decide ((dat.size : Int) = szB s)) m.length b) c), .int .i64 (ptN (ptOk (okV (okD c h p s l) l.length k r m) (decide ((dat.size : Int) = szB s)) m.length b) h), .int .i64 (ptN (ptOk (okV (okD c h p s l) l.length k r m) (decide ((dat.size : Int) = szB s)) m.length b) p), .int .i64 (ptN (ptOk (okV (okD c h p s l) l.length k r m) (decide ((dat.size : Int) = szB s)) m.length b) s), v4, .int .i64 (ptN (ptOk (okV (okD c h p s l) l.length k r m) (decide ((dat.size : Int) = szB s)) m.length b) k), .int .i64 (ptN (ptOk (okV (okD c h p s l) l.length k r m) (decide ((dat.size : Int) = szB s)) m.length b) r), v7], .int .i64 (ptC (okV (okD c h p s l) l.length k r m) (decide ((dat.size : Int) = szB s)) m.length b)]) ∧ w'.ownsRow w.heap.size 53 2 v4 (wdL (ptOk (okV (okD c h p s l) l.length k r m) (decide ((dat.size : Int) = szB s)) m.length b) l m b ⟨dat, 1⟩).length (flat fSector (wdL (ptOk (okV (okD c h p s l) l.length k r m) (decide ((dat.size : Int) = szB s)) m.length b) l m b ⟨dat, 1⟩)) ∧ w'.ownsRow w.heap.size 2 1 v7 (wdM (ptOk (okV (okD c h p s l) l.length k r m) (decide ((dat.size : Int) = szB s)) m.length b) m).length (flat fI (wdM (ptOk (okV (okD c h p s l) l.length k r m) (decide ((dat.size : Int) = szB s)) m.length b) m)) ∧ (v4.ownBlock = none ∨ v4.ownBlock ≠ v7.ownBlock) ∧ Below w.heap.size w w' := by
  have F3 := (BX.made w 29 [.int .i64 c, .int .i64 h, .int .i64 p, .int .i64 s, .slice A l.length cp, .int .i64 k, .int .i64 r, .slice N m.length q]).al (.cells #[.int .i64 0, .int .i64 0, .int .i64 0, .int .i64 0, .slice none 0 0, .int .i64 0, .int .i64 0, .slice none 0 0] 29)
  have F6 := BX.made1 w (.cells #[.int .i64 c, .int .i64 h, .int .i64 p, .int .i64 s, .slice A l.length cp, .int .i64 k, .int .i64 r, .slice N m.length q] 29) 29 [.int .i64 0, .int .i64 0, .int .i64 0, .int .i64 0, .slice none 0 0, .int .i64 0, .int .i64 0, .slice none 0 0]
  obtain ⟨wb, hwb⟩ : ∃ wb, wb = (w.alloc (.cells #[.int .i64 c, .int .i64 h, .int .i64 p, .int .i64 s, .slice A l.length cp, .int .i64 k, .int .i64 r, .slice N m.length q] 29)).alloc (.cells #[.int .i64 0, .int .i64 0, .int .i64 0, .int .i64 0, .slice none 0 0, .int .i64 0, .int .i64 0, .slice none 0 0] 29) := ⟨_, rfl⟩
  rw [← hwb] at F3 F6
  have hb0 : Below w.heap.size w wb := by rw [hwb]; exact (by with_reducible repeat (first | exact Below.refl _ _ | assumption | refine below_step ?_ (by assumption) | refine Below.drew ?_ | refine below_drewN ?_ _ | refine below_alloc ?_ _ | refine Below.setCell ?_ (by simp; try omega) _))
  have hs0 : w.heap.size + 1 < wb.heap.size := F6.lt
  have hrb := (hr.below hb0).more hb0.size
  have krb := (kr.below hb0).more hb0.size
  have HW := Lib.hid hwb
  clear hwb
  have hq := checkBlock_any c h p s A cp l k r N q m b wb hrb hn hok krb kn hqc
  have e0 : (_ : Option Value) = some (.int .i64 c) := F3.cell 0 (by simp)
  have e1 : (_ : Option Value) = some (.int .i64 h) := F3.cell 1 (by simp)
  have e2 : (_ : Option Value) = some (.int .i64 p) := F3.cell 2 (by simp)
  have e3 : (_ : Option Value) = some (.int .i64 s) := F3.cell 3 (by simp)
  have e4 : (_ : Option Value) = some (.slice A l.length cp) := F3.cell 4 (by simp)
  have e5 : (_ : Option Value) = some (.int .i64 k) := F3.cell 5 (by simp)
  have e6 : (_ : Option Value) = some (.int .i64 r) := F3.cell 6 (by simp)
  have e7 : (_ : Option Value) = some (.slice N m.length q) := F3.cell 7 (by simp)
  cases hv : okV (okD c h p s l) l.length k r m
  · rw [hv] at hq
    have HA := Lib.hid (askC_1 (n := m.length) (b := b))
    clear hv
    have HR := Lib.hid (pt_1 (x := decide ((dat.size : Int) = szB s)) (n := m.length) (i := b))
    go_enter Try.func6, Try.ntmps6
    go_wp2_with ((go_at_call 20; rw [← HW.out]; refine hq.mono ?_; rintro e w2 ⟨rfl, hx⟩; rw [HA.out]; replace F3 := F3.below hx F3.lt; replace F6 := F6.below hx F6.lt; have hB : Below w.heap.size w w2 := hb0.trans (hx.mono (by omega)); clear e0 e1 e2 e3 e4 e5 e6 e7; have e0 : (_ : Option Value) = some (.int .i64 c) := F3.cell 0 (by simp); have e1 : (_ : Option Value) = some (.int .i64 h) := F3.cell 1 (by simp); have e2 : (_ : Option Value) = some (.int .i64 p) := F3.cell 2 (by simp); have e3 : (_ : Option Value) = some (.int .i64 s) := F3.cell 3 (by simp); have e4 : (_ : Option Value) = some (.slice A l.length cp) := F3.cell 4 (by simp); have e5 : (_ : Option Value) = some (.int .i64 k) := F3.cell 5 (by simp); have e6 : (_ : Option Value) = some (.int .i64 r) := F3.cell 6 (by simp); have e7 : (_ : Option Value) = some (.slice N m.length q) := F3.cell 7 (by simp); have z0 : (_ : Option Value) = some (.int .i64 0) := F6.cell 0 (by simp); have z1 : (_ : Option Value) = some (.int .i64 0) := F6.cell 1 (by simp); have z2 : (_ : Option Value) = some (.int .i64 0) := F6.cell 2 (by simp); have z3 : (_ : Option Value) = some (.int .i64 0) := F6.cell 3 (by simp); have z4 : (_ : Option Value) = some (.slice none 0 0) := F6.cell 4 (by simp); have z5 : (_ : Option Value) = some (.int .i64 0) := F6.cell 5 (by simp); have z6 : (_ : Option Value) = some (.int .i64 0) := F6.cell 6 (by simp); have z7 : (_ : Option Value) = some (.slice none 0 0) := F6.cell 7 (by simp); have hfz := fun j => F6.free j; have m1 := True.intro))
    refine bodyPost_ret (v := .tuple #[.agg #[.int .i64 0, .int .i64 0, .int .i64 0, .int .i64 0, .slice none 0 0, .int .i64 0, .int .i64 0, .slice none 0 0], .int .i64 1]) (by simp [results, Try.results6, go_sem, World.cell?_setCell_other, z0, z1, z2, z3, z4, z5, z6, z7]) rfl ⟨.slice none 0 0, .slice none 0 0, by rw [HR.out.1, HR.out.2]; rfl, ?_, ?_, .inl rfl, ?_⟩
    · rw [HR.out.1]; exact World.ownsRow_nil _ _ _ _
    · rw [HR.out.1]; exact World.ownsRow_nil _ _ _ _
    · exact (by with_reducible repeat (first | exact Below.refl _ _ | assumption | refine below_step ?_ (by assumption) | refine Below.drew ?_ | refine below_drewN ?_ _ | refine below_alloc ?_ _ | refine Below.setCell ?_ (by simp; try omega) _))
  have hall := (okV_yes hv).2.2.2.2
  obtain ⟨-, -, -, -, -, -, s1, s2⟩ := geoB_yes (okD_geo (okV_yes hv).1).1
  have hby := fun W => sizeBytes_any s s1 s2 W
  have HV := Lib.hid hv
  rw [hv] at hq
  clear hv
  by_cases hx : (dat.size : Int) = szB s
  rotate_left
  · rw [show decide ((dat.size : Int) = szB s) = false from decide_eq_false hx]
    cases g1 : inB b 0 ((m.length : Int) - 1)
    · have HA := Lib.hid (askC_2 (n := m.length) g1)
      have HR := Lib.hid (pt_2' (d := true) (n := m.length) (i := b))
      go_enter Try.func6, Try.ntmps6
      go_wp2_with (first
            | (go_at_call 21; refine (hby _).mono ?_; rintro e w9 ⟨rfl, rfl⟩)
            | (go_at_call 20; rw [← HW.out]; refine hq.mono ?_; rintro e w2 ⟨rfl, hx⟩; rw [HA.out]; replace F3 := F3.below hx F3.lt; replace F6 := F6.below hx F6.lt; have hB : Below w.heap.size w w2 := hb0.trans (hx.mono (by omega)); clear e0 e1 e2 e3 e4 e5 e6 e7; have e0 : (_ : Option Value) = some (.int .i64 c) := F3.cell 0 (by simp); have e1 : (_ : Option Value) = some (.int .i64 h) := F3.cell 1 (by simp); have e2 : (_ : Option Value) = some (.int .i64 p) := F3.cell 2 (by simp); have e3 : (_ : Option Value) = some (.int .i64 s) := F3.cell 3 (by simp); have e4 : (_ : Option Value) = some (.slice A l.length cp) := F3.cell 4 (by simp); have e5 : (_ : Option Value) = some (.int .i64 k) := F3.cell 5 (by simp); have e6 : (_ : Option Value) = some (.int .i64 r) := F3.cell 6 (by simp); have e7 : (_ : Option Value) = some (.slice N m.length q) := F3.cell 7 (by simp); have z0 : (_ : Option Value) = some (.int .i64 0) := F6.cell 0 (by simp); have z1 : (_ : Option Value) = some (.int .i64 0) := F6.cell 1 (by simp); have z2 : (_ : Option Value) = some (.int .i64 0) := F6.cell 2 (by simp); have z3 : (_ : Option Value) = some (.int .i64 0) := F6.cell 3 (by simp); have z4 : (_ : Option Value) = some (.slice none 0 0) := F6.cell 4 (by simp); have z5 : (_ : Option Value) = some (.int .i64 0) := F6.cell 5 (by simp); have z6 : (_ : Option Value) = some (.int .i64 0) := F6.cell 6 (by simp); have z7 : (_ : Option Value) = some (.slice none 0 0) := F6.cell 7 (by simp); have hfz := fun j => F6.free j; have m1 := True.intro))
      refine bodyPost_ret (v := .tuple #[.agg #[.int .i64 0, .int .i64 0, .int .i64 0, .int .i64 0, .slice none 0 0, .int .i64 0, .int .i64 0, .slice none 0 0], .int .i64 1]) (by simp [results, Try.results6, go_sem, World.cell?_setCell_other, z0, z1, z2, z3, z4, z5, z6, z7]) rfl ⟨.slice none 0 0, .slice none 0 0, by rw [HR.out.1, HR.out.2]; rfl, ?_, ?_, .inl rfl, ?_⟩
      · rw [HR.out.1]; exact World.ownsRow_nil _ _ _ _
      · rw [HR.out.1]; exact World.ownsRow_nil _ _ _ _
      · exact (by with_reducible repeat (first | exact Below.refl _ _ | assumption | refine below_step ?_ (by assumption) | refine Below.drew ?_ | refine below_drewN ?_ _ | refine below_alloc ?_ _ | refine Below.setCell ?_ (by simp; try omega) _))
    · have HA := Lib.hid (askC_3 (n := m.length) g1)
      have HR := Lib.hid (pt_2' (d := true) (n := m.length) (i := b))
      go_enter Try.func6, Try.ntmps6
      go_wp2_with (first
            | (go_at_call 21; refine (hby _).mono ?_; rintro e w9 ⟨rfl, rfl⟩)
            | (go_at_call 20; rw [← HW.out]; refine hq.mono ?_; rintro e w2 ⟨rfl, hx⟩; rw [HA.out]; replace F3 := F3.below hx F3.lt; replace F6 := F6.below hx F6.lt; have hB : Below w.heap.size w w2 := hb0.trans (hx.mono (by omega)); clear e0 e1 e2 e3 e4 e5 e6 e7; have e0 : (_ : Option Value) = some (.int .i64 c) := F3.cell 0 (by simp); have e1 : (_ : Option Value) = some (.int .i64 h) := F3.cell 1 (by simp); have e2 : (_ : Option Value) = some (.int .i64 p) := F3.cell 2 (by simp); have e3 : (_ : Option Value) = some (.int .i64 s) := F3.cell 3 (by simp); have e4 : (_ : Option Value) = some (.slice A l.length cp) := F3.cell 4 (by simp); have e5 : (_ : Option Value) = some (.int .i64 k) := F3.cell 5 (by simp); have e6 : (_ : Option Value) = some (.int .i64 r) := F3.cell 6 (by simp); have e7 : (_ : Option Value) = some (.slice N m.length q) := F3.cell 7 (by simp); have z0 : (_ : Option Value) = some (.int .i64 0) := F6.cell 0 (by simp); have z1 : (_ : Option Value) = some (.int .i64 0) := F6.cell 1 (by simp); have z2 : (_ : Option Value) = some (.int .i64 0) := F6.cell 2 (by simp); have z3 : (_ : Option Value) = some (.int .i64 0) := F6.cell 3 (by simp); have z4 : (_ : Option Value) = some (.slice none 0 0) := F6.cell 4 (by simp); have z5 : (_ : Option Value) = some (.int .i64 0) := F6.cell 5 (by simp); have z6 : (_ : Option Value) = some (.int .i64 0) := F6.cell 6 (by simp); have z7 : (_ : Option Value) = some (.slice none 0 0) := F6.cell 7 (by simp); have hfz := fun j => F6.free j; have m1 := True.intro))
      refine bodyPost_ret (v := .tuple #[.agg #[.int .i64 0, .int .i64 0, .int .i64 0, .int .i64 0, .slice none 0 0, .int .i64 0, .int .i64 0, .slice none 0 0], .int .i64 1]) (by simp [results, Try.results6, go_sem, World.cell?_setCell_other, z0, z1, z2, z3, z4, z5, z6, z7]) rfl ⟨.slice none 0 0, .slice none 0 0, by rw [HR.out.1, HR.out.2]; rfl, ?_, ?_, .inl rfl, ?_⟩
      · rw [HR.out.1]; exact World.ownsRow_nil _ _ _ _
      · rw [HR.out.1]; exact World.ownsRow_nil _ _ _ _
      · exact (by with_reducible repeat (first | exact Below.refl _ _ | assumption | refine below_step ?_ (by assumption) | refine Below.drew ?_ | refine below_drewN ?_ _ | refine below_alloc ?_ _ | refine Below.setCell ?_ (by simp; try omega) _))
  rw [show decide ((dat.size : Int) = szB s) = true from decide_eq_true hx]
  cases g1 : inB b 0 ((m.length : Int) - 1)
  · have HA := Lib.hid (askC_2 (n := m.length) g1)
    have HR := Lib.hid (pt_3 (n := m.length) g1)
    go_enter Try.func6, Try.ntmps6
    go_wp2_with (first
          | (go_at_call 21; refine (hby _).mono ?_; rintro e w9 ⟨rfl, rfl⟩)
          | (go_at_call 20; rw [← HW.out]; refine hq.mono ?_; rintro e w2 ⟨rfl, hx⟩; rw [HA.out]; replace F3 := F3.below hx F3.lt; replace F6 := F6.below hx F6.lt; have hB : Below w.heap.size w w2 := hb0.trans (hx.mono (by omega)); clear e0 e1 e2 e3 e4 e5 e6 e7; have e0 : (_ : Option Value) = some (.int .i64 c) := F3.cell 0 (by simp); have e1 : (_ : Option Value) = some (.int .i64 h) := F3.cell 1 (by simp); have e2 : (_ : Option Value) = some (.int .i64 p) := F3.cell 2 (by simp); have e3 : (_ : Option Value) = some (.int .i64 s) := F3.cell 3 (by simp); have e4 : (_ : Option Value) = some (.slice A l.length cp) := F3.cell 4 (by simp); have e5 : (_ : Option Value) = some (.int .i64 k) := F3.cell 5 (by simp); have e6 : (_ : Option Value) = some (.int .i64 r) := F3.cell 6 (by simp); have e7 : (_ : Option Value) = some (.slice N m.length q) := F3.cell 7 (by simp); have z0 : (_ : Option Value) = some (.int .i64 0) := F6.cell 0 (by simp); have z1 : (_ : Option Value) = some (.int .i64 0) := F6.cell 1 (by simp); have z2 : (_ : Option Value) = some (.int .i64 0) := F6.cell 2 (by simp); have z3 : (_ : Option Value) = some (.int .i64 0) := F6.cell 3 (by simp); have z4 : (_ : Option Value) = some (.slice none 0 0) := F6.cell 4 (by simp); have z5 : (_ : Option Value) = some (.int .i64 0) := F6.cell 5 (by simp); have z6 : (_ : Option Value) = some (.int .i64 0) := F6.cell 6 (by simp); have z7 : (_ : Option Value) = some (.slice none 0 0) := F6.cell 7 (by simp); have hfz := fun j => F6.free j; have m1 := True.intro))
    refine bodyPost_ret (v := .tuple #[.agg #[.int .i64 0, .int .i64 0, .int .i64 0, .int .i64 0, .slice none 0 0, .int .i64 0, .int .i64 0, .slice none 0 0], .int .i64 2]) (by simp [results, Try.results6, go_sem, World.cell?_setCell_other, z0, z1, z2, z3, z4, z5, z6, z7]) rfl ⟨.slice none 0 0, .slice none 0 0, by rw [HR.out.1, HR.out.2]; rfl, ?_, ?_, .inl rfl, ?_⟩
    · rw [HR.out.1]; exact World.ownsRow_nil _ _ _ _
    · rw [HR.out.1]; exact World.ownsRow_nil _ _ _ _
    · exact (by with_reducible repeat (first | exact Below.refl _ _ | assumption | refine below_step ?_ (by assumption) | refine Below.drew ?_ | refine below_drewN ?_ _ | refine below_alloc ?_ _ | refine Below.setCell ?_ (by simp; try omega) _))
  have HA := Lib.hid (askC_3 (n := m.length) g1)
  have HR := Lib.hid (pt_4 (n := m.length) g1)
  obtain ⟨b0, b1⟩ := inB_yes g1
  obtain ⟨B, rfl⟩ : ∃ B : Nat, b = (B : Int) := ⟨b.toNat, by omega⟩
  have hlt : B < m.length := by omega
  have hlti : (B : Int) < (m.length : Int) := by omega
  obtain ⟨x0, x1⟩ := hall m[B] (List.getElem_mem hlt)
  obtain ⟨X, hX⟩ : ∃ X : Nat, m[B] = (X : Int) := ⟨m[B].toNat, by omega⟩
  have hXl : X < l.length := by omega
  have hXi : (X : Int) < (l.length : Int) := by omega
  have hpos : 0 < l.length := by omega
  have hposm : 0 < m.length := by omega
  have kb0 : X * 2 < l.length * 2 := by omega
  have kb1 : X * 2 + 1 < l.length * 2 := by omega
  have HP := Lib.hid (setS l X hXl ⟨dat, 1⟩)
  have HL := Lib.hid (wdL_in (l := l) hlt hX (y := ⟨dat, 1⟩))
  clear hall x0 x1
  clear g1
  go_enter Try.func6, Try.ntmps6
  go_upto_region 7 with (first
      | (go_at_call 22; have := m1; refine (cloneDevice_any c h p s A cp l k r N q m _ ((hr.below hB).more hB.size) hn ((kr.below hB).more hB.size) kn).mono ?_; rintro e w4 ⟨v4, v7, rfl, ho4, ho7, hne, hx4⟩; obtain ⟨g4, c4, hv⟩ := Go.Joins.ownsRow_form ho4 hpos; cases hv; obtain ⟨g7, c7, hv⟩ := Go.Joins.ownsRow_form ho7 hposm; cases hv; have hc7 := own_cap ho7; have lt4 := World.ownsRow.lt ho4 g4 rfl; have lt7 := World.ownsRow.lt ho7 g7 rfl; have l6 := F6.lt; clear e0 e1 e2 e3 e4 e5 e6 e7 z0 z1 z2 z3 z4 z5 z6 z7 hfz; replace F3 := F3.below hx4 F3.lt; replace F6 := F6.below hx4 F6.lt; replace hB := below_step hB hx4; have m3 := True.intro)
      | (go_at_call 21; refine (hby _).mono ?_; rintro e w9 ⟨rfl, rfl⟩)
      | (go_at_call 20; rw [← HW.out]; refine hq.mono ?_; rintro e w2 ⟨rfl, hx⟩; rw [HA.out]; replace F3 := F3.below hx F3.lt; replace F6 := F6.below hx F6.lt; have hB : Below w.heap.size w w2 := hb0.trans (hx.mono (by omega)); clear e0 e1 e2 e3 e4 e5 e6 e7; have e0 : (_ : Option Value) = some (.int .i64 c) := F3.cell 0 (by simp); have e1 : (_ : Option Value) = some (.int .i64 h) := F3.cell 1 (by simp); have e2 : (_ : Option Value) = some (.int .i64 p) := F3.cell 2 (by simp); have e3 : (_ : Option Value) = some (.int .i64 s) := F3.cell 3 (by simp); have e4 : (_ : Option Value) = some (.slice A l.length cp) := F3.cell 4 (by simp); have e5 : (_ : Option Value) = some (.int .i64 k) := F3.cell 5 (by simp); have e6 : (_ : Option Value) = some (.int .i64 r) := F3.cell 6 (by simp); have e7 : (_ : Option Value) = some (.slice N m.length q) := F3.cell 7 (by simp); have z0 : (_ : Option Value) = some (.int .i64 0) := F6.cell 0 (by simp); have z1 : (_ : Option Value) = some (.int .i64 0) := F6.cell 1 (by simp); have z2 : (_ : Option Value) = some (.int .i64 0) := F6.cell 2 (by simp); have z3 : (_ : Option Value) = some (.int .i64 0) := F6.cell 3 (by simp); have z4 : (_ : Option Value) = some (.slice none 0 0) := F6.cell 4 (by simp); have z5 : (_ : Option Value) = some (.int .i64 0) := F6.cell 5 (by simp); have z6 : (_ : Option Value) = some (.int .i64 0) := F6.cell 6 (by simp); have z7 : (_ : Option Value) = some (.slice none 0 0) := F6.cell 7 (by simp); have hfz := fun j => F6.free j; have m1 := True.intro))
  have F8 := BX.made w4 29 [.int .i64 c, .int .i64 h, .int .i64 p, .int .i64 s, .slice (some ⟨g4, 0, none⟩) l.length c4, .int .i64 k, .int .i64 r, .slice (some ⟨g7, 0, none⟩) m.length c7]
  replace F3 := F3.al (.cells #[.int .i64 c, .int .i64 h, .int .i64 p, .int .i64 s, .slice (some ⟨g4, 0, none⟩) l.length c4, .int .i64 k, .int .i64 r, .slice (some ⟨g7, 0, none⟩) m.length c7] 29)
  replace F6 := F6.al (.cells #[.int .i64 c, .int .i64 h, .int .i64 p, .int .i64 s, .slice (some ⟨g4, 0, none⟩) l.length c4, .int .i64 k, .int .i64 r, .slice (some ⟨g7, 0, none⟩) m.length c7] 29)
  replace hB := BB.al hB (.cells #[.int .i64 c, .int .i64 h, .int .i64 p, .int .i64 s, .slice (some ⟨g4, 0, none⟩) l.length c4, .int .i64 k, .int .i64 r, .slice (some ⟨g7, 0, none⟩) m.length c7] 29)
  replace ho4 := OO.al ho4 (.cells #[.int .i64 c, .int .i64 h, .int .i64 p, .int .i64 s, .slice (some ⟨g4, 0, none⟩) l.length c4, .int .i64 k, .int .i64 r, .slice (some ⟨g7, 0, none⟩) m.length c7] 29)
  replace ho7 := OO.al ho7 (.cells #[.int .i64 c, .int .i64 h, .int .i64 p, .int .i64 s, .slice (some ⟨g4, 0, none⟩) l.length c4, .int .i64 k, .int .i64 r, .slice (some ⟨g7, 0, none⟩) m.length c7] 29)
  generalize hG : w4.heap.size = G at F8 lt4 lt7 hx4 ⊢
  generalize w4.alloc (.cells #[.int .i64 c, .int .i64 h, .int .i64 p, .int .i64 s, .slice (some ⟨g4, 0, none⟩) l.length c4, .int .i64 k, .int .i64 r, .slice (some ⟨g7, 0, none⟩) m.length c7] 29) = w5 at *
  have n84 : G ≠ g4 := by omega
  have n64 : w.heap.size + 1 ≠ g4 := by omega
  have n34 : w.heap.size ≠ g4 := by omega
  have n74 : (Value.slice (some ⟨g7, 0, none⟩) m.length c7).ownBlock ≠ some g4 := by
    intro e
    rcases hne with h | h
    · cases h
    · exact h (by rw [e]; rfl)
  have hw4 : w.heap.size ≤ g4 := by omega
  have hw4' : w.heap.size + 2 ≤ g4 := by omega
  have hw7' : w.heap.size + 2 ≤ g7 := by omega
  have d4 : (_ : Option Value) = some (.slice (some ⟨g4, 0, none⟩) l.length c4) := F8.cell 4 (by simp)
  have d7 : (_ : Option Value) = some (.slice (some ⟨g7, 0, none⟩) m.length c7) := F8.cell 7 (by simp)
  have e7 : (_ : Option Value) = some (.slice N m.length q) := F3.cell 7 (by simp)
  have hc0 := Rd.of_own ho7
  obtain ⟨bb, off, hb7, hbb, hc⟩ := hc0.at_ fI_len rfl B hlt
  have hc0 := hc 0 _ (by omega) rfl
  clear hc
  cases hb7
  simp only [Nat.mul_one, Nat.zero_add, Nat.add_zero] at hc0
  rw [hX] at hc0
  refine wp_region_still_tail 10 (by kernel_rfl) (by kernel_rfl) ?_
  simp only [List.take_succ_cons, List.take_zero, List.drop_succ_cons, List.drop_zero]
  repeat still_step
  refine wpStill_nil ?_
  change wpList _ _ _ _ _ w5.drew
  replace hB : BB w _ := BB.dr hB
  replace F3 := BX.dr F3
  replace F6 := BX.dr F6
  replace F8 := BX.dr F8
  replace ho4 : OO _ _ _ _ _ _ _ := OO.dr ho4
  replace ho7 : OO _ _ _ _ _ _ _ := OO.dr ho7
  clear d4 d7 e7 hc0
  generalize w5.drew = w6 at hB F3 F6 F8 ho4 ho7 ⊢
  have o1 := World.ownsRow.stored ho4 (X * 2) (.string dat) |>.1
  have o2 := World.ownsRow.stored o1 (X * 2 + 1) (.int .i64 1) |>.1
  obtain ⟨u0, hu0⟩ := own_some ho4 (X * 2) kb0
  have hz0 := World.ownsRow.frozenAt ho4 (X * 2)
  obtain ⟨u2, hu2⟩ := own_some o1 (X * 2 + 1) kb1
  have hz2 := World.ownsRow.frozenAt o1 (X * 2 + 1)
  have P8 := ((F8.far (a := ⟨g4, X * 2, none⟩) n84 (.string dat)).far (a := ⟨g4, X * 2 + 1, none⟩) n84 (.int .i64 1))
  have P6 := ((F6.far (a := ⟨g4, X * 2, none⟩) n64 (.string dat)).far (a := ⟨g4, X * 2 + 1, none⟩) n64 (.int .i64 1))
  have q0 : (_ : Option Value) = some (.int .i64 c) := P8.cell 0 (by simp)
  have q1 : (_ : Option Value) = some (.int .i64 h) := P8.cell 1 (by simp)
  have q2 : (_ : Option Value) = some (.int .i64 p) := P8.cell 2 (by simp)
  have q3 : (_ : Option Value) = some (.int .i64 s) := P8.cell 3 (by simp)
  have q4 : (_ : Option Value) = some (.slice (some ⟨g4, 0, none⟩) l.length c4) := P8.cell 4 (by simp)
  have q5 : (_ : Option Value) = some (.int .i64 k) := P8.cell 5 (by simp)
  have q6 : (_ : Option Value) = some (.int .i64 r) := P8.cell 6 (by simp)
  have q7 : (_ : Option Value) = some (.slice (some ⟨g7, 0, none⟩) m.length c7) := P8.cell 7 (by simp)
  have z0 : (_ : Option Value) = some (.int .i64 0) := P6.cell 0 (by simp)
  have z1 : (_ : Option Value) = some (.int .i64 0) := P6.cell 1 (by simp)
  have z2 : (_ : Option Value) = some (.int .i64 0) := P6.cell 2 (by simp)
  have z3 : (_ : Option Value) = some (.int .i64 0) := P6.cell 3 (by simp)
  have z4 : (_ : Option Value) = some (.slice none 0 0) := P6.cell 4 (by simp)
  have z5 : (_ : Option Value) = some (.int .i64 0) := P6.cell 5 (by simp)
  have z6 : (_ : Option Value) = some (.int .i64 0) := P6.cell 6 (by simp)
  have z7 : (_ : Option Value) = some (.slice none 0 0) := P6.cell 7 (by simp)
  have hfz := fun j => P6.free j
  have o7 := ((ho7.putne (a := ⟨g4, X * 2, none⟩) n74 (.string dat)).putne (a := ⟨g4, X * 2 + 1, none⟩) n74 (.int .i64 1))
  have hBq := ((hB.put (a := ⟨g4, X * 2, none⟩) hw4 (.string dat)).put (a := ⟨g4, X * 2 + 1, none⟩) hw4 (.int .i64 1))
  go_wp2
  refine bodyPost_ret (v := .tuple #[.agg #[.int .i64 c, .int .i64 h, .int .i64 p, .int .i64 s, .slice (some ⟨g4, 0, none⟩) l.length c4, .int .i64 k, .int .i64 r, .slice (some ⟨g7, 0, none⟩) m.length c7], .int .i64 0]) (by simp [results, Try.results6, go_sem, World.cell?_setCell_other, z0, z1, z2, z3, z4, z5, z6, z7]) rfl ⟨_, _, by rw [HR.out.1, HR.out.2]; rfl, ?_, ?_, hne, ?_⟩
  · rw [HR.out.1, HL.out, List.length_set, ← HP.out]
    have o3 : OO _ (w.heap.size + 2) _ _ _ _ (putV (flat fSector l) (X * 2) (fSector ⟨dat, 1⟩)) := own_base (base' := w.heap.size + 2) o2 (by omega)
    exact own_base (base' := w.heap.size) ((((((((o3.put (a := ⟨w.heap.size + 1, 0, none⟩) (by simp) (.int .i64 c)).put (a := ⟨w.heap.size + 1, 1, none⟩) (by simp) (.int .i64 h)).put (a := ⟨w.heap.size + 1, 2, none⟩) (by simp) (.int .i64 p)).put (a := ⟨w.heap.size + 1, 3, none⟩) (by simp) (.int .i64 s)).put (a := ⟨w.heap.size + 1, 4, none⟩) (by simp) (.slice (some ⟨g4, 0, none⟩) l.length c4)).put (a := ⟨w.heap.size + 1, 5, none⟩) (by simp) (.int .i64 k)).put (a := ⟨w.heap.size + 1, 6, none⟩) (by simp) (.int .i64 r)).put (a := ⟨w.heap.size + 1, 7, none⟩) (by simp) (.slice (some ⟨g7, 0, none⟩) m.length c7)) (by omega)
  · rw [HR.out.1, show wdM true m = m from rfl]
    have o3 : OO _ (w.heap.size + 2) _ _ _ _ _ := own_base (base' := w.heap.size + 2) o7 (by omega)
    exact own_base (base' := w.heap.size) ((((((((o3.put (a := ⟨w.heap.size + 1, 0, none⟩) (by simp) (.int .i64 c)).put (a := ⟨w.heap.size + 1, 1, none⟩) (by simp) (.int .i64 h)).put (a := ⟨w.heap.size + 1, 2, none⟩) (by simp) (.int .i64 p)).put (a := ⟨w.heap.size + 1, 3, none⟩) (by simp) (.int .i64 s)).put (a := ⟨w.heap.size + 1, 4, none⟩) (by simp) (.slice (some ⟨g4, 0, none⟩) l.length c4)).put (a := ⟨w.heap.size + 1, 5, none⟩) (by simp) (.int .i64 k)).put (a := ⟨w.heap.size + 1, 6, none⟩) (by simp) (.int .i64 r)).put (a := ⟨w.heap.size + 1, 7, none⟩) (by simp) (.slice (some ⟨g7, 0, none⟩) m.length c7)) (by omega)
  · exact ((((((((hBq.put (a := ⟨w.heap.size + 1, 0, none⟩) (by simp) (.int .i64 c)).put (a := ⟨w.heap.size + 1, 1, none⟩) (by simp) (.int .i64 h)).put (a := ⟨w.heap.size + 1, 2, none⟩) (by simp) (.int .i64 p)).put (a := ⟨w.heap.size + 1, 3, none⟩) (by simp) (.int .i64 s)).put (a := ⟨w.heap.size + 1, 4, none⟩) (by simp) (.slice (some ⟨g4, 0, none⟩) l.length c4)).put (a := ⟨w.heap.size + 1, 5, none⟩) (by simp) (.int .i64 k)).put (a := ⟨w.heap.size + 1, 6, none⟩) (by simp) (.int .i64 r)).put (a := ⟨w.heap.size + 1, 7, none⟩) (by simp) (.slice (some ⟨g7, 0, none⟩) m.length c7))
end Go.Proofs.Ytcfeelecfmepaaa
namespace Go.Proofs.Ytcfeelecfmepaaa
set_option linter.unusedVariables false
open Go.RowKit

set_option maxRecDepth 100000 in
set_option maxHeartbeats 4000000 in
theorem impl_ReplaceBlock_any (c h p s : Int) (A : Option Addr) (cp : Nat) (l : List DSector) (k r : Int) (N : Option Addr) (q : Nat) (m : List Int) (b : Int) (w : World) (hr : Rd w w.heap.size 2 A l.length (flat fSector l)) (hn : l.length ≤ 1048576) (hok : ∀ x ∈ l, okSector x) (kr : Rd w w.heap.size 1 N m.length (flat fI m)) (kn : m.length ≤ 1048576) (hqc : m.length ≤ q) :
    Calls Try.prog 10 #[.agg #[.int .i64 c, .int .i64 h, .int .i64 p, .int .i64 s, .slice A l.length cp, .int .i64 k, .int .i64 r, .slice N m.length q], .int .i64 b] w fun e w' => ∃ (v4 v7 : Value), e = .returned (.tuple #[.agg #[.int .i64 (ptN (rpOk (okV (okD c h p s l) l.length k r m) m.length b (frB (ordT p.toNat k.toNat (c * h).toNat) m)) c), .int .i64 (ptN (rpOk (okV (okD c h p s l) l.length k r m) m.length b (frB (ordT p.toNat k.toNat (c * h).toNat) m)) h), .int .i64 (ptN (rpOk (okV (okD c h p s l) l.length k r m) m.length b (frB (ordT p.toNat k.toNat (c * h).toNat) m)) p), .int .i64 (ptN (rpOk (okV (okD c h p s l) l.length k r m) m.length b (frB (ordT p.toNat k.toNat (c * h).toNat) m)) s), v4, .int .i64 (ptN (rpOk (okV (okD c h p s l) l.length k r m) m.length b (frB (ordT p.toNat k.toNat (c * h).toNat) m)) k), .int .i64 (ptN (rpOk (okV (okD c h p s l) l.length k r m) m.length b (frB (ordT p.toNat k.toNat (c * h).toNat) m)) r), v7], .int .i64 (rpC (okV (okD c h p s l) l.length k r m) m.length b (frB (ordT p.toNat k.toNat (c * h).toNat) m))]) ∧ w'.ownsRow w.heap.size 53 2 v4 (rpL (rpOk (okV (okD c h p s l) l.length k r m) m.length b (frB (ordT p.toNat k.toNat (c * h).toNat) m)) l m b (frB (ordT p.toNat k.toNat (c * h).toNat) m) (zerosB (szB s).toNat)).length (flat fSector (rpL (rpOk (okV (okD c h p s l) l.length k r m) m.length b (frB (ordT p.toNat k.toNat (c * h).toNat) m)) l m b (frB (ordT p.toNat k.toNat (c * h).toNat) m) (zerosB (szB s).toNat))) ∧ w'.ownsRow w.heap.size 2 1 v7 (rpM (rpOk (okV (okD c h p s l) l.length k r m) m.length b (frB (ordT p.toNat k.toNat (c * h).toNat) m)) m b (frB (ordT p.toNat k.toNat (c * h).toNat) m)).length (flat fI (rpM (rpOk (okV (okD c h p s l) l.length k r m) m.length b (frB (ordT p.toNat k.toNat (c * h).toNat) m)) m b (frB (ordT p.toNat k.toNat (c * h).toNat) m))) ∧ (v4.ownBlock = none ∨ v4.ownBlock ≠ v7.ownBlock) ∧ Below w.heap.size w w' := by
  have F3 := (BX.made w 29 [.int .i64 c, .int .i64 h, .int .i64 p, .int .i64 s, .slice A l.length cp, .int .i64 k, .int .i64 r, .slice N m.length q]).al (.cells #[.int .i64 0, .int .i64 0, .int .i64 0, .int .i64 0, .slice none 0 0, .int .i64 0, .int .i64 0, .slice none 0 0] 29)
  have F6 := BX.made1 w (.cells #[.int .i64 c, .int .i64 h, .int .i64 p, .int .i64 s, .slice A l.length cp, .int .i64 k, .int .i64 r, .slice N m.length q] 29) 29 [.int .i64 0, .int .i64 0, .int .i64 0, .int .i64 0, .slice none 0 0, .int .i64 0, .int .i64 0, .slice none 0 0]
  obtain ⟨wb, hwb⟩ : ∃ wb, wb = (w.alloc (.cells #[.int .i64 c, .int .i64 h, .int .i64 p, .int .i64 s, .slice A l.length cp, .int .i64 k, .int .i64 r, .slice N m.length q] 29)).alloc (.cells #[.int .i64 0, .int .i64 0, .int .i64 0, .int .i64 0, .slice none 0 0, .int .i64 0, .int .i64 0, .slice none 0 0] 29) := ⟨_, rfl⟩
  rw [← hwb] at F3 F6
  have hb0 : Below w.heap.size w wb := by rw [hwb]; exact (by with_reducible repeat (first | exact Below.refl _ _ | assumption | refine below_step ?_ (by assumption) | refine Below.drew ?_ | refine below_drewN ?_ _ | refine below_alloc ?_ _ | refine Below.setCell ?_ (by simp; try omega) _))
  have hs0 : w.heap.size + 1 < wb.heap.size := F6.lt
  have hrb := (hr.below hb0).more hb0.size
  have krb := (kr.below hb0).more hb0.size
  have HW := Lib.hid hwb
  clear hwb
  have hq := checkBlock_any c h p s A cp l k r N q m b wb hrb hn hok krb kn hqc
  cases hv : okV (okD c h p s l) l.length k r m
  · have HV := Lib.hid hv
    have HA := Lib.hid (askC_1 (n := m.length) (b := b))
    clear hv
    have HR := Lib.hid (rp_1 (n := m.length) (b := b) (fr := frB (ordT p.toNat k.toNat (c * h).toNat) m))
    go_enter Try.func10, Try.ntmps10
    go_wp2_with ((go_at_call 20; rw [← HW.out]; refine hq.mono ?_; rintro e w2 ⟨rfl, hx⟩; rw [HV.out, HA.out]; replace F3 := F3.below hx F3.lt; replace F6 := F6.below hx F6.lt; have hB : BB w w2 := hb0.trans (hx.mono (by omega)); have e0 : (_ : Option Value) = some (.int .i64 c) := F3.cell 0 (by simp); have e1 : (_ : Option Value) = some (.int .i64 h) := F3.cell 1 (by simp); have e2 : (_ : Option Value) = some (.int .i64 p) := F3.cell 2 (by simp); have e3 : (_ : Option Value) = some (.int .i64 s) := F3.cell 3 (by simp); have e4 : (_ : Option Value) = some (.slice A l.length cp) := F3.cell 4 (by simp); have e5 : (_ : Option Value) = some (.int .i64 k) := F3.cell 5 (by simp); have e6 : (_ : Option Value) = some (.int .i64 r) := F3.cell 6 (by simp); have e7 : (_ : Option Value) = some (.slice N m.length q) := F3.cell 7 (by simp); have z0 : (_ : Option Value) = some (.int .i64 0) := F6.cell 0 (by simp); have z1 : (_ : Option Value) = some (.int .i64 0) := F6.cell 1 (by simp); have z2 : (_ : Option Value) = some (.int .i64 0) := F6.cell 2 (by simp); have z3 : (_ : Option Value) = some (.int .i64 0) := F6.cell 3 (by simp); have z4 : (_ : Option Value) = some (.slice none 0 0) := F6.cell 4 (by simp); have z5 : (_ : Option Value) = some (.int .i64 0) := F6.cell 5 (by simp); have z6 : (_ : Option Value) = some (.int .i64 0) := F6.cell 6 (by simp); have z7 : (_ : Option Value) = some (.slice none 0 0) := F6.cell 7 (by simp); have hfz := fun j => F6.free j; have mk1 := True.intro))
    refine bodyPost_ret (v := .tuple #[.agg #[.int .i64 0, .int .i64 0, .int .i64 0, .int .i64 0, .slice none 0 0, .int .i64 0, .int .i64 0, .slice none 0 0], .int .i64 1]) (by simp [results, Try.results10, go_sem, World.cell?_setCell_other, z0, z1, z2, z3, z4, z5, z6, z7]) rfl ⟨.slice none 0 0, .slice none 0 0, by rw [HR.out.1, HR.out.2]; rfl, ?_, ?_, .inl rfl, ?_⟩
    · rw [HR.out.1]; exact World.ownsRow_nil _ _ _ _
    · rw [HR.out.1]; exact World.ownsRow_nil _ _ _ _
    · exact (by with_reducible repeat (first | exact Below.refl _ _ | assumption | refine below_step ?_ (by assumption) | refine Below.drew ?_ | refine below_drewN ?_ _ | refine below_alloc ?_ _ | refine Below.setCell ?_ (by simp; try omega) _))
  have hall := (okV_yes hv).2.2.2.2
  have hgeo := okD_geo (okV_yes hv).1
  have hk7 := (okV_yes hv).2.1
  have HV := Lib.hid hv
  clear hv
  cases g1 : inB b 0 ((m.length : Int) - 1)
  · have HA := Lib.hid (askC_2 (n := m.length) g1)
    have HR := Lib.hid (rp_2 (n := m.length) (fr := frB (ordT p.toNat k.toNat (c * h).toNat) m) g1)
    go_enter Try.func10, Try.ntmps10
    go_wp2_with ((go_at_call 20; rw [← HW.out]; refine hq.mono ?_; rintro e w2 ⟨rfl, hx⟩; rw [HV.out, HA.out]; replace F3 := F3.below hx F3.lt; replace F6 := F6.below hx F6.lt; have hB : BB w w2 := hb0.trans (hx.mono (by omega)); have e0 : (_ : Option Value) = some (.int .i64 c) := F3.cell 0 (by simp); have e1 : (_ : Option Value) = some (.int .i64 h) := F3.cell 1 (by simp); have e2 : (_ : Option Value) = some (.int .i64 p) := F3.cell 2 (by simp); have e3 : (_ : Option Value) = some (.int .i64 s) := F3.cell 3 (by simp); have e4 : (_ : Option Value) = some (.slice A l.length cp) := F3.cell 4 (by simp); have e5 : (_ : Option Value) = some (.int .i64 k) := F3.cell 5 (by simp); have e6 : (_ : Option Value) = some (.int .i64 r) := F3.cell 6 (by simp); have e7 : (_ : Option Value) = some (.slice N m.length q) := F3.cell 7 (by simp); have z0 : (_ : Option Value) = some (.int .i64 0) := F6.cell 0 (by simp); have z1 : (_ : Option Value) = some (.int .i64 0) := F6.cell 1 (by simp); have z2 : (_ : Option Value) = some (.int .i64 0) := F6.cell 2 (by simp); have z3 : (_ : Option Value) = some (.int .i64 0) := F6.cell 3 (by simp); have z4 : (_ : Option Value) = some (.slice none 0 0) := F6.cell 4 (by simp); have z5 : (_ : Option Value) = some (.int .i64 0) := F6.cell 5 (by simp); have z6 : (_ : Option Value) = some (.int .i64 0) := F6.cell 6 (by simp); have z7 : (_ : Option Value) = some (.slice none 0 0) := F6.cell 7 (by simp); have hfz := fun j => F6.free j; have mk1 := True.intro))
    refine bodyPost_ret (v := .tuple #[.agg #[.int .i64 0, .int .i64 0, .int .i64 0, .int .i64 0, .slice none 0 0, .int .i64 0, .int .i64 0, .slice none 0 0], .int .i64 2]) (by simp [results, Try.results10, go_sem, World.cell?_setCell_other, z0, z1, z2, z3, z4, z5, z6, z7]) rfl ⟨.slice none 0 0, .slice none 0 0, by rw [HR.out.1, HR.out.2]; rfl, ?_, ?_, .inl rfl, ?_⟩
    · rw [HR.out.1]; exact World.ownsRow_nil _ _ _ _
    · rw [HR.out.1]; exact World.ownsRow_nil _ _ _ _
    · exact (by with_reducible repeat (first | exact Below.refl _ _ | assumption | refine below_step ?_ (by assumption) | refine Below.drew ?_ | refine below_drewN ?_ _ | refine below_alloc ?_ _ | refine Below.setCell ?_ (by simp; try omega) _))
  have HA := Lib.hid (askC_3 (n := m.length) g1)
  obtain ⟨b0, b1⟩ := inB_yes g1
  obtain ⟨B, rfl⟩ : ∃ B : Nat, b = (B : Int) := ⟨b.toNat, by omega⟩
  have hlt : B < m.length := by omega
  have hlti : (B : Int) < (m.length : Int) := by omega
  obtain ⟨x0, x1⟩ := hall m[B] (List.getElem_mem hlt)
  obtain ⟨X, hX⟩ : ∃ X : Nat, m[B] = (X : Int) := ⟨m[B].toNat, by omega⟩
  have hXl : X < l.length := by omega
  have hXi : (X : Int) < (l.length : Int) := by omega
  have hpos : 0 < l.length := by omega
  have hposm : 0 < m.length := by omega
  obtain ⟨kk0, kk1⟩ := inB_yes hk7
  obtain ⟨K, rfl⟩ : ∃ K : Nat, k = (K : Int) := ⟨k.toNat, by omega⟩
  obtain ⟨c1, c2, h1, h2, p1, p2, s1, s2⟩ := geoB_yes hgeo.1
  obtain ⟨m1, m2⟩ := prod2 c1 c2 h1 h2
  obtain ⟨P, rfl⟩ : ∃ P : Nat, p = (P : Int) := ⟨p.toNat, by omega⟩
  obtain ⟨T, hT⟩ : ∃ T : Nat, c * h = (T : Int) := ⟨(c * h).toNat, by omega⟩
  have hNT : l.length = T * P := by
    have := hgeo.2.1
    rw [hT] at this
    omega
  have hmem : ∀ x ∈ ordT P K T, 0 ≤ x ∧ x < (l.length : Int) := by rw [hNT]; exact ordT_mem P K (by omega) T
  have hoL : (ordT P K T).length = l.length := by rw [ordT_len, hNT]
  have hord := fun (W : World) => sectorOrder_any c h s A l.length cp T P K W hT (by omega) (by omega) (by omega) (by omega)
  rw [show frB (ordT (P : Int).toNat (K : Int).toNat (c * h).toNat) m = frB (ordT P K T) m by rw [hT, Int.toNat_natCast, Int.toNat_natCast, Int.toNat_natCast]]
  obtain ⟨nb, y1, y2, y3, y4⟩ := szB_nat s1 s2
  rw [y4]
  obtain ⟨ba, off, rfl, hba, hc⟩ := kr.at_ fI_len rfl B hlt
  have hm0 := hc 0 _ (by omega) rfl
  clear hc
  simp only [Nat.mul_one, Nat.add_zero] at hm0
  rw [hX] at hm0
  obtain ⟨b2, off2, rfl, hb2, hcc⟩ := hr.at_ fSector_len rfl X hXl
  have hs0' := hcc 0 _ (by omega) rfl
  have hs1' := hcc 1 _ (by omega) rfl
  clear hcc
  simp only [← Nat.add_assoc, Nat.add_zero] at hs0' hs1'
  obtain ⟨dat, hdat⟩ : ∃ d, l[X].f0 = d := ⟨_, rfl⟩
  obtain ⟨st, hst⟩ : ∃ d, l[X].f1 = d := ⟨_, rfl⟩
  rw [hdat] at hs0'
  rw [hst] at hs1'
  have HLL := fun (Y : Nat) (hf : frB (ordT P K T) m = some (Y : Int)) => rp_L (z := zerosB nb) hlt hX hXl hdat hst hf
  have HMM := fun (Y : Nat) (hf : frB (ordT P K T) m = some (Y : Int)) => rp_M (m := m) (B := B) hf
  generalize ordT P K T = ord at *
  have hposo : 0 < ord.length := by omega
  clear hT hNT hgeo c1 c2 h1 h2 m1 m2 p2 kk0 x0 x1 hX hdat hst hall hk7
  go_enter Try.func10, Try.ntmps10
  go_wp2_with (first
        | (go_at_call 27; have := mk1; refine (hord _).mono ?_; rintro e w5 ⟨v5, rfl, ho5, hx5⟩; obtain ⟨g5, c5, hv⟩ := Go.Joins.ownsRow_form ho5 hposo; cases hv; have lt5 := World.ownsRow.lt ho5 g5 rfl; have l6 := F6.lt; clear e0 e1 e2 e3 e4 e5 e6 e7 z0 z1 z2 z3 z4 z5 z6 z7 hfz; replace F3 := BX.below F3 hx5 F3.lt; replace F6 := BX.below F6 hx5 F6.lt; replace hB := BB.next hB hx5)
        | (go_at_call 20; rw [← HW.out]; refine hq.mono ?_; rintro e w2 ⟨rfl, hx⟩; rw [HV.out, HA.out]; replace F3 := F3.below hx F3.lt; replace F6 := F6.below hx F6.lt; have hB : BB w w2 := hb0.trans (hx.mono (by omega)); have e0 : (_ : Option Value) = some (.int .i64 c) := F3.cell 0 (by simp); have e1 : (_ : Option Value) = some (.int .i64 h) := F3.cell 1 (by simp); have e2 : (_ : Option Value) = some (.int .i64 (P : Int)) := F3.cell 2 (by simp); have e3 : (_ : Option Value) = some (.int .i64 s) := F3.cell 3 (by simp); have e4 : (_ : Option Value) = some (.slice (some ⟨b2, off2, none⟩) l.length cp) := F3.cell 4 (by simp); have e5 : (_ : Option Value) = some (.int .i64 (K : Int)) := F3.cell 5 (by simp); have e6 : (_ : Option Value) = some (.int .i64 r) := F3.cell 6 (by simp); have e7 : (_ : Option Value) = some (.slice (some ⟨ba, off, none⟩) m.length q) := F3.cell 7 (by simp); have z0 : (_ : Option Value) = some (.int .i64 0) := F6.cell 0 (by simp); have z1 : (_ : Option Value) = some (.int .i64 0) := F6.cell 1 (by simp); have z2 : (_ : Option Value) = some (.int .i64 0) := F6.cell 2 (by simp); have z3 : (_ : Option Value) = some (.int .i64 0) := F6.cell 3 (by simp); have z4 : (_ : Option Value) = some (.slice none 0 0) := F6.cell 4 (by simp); have z5 : (_ : Option Value) = some (.int .i64 0) := F6.cell 5 (by simp); have z6 : (_ : Option Value) = some (.int .i64 0) := F6.cell 6 (by simp); have z7 : (_ : Option Value) = some (.slice none 0 0) := F6.cell 7 (by simp); have hfz := fun j => F6.free j; have mk1 := True.intro))
  clear hq hord HW hrb krb hb0 hs0
  go_loopw [25] (fun i wr => ∃ j : Nat, j ≤ ord.length ∧ i = .int .i64 j ∧ Below w5.heap.size w5 wr ∧ Hid (frB (ord.drop j) m = frB ord m)) (fun i _ => ord.length - (intOf i).toNat)
  case atStart => exact ⟨0, Nat.zero_le _, rfl, Below.refl _ _, Lib.hid rfl⟩
  case round =>
    obtain ⟨j, hj, rfl, hbl, HF⟩ := hrel
    replace F3 := BX.below F3 hbl F3.lt
    replace F6 := BX.below F6 hbl F6.lt
    replace ho5 := OO.next ho5 hbl
    replace hB := BB.next hB hbl
    by_cases hjl : j < ord.length
    rotate_left
    · have hjn : ¬ (j : Int) < (ord.length : Int) := by omega
      have HR := Lib.hid (rp_3 g1 (fr_end hjl HF.out))
      have z0 : (_ : Option Value) = some (.int .i64 0) := F6.cell 0 (by simp)
      have z1 : (_ : Option Value) = some (.int .i64 0) := F6.cell 1 (by simp)
      have z2 : (_ : Option Value) = some (.int .i64 0) := F6.cell 2 (by simp)
      have z3 : (_ : Option Value) = some (.int .i64 0) := F6.cell 3 (by simp)
      have z4 : (_ : Option Value) = some (.slice none 0 0) := F6.cell 4 (by simp)
      have z5 : (_ : Option Value) = some (.int .i64 0) := F6.cell 5 (by simp)
      have z6 : (_ : Option Value) = some (.int .i64 0) := F6.cell 6 (by simp)
      have z7 : (_ : Option Value) = some (.slice none 0 0) := F6.cell 7 (by simp)
      have hfz := fun j => F6.free j
      have hBw : Below w.heap.size w wr := hB
      go_wp2
      refine bodyPost_ret (v := .tuple #[.agg #[.int .i64 0, .int .i64 0, .int .i64 0, .int .i64 0, .slice none 0 0, .int .i64 0, .int .i64 0, .slice none 0 0], .int .i64 5]) (by simp [results, Try.results10, go_sem, World.cell?_setCell_other, z0, z1, z2, z3, z4, z5, z6, z7]) rfl ⟨.slice none 0 0, .slice none 0 0, by rw [HR.out.1, HR.out.2]; rfl, ?_, ?_, .inl rfl, ?_⟩
      · rw [HR.out.1]; exact World.ownsRow_nil _ _ _ _
      · rw [HR.out.1]; exact World.ownsRow_nil _ _ _ _
      · exact (by with_reducible repeat (first | exact Below.refl _ _ | assumption | refine below_step ?_ (by assumption) | refine Below.drew ?_ | refine below_drewN ?_ _ | refine below_alloc ?_ _ | refine Below.setCell ?_ (by simp; try omega) _))
    have hji : (j : Int) < (ord.length : Int) := by omega
    have oR := Rd.of_own ho5
    obtain ⟨bo, offo, hbo, hbo2, hc⟩ := oR.at_ fI_len rfl j hjl
    cases hbo
    have hc0 := hc 0 _ (by omega) rfl
    clear hc oR
    simp only [Nat.mul_one, Nat.zero_add, Nat.add_zero] at hc0
    obtain ⟨x0, x1⟩ := hmem ord[j] (List.getElem_mem hjl)
    obtain ⟨Y, hY⟩ : ∃ Y : Nat, ord[j] = (Y : Int) := ⟨ord[j].toNat, by omega⟩
    have hYl : Y < l.length := by omega
    have hYi : (Y : Int) < (l.length : Int) := by omega
    have FN := fun g => fr_next hjl HF.out g
    have FH := fun g => fr_here hjl HF.out g
    rw [hY] at hc0 FN FH
    clear x0 x1 hY
    have krr := (kr.below hB).more hB.size
    have hq := contains_rd (some ⟨ba, off, none⟩) q m m.length (Y : Int) wr wr.heap.size krr (Nat.le_refl _) kn
    rw [List.take_length, show m.contains (Y : Int) = hasB m (Y : Int) from rfl] at hq
    have e0 : (_ : Option Value) = some (.int .i64 c) := F3.cell 0 (by simp)
    have e1 : (_ : Option Value) = some (.int .i64 h) := F3.cell 1 (by simp)
    have e2 : (_ : Option Value) = some (.int .i64 (P : Int)) := F3.cell 2 (by simp)
    have e3 : (_ : Option Value) = some (.int .i64 s) := F3.cell 3 (by simp)
    have e4 : (_ : Option Value) = some (.slice (some ⟨b2, off2, none⟩) l.length cp) := F3.cell 4 (by simp)
    have e5 : (_ : Option Value) = some (.int .i64 (K : Int)) := F3.cell 5 (by simp)
    have e6 : (_ : Option Value) = some (.int .i64 r) := F3.cell 6 (by simp)
    have e7 : (_ : Option Value) = some (.slice (some ⟨ba, off, none⟩) m.length q) := F3.cell 7 (by simp)
    cases hcc : hasB m (Y : Int)
    rotate_left
    · rw [hcc] at hq
      have HN := Lib.hid (FN hcc)
      go_wp2_with (go_at_call 28; refine hq.mono ?_; rintro e w6 ⟨rfl, rfl⟩)
      go_roundw
      case rel => exact ⟨j + 1, by omega, by go_num, hbl, HN⟩
      case measure => (simp [intOf] <;> omega)
    rw [hcc] at hq
    have hfr := FH hcc
    have HR := Lib.hid (rp_4 (n := m.length) g1 hfr)
    have HL := Lib.hid (HLL Y hfr)
    have HM := Lib.hid (HMM Y hfr)
    clear hcc FN FH HLL HMM HF hmem g1
    go_upto_region 10 with (first
          | (go_at_call 25; refine (zeros_any nb _ (by omega)).mono ?_; rintro e w8 ⟨rfl, hx8⟩; clear e3 e3al; replace F3 := BX.al F3 (.cells #[.int .i64 c, .int .i64 h, .int .i64 (P : Int), .int .i64 s, .slice (some ⟨g4, 0, none⟩) l.length c4, .int .i64 (K : Int), .int .i64 r, .slice (some ⟨g7, 0, none⟩) m.length c7] 29); replace F6 := BX.al F6 (.cells #[.int .i64 c, .int .i64 h, .int .i64 (P : Int), .int .i64 s, .slice (some ⟨g4, 0, none⟩) l.length c4, .int .i64 (K : Int), .int .i64 r, .slice (some ⟨g7, 0, none⟩) m.length c7] 29); replace ho4 := OO.al ho4 (.cells #[.int .i64 c, .int .i64 h, .int .i64 (P : Int), .int .i64 s, .slice (some ⟨g4, 0, none⟩) l.length c4, .int .i64 (K : Int), .int .i64 r, .slice (some ⟨g7, 0, none⟩) m.length c7] 29); replace ho7 := OO.al ho7 (.cells #[.int .i64 c, .int .i64 h, .int .i64 (P : Int), .int .i64 s, .slice (some ⟨g4, 0, none⟩) l.length c4, .int .i64 (K : Int), .int .i64 r, .slice (some ⟨g7, 0, none⟩) m.length c7] 29); replace hB := BB.al hB (.cells #[.int .i64 c, .int .i64 h, .int .i64 (P : Int), .int .i64 s, .slice (some ⟨g4, 0, none⟩) l.length c4, .int .i64 (K : Int), .int .i64 r, .slice (some ⟨g7, 0, none⟩) m.length c7] 29); have F8 := BX.made w7 29 [.int .i64 c, .int .i64 h, .int .i64 (P : Int), .int .i64 s, .slice (some ⟨g4, 0, none⟩) l.length c4, .int .i64 (K : Int), .int .i64 r, .slice (some ⟨g7, 0, none⟩) m.length c7]; replace F3 := BX.below F3 hx8 F3.lt; replace F6 := BX.below F6 hx8 F6.lt; replace F8 := BX.below F8 hx8 F8.lt; replace ho4 := OO.next ho4 hx8; replace ho7 := OO.next ho7 hx8; replace hB := BB.next hB hx8; have mk4 := True.intro)
          | (go_at_call 21; refine (sizeBytes_any s s1 s2 _).mono ?_; rintro e w9' ⟨rfl, rfl⟩; rw [y1])
          | (go_at_call 22; refine (cloneDevice_any c h (P : Int) s _ cp l (K : Int) r _ q m _ ((hr.below hB).more hB.size) hn ((kr.below hB).more hB.size) kn).mono ?_; rintro e w7 ⟨v4, v7, rfl, ho4, ho7, hne, hx7⟩; obtain ⟨g4, c4, hv⟩ := Go.Joins.ownsRow_form ho4 hpos; cases hv; obtain ⟨g7, c7, hv⟩ := Go.Joins.ownsRow_form ho7 hposm; cases hv; have hc7 := own_cap ho7; have lt4 := World.ownsRow.lt ho4 g4 rfl; have lt7 := World.ownsRow.lt ho7 g7 rfl; have l6' := F6.lt; clear e0 e1 e2 e3 e4 e5 e6 e7; replace F3 := BX.below F3 hx7 F3.lt; replace F6 := BX.below F6 hx7 F6.lt; replace hB := BB.next hB hx7; have e3 : (_ : Option Value) = some (.int .i64 s) := F3.cell 3 (by simp); have e3al := fun (o : Obj) => (show (_ : Option Value) = some (.int .i64 s) from (F3.al o).cell 3 (by simp)); have mk3 := True.intro)
          | (go_at_call 28; refine hq.mono ?_; rintro e w6 ⟨rfl, rfl⟩))
    generalize hG : w7.heap.size = G at F8 lt4 lt7 hx7 ⊢
    clear hq
    have ltT := F8.lt
    have lt4b := World.ownsRow.lt ho4 g4 rfl
    have lt7b := World.ownsRow.lt ho7 g7 rfl
    replace F3 := BX.al F3 (.cells #[.string (zerosB nb), .int .i64 1] 53)
    replace F6 := BX.al F6 (.cells #[.string (zerosB nb), .int .i64 1] 53)
    replace F8 := BX.al F8 (.cells #[.string (zerosB nb), .int .i64 1] 53)
    replace ho4 := OO.al ho4 (.cells #[.string (zerosB nb), .int .i64 1] 53)
    replace ho7 := OO.al ho7 (.cells #[.string (zerosB nb), .int .i64 1] 53)
    replace hB := BB.al hB (.cells #[.string (zerosB nb), .int .i64 1] 53)
    have FT := BX.made w8 53 [.string (zerosB nb), .int .i64 1]
    generalize hGT : w8.heap.size = GT at FT ltT lt4b lt7b ⊢
    generalize w8.alloc (.cells #[.string (zerosB nb), .int .i64 1] 53) = w9 at *
    have l36 := F3.lt
    have n84 : G ≠ g4 := by omega
    have n87 : G ≠ g7 := by omega
    have n64 : w.heap.size + 1 ≠ g4 := by omega
    have n67 : w.heap.size + 1 ≠ g7 := by omega
    have n74 : g7 ≠ g4 := by
      intro e
      rcases hne with h | h
      · cases h
      · exact h (by rw [e]; rfl)
    have o74 : (Value.slice (some ⟨g7, 0, none⟩) m.length c7).ownBlock ≠ some g4 := fun e => n74 (by injection e)
    have o47 : (Value.slice (some ⟨g4, 0, none⟩) l.length c4).ownBlock ≠ some g7 := fun e => n74 (by injection e with e; exact e.symm)
    have hw4 : w.heap.size ≤ g4 := by omega
    have hw7 : w.heap.size ≤ g7 := by omega
    have hw4' : w.heap.size + 2 ≤ g4 := by omega
    have hw7' : w.heap.size + 2 ≤ g7 := by omega
    have kb0 : Y * 2 < l.length * 2 := by omega
    have kb1 : Y * 2 + 1 < l.length * 2 := by omega
    have nT6 : w.heap.size + 1 ≠ GT := by omega
    have nT8 : G ≠ GT := by omega
    have oT4 : (Value.slice (some ⟨g4, 0, none⟩) l.length c4).ownBlock ≠ some GT := fun e => absurd (show g4 = GT by injection e) (by omega)
    have oT7 : (Value.slice (some ⟨g7, 0, none⟩) m.length c7).ownBlock ≠ some GT := fun e => absurd (show g7 = GT by injection e) (by omega)
    have hwT : w.heap.size ≤ GT := by omega
    have a0 := (hB.cell (p := ⟨ba, off + B, none⟩) hba).trans hm0
    have a1 := (hB.cell (p := ⟨b2, off2 + X * 2, none⟩) hb2).trans hs0'
    have a2 := (hB.cell (p := ⟨b2, off2 + X * 2 + 1, none⟩) hb2).trans hs1'
    have a3 : (_ : Option Value) = some (.slice (some ⟨b2, off2, none⟩) l.length cp) := F3.cell 4 (by simp)
    have a4 : (_ : Option Value) = some (.slice (some ⟨ba, off, none⟩) m.length q) := F3.cell 7 (by simp)
    have n0 := World.new_ne w9 _ a0
    have n1 := World.new_ne w9 _ a1
    have n2 := World.new_ne w9 _ a2
    have n3 := World.new_ne w9 _ a3
    have n4 := World.new_ne w9 _ a4
    go_region_held3 (fun W => W.cell? ⟨ba, off + B, none⟩ = some (.int .i64 (X : Int)) ∧ W.cell? ⟨b2, off2 + X * 2, none⟩ = some (.string dat) ∧ W.cell? ⟨b2, off2 + X * 2 + 1, none⟩ = some (.int .i64 st) ∧ W.cell? ⟨w.heap.size, 4, none⟩ = some (.slice (some ⟨b2, off2, none⟩) l.length cp) ∧ W.cell? ⟨w.heap.size, 7, none⟩ = some (.slice (some ⟨ba, off, none⟩) m.length q)) (go_keep) (fail)
    go_upto_region 11 with fail
    clear n0 n1 n2 n3 n4 a0 a1 a2 a3 a4 F3
    have ltS := FT.lt
    replace F6 := BX.al F6 (.cells #[.string dat, .int .i64 st] 53)
    replace F8 := BX.al F8 (.cells #[.string dat, .int .i64 st] 53)
    replace FT := BX.al FT (.cells #[.string dat, .int .i64 st] 53)
    replace ho4 := OO.al ho4 (.cells #[.string dat, .int .i64 st] 53)
    replace ho7 := OO.al ho7 (.cells #[.string dat, .int .i64 st] 53)
    replace hB := BB.al hB (.cells #[.string dat, .int .i64 st] 53)
    replace F6 := BX.dr F6
    replace F8 := BX.dr F8
    replace FT := BX.dr FT
    replace ho4 : OO _ _ _ _ _ _ _ := OO.dr ho4
    replace ho7 : OO _ _ _ _ _ _ _ := OO.dr ho7
    replace hB : BB w _ := BB.dr hB
    have FS : BX (w9.alloc (.cells #[.string dat, .int .i64 st] 53)).drew w9.heap.size 53 [.string dat, .int .i64 st] := BX.made w9 53 [.string dat, .int .i64 st]
    generalize hGS : w9.heap.size = GS at FS ltS ⊢
    generalize (w9.alloc (.cells #[.string dat, .int .i64 st] 53)).drew = w10 at *
    clear hGS
    have f0 : (_ : Option Value) = some (.string dat) := FS.cell 0 (by simp)
    have f1 : (_ : Option Value) = some (.int .i64 st) := FS.cell 1 (by simp)
    cases g : rdB st
    · have HL2 := HL.out
      rw [g] at HL2
      simp only [Bool.false_eq_true, if_false] at HL2
      go_upto_region 13 with (go_at_call 23; refine (isRead_any dat st _).mono ?_; rintro e w11 ⟨rfl, hx11⟩; rw [g]; replace F6 := BX.below F6 hx11 F6.lt; replace F8 := BX.below F8 hx11 F8.lt; replace FT := BX.below FT hx11 FT.lt; replace FS := BX.below FS hx11 FS.lt; replace ho4 := OO.next ho4 hx11; replace ho7 := OO.next ho7 hx11; replace hB := BB.next hB hx11; clear f0 f1; have f0 : (_ : Option Value) = some (.string dat) := FS.cell 0 (by simp); have t0 : (_ : Option Value) = some (.string (zerosB nb)) := FT.cell 0 (by simp); have f2 := fun j => FT.free j)
      clear f0 t0 f2 FS
      generalize w11 = w12 at *
      have d4 : (_ : Option Value) = some (.slice (some ⟨g4, 0, none⟩) l.length c4) := F8.cell 4 (by simp)
      have f0 : (_ : Option Value) = some (.string (zerosB nb)) := FT.cell 0 (by simp)
      have f1 : (_ : Option Value) = some (.int .i64 1) := FT.cell 1 (by simp)
      have o1 := World.ownsRow.stored ho4 (Y * 2) (.string (zerosB nb)) |>.1
      have o2 := World.ownsRow.stored o1 (Y * 2 + 1) (.int .i64 1) |>.1
      obtain ⟨u0, hu0⟩ := own_some ho4 (Y * 2) kb0
      have hz0 := World.ownsRow.frozenAt ho4 (Y * 2)
      obtain ⟨u2, hu2⟩ := own_some o1 (Y * 2 + 1) kb1
      have hz2 := World.ownsRow.frozenAt o1 (Y * 2 + 1)
      go_upto_region 14 with fail
      replace F6 := ((F6.far (a := ⟨g4, Y * 2, none⟩) n64 (.string (zerosB nb))).far (a := ⟨g4, Y * 2 + 1, none⟩) n64 (.int .i64 1))
      replace F8 := ((F8.far (a := ⟨g4, Y * 2, none⟩) n84 (.string (zerosB nb))).far (a := ⟨g4, Y * 2 + 1, none⟩) n84 (.int .i64 1))
      replace ho7 := ((ho7.putne (a := ⟨g4, Y * 2, none⟩) o74 (.string (zerosB nb))).putne (a := ⟨g4, Y * 2 + 1, none⟩) o74 (.int .i64 1))
      replace hB := ((hB.put (a := ⟨g4, Y * 2, none⟩) hw4 (.string (zerosB nb))).put (a := ⟨g4, Y * 2 + 1, none⟩) hw4 (.int .i64 1))
      clear hu0 hz0 hu2 hz2 o1 d4 f0 f1 ho4 FT
      generalize ((w12.setCell ⟨g4, Y * 2, none⟩ (.string (zerosB nb))).setCell ⟨g4, Y * 2 + 1, none⟩ (.int .i64 1)) = w14 at F6 F8 ho7 hB o2 ⊢
      have d7 : (_ : Option Value) = some (.slice (some ⟨g7, 0, none⟩) m.length c7) := F8.cell 7 (by simp)
      have o7 := World.ownsRow.stored ho7 B (.int .i64 (Y : Int)) |>.1
      obtain ⟨u7, hu7⟩ := own_some ho7 B (by omega)
      have hz7 := World.ownsRow.frozenAt ho7 B
      have P8 := (F8.far (a := ⟨g7, B, none⟩) n87 (.int .i64 (Y : Int)))
      have P6 := (F6.far (a := ⟨g7, B, none⟩) n67 (.int .i64 (Y : Int)))
      have o4 := OO.putne (a := ⟨g7, B, none⟩) o2 o47 (.int .i64 (Y : Int))
      have hBq := (hB.put (a := ⟨g7, B, none⟩) hw7 (.int .i64 (Y : Int)))
      have q_0 : (_ : Option Value) = some (.int .i64 c) := P8.cell 0 (by simp)
      have q_1 : (_ : Option Value) = some (.int .i64 h) := P8.cell 1 (by simp)
      have q_2 : (_ : Option Value) = some (.int .i64 (P : Int)) := P8.cell 2 (by simp)
      have q_3 : (_ : Option Value) = some (.int .i64 s) := P8.cell 3 (by simp)
      have q_4 : (_ : Option Value) = some (.slice (some ⟨g4, 0, none⟩) l.length c4) := P8.cell 4 (by simp)
      have q_5 : (_ : Option Value) = some (.int .i64 (K : Int)) := P8.cell 5 (by simp)
      have q_6 : (_ : Option Value) = some (.int .i64 r) := P8.cell 6 (by simp)
      have q_7 : (_ : Option Value) = some (.slice (some ⟨g7, 0, none⟩) m.length c7) := P8.cell 7 (by simp)
      have z0 : (_ : Option Value) = some (.int .i64 0) := P6.cell 0 (by simp)
      have z1 : (_ : Option Value) = some (.int .i64 0) := P6.cell 1 (by simp)
      have z2 : (_ : Option Value) = some (.int .i64 0) := P6.cell 2 (by simp)
      have z3 : (_ : Option Value) = some (.int .i64 0) := P6.cell 3 (by simp)
      have z4 : (_ : Option Value) = some (.slice none 0 0) := P6.cell 4 (by simp)
      have z5 : (_ : Option Value) = some (.int .i64 0) := P6.cell 5 (by simp)
      have z6 : (_ : Option Value) = some (.int .i64 0) := P6.cell 6 (by simp)
      have z7 : (_ : Option Value) = some (.slice none 0 0) := P6.cell 7 (by simp)
      have hfz := fun j => P6.free j
      go_wp2
      refine bodyPost_ret (v := .tuple #[.agg #[.int .i64 c, .int .i64 h, .int .i64 (P : Int), .int .i64 s, .slice (some ⟨g4, 0, none⟩) l.length c4, .int .i64 (K : Int), .int .i64 r, .slice (some ⟨g7, 0, none⟩) m.length c7], .int .i64 0]) (by simp [results, Try.results10, go_sem, World.cell?_setCell_other, z0, z1, z2, z3, z4, z5, z6, z7]) rfl ⟨_, _, by rw [HR.out.1, HR.out.2]; rfl, ?_, ?_, hne, ?_⟩
      · rw [HR.out.1, HL2, List.length_set, ← setS l Y hYl ⟨(zerosB nb), 1⟩]
        have o3 : OO _ (w.heap.size + 2) _ _ _ _ (putV (flat fSector l) (Y * 2) (fSector ⟨(zerosB nb), 1⟩)) := own_base (base' := w.heap.size + 2) o4 (by omega)
        exact own_base (base' := w.heap.size) ((((((((o3.put (a := ⟨w.heap.size + 1, 0, none⟩) (by simp) (.int .i64 c)).put (a := ⟨w.heap.size + 1, 1, none⟩) (by simp) (.int .i64 h)).put (a := ⟨w.heap.size + 1, 2, none⟩) (by simp) (.int .i64 (P : Int))).put (a := ⟨w.heap.size + 1, 3, none⟩) (by simp) (.int .i64 s)).put (a := ⟨w.heap.size + 1, 4, none⟩) (by simp) (.slice (some ⟨g4, 0, none⟩) l.length c4)).put (a := ⟨w.heap.size + 1, 5, none⟩) (by simp) (.int .i64 (K : Int))).put (a := ⟨w.heap.size + 1, 6, none⟩) (by simp) (.int .i64 r)).put (a := ⟨w.heap.size + 1, 7, none⟩) (by simp) (.slice (some ⟨g7, 0, none⟩) m.length c7)) (by omega)
      · rw [HR.out.1, HM.out, List.length_set, ← setI]
        have o3 : OO _ (w.heap.size + 2) _ _ _ _ ((flat fI m).set B (.int .i64 (Y : Int))) := own_base (base' := w.heap.size + 2) o7 (by omega)
        exact own_base (base' := w.heap.size) ((((((((o3.put (a := ⟨w.heap.size + 1, 0, none⟩) (by simp) (.int .i64 c)).put (a := ⟨w.heap.size + 1, 1, none⟩) (by simp) (.int .i64 h)).put (a := ⟨w.heap.size + 1, 2, none⟩) (by simp) (.int .i64 (P : Int))).put (a := ⟨w.heap.size + 1, 3, none⟩) (by simp) (.int .i64 s)).put (a := ⟨w.heap.size + 1, 4, none⟩) (by simp) (.slice (some ⟨g4, 0, none⟩) l.length c4)).put (a := ⟨w.heap.size + 1, 5, none⟩) (by simp) (.int .i64 (K : Int))).put (a := ⟨w.heap.size + 1, 6, none⟩) (by simp) (.int .i64 r)).put (a := ⟨w.heap.size + 1, 7, none⟩) (by simp) (.slice (some ⟨g7, 0, none⟩) m.length c7)) (by omega)
      · exact ((((((((hBq.put (a := ⟨w.heap.size + 1, 0, none⟩) (by simp) (.int .i64 c)).put (a := ⟨w.heap.size + 1, 1, none⟩) (by simp) (.int .i64 h)).put (a := ⟨w.heap.size + 1, 2, none⟩) (by simp) (.int .i64 (P : Int))).put (a := ⟨w.heap.size + 1, 3, none⟩) (by simp) (.int .i64 s)).put (a := ⟨w.heap.size + 1, 4, none⟩) (by simp) (.slice (some ⟨g4, 0, none⟩) l.length c4)).put (a := ⟨w.heap.size + 1, 5, none⟩) (by simp) (.int .i64 (K : Int))).put (a := ⟨w.heap.size + 1, 6, none⟩) (by simp) (.int .i64 r)).put (a := ⟨w.heap.size + 1, 7, none⟩) (by simp) (.slice (some ⟨g7, 0, none⟩) m.length c7))
    · have HL2 := HL.out
      rw [g] at HL2
      simp only [if_true] at HL2
      go_upto_region 13 with (go_at_call 23; refine (isRead_any dat st _).mono ?_; rintro e w11 ⟨rfl, hx11⟩; rw [g]; replace F6 := BX.below F6 hx11 F6.lt; replace F8 := BX.below F8 hx11 F8.lt; replace FT := BX.below FT hx11 FT.lt; replace FS := BX.below FS hx11 FS.lt; replace ho4 := OO.next ho4 hx11; replace ho7 := OO.next ho7 hx11; replace hB := BB.next hB hx11; clear f0 f1; have f0 : (_ : Option Value) = some (.string dat) := FS.cell 0 (by simp); have t0 : (_ : Option Value) = some (.string (zerosB nb)) := FT.cell 0 (by simp); have f2 := fun j => FT.free j)
      clear f0 t0 f2 FS
      replace F6 := F6.far (a := ⟨GT, 0, none⟩) nT6 (.string dat)
      replace F8 := F8.far (a := ⟨GT, 0, none⟩) nT8 (.string dat)
      replace FT := FT.put 0 (.string dat)
      replace ho4 := OO.putne (a := ⟨GT, 0, none⟩) ho4 oT4 (.string dat)
      replace ho7 := OO.putne (a := ⟨GT, 0, none⟩) ho7 oT7 (.string dat)
      replace hB := BB.put (a := ⟨GT, 0, none⟩) hB hwT (.string dat)
      generalize w11.setCell ⟨GT, 0, none⟩ (.string dat) = w12 at F6 F8 FT ho4 ho7 hB ⊢
      have d4 : (_ : Option Value) = some (.slice (some ⟨g4, 0, none⟩) l.length c4) := F8.cell 4 (by simp)
      have f0 : (_ : Option Value) = some (.string dat) := FT.cell 0 (by simp)
      have f1 : (_ : Option Value) = some (.int .i64 1) := FT.cell 1 (by simp)
      have o1 := World.ownsRow.stored ho4 (Y * 2) (.string dat) |>.1
      have o2 := World.ownsRow.stored o1 (Y * 2 + 1) (.int .i64 1) |>.1
      obtain ⟨u0, hu0⟩ := own_some ho4 (Y * 2) kb0
      have hz0 := World.ownsRow.frozenAt ho4 (Y * 2)
      obtain ⟨u2, hu2⟩ := own_some o1 (Y * 2 + 1) kb1
      have hz2 := World.ownsRow.frozenAt o1 (Y * 2 + 1)
      go_upto_region 14 with fail
      replace F6 := ((F6.far (a := ⟨g4, Y * 2, none⟩) n64 (.string dat)).far (a := ⟨g4, Y * 2 + 1, none⟩) n64 (.int .i64 1))
      replace F8 := ((F8.far (a := ⟨g4, Y * 2, none⟩) n84 (.string dat)).far (a := ⟨g4, Y * 2 + 1, none⟩) n84 (.int .i64 1))
      replace ho7 := ((ho7.putne (a := ⟨g4, Y * 2, none⟩) o74 (.string dat)).putne (a := ⟨g4, Y * 2 + 1, none⟩) o74 (.int .i64 1))
      replace hB := ((hB.put (a := ⟨g4, Y * 2, none⟩) hw4 (.string dat)).put (a := ⟨g4, Y * 2 + 1, none⟩) hw4 (.int .i64 1))
      clear hu0 hz0 hu2 hz2 o1 d4 f0 f1 ho4 FT
      generalize ((w12.setCell ⟨g4, Y * 2, none⟩ (.string dat)).setCell ⟨g4, Y * 2 + 1, none⟩ (.int .i64 1)) = w14 at F6 F8 ho7 hB o2 ⊢
      have d7 : (_ : Option Value) = some (.slice (some ⟨g7, 0, none⟩) m.length c7) := F8.cell 7 (by simp)
      have o7 := World.ownsRow.stored ho7 B (.int .i64 (Y : Int)) |>.1
      obtain ⟨u7, hu7⟩ := own_some ho7 B (by omega)
      have hz7 := World.ownsRow.frozenAt ho7 B
      have P8 := (F8.far (a := ⟨g7, B, none⟩) n87 (.int .i64 (Y : Int)))
      have P6 := (F6.far (a := ⟨g7, B, none⟩) n67 (.int .i64 (Y : Int)))
      have o4 := OO.putne (a := ⟨g7, B, none⟩) o2 o47 (.int .i64 (Y : Int))
      have hBq := (hB.put (a := ⟨g7, B, none⟩) hw7 (.int .i64 (Y : Int)))
      have q_0 : (_ : Option Value) = some (.int .i64 c) := P8.cell 0 (by simp)
      have q_1 : (_ : Option Value) = some (.int .i64 h) := P8.cell 1 (by simp)
      have q_2 : (_ : Option Value) = some (.int .i64 (P : Int)) := P8.cell 2 (by simp)
      have q_3 : (_ : Option Value) = some (.int .i64 s) := P8.cell 3 (by simp)
      have q_4 : (_ : Option Value) = some (.slice (some ⟨g4, 0, none⟩) l.length c4) := P8.cell 4 (by simp)
      have q_5 : (_ : Option Value) = some (.int .i64 (K : Int)) := P8.cell 5 (by simp)
      have q_6 : (_ : Option Value) = some (.int .i64 r) := P8.cell 6 (by simp)
      have q_7 : (_ : Option Value) = some (.slice (some ⟨g7, 0, none⟩) m.length c7) := P8.cell 7 (by simp)
      have z0 : (_ : Option Value) = some (.int .i64 0) := P6.cell 0 (by simp)
      have z1 : (_ : Option Value) = some (.int .i64 0) := P6.cell 1 (by simp)
      have z2 : (_ : Option Value) = some (.int .i64 0) := P6.cell 2 (by simp)
      have z3 : (_ : Option Value) = some (.int .i64 0) := P6.cell 3 (by simp)
      have z4 : (_ : Option Value) = some (.slice none 0 0) := P6.cell 4 (by simp)
      have z5 : (_ : Option Value) = some (.int .i64 0) := P6.cell 5 (by simp)
      have z6 : (_ : Option Value) = some (.int .i64 0) := P6.cell 6 (by simp)
      have z7 : (_ : Option Value) = some (.slice none 0 0) := P6.cell 7 (by simp)
      have hfz := fun j => P6.free j
      go_wp2
      refine bodyPost_ret (v := .tuple #[.agg #[.int .i64 c, .int .i64 h, .int .i64 (P : Int), .int .i64 s, .slice (some ⟨g4, 0, none⟩) l.length c4, .int .i64 (K : Int), .int .i64 r, .slice (some ⟨g7, 0, none⟩) m.length c7], .int .i64 0]) (by simp [results, Try.results10, go_sem, World.cell?_setCell_other, z0, z1, z2, z3, z4, z5, z6, z7]) rfl ⟨_, _, by rw [HR.out.1, HR.out.2]; rfl, ?_, ?_, hne, ?_⟩
      · rw [HR.out.1, HL2, List.length_set, ← setS l Y hYl ⟨dat, 1⟩]
        have o3 : OO _ (w.heap.size + 2) _ _ _ _ (putV (flat fSector l) (Y * 2) (fSector ⟨dat, 1⟩)) := own_base (base' := w.heap.size + 2) o4 (by omega)
        exact own_base (base' := w.heap.size) ((((((((o3.put (a := ⟨w.heap.size + 1, 0, none⟩) (by simp) (.int .i64 c)).put (a := ⟨w.heap.size + 1, 1, none⟩) (by simp) (.int .i64 h)).put (a := ⟨w.heap.size + 1, 2, none⟩) (by simp) (.int .i64 (P : Int))).put (a := ⟨w.heap.size + 1, 3, none⟩) (by simp) (.int .i64 s)).put (a := ⟨w.heap.size + 1, 4, none⟩) (by simp) (.slice (some ⟨g4, 0, none⟩) l.length c4)).put (a := ⟨w.heap.size + 1, 5, none⟩) (by simp) (.int .i64 (K : Int))).put (a := ⟨w.heap.size + 1, 6, none⟩) (by simp) (.int .i64 r)).put (a := ⟨w.heap.size + 1, 7, none⟩) (by simp) (.slice (some ⟨g7, 0, none⟩) m.length c7)) (by omega)
      · rw [HR.out.1, HM.out, List.length_set, ← setI]
        have o3 : OO _ (w.heap.size + 2) _ _ _ _ ((flat fI m).set B (.int .i64 (Y : Int))) := own_base (base' := w.heap.size + 2) o7 (by omega)
        exact own_base (base' := w.heap.size) ((((((((o3.put (a := ⟨w.heap.size + 1, 0, none⟩) (by simp) (.int .i64 c)).put (a := ⟨w.heap.size + 1, 1, none⟩) (by simp) (.int .i64 h)).put (a := ⟨w.heap.size + 1, 2, none⟩) (by simp) (.int .i64 (P : Int))).put (a := ⟨w.heap.size + 1, 3, none⟩) (by simp) (.int .i64 s)).put (a := ⟨w.heap.size + 1, 4, none⟩) (by simp) (.slice (some ⟨g4, 0, none⟩) l.length c4)).put (a := ⟨w.heap.size + 1, 5, none⟩) (by simp) (.int .i64 (K : Int))).put (a := ⟨w.heap.size + 1, 6, none⟩) (by simp) (.int .i64 r)).put (a := ⟨w.heap.size + 1, 7, none⟩) (by simp) (.slice (some ⟨g7, 0, none⟩) m.length c7)) (by omega)
      · exact ((((((((hBq.put (a := ⟨w.heap.size + 1, 0, none⟩) (by simp) (.int .i64 c)).put (a := ⟨w.heap.size + 1, 1, none⟩) (by simp) (.int .i64 h)).put (a := ⟨w.heap.size + 1, 2, none⟩) (by simp) (.int .i64 (P : Int))).put (a := ⟨w.heap.size + 1, 3, none⟩) (by simp) (.int .i64 s)).put (a := ⟨w.heap.size + 1, 4, none⟩) (by simp) (.slice (some ⟨g4, 0, none⟩) l.length c4)).put (a := ⟨w.heap.size + 1, 5, none⟩) (by simp) (.int .i64 (K : Int))).put (a := ⟨w.heap.size + 1, 6, none⟩) (by simp) (.int .i64 r)).put (a := ⟨w.heap.size + 1, 7, none⟩) (by simp) (.slice (some ⟨g7, 0, none⟩) m.length c7))
end Go.Proofs.Ytcfeelecfmepaaa
namespace Go.Proofs.Ytcfeelecfmepaaa
set_option linter.unusedVariables false
open Go.RowKit

set_option maxRecDepth 100000 in
set_option maxHeartbeats 4000000 in
theorem impl_StoreBlocks_any (c h p s : Int) (A : Option Addr) (cp : Nat) (l : List DSector) (k r : Int) (N : Option Addr) (q : Nat) (m : List Int) (E : Option Addr) (ce : Nat) (t : List ByteArray) (w : World) (hr : Rd w w.heap.size 2 A l.length (flat fSector l)) (hn : l.length ≤ 1048576) (hok : ∀ x ∈ l, okSector x) (kr : Rd w w.heap.size 1 N m.length (flat fI m)) (kn : m.length ≤ 1048576) (hqc : m.length ≤ q) (er : Rd w w.heap.size 1 E t.length (flat fS t)) (en : t.length ≤ 1048576) :
    Calls Try.prog 11 #[.agg #[.int .i64 c, .int .i64 h, .int .i64 p, .int .i64 s, .slice A l.length cp, .int .i64 k, .int .i64 r, .slice N m.length q], .slice E t.length ce] w fun e w' => ∃ (v4 v7 : Value), e = .returned (.tuple #[.agg #[.int .i64 (ptN (stOk (okV (okD c h p s l) l.length k r m) m.length (szB s) t) c), .int .i64 (ptN (stOk (okV (okD c h p s l) l.length k r m) m.length (szB s) t) h), .int .i64 (ptN (stOk (okV (okD c h p s l) l.length k r m) m.length (szB s) t) p), .int .i64 (ptN (stOk (okV (okD c h p s l) l.length k r m) m.length (szB s) t) s), v4, .int .i64 (ptN (stOk (okV (okD c h p s l) l.length k r m) m.length (szB s) t) k), .int .i64 (ptN (stOk (okV (okD c h p s l) l.length k r m) m.length (szB s) t) r), v7], .int .i64 (stC (okV (okD c h p s l) l.length k r m) m.length (szB s) t)]) ∧ w'.ownsRow w.heap.size 53 2 v4 (stL (stOk (okV (okD c h p s l) l.length k r m) m.length (szB s) t) l m t).length (flat fSector (stL (stOk (okV (okD c h p s l) l.length k r m) m.length (szB s) t) l m t)) ∧ w'.ownsRow w.heap.size 2 1 v7 (wdM (stOk (okV (okD c h p s l) l.length k r m) m.length (szB s) t) m).length (flat fI (wdM (stOk (okV (okD c h p s l) l.length k r m) m.length (szB s) t) m)) ∧ (v4.ownBlock = none ∨ v4.ownBlock ≠ v7.ownBlock) ∧ Below w.heap.size w w' := by
  have F3 := (BX.made w 29 [.int .i64 c, .int .i64 h, .int .i64 p, .int .i64 s, .slice A l.length cp, .int .i64 k, .int .i64 r, .slice N m.length q]).al (.cells #[.int .i64 0, .int .i64 0, .int .i64 0, .int .i64 0, .slice none 0 0, .int .i64 0, .int .i64 0, .slice none 0 0] 29)
  have F6 := BX.made1 w (.cells #[.int .i64 c, .int .i64 h, .int .i64 p, .int .i64 s, .slice A l.length cp, .int .i64 k, .int .i64 r, .slice N m.length q] 29) 29 [.int .i64 0, .int .i64 0, .int .i64 0, .int .i64 0, .slice none 0 0, .int .i64 0, .int .i64 0, .slice none 0 0]
  obtain ⟨wb, hwb⟩ : ∃ wb, wb = (w.alloc (.cells #[.int .i64 c, .int .i64 h, .int .i64 p, .int .i64 s, .slice A l.length cp, .int .i64 k, .int .i64 r, .slice N m.length q] 29)).alloc (.cells #[.int .i64 0, .int .i64 0, .int .i64 0, .int .i64 0, .slice none 0 0, .int .i64 0, .int .i64 0, .slice none 0 0] 29) := ⟨_, rfl⟩
  rw [← hwb] at F3 F6
  have hb0 : Below w.heap.size w wb := by rw [hwb]; exact (by with_reducible repeat (first | exact Below.refl _ _ | assumption | refine below_step ?_ (by assumption) | refine Below.drew ?_ | refine below_drewN ?_ _ | refine below_alloc ?_ _ | refine Below.setCell ?_ (by simp; try omega) _))
  have hs0 : w.heap.size + 1 < wb.heap.size := F6.lt
  have hrb := (hr.below hb0).more hb0.size
  have krb := (kr.below hb0).more hb0.size
  have HW := Lib.hid hwb
  clear hwb
  have hq := impl_ValidDevice_any c h p s A cp l k r N q m wb hrb hn hok krb kn hqc
  cases hv : okV (okD c h p s l) l.length k r m
  · rw [hv] at hq
    clear hv
    have HR := Lib.hid (st_1 (n := m.length) (z := szB s) (t := t))
    have e0 : (_ : Option Value) = some (.int .i64 c) := F3.cell 0 (by simp)
    have e1 : (_ : Option Value) = some (.int .i64 h) := F3.cell 1 (by simp)
    have e2 : (_ : Option Value) = some (.int .i64 p) := F3.cell 2 (by simp)
    have e3 : (_ : Option Value) = some (.int .i64 s) := F3.cell 3 (by simp)
    have e4 : (_ : Option Value) = some (.slice A l.length cp) := F3.cell 4 (by simp)
    have e5 : (_ : Option Value) = some (.int .i64 k) := F3.cell 5 (by simp)
    have e6 : (_ : Option Value) = some (.int .i64 r) := F3.cell 6 (by simp)
    have e7 : (_ : Option Value) = some (.slice N m.length q) := F3.cell 7 (by simp)
    have z0 : (_ : Option Value) = some (.int .i64 0) := F6.cell 0 (by simp)
    have z1 : (_ : Option Value) = some (.int .i64 0) := F6.cell 1 (by simp)
    have z2 : (_ : Option Value) = some (.int .i64 0) := F6.cell 2 (by simp)
    have z3 : (_ : Option Value) = some (.int .i64 0) := F6.cell 3 (by simp)
    have z4 : (_ : Option Value) = some (.slice none 0 0) := F6.cell 4 (by simp)
    have z5 : (_ : Option Value) = some (.int .i64 0) := F6.cell 5 (by simp)
    have z6 : (_ : Option Value) = some (.int .i64 0) := F6.cell 6 (by simp)
    have z7 : (_ : Option Value) = some (.slice none 0 0) := F6.cell 7 (by simp)
    have hfz := fun j => F6.free j
    go_enter Try.func11, Try.ntmps11
    go_wp2_with ((go_at_call 24; rw [← HW.out]; refine hq.mono ?_; rintro e w2 ⟨rfl, hx⟩; clear e0 e1 e2 e3 e4 e5 e6 e7 z0 z1 z2 z3 z4 z5 z6 z7 hfz; replace F3 := F3.below hx F3.lt; replace F6 := F6.below hx F6.lt; have hB : BB w w2 := hb0.trans (hx.mono (by omega)); have e0 : (_ : Option Value) = some (.int .i64 c) := F3.cell 0 (by simp); have e1 : (_ : Option Value) = some (.int .i64 h) := F3.cell 1 (by simp); have e2 : (_ : Option Value) = some (.int .i64 p) := F3.cell 2 (by simp); have e3 : (_ : Option Value) = some (.int .i64 s) := F3.cell 3 (by simp); have e4 : (_ : Option Value) = some (.slice A l.length cp) := F3.cell 4 (by simp); have e5 : (_ : Option Value) = some (.int .i64 k) := F3.cell 5 (by simp); have e6 : (_ : Option Value) = some (.int .i64 r) := F3.cell 6 (by simp); have e7 : (_ : Option Value) = some (.slice N m.length q) := F3.cell 7 (by simp); have z0 : (_ : Option Value) = some (.int .i64 0) := F6.cell 0 (by simp); have z1 : (_ : Option Value) = some (.int .i64 0) := F6.cell 1 (by simp); have z2 : (_ : Option Value) = some (.int .i64 0) := F6.cell 2 (by simp); have z3 : (_ : Option Value) = some (.int .i64 0) := F6.cell 3 (by simp); have z4 : (_ : Option Value) = some (.slice none 0 0) := F6.cell 4 (by simp); have z5 : (_ : Option Value) = some (.int .i64 0) := F6.cell 5 (by simp); have z6 : (_ : Option Value) = some (.int .i64 0) := F6.cell 6 (by simp); have z7 : (_ : Option Value) = some (.slice none 0 0) := F6.cell 7 (by simp); have hfz := fun j => F6.free j; have mk1 := True.intro))
    have hBw : Below w.heap.size w w2 := hB
    refine bodyPost_ret (v := .tuple #[.agg #[.int .i64 0, .int .i64 0, .int .i64 0, .int .i64 0, .slice none 0 0, .int .i64 0, .int .i64 0, .slice none 0 0], .int .i64 1]) (by simp [results, Try.results11, go_sem, World.cell?_setCell_other, z0, z1, z2, z3, z4, z5, z6, z7]) rfl ⟨.slice none 0 0, .slice none 0 0, by rw [HR.out.1, HR.out.2]; rfl, ?_, ?_, .inl rfl, ?_⟩
    · rw [HR.out.1]; exact World.ownsRow_nil _ _ _ _
    · rw [HR.out.1]; exact World.ownsRow_nil _ _ _ _
    · exact (by with_reducible repeat (first | exact Below.refl _ _ | assumption | refine below_step ?_ (by assumption) | refine Below.drew ?_ | refine below_drewN ?_ _ | refine below_alloc ?_ _ | refine Below.setCell ?_ (by simp; try omega) _))
  have hall := (okV_yes hv).2.2.2.2
  have hr1 := inB_yes (okV_yes hv).2.2.1
  have hml := (okV_yes hv).2.2.2.1
  obtain ⟨-, -, -, -, -, -, s1, s2⟩ := geoB_yes (okD_geo (okV_yes hv).1).1
  have hpos : 0 < l.length := by omega
  have hposm : 0 < m.length := by omega
  have hby := fun W => sizeBytes_any s s1 s2 W
  rw [hv] at hq
  clear hv hr1 hml
  by_cases hx : t.length = m.length
  rotate_left
  · have HR := Lib.hid (st_2 (z := szB s) hx)
    have hxe : ((t.length : Int) != (m.length : Int)) = true := by simp; omega
    have e0 : (_ : Option Value) = some (.int .i64 c) := F3.cell 0 (by simp)
    have e1 : (_ : Option Value) = some (.int .i64 h) := F3.cell 1 (by simp)
    have e2 : (_ : Option Value) = some (.int .i64 p) := F3.cell 2 (by simp)
    have e3 : (_ : Option Value) = some (.int .i64 s) := F3.cell 3 (by simp)
    have e4 : (_ : Option Value) = some (.slice A l.length cp) := F3.cell 4 (by simp)
    have e5 : (_ : Option Value) = some (.int .i64 k) := F3.cell 5 (by simp)
    have e6 : (_ : Option Value) = some (.int .i64 r) := F3.cell 6 (by simp)
    have e7 : (_ : Option Value) = some (.slice N m.length q) := F3.cell 7 (by simp)
    have z0 : (_ : Option Value) = some (.int .i64 0) := F6.cell 0 (by simp)
    have z1 : (_ : Option Value) = some (.int .i64 0) := F6.cell 1 (by simp)
    have z2 : (_ : Option Value) = some (.int .i64 0) := F6.cell 2 (by simp)
    have z3 : (_ : Option Value) = some (.int .i64 0) := F6.cell 3 (by simp)
    have z4 : (_ : Option Value) = some (.slice none 0 0) := F6.cell 4 (by simp)
    have z5 : (_ : Option Value) = some (.int .i64 0) := F6.cell 5 (by simp)
    have z6 : (_ : Option Value) = some (.int .i64 0) := F6.cell 6 (by simp)
    have z7 : (_ : Option Value) = some (.slice none 0 0) := F6.cell 7 (by simp)
    have hfz := fun j => F6.free j
    go_enter Try.func11, Try.ntmps11
    go_wp2_with ((go_at_call 24; rw [← HW.out]; refine hq.mono ?_; rintro e w2 ⟨rfl, hx⟩; clear e0 e1 e2 e3 e4 e5 e6 e7 z0 z1 z2 z3 z4 z5 z6 z7 hfz; replace F3 := F3.below hx F3.lt; replace F6 := F6.below hx F6.lt; have hB : BB w w2 := hb0.trans (hx.mono (by omega)); have e0 : (_ : Option Value) = some (.int .i64 c) := F3.cell 0 (by simp); have e1 : (_ : Option Value) = some (.int .i64 h) := F3.cell 1 (by simp); have e2 : (_ : Option Value) = some (.int .i64 p) := F3.cell 2 (by simp); have e3 : (_ : Option Value) = some (.int .i64 s) := F3.cell 3 (by simp); have e4 : (_ : Option Value) = some (.slice A l.length cp) := F3.cell 4 (by simp); have e5 : (_ : Option Value) = some (.int .i64 k) := F3.cell 5 (by simp); have e6 : (_ : Option Value) = some (.int .i64 r) := F3.cell 6 (by simp); have e7 : (_ : Option Value) = some (.slice N m.length q) := F3.cell 7 (by simp); have z0 : (_ : Option Value) = some (.int .i64 0) := F6.cell 0 (by simp); have z1 : (_ : Option Value) = some (.int .i64 0) := F6.cell 1 (by simp); have z2 : (_ : Option Value) = some (.int .i64 0) := F6.cell 2 (by simp); have z3 : (_ : Option Value) = some (.int .i64 0) := F6.cell 3 (by simp); have z4 : (_ : Option Value) = some (.slice none 0 0) := F6.cell 4 (by simp); have z5 : (_ : Option Value) = some (.int .i64 0) := F6.cell 5 (by simp); have z6 : (_ : Option Value) = some (.int .i64 0) := F6.cell 6 (by simp); have z7 : (_ : Option Value) = some (.slice none 0 0) := F6.cell 7 (by simp); have hfz := fun j => F6.free j; have mk1 := True.intro))
    have hBw : Below w.heap.size w w2 := hB
    refine bodyPost_ret (v := .tuple #[.agg #[.int .i64 0, .int .i64 0, .int .i64 0, .int .i64 0, .slice none 0 0, .int .i64 0, .int .i64 0, .slice none 0 0], .int .i64 7]) (by simp [results, Try.results11, go_sem, World.cell?_setCell_other, z0, z1, z2, z3, z4, z5, z6, z7]) rfl ⟨.slice none 0 0, .slice none 0 0, by rw [HR.out.1, HR.out.2]; rfl, ?_, ?_, .inl rfl, ?_⟩
    · rw [HR.out.1]; exact World.ownsRow_nil _ _ _ _
    · rw [HR.out.1]; exact World.ownsRow_nil _ _ _ _
    · exact (by with_reducible repeat (first | exact Below.refl _ _ | assumption | refine below_step ?_ (by assumption) | refine Below.drew ?_ | refine below_drewN ?_ _ | refine below_alloc ?_ _ | refine Below.setCell ?_ (by simp; try omega) _))
  have hxe : ((t.length : Int) != (m.length : Int)) = false := by simp; omega
  have HX := Lib.hid hx
  clear hx
  have e0 : (_ : Option Value) = some (.int .i64 c) := F3.cell 0 (by simp)
  have e1 : (_ : Option Value) = some (.int .i64 h) := F3.cell 1 (by simp)
  have e2 : (_ : Option Value) = some (.int .i64 p) := F3.cell 2 (by simp)
  have e3 : (_ : Option Value) = some (.int .i64 s) := F3.cell 3 (by simp)
  have e4 : (_ : Option Value) = some (.slice A l.length cp) := F3.cell 4 (by simp)
  have e5 : (_ : Option Value) = some (.int .i64 k) := F3.cell 5 (by simp)
  have e6 : (_ : Option Value) = some (.int .i64 r) := F3.cell 6 (by simp)
  have e7 : (_ : Option Value) = some (.slice N m.length q) := F3.cell 7 (by simp)
  have z0 : (_ : Option Value) = some (.int .i64 0) := F6.cell 0 (by simp)
  have z1 : (_ : Option Value) = some (.int .i64 0) := F6.cell 1 (by simp)
  have z2 : (_ : Option Value) = some (.int .i64 0) := F6.cell 2 (by simp)
  have z3 : (_ : Option Value) = some (.int .i64 0) := F6.cell 3 (by simp)
  have z4 : (_ : Option Value) = some (.slice none 0 0) := F6.cell 4 (by simp)
  have z5 : (_ : Option Value) = some (.int .i64 0) := F6.cell 5 (by simp)
  have z6 : (_ : Option Value) = some (.int .i64 0) := F6.cell 6 (by simp)
  have z7 : (_ : Option Value) = some (.slice none 0 0) := F6.cell 7 (by simp)
  have hfz := fun j => F6.free j
  go_enter Try.func11, Try.ntmps11
  go_upto_region 6 with (first
        | (go_at_call 22; have := mk1; refine (cloneDevice_any c h p s A cp l k r N q m _ ((hr.below hB).more hB.size) hn ((kr.below hB).more hB.size) kn).mono ?_; rintro e w4 ⟨v4, v7, rfl, ho4, ho7, hne, hx4⟩; obtain ⟨g4, c4, hv⟩ := Go.Joins.ownsRow_form ho4 hpos; cases hv; obtain ⟨g7, c7, hv⟩ := Go.Joins.ownsRow_form ho7 hposm; cases hv; have hc7 := own_cap ho7; have lt4 := World.ownsRow.lt ho4 g4 rfl; have lt7 := World.ownsRow.lt ho7 g7 rfl; have l6 := F6.lt; replace F3 := BX.below F3 hx4 F3.lt; replace F6 := BX.below F6 hx4 F6.lt; replace hB := BB.next hB hx4; clear e0 e1 e2 e3 e4 e5 e6 e7 z0 z1 z2 z3 z4 z5 z6 z7 hfz; have mk2 := True.intro)
        | (go_at_call 24; rw [← HW.out]; refine hq.mono ?_; rintro e w2 ⟨rfl, hx⟩; clear e0 e1 e2 e3 e4 e5 e6 e7 z0 z1 z2 z3 z4 z5 z6 z7 hfz; replace F3 := F3.below hx F3.lt; replace F6 := F6.below hx F6.lt; have hB : BB w w2 := hb0.trans (hx.mono (by omega)); have e0 : (_ : Option Value) = some (.int .i64 c) := F3.cell 0 (by simp); have e1 : (_ : Option Value) = some (.int .i64 h) := F3.cell 1 (by simp); have e2 : (_ : Option Value) = some (.int .i64 p) := F3.cell 2 (by simp); have e3 : (_ : Option Value) = some (.int .i64 s) := F3.cell 3 (by simp); have e4 : (_ : Option Value) = some (.slice A l.length cp) := F3.cell 4 (by simp); have e5 : (_ : Option Value) = some (.int .i64 k) := F3.cell 5 (by simp); have e6 : (_ : Option Value) = some (.int .i64 r) := F3.cell 6 (by simp); have e7 : (_ : Option Value) = some (.slice N m.length q) := F3.cell 7 (by simp); have z0 : (_ : Option Value) = some (.int .i64 0) := F6.cell 0 (by simp); have z1 : (_ : Option Value) = some (.int .i64 0) := F6.cell 1 (by simp); have z2 : (_ : Option Value) = some (.int .i64 0) := F6.cell 2 (by simp); have z3 : (_ : Option Value) = some (.int .i64 0) := F6.cell 3 (by simp); have z4 : (_ : Option Value) = some (.slice none 0 0) := F6.cell 4 (by simp); have z5 : (_ : Option Value) = some (.int .i64 0) := F6.cell 5 (by simp); have z6 : (_ : Option Value) = some (.int .i64 0) := F6.cell 6 (by simp); have z7 : (_ : Option Value) = some (.slice none 0 0) := F6.cell 7 (by simp); have hfz := fun j => F6.free j; have mk1 := True.intro))
  clear hq HW hrb krb hb0 hs0 hxe
  have F8 := BX.made w4 29 [.int .i64 c, .int .i64 h, .int .i64 p, .int .i64 s, .slice (some ⟨g4, 0, none⟩) l.length c4, .int .i64 k, .int .i64 r, .slice (some ⟨g7, 0, none⟩) m.length c7]
  replace F3 := BX.al F3 (.cells #[.int .i64 c, .int .i64 h, .int .i64 p, .int .i64 s, .slice (some ⟨g4, 0, none⟩) l.length c4, .int .i64 k, .int .i64 r, .slice (some ⟨g7, 0, none⟩) m.length c7] 29)
  replace F6 := BX.al F6 (.cells #[.int .i64 c, .int .i64 h, .int .i64 p, .int .i64 s, .slice (some ⟨g4, 0, none⟩) l.length c4, .int .i64 k, .int .i64 r, .slice (some ⟨g7, 0, none⟩) m.length c7] 29)
  replace ho4 := OO.al ho4 (.cells #[.int .i64 c, .int .i64 h, .int .i64 p, .int .i64 s, .slice (some ⟨g4, 0, none⟩) l.length c4, .int .i64 k, .int .i64 r, .slice (some ⟨g7, 0, none⟩) m.length c7] 29)
  replace ho7 := OO.al ho7 (.cells #[.int .i64 c, .int .i64 h, .int .i64 p, .int .i64 s, .slice (some ⟨g4, 0, none⟩) l.length c4, .int .i64 k, .int .i64 r, .slice (some ⟨g7, 0, none⟩) m.length c7] 29)
  replace hB := BB.al hB (.cells #[.int .i64 c, .int .i64 h, .int .i64 p, .int .i64 s, .slice (some ⟨g4, 0, none⟩) l.length c4, .int .i64 k, .int .i64 r, .slice (some ⟨g7, 0, none⟩) m.length c7] 29)
  generalize hG : w4.heap.size = G at F8 lt4 lt7 hx4 ⊢
  generalize w4.alloc (.cells #[.int .i64 c, .int .i64 h, .int .i64 p, .int .i64 s, .slice (some ⟨g4, 0, none⟩) l.length c4, .int .i64 k, .int .i64 r, .slice (some ⟨g7, 0, none⟩) m.length c7] 29) = w5 at *
  have n84 : G ≠ g4 := by omega
  have n64 : w.heap.size + 1 ≠ g4 := by omega
  have n34 : w.heap.size ≠ g4 := by omega
  have n74 : (Value.slice (some ⟨g7, 0, none⟩) m.length c7).ownBlock ≠ some g4 := by
    intro e
    rcases hne with h | h
    · cases h
    · exact h (by rw [e]; rfl)
  have hw4 : w.heap.size ≤ g4 := by omega
  replace ho4 : OO _ _ _ _ _ _ _ := own_base (base' := w.heap.size + 2) ho4 (by omega)
  replace ho7 : OO _ _ _ _ _ _ _ := own_base (base' := w.heap.size + 2) ho7 (by omega)
  go_wp2
  go_loopw [7, 8, 24] (fun _ _ i wr => ∃ (j : Nat) (cur : List DSector), j ≤ t.length ∧ i = .int .i64 j ∧ cur.length = l.length ∧ Hid (stG cur (m.drop j) (t.drop j) = stG l m t) ∧ Hid (szA (szB s) (t.drop j) = szA (szB s) t) ∧ OO wr (w.heap.size + 2) 53 2 (.slice (some ⟨g4, 0, none⟩) l.length c4) l.length (flat fSector cur) ∧ OO wr (w.heap.size + 2) 2 1 (.slice (some ⟨g7, 0, none⟩) m.length c7) m.length (flat fI m) ∧ BX wr w.heap.size 29 [.int .i64 c, .int .i64 h, .int .i64 p, .int .i64 s, .slice A l.length cp, .int .i64 k, .int .i64 r, .slice N m.length q] ∧ BX wr (w.heap.size + 1) 29 [.int .i64 0, .int .i64 0, .int .i64 0, .int .i64 0, .slice none 0 0, .int .i64 0, .int .i64 0, .slice none 0 0] ∧ BX wr G 29 [.int .i64 c, .int .i64 h, .int .i64 p, .int .i64 s, .slice (some ⟨g4, 0, none⟩) l.length c4, .int .i64 k, .int .i64 r, .slice (some ⟨g7, 0, none⟩) m.length c7] ∧ BB w wr) (fun _ _ i _ => t.length - (intOf i).toNat)
  case atStart => exact ⟨0, l, Nat.zero_le _, rfl, rfl, Lib.hid rfl, Lib.hid rfl, ho4, ho7, F3, F6, F8, hB⟩
  case round =>
    clear F3 F6 F8 ho4 ho7 hB
    obtain ⟨j, cur, hj, rfl, hcl, HG, HF, ho4, ho7, F3, F6, F8, hB⟩ := hrel
    by_cases hjl : j < t.length
    · have hji : (j : Int) < (t.length : Int) := by omega
      have hjm : j < m.length := by have := HX.out; omega
      have hjmi : (j : Int) < (m.length : Int) := by omega
      obtain ⟨x0, x1⟩ := hall m[j] (List.getElem_mem hjm)
      obtain ⟨X, hX⟩ : ∃ X : Nat, m[j] = (X : Int) := ⟨m[j].toNat, by omega⟩
      have hXl : X < l.length := by omega
      have hXi : (X : Int) < (l.length : Int) := by omega
      have hXc : X < cur.length := by omega
      have kb0 : X * 2 < l.length * 2 := by omega
      have kb1 : X * 2 + 1 < l.length * 2 := by omega
      obtain ⟨dat, hdat⟩ : ∃ d, t[j] = d := ⟨_, rfl⟩
      have HN := Lib.hid (stG_step hjm hjl hX hdat HG.out)
      have HP := Lib.hid (setS cur X hXc ⟨dat, 1⟩)
      obtain ⟨be, offe, rfl, hbe, hce⟩ := ((er.below hB).more hB.size).at_ fS_len rfl j hjl
      have he0 := hce 0 _ (by omega) rfl
      clear hce
      simp only [Nat.mul_one, Nat.add_zero] at he0
      rw [hdat] at he0
      have e3 : (_ : Option Value) = some (.int .i64 s) := F3.cell 3 (by simp)
      by_cases hz : (dat.size : Int) = szB s
      · have HZ := Lib.hid (sz_next hjl HF.out (by rw [hdat]; exact hz))
        have hzb : ((dat.size : Int) != szB s) = false := by simp; exact hz
        clear hz
        go_wp2_with (go_at_call 21; refine (hby _).mono ?_; rintro e w9 ⟨rfl, rfl⟩)
        clear he0 e3 hzb
        have d4 : (_ : Option Value) = some (.slice (some ⟨g4, 0, none⟩) l.length c4) := F8.cell 4 (by simp)
        have d7 : (_ : Option Value) = some (.slice (some ⟨g7, 0, none⟩) m.length c7) := F8.cell 7 (by simp)
        have e7 : (_ : Option Value) = some (.slice N m.length q) := F3.cell 7 (by simp)
        have hc0 := Rd.of_own ho7
        obtain ⟨bb, off, hb7, hbb, hc⟩ := hc0.at_ fI_len rfl j hjm
        have hc0 := hc 0 _ (by omega) rfl
        clear hc
        cases hb7
        simp only [Nat.mul_one, Nat.zero_add, Nat.add_zero] at hc0
        rw [hX] at hc0
        refine wp_region_still_tail 10 (by kernel_rfl) (by kernel_rfl) ?_
        simp only [List.take_succ_cons, List.take_zero, List.drop_succ_cons, List.drop_zero]
        repeat still_step
        refine wpStill_nil ?_
        change wpList _ _ _ _ _ wr.drew
        replace F3 := BX.dr F3
        replace F6 := BX.dr F6
        replace F8 := BX.dr F8
        replace ho4 : OO _ _ _ _ _ _ _ := OO.dr ho4
        replace ho7 : OO _ _ _ _ _ _ _ := OO.dr ho7
        replace hB : BB w _ := BB.dr hB
        clear d4 d7 e7 hc0
        generalize wr.drew = w6 at hB F3 F6 F8 ho4 ho7 ⊢
        have o1 := World.ownsRow.stored ho4 (X * 2) (.string dat) |>.1
        have o2 := World.ownsRow.stored o1 (X * 2 + 1) (.int .i64 1) |>.1
        obtain ⟨u0, hu0⟩ := own_some ho4 (X * 2) kb0
        have hz0 := World.ownsRow.frozenAt ho4 (X * 2)
        obtain ⟨u2, hu2⟩ := own_some o1 (X * 2 + 1) kb1
        have hz2 := World.ownsRow.frozenAt o1 (X * 2 + 1)
        have P8 := ((F8.far (a := ⟨g4, X * 2, none⟩) n84 (.string dat)).far (a := ⟨g4, X * 2 + 1, none⟩) n84 (.int .i64 1))
        have P6 := ((F6.far (a := ⟨g4, X * 2, none⟩) n64 (.string dat)).far (a := ⟨g4, X * 2 + 1, none⟩) n64 (.int .i64 1))
        have P3 := ((F3.far (a := ⟨g4, X * 2, none⟩) n34 (.string dat)).far (a := ⟨g4, X * 2 + 1, none⟩) n34 (.int .i64 1))
        have o7 := ((ho7.putne (a := ⟨g4, X * 2, none⟩) n74 (.string dat)).putne (a := ⟨g4, X * 2 + 1, none⟩) n74 (.int .i64 1))
        have hBq := ((hB.put (a := ⟨g4, X * 2, none⟩) hw4 (.string dat)).put (a := ⟨g4, X * 2 + 1, none⟩) hw4 (.int .i64 1))
        have o3 : OO _ (w.heap.size + 2) _ _ _ _ (putV (flat fSector cur) (X * 2) (fSector ⟨dat, 1⟩)) := o2
        rw [HP.out] at o3
        go_wp2
        go_roundw
        case rel => exact ⟨j + 1, cur.set X ⟨dat, 1⟩, by omega, by go_num, by rw [List.length_set]; exact hcl, HN, HZ, o3, o7, P3, P6, P8, hBq⟩
        case measure => (simp [intOf] <;> omega)
      · have HR := Lib.hid (st_3 (n := m.length) (sz_no hjl HF.out (by rw [hdat]; exact hz)))
        have hzb : ((dat.size : Int) != szB s) = true := by simp; exact hz
        clear hz
        have z0 : (_ : Option Value) = some (.int .i64 0) := F6.cell 0 (by simp)
        have z1 : (_ : Option Value) = some (.int .i64 0) := F6.cell 1 (by simp)
        have z2 : (_ : Option Value) = some (.int .i64 0) := F6.cell 2 (by simp)
        have z3 : (_ : Option Value) = some (.int .i64 0) := F6.cell 3 (by simp)
        have z4 : (_ : Option Value) = some (.slice none 0 0) := F6.cell 4 (by simp)
        have z5 : (_ : Option Value) = some (.int .i64 0) := F6.cell 5 (by simp)
        have z6 : (_ : Option Value) = some (.int .i64 0) := F6.cell 6 (by simp)
        have z7 : (_ : Option Value) = some (.slice none 0 0) := F6.cell 7 (by simp)
        have hfz := fun j => F6.free j
        have hBw : Below w.heap.size w wr := hB
        go_wp2_with (go_at_call 21; refine (hby _).mono ?_; rintro e w9 ⟨rfl, rfl⟩)
        refine bodyPost_ret (v := .tuple #[.agg #[.int .i64 0, .int .i64 0, .int .i64 0, .int .i64 0, .slice none 0 0, .int .i64 0, .int .i64 0, .slice none 0 0], .int .i64 7]) (by simp [results, Try.results11, go_sem, World.cell?_setCell_other, z0, z1, z2, z3, z4, z5, z6, z7]) rfl ⟨.slice none 0 0, .slice none 0 0, by rw [HR.out.1, HR.out.2]; rfl, ?_, ?_, .inl rfl, ?_⟩
        · rw [HR.out.1]; exact World.ownsRow_nil _ _ _ _
        · rw [HR.out.1]; exact World.ownsRow_nil _ _ _ _
        · exact (by with_reducible repeat (first | exact Below.refl _ _ | assumption | refine below_step ?_ (by assumption) | refine Below.drew ?_ | refine below_drewN ?_ _ | refine below_alloc ?_ _ | refine Below.setCell ?_ (by simp; try omega) _))
    have hjn : ¬ (j : Int) < (t.length : Int) := by omega
    have HR := Lib.hid (st_4 HX.out (sz_end hjl HF.out))
    have HL := Lib.hid (stG_end hjl HG.out (l := l) rfl)
    have q0 : (_ : Option Value) = some (.int .i64 c) := F8.cell 0 (by simp)
    have q1 : (_ : Option Value) = some (.int .i64 h) := F8.cell 1 (by simp)
    have q2 : (_ : Option Value) = some (.int .i64 p) := F8.cell 2 (by simp)
    have q3 : (_ : Option Value) = some (.int .i64 s) := F8.cell 3 (by simp)
    have q4 : (_ : Option Value) = some (.slice (some ⟨g4, 0, none⟩) l.length c4) := F8.cell 4 (by simp)
    have q5 : (_ : Option Value) = some (.int .i64 k) := F8.cell 5 (by simp)
    have q6 : (_ : Option Value) = some (.int .i64 r) := F8.cell 6 (by simp)
    have q7 : (_ : Option Value) = some (.slice (some ⟨g7, 0, none⟩) m.length c7) := F8.cell 7 (by simp)
    have z0 : (_ : Option Value) = some (.int .i64 0) := F6.cell 0 (by simp)
    have z1 : (_ : Option Value) = some (.int .i64 0) := F6.cell 1 (by simp)
    have z2 : (_ : Option Value) = some (.int .i64 0) := F6.cell 2 (by simp)
    have z3 : (_ : Option Value) = some (.int .i64 0) := F6.cell 3 (by simp)
    have z4 : (_ : Option Value) = some (.slice none 0 0) := F6.cell 4 (by simp)
    have z5 : (_ : Option Value) = some (.int .i64 0) := F6.cell 5 (by simp)
    have z6 : (_ : Option Value) = some (.int .i64 0) := F6.cell 6 (by simp)
    have z7 : (_ : Option Value) = some (.slice none 0 0) := F6.cell 7 (by simp)
    have hfz := fun j => F6.free j
    go_wp2
    refine bodyPost_ret (v := .tuple #[.agg #[.int .i64 c, .int .i64 h, .int .i64 p, .int .i64 s, .slice (some ⟨g4, 0, none⟩) l.length c4, .int .i64 k, .int .i64 r, .slice (some ⟨g7, 0, none⟩) m.length c7], .int .i64 0]) (by simp [results, Try.results11, go_sem, World.cell?_setCell_other, z0, z1, z2, z3, z4, z5, z6, z7]) rfl ⟨_, _, by rw [HR.out.1, HR.out.2]; rfl, ?_, ?_, hne, ?_⟩
    · rw [HR.out.1, HL.out, hcl]
      exact own_base (base' := w.heap.size) ((((((((ho4.put (a := ⟨w.heap.size + 1, 0, none⟩) (by simp) (.int .i64 c)).put (a := ⟨w.heap.size + 1, 1, none⟩) (by simp) (.int .i64 h)).put (a := ⟨w.heap.size + 1, 2, none⟩) (by simp) (.int .i64 p)).put (a := ⟨w.heap.size + 1, 3, none⟩) (by simp) (.int .i64 s)).put (a := ⟨w.heap.size + 1, 4, none⟩) (by simp) (.slice (some ⟨g4, 0, none⟩) l.length c4)).put (a := ⟨w.heap.size + 1, 5, none⟩) (by simp) (.int .i64 k)).put (a := ⟨w.heap.size + 1, 6, none⟩) (by simp) (.int .i64 r)).put (a := ⟨w.heap.size + 1, 7, none⟩) (by simp) (.slice (some ⟨g7, 0, none⟩) m.length c7)) (by omega)
    · rw [HR.out.1, show wdM true m = m from rfl]
      exact own_base (base' := w.heap.size) ((((((((ho7.put (a := ⟨w.heap.size + 1, 0, none⟩) (by simp) (.int .i64 c)).put (a := ⟨w.heap.size + 1, 1, none⟩) (by simp) (.int .i64 h)).put (a := ⟨w.heap.size + 1, 2, none⟩) (by simp) (.int .i64 p)).put (a := ⟨w.heap.size + 1, 3, none⟩) (by simp) (.int .i64 s)).put (a := ⟨w.heap.size + 1, 4, none⟩) (by simp) (.slice (some ⟨g4, 0, none⟩) l.length c4)).put (a := ⟨w.heap.size + 1, 5, none⟩) (by simp) (.int .i64 k)).put (a := ⟨w.heap.size + 1, 6, none⟩) (by simp) (.int .i64 r)).put (a := ⟨w.heap.size + 1, 7, none⟩) (by simp) (.slice (some ⟨g7, 0, none⟩) m.length c7)) (by omega)
    · exact ((((((((hB.put (a := ⟨w.heap.size + 1, 0, none⟩) (by simp) (.int .i64 c)).put (a := ⟨w.heap.size + 1, 1, none⟩) (by simp) (.int .i64 h)).put (a := ⟨w.heap.size + 1, 2, none⟩) (by simp) (.int .i64 p)).put (a := ⟨w.heap.size + 1, 3, none⟩) (by simp) (.int .i64 s)).put (a := ⟨w.heap.size + 1, 4, none⟩) (by simp) (.slice (some ⟨g4, 0, none⟩) l.length c4)).put (a := ⟨w.heap.size + 1, 5, none⟩) (by simp) (.int .i64 k)).put (a := ⟨w.heap.size + 1, 6, none⟩) (by simp) (.int .i64 r)).put (a := ⟨w.heap.size + 1, 7, none⟩) (by simp) (.slice (some ⟨g7, 0, none⟩) m.length c7))
end Go.Proofs.Ytcfeelecfmepaaa
namespace Go.Proofs.Ytcfeelecfmepaaa
set_option linter.unusedVariables false
open Go.RowKit

set_option maxRecDepth 100000 in
set_option maxHeartbeats 4000000 in
theorem impl_AllBlocks_any (c h p s : Int) (A : Option Addr) (cp : Nat) (l : List DSector) (k r : Int) (N : Option Addr) (q : Nat) (m : List Int) (w : World) (hr : Rd w w.heap.size 2 A l.length (flat fSector l)) (hn : l.length ≤ 1048576) (hok : ∀ x ∈ l, okSector x) (kr : Rd w w.heap.size 1 N m.length (flat fI m)) (kn : m.length ≤ 1048576) (hqc : m.length ≤ q) :
    Calls Try.prog 8 #[.agg #[.int .i64 c, .int .i64 h, .int .i64 p, .int .i64 s, .slice A l.length cp, .int .i64 k, .int .i64 r, .slice N m.length q]] w fun e w' => ∃ (v5 v6 : Value), e = .returned (.tuple #[v5, v6, .int .i64 (abC (okV (okD c h p s l) l.length k r m))]) ∧ w'.ownsRow w.heap.size 9 1 v5 (abLL (okV (okD c h p s l) l.length k r m) l (szB s).toNat m).length (flat fS (abLL (okV (okD c h p s l) l.length k r m) l (szB s).toNat m)) ∧ w'.ownsRow w.heap.size 2 1 v6 (abDD (okV (okD c h p s l) l.length k r m) l m).length (flat fI (abDD (okV (okD c h p s l) l.length k r m) l m)) ∧ (v6.ownBlock = none ∨ v6.ownBlock ≠ v5.ownBlock) ∧ Below w.heap.size w w' := by
  have F3 := BX.made w 29 [.int .i64 c, .int .i64 h, .int .i64 p, .int .i64 s, .slice A l.length cp, .int .i64 k, .int .i64 r, .slice N m.length q]
  obtain ⟨wb, hwb⟩ : ∃ wb, wb = w.alloc (.cells #[.int .i64 c, .int .i64 h, .int .i64 p, .int .i64 s, .slice A l.length cp, .int .i64 k, .int .i64 r, .slice N m.length q] 29) := ⟨_, rfl⟩
  rw [← hwb] at F3
  have hb0 : Below w.heap.size w wb := by rw [hwb]; exact (by with_reducible repeat (first | exact Below.refl _ _ | assumption | refine below_step ?_ (by assumption) | refine Below.drew ?_ | refine below_drewN ?_ _ | refine below_alloc ?_ _ | refine Below.setCell ?_ (by simp; try omega) _))
  have hs0 : w.heap.size < wb.heap.size := F3.lt
  have hrb := (hr.below hb0).more hb0.size
  have krb := (kr.below hb0).more hb0.size
  have HW := Lib.hid hwb
  clear hwb
  have hq := impl_ValidDevice_any c h p s A cp l k r N q m wb hrb hn hok krb kn hqc
  have e0 : (_ : Option Value) = some (.int .i64 c) := F3.cell 0 (by simp)
  have e1 : (_ : Option Value) = some (.int .i64 h) := F3.cell 1 (by simp)
  have e2 : (_ : Option Value) = some (.int .i64 p) := F3.cell 2 (by simp)
  have e3 : (_ : Option Value) = some (.int .i64 s) := F3.cell 3 (by simp)
  have e4 : (_ : Option Value) = some (.slice A l.length cp) := F3.cell 4 (by simp)
  have e5 : (_ : Option Value) = some (.int .i64 k) := F3.cell 5 (by simp)
  have e6 : (_ : Option Value) = some (.int .i64 r) := F3.cell 6 (by simp)
  have e7 : (_ : Option Value) = some (.slice N m.length q) := F3.cell 7 (by simp)
  cases hv : (okV (okD c h p s l) l.length k r m)
  · rw [hv] at hq
    clear hv
    go_enter Try.func8, Try.ntmps8
    go_wp2_with ((go_at_call 24; rw [← HW.out]; refine hq.mono ?_; rintro e w2 ⟨rfl, hx⟩; clear e0 e1 e2 e3 e4 e5 e6 e7; replace F3 := F3.below hx F3.lt; have hB : BB w w2 := hb0.trans (hx.mono (by omega)); have e0 : (_ : Option Value) = some (.int .i64 c) := F3.cell 0 (by simp); have e1 : (_ : Option Value) = some (.int .i64 h) := F3.cell 1 (by simp); have e2 : (_ : Option Value) = some (.int .i64 p) := F3.cell 2 (by simp); have e3 : (_ : Option Value) = some (.int .i64 s) := F3.cell 3 (by simp); have e4 : (_ : Option Value) = some (.slice A l.length cp) := F3.cell 4 (by simp); have e5 : (_ : Option Value) = some (.int .i64 k) := F3.cell 5 (by simp); have e6 : (_ : Option Value) = some (.int .i64 r) := F3.cell 6 (by simp); have e7 : (_ : Option Value) = some (.slice N m.length q) := F3.cell 7 (by simp); have mk1 := True.intro))
    have hBw : Below w.heap.size w w2 := hB
    (try simp only [Exit.inBlock, Exit.then]); refine bodyPost_ret (results_tmp3 rfl _ _ _) rfl ?_
    exact ⟨_, _, rfl, World.ownsRow_nil _ _ _ _, World.ownsRow_nil _ _ _ _, .inl rfl, hBw⟩
  have hall := (okV_yes hv).2.2.2.2
  have hr1 := inB_yes (okV_yes hv).2.2.1
  have hml := (okV_yes hv).2.2.2.1
  obtain ⟨-, -, -, -, -, -, s1, s2⟩ := geoB_yes (okD_geo (okV_yes hv).1).1
  have hpos : 0 < l.length := by omega
  have hposm : 0 < m.length := by omega
  obtain ⟨nb, y1, y2, y3, y4⟩ := szB_nat s1 s2
  rw [hv] at hq
  rw [show abC true = 0 from rfl, show abLL true l (szB s).toNat m = abL l (szB s).toNat m from rfl, show abDD true l m = abD l 0 m from rfl, y4]
  clear hv hr1 hml
  have hmk := fun W => eltStr.make m.length (by omega) (by omega) W
  go_enter Try.func8, Try.ntmps8
  go_upto_region 4 with ((go_at_call 24; rw [← HW.out]; refine hq.mono ?_; rintro e w2 ⟨rfl, hx⟩; clear e0 e1 e2 e3 e4 e5 e6 e7; replace F3 := F3.below hx F3.lt; have hB : BB w w2 := hb0.trans (hx.mono (by omega)); have e0 : (_ : Option Value) = some (.int .i64 c) := F3.cell 0 (by simp); have e1 : (_ : Option Value) = some (.int .i64 h) := F3.cell 1 (by simp); have e2 : (_ : Option Value) = some (.int .i64 p) := F3.cell 2 (by simp); have e3 : (_ : Option Value) = some (.int .i64 s) := F3.cell 3 (by simp); have e4 : (_ : Option Value) = some (.slice A l.length cp) := F3.cell 4 (by simp); have e5 : (_ : Option Value) = some (.int .i64 k) := F3.cell 5 (by simp); have e6 : (_ : Option Value) = some (.int .i64 r) := F3.cell 6 (by simp); have e7 : (_ : Option Value) = some (.slice N m.length q) := F3.cell 7 (by simp); have mk1 := True.intro))
  clear hq HW hrb krb hb0
  clear e0 e1 e2 e3 e4 e5 e6 e7
  have hgw : w.heap.size < w2.heap.size := F3.lt
  have G1 := FillC.made w2 9 #[Value.string ByteArray.empty] m.length (flat fS (abL l nb m))
  replace F3 := BX.al F3 (.cells (madeCells #[Value.string ByteArray.empty] m.length) 9)
  replace hB := BB.al hB (.cells (madeCells #[Value.string ByteArray.empty] m.length) 9)
  generalize hG : w2.heap.size = G at G1 hgw ⊢
  generalize w2.alloc (.cells (madeCells #[Value.string ByteArray.empty] m.length) 9) = w3 at *
  clear hG
  have e7 : (_ : Option Value) = some (.slice N m.length q) := F3.cell 7 (by simp)
  go_wp2
  clear e7
  go_loopw [6, 7, 8, 20] (fun v6 _ _ i wr => ∃ (j : Nat) (o6 : List Int), j ≤ m.length ∧ i = .int .i64 j ∧ o6.length ≤ j ∧ Hid (o6 ++ abD l j (m.drop j) = abD l 0 m) ∧ FillC wr G 9 m.length (flat fS (abL l nb m)) j ∧ OO wr (G + 1) 2 1 v6 o6.length (flat fI o6) ∧ BX wr w.heap.size 29 [.int .i64 c, .int .i64 h, .int .i64 p, .int .i64 s, .slice A l.length cp, .int .i64 k, .int .i64 r, .slice N m.length q] ∧ BB w wr) (fun _ _ _ i _ => m.length - (intOf i).toNat)
  case atStart => exact ⟨0, [], Nat.zero_le _, rfl, Nat.zero_le _, Lib.hid rfl, G1, World.ownsRow_nil _ _ _ _, F3, hB⟩
  case round =>
    clear F3 hB G1
    obtain ⟨j, o6, hj, rfl, hl6, H6, G1, ho6, F3, hB⟩ := hrel
    by_cases hjl : j < m.length
    · have hji : (j : Int) < (m.length : Int) := by omega
      obtain ⟨x0, x1⟩ := hall m[j] (List.getElem_mem hjl)
      obtain ⟨X, hX⟩ : ∃ X : Nat, m[j] = (X : Int) := ⟨m[j].toNat, by omega⟩
      have hXl : X < l.length := by omega
      have hXi : (X : Int) < (l.length : Int) := by omega
      have hSE := abS_at hX hXl
      obtain ⟨dat, hdat⟩ : ∃ d, l[X].f0 = d := ⟨_, rfl⟩
      obtain ⟨st, hst⟩ : ∃ d, l[X].f1 = d := ⟨_, rfl⟩
      have hrd : rdB (abS l m[j]).f1 = rdB st := by rw [hSE, hst]
      have hav : abV l nb m[j] = if rdB st then dat else zerosB nb := by rw [abV, hSE, hst, hdat]
      obtain ⟨ba, offa, rfl, hba, hca⟩ := ((kr.below hB).more hB.size).at_ fI_len rfl j hjl
      have a0 := hca 0 _ (by omega) rfl
      obtain ⟨b2, off2, rfl, hb2, hcb⟩ := ((hr.below hB).more hB.size).at_ fSector_len rfl X hXl
      have a1 := hcb 0 _ (by omega) rfl
      have a2 := hcb 1 _ (by omega) rfl
      clear hca hcb
      simp only [Nat.mul_one, ← Nat.add_assoc, Nat.add_zero] at a0 a1 a2
      rw [hX] at a0
      rw [hdat] at a1
      rw [hst] at a2
      clear hSE hX hdat hst
      have a3 : (_ : Option Value) = some (.slice (some ⟨b2, off2, none⟩) l.length cp) := F3.cell 4 (by simp)
      obtain ⟨u, hu⟩ := (G1.al (.cells #[.string dat, .int .i64 st] 53)).some_ j hjl
      have hfz := (G1.al (.cells #[.string dat, .int .i64 st] 53)).free j
      have FS := BX.made wr 53 [.string dat, .int .i64 st]
      have f0 : (_ : Option Value) = some (.string dat) := FS.cell 0 (by simp)
      have ltG := G1.lt
      have nG : w.heap.size ≠ G := by omega
      have hwG : w.heap.size ≤ G := by omega
      go_upto_region 10 with fail
      clear hu hfz FS f0 a0 a1 a2 a3
      replace F3 := F3.far (a := ⟨G, j, none⟩) nG (.string dat)
      replace hB := BB.put (a := ⟨G, j, none⟩) hB hwG (.string dat)
      replace ho6 := OO.put (a := ⟨G, j, none⟩) ho6 (by simp) (.string dat)
      have FS : BX ((wr.setCell ⟨G, j, none⟩ (.string dat)).alloc (.cells #[.string dat, .int .i64 st] 53)) wr.heap.size 53 [.string dat, .int .i64 st] := by
        have := BX.made (wr.setCell ⟨G, j, none⟩ (.string dat)) 53 [.string dat, .int .i64 st]
        rwa [World.size_setCell] at this
      cases g : rdB st
      · rw [g] at hav hrd
        simp only [Bool.false_eq_true, if_false] at hav
        have H6N := Lib.hid (ab_6n hjl hrd H6.out)
        have HAT := Lib.hid (ab_at hjl hav)
        have G2 := G1.junk (.string dat)
        replace F3 := BX.al F3 (.cells #[.string dat, .int .i64 st] 53)
        replace ho6 := OO.al ho6 (.cells #[.string dat, .int .i64 st] 53)
        replace hB := BB.al hB (.cells #[.string dat, .int .i64 st] 53)
        replace G2 := G2.al (.cells #[.string dat, .int .i64 st] 53)
        generalize wr.heap.size = GS at FS ⊢
        generalize (wr.setCell ⟨G, j, none⟩ (.string dat)).alloc (.cells #[.string dat, .int .i64 st] 53) = w9 at *
        have f0 : (_ : Option Value) = some (.string dat) := FS.cell 0 (by simp)
        have f1 : (_ : Option Value) = some (.int .i64 st) := FS.cell 1 (by simp)
        clear hav hrd H6
        go_upto_region 12 with (first
              | (go_at_call 25; refine (zeros_any nb _ (by omega)).mono ?_; rintro e w11 ⟨rfl, hx11⟩; replace F3 := BX.below F3 hx11 F3.lt; replace ho6 := OO.next ho6 hx11; replace hB := BB.next hB hx11; replace G2 := G2.below hx11 G2.lt; obtain ⟨u, hu⟩ := G2.some_ j hjl; have hfz := G2.free j; have G3 := G2.put (.string (zerosB nb)) hjl HAT.out; clear e3; replace F3 := F3.far (a := ⟨G, j, none⟩) nG (.string (zerosB nb)); replace hB := BB.put (a := ⟨G, j, none⟩) hB hwG (.string (zerosB nb)); replace ho6 := OO.put (a := ⟨G, j, none⟩) ho6 (by simp) (.string (zerosB nb)); have lt3 := G3.lt; have mkz := True.intro)
              | (go_at_call 21; refine (sizeBytes_any s s1 s2 _).mono ?_; rintro e w10' ⟨rfl, rfl⟩; rw [y1])
              | (go_at_call 23; refine (isRead_any dat st _).mono ?_; rintro e w10 ⟨rfl, hx10⟩; rw [g]; clear f0 f1; replace F3 := BX.below F3 hx10 F3.lt; replace ho6 := OO.next ho6 hx10; replace hB := BB.next hB hx10; replace FS := FS.below hx10 FS.lt; replace G2 := G2.below hx10 G2.lt; have e3 : (_ : Option Value) = some (.int .i64 s) := F3.cell 3 (by simp); have mk2 := True.intro))
        clear hu hfz G2 FS
        generalize w11.setCell ⟨G, j, none⟩ (.string (zerosB nb)) = w12 at *
        go_wp2_with (at_builtin; go_must (refine wpList_appF (f := fI) rfl _ _ _ rfl eltI (by omega) _ o6 rfl (OOf ho6) _ _ _ _ rfl rfl rfl (by intro u hu; simp only [fI, List.mem_cons, List.not_mem_nil, or_false] at hu; subst hu; rfl) (by omega) lt3 ?_); intro v12 w12 hon2 hgn2 hatn2 hbln2; replace G3 := G3.below hbln2 (show G < G + 1 by omega); replace F3 := F3.below hbln2 (show w.heap.size < G + 1 by omega); replace hB : BB w _ := Below.trans hB (hbln2.mono (by omega)))
        go_roundw
        case rel => exact ⟨j + 1, _, by omega, by go_num, by rw [List.length_append, List.length_singleton]; omega, H6N, G3, hon2, F3, hB⟩
        case measure => (simp [intOf] <;> omega)
      · rw [g] at hav hrd
        simp only [if_true] at hav
        have H6N := Lib.hid (ab_6y hjl hrd H6.out)
        have G2 := G1.put (.string dat) hjl (ab_at hjl hav)
        replace F3 := BX.al F3 (.cells #[.string dat, .int .i64 st] 53)
        replace ho6 := OO.al ho6 (.cells #[.string dat, .int .i64 st] 53)
        replace hB := BB.al hB (.cells #[.string dat, .int .i64 st] 53)
        replace G2 := G2.al (.cells #[.string dat, .int .i64 st] 53)
        generalize wr.heap.size = GS at FS ⊢
        generalize (wr.setCell ⟨G, j, none⟩ (.string dat)).alloc (.cells #[.string dat, .int .i64 st] 53) = w9 at *
        have f0 : (_ : Option Value) = some (.string dat) := FS.cell 0 (by simp)
        have f1 : (_ : Option Value) = some (.int .i64 st) := FS.cell 1 (by simp)
        clear hav hrd H6
        go_wp2_with (go_at_call 23; refine (isRead_any dat st _).mono ?_; rintro e w10 ⟨rfl, hx10⟩; rw [g]; clear f0 f1; replace F3 := BX.below F3 hx10 F3.lt; replace ho6 := OO.next ho6 hx10; replace hB := BB.next hB hx10; replace FS := FS.below hx10 FS.lt; replace G2 := G2.below hx10 G2.lt; have e3 : (_ : Option Value) = some (.int .i64 s) := F3.cell 3 (by simp); have mk2 := True.intro)
        go_roundw
        case rel => exact ⟨j + 1, _, by omega, by go_num, by omega, H6N, G2, ho6, F3, hB⟩
        case measure => (simp [intOf] <;> omega)
    have hjn : ¬ (j : Int) < (m.length : Int) := by omega
    have E6 := Lib.hid (ab_6e hjl H6.out)
    obtain rfl : j = m.length := by omega
    have hal : (abL l nb m).length = m.length := by simp [abL]
    have hown := G1.own (base := G) (size := 1) (n := m.length) (by omega) (by rw [flat_length fS 1 fS_len, hal, Nat.mul_one]) (Nat.le_refl _) (by simp only [maxLen]; omega)
    have hne : (u6.ownBlock = none ∨ u6.ownBlock ≠ (Value.slice (some ⟨G, 0, none⟩) m.length m.length).ownBlock) := by
      rcases hv6 : u6.ownBlock with _ | q
      · exact .inl rfl
      · right
        intro e
        have h1 := (World.ownsRow.lt ho6 q hv6).1
        have h2 : q = G := by injection e
        omega
    go_wp2
    (try simp only [Exit.inBlock, Exit.then]); refine bodyPost_ret (results_tmp3 rfl _ _ _) rfl ?_
    refine ⟨_, _, rfl, ?_, ?_, hne, hB⟩
    · first | exact own_base (base' := w.heap.size) hown (by omega) | (rw [hal]; exact own_base (base' := w.heap.size) hown (by omega))
    · rw [E6.out]; exact own_base (base' := w.heap.size) ho6 (by omega)
end Go.Proofs.Ytcfeelecfmepaaa
namespace Go.Proofs.Ytcfeelecfmepaaa
set_option linter.unusedVariables false
open Go.RowKit

set_option maxRecDepth 100000 in
set_option maxHeartbeats 1000000 in
theorem b10Texts_any (A A' : Option Addr) (c c' : Nat) (l : List ByteArray) (w : World) (B : Nat) (h : Rd w B 1 A l.length (flat fS l)) (h' : Rd w B 1 A' l.length (flat fS l)) (hn : l.length ≤ 1048576) :
    Calls Try.prog 12 #[.slice A l.length c, .slice A' l.length c'] w fun e w' => e = .returned (.bool true) ∧ ∃ n, w' = w.drewN n := by
  go_enter Try.func12, Try.ntmps12
  go_wp2
  go_loopw [5] (fun i wr => ∃ k n : Nat, k ≤ l.length ∧ i = .int .i64 k ∧ wr = w.drewN n) (fun i _ => l.length - (intOf i).toNat)
  case atStart => exact ⟨0, 0, Nat.zero_le _, rfl, rfl⟩
  case round =>
    obtain ⟨k, n, hk, rfl, rfl⟩ := hrel
    by_cases hlt : k < l.length
    · obtain ⟨b, off, rfl, hbb, hc⟩ := h.at_ (f := fS) (fun _ => rfl) rfl k hlt
      obtain ⟨b', off', rfl, hbb', hc'⟩ := h'.at_ (f := fS) (fun _ => rfl) rfl k hlt
      have hc0 := hc 0 _ (by omega) rfl
      have hc0' := hc' 0 _ (by omega) rfl
      simp only [Nat.mul_one, Nat.add_zero] at hc0 hc0'
      have g1 : (l[k].toList == l[k].toList) = true := by simp
      go_wp2_with fail
      go_quiet (fail)
      go_wp2
      go_roundw
      case rel => exact ⟨k + 1, _, by omega, by go_num, rfl⟩
      case measure => (simp [intOf] <;> omega)
    · go_wp2
      go_ret
      exact ⟨rfl, _, rfl⟩

theorem ok_set {L : List DSector} (hok : ∀ x ∈ L, okSector x) {y : DSector} (hy : okSector y) (i : Nat) : ∀ x ∈ L.set i y, okSector x := by
  intro x hx
  rcases List.mem_or_eq_of_mem_set hx with h | h
  · exact hok x h
  · rw [h]; exact hy

/-- WriteDeviceBlock: refused, or a valid device that differs at its block alone. -/
theorem wrB_any (c h p s : Int) (A : Option Addr) (cp : Nat) (L : List DSector) (k r : Int) (N : Option Addr) (q : Nat) (m : List Int) (b : Int) (dat : ByteArray) (w : World) (hr : Rd w w.heap.size 2 A L.length (flat fSector L)) (hn : L.length ≤ 1048576) (hok : ∀ x ∈ L, okSector x) (kr : Rd w w.heap.size 1 N m.length (flat fI m)) (kn : m.length ≤ 1048576) (hqc : m.length ≤ q) (hds : dat.size ≤ 600) :
    Calls Try.prog 6 #[.agg #[.int .i64 c, .int .i64 h, .int .i64 p, .int .i64 s, .slice A L.length cp, .int .i64 k, .int .i64 r, .slice N m.length q], .int .i64 b, .string dat] w fun e w' => Below w.heap.size w w' ∧
      ((∃ (x0 x1 x2 x3 x5 x6 : Int) (A4 : Option Addr) (n4 c4 : Nat) (A7 : Option Addr) (n7 c7 : Nat) (x : Int), x ≠ 0 ∧ e = .returned (.tuple #[.agg #[.int .i64 x0, .int .i64 x1, .int .i64 x2, .int .i64 x3, .slice A4 n4 c4, .int .i64 x5, .int .i64 x6, .slice A7 n7 c7], .int .i64 x])) ∨
       (∃ (B : Nat) (L2 : List DSector) (A4 : Option Addr) (c4 : Nat) (A7 : Option Addr) (c7 : Nat), b = (B : Int) ∧ ∃ hB : B < m.length, okV (okD c h p s L) L.length k r m = true ∧ (dat.size : Int) = szB s ∧ e = .returned (.tuple #[.agg #[.int .i64 c, .int .i64 h, .int .i64 p, .int .i64 s, .slice A4 L2.length c4, .int .i64 k, .int .i64 r, .slice A7 m.length c7], .int .i64 0]) ∧ w'.ownsRow w.heap.size 53 2 (.slice A4 L2.length c4) L2.length (flat fSector L2) ∧ w'.ownsRow w.heap.size 2 1 (.slice A7 m.length c7) m.length (flat fI m) ∧ L2.length = L.length ∧ okV (okD c h p s L2) L2.length k r m = true ∧ rdD true L2 m (B : Int) = (dat, 0) ∧ abS L2 m[B] = ⟨dat, 1⟩ ∧ (∀ (n i : Nat) (hi : i < m.length), i ≠ B → abV L2 n m[i] = abV L n m[i]) ∧ (∀ x ∈ L2, okSector x))) := by
  refine (impl_WriteDeviceBlock_any c h p s A cp L k r N q m b dat w hr hn hok kr kn hqc (by unfold maxLen; omega)).mono ?_
  rintro e w' ⟨v4, v7, rfl, O4, O7, hne, hx⟩
  refine ⟨hx, ?_⟩
  by_cases hp : ptOk (okV (okD c h p s L) L.length k r m) (decide ((dat.size : Int) = szB s)) m.length b = true
  · right
    have hp' := hp
    simp only [ptOk, Bool.and_eq_true, decide_eq_true_eq, inB] at hp'
    obtain ⟨⟨hV, hd⟩, hb⟩ := hp'
    obtain ⟨B, rfl⟩ : ∃ B : Nat, b = (B : Int) := ⟨b.toNat, by omega⟩
    have hB : B < m.length := by omega
    obtain ⟨L2, e1, e2, e3, e4, e5, e6⟩ := dv_write (c := c) (h := h) (p := p) (s := s) (k := k) (r := r) hV hd hB
    have hc : ptC (okV (okD c h p s L) L.length k r m) (decide ((dat.size : Int) = szB s)) m.length (B : Int) = 0 := by
      rw [hV, decide_eq_true hd]; simp [ptC, inB]; omega
    rw [hp, e1] at O4
    rw [hp] at O7
    rw [hc, hp]
    obtain ⟨A4, c4, rfl⟩ := own_form O4
    obtain ⟨A7, c7, rfl⟩ := own_form O7
    refine ⟨B, L2, A4, c4, A7, c7, rfl, hB, hV, hd, rfl, O4, O7, e2, e3, e4, e5, e6, ?_⟩
    rw [← e1]
    exact ok_set hok ⟨by show dat.size ≤ maxLen; unfold maxLen; omega, by show (-9223372036854775808 : Int) ≤ 1; decide, by show (1 : Int) ≤ 9223372036854775807; decide⟩ _
  · left
    obtain ⟨A4, c4, rfl⟩ := own_form O4
    obtain ⟨A7, c7, rfl⟩ := own_form O7
    refine ⟨_, _, _, _, _, _, A4, _, c4, A7, _, c7, _, ?_, rfl⟩
    intro hc
    apply hp
    revert hc
    generalize okV (okD c h p s L) L.length k r m = bV
    generalize decide ((dat.size : Int) = szB s) = bD
    unfold ptC ptOk
    cases bV <;> cases bD <;> simp
end Go.Proofs.Ytcfeelecfmepaaa
namespace Go.Proofs.Ytcfeelecfmepaaa
set_option linter.unusedVariables false
open Go.RowKit

theorem abL_len (L : List DSector) (n : Nat) (m : List Int) : (abL L n m).length = m.length := by simp [abL]
theorem abB_any (c h p s : Int) (A : Option Addr) (cp : Nat) (L : List DSector) (k r : Int) (N : Option Addr) (q : Nat) (m : List Int) (w : World) (hr : Rd w w.heap.size 2 A L.length (flat fSector L)) (hn : L.length ≤ 1048576) (hok : ∀ x ∈ L, okSector x) (kr : Rd w w.heap.size 1 N m.length (flat fI m)) (kn : m.length ≤ 1048576) (hqc : m.length ≤ q) (hV : okV (okD c h p s L) L.length k r m = true) :
    Calls Try.prog 8 #[.agg #[.int .i64 c, .int .i64 h, .int .i64 p, .int .i64 s, .slice A L.length cp, .int .i64 k, .int .i64 r, .slice N m.length q]] w fun e w' => ∃ (A5 : Option Addr) (c5 : Nat) (A6 : Option Addr) (c6 : Nat), e = .returned (.tuple #[.slice A5 m.length c5, .slice A6 (abD L 0 m).length c6, .int .i64 0]) ∧ w'.ownsRow w.heap.size 9 1 (.slice A5 m.length c5) m.length (flat fS (abL L (szB s).toNat m)) ∧ Below w.heap.size w w' := by
  refine (impl_AllBlocks_any c h p s A cp L k r N q m w hr hn hok kr kn hqc).mono ?_
  rintro e w' ⟨v5, v6, rfl, O5, O6, hne, hx⟩
  rw [hV] at O5 O6 ⊢
  rw [show abLL true L (szB s).toNat m = abL L (szB s).toNat m from rfl, abL_len] at O5
  rw [show abDD true L m = abD L 0 m from rfl] at O6
  obtain ⟨A5, c5, rfl⟩ := own_form O5
  obtain ⟨A6, c6, rfl⟩ := own_form O6
  exact ⟨A5, c5, A6, c6, rfl, O5, hx⟩
theorem stG_okS : ∀ (m : List Int) (t : List ByteArray) (cur : List DSector), (∀ x ∈ cur, okSector x) → (∀ b ∈ t, b.size ≤ maxLen) → ∀ x ∈ stG cur m t, okSector x
  | [], _, _, h, _ => by simpa only [stG] using h
  | _ :: _, [], _, h, _ => by simpa only [stG] using h
  | a :: m, b :: t, cur, h, hb => by
    simp only [stG]
    exact stG_okS m t _ (ok_set h ⟨hb b (by simp), by show (-9223372036854775808 : Int) ≤ 1; decide, by show (1 : Int) ≤ 9223372036854775807; decide⟩ _) (fun x hx => hb x (by simp [hx]))
theorem stB_any (c h p s : Int) (A : Option Addr) (cp : Nat) (L : List DSector) (k r : Int) (N : Option Addr) (q : Nat) (m : List Int) (E : Option Addr) (ce : Nat) (t : List ByteArray) (w : World) (hr : Rd w w.heap.size 2 A L.length (flat fSector L)) (hn : L.length ≤ 1048576) (hok : ∀ x ∈ L, okSector x) (kr : Rd w w.heap.size 1 N m.length (flat fI m)) (kn : m.length ≤ 1048576) (hqc : m.length ≤ q) (hV : okV (okD c h p s L) L.length k r m = true) (er : Rd w w.heap.size 1 E t.length (flat fS t)) (hl : t.length = m.length) (ht : ∀ b ∈ t, (b.size : Int) = szB s) (hs : szB s ≤ 1000) :
    Calls Try.prog 11 #[.agg #[.int .i64 c, .int .i64 h, .int .i64 p, .int .i64 s, .slice A L.length cp, .int .i64 k, .int .i64 r, .slice N m.length q], .slice E t.length ce] w fun e w' => ∃ (L2 : List DSector) (A4 : Option Addr) (c4 : Nat) (A7 : Option Addr) (c7 : Nat), e = .returned (.tuple #[.agg #[.int .i64 c, .int .i64 h, .int .i64 p, .int .i64 s, .slice A4 L2.length c4, .int .i64 k, .int .i64 r, .slice A7 m.length c7], .int .i64 0]) ∧ w'.ownsRow w.heap.size 53 2 (.slice A4 L2.length c4) L2.length (flat fSector L2) ∧ w'.ownsRow w.heap.size 2 1 (.slice A7 m.length c7) m.length (flat fI m) ∧ L2.length ≤ 1048576 ∧ okV (okD c h p s L2) L2.length k r m = true ∧ abL L2 (szB s).toNat m = t ∧ abD L2 0 m = [] ∧ (∀ x ∈ L2, okSector x) ∧ Below w.heap.size w w' := by
  obtain ⟨s1, s2, s3, s4, s5⟩ := dv_store hV hl ht
  refine (impl_StoreBlocks_any c h p s A cp L k r N q m E ce t w hr hn hok kr kn hqc er (by omega)).mono ?_
  rintro e w' ⟨v4, v7, rfl, O4, O7, hne, hx⟩
  rw [hV] at O4 O7 ⊢
  rw [s1] at O4 O7 ⊢
  rw [s2]
  rw [show wdM true m = m from rfl] at O7
  obtain ⟨A4, c4, rfl⟩ := own_form O4
  obtain ⟨A7, c7, rfl⟩ := own_form O7
  have h128 := (dv_ok s3).2.2.2.2.1
  refine ⟨_, A4, c4, A7, c7, rfl, O4, O7, by omega, s3, s4, s5, ?_, hx⟩
  exact stG_okS m t L hok (fun b hb => by have := ht b hb; unfold maxLen; omega)
theorem ok_getD {L : List DSector} (hok : ∀ x ∈ L, okSector x) (i : Nat) : okSector (L.getD i noSec) := by
  by_cases hi : i < L.length
  · rw [getD_nat L hi]; exact hok _ (List.getElem_mem hi)
  · rw [List.getD_eq_getElem?_getD, List.getElem?_eq_none (by omega)]
    exact ⟨Nat.zero_le _, by show (-9223372036854775808 : Int) ≤ 0; decide, by show (0 : Int) ≤ 9223372036854775807; decide⟩
/-- ReplaceBlock at a block that holds the text: refused, or a valid device that reads the text there. -/
theorem rpB_any (c h p s : Int) (A : Option Addr) (cp : Nat) (L : List DSector) (k r : Int) (N : Option Addr) (q : Nat) (m : List Int) (B : Nat) (dat : ByteArray) (w : World) (hr : Rd w w.heap.size 2 A L.length (flat fSector L)) (hn : L.length ≤ 1048576) (hok : ∀ x ∈ L, okSector x) (kr : Rd w w.heap.size 1 N m.length (flat fI m)) (kn : m.length ≤ 1048576) (hqc : m.length ≤ q) (hV : okV (okD c h p s L) L.length k r m = true) (hB : B < m.length) (hs : abS L m[B] = ⟨dat, 1⟩) (hds : (dat.size : Int) = szB s) (hd6 : dat.size ≤ 600) :
    Calls Try.prog 10 #[.agg #[.int .i64 c, .int .i64 h, .int .i64 p, .int .i64 s, .slice A L.length cp, .int .i64 k, .int .i64 r, .slice N m.length q], .int .i64 (B : Int)] w fun e w' => Below w.heap.size w w' ∧
      ((∃ (x0 x1 x2 x3 x5 x6 : Int) (A4 : Option Addr) (n4 c4 : Nat) (A7 : Option Addr) (n7 c7 : Nat) (x : Int), x ≠ 0 ∧ e = .returned (.tuple #[.agg #[.int .i64 x0, .int .i64 x1, .int .i64 x2, .int .i64 x3, .slice A4 n4 c4, .int .i64 x5, .int .i64 x6, .slice A7 n7 c7], .int .i64 x])) ∨
       (∃ (L2 : List DSector) (M2 : List Int) (A4 : Option Addr) (c4 : Nat) (A7 : Option Addr) (c7 : Nat), e = .returned (.tuple #[.agg #[.int .i64 c, .int .i64 h, .int .i64 p, .int .i64 s, .slice A4 L2.length c4, .int .i64 k, .int .i64 r, .slice A7 M2.length c7], .int .i64 0]) ∧ w'.ownsRow w.heap.size 53 2 (.slice A4 L2.length c4) L2.length (flat fSector L2) ∧ w'.ownsRow w.heap.size 2 1 (.slice A7 M2.length c7) M2.length (flat fI M2) ∧ L2.length ≤ 1048576 ∧ M2.length ≤ 1048576 ∧ okV (okD c h p s L2) L2.length k r M2 = true ∧ rdD true L2 M2 (B : Int) = (dat, 0) ∧ (∀ x ∈ L2, okSector x))) := by
  refine (impl_ReplaceBlock_any c h p s A cp L k r N q m (B : Int) w hr hn hok kr kn hqc).mono ?_
  rintro e w' ⟨v4, v7, rfl, O4, O7, hne, hx⟩
  refine ⟨hx, ?_⟩
  rw [hV] at O4 O7 ⊢
  have hin : inB (B : Int) 0 ((m.length : Int) - 1) = true := by simp [inB]; omega
  cases hf : frB (ordT p.toNat k.toNat (c * h).toNat) m with
  | none =>
    left
    obtain ⟨A4, c4, rfl⟩ := own_form O4
    obtain ⟨A7, c7, rfl⟩ := own_form O7
    refine ⟨_, _, _, _, _, _, A4, _, c4, A7, _, c7, _, ?_, rfl⟩
    rw [rpC, if_pos rfl, if_pos hin]
    decide
  | some f =>
    right
    rw [hf] at O4 O7
    have hp : rpOk true m.length (B : Int) (some f) = true := by rw [rpOk, hin]; rfl
    have hc : rpC true m.length (B : Int) (some f) = 0 := by rw [rpC, if_pos rfl, if_pos hin]; rfl
    rw [hp] at O4 O7 ⊢
    rw [hc]
    obtain ⟨d1, d2⟩ := dv_replace hV hB hs hds hf (zerosB (szB s).toNat)
    obtain ⟨A4, c4, rfl⟩ := own_form O4
    obtain ⟨A7, c7, rfl⟩ := own_form O7
    have hm2 : (rpM true m (B : Int) (some f)).length = m.length := by simp [rpM]
    have h128 := (dv_ok d1).2.2.2.2.1
    refine ⟨_, _, A4, c4, A7, c7, rfl, O4, O7, by omega, by omega, d1, d2, ?_⟩
    refine ok_set hok ⟨?_, by show (-9223372036854775808 : Int) ≤ 1; decide, by show (1 : Int) ≤ 9223372036854775807; decide⟩ _
    show (if rdB (L.getD (m.getD ((B : Int)).toNat 0).toNat noSec).f1 then (L.getD (m.getD ((B : Int)).toNat 0).toNat noSec).f0 else zerosB (szB s).toNat).size ≤ maxLen
    split
    · exact (ok_getD hok _).1
    · rw [zerosB_size]; unfold maxLen; omega
end Go.Proofs.Ytcfeelecfmepaaa
namespace Go.Proofs.Ytcfeelecfmepaaa
set_option linter.unusedVariables false
open Go.RowKit

structure DZ (w W : World) (gd ge : Nat) (c h p s k r : Int) (M : List Int) (A4 : Option Addr) (c4 : Nat) (L : List DSector) (A7 : Option Addr) (c7 : Nat) (B4 : Option Addr) (b4 : Nat) (L2 : List DSector) (B7 : Option Addr) (b7 : Nat) : Prop where
  H : Below w.heap.size w W
  FD : BX W gd 29 [.int .i64 c, .int .i64 h, .int .i64 p, .int .i64 s, .slice A4 L.length c4, .int .i64 k, .int .i64 r, .slice A7 M.length c7]
  FE : BX W ge 29 [.int .i64 c, .int .i64 h, .int .i64 p, .int .i64 s, .slice B4 L2.length b4, .int .i64 k, .int .i64 r, .slice B7 M.length b7]
  R4 : World.ownsRow W w.heap.size 53 2 (.slice A4 L.length c4) L.length (flat fSector L)
  R7 : World.ownsRow W w.heap.size 2 1 (.slice A7 M.length c7) M.length (flat fI M)
  E4 : World.ownsRow W w.heap.size 53 2 (.slice B4 L2.length b4) L2.length (flat fSector L2)
  E7 : World.ownsRow W w.heap.size 2 1 (.slice B7 M.length b7) M.length (flat fI M)
section
variable {w W W' : World} {gd ge c4 c7 b4 b7 : Nat} {c h p s k r : Int} {M : List Int} {A4 A7 B4 B7 : Option Addr} {L L2 : List DSector}
theorem DZ.below (X : DZ w W gd ge c h p s k r M A4 c4 L A7 c7 B4 b4 L2 B7 b7) (q : Below W.heap.size W W') : DZ w W' gd ge c h p s k r M A4 c4 L A7 c7 B4 b4 L2 B7 b7 :=
  ⟨X.H.trans (q.mono X.H.size), X.FD.below q X.FD.lt, X.FE.below q X.FE.lt, own_later X.R4 q (Nat.le_refl _), own_later X.R7 q (Nat.le_refl _), own_later X.E4 q (Nat.le_refl _), own_later X.E7 q (Nat.le_refl _)⟩
theorem DZ.al (X : DZ w W gd ge c h p s k r M A4 c4 L A7 c7 B4 b4 L2 B7 b7) (o : Obj) : DZ w (W.alloc o) gd ge c h p s k r M A4 c4 L A7 c7 B4 b4 L2 B7 b7 := ⟨X.H.alloc X.H.size o, X.FD.al o, X.FE.al o, World.ownsRow.alloc X.R4 o, World.ownsRow.alloc X.R7 o, World.ownsRow.alloc X.E4 o, World.ownsRow.alloc X.E7 o⟩
theorem DZ.drN (X : DZ w W gd ge c h p s k r M A4 c4 L A7 c7 B4 b4 L2 B7 b7) (n : Nat) : DZ w (W.drewN n) gd ge c h p s k r M A4 c4 L A7 c7 B4 b4 L2 B7 b7 := ⟨below_drewN X.H n, X.FD, X.FE, X.R4, X.R7, X.E4, X.E7⟩
end
theorem own_capR0 {W : World} {base : Nat} {e : TypeId} {sz n cap : Nat} {A : Option Addr} {xs : List Value} (O : World.ownsRow W base e sz (.slice A n cap) n xs) : n ≤ cap := by
  obtain ⟨_, (⟨q, q2⟩ | ⟨g, cap', cur, q, _, _, hc, _⟩)⟩ := O
  · omega
  · cases q; exact hc
theorem rdB_any (c h p s : Int) (A : Option Addr) (cp : Nat) (L : List DSector) (k r : Int) (N : Option Addr) (q : Nat) (m : List Int) (b : Int) (dat : ByteArray) (w : World) (hr : Rd w w.heap.size 2 A L.length (flat fSector L)) (hn : L.length ≤ 1048576) (hok : ∀ x ∈ L, okSector x) (kr : Rd w w.heap.size 1 N m.length (flat fI m)) (kn : m.length ≤ 1048576) (hqc : m.length ≤ q) (hV : okV (okD c h p s L) L.length k r m = true) (hq : rdD true L m b = (dat, 0)) :
    Calls Try.prog 7 #[.agg #[.int .i64 c, .int .i64 h, .int .i64 p, .int .i64 s, .slice A L.length cp, .int .i64 k, .int .i64 r, .slice N m.length q], .int .i64 b] w fun e w' => e = .returned (.tuple #[.string dat, .int .i64 0]) ∧ Below w.heap.size w w' := by
  have h0 := impl_ReadDeviceBlock_any c h p s A cp L k r N q m b w hr hn hok kr kn hqc
  rw [hV, hq] at h0
  exact h0

set_option maxRecDepth 100000 in
set_option maxHeartbeats 8000000 in
theorem fnDevice_walk (A : Option Addr) (cc : Nat) (l : List UInt8) (w : World) (hr : Rd w w.heap.size 1 A l.length (flat fU l)) (hm : l.length ≤ maxLen) : Calls Try.prog 3 #[.slice A l.length cc] w fun e W' => e = .returned (.bool true) ∧ Below w.heap.size w W' := by
  have lg := fun W => long_any A l.length cc W hm
  by_cases hlong : 1048576 < l.length
  · rw [decide_eq_true hlong] at lg
    clear hlong
    go_enter Try.func3, Try.ntmps3
    go_wp2_with (go_at_call 4; (with_reducible refine (lg _).mono ?_); rintro e w0 ⟨rfl, rfl⟩)
    go_ret
    exact ⟨rfl, Below.refl _ _⟩
  rw [decide_eq_false hlong] at lg
  clear hlong
  have dr := drawWDB_any A l.length cc l w rfl hr hm
  go_enter Try.func3, Try.ntmps3
  go_upto_region 4 with (first
    | (go_at_call 4; (with_reducible refine (lg _).mono ?_); rintro e w0 ⟨rfl, rfl⟩)
    | (go_at_call 5; (with_reducible refine dr.mono ?_); rintro e w1 ⟨c, h, p, s, k, r, L, M, A4, c4, A7, c7, b, dat, rfl, O1, O2, hL, hM, hok, hdat, hx1⟩))
  clear dr lg
  have FD := BX.made w1 29 [.int .i64 c, .int .i64 h, .int .i64 p, .int .i64 s, .slice A4 L.length c4, .int .i64 k, .int .i64 r, .slice A7 M.length c7]
  have R4 := World.ownsRow.alloc O1 (.cells #[.int .i64 c, .int .i64 h, .int .i64 p, .int .i64 s, .slice A4 L.length c4, .int .i64 k, .int .i64 r, .slice A7 M.length c7] 29)
  have R7 := World.ownsRow.alloc O2 (.cells #[.int .i64 c, .int .i64 h, .int .i64 p, .int .i64 s, .slice A4 L.length c4, .int .i64 k, .int .i64 r, .slice A7 M.length c7] 29)
  have hB2 : Below w.heap.size w (w1.alloc (.cells #[.int .i64 c, .int .i64 h, .int .i64 p, .int .i64 s, .slice A4 L.length c4, .int .i64 k, .int .i64 r, .slice A7 M.length c7] 29)) := hx1.alloc hx1.size _
  generalize w1.alloc (.cells #[.int .i64 c, .int .i64 h, .int .i64 p, .int .i64 s, .slice A4 L.length c4, .int .i64 k, .int .i64 r, .slice A7 M.length c7] 29) = w2 at FD R4 R7 hB2 ⊢
  generalize w1.heap.size = gd at FD ⊢
  clear O1 O2 hx1
  have hcap := own_capR0 R7
  have wr := wrB_any c h p s A4 c4 L k r A7 c7 M b dat w2 (Rd.of_own R4) (by omega) hok (Rd.of_own R7) (by omega) hcap hdat
  have f0 : (_ : Option Value) = some (.int .i64 c) := FD.cell 0 (by simp)
  have f1 : (_ : Option Value) = some (.int .i64 h) := FD.cell 1 (by simp)
  have f2 : (_ : Option Value) = some (.int .i64 p) := FD.cell 2 (by simp)
  have f3 : (_ : Option Value) = some (.int .i64 s) := FD.cell 3 (by simp)
  have f4 : (_ : Option Value) = some (.slice A4 L.length c4) := FD.cell 4 (by simp)
  have f5 : (_ : Option Value) = some (.int .i64 k) := FD.cell 5 (by simp)
  have f6 : (_ : Option Value) = some (.int .i64 r) := FD.cell 6 (by simp)
  have f7 : (_ : Option Value) = some (.slice A7 M.length c7) := FD.cell 7 (by simp)
  go_wp2_with fail
  refine wr.mono ?_
  rintro e w3 ⟨hx3, (⟨x0, x1, x2, x3, x5, x6, Z4, m4, z4, Z7, m7, z7, x, hx0, rfl⟩ | ⟨B, L2, B4, b4, B7, b7, rfl, hB, hV, hds, rfl, E4, E7, hLL, hV2, hrd, has, hav, hok2⟩)⟩
  · have n0 : (x != 0) = true := by simpa using hx0
    go_wp2
    go_ret
    exact ⟨rfl, (hB2.trans (hx3.mono hB2.size)).alloc (Nat.le_trans hB2.size hx3.size) _⟩
  clear wr f0 f1 f2 f3 f4 f5 f6 f7
  have hL2 : L2.length ≤ 1048576 := by omega
  have HLL := Lib.hid hLL
  clear hLL
  have HDS := Lib.hid hds
  clear hds
  go_upto_region 5 with fail
  have X : DZ w (w3.alloc (.cells #[.int .i64 c, .int .i64 h, .int .i64 p, .int .i64 s, .slice B4 L2.length b4, .int .i64 k, .int .i64 r, .slice B7 M.length b7] 29)) gd w3.heap.size c h p s k r M A4 c4 L A7 c7 B4 b4 L2 B7 b7 := ⟨(hB2.trans (hx3.mono hB2.size)).alloc (Nat.le_trans hB2.size hx3.size) _, (FD.below hx3 FD.lt).al _, BX.made w3 29 [.int .i64 c, .int .i64 h, .int .i64 p, .int .i64 s, .slice B4 L2.length b4, .int .i64 k, .int .i64 r, .slice B7 M.length b7], World.ownsRow.alloc (own_later R4 hx3 (Nat.le_refl _)) _, World.ownsRow.alloc (own_later R7 hx3 (Nat.le_refl _)) _, World.ownsRow.alloc (own_base E4 hB2.size) _, World.ownsRow.alloc (own_base E7 hB2.size) _⟩
  have hcap2 := own_capR0 X.E7
  generalize w3.alloc (.cells #[.int .i64 c, .int .i64 h, .int .i64 p, .int .i64 s, .slice B4 L2.length b4, .int .i64 k, .int .i64 r, .slice B7 M.length b7] 29) = w4 at X ⊢
  generalize w3.heap.size = ge at X ⊢
  clear FD R4 R7 E4 E7 hB2 hx3
  have hLn : L.length ≤ 1048576 := by omega
  have hMn : M.length ≤ 1048576 := by omega
  have ab := fun (W : World) (X : DZ w W gd ge c h p s k r M A4 c4 L A7 c7 B4 b4 L2 B7 b7) => abB_any c h p s A4 c4 L k r A7 c7 M W (Rd.of_own X.R4) hLn hok (Rd.of_own X.R7) hMn hcap hV
  have abe := fun (W : World) (X : DZ w W gd ge c h p s k r M A4 c4 L A7 c7 B4 b4 L2 B7 b7) => abB_any c h p s B4 b4 L2 k r B7 b7 M W (Rd.of_own X.E4) hL2 hok2 (Rd.of_own X.E7) hMn hcap2 hV2
  have rde := fun (W : World) (X : DZ w W gd ge c h p s k r M A4 c4 L A7 c7 B4 b4 L2 B7 b7) => rdB_any c h p s B4 b4 L2 k r B7 b7 M (B : Int) dat W (Rd.of_own X.E4) hL2 hok2 (Rd.of_own X.E7) hMn hcap2 hV2 hrd
  have vde := fun (W : World) (X : DZ w W gd ge c h p s k r M A4 c4 L A7 c7 B4 b4 L2 B7 b7) => spec_ValidDevice_any c h p s B4 b4 L2 k r B7 b7 M W (Rd.of_own X.E4) hL2 hok2 (Rd.of_own X.E7) hMn
  rw [hV2] at vde
  have f0 : (_ : Option Value) = some (.int .i64 c) := X.FD.cell 0 (by simp)
  have f1 : (_ : Option Value) = some (.int .i64 h) := X.FD.cell 1 (by simp)
  have f2 : (_ : Option Value) = some (.int .i64 p) := X.FD.cell 2 (by simp)
  have f3 : (_ : Option Value) = some (.int .i64 s) := X.FD.cell 3 (by simp)
  have f4 : (_ : Option Value) = some (.slice A4 L.length c4) := X.FD.cell 4 (by simp)
  have f5 : (_ : Option Value) = some (.int .i64 k) := X.FD.cell 5 (by simp)
  have f6 : (_ : Option Value) = some (.int .i64 r) := X.FD.cell 6 (by simp)
  have f7 : (_ : Option Value) = some (.slice A7 M.length c7) := X.FD.cell 7 (by simp)
  have x0 : (_ : Option Value) = some (.int .i64 c) := X.FE.cell 0 (by simp)
  have x1 : (_ : Option Value) = some (.int .i64 h) := X.FE.cell 1 (by simp)
  have x2 : (_ : Option Value) = some (.int .i64 p) := X.FE.cell 2 (by simp)
  have x3 : (_ : Option Value) = some (.int .i64 s) := X.FE.cell 3 (by simp)
  have x4 : (_ : Option Value) = some (.slice B4 L2.length b4) := X.FE.cell 4 (by simp)
  have x5 : (_ : Option Value) = some (.int .i64 k) := X.FE.cell 5 (by simp)
  have x6 : (_ : Option Value) = some (.int .i64 r) := X.FE.cell 6 (by simp)
  have x7 : (_ : Option Value) = some (.slice B7 M.length b7) := X.FE.cell 7 (by simp)
  have g1 : (dat.toList == dat.toList) = true := by simp
  go_upto_region 12 with (first
    | (go_at_call 9; (with_reducible refine (vde _ X).mono ?_); rintro e w8 ⟨rfl, hx8⟩; replace X := X.below hx8; replace T5 := own_later T5 hx8 (Nat.le_refl _); replace T8 := own_later T8 hx8 (Nat.le_refl _))
    | (go_at_call 8; have := mk1; (with_reducible refine (abe _ X).mono ?_); rintro e w7 ⟨A8, c8, A9, c9, rfl, T8, hx7⟩; replace T5 := own_later T5 hx7 (Nat.le_refl _); replace T8 := own_base T8 X.H.size; replace X := X.below hx7; clear f0 x0 f1 x1 f2 x2 f3 x3 f4 x4 f5 x5 f6 x6 f7 x7; have f0 : (_ : Option Value) = some (.int .i64 c) := X.FD.cell 0 (by simp); have f1 : (_ : Option Value) = some (.int .i64 h) := X.FD.cell 1 (by simp); have f2 : (_ : Option Value) = some (.int .i64 p) := X.FD.cell 2 (by simp); have f3 : (_ : Option Value) = some (.int .i64 s) := X.FD.cell 3 (by simp); have f4 : (_ : Option Value) = some (.slice A4 L.length c4) := X.FD.cell 4 (by simp); have f5 : (_ : Option Value) = some (.int .i64 k) := X.FD.cell 5 (by simp); have f6 : (_ : Option Value) = some (.int .i64 r) := X.FD.cell 6 (by simp); have f7 : (_ : Option Value) = some (.slice A7 M.length c7) := X.FD.cell 7 (by simp); have x0 : (_ : Option Value) = some (.int .i64 c) := X.FE.cell 0 (by simp); have x1 : (_ : Option Value) = some (.int .i64 h) := X.FE.cell 1 (by simp); have x2 : (_ : Option Value) = some (.int .i64 p) := X.FE.cell 2 (by simp); have x3 : (_ : Option Value) = some (.int .i64 s) := X.FE.cell 3 (by simp); have x4 : (_ : Option Value) = some (.slice B4 L2.length b4) := X.FE.cell 4 (by simp); have x5 : (_ : Option Value) = some (.int .i64 k) := X.FE.cell 5 (by simp); have x6 : (_ : Option Value) = some (.int .i64 r) := X.FE.cell 6 (by simp); have x7 : (_ : Option Value) = some (.slice B7 M.length b7) := X.FE.cell 7 (by simp))
    | (go_at_call 8; (with_reducible refine (ab _ X).mono ?_); rintro e w6 ⟨A5, c5, A6, c6, rfl, T5, hx6⟩; replace T5 := own_base T5 X.H.size; replace X := X.below hx6; have mk1 := True.intro; clear f0 x0 f1 x1 f2 x2 f3 x3 f4 x4 f5 x5 f6 x6 f7 x7; have f0 : (_ : Option Value) = some (.int .i64 c) := X.FD.cell 0 (by simp); have f1 : (_ : Option Value) = some (.int .i64 h) := X.FD.cell 1 (by simp); have f2 : (_ : Option Value) = some (.int .i64 p) := X.FD.cell 2 (by simp); have f3 : (_ : Option Value) = some (.int .i64 s) := X.FD.cell 3 (by simp); have f4 : (_ : Option Value) = some (.slice A4 L.length c4) := X.FD.cell 4 (by simp); have f5 : (_ : Option Value) = some (.int .i64 k) := X.FD.cell 5 (by simp); have f6 : (_ : Option Value) = some (.int .i64 r) := X.FD.cell 6 (by simp); have f7 : (_ : Option Value) = some (.slice A7 M.length c7) := X.FD.cell 7 (by simp); have x0 : (_ : Option Value) = some (.int .i64 c) := X.FE.cell 0 (by simp); have x1 : (_ : Option Value) = some (.int .i64 h) := X.FE.cell 1 (by simp); have x2 : (_ : Option Value) = some (.int .i64 p) := X.FE.cell 2 (by simp); have x3 : (_ : Option Value) = some (.int .i64 s) := X.FE.cell 3 (by simp); have x4 : (_ : Option Value) = some (.slice B4 L2.length b4) := X.FE.cell 4 (by simp); have x5 : (_ : Option Value) = some (.int .i64 k) := X.FE.cell 5 (by simp); have x6 : (_ : Option Value) = some (.int .i64 r) := X.FE.cell 6 (by simp); have x7 : (_ : Option Value) = some (.slice B7 M.length b7) := X.FE.cell 7 (by simp))
    | (go_at_call 7; (with_reducible refine (rde _ X).mono ?_); rintro e w5 ⟨rfl, hx5⟩; replace X := X.below hx5; clear f0 x0 f1 x1 f2 x2 f3 x3 f4 x4 f5 x5 f6 x6 f7 x7; have f0 : (_ : Option Value) = some (.int .i64 c) := X.FD.cell 0 (by simp); have f1 : (_ : Option Value) = some (.int .i64 h) := X.FD.cell 1 (by simp); have f2 : (_ : Option Value) = some (.int .i64 p) := X.FD.cell 2 (by simp); have f3 : (_ : Option Value) = some (.int .i64 s) := X.FD.cell 3 (by simp); have f4 : (_ : Option Value) = some (.slice A4 L.length c4) := X.FD.cell 4 (by simp); have f5 : (_ : Option Value) = some (.int .i64 k) := X.FD.cell 5 (by simp); have f6 : (_ : Option Value) = some (.int .i64 r) := X.FD.cell 6 (by simp); have f7 : (_ : Option Value) = some (.slice A7 M.length c7) := X.FD.cell 7 (by simp); have x0 : (_ : Option Value) = some (.int .i64 c) := X.FE.cell 0 (by simp); have x1 : (_ : Option Value) = some (.int .i64 h) := X.FE.cell 1 (by simp); have x2 : (_ : Option Value) = some (.int .i64 p) := X.FE.cell 2 (by simp); have x3 : (_ : Option Value) = some (.int .i64 s) := X.FE.cell 3 (by simp); have x4 : (_ : Option Value) = some (.slice B4 L2.length b4) := X.FE.cell 4 (by simp); have x5 : (_ : Option Value) = some (.int .i64 k) := X.FE.cell 5 (by simp); have x6 : (_ : Option Value) = some (.int .i64 r) := X.FE.cell 6 (by simp); have x7 : (_ : Option Value) = some (.slice B7 M.length b7) := X.FE.cell 7 (by simp)))
  obtain ⟨t1, ht1⟩ : ∃ t1, abL L (szB s).toNat M = t1 := ⟨_, rfl⟩
  obtain ⟨t2, ht2⟩ : ∃ t2, abL L2 (szB s).toNat M = t2 := ⟨_, rfl⟩
  rw [ht1] at T5
  rw [ht2] at T8
  have HL1 := Lib.hid (show t1.length = M.length by rw [← ht1, abL_len])
  have HL2 := Lib.hid (show t2.length = M.length by rw [← ht2, abL_len])
  have hT : ∀ (i : Nat) (h1 : i < t1.length) (h2 : i < t2.length), i ≠ B → t1[i] = t2[i] := by
    intro i h1 h2 hne
    subst ht1 ht2
    simp only [abL, List.getElem_map]
    exact (hav _ i (by rw [abL_len] at h1; exact h1) hne).symm
  have hts : ∀ y ∈ t2, (y.size : Int) = szB s := by
    intro y hy
    rw [← ht2, abL, List.mem_map] at hy
    obtain ⟨x, hx, rfl⟩ := hy
    exact abV_size hV2 hx
  clear ht1 ht2 hav hrd
  go_wp2
  go_loopw [16] (fun a wr => ∃ i : Nat, a = .int .i64 (i : Int) ∧ i ≤ M.length ∧ DZ w wr gd ge c h p s k r M A4 c4 L A7 c7 B4 b4 L2 B7 b7 ∧ World.ownsRow wr w.heap.size 9 1 (.slice A5 M.length c5) M.length (flat fS t1) ∧ World.ownsRow wr w.heap.size 9 1 (.slice A8 M.length c8) M.length (flat fS t2)) (fun a _ => M.length - (intOf a).toNat)
  case atStart => exact ⟨0, rfl, Nat.zero_le _, X, T5, T8⟩
  case round =>
    clear X T5 T8
    obtain ⟨i, rfl, hi, X, T5, T8⟩ := hrel
    by_cases hlt : i < M.length
    · have hlti : (i : Int) < (M.length : Int) := by omega
      have hin : IntKind.i64.wrap ((i : Int) + 1) = ((i + 1 : Nat) : Int) := by rw [IntWalk.i64_in _ (by omega)]; rfl
      by_cases hiB : i = B
      · have g2 : ((i : Int) != (B : Int)) = false := by subst hiB; simp
        go_wp2_with fail
        go_quiet (fail)
        go_wp2
        go_roundw
        case rel => exact ⟨i + 1, by rw [hiB]; rfl, by omega, X.drN _, T5, T8⟩
        case measure => (simp [intOf] <;> omega)
      · have g2 : ((i : Int) != (B : Int)) = true := by simp; omega
        have R5 : Rd wr wr.heap.size 1 A5 t1.length (flat fS t1) := by rw [HL1.out]; exact Rd.of_own T5
        have R8 : Rd wr wr.heap.size 1 A8 t2.length (flat fS t2) := by rw [HL2.out]; exact Rd.of_own T8
        obtain ⟨b, off, e5, hbb, hc⟩ := R5.at_ (f := fS) (fun _ => rfl) rfl i (by rw [HL1.out]; exact hlt)
        obtain ⟨b', off', e8, hbb', hc'⟩ := R8.at_ (f := fS) (fun _ => rfl) rfl i (by rw [HL2.out]; exact hlt)
        subst e5 e8
        have hc0 := hc 0 _ (by omega) rfl
        have hc0' := hc' 0 _ (by omega) rfl
        rw [hT i (by rw [HL1.out]; exact hlt) (by rw [HL2.out]; exact hlt) hiB] at hc0
        simp only [Nat.mul_one, Nat.add_zero] at hc0 hc0'
        obtain ⟨y, hy⟩ : ∃ y, t2[i]'(by rw [HL2.out]; exact hlt) = y := ⟨_, rfl⟩
        rw [hy] at hc0 hc0'
        clear hy R5 R8 hc hc'
        have g3 : (y.toList == y.toList) = true := by simp
        go_wp2_with fail
        go_quiet (fail)
        go_wp2
        go_roundw
        case rel => exact ⟨i + 1, rfl, by omega, X.drN _, T5, T8⟩
        case measure => (simp [intOf] <;> omega)
    · have hni : ¬ (i : Int) < (M.length : Int) := by omega
      have stb := fun (W : World) (X : DZ w W gd ge c h p s k r M A4 c4 L A7 c7 B4 b4 L2 B7 b7) (T8 : World.ownsRow W w.heap.size 9 1 (.slice A8 M.length c8) M.length (flat fS t2)) => stB_any c h p s A4 c4 L k r A7 c7 M A8 c8 t2 W (Rd.of_own X.R4) hLn hok (Rd.of_own X.R7) hMn hcap hV (by rw [HL2.out]; exact Rd.of_own T8) HL2.out hts (by have := HDS.out; omega)
      rw [HL2.out] at stb
      have rp := rpB_any c h p s B4 b4 L2 k r B7 b7 M B dat wr (Rd.of_own X.E4) hL2 hok2 (Rd.of_own X.E7) hMn hcap2 hV2 hB has HDS.out hdat
      have f0 : (_ : Option Value) = some (.int .i64 c) := X.FD.cell 0 (by simp)
      have f1 : (_ : Option Value) = some (.int .i64 h) := X.FD.cell 1 (by simp)
      have f2 : (_ : Option Value) = some (.int .i64 p) := X.FD.cell 2 (by simp)
      have f3 : (_ : Option Value) = some (.int .i64 s) := X.FD.cell 3 (by simp)
      have f4 : (_ : Option Value) = some (.slice A4 L.length c4) := X.FD.cell 4 (by simp)
      have f5 : (_ : Option Value) = some (.int .i64 k) := X.FD.cell 5 (by simp)
      have f6 : (_ : Option Value) = some (.int .i64 r) := X.FD.cell 6 (by simp)
      have f7 : (_ : Option Value) = some (.slice A7 M.length c7) := X.FD.cell 7 (by simp)
      have x0 : (_ : Option Value) = some (.int .i64 c) := X.FE.cell 0 (by simp)
      have x1 : (_ : Option Value) = some (.int .i64 h) := X.FE.cell 1 (by simp)
      have x2 : (_ : Option Value) = some (.int .i64 p) := X.FE.cell 2 (by simp)
      have x3 : (_ : Option Value) = some (.int .i64 s) := X.FE.cell 3 (by simp)
      have x4 : (_ : Option Value) = some (.slice B4 L2.length b4) := X.FE.cell 4 (by simp)
      have x5 : (_ : Option Value) = some (.int .i64 k) := X.FE.cell 5 (by simp)
      have x6 : (_ : Option Value) = some (.int .i64 r) := X.FE.cell 6 (by simp)
      have x7 : (_ : Option Value) = some (.slice B7 M.length b7) := X.FE.cell 7 (by simp)
      go_wp2_with fail
      refine rp.mono ?_
      rintro e w5 ⟨hx5, (⟨y0, y1, y2, y3, y5, y6, Z4, m4, z4, Z7, m7, z7, y, hy0, rfl⟩ | ⟨L3, M3, P4, p4, P7, p7, rfl, O4, O7, hL3, hM3, hV3, hrd3, hok3⟩)⟩
      · have n0 : (y == 0) = false := by simpa using hy0
        clear rp f0 f1 f2 f3 f4 f5 f6 f7 x0 x1 x2 x3 x4 x5 x6 x7
        replace X := X.below hx5
        replace T8 := own_later T8 hx5 (Nat.le_refl _)
        go_upto_region 22 with fail
        replace X := X.al (.cells #[.int .i64 y0, .int .i64 y1, .int .i64 y2, .int .i64 y3, .slice Z4 m4 z4, .int .i64 y5, .int .i64 y6, .slice Z7 m7 z7] 29)
        replace T8 := World.ownsRow.alloc T8 (.cells #[.int .i64 y0, .int .i64 y1, .int .i64 y2, .int .i64 y3, .slice Z4 m4 z4, .int .i64 y5, .int .i64 y6, .slice Z7 m7 z7] 29)
        generalize w5.alloc (.cells #[.int .i64 y0, .int .i64 y1, .int .i64 y2, .int .i64 y3, .slice Z4 m4 z4, .int .i64 y5, .int .i64 y6, .slice Z7 m7 z7] 29) = w6 at X T8 ⊢
        have f0 : (_ : Option Value) = some (.int .i64 c) := X.FD.cell 0 (by simp)
        have f1 : (_ : Option Value) = some (.int .i64 h) := X.FD.cell 1 (by simp)
        have f2 : (_ : Option Value) = some (.int .i64 p) := X.FD.cell 2 (by simp)
        have f3 : (_ : Option Value) = some (.int .i64 s) := X.FD.cell 3 (by simp)
        have f4 : (_ : Option Value) = some (.slice A4 L.length c4) := X.FD.cell 4 (by simp)
        have f5 : (_ : Option Value) = some (.int .i64 k) := X.FD.cell 5 (by simp)
        have f6 : (_ : Option Value) = some (.int .i64 r) := X.FD.cell 6 (by simp)
        have f7 : (_ : Option Value) = some (.slice A7 M.length c7) := X.FD.cell 7 (by simp)
        go_upto_region 23 with (go_at_call 11; (with_reducible refine (stb _ X T8).mono ?_); rintro e w9 ⟨L5, Q4, q4, Q7, q7, rfl, O4, O7, hL5, hV5, hab, hdd, hok5, hx9⟩; have FQ := BX.made w9 29 [.int .i64 c, .int .i64 h, .int .i64 p, .int .i64 s, .slice Q4 L5.length q4, .int .i64 k, .int .i64 r, .slice Q7 M.length q7])
        have Y4 := World.ownsRow.alloc O4 (.cells #[.int .i64 c, .int .i64 h, .int .i64 p, .int .i64 s, .slice Q4 L5.length q4, .int .i64 k, .int .i64 r, .slice Q7 M.length q7] 29)
        have Y7 := World.ownsRow.alloc O7 (.cells #[.int .i64 c, .int .i64 h, .int .i64 p, .int .i64 s, .slice Q4 L5.length q4, .int .i64 k, .int .i64 r, .slice Q7 M.length q7] 29)
        have TY := World.ownsRow.alloc (own_later T8 hx9 (Nat.le_refl _)) (.cells #[.int .i64 c, .int .i64 h, .int .i64 p, .int .i64 s, .slice Q4 L5.length q4, .int .i64 k, .int .i64 r, .slice Q7 M.length q7] 29)
        have HY := (X.below hx9).H.alloc (X.below hx9).H.size (.cells #[.int .i64 c, .int .i64 h, .int .i64 p, .int .i64 s, .slice Q4 L5.length q4, .int .i64 k, .int .i64 r, .slice Q7 M.length q7] 29)
        generalize w9.alloc (.cells #[.int .i64 c, .int .i64 h, .int .i64 p, .int .i64 s, .slice Q4 L5.length q4, .int .i64 k, .int .i64 r, .slice Q7 M.length q7] 29) = wz at FQ Y4 Y7 TY HY ⊢
        generalize w9.heap.size = gq at FQ ⊢
        clear X T8 O4 O7 hx9 f0 f1 f2 f3 f4 f5 f6 f7
        have fq0 : (_ : Option Value) = some (.int .i64 c) := FQ.cell 0 (by simp)
        have fq1 : (_ : Option Value) = some (.int .i64 h) := FQ.cell 1 (by simp)
        have fq2 : (_ : Option Value) = some (.int .i64 p) := FQ.cell 2 (by simp)
        have fq3 : (_ : Option Value) = some (.int .i64 s) := FQ.cell 3 (by simp)
        have fq4 : (_ : Option Value) = some (.slice Q4 L5.length q4) := FQ.cell 4 (by simp)
        have fq5 : (_ : Option Value) = some (.int .i64 k) := FQ.cell 5 (by simp)
        have fq6 : (_ : Option Value) = some (.int .i64 r) := FQ.cell 6 (by simp)
        have fq7 : (_ : Option Value) = some (.slice Q7 M.length q7) := FQ.cell 7 (by simp)
        have abq := abB_any c h p s Q4 q4 L5 k r Q7 q7 M wz (Rd.of_own Y4) hL5 hok5 (Rd.of_own Y7) hMn (own_capR0 Y7) hV5
        rw [hab, hdd] at abq
        go_wp2_with (first
          | (go_at_call 12; have tx := b10Texts_any U5 A8 u5 c8 t2 _ _ (by rw [HL2.out]; exact Rd.of_own TU) (by rw [HL2.out]; exact Rd.of_own TZ) (by rw [HL2.out]; exact hMn); rw [HL2.out] at tx; (with_reducible refine tx.mono ?_); rintro e wf ⟨rfl, nq, rfl⟩; replace HY := below_drewN HY nq)
          | (go_at_call 8; (with_reducible refine abq.mono ?_); rintro e wu ⟨U5, u5, U6, u6, rfl, TU, hxu⟩; have TZ := own_later TY hxu (Nat.le_refl _); replace HY := HY.trans (hxu.mono HY.size)))
        go_ret
        exact ⟨rfl, HY⟩
      · clear rp f0 f1 f2 f3 f4 f5 f6 f7 x0 x1 x2 x3 x4 x5 x6 x7
        replace X := X.below hx5
        replace T8 := own_later T8 hx5 (Nat.le_refl _)
        have hcap3 := own_capR0 O7
        have rd3 := fun (W : World) h1 h2 => rdB_any c h p s P4 p4 L3 k r P7 p7 M3 (B : Int) dat W h1 hL3 hok3 h2 hM3 hcap3 hV3 hrd3
        have vd3 := fun (W : World) h1 h2 => spec_ValidDevice_any c h p s P4 p4 L3 k r P7 p7 M3 W h1 hL3 hok3 h2 hM3
        rw [hV3] at vd3
        go_upto_region 18 with fail
        have FP := BX.made w5 29 [.int .i64 c, .int .i64 h, .int .i64 p, .int .i64 s, .slice P4 L3.length p4, .int .i64 k, .int .i64 r, .slice P7 M3.length p7]
        replace O4 := World.ownsRow.alloc O4 (.cells #[.int .i64 c, .int .i64 h, .int .i64 p, .int .i64 s, .slice P4 L3.length p4, .int .i64 k, .int .i64 r, .slice P7 M3.length p7] 29)
        replace O7 := World.ownsRow.alloc O7 (.cells #[.int .i64 c, .int .i64 h, .int .i64 p, .int .i64 s, .slice P4 L3.length p4, .int .i64 k, .int .i64 r, .slice P7 M3.length p7] 29)
        replace X := X.al (.cells #[.int .i64 c, .int .i64 h, .int .i64 p, .int .i64 s, .slice P4 L3.length p4, .int .i64 k, .int .i64 r, .slice P7 M3.length p7] 29)
        replace T8 := World.ownsRow.alloc T8 (.cells #[.int .i64 c, .int .i64 h, .int .i64 p, .int .i64 s, .slice P4 L3.length p4, .int .i64 k, .int .i64 r, .slice P7 M3.length p7] 29)
        generalize w5.alloc (.cells #[.int .i64 c, .int .i64 h, .int .i64 p, .int .i64 s, .slice P4 L3.length p4, .int .i64 k, .int .i64 r, .slice P7 M3.length p7] 29) = w6 at X T8 O4 O7 FP ⊢
        generalize w5.heap.size = gp at FP ⊢
        have fp0 : (_ : Option Value) = some (.int .i64 c) := FP.cell 0 (by simp)
        have fp1 : (_ : Option Value) = some (.int .i64 h) := FP.cell 1 (by simp)
        have fp2 : (_ : Option Value) = some (.int .i64 p) := FP.cell 2 (by simp)
        have fp3 : (_ : Option Value) = some (.int .i64 s) := FP.cell 3 (by simp)
        have fp4 : (_ : Option Value) = some (.slice P4 L3.length p4) := FP.cell 4 (by simp)
        have fp5 : (_ : Option Value) = some (.int .i64 k) := FP.cell 5 (by simp)
        have fp6 : (_ : Option Value) = some (.int .i64 r) := FP.cell 6 (by simp)
        have fp7 : (_ : Option Value) = some (.slice P7 M3.length p7) := FP.cell 7 (by simp)
        go_upto_region 22 with (first
          | (go_at_call 9; (with_reducible refine (vd3 _ (Rd.of_own O4) (Rd.of_own O7)).mono ?_); rintro e w8 ⟨rfl, hx8⟩; replace X := X.below hx8; replace T8 := own_later T8 hx8 (Nat.le_refl _))
          | (go_at_call 7; (with_reducible refine (rd3 _ (Rd.of_own O4) (Rd.of_own O7)).mono ?_); rintro e w7 ⟨rfl, hx7⟩; replace FP := FP.below hx7 FP.lt; replace O4 := own_later O4 hx7 (Nat.le_refl _); replace O7 := own_later O7 hx7 (Nat.le_refl _); replace X := X.below hx7; replace T8 := own_later T8 hx7 (Nat.le_refl _); clear fp0 fp1 fp2 fp3 fp4 fp5 fp6 fp7; have fp0 : (_ : Option Value) = some (.int .i64 c) := FP.cell 0 (by simp); have fp1 : (_ : Option Value) = some (.int .i64 h) := FP.cell 1 (by simp); have fp2 : (_ : Option Value) = some (.int .i64 p) := FP.cell 2 (by simp); have fp3 : (_ : Option Value) = some (.int .i64 s) := FP.cell 3 (by simp); have fp4 : (_ : Option Value) = some (.slice P4 L3.length p4) := FP.cell 4 (by simp); have fp5 : (_ : Option Value) = some (.int .i64 k) := FP.cell 5 (by simp); have fp6 : (_ : Option Value) = some (.int .i64 r) := FP.cell 6 (by simp); have fp7 : (_ : Option Value) = some (.slice P7 M3.length p7) := FP.cell 7 (by simp)))
        clear O4 O7
        have f0 : (_ : Option Value) = some (.int .i64 c) := X.FD.cell 0 (by simp)
        have f1 : (_ : Option Value) = some (.int .i64 h) := X.FD.cell 1 (by simp)
        have f2 : (_ : Option Value) = some (.int .i64 p) := X.FD.cell 2 (by simp)
        have f3 : (_ : Option Value) = some (.int .i64 s) := X.FD.cell 3 (by simp)
        have f4 : (_ : Option Value) = some (.slice A4 L.length c4) := X.FD.cell 4 (by simp)
        have f5 : (_ : Option Value) = some (.int .i64 k) := X.FD.cell 5 (by simp)
        have f6 : (_ : Option Value) = some (.int .i64 r) := X.FD.cell 6 (by simp)
        have f7 : (_ : Option Value) = some (.slice A7 M.length c7) := X.FD.cell 7 (by simp)
        go_upto_region 23 with (go_at_call 11; (with_reducible refine (stb _ X T8).mono ?_); rintro e w9 ⟨L5, Q4, q4, Q7, q7, rfl, O4, O7, hL5, hV5, hab, hdd, hok5, hx9⟩; have FQ := BX.made w9 29 [.int .i64 c, .int .i64 h, .int .i64 p, .int .i64 s, .slice Q4 L5.length q4, .int .i64 k, .int .i64 r, .slice Q7 M.length q7])
        have Y4 := World.ownsRow.alloc O4 (.cells #[.int .i64 c, .int .i64 h, .int .i64 p, .int .i64 s, .slice Q4 L5.length q4, .int .i64 k, .int .i64 r, .slice Q7 M.length q7] 29)
        have Y7 := World.ownsRow.alloc O7 (.cells #[.int .i64 c, .int .i64 h, .int .i64 p, .int .i64 s, .slice Q4 L5.length q4, .int .i64 k, .int .i64 r, .slice Q7 M.length q7] 29)
        have TY := World.ownsRow.alloc (own_later T8 hx9 (Nat.le_refl _)) (.cells #[.int .i64 c, .int .i64 h, .int .i64 p, .int .i64 s, .slice Q4 L5.length q4, .int .i64 k, .int .i64 r, .slice Q7 M.length q7] 29)
        have HY := (X.below hx9).H.alloc (X.below hx9).H.size (.cells #[.int .i64 c, .int .i64 h, .int .i64 p, .int .i64 s, .slice Q4 L5.length q4, .int .i64 k, .int .i64 r, .slice Q7 M.length q7] 29)
        generalize w9.alloc (.cells #[.int .i64 c, .int .i64 h, .int .i64 p, .int .i64 s, .slice Q4 L5.length q4, .int .i64 k, .int .i64 r, .slice Q7 M.length q7] 29) = wz at FQ Y4 Y7 TY HY ⊢
        generalize w9.heap.size = gq at FQ ⊢
        clear X T8 O4 O7 hx9 f0 f1 f2 f3 f4 f5 f6 f7
        have fq0 : (_ : Option Value) = some (.int .i64 c) := FQ.cell 0 (by simp)
        have fq1 : (_ : Option Value) = some (.int .i64 h) := FQ.cell 1 (by simp)
        have fq2 : (_ : Option Value) = some (.int .i64 p) := FQ.cell 2 (by simp)
        have fq3 : (_ : Option Value) = some (.int .i64 s) := FQ.cell 3 (by simp)
        have fq4 : (_ : Option Value) = some (.slice Q4 L5.length q4) := FQ.cell 4 (by simp)
        have fq5 : (_ : Option Value) = some (.int .i64 k) := FQ.cell 5 (by simp)
        have fq6 : (_ : Option Value) = some (.int .i64 r) := FQ.cell 6 (by simp)
        have fq7 : (_ : Option Value) = some (.slice Q7 M.length q7) := FQ.cell 7 (by simp)
        have abq := abB_any c h p s Q4 q4 L5 k r Q7 q7 M wz (Rd.of_own Y4) hL5 hok5 (Rd.of_own Y7) hMn (own_capR0 Y7) hV5
        rw [hab, hdd] at abq
        go_wp2_with (first
          | (go_at_call 12; have tx := b10Texts_any U5 A8 u5 c8 t2 _ _ (by rw [HL2.out]; exact Rd.of_own TU) (by rw [HL2.out]; exact Rd.of_own TZ) (by rw [HL2.out]; exact hMn); rw [HL2.out] at tx; (with_reducible refine tx.mono ?_); rintro e wf ⟨rfl, nq, rfl⟩; replace HY := below_drewN HY nq)
          | (go_at_call 8; (with_reducible refine abq.mono ?_); rintro e wu ⟨U5, u5, U6, u6, rfl, TU, hxu⟩; have TZ := own_later TY hxu (Nat.le_refl _); replace HY := HY.trans (hxu.mono HY.size)))
        go_ret
        exact ⟨rfl, HY⟩
end Go.Proofs.Ytcfeelecfmepaaa
