/- Walks: PutSector (impl). -/
import Derived.Test.YticnmljahnnhcaaW80
namespace Go.Proofs.Yticnmljahnnhcaa
open Go.RowKit
set_option linter.unusedVariables false

set_option maxRecDepth 100000 in
set_option maxHeartbeats 2000000 in
theorem impl_PutSector_any (c h p s : Int) (A : Option Addr) (cp : Nat) (l : List DSector) (i : Int) (sd : ByteArray) (st : Int) (w : World) (hr : Rd w w.heap.size 2 A l.length (flat fSector l)) (hn : l.length ≤ 1048576) (hok : ∀ x ∈ l, okSector x) (hsd : sd.size ≤ maxLen) :
    Calls Try.prog 16 #[.agg #[.int .i64 c, .int .i64 h, .int .i64 p, .int .i64 s, .slice A l.length cp], .int .i64 i, .agg #[.string sd, .int .i64 st]] w fun e w' => ∃ v, e = .returned (.tuple #[.agg #[.int .i64 (ptN (ptOk (okD c h p s l) (secB sd st (szB s).toNat) l.length i) c), .int .i64 (ptN (ptOk (okD c h p s l) (secB sd st (szB s).toNat) l.length i) h), .int .i64 (ptN (ptOk (okD c h p s l) (secB sd st (szB s).toNat) l.length i) p), .int .i64 (ptN (ptOk (okD c h p s l) (secB sd st (szB s).toNat) l.length i) s), v], .int .i64 (ptC (okD c h p s l) (secB sd st (szB s).toNat) l.length i)]) ∧ w'.ownsRow w.heap.size 39 2 v (ptL (ptOk (okD c h p s l) (secB sd st (szB s).toNat) l.length i) l i ⟨sd, st⟩).length (flat fSector (ptL (ptOk (okD c h p s l) (secB sd st (szB s).toNat) l.length i) l i ⟨sd, st⟩)) ∧ Below w.heap.size w w' := by
  have F3 := ((BX.made w 26 [.int .i64 c, .int .i64 h, .int .i64 p, .int .i64 s, .slice A l.length cp]).al (.cells #[.string sd, .int .i64 st] 39)).al (.cells #[.int .i64 0, .int .i64 0, .int .i64 0, .int .i64 0, .slice none 0 0] 26)
  have F5 := (BX.made1 w (.cells #[.int .i64 c, .int .i64 h, .int .i64 p, .int .i64 s, .slice A l.length cp] 26) 39 [.string sd, .int .i64 st]).al (.cells #[.int .i64 0, .int .i64 0, .int .i64 0, .int .i64 0, .slice none 0 0] 26)
  have F6 := BX.made1 (w.alloc (.cells #[.int .i64 c, .int .i64 h, .int .i64 p, .int .i64 s, .slice A l.length cp] 26)) (.cells #[.string sd, .int .i64 st] 39) 26 [.int .i64 0, .int .i64 0, .int .i64 0, .int .i64 0, .slice none 0 0]
  rw [World.size_alloc] at F6
  obtain ⟨wb, hwb⟩ : ∃ wb, wb = ((w.alloc (.cells #[.int .i64 c, .int .i64 h, .int .i64 p, .int .i64 s, .slice A l.length cp] 26)).alloc (.cells #[.string sd, .int .i64 st] 39)).alloc (.cells #[.int .i64 0, .int .i64 0, .int .i64 0, .int .i64 0, .slice none 0 0] 26) := ⟨_, rfl⟩
  rw [← hwb] at F3 F5 F6
  have hb0 : Below w.heap.size w wb := by rw [hwb]; exact (by with_reducible repeat (first | exact Below.refl _ _ | assumption | refine below_step ?_ (by assumption) | refine Below.drew ?_ | refine below_drewN ?_ _ | refine below_alloc ?_ _ | refine Below.setCell ?_ (by simp; try omega) _))
  have hs0 : w.heap.size + 1 + 1 < wb.heap.size := F6.lt
  have hrb := (hr.below hb0).more hb0.size
  have HW := Lib.hid hwb
  clear hwb
  have hq := impl_ValidDisc_any c h p s A cp l wb hrb hn hok
  have hin := fun W => within_any i 0 ((l.length : Int) - 1) W
  have e0 : (_ : Option Value) = some (.int .i64 c) := F3.cell 0 (by simp)
  have e1 : (_ : Option Value) = some (.int .i64 h) := F3.cell 1 (by simp)
  have e2 : (_ : Option Value) = some (.int .i64 p) := F3.cell 2 (by simp)
  have e3 : (_ : Option Value) = some (.int .i64 s) := F3.cell 3 (by simp)
  have e4 : (_ : Option Value) = some (.slice A l.length cp) := F3.cell 4 (by simp)
  cases hd : okD c h p s l
  · rw [hd] at hq
    have HR := Lib.hid (pt_1 (x := secB sd st (szB s).toNat) (n := l.length) (i := i))
    go_enter Try.func16, Try.ntmps16
    go_wp2_with ((go_at_call 62; rw [← HW.out]; refine hq.mono ?_; rintro e w2 ⟨rfl, hx⟩; replace F3 := F3.below hx F3.lt; replace F5 := F5.below hx F5.lt; replace F6 := F6.below hx F6.lt; have hB : Below w.heap.size w w2 := hb0.trans (hx.mono (by omega)); have e0 : (_ : Option Value) = some (.int .i64 c) := F3.cell 0 (by simp); have e1 : (_ : Option Value) = some (.int .i64 h) := F3.cell 1 (by simp); have e2 : (_ : Option Value) = some (.int .i64 p) := F3.cell 2 (by simp); have e3 : (_ : Option Value) = some (.int .i64 s) := F3.cell 3 (by simp); have e4 : (_ : Option Value) = some (.slice A l.length cp) := F3.cell 4 (by simp); have x0 : (_ : Option Value) = some (.string sd) := F5.cell 0 (by simp); have x1 : (_ : Option Value) = some (.int .i64 st) := F5.cell 1 (by simp); have z0 : (_ : Option Value) = some (.int .i64 0) := F6.cell 0 (by simp); have z1 : (_ : Option Value) = some (.int .i64 0) := F6.cell 1 (by simp); have z2 : (_ : Option Value) = some (.int .i64 0) := F6.cell 2 (by simp); have z3 : (_ : Option Value) = some (.int .i64 0) := F6.cell 3 (by simp); have z4 : (_ : Option Value) = some (.slice none 0 0) := F6.cell 4 (by simp); have hfz := fun j => F6.free j; have m1 := True.intro))
    refine bodyPost_ret (v := .tuple #[.agg #[.int .i64 0, .int .i64 0, .int .i64 0, .int .i64 0, .slice none 0 0], .int .i64 1]) (by simp [results, Try.results16, go_sem, World.cell?_setCell_other, z0, z1, z2, z3, z4]) rfl ⟨_, by rw [HR.out.1, HR.out.2]; rfl, ?_, ?_⟩
    · rw [HR.out.1]; exact World.ownsRow_nil _ _ _ _
    · exact (by with_reducible repeat (first | exact Below.refl _ _ | assumption | refine below_step ?_ (by assumption) | refine Below.drew ?_ | refine below_drewN ?_ _ | refine below_alloc ?_ _ | refine Below.setCell ?_ (by simp; try omega) _))
  have hgeo := (okD_geo hd).1
  obtain ⟨-, -, -, -, -, -, s1, s2⟩ := geoB_yes hgeo
  rw [hd] at hq
  obtain ⟨nb, y1, y2, y3, y4⟩ := szB_nat s1 s2
  have hse := fun W => validSector_any sd st s nb W hsd s1 s2 y1 (by omega)
  rw [y4]
  clear hgeo hd y1 y4
  cases hx : secB sd st nb
  · rw [hx] at hse
    have HR := Lib.hid (pt_2 (n := l.length) (i := i))
    go_enter Try.func16, Try.ntmps16
    go_wp2_with (first
          | (go_at_call 75; have := m1; refine (hse _).mono ?_; rintro e w3 ⟨rfl, hx3⟩; clear e0 e1 e2 e3 e4 x0 x1 z0 z1 z2 z3 z4 hfz; replace F3 := F3.below hx3 F3.lt; replace F5 := F5.below hx3 F5.lt; replace F6 := F6.below hx3 F6.lt; replace hB := below_step hB hx3; have e0 : (_ : Option Value) = some (.int .i64 c) := F3.cell 0 (by simp); have e1 : (_ : Option Value) = some (.int .i64 h) := F3.cell 1 (by simp); have e2 : (_ : Option Value) = some (.int .i64 p) := F3.cell 2 (by simp); have e3 : (_ : Option Value) = some (.int .i64 s) := F3.cell 3 (by simp); have e4 : (_ : Option Value) = some (.slice A l.length cp) := F3.cell 4 (by simp); have x0 : (_ : Option Value) = some (.string sd) := F5.cell 0 (by simp); have x1 : (_ : Option Value) = some (.int .i64 st) := F5.cell 1 (by simp); have z0 : (_ : Option Value) = some (.int .i64 0) := F6.cell 0 (by simp); have z1 : (_ : Option Value) = some (.int .i64 0) := F6.cell 1 (by simp); have z2 : (_ : Option Value) = some (.int .i64 0) := F6.cell 2 (by simp); have z3 : (_ : Option Value) = some (.int .i64 0) := F6.cell 3 (by simp); have z4 : (_ : Option Value) = some (.slice none 0 0) := F6.cell 4 (by simp); have hfz := fun j => F6.free j; have m2 := True.intro)
          | (go_at_call 62; rw [← HW.out]; refine hq.mono ?_; rintro e w2 ⟨rfl, hx⟩; replace F3 := F3.below hx F3.lt; replace F5 := F5.below hx F5.lt; replace F6 := F6.below hx F6.lt; have hB : Below w.heap.size w w2 := hb0.trans (hx.mono (by omega)); have e0 : (_ : Option Value) = some (.int .i64 c) := F3.cell 0 (by simp); have e1 : (_ : Option Value) = some (.int .i64 h) := F3.cell 1 (by simp); have e2 : (_ : Option Value) = some (.int .i64 p) := F3.cell 2 (by simp); have e3 : (_ : Option Value) = some (.int .i64 s) := F3.cell 3 (by simp); have e4 : (_ : Option Value) = some (.slice A l.length cp) := F3.cell 4 (by simp); have x0 : (_ : Option Value) = some (.string sd) := F5.cell 0 (by simp); have x1 : (_ : Option Value) = some (.int .i64 st) := F5.cell 1 (by simp); have z0 : (_ : Option Value) = some (.int .i64 0) := F6.cell 0 (by simp); have z1 : (_ : Option Value) = some (.int .i64 0) := F6.cell 1 (by simp); have z2 : (_ : Option Value) = some (.int .i64 0) := F6.cell 2 (by simp); have z3 : (_ : Option Value) = some (.int .i64 0) := F6.cell 3 (by simp); have z4 : (_ : Option Value) = some (.slice none 0 0) := F6.cell 4 (by simp); have hfz := fun j => F6.free j; have m1 := True.intro))
    refine bodyPost_ret (v := .tuple #[.agg #[.int .i64 0, .int .i64 0, .int .i64 0, .int .i64 0, .slice none 0 0], .int .i64 1]) (by simp [results, Try.results16, go_sem, World.cell?_setCell_other, z0, z1, z2, z3, z4]) rfl ⟨_, by rw [HR.out.1, HR.out.2]; rfl, ?_, ?_⟩
    · rw [HR.out.1]; exact World.ownsRow_nil _ _ _ _
    · exact (by with_reducible repeat (first | exact Below.refl _ _ | assumption | refine below_step ?_ (by assumption) | refine Below.drew ?_ | refine below_drewN ?_ _ | refine below_alloc ?_ _ | refine Below.setCell ?_ (by simp; try omega) _))
  rw [hx] at hse
  clear hx
  cases hi : inB i 0 ((l.length : Int) - 1)
  · rw [hi] at hin
    have HR := Lib.hid (pt_3 (n := l.length) hi)
    go_enter Try.func16, Try.ntmps16
    go_wp2_with (first
          | (go_at_call 75; have := m1; refine (hse _).mono ?_; rintro e w3 ⟨rfl, hx3⟩; clear e0 e1 e2 e3 e4 x0 x1 z0 z1 z2 z3 z4 hfz; replace F3 := F3.below hx3 F3.lt; replace F5 := F5.below hx3 F5.lt; replace F6 := F6.below hx3 F6.lt; replace hB := below_step hB hx3; have e0 : (_ : Option Value) = some (.int .i64 c) := F3.cell 0 (by simp); have e1 : (_ : Option Value) = some (.int .i64 h) := F3.cell 1 (by simp); have e2 : (_ : Option Value) = some (.int .i64 p) := F3.cell 2 (by simp); have e3 : (_ : Option Value) = some (.int .i64 s) := F3.cell 3 (by simp); have e4 : (_ : Option Value) = some (.slice A l.length cp) := F3.cell 4 (by simp); have x0 : (_ : Option Value) = some (.string sd) := F5.cell 0 (by simp); have x1 : (_ : Option Value) = some (.int .i64 st) := F5.cell 1 (by simp); have z0 : (_ : Option Value) = some (.int .i64 0) := F6.cell 0 (by simp); have z1 : (_ : Option Value) = some (.int .i64 0) := F6.cell 1 (by simp); have z2 : (_ : Option Value) = some (.int .i64 0) := F6.cell 2 (by simp); have z3 : (_ : Option Value) = some (.int .i64 0) := F6.cell 3 (by simp); have z4 : (_ : Option Value) = some (.slice none 0 0) := F6.cell 4 (by simp); have hfz := fun j => F6.free j; have m2 := True.intro)
          | (go_at_call 62; rw [← HW.out]; refine hq.mono ?_; rintro e w2 ⟨rfl, hx⟩; replace F3 := F3.below hx F3.lt; replace F5 := F5.below hx F5.lt; replace F6 := F6.below hx F6.lt; have hB : Below w.heap.size w w2 := hb0.trans (hx.mono (by omega)); have e0 : (_ : Option Value) = some (.int .i64 c) := F3.cell 0 (by simp); have e1 : (_ : Option Value) = some (.int .i64 h) := F3.cell 1 (by simp); have e2 : (_ : Option Value) = some (.int .i64 p) := F3.cell 2 (by simp); have e3 : (_ : Option Value) = some (.int .i64 s) := F3.cell 3 (by simp); have e4 : (_ : Option Value) = some (.slice A l.length cp) := F3.cell 4 (by simp); have x0 : (_ : Option Value) = some (.string sd) := F5.cell 0 (by simp); have x1 : (_ : Option Value) = some (.int .i64 st) := F5.cell 1 (by simp); have z0 : (_ : Option Value) = some (.int .i64 0) := F6.cell 0 (by simp); have z1 : (_ : Option Value) = some (.int .i64 0) := F6.cell 1 (by simp); have z2 : (_ : Option Value) = some (.int .i64 0) := F6.cell 2 (by simp); have z3 : (_ : Option Value) = some (.int .i64 0) := F6.cell 3 (by simp); have z4 : (_ : Option Value) = some (.slice none 0 0) := F6.cell 4 (by simp); have hfz := fun j => F6.free j; have m1 := True.intro)
          | (go_at_call 63; refine (size_sector_any A l.length cp _).mono ?_; rintro e w9 ⟨rfl, rfl⟩)
          | (go_at_call 64; refine (hin _).mono ?_; rintro e w9 ⟨rfl, rfl⟩))
    refine bodyPost_ret (v := .tuple #[.agg #[.int .i64 0, .int .i64 0, .int .i64 0, .int .i64 0, .slice none 0 0], .int .i64 2]) (by simp [results, Try.results16, go_sem, World.cell?_setCell_other, z0, z1, z2, z3, z4]) rfl ⟨_, by rw [HR.out.1, HR.out.2]; rfl, ?_, ?_⟩
    · rw [HR.out.1]; exact World.ownsRow_nil _ _ _ _
    · exact (by with_reducible repeat (first | exact Below.refl _ _ | assumption | refine below_step ?_ (by assumption) | refine Below.drew ?_ | refine below_drewN ?_ _ | refine below_alloc ?_ _ | refine Below.setCell ?_ (by simp; try omega) _))
  rw [hi] at hin
  obtain ⟨i0, i1⟩ := inB_yes hi
  have HR := Lib.hid (pt_4 (n := l.length) hi)
  clear hi
  obtain ⟨I, rfl⟩ : ∃ I : Nat, i = (I : Int) := ⟨i.toNat, by omega⟩
  have hIl : I < l.length := by omega
  have hIi : (I : Int) < (l.length : Int) := by omega
  have hpos : 0 < l.length := by omega
  have kb0 : I * 2 < l.length * 2 := by omega
  have kb1 : I * 2 + 1 < l.length * 2 := by omega
  have HP := Lib.hid (setS l I hIl ⟨sd, st⟩)
  go_enter Try.func16, Try.ntmps16
  go_upto_region 6 with (first
        | (go_at_call 75; have := m1; refine (hse _).mono ?_; rintro e w3 ⟨rfl, hx3⟩; clear e0 e1 e2 e3 e4 x0 x1 z0 z1 z2 z3 z4 hfz; replace F3 := F3.below hx3 F3.lt; replace F5 := F5.below hx3 F5.lt; replace F6 := F6.below hx3 F6.lt; replace hB := below_step hB hx3; have e0 : (_ : Option Value) = some (.int .i64 c) := F3.cell 0 (by simp); have e1 : (_ : Option Value) = some (.int .i64 h) := F3.cell 1 (by simp); have e2 : (_ : Option Value) = some (.int .i64 p) := F3.cell 2 (by simp); have e3 : (_ : Option Value) = some (.int .i64 s) := F3.cell 3 (by simp); have e4 : (_ : Option Value) = some (.slice A l.length cp) := F3.cell 4 (by simp); have x0 : (_ : Option Value) = some (.string sd) := F5.cell 0 (by simp); have x1 : (_ : Option Value) = some (.int .i64 st) := F5.cell 1 (by simp); have z0 : (_ : Option Value) = some (.int .i64 0) := F6.cell 0 (by simp); have z1 : (_ : Option Value) = some (.int .i64 0) := F6.cell 1 (by simp); have z2 : (_ : Option Value) = some (.int .i64 0) := F6.cell 2 (by simp); have z3 : (_ : Option Value) = some (.int .i64 0) := F6.cell 3 (by simp); have z4 : (_ : Option Value) = some (.slice none 0 0) := F6.cell 4 (by simp); have hfz := fun j => F6.free j; have m2 := True.intro)
        | (go_at_call 62; rw [← HW.out]; refine hq.mono ?_; rintro e w2 ⟨rfl, hx⟩; replace F3 := F3.below hx F3.lt; replace F5 := F5.below hx F5.lt; replace F6 := F6.below hx F6.lt; have hB : Below w.heap.size w w2 := hb0.trans (hx.mono (by omega)); have e0 : (_ : Option Value) = some (.int .i64 c) := F3.cell 0 (by simp); have e1 : (_ : Option Value) = some (.int .i64 h) := F3.cell 1 (by simp); have e2 : (_ : Option Value) = some (.int .i64 p) := F3.cell 2 (by simp); have e3 : (_ : Option Value) = some (.int .i64 s) := F3.cell 3 (by simp); have e4 : (_ : Option Value) = some (.slice A l.length cp) := F3.cell 4 (by simp); have x0 : (_ : Option Value) = some (.string sd) := F5.cell 0 (by simp); have x1 : (_ : Option Value) = some (.int .i64 st) := F5.cell 1 (by simp); have z0 : (_ : Option Value) = some (.int .i64 0) := F6.cell 0 (by simp); have z1 : (_ : Option Value) = some (.int .i64 0) := F6.cell 1 (by simp); have z2 : (_ : Option Value) = some (.int .i64 0) := F6.cell 2 (by simp); have z3 : (_ : Option Value) = some (.int .i64 0) := F6.cell 3 (by simp); have z4 : (_ : Option Value) = some (.slice none 0 0) := F6.cell 4 (by simp); have hfz := fun j => F6.free j; have m1 := True.intro)
        | (go_at_call 63; refine (size_sector_any A l.length cp _).mono ?_; rintro e w9 ⟨rfl, rfl⟩)
        | (go_at_call 64; refine (hin _).mono ?_; rintro e w9 ⟨rfl, rfl⟩)
        | (go_at_call 65; have := m2; clear e0 e1 e2 e3 e4 x0 x1 z0 z1 z2 z3 z4 hfz; refine (cloneDisc_any c h p s A cp l _ ((hr.below hB).more hB.size) hn).mono ?_; rintro e w4 ⟨v4, rfl, hown4, hx4⟩; obtain ⟨g, c4, hv⟩ := Go.Joins.ownsRow_form hown4 hpos; cases hv; have hlt4 := World.ownsRow.lt hown4 g rfl; have l6 := F6.lt; replace F5 := (F5.below hx4 F5.lt).al (.cells #[.int .i64 c, .int .i64 h, .int .i64 p, .int .i64 s, .slice (some ⟨g, 0, none⟩) l.length c4] 26); replace F6 := (F6.below hx4 F6.lt).al (.cells #[.int .i64 c, .int .i64 h, .int .i64 p, .int .i64 s, .slice (some ⟨g, 0, none⟩) l.length c4] 26); have F8 := BX.made w4 26 [.int .i64 c, .int .i64 h, .int .i64 p, .int .i64 s, .slice (some ⟨g, 0, none⟩) l.length c4]; have hb4 : Below w.heap.size w (w4.alloc (.cells #[.int .i64 c, .int .i64 h, .int .i64 p, .int .i64 s, .slice (some ⟨g, 0, none⟩) l.length c4] 26)) := below_alloc (below_step hB hx4) _; have ho0 := World.ownsRow.alloc hown4 (.cells #[.int .i64 c, .int .i64 h, .int .i64 p, .int .i64 s, .slice (some ⟨g, 0, none⟩) l.length c4] 26); have hne8 : w4.heap.size ≠ g := (by omega); have hne5 : w.heap.size + 1 ≠ g := (by omega); have hne6 : w.heap.size + 1 + 1 ≠ g := (by omega); have hpl : w.heap.size + 1 + 1 + 1 ≤ g := (by omega); have hg8 : w.heap.size + 1 + 1 < w4.heap.size := (by omega)))
  clear m1 m2
  clear hown4 hx4 hlt4
  generalize hG : w4.heap.size = G at hne8 F8 hg8 ⊢
  generalize w4.alloc (.cells #[.int .i64 c, .int .i64 h, .int .i64 p, .int .i64 s, .slice (some ⟨g, 0, none⟩) l.length c4] 26) = w5 at *
  clear hG
  have ho1 := World.ownsRow.stored ho0 (I * 2) (.string sd) |>.1
  have ho2 := World.ownsRow.stored ho1 (I * 2 + 1) (.int .i64 st) |>.1
  obtain ⟨u0, hu0⟩ := own_some ho0 (I * 2) kb0
  have hz0 := World.ownsRow.frozenAt ho0 (I * 2)
  obtain ⟨u1, hu1⟩ := own_some ho0 (I * 2 + 1) kb1
  have hz1 := World.ownsRow.frozenAt ho0 (I * 2 + 1)
  obtain ⟨u2, hu2⟩ := own_some ho1 (I * 2 + 1) kb1
  have hz2 := World.ownsRow.frozenAt ho1 (I * 2 + 1)
  have d4 : (_ : Option Value) = some (.slice (some ⟨g, 0, none⟩) l.length c4) := F8.cell 4 (by simp)
  have xs0 : (_ : Option Value) = some (.string sd) := F5.cell 0 (by simp)
  have xs1 : (_ : Option Value) = some (.int .i64 st) := F5.cell 1 (by simp)
  have P8 := (F8.far (a := ⟨g, I * 2, none⟩) hne8 (.string sd)).far (a := ⟨g, I * 2 + 1, none⟩) hne8 (.int .i64 st)
  have P6 := (F6.far (a := ⟨g, I * 2, none⟩) hne6 (.string sd)).far (a := ⟨g, I * 2 + 1, none⟩) hne6 (.int .i64 st)
  have q0 : (_ : Option Value) = some (.int .i64 c) := P8.cell 0 (by simp)
  have q1 : (_ : Option Value) = some (.int .i64 h) := P8.cell 1 (by simp)
  have q2 : (_ : Option Value) = some (.int .i64 p) := P8.cell 2 (by simp)
  have q3 : (_ : Option Value) = some (.int .i64 s) := P8.cell 3 (by simp)
  have q4 : (_ : Option Value) = some (.slice (some ⟨g, 0, none⟩) l.length c4) := P8.cell 4 (by simp)
  have z0 : (_ : Option Value) = some (.int .i64 0) := P6.cell 0 (by simp)
  have z1 : (_ : Option Value) = some (.int .i64 0) := P6.cell 1 (by simp)
  have z2 : (_ : Option Value) = some (.int .i64 0) := P6.cell 2 (by simp)
  have z3 : (_ : Option Value) = some (.int .i64 0) := P6.cell 3 (by simp)
  have z4 : (_ : Option Value) = some (.slice none 0 0) := P6.cell 4 (by simp)
  have hfz := fun j => P6.free j
  go_wp2
  refine bodyPost_ret (v := .tuple #[.agg #[.int .i64 c, .int .i64 h, .int .i64 p, .int .i64 s, .slice (some ⟨g, 0, none⟩) l.length c4], .int .i64 0]) (by simp [results, Try.results16, go_sem, World.cell?_setCell_other, z0, z1, z2, z3, z4]) rfl ⟨_, by rw [HR.out.1, HR.out.2]; rfl, ?_, ?_⟩
  · rw [HR.out.1]
    rw [show ptL true l (I : Int) ⟨sd, st⟩ = l.set I ⟨sd, st⟩ from rfl, List.length_set, ← HP.out]
    have ho3 : World.ownsRow _ _ _ _ _ _ (putV (flat fSector l) (I * 2) (fSector ⟨sd, st⟩)) := own_base (base' := w.heap.size + 1 + 1 + 1) ho2 (by omega)
    refine own_base (base := w.heap.size + 1 + 1 + 1) ?_ (by omega)
    with_reducible repeat (first | exact ho3 | refine ownsRow_setCell_below ?_ (by simp; try omega) _)
  · have hgw : w.heap.size ≤ g := by omega
    have hb5 : Below w.heap.size w ((w5.setCell ⟨g, I * 2, none⟩ (.string sd)).setCell ⟨g, I * 2 + 1, none⟩ (.int .i64 st)) := Below.setCell (Below.setCell hb4 hgw _) hgw _
    with_reducible repeat (first | exact hb5 | refine Below.setCell ?_ (by simp; try omega) _)
end Go.Proofs.Yticnmljahnnhcaa
