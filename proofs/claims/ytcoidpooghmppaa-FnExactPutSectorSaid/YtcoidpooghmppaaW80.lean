/- Walks: PutSector. -/
import Derived.Test.YtcoidpooghmppaaW77
import Derived.Test.YtcoidpooghmppaaW32
import Derived.Test.YtcoidpooghmppaaQB
import Derived.Test.YtcoidpooghmppaaMark
import Derived.Test.YtcoidpooghmppaaW33
namespace Go.Proofs.Ytcoidpooghmppaa
open Go.RowKit
set_option linter.unusedVariables false

/-- What PutSector answers: d says that the disc is valid, x that the sector is, n is the number of sectors. -/
def ptOk (d x : Bool) (n : Nat) (i : Int) : Bool := d && x && inB i 0 ((n : Int) - 1)
def ptC (d x : Bool) (n : Nat) (i : Int) : Int := if d && x then (if inB i 0 ((n : Int) - 1) then 0 else 2) else 1
def ptN (b : Bool) (v : Int) : Int := if b then v else 0
def ptL (b : Bool) (l : List DSector) (i : Int) (y : DSector) : List DSector := if b then l.set i.toNat y else []
theorem ptL_len (b : Bool) (l : List DSector) (i : Int) (y : DSector) : (ptL b l i y).length ≤ l.length := by
  unfold ptL
  split <;> simp
theorem pt_1 {x : Bool} {n : Nat} {i : Int} : ptOk false x n i = false ∧ ptC false x n i = 1 := by simp [ptOk, ptC]
theorem pt_2 {n : Nat} {i : Int} : ptOk true false n i = false ∧ ptC true false n i = 1 := by simp [ptOk, ptC]
theorem pt_3 {n : Nat} {i : Int} (g : inB i 0 ((n : Int) - 1) = false) : ptOk true true n i = false ∧ ptC true true n i = 2 := by simp [ptOk, ptC, g]
theorem pt_4 {n : Nat} {i : Int} (g : inB i 0 ((n : Int) - 1) = true) : ptOk true true n i = true ∧ ptC true true n i = 0 := by simp [ptOk, ptC, g]
theorem setS (l : List DSector) (k : Nat) (hk : k < l.length) (y : DSector) : putV (flat fSector l) (k * 2) (fSector y) = flat fSector (l.set k y) := by
  have := flat_put fSector 2 fSector_len (l.take k) (l.drop (k + 1)) l[k] y
  rw [List.length_take, Nat.min_eq_left (by omega), ← List.drop_eq_getElem_cons hk, List.take_append_drop] at this
  rw [this]
  congr 1
  exact (List.set_eq_take_append_cons_drop.trans (if_pos hk)).symm

set_option maxRecDepth 100000 in
set_option maxHeartbeats 2000000 in
theorem spec_PutSector_any (c h p s : Int) (A : Option Addr) (cp : Nat) (l : List DSector) (i : Int) (sd : ByteArray) (st : Int) (w : World) (hr : Rd w w.heap.size 2 A l.length (flat fSector l)) (hn : l.length ≤ 1048576) (hok : ∀ x ∈ l, okSector x) (hsd : sd.size ≤ maxLen) :
    Calls Try.prog 29 #[.agg #[.int .i64 c, .int .i64 h, .int .i64 p, .int .i64 s, .slice A l.length cp], .int .i64 i, .agg #[.string sd, .int .i64 st]] w fun e w' => ∃ v, e = .returned (.tuple #[.agg #[.int .i64 (ptN (ptOk (okD c h p s l) (secB sd st (szB s).toNat) l.length i) c), .int .i64 (ptN (ptOk (okD c h p s l) (secB sd st (szB s).toNat) l.length i) h), .int .i64 (ptN (ptOk (okD c h p s l) (secB sd st (szB s).toNat) l.length i) p), .int .i64 (ptN (ptOk (okD c h p s l) (secB sd st (szB s).toNat) l.length i) s), v], .int .i64 (ptC (okD c h p s l) (secB sd st (szB s).toNat) l.length i)]) ∧ w'.ownsRow w.heap.size 47 2 v (ptL (ptOk (okD c h p s l) (secB sd st (szB s).toNat) l.length i) l i ⟨sd, st⟩).length (flat fSector (ptL (ptOk (okD c h p s l) (secB sd st (szB s).toNat) l.length i) l i ⟨sd, st⟩)) ∧ Below w.heap.size w w' := by
  have F3 := ((BX.made w 24 [.int .i64 c, .int .i64 h, .int .i64 p, .int .i64 s, .slice A l.length cp]).al (.cells #[.string sd, .int .i64 st] 47)).al (.cells #[.int .i64 0, .int .i64 0, .int .i64 0, .int .i64 0, .slice none 0 0] 24)
  have F5 := (BX.made1 w (.cells #[.int .i64 c, .int .i64 h, .int .i64 p, .int .i64 s, .slice A l.length cp] 24) 47 [.string sd, .int .i64 st]).al (.cells #[.int .i64 0, .int .i64 0, .int .i64 0, .int .i64 0, .slice none 0 0] 24)
  have F6 := BX.made1 (w.alloc (.cells #[.int .i64 c, .int .i64 h, .int .i64 p, .int .i64 s, .slice A l.length cp] 24)) (.cells #[.string sd, .int .i64 st] 47) 24 [.int .i64 0, .int .i64 0, .int .i64 0, .int .i64 0, .slice none 0 0]
  rw [World.size_alloc] at F6
  obtain ⟨wb, hwb⟩ : ∃ wb, wb = ((w.alloc (.cells #[.int .i64 c, .int .i64 h, .int .i64 p, .int .i64 s, .slice A l.length cp] 24)).alloc (.cells #[.string sd, .int .i64 st] 47)).alloc (.cells #[.int .i64 0, .int .i64 0, .int .i64 0, .int .i64 0, .slice none 0 0] 24) := ⟨_, rfl⟩
  rw [← hwb] at F3 F5 F6
  have hb0 : Below w.heap.size w wb := by rw [hwb]; exact (by with_reducible repeat (first | exact Below.refl _ _ | assumption | refine below_step ?_ (by assumption) | refine Below.drew ?_ | refine below_drewN ?_ _ | refine below_alloc ?_ _ | refine Below.setCell ?_ (by simp; try omega) _))
  have hs0 : w.heap.size + 1 + 1 < wb.heap.size := F6.lt
  have hrb := (hr.below hb0).more hb0.size
  have HW := Lib.hid hwb
  clear hwb
  have DP3 : DP wb w.heap.size c h p s (.slice A l.length cp) := ⟨F3.cell 0 (by simp), F3.cell 1 (by simp), F3.cell 2 (by simp), F3.cell 3 (by simp), F3.cell 4 (by simp)⟩
  have hq := fun (p' : Regrown) => qb_below p' (l12Ok_any w.heap.size c h p s A cp l (Sort.grow (redrawn wb p'.d) p'.os) (DP3.gw p') (hrb.gw p') hn hok)
  have k3 := gw_cell DP3.2.2.2.1
  have k5 := gw_cell (show wb.cell? ⟨w.heap.size + 1, 0, none⟩ = some (.string sd) from F5.cell 0 (by simp))
  have k6 := gw_cell (show wb.cell? ⟨w.heap.size + 1, 1, none⟩ = some (.int .i64 st) from F5.cell 1 (by simp))
  have hin := fun W => l00In_any i 0 ((l.length : Int) - 1) W
  cases hd : okD c h p s l
  · rw [hd] at hq
    have HR := Lib.hid (pt_1 (x := secB sd st (szB s).toNat) (n := l.length) (i := i))
    go_enter Try.func29, Try.ntmps29
    go_wp2_with fail
    rw [← HW.out]
    refine wp_region_quiet_below (by kernel_rfl) (by kernel_rfl) ?_
    repeat (go_big_quiet_step ((first | with_reducible exact hq _)))
    refine wpQuiet_nil ?_
    intro _ hw'
    obtain ⟨pq, hw''⟩ := hw'
    subst hw''
    have hb := gw_below wb pq
    generalize Sort.grow (redrawn wb pq.d) pq.os = w2 at hb ⊢
    replace F3 := F3.below hb F3.lt
    replace F5 := F5.below hb F5.lt
    replace F6 := F6.below hb F6.lt
    have hs2 := hb.size
    have hB : Below w.heap.size w w2 := hb0.trans (hb.mono (by omega))
    have e0 : (_ : Option Value) = some (.int .i64 c) := F3.cell 0 (by simp)
    have e1 : (_ : Option Value) = some (.int .i64 h) := F3.cell 1 (by simp)
    have e2 : (_ : Option Value) = some (.int .i64 p) := F3.cell 2 (by simp)
    have e3 : (_ : Option Value) = some (.int .i64 s) := F3.cell 3 (by simp)
    have e4 : (_ : Option Value) = some (.slice A l.length cp) := F3.cell 4 (by simp)
    have x0 : (_ : Option Value) = some (.string sd) := F5.cell 0 (by simp)
    have x1 : (_ : Option Value) = some (.int .i64 st) := F5.cell 1 (by simp)
    have z0 : (_ : Option Value) = some (.int .i64 0) := F6.cell 0 (by simp)
    have z1 : (_ : Option Value) = some (.int .i64 0) := F6.cell 1 (by simp)
    have z2 : (_ : Option Value) = some (.int .i64 0) := F6.cell 2 (by simp)
    have z3 : (_ : Option Value) = some (.int .i64 0) := F6.cell 3 (by simp)
    have z4 : (_ : Option Value) = some (.slice none 0 0) := F6.cell 4 (by simp)
    have hfz := fun j => F6.free j
    go_wp2
    refine bodyPost_ret (v := .tuple #[.agg #[.int .i64 0, .int .i64 0, .int .i64 0, .int .i64 0, .slice none 0 0], .int .i64 1]) (by simp [results, Try.results29, go_sem, World.cell?_setCell_other, z0, z1, z2, z3, z4]) rfl ⟨_, by rw [HR.out.1, HR.out.2]; rfl, ?_, ?_⟩
    · rw [HR.out.1]; exact World.ownsRow_nil _ _ _ _
    · exact (by with_reducible repeat (first | exact Below.refl _ _ | assumption | refine below_step ?_ (by assumption) | refine Below.drew ?_ | refine below_drewN ?_ _ | refine below_alloc ?_ _ | refine Below.setCell ?_ (by simp; try omega) _))
  have hgeo := (okD_geo hd).1
  obtain ⟨-, -, -, -, -, -, s1, s2⟩ := geoB_yes hgeo
  rw [hd] at hq
  obtain ⟨nb, y1, y2, y3, y4⟩ := szB_nat s1 s2
  have hbq := fun (p' : Regrown) => qb_same p' (l12Bytes_any s s1 s2 (Sort.grow (redrawn wb p'.d) p'.os))
  rw [y1] at hbq
  have hsq := fun (p' : Regrown) => qb_below p' (l12Sector_any sd st nb (Sort.grow (redrawn wb p'.d) p'.os) hsd (by omega))
  rw [y4]
  clear hgeo hd y1 y4
  cases hx : secB sd st nb
  · rw [hx] at hsq
    have HR := Lib.hid (pt_2 (n := l.length) (i := i))
    go_enter Try.func29, Try.ntmps29
    go_wp2_with fail
    rw [← HW.out]
    refine wp_region_quiet_below (by kernel_rfl) (by kernel_rfl) ?_
    repeat (go_big_quiet_step ((first | with_reducible exact hq _ | with_reducible exact hbq _ | with_reducible exact hsq _)))
    refine wpQuiet_nil ?_
    intro _ hw'
    obtain ⟨pq, hw''⟩ := hw'
    subst hw''
    have hb := gw_below wb pq
    generalize Sort.grow (redrawn wb pq.d) pq.os = w2 at hb ⊢
    replace F3 := F3.below hb F3.lt
    replace F5 := F5.below hb F5.lt
    replace F6 := F6.below hb F6.lt
    have hs2 := hb.size
    have hB : Below w.heap.size w w2 := hb0.trans (hb.mono (by omega))
    have e0 : (_ : Option Value) = some (.int .i64 c) := F3.cell 0 (by simp)
    have e1 : (_ : Option Value) = some (.int .i64 h) := F3.cell 1 (by simp)
    have e2 : (_ : Option Value) = some (.int .i64 p) := F3.cell 2 (by simp)
    have e3 : (_ : Option Value) = some (.int .i64 s) := F3.cell 3 (by simp)
    have e4 : (_ : Option Value) = some (.slice A l.length cp) := F3.cell 4 (by simp)
    have x0 : (_ : Option Value) = some (.string sd) := F5.cell 0 (by simp)
    have x1 : (_ : Option Value) = some (.int .i64 st) := F5.cell 1 (by simp)
    have z0 : (_ : Option Value) = some (.int .i64 0) := F6.cell 0 (by simp)
    have z1 : (_ : Option Value) = some (.int .i64 0) := F6.cell 1 (by simp)
    have z2 : (_ : Option Value) = some (.int .i64 0) := F6.cell 2 (by simp)
    have z3 : (_ : Option Value) = some (.int .i64 0) := F6.cell 3 (by simp)
    have z4 : (_ : Option Value) = some (.slice none 0 0) := F6.cell 4 (by simp)
    have hfz := fun j => F6.free j
    go_wp2
    refine bodyPost_ret (v := .tuple #[.agg #[.int .i64 0, .int .i64 0, .int .i64 0, .int .i64 0, .slice none 0 0], .int .i64 1]) (by simp [results, Try.results29, go_sem, World.cell?_setCell_other, z0, z1, z2, z3, z4]) rfl ⟨_, by rw [HR.out.1, HR.out.2]; rfl, ?_, ?_⟩
    · rw [HR.out.1]; exact World.ownsRow_nil _ _ _ _
    · exact (by with_reducible repeat (first | exact Below.refl _ _ | assumption | refine below_step ?_ (by assumption) | refine Below.drew ?_ | refine below_drewN ?_ _ | refine below_alloc ?_ _ | refine Below.setCell ?_ (by simp; try omega) _))
  rw [hx] at hsq
  clear hx
  cases hi : inB i 0 ((l.length : Int) - 1)
  · rw [hi] at hin
    have HR := Lib.hid (pt_3 (n := l.length) hi)
    go_enter Try.func29, Try.ntmps29
    go_wp2_with fail
    rw [← HW.out]
    refine wp_region_quiet_below (by kernel_rfl) (by kernel_rfl) ?_
    repeat (go_big_quiet_step ((first | with_reducible exact hq _ | with_reducible exact hbq _ | with_reducible exact hsq _)))
    refine wpQuiet_nil ?_
    intro _ hw'
    obtain ⟨pq, hw''⟩ := hw'
    subst hw''
    have hb := gw_below wb pq
    generalize Sort.grow (redrawn wb pq.d) pq.os = w2 at hb ⊢
    replace F3 := F3.below hb F3.lt
    replace F5 := F5.below hb F5.lt
    replace F6 := F6.below hb F6.lt
    have hs2 := hb.size
    have hB : Below w.heap.size w w2 := hb0.trans (hb.mono (by omega))
    have e0 : (_ : Option Value) = some (.int .i64 c) := F3.cell 0 (by simp)
    have e1 : (_ : Option Value) = some (.int .i64 h) := F3.cell 1 (by simp)
    have e2 : (_ : Option Value) = some (.int .i64 p) := F3.cell 2 (by simp)
    have e3 : (_ : Option Value) = some (.int .i64 s) := F3.cell 3 (by simp)
    have e4 : (_ : Option Value) = some (.slice A l.length cp) := F3.cell 4 (by simp)
    have x0 : (_ : Option Value) = some (.string sd) := F5.cell 0 (by simp)
    have x1 : (_ : Option Value) = some (.int .i64 st) := F5.cell 1 (by simp)
    have z0 : (_ : Option Value) = some (.int .i64 0) := F6.cell 0 (by simp)
    have z1 : (_ : Option Value) = some (.int .i64 0) := F6.cell 1 (by simp)
    have z2 : (_ : Option Value) = some (.int .i64 0) := F6.cell 2 (by simp)
    have z3 : (_ : Option Value) = some (.int .i64 0) := F6.cell 3 (by simp)
    have z4 : (_ : Option Value) = some (.slice none 0 0) := F6.cell 4 (by simp)
    have hfz := fun j => F6.free j
    go_wp2_with ((go_at_call 81; refine (hin _).mono ?_; rintro e w9 ⟨rfl, rfl⟩))
    refine bodyPost_ret (v := .tuple #[.agg #[.int .i64 0, .int .i64 0, .int .i64 0, .int .i64 0, .slice none 0 0], .int .i64 2]) (by simp [results, Try.results29, go_sem, World.cell?_setCell_other, z0, z1, z2, z3, z4]) rfl ⟨_, by rw [HR.out.1, HR.out.2]; rfl, ?_, ?_⟩
    · rw [HR.out.1]; exact World.ownsRow_nil _ _ _ _
    · exact (by with_reducible repeat (first | exact Below.refl _ _ | assumption | refine below_step ?_ (by assumption) | refine Below.drew ?_ | refine below_drewN ?_ _ | refine below_alloc ?_ _ | refine Below.setCell ?_ (by simp; try omega) _))
  rw [hi] at hin
  obtain ⟨i0, i1⟩ := inB_yes hi
  have HR := Lib.hid (pt_4 (n := l.length) hi)
  clear hi
  obtain ⟨I, rfl⟩ : ∃ I : Nat, i = (I : Int) := ⟨i.toNat, by omega⟩
  have hIl : I < l.length := by omega
  have hIi : (I : Int) < (l.length : Int) := by omega
  have hpos : 0 < l.length := by omega
  have kb0 : I * 2 < l.length * 2 := by omega
  have kb1 : I * 2 + 1 < l.length * 2 := by omega
  have HP := Lib.hid (setS l I hIl ⟨sd, st⟩)
  go_enter Try.func29, Try.ntmps29
  go_wp2_with fail
  rw [← HW.out]
  refine wp_region_quiet_below (by kernel_rfl) (by kernel_rfl) ?_
  repeat (go_big_quiet_step ((first | with_reducible exact hq _ | with_reducible exact hbq _ | with_reducible exact hsq _)))
  refine wpQuiet_nil ?_
  intro _ hw'
  obtain ⟨pq, hw''⟩ := hw'
  subst hw''
  have hb := gw_below wb pq
  generalize Sort.grow (redrawn wb pq.d) pq.os = w2 at hb ⊢
  replace F3 := F3.below hb F3.lt
  replace F5 := F5.below hb F5.lt
  replace F6 := F6.below hb F6.lt
  have hs2 := hb.size
  have hB : Below w.heap.size w w2 := hb0.trans (hb.mono (by omega))
  have DP4 := DP3.next hb
  have hr4 := (hrb.below hb).more hb.size
  have e4 : (_ : Option Value) = some (.slice A l.length cp) := DP4.2.2.2.2
  clear k3 k5 k6 hq hbq hsq
  go_upto_region 6 with (first
    | (go_at_call 81; refine (hin _).mono ?_; rintro e w9 ⟨rfl, rfl⟩)
    | (go_at_call 82; refine (l12Own_any w.heap.size c h p s A cp l _ DP4 hr4 hn).mono ?_; rintro e w4 ⟨v4, rfl, hown4, hx4⟩; obtain ⟨g, c4, hv⟩ := Go.Joins.ownsRow_form hown4 hpos; cases hv; have hlt4 := World.ownsRow.lt hown4 g rfl; have l6 := F6.lt; replace F5 := (F5.below hx4 F5.lt).al (.cells #[.int .i64 c, .int .i64 h, .int .i64 p, .int .i64 s, .slice (some ⟨g, 0, none⟩) l.length c4] 24); replace F6 := (F6.below hx4 F6.lt).al (.cells #[.int .i64 c, .int .i64 h, .int .i64 p, .int .i64 s, .slice (some ⟨g, 0, none⟩) l.length c4] 24); have F8 := BX.made w4 24 [.int .i64 c, .int .i64 h, .int .i64 p, .int .i64 s, .slice (some ⟨g, 0, none⟩) l.length c4]; have hb4 : Below w.heap.size w (w4.alloc (.cells #[.int .i64 c, .int .i64 h, .int .i64 p, .int .i64 s, .slice (some ⟨g, 0, none⟩) l.length c4] 24)) := below_alloc (below_step hB hx4) _; have ho0 := World.ownsRow.alloc hown4 (.cells #[.int .i64 c, .int .i64 h, .int .i64 p, .int .i64 s, .slice (some ⟨g, 0, none⟩) l.length c4] 24); have hne8 : w4.heap.size ≠ g := (by omega); have hne5 : w.heap.size + 1 ≠ g := (by omega); have hne6 : w.heap.size + 1 + 1 ≠ g := (by omega); have hpl : w.heap.size + 1 + 1 + 1 ≤ g := (by omega); have hg8 : w.heap.size + 1 + 1 < w4.heap.size := (by omega)))
  clear hown4 hx4 hlt4
  generalize hG : w4.heap.size = G at hne8 F8 hg8 ⊢
  generalize w4.alloc (.cells #[.int .i64 c, .int .i64 h, .int .i64 p, .int .i64 s, .slice (some ⟨g, 0, none⟩) l.length c4] 24) = w5 at *
  clear hG
  have ho1 := World.ownsRow.stored ho0 (I * 2) (.string sd) |>.1
  have ho2 := World.ownsRow.stored ho1 (I * 2 + 1) (.int .i64 st) |>.1
  obtain ⟨u0, hu0⟩ := own_some ho0 (I * 2) kb0
  have hz0 := World.ownsRow.frozenAt ho0 (I * 2)
  obtain ⟨u1, hu1⟩ := own_some ho0 (I * 2 + 1) kb1
  have hz1 := World.ownsRow.frozenAt ho0 (I * 2 + 1)
  obtain ⟨u2, hu2⟩ := own_some ho1 (I * 2 + 1) kb1
  have hz2 := World.ownsRow.frozenAt ho1 (I * 2 + 1)
  have d4 : (_ : Option Value) = some (.slice (some ⟨g, 0, none⟩) l.length c4) := F8.cell 4 (by simp)
  have xs0 : (_ : Option Value) = some (.string sd) := F5.cell 0 (by simp)
  have xs1 : (_ : Option Value) = some (.int .i64 st) := F5.cell 1 (by simp)
  have P8 := (F8.far (a := ⟨g, I * 2, none⟩) hne8 (.string sd)).far (a := ⟨g, I * 2 + 1, none⟩) hne8 (.int .i64 st)
  have P6 := (F6.far (a := ⟨g, I * 2, none⟩) hne6 (.string sd)).far (a := ⟨g, I * 2 + 1, none⟩) hne6 (.int .i64 st)
  have q0 : (_ : Option Value) = some (.int .i64 c) := P8.cell 0 (by simp)
  have q1 : (_ : Option Value) = some (.int .i64 h) := P8.cell 1 (by simp)
  have q2 : (_ : Option Value) = some (.int .i64 p) := P8.cell 2 (by simp)
  have q3 : (_ : Option Value) = some (.int .i64 s) := P8.cell 3 (by simp)
  have q4 : (_ : Option Value) = some (.slice (some ⟨g, 0, none⟩) l.length c4) := P8.cell 4 (by simp)
  have z0 : (_ : Option Value) = some (.int .i64 0) := P6.cell 0 (by simp)
  have z1 : (_ : Option Value) = some (.int .i64 0) := P6.cell 1 (by simp)
  have z2 : (_ : Option Value) = some (.int .i64 0) := P6.cell 2 (by simp)
  have z3 : (_ : Option Value) = some (.int .i64 0) := P6.cell 3 (by simp)
  have z4 : (_ : Option Value) = some (.slice none 0 0) := P6.cell 4 (by simp)
  have hfz := fun j => P6.free j
  go_wp2
  refine bodyPost_ret (v := .tuple #[.agg #[.int .i64 c, .int .i64 h, .int .i64 p, .int .i64 s, .slice (some ⟨g, 0, none⟩) l.length c4], .int .i64 0]) (by simp [results, Try.results29, go_sem, World.cell?_setCell_other, z0, z1, z2, z3, z4]) rfl ⟨_, by rw [HR.out.1, HR.out.2]; rfl, ?_, ?_⟩
  · rw [HR.out.1]
    rw [show ptL true l (I : Int) ⟨sd, st⟩ = l.set I ⟨sd, st⟩ from rfl, List.length_set, ← HP.out]
    have ho3 : World.ownsRow _ _ _ _ _ _ (putV (flat fSector l) (I * 2) (fSector ⟨sd, st⟩)) := own_base (base' := w.heap.size + 1 + 1 + 1) ho2 (by omega)
    refine own_base (base := w.heap.size + 1 + 1 + 1) ?_ (by omega)
    with_reducible repeat (first | exact ho3 | refine ownsRow_setCell_below ?_ (by simp; try omega) _)
  · have hgw : w.heap.size ≤ g := by omega
    have hb5 : Below w.heap.size w ((w5.setCell ⟨g, I * 2, none⟩ (.string sd)).setCell ⟨g, I * 2 + 1, none⟩ (.int .i64 st)) := Below.setCell (Below.setCell hb4 hgw _) hgw _
    with_reducible repeat (first | exact hb5 | refine Below.setCell ?_ (by simp; try omega) _)
end Go.Proofs.Ytcoidpooghmppaa
