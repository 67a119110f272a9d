/- Walks: the texts W79c OrdM D6 as one text. -/
import Derived.Test.YticnmljahnnhcaaW79
import Derived.Test.YticnmljahnnhcaaW70
namespace Go.Proofs.Yticnmljahnnhcaa
open Go.RowKit
set_option linter.unusedVariables false
set_option maxRecDepth 100000 in
set_option maxHeartbeats 2000000 in
theorem impl_NewDevice_cap (c h p s : Int) (A : Option Addr) (cp : Nat) (l : List DSector) (k r : Int) (w : World) (hr : Rd w w.heap.size 2 A l.length (flat fSector l)) (hn : l.length ≤ 1048576) (hok : ∀ x ∈ l, okSector x) :
    Calls Try.prog 11 #[.agg #[.int .i64 c, .int .i64 h, .int .i64 p, .int .i64 s, .slice A l.length cp], .int .i64 k, .int .i64 r] w fun e w' => ∃ (v4 : Value) (A7 : Option Addr) (c7 c0 : Nat), e = .returned (.tuple #[.agg #[.int .i64 (ptN (nvOk (okD c h p s l) k r l.length) c), .int .i64 (ptN (nvOk (okD c h p s l) k r l.length) h), .int .i64 (ptN (nvOk (okD c h p s l) k r l.length) p), .int .i64 (ptN (nvOk (okD c h p s l) k r l.length) s), v4, .int .i64 (ptN (nvOk (okD c h p s l) k r l.length) k), .int .i64 (ptN (nvOk (okD c h p s l) k r l.length) r), .slice A7 (nvM (nvOk (okD c h p s l) k r l.length) c h p k r l.length).length c7], .int .i64 (nvC (okD c h p s l) k r l.length)]) ∧ w'.ownsRow w.heap.size 39 2 v4 (nvL (nvOk (okD c h p s l) k r l.length) l).length (flat fSector (nvL (nvOk (okD c h p s l) k r l.length) l)) ∧ w'.ownsRow w.heap.size 2 1 (.slice A7 (nvM (nvOk (okD c h p s l) k r l.length) c h p k r l.length).length c0) (nvM (nvOk (okD c h p s l) k r l.length) c h p k r l.length).length (flat fI (nvM (nvOk (okD c h p s l) k r l.length) c h p k r l.length)) ∧ (v4.ownBlock = none ∨ v4.ownBlock ≠ (Value.slice A7 (nvM (nvOk (okD c h p s l) k r l.length) c h p k r l.length).length c0).ownBlock) ∧ Below w.heap.size w w' ∧ (nvM (nvOk (okD c h p s l) k r l.length) c h p k r l.length).length ≤ c7 := by
  have F3 := (BX.made w 26 [.int .i64 c, .int .i64 h, .int .i64 p, .int .i64 s, .slice A l.length cp]).al (.cells #[.int .i64 0, .int .i64 0, .int .i64 0, .int .i64 0, .slice none 0 0, .int .i64 0, .int .i64 0, .slice none 0 0] 31)
  have F6 := BX.made1 w (.cells #[.int .i64 c, .int .i64 h, .int .i64 p, .int .i64 s, .slice A l.length cp] 26) 31 [.int .i64 0, .int .i64 0, .int .i64 0, .int .i64 0, .slice none 0 0, .int .i64 0, .int .i64 0, .slice none 0 0]
  obtain ⟨wb, hwb⟩ : ∃ wb, wb = (w.alloc (.cells #[.int .i64 c, .int .i64 h, .int .i64 p, .int .i64 s, .slice A l.length cp] 26)).alloc (.cells #[.int .i64 0, .int .i64 0, .int .i64 0, .int .i64 0, .slice none 0 0, .int .i64 0, .int .i64 0, .slice none 0 0] 31) := ⟨_, rfl⟩
  rw [← hwb] at F3 F6
  have hb0 : Below w.heap.size w wb := by rw [hwb]; exact (by with_reducible repeat (first | exact Below.refl _ _ | assumption | refine below_step ?_ (by assumption) | refine Below.drew ?_ | refine below_drewN ?_ _ | refine below_alloc ?_ _ | refine Below.setCell ?_ (by simp; try omega) _))
  have hs0 : w.heap.size + 1 < wb.heap.size := F6.lt
  have hrb := (hr.below hb0).more hb0.size
  have DP3 : DP wb w.heap.size c h p s (.slice A l.length cp) := ⟨F3.cell 0 (by simp), F3.cell 1 (by simp), F3.cell 2 (by simp), F3.cell 3 (by simp), F3.cell 4 (by simp)⟩
  have HW := Lib.hid hwb
  clear hwb
  have hq := impl_ValidDisc_any c h p s A cp l wb hrb hn hok
  have hin1 := fun W => within_any k 0 7 W
  have hin2 := fun W => within_any r 0 ((l.length : Int) - 1) W
  have b0 : (_ : Option Value) = some (.int .i64 c) := F3.cell 0 (by simp)
  have b1 : (_ : Option Value) = some (.int .i64 h) := F3.cell 1 (by simp)
  have b2 : (_ : Option Value) = some (.int .i64 p) := F3.cell 2 (by simp)
  have b3 : (_ : Option Value) = some (.int .i64 s) := F3.cell 3 (by simp)
  have b4 : (_ : Option Value) = some (.slice A l.length cp) := F3.cell 4 (by simp)
  cases hd : okD c h p s l
  · rw [hd] at hq
    have HR := Lib.hid (nv_1 (k := k) (r := r) (N := l.length))
    go_enter Try.func11, Try.ntmps11
    go_wp2_with (first
          | (go_at_call 62; rw [← HW.out]; refine hq.mono ?_; rintro e w2 ⟨rfl, hx⟩; replace F3 := F3.below hx F3.lt; replace F6 := F6.below hx F6.lt; have hB : Below w.heap.size w w2 := hb0.trans (hx.mono (by omega)); have e0 : (_ : Option Value) = some (.int .i64 c) := F3.cell 0 (by simp); have e1 : (_ : Option Value) = some (.int .i64 h) := F3.cell 1 (by simp); have e2 : (_ : Option Value) = some (.int .i64 p) := F3.cell 2 (by simp); have e3 : (_ : Option Value) = some (.int .i64 s) := F3.cell 3 (by simp); have e4 : (_ : Option Value) = some (.slice A l.length cp) := F3.cell 4 (by simp); have z0 : (_ : Option Value) = some (.int .i64 0) := F6.cell 0 (by simp); have z1 : (_ : Option Value) = some (.int .i64 0) := F6.cell 1 (by simp); have z2 : (_ : Option Value) = some (.int .i64 0) := F6.cell 2 (by simp); have z3 : (_ : Option Value) = some (.int .i64 0) := F6.cell 3 (by simp); have z4 : (_ : Option Value) = some (.slice none 0 0) := F6.cell 4 (by simp); have z5 : (_ : Option Value) = some (.int .i64 0) := F6.cell 5 (by simp); have z6 : (_ : Option Value) = some (.int .i64 0) := F6.cell 6 (by simp); have z7 : (_ : Option Value) = some (.slice none 0 0) := F6.cell 7 (by simp); have hfz := fun j => F6.free j; have hs2 := F6.lt))
    refine bodyPost_ret (v := .tuple #[.agg #[.int .i64 0, .int .i64 0, .int .i64 0, .int .i64 0, .slice none 0 0, .int .i64 0, .int .i64 0, .slice none 0 0], .int .i64 1]) (by simp [results, Try.results11, go_sem, World.cell?_setCell_other, z0, z1, z2, z3, z4, z5, z6, z7]) rfl ⟨.slice none 0 0, none, 0, 0, by rw [HR.out.1, HR.out.2]; rfl, ?_, ?_, .inl rfl, ?_, ?_⟩
    · rw [HR.out.1]; exact World.ownsRow_nil _ _ _ _
    · rw [HR.out.1]; exact World.ownsRow_nil _ _ _ _
    · exact (by with_reducible repeat (first | exact Below.refl _ _ | assumption | refine below_step ?_ (by assumption) | refine Below.drew ?_ | refine below_drewN ?_ _ | refine below_alloc ?_ _ | refine Below.setCell ?_ (by simp; try omega) _))
    · rw [HR.out.1]; exact Nat.zero_le _
  rw [hd] at hq
  cases g1 : inB k 0 7
  · rw [g1] at hin1
    clear hd
    have HR := Lib.hid (nv_2 (r := r) (N := l.length) g1)
    go_enter Try.func11, Try.ntmps11
    go_wp2_with (first
          | (go_at_call 64; have := mk1; refine (hin2 _).mono ?_; rintro e w9 ⟨rfl, rfl⟩)
          | (go_at_call 64; refine (hin1 _).mono ?_; rintro e w9 ⟨rfl, rfl⟩; have mk1 := True.intro)
          | (go_at_call 63; refine (size_sector_any A l.length cp _).mono ?_; rintro e w9 ⟨rfl, rfl⟩)
          | (go_at_call 62; rw [← HW.out]; refine hq.mono ?_; rintro e w2 ⟨rfl, hx⟩; replace F3 := F3.below hx F3.lt; replace F6 := F6.below hx F6.lt; have hB : Below w.heap.size w w2 := hb0.trans (hx.mono (by omega)); have e0 : (_ : Option Value) = some (.int .i64 c) := F3.cell 0 (by simp); have e1 : (_ : Option Value) = some (.int .i64 h) := F3.cell 1 (by simp); have e2 : (_ : Option Value) = some (.int .i64 p) := F3.cell 2 (by simp); have e3 : (_ : Option Value) = some (.int .i64 s) := F3.cell 3 (by simp); have e4 : (_ : Option Value) = some (.slice A l.length cp) := F3.cell 4 (by simp); have z0 : (_ : Option Value) = some (.int .i64 0) := F6.cell 0 (by simp); have z1 : (_ : Option Value) = some (.int .i64 0) := F6.cell 1 (by simp); have z2 : (_ : Option Value) = some (.int .i64 0) := F6.cell 2 (by simp); have z3 : (_ : Option Value) = some (.int .i64 0) := F6.cell 3 (by simp); have z4 : (_ : Option Value) = some (.slice none 0 0) := F6.cell 4 (by simp); have z5 : (_ : Option Value) = some (.int .i64 0) := F6.cell 5 (by simp); have z6 : (_ : Option Value) = some (.int .i64 0) := F6.cell 6 (by simp); have z7 : (_ : Option Value) = some (.slice none 0 0) := F6.cell 7 (by simp); have hfz := fun j => F6.free j; have hs2 := F6.lt))
    refine bodyPost_ret (v := .tuple #[.agg #[.int .i64 0, .int .i64 0, .int .i64 0, .int .i64 0, .slice none 0 0, .int .i64 0, .int .i64 0, .slice none 0 0], .int .i64 2]) (by simp [results, Try.results11, go_sem, World.cell?_setCell_other, z0, z1, z2, z3, z4, z5, z6, z7]) rfl ⟨.slice none 0 0, none, 0, 0, by rw [HR.out.1, HR.out.2]; rfl, ?_, ?_, .inl rfl, ?_, ?_⟩
    · rw [HR.out.1]; exact World.ownsRow_nil _ _ _ _
    · rw [HR.out.1]; exact World.ownsRow_nil _ _ _ _
    · exact (by with_reducible repeat (first | exact Below.refl _ _ | assumption | refine below_step ?_ (by assumption) | refine Below.drew ?_ | refine below_drewN ?_ _ | refine below_alloc ?_ _ | refine Below.setCell ?_ (by simp; try omega) _))
    · rw [HR.out.1]; exact Nat.zero_le _
  rw [g1] at hin1
  cases g2 : inB r 0 ((l.length : Int) - 1)
  · rw [g2] at hin2
    clear hd
    have HR := Lib.hid (nv_3 (k := k) (N := l.length) g2)
    go_enter Try.func11, Try.ntmps11
    go_wp2_with (first
          | (go_at_call 64; have := mk1; refine (hin2 _).mono ?_; rintro e w9 ⟨rfl, rfl⟩)
          | (go_at_call 64; refine (hin1 _).mono ?_; rintro e w9 ⟨rfl, rfl⟩; have mk1 := True.intro)
          | (go_at_call 63; refine (size_sector_any A l.length cp _).mono ?_; rintro e w9 ⟨rfl, rfl⟩)
          | (go_at_call 62; rw [← HW.out]; refine hq.mono ?_; rintro e w2 ⟨rfl, hx⟩; replace F3 := F3.below hx F3.lt; replace F6 := F6.below hx F6.lt; have hB : Below w.heap.size w w2 := hb0.trans (hx.mono (by omega)); have e0 : (_ : Option Value) = some (.int .i64 c) := F3.cell 0 (by simp); have e1 : (_ : Option Value) = some (.int .i64 h) := F3.cell 1 (by simp); have e2 : (_ : Option Value) = some (.int .i64 p) := F3.cell 2 (by simp); have e3 : (_ : Option Value) = some (.int .i64 s) := F3.cell 3 (by simp); have e4 : (_ : Option Value) = some (.slice A l.length cp) := F3.cell 4 (by simp); have z0 : (_ : Option Value) = some (.int .i64 0) := F6.cell 0 (by simp); have z1 : (_ : Option Value) = some (.int .i64 0) := F6.cell 1 (by simp); have z2 : (_ : Option Value) = some (.int .i64 0) := F6.cell 2 (by simp); have z3 : (_ : Option Value) = some (.int .i64 0) := F6.cell 3 (by simp); have z4 : (_ : Option Value) = some (.slice none 0 0) := F6.cell 4 (by simp); have z5 : (_ : Option Value) = some (.int .i64 0) := F6.cell 5 (by simp); have z6 : (_ : Option Value) = some (.int .i64 0) := F6.cell 6 (by simp); have z7 : (_ : Option Value) = some (.slice none 0 0) := F6.cell 7 (by simp); have hfz := fun j => F6.free j; have hs2 := F6.lt))
    refine bodyPost_ret (v := .tuple #[.agg #[.int .i64 0, .int .i64 0, .int .i64 0, .int .i64 0, .slice none 0 0, .int .i64 0, .int .i64 0, .slice none 0 0], .int .i64 2]) (by simp [results, Try.results11, go_sem, World.cell?_setCell_other, z0, z1, z2, z3, z4, z5, z6, z7]) rfl ⟨.slice none 0 0, none, 0, 0, by rw [HR.out.1, HR.out.2]; rfl, ?_, ?_, .inl rfl, ?_, ?_⟩
    · rw [HR.out.1]; exact World.ownsRow_nil _ _ _ _
    · rw [HR.out.1]; exact World.ownsRow_nil _ _ _ _
    · exact (by with_reducible repeat (first | exact Below.refl _ _ | assumption | refine below_step ?_ (by assumption) | refine Below.drew ?_ | refine below_drewN ?_ _ | refine below_alloc ?_ _ | refine Below.setCell ?_ (by simp; try omega) _))
    · rw [HR.out.1]; exact Nat.zero_le _
  rw [g2] at hin2
  have HR := Lib.hid (nv_4 (N := l.length) g1 g2)
  obtain ⟨k0, k1⟩ := inB_yes g1
  obtain ⟨r0, r1⟩ := inB_yes g2
  obtain ⟨K, rfl⟩ : ∃ K : Nat, k = (K : Int) := ⟨k.toNat, by omega⟩
  obtain ⟨R, rfl⟩ : ∃ R : Nat, r = (R : Int) := ⟨r.toNat, by omega⟩
  have hgeo := okD_geo hd
  obtain ⟨c1, c2, h1, h2, p1, p2, s1, s2⟩ := geoB_yes hgeo.1
  obtain ⟨m1, m2⟩ := prod2 c1 c2 h1 h2
  obtain ⟨P, rfl⟩ : ∃ P : Nat, p = (P : Int) := ⟨p.toNat, by omega⟩
  obtain ⟨T, hT⟩ : ∃ T : Nat, c * h = (T : Int) := ⟨(c * h).toNat, by omega⟩
  have hNT : l.length = T * P := by
    have := hgeo.2.1
    rw [hT] at this
    omega
  obtain ⟨m, hm⟩ : ∃ m : Nat, m = l.length - R := ⟨_, rfl⟩
  have hmpos : 0 < m := by omega
  have hml : m ≤ l.length := by omega
  have hRl : R ≤ l.length := by omega
  have hsub : IntKind.i64.wrap ((l.length : Int) - (R : Int)) = (m : Int) := (IntWalk.i64_in _ (by omega)).trans (by omega)
  have HM := Lib.hid (show nvM true c h (P : Int) (K : Int) (R : Int) l.length = (ordT P K T).take m by
    unfold nvM
    rw [if_pos rfl, hT, Int.toNat_natCast, Int.toNat_natCast, Int.toNat_natCast, show ((l.length : Int) - (R : Int)).toNat = m by omega])
  have HOL := Lib.hid (show (ordT P K T).length = l.length by rw [ordT_len, hNT])
  have HTL := Lib.hid (show ((ordT P K T).take m).length = m by rw [List.length_take, HOL.out]; omega)
  have hord := fun (W : World) => sectorOrder_any c h s A l.length cp T P K W hT (by omega) (by omega) (by omega) (by omega)
  have hpos : 0 < l.length := by omega
  clear hd hgeo hT hNT hm c1 c2 h1 h2 m1 m2 s1 s2 k0 g1 g2
  go_enter Try.func11, Try.ntmps11
  go_wp2_with (first
        | (go_at_call 64; have := mk1; refine (hin2 _).mono ?_; rintro e w9 ⟨rfl, rfl⟩)
        | (go_at_call 64; refine (hin1 _).mono ?_; rintro e w9 ⟨rfl, rfl⟩; have mk1 := True.intro)
        | (go_at_call 63; refine (size_sector_any A l.length cp _).mono ?_; rintro e w9 ⟨rfl, rfl⟩)
        | (go_at_call 62; rw [← HW.out]; refine hq.mono ?_; rintro e w2 ⟨rfl, hx⟩; replace F3 := F3.below hx F3.lt; replace F6 := F6.below hx F6.lt; have hB : Below w.heap.size w w2 := hb0.trans (hx.mono (by omega)); have e0 : (_ : Option Value) = some (.int .i64 c) := F3.cell 0 (by simp); have e1 : (_ : Option Value) = some (.int .i64 h) := F3.cell 1 (by simp); have e2 : (_ : Option Value) = some (.int .i64 (P : Int)) := F3.cell 2 (by simp); have e3 : (_ : Option Value) = some (.int .i64 s) := F3.cell 3 (by simp); have e4 : (_ : Option Value) = some (.slice A l.length cp) := F3.cell 4 (by simp); have z0 : (_ : Option Value) = some (.int .i64 0) := F6.cell 0 (by simp); have z1 : (_ : Option Value) = some (.int .i64 0) := F6.cell 1 (by simp); have z2 : (_ : Option Value) = some (.int .i64 0) := F6.cell 2 (by simp); have z3 : (_ : Option Value) = some (.int .i64 0) := F6.cell 3 (by simp); have z4 : (_ : Option Value) = some (.slice none 0 0) := F6.cell 4 (by simp); have z5 : (_ : Option Value) = some (.int .i64 0) := F6.cell 5 (by simp); have z6 : (_ : Option Value) = some (.int .i64 0) := F6.cell 6 (by simp); have z7 : (_ : Option Value) = some (.slice none 0 0) := F6.cell 7 (by simp); have hfz := fun j => F6.free j; have hs2 := F6.lt))
  have hdr : w2.drew.heap.size = w2.heap.size := rfl
  have HDR := Lib.hid hdr
  clear hdr
  have X3 : BX w2.drew w.heap.size 26 [.int .i64 c, .int .i64 h, .int .i64 (P : Int), .int .i64 s, .slice A l.length cp] := F3
  have x0 : (_ : Option Value) = some (.int .i64 c) := X3.cell 0 (by simp)
  have x1 : (_ : Option Value) = some (.int .i64 h) := X3.cell 1 (by simp)
  have x2 : (_ : Option Value) = some (.int .i64 (P : Int)) := X3.cell 2 (by simp)
  have x3 : (_ : Option Value) = some (.int .i64 s) := X3.cell 3 (by simp)
  have x4 : (_ : Option Value) = some (.slice A l.length cp) := X3.cell 4 (by simp)
  go_region_held3 (fun W => W.cell? ⟨w.heap.size, 0, none⟩ = some (.int .i64 c) ∧ W.cell? ⟨w.heap.size, 1, none⟩ = some (.int .i64 h) ∧ W.cell? ⟨w.heap.size, 2, none⟩ = some (.int .i64 (P : Int)) ∧ W.cell? ⟨w.heap.size, 3, none⟩ = some (.int .i64 s) ∧ W.cell? ⟨w.heap.size, 4, none⟩ = some (.slice A l.length cp)) (first | with_reducible exact ⟨y0, y1, y2, y3, y4⟩ | with_reducible exact ⟨f0, f1, f2, f3, f4⟩ | with_reducible exact ⟨e0, e1, e2, e3, e4⟩ | with_reducible exact ⟨x0, x1, x2, x3, x4⟩) (first
    | (go_at_call 65; refine (cloneDisc_any c h (P : Int) s A cp l _ ((hr.below (Below.drew hB)).more (Below.drew hB).size) hn).mono ?_; rintro e w4 ⟨v4, rfl, hown4, hx4⟩; obtain ⟨g4, c4, hv⟩ := Go.Joins.ownsRow_form hown4 hpos; cases hv; have hlt4 := World.ownsRow.lt hown4 g4 rfl; clear e0 e1 e2 e3 e4 z0 z1 z2 z3 z4 z5 z6 z7 hfz; replace F3 := (show BX w2.drew _ _ _ from F3).below hx4 F3.lt; replace F6 := (show BX w2.drew _ _ _ from F6).below hx4 F6.lt; replace hB := below_step (Below.drew hB) hx4; have f0 : (_ : Option Value) = some (.int .i64 c) := F3.cell 0 (by simp); have f1 : (_ : Option Value) = some (.int .i64 h) := F3.cell 1 (by simp); have f2 : (_ : Option Value) = some (.int .i64 (P : Int)) := F3.cell 2 (by simp); have f3 : (_ : Option Value) = some (.int .i64 s) := F3.cell 3 (by simp); have f4 : (_ : Option Value) = some (.slice A l.length cp) := F3.cell 4 (by simp); have z0 : (_ : Option Value) = some (.int .i64 0) := F6.cell 0 (by simp); have z1 : (_ : Option Value) = some (.int .i64 0) := F6.cell 1 (by simp); have z2 : (_ : Option Value) = some (.int .i64 0) := F6.cell 2 (by simp); have z3 : (_ : Option Value) = some (.int .i64 0) := F6.cell 3 (by simp); have z4 : (_ : Option Value) = some (.slice none 0 0) := F6.cell 4 (by simp); have z5 : (_ : Option Value) = some (.int .i64 0) := F6.cell 5 (by simp); have z6 : (_ : Option Value) = some (.int .i64 0) := F6.cell 6 (by simp); have z7 : (_ : Option Value) = some (.slice none 0 0) := F6.cell 7 (by simp); have hfz := fun j => F6.free j; have ho4 := hown4)
    | (go_at_call 66; refine (hord _).mono ?_; rintro e w5 ⟨v5, rfl, hown5, hx5⟩; obtain ⟨g5, c5, hv⟩ := Go.Joins.ownsRow_form hown5 (by rw [HOL.out]; exact hpos); cases hv; have hlt5 := World.ownsRow.lt hown5 g5 rfl; have hcap := own_capN hown5; clear z0 z1 z2 z3 z4 z5 z6 z7 hfz; replace F3 := F3.below hx5 F3.lt; replace F6 := F6.below hx5 F6.lt; replace hB := below_step hB hx5; have e0 : (_ : Option Value) = some (.int .i64 c) := F3.cell 0 (by simp); have e1 : (_ : Option Value) = some (.int .i64 h) := F3.cell 1 (by simp); have e2 : (_ : Option Value) = some (.int .i64 (P : Int)) := F3.cell 2 (by simp); have e3 : (_ : Option Value) = some (.int .i64 s) := F3.cell 3 (by simp); have e4 : (_ : Option Value) = some (.slice A l.length cp) := F3.cell 4 (by simp); have Y3 := ((((((((F3.far (a := ⟨w.heap.size + 1, 0, none⟩) (by simp) (.int .i64 c)).far (a := ⟨w.heap.size + 1, 1, none⟩) (by simp) (.int .i64 h)).far (a := ⟨w.heap.size + 1, 2, none⟩) (by simp) (.int .i64 (P : Int))).far (a := ⟨w.heap.size + 1, 3, none⟩) (by simp) (.int .i64 s)).far (a := ⟨w.heap.size + 1, 4, none⟩) (by simp) (.slice (some ⟨g4, 0, none⟩) l.length c4)).far (a := ⟨w.heap.size + 1, 5, none⟩) (by simp) (.int .i64 (K : Int))).far (a := ⟨w.heap.size + 1, 6, none⟩) (by simp) (.int .i64 (R : Int))).far (a := ⟨w.heap.size + 1, 7, none⟩) (by simp) (.slice (some ⟨g5, 0, none⟩) m m)); have y0 : (_ : Option Value) = some (.int .i64 c) := Y3.cell 0 (by simp); have y1 : (_ : Option Value) = some (.int .i64 h) := Y3.cell 1 (by simp); have y2 : (_ : Option Value) = some (.int .i64 (P : Int)) := Y3.cell 2 (by simp); have y3 : (_ : Option Value) = some (.int .i64 s) := Y3.cell 3 (by simp); have y4 : (_ : Option Value) = some (.slice A l.length cp) := Y3.cell 4 (by simp); replace ho4 := own_later ho4 hx5 (Nat.le_refl _); have z0 : (_ : Option Value) = some (.int .i64 0) := F6.cell 0 (by simp); have z1 : (_ : Option Value) = some (.int .i64 0) := F6.cell 1 (by simp); have z2 : (_ : Option Value) = some (.int .i64 0) := F6.cell 2 (by simp); have z3 : (_ : Option Value) = some (.int .i64 0) := F6.cell 3 (by simp); have z4 : (_ : Option Value) = some (.slice none 0 0) := F6.cell 4 (by simp); have z5 : (_ : Option Value) = some (.int .i64 0) := F6.cell 5 (by simp); have z6 : (_ : Option Value) = some (.int .i64 0) := F6.cell 6 (by simp); have z7 : (_ : Option Value) = some (.slice none 0 0) := F6.cell 7 (by simp); have hfz := fun j => F6.free j; have hq1 : m ≤ c5 := (by have := HOL.out; omega); have hq2 : ¬ c5 = 0 := (by omega); have hq3 : ¬ m = 0 := (by omega)))
  go_wp2
  have hdr := HDR.out
  refine bodyPost_ret (v := .tuple #[.agg #[.int .i64 c, .int .i64 h, .int .i64 (P : Int), .int .i64 s, .slice (some ⟨g4, 0, none⟩) l.length c4, .int .i64 (K : Int), .int .i64 (R : Int), .slice (some ⟨g5, 0, none⟩) m m], .int .i64 0]) (by simp [results, Try.results11, go_sem, World.cell?_setCell_other, z0, z1, z2, z3, z4, z5, z6, z7]) rfl ⟨_, some ⟨g5, 0, none⟩, m, c5, by rw [HR.out.1, HR.out.2, HM.out, HTL.out]; rfl, ?_, ?_, ?_, ?_, ?_⟩
  · rw [HR.out.1, show nvL true l = l from rfl]
    have ho := own_base (base' := w.heap.size + 1 + 1) ho4 (by omega)
    refine own_base (base := w.heap.size + 1 + 1) ?_ (by omega)
    with_reducible repeat (first | exact ho | refine ownsRow_setCell_below ?_ (by simp; try omega) _)
  · rw [HR.out.1, HM.out, HTL.out, ← flatI_take]
    have hoo : World.ownsRow _ _ _ _ (.slice (some ⟨g5, 0, none⟩) m c5) m _ := own_take (k := m) (by have h9 := hown5; rw [HOL.out] at h9; exact h9) hml
    have ho := own_base (base' := w.heap.size + 1 + 1) hoo (by omega)
    refine own_base (base := w.heap.size + 1 + 1) ?_ (by omega)
    with_reducible repeat (first | exact ho | refine ownsRow_setCell_below ?_ (by simp; try omega) _)
  · right
    intro e
    injection e with e
    have : g4 = g5 := e
    omega
  · exact (by with_reducible repeat (first | exact Below.refl _ _ | assumption | refine below_step ?_ (by assumption) | refine Below.drew ?_ | refine below_drewN ?_ _ | refine below_alloc ?_ _ | refine Below.setCell ?_ (by simp; try omega) _))
  · rw [HR.out.1, HM.out, HTL.out]; exact Nat.le_refl _
end Go.Proofs.Yticnmljahnnhcaa
namespace Go.Proofs.Yticnmljahnnhcaa
open Go.RowKit
set_option linter.unusedVariables false

theorem rowO_get (P a b : Nat) : ∀ j i, i < j → (rowO P a b j)[i]? = some ((a + (i + b) % P : Nat) : Int)
  | 0, i, h => absurd h (by omega)
  | j + 1, i, h => by
    rw [rowO]
    by_cases hi : i < j
    · rw [List.getElem?_append_left (by rw [rowO_len]; exact hi)]
      exact rowO_get P a b j i hi
    · obtain rfl : i = j := by omega
      rw [List.getElem?_append_right (by rw [rowO_len]; omega), rowO_len, Nat.sub_self]
      rfl
theorem ordT_get (P K : Nat) (hP : 0 < P) : ∀ T i, i < T * P → (ordT P K T)[i]? = some ((i / P * P + (i % P + i / P * K) % P : Nat) : Int)
  | 0, i, h => absurd h (by omega)
  | T + 1, i, h => by
    rw [ordT]
    by_cases hi : i < T * P
    · rw [List.getElem?_append_left (by rw [ordT_len]; exact hi)]
      exact ordT_get P K hP T i hi
    · have h2 : i < T * P + P := by rw [Nat.succ_mul] at h; exact h
      rw [List.getElem?_append_right (by rw [ordT_len]; omega), ordT_len, rowO_get P _ _ P _ (by omega)]
      have hq : i / P = T := by
        apply Nat.div_eq_of_lt_le
        · omega
        · rw [Nat.succ_mul]; omega
      have hm : i % P = i - T * P := by
        have := Nat.div_add_mod i P
        rw [hq, Nat.mul_comm] at this
        omega
      rw [hq, hm]
theorem mod_inj {a b c P : Nat} (ha : a < P) (hb : b < P) (h : (a + c) % P = (b + c) % P) : a = b := by
  have h1 := Nat.sub_mod_eq_zero_of_mod_eq h
  have h2 := Nat.sub_mod_eq_zero_of_mod_eq h.symm
  rw [show a + c - (b + c) = a - b by omega, Nat.mod_eq_of_lt (by omega)] at h1
  rw [show b + c - (a + c) = b - a by omega, Nat.mod_eq_of_lt (by omega)] at h2
  omega
theorem ord_div {P q y : Nat} (hP : 0 < P) (hy : y < P) : (q * P + y) / P = q := by
  rw [Nat.mul_comm, Nat.mul_add_div hP, Nat.div_eq_of_lt hy]
  rfl
theorem ord_val {P K T i : Nat} {x : Int} (hP : 0 < P) (hi : i < T * P) (h : (ordT P K T)[i]? = some x) : ∃ y : Nat, x = (y : Int) ∧ y < T * P ∧ y / P = i / P ∧ y % P = (i % P + i / P * K) % P := by
  rw [ordT_get P K hP T i hi] at h
  injection h with h
  have hy : (i % P + i / P * K) % P < P := Nat.mod_lt _ hP
  refine ⟨_, h.symm, ?_, ord_div hP hy, ?_⟩
  · have hq : i / P < T := by rw [Nat.div_lt_iff_lt_mul hP]; exact hi
    have h1 : (i / P + 1) * P ≤ T * P := Nat.mul_le_mul_right _ hq
    rw [Nat.succ_mul] at h1
    omega
  · rw [Nat.mul_comm, Nat.mul_add_mod, Nat.mod_mod]
theorem ord_nodup {P K T : Nat} (hP : 0 < P) : (ordT P K T).Nodup := by
  rw [List.Nodup, List.pairwise_iff_getElem]
  intro i j hi hj hij e
  rw [ordT_len] at hi hj
  obtain ⟨y, hy, _, hd, hm⟩ := ord_val (K := K) hP hi (List.getElem?_eq_getElem (by rw [ordT_len]; exact hi))
  obtain ⟨z, hz, _, hd', hm'⟩ := ord_val (K := K) hP hj (List.getElem?_eq_getElem (by rw [ordT_len]; exact hj))
  rw [hy, hz] at e
  have e : y = z := by omega
  subst e
  rw [hd] at hd'
  rw [hm, hd'] at hm'
  have := mod_inj (Nat.mod_lt _ hP) (Nat.mod_lt _ hP) hm'
  have h1 := Nat.div_add_mod i P
  have h2 := Nat.div_add_mod j P
  rw [hd', this] at h1
  omega
theorem mapB_nodup {n : Int} : ∀ (m pre : List Int), (∀ x ∈ m, 0 ≤ x ∧ x < n) → m.Nodup → (∀ x ∈ m, x ∉ pre) → mapB n pre m = true
  | [], _, _, _, _ => rfl
  | y :: m, pre, h, hn, hp => by
    obtain ⟨h1, h2⟩ := List.nodup_cons.1 hn
    have hy := h y (by simp)
    simp only [mapB, Bool.and_eq_true]
    refine ⟨⟨?_, ?_⟩, mapB_nodup m _ (fun x hx => h x (List.mem_cons_of_mem _ hx)) h2 ?_⟩
    · simp only [inB, Bool.and_eq_true, decide_eq_true_eq]; omega
    · have := hp y (by simp)
      simpa using this
    · intro x hx
      rw [List.mem_append, List.mem_singleton]
      rintro (h3 | rfl)
      · exact hp x (List.mem_cons_of_mem _ hx) h3
      · exact h1 hx
/-- A new device is valid, and a block's sector is on the block's track. -/
theorem newDev_law {c h p s k r : Int} {L : List DSector} (hd : okD c h p s L = true) (hv : nvOk true k r L.length = true) :
    okV true L.length k r (nvM true c h p k r L.length) = true ∧ ((nvM true c h p k r L.length).length : Int) = (L.length : Int) - r ∧ L.length ≤ 128 ∧ 0 < p ∧ ∀ b, b < (nvM true c h p k r L.length).length → 0 ≤ (nvM true c h p k r L.length).getD b 0 ∧ (nvM true c h p k r L.length).getD b 0 < 128 ∧ ((nvM true c h p k r L.length).getD b 0).tdiv p = (b : Int).tdiv p := by
  obtain ⟨hgeo, hlen, _⟩ := okD_geo hd
  obtain ⟨c1, c2, h1, h2, p1, p2, s1, s2⟩ := geoB_yes hgeo
  obtain ⟨m1, m2⟩ := prod2 c1 c2 h1 h2
  obtain ⟨q1, q2⟩ := prod3 m1 m2 p1 p2
  simp only [nvOk, Bool.and_eq_true] at hv
  have hv' := hv
  obtain ⟨⟨_, hk⟩, hr⟩ := hv'
  have hkk := inB_yes hk
  have hrr := inB_yes hr
  obtain ⟨P, rfl⟩ : ∃ P : Nat, p = (P : Int) := ⟨p.toNat, by omega⟩
  obtain ⟨T, hT⟩ : ∃ T : Nat, c * h = (T : Int) := ⟨(c * h).toNat, by omega⟩
  obtain ⟨K, rfl⟩ : ∃ K : Nat, k = (K : Int) := ⟨k.toNat, by omega⟩
  have hP : 0 < P := by omega
  have hLN : L.length = T * P := by
    rw [hT] at hlen
    omega
  obtain ⟨n, hn⟩ : ∃ n, ((L.length : Int) - r).toNat = n := ⟨_, rfl⟩
  have hnL : n ≤ L.length := by omega
  have hM : nvM true c h (P : Int) (K : Int) r L.length = (ordT P K T).take n := by
    unfold nvM
    rw [if_pos rfl, hT, Int.toNat_natCast, Int.toNat_natCast, Int.toNat_natCast, hn]
  have hlen2 : ((ordT P K T).take n).length = n := by rw [List.length_take, ordT_len]; omega
  have hget : ∀ i, i < n → ((ordT P K T).take n)[i]? = (ordT P K T)[i]? := fun i hi => List.getElem?_take_of_lt hi
  rw [hM, hlen2]
  refine ⟨?_, by omega, by omega, by omega, ?_⟩
  · simp only [okV, hk, hr, Bool.true_and, Bool.and_eq_true, decide_eq_true_eq, hlen2]
    refine ⟨by omega, mapB_nodup _ _ ?_ (List.Nodup.sublist (List.take_sublist _ _) (ord_nodup hP)) (by simp)⟩
    intro x hx
    obtain ⟨i, hi, rfl⟩ := List.getElem_of_mem hx
    rw [hlen2] at hi
    have hg := (hget i hi).symm.trans (List.getElem?_eq_getElem (by rw [hlen2]; exact hi))
    obtain ⟨y, hy, hlt, _⟩ := ord_val (K := K) hP (by omega) hg
    rw [hy]
    omega
  · intro b hb
    have hg : (ordT P K T)[b]? = some (((ordT P K T).take n).getD b 0) := by
      rw [← hget b hb, List.getD_eq_getElem?_getD, List.getElem?_eq_getElem (by rw [hlen2]; exact hb)]
      rfl
    obtain ⟨y, hy, hlt, hq, _⟩ := ord_val (K := K) hP (by omega) hg
    rw [hy]
    refine ⟨by omega, by omega, ?_⟩
    rw [Int.tdiv_eq_ediv_of_nonneg (by omega), Int.tdiv_eq_ediv_of_nonneg (by omega), ← Int.natCast_ediv, ← Int.natCast_ediv, hq]
end Go.Proofs.Yticnmljahnnhcaa
namespace Go.Proofs.Yticnmljahnnhcaa
open Go.RowKit
set_option linter.unusedVariables false

theorem nv_bad {k r : Int} {N : Nat} (h : nvOk true k r N = false) : nvC true k r N = 2 := by
  simp only [nvOk, Bool.true_and] at h
  simp [nvC, h]
theorem nv_good {k r : Int} {N : Nat} (h : nvOk true k r N = true) : nvC true k r N = 0 := by
  simp only [nvOk, Bool.true_and] at h
  simp [nvC, h]
theorem newDev_any (c h p s : Int) (A : Option Addr) (cp : Nat) (L : List DSector) (k r : Int) (w : World) (hr : Rd w w.heap.size 2 A L.length (flat fSector L)) (hn : L.length ≤ 1048576) (hok : ∀ x ∈ L, okSector x) :
    Calls Try.prog 11 #[.agg #[.int .i64 c, .int .i64 h, .int .i64 p, .int .i64 s, .slice A L.length cp], .int .i64 k, .int .i64 r] w fun e w' => ∃ (c' h' p' s' k' r' x : Int) (A4 : Option Addr) (n4 c4 : Nat) (A7 : Option Addr) (n7 c7 : Nat), e = .returned (.tuple #[.agg #[.int .i64 c', .int .i64 h', .int .i64 p', .int .i64 s', .slice A4 n4 c4, .int .i64 k', .int .i64 r', .slice A7 n7 c7], .int .i64 x]) ∧ Below w.heap.size w w' ∧
      (x ≠ 0 ∨ x = 0 ∧ okD c h p s L = true ∧ nvOk true k r L.length = true ∧ c = c' ∧ h = h' ∧ p = p' ∧ s = s' ∧ k = k' ∧ r = r' ∧ n4 = L.length ∧ n7 = (nvM true c h p k r L.length).length ∧ w'.ownsRow w.heap.size 39 2 (.slice A4 L.length c4) L.length (flat fSector L) ∧ (∃ c0, w'.ownsRow w.heap.size 2 1 (.slice A7 (nvM true c h p k r L.length).length c0) (nvM true c h p k r L.length).length (flat fI (nvM true c h p k r L.length))) ∧ (nvM true c h p k r L.length).length ≤ c7) := by
  have nd := impl_NewDevice_cap c h p s A cp L k r w hr hn hok
  cases hd : okD c h p s L
  · rw [hd] at nd
    refine nd.mono ?_
    rintro e w' ⟨v4, A7, c7, c0, rfl, O4, O7, hne, hb, hcap⟩
    obtain ⟨A4, c4, rfl⟩ := own_form O4
    exact ⟨_, _, _, _, _, _, _, _, _, _, _, _, _, rfl, hb, .inl (by rw [nv_1.2]; decide)⟩
  · rw [hd] at nd
    cases hv : nvOk true k r L.length
    · rw [hv] at nd
      refine nd.mono ?_
      rintro e w' ⟨v4, A7, c7, c0, rfl, O4, O7, hne, hb, hcap⟩
      obtain ⟨A4, c4, rfl⟩ := own_form O4
      exact ⟨_, _, _, _, _, _, _, _, _, _, _, _, _, rfl, hb, .inl (by rw [nv_bad hv]; decide)⟩
    · rw [hv] at nd
      refine nd.mono ?_
      rintro e w' ⟨v4, A7, c7, c0, rfl, O4, O7, hne, hb, hcap⟩
      obtain ⟨A4, c4, rfl⟩ := own_form O4
      exact ⟨_, _, _, _, _, _, _, _, _, _, _, _, _, rfl, hb, .inr ⟨nv_good hv, rfl, rfl, rfl, rfl, rfl, rfl, rfl, rfl, rfl, rfl, O4, ⟨_, O7⟩, hcap⟩⟩
end Go.Proofs.Yticnmljahnnhcaa
