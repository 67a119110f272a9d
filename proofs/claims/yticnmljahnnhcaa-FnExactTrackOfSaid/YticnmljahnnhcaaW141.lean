/- Walks: TrackOf. -/
import Derived.Test.YticnmljahnnhcaaW140
import Derived.Test.YticnmljahnnhcaaW33
import Derived.Test.YticnmljahnnhcaaW32
import Derived.Test.YticnmljahnnhcaaTrS
import Derived.Test.YticnmljahnnhcaaPut
namespace Go.Proofs.Yticnmljahnnhcaa
open Go.RowKit
set_option linter.unusedVariables false

theorem tkQ_rd {w : World} {B b off q P : Nat} {l : List DSector} (hr : Rd w B 2 (some ⟨b, off, none⟩) l.length (flat fSector l)) (h : q + P ≤ l.length) : Rd w B 2 (some ⟨b, off + q * 2, none⟩) P (flat fSector (tkQ l q P)) := by
  have hlen := tkQ_len h
  refine ⟨by rw [flat_length fSector 2 fSector_len, hlen], fun hP => ?_⟩
  obtain ⟨b', off', he, hb, hc⟩ := hr.2 (by omega)
  cases he
  refine ⟨b, off + q * 2, rfl, hb, fun j hj => ?_⟩
  have hj' : j < P * 2 := by rwa [flat_length fSector 2 fSector_len, hlen] at hj
  have h1 : q * 2 + j < (flat fSector l).length := by rw [flat_length fSector 2 fSector_len]; omega
  have h2 := hc (q * 2 + j) h1
  rw [← Nat.add_assoc] at h2
  rw [h2]
  have h3 := flat_get fSector 2 fSector_len (tkQ l q P) (j / 2) (j % 2) (by rw [hlen]; omega) (Nat.mod_lt _ (by omega))
  have h4 := flat_get fSector 2 fSector_len l (q + j / 2) (j % 2) (by omega) (Nat.mod_lt _ (by omega))
  rw [tkQ_get (by rw [hlen]; omega) (by omega)] at h3
  have e1 : j / 2 * 2 + j % 2 = j := by omega
  have e2 : (q + j / 2) * 2 + j % 2 = q * 2 + j := by omega
  rw [e1, List.getElem?_eq_getElem hj] at h3
  rw [e2, List.getElem?_eq_getElem h1, ← h3] at h4
  exact h4
set_option maxHeartbeats 400000 in
theorem hasTrackI_any (c h p s t : Int) (T : Nat) (A : Option Addr) (n cp : Nat) (w : World) (hT : c * h = (T : Int)) (hT16 : T ≤ 128) :
    Calls Try.prog 97 #[.agg #[.int .i64 c, .int .i64 h, .int .i64 p, .int .i64 s, .slice A n cp], .int .i64 t] w fun e w' => e = .returned (.bool (inB t 0 ((T : Int) - 1))) ∧ Below w.heap.size w w' := by
  have hw : IntKind.i64.wrap (c * h) = (T : Int) := by rw [hT]; exact IntWalk.i64_in _ (by omega)
  have hw2 : IntKind.i64.wrap ((T : Int) - 1) = (T : Int) - 1 := IntWalk.i64_in _ (by omega)
  clear hT
  go_enter Try.func97, Try.ntmps97
  go_wp2_with (go_at_call 64; refine (within_any _ _ _ _).mono ?_; rintro e w1 ⟨rfl, rfl⟩)
  go_ret
  exact ⟨rfl, (by with_reducible repeat (first | exact Below.refl _ _ | assumption | refine below_step ?_ (by assumption) | refine Below.drew ?_ | refine below_drewN ?_ _ | refine below_alloc ?_ _ | refine Below.setCell ?_ (by simp; try omega) _))⟩
theorem tk_geo {c h p s : Int} {l : List DSector} (hd : okD c h p s l = true) : ∃ T P : Nat, c * h = (T : Int) ∧ p = (P : Int) ∧ T ≤ 16 ∧ 1 ≤ P ∧ P ≤ 8 ∧ l.length = T * P ∧ l.length ≤ 128 ∧ 1 ≤ h ∧ h ≤ 2 ∧ 0 ≤ s ∧ s ≤ 2 := by
  obtain ⟨hgeo, hlen, _⟩ := okD_geo hd
  obtain ⟨c1, c2, h1, h2, p1, p2, s1, s2⟩ := geoB_yes hgeo
  obtain ⟨m1, m2⟩ := prod2 c1 c2 h1 h2
  obtain ⟨q1, q2⟩ := prod3 m1 m2 p1 p2
  refine ⟨(c * h).toNat, p.toNat, by omega, by omega, by omega, by omega, by omega, ?_, by omega, h1, h2, s1, s2⟩
  have e1 : ((c * h).toNat : Int) = c * h := by omega
  have e2 : (p.toNat : Int) = p := by omega
  have : ((l.length : Nat) : Int) = (((c * h).toNat * p.toNat : Nat) : Int) := by rw [Int.natCast_mul, e1, e2]; exact hlen
  omega
theorem tk_in {T P t : Nat} {l : List DSector} (h : l.length = T * P) (ht : t < T) : t * P + P ≤ l.length := by
  rw [h, ← Nat.succ_mul]
  exact Nat.mul_le_mul_right P ht

set_option maxRecDepth 100000 in
set_option maxHeartbeats 4000000 in
set_option linter.unusedSimpArgs false in
theorem spec_TrackOf_any (c h p s t : Int) (A : Option Addr) (cp : Nat) (l : List DSector) (w : World) (hr : Rd w w.heap.size 2 A l.length (flat fSector l)) (hn : l.length ≤ 1048576) (hok : ∀ x ∈ l, okSector x) :
    Calls Try.prog 43 #[.agg #[.int .i64 c, .int .i64 h, .int .i64 p, .int .i64 s, .slice A l.length cp], .int .i64 t] w fun e w' => ∃ v, e = .returned (.tuple #[.agg #[.int .i64 (tkF (tkOk (okD c h p s l) c h t) 2), .int .i64 (tkF (tkOk (okD c h p s l) c h t) 4), v], .int .i64 (tkC (okD c h p s l) c h t)]) ∧ w'.ownsRow w.heap.size 150 8 v (tkL (tkOk (okD c h p s l) c h t) h p s t l).length (flat fSectorSpec (tkL (tkOk (okD c h p s l) c h t) h p s t l)) ∧ Below w.heap.size w w' := by
  have F3 := (BX.made w 26 [.int .i64 c, .int .i64 h, .int .i64 p, .int .i64 s, .slice A l.length cp]).al (.cells #[.int .i64 0, .int .i64 0, .slice none 0 0] 84)
  have F6 := BX.made1 w (.cells #[.int .i64 c, .int .i64 h, .int .i64 p, .int .i64 s, .slice A l.length cp] 26) 84 [.int .i64 0, .int .i64 0, .slice none 0 0]
  obtain ⟨wb, hwb⟩ : ∃ wb, wb = (w.alloc (.cells #[.int .i64 c, .int .i64 h, .int .i64 p, .int .i64 s, .slice A l.length cp] 26)).alloc (.cells #[.int .i64 0, .int .i64 0, .slice none 0 0] 84) := ⟨_, rfl⟩
  rw [← hwb] at F3 F6
  have hb0 : Below w.heap.size w wb := by rw [hwb]; exact (by with_reducible repeat (first | exact Below.refl _ _ | assumption | refine below_step ?_ (by assumption) | refine Below.drew ?_ | refine below_drewN ?_ _ | refine below_alloc ?_ _ | refine Below.setCell ?_ (by simp; try omega) _))
  have hs0 : w.heap.size + 1 < wb.heap.size := F6.lt
  have hrb := (hr.below hb0).more hb0.size
  have HW := Lib.hid hwb
  clear hwb
  have DP3 : DP wb w.heap.size c h p s (.slice A l.length cp) := ⟨F3.cell 0 (by simp), F3.cell 1 (by simp), F3.cell 2 (by simp), F3.cell 3 (by simp), F3.cell 4 (by simp)⟩
  have hrw := hrb
  replace hrb := hr.below hb0
  have hq := l12Ok_any w.heap.size c h p s A cp l wb DP3 hrw hn hok
  cases hd : okD c h p s l
  · rw [hd] at hq
    have HR := Lib.hid (tk_1 (c := c) (h := h) (t := t))
    go_enter Try.func43, Try.ntmps43
    go_wp2_with ((go_at_call 76; rw [← HW.out]; refine hq.mono ?_; rintro e w2 ⟨rfl, hx⟩; replace F3 := F3.below hx F3.lt; replace F6 := F6.below hx F6.lt; have hB : Below w.heap.size w w2 := hb0.trans (hx.mono (by omega)); have e0 : (_ : Option Value) = some (.int .i64 c) := F3.cell 0 (by simp); have e1 : (_ : Option Value) = some (.int .i64 h) := F3.cell 1 (by simp); have e2 : (_ : Option Value) = some (.int .i64 p) := F3.cell 2 (by simp); have e3 : (_ : Option Value) = some (.int .i64 s) := F3.cell 3 (by simp); have e4 : (_ : Option Value) = some (.slice A l.length cp) := F3.cell 4 (by simp); have z0 : (_ : Option Value) = some (.int .i64 0) := F6.cell 0 (by simp); have z1 : (_ : Option Value) = some (.int .i64 0) := F6.cell 1 (by simp); have z2 : (_ : Option Value) = some (.slice none 0 0) := F6.cell 2 (by simp); have hfz := fun j => F6.free j))
    refine bodyPost_ret (v := .tuple #[.agg #[.int .i64 0, .int .i64 0, .slice none 0 0], .int .i64 1]) (by simp [results, Try.results43, go_sem, World.cell?_setCell_other, z0, z1, z2]) rfl ⟨.slice none 0 0, by rw [HR.out.1, HR.out.2]; rfl, ?_, ?_⟩
    · rw [HR.out.1]; exact World.ownsRow_nil _ _ _ _
    · exact (by with_reducible repeat (first | exact Below.refl _ _ | assumption | refine below_step ?_ (by assumption) | refine Below.drew ?_ | refine below_drewN ?_ _ | refine below_alloc ?_ _ | refine Below.setCell ?_ (by simp; try omega) _))
  rw [hd] at hq
  obtain ⟨T, P, hT, rfl, hT16, hP1, hP8, hlT, hl128, hh1, hh2, hs1, hs2⟩ := tk_geo hd
  have HLT := Lib.hid hlT
  clear hlT
  have hw1 : IntKind.i64.wrap (c * h) = (T : Int) := by rw [hT]; exact IntWalk.i64_in _ (by omega)
  have hw2 : IntKind.i64.wrap ((T : Int) - 1) = (T : Int) - 1 := IntWalk.i64_in _ (by omega)
  have hin := fun W => l00In_any t 0 ((T : Int) - 1) W
  cases g1 : inB t 0 ((T : Int) - 1)
  · rw [g1] at hin
    rw [← hT] at g1
    have HR0 := Lib.hid (tk_2 g1)
    clear hT
    have HR := Lib.hid (HR0.out)
    go_enter Try.func43, Try.ntmps43
    go_wp2_with (first | (go_at_call 71; refine (hin _).mono ?_; rintro e w9 ⟨rfl, rfl⟩) | (go_at_call 76; rw [← HW.out]; refine hq.mono ?_; rintro e w2 ⟨rfl, hx⟩; replace F3 := F3.below hx F3.lt; replace F6 := F6.below hx F6.lt; have hB : Below w.heap.size w w2 := hb0.trans (hx.mono (by omega)); have e0 : (_ : Option Value) = some (.int .i64 c) := F3.cell 0 (by simp); have e1 : (_ : Option Value) = some (.int .i64 h) := F3.cell 1 (by simp); have e2 : (_ : Option Value) = some (.int .i64 (P : Int)) := F3.cell 2 (by simp); have e3 : (_ : Option Value) = some (.int .i64 s) := F3.cell 3 (by simp); have e4 : (_ : Option Value) = some (.slice A l.length cp) := F3.cell 4 (by simp); have z0 : (_ : Option Value) = some (.int .i64 0) := F6.cell 0 (by simp); have z1 : (_ : Option Value) = some (.int .i64 0) := F6.cell 1 (by simp); have z2 : (_ : Option Value) = some (.slice none 0 0) := F6.cell 2 (by simp); have hfz := fun j => F6.free j))
    refine bodyPost_ret (v := .tuple #[.agg #[.int .i64 0, .int .i64 0, .slice none 0 0], .int .i64 2]) (by simp [results, Try.results43, go_sem, World.cell?_setCell_other, z0, z1, z2]) rfl ⟨.slice none 0 0, by rw [HR.out.1, HR.out.2]; rfl, ?_, ?_⟩
    · rw [HR.out.1]; exact World.ownsRow_nil _ _ _ _
    · exact (by with_reducible repeat (first | exact Below.refl _ _ | assumption | refine below_step ?_ (by assumption) | refine Below.drew ?_ | refine below_drewN ?_ _ | refine below_alloc ?_ _ | refine Below.setCell ?_ (by simp; try omega) _))
  rw [g1] at hin
  obtain ⟨t0, t1⟩ := inB_yes g1
  obtain ⟨t', rfl⟩ : ∃ t' : Nat, t = (t' : Int) := ⟨t.toNat, by omega⟩
  rw [← hT] at g1
  have HR := Lib.hid (tk_3 g1)
  have htP := tk_in HLT.out (show t' < T by omega)
  have htk := fun (W : World) hd hr => l12Track_any w.heap.size c h s P t' A cp l W hd hr htP hl128 hP8 hh1 hh2 (by omega)
  have HL := Lib.hid (show tkL true h (P : Int) s (t' : Int) l = tkS ((t' : Int).tdiv h) ((t' : Int).tmod h) s 0 (tkQ l (t' * P) P) by unfold tkL; rw [if_pos rfl, Int.toNat_natCast, Int.toNat_natCast])
  generalize tkS ((t' : Int).tdiv h) ((t' : Int).tmod h) s 0 (tkQ l (t' * P) P) = R at htk HL
  clear hT hd g1 htP
  go_enter Try.func43, Try.ntmps43
  go_wp2_with (first
    | (go_at_call 95; refine (htk _ ⟨F3.cell 0 (by simp), F3.cell 1 (by simp), F3.cell 2 (by simp), F3.cell 3 (by simp), F3.cell 4 (by simp)⟩ ((hrw.below hx).more hx.size)).mono ?_; rintro e w5 ⟨v5, rfl, O5, hx5⟩; obtain ⟨A5, c5, rfl⟩ := own_form O5; have hlt5 : w.heap.size + 1 < w2.heap.size := F6.lt; clear z0 z1 z2 hfz; replace F6 := F6.below hx5 F6.lt; replace hB := hB.trans (hx5.mono hB.size); have z0 : (_ : Option Value) = some (.int .i64 0) := F6.cell 0 (by simp); have z1 : (_ : Option Value) = some (.int .i64 0) := F6.cell 1 (by simp); have z2 : (_ : Option Value) = some (.slice none 0 0) := F6.cell 2 (by simp); have hfz := fun j => F6.free j)
    | (go_at_call 71; refine (hin _).mono ?_; rintro e w9 ⟨rfl, rfl⟩)
    | (go_at_call 76; rw [← HW.out]; refine hq.mono ?_; rintro e w2 ⟨rfl, hx⟩; replace F3 := F3.below hx F3.lt; replace F6 := F6.below hx F6.lt; have hB : Below w.heap.size w w2 := hb0.trans (hx.mono (by omega)); have e0 : (_ : Option Value) = some (.int .i64 c) := F3.cell 0 (by simp); have e1 : (_ : Option Value) = some (.int .i64 h) := F3.cell 1 (by simp); have e2 : (_ : Option Value) = some (.int .i64 (P : Int)) := F3.cell 2 (by simp); have e3 : (_ : Option Value) = some (.int .i64 s) := F3.cell 3 (by simp); have e4 : (_ : Option Value) = some (.slice A l.length cp) := F3.cell 4 (by simp); have z0 : (_ : Option Value) = some (.int .i64 0) := F6.cell 0 (by simp); have z1 : (_ : Option Value) = some (.int .i64 0) := F6.cell 1 (by simp); have z2 : (_ : Option Value) = some (.slice none 0 0) := F6.cell 2 (by simp); have hfz := fun j => F6.free j))
  refine bodyPost_ret (v := .tuple #[.agg #[.int .i64 2, .int .i64 4, .slice A5 R.length c5], .int .i64 0]) (by simp [results, Try.results43, go_sem, World.cell?_setCell_other, z0, z1, z2]) rfl ⟨_, by rw [HR.out.1, HR.out.2]; rfl, ?_, (by with_reducible repeat (first | exact Below.refl _ _ | assumption | refine below_step ?_ (by assumption) | refine Below.drew ?_ | refine below_drewN ?_ _ | refine below_alloc ?_ _ | refine Below.setCell ?_ (by simp; try omega) _))⟩
  rw [HR.out.1, HL.out]
  have hb' : w.heap.size + 1 < w2.heap.size := hlt5
  refine own_base (base := w2.heap.size) ?_ (by omega)
  exact OO.put (OO.put (OO.put O5 hb' _) hb' _) hb' _
end Go.Proofs.Yticnmljahnnhcaa
