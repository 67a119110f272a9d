/- Walks: ReplaceBlock (impl). -/
import Derived.Test.YtipkckoejkmhfabW87
namespace Go.Proofs.Ytipkckoejkmhfab
open Go.RowKit
set_option linter.unusedVariables false

set_option maxRecDepth 100000 in
set_option maxHeartbeats 4000000 in
theorem impl_ReplaceBlock_any (c h p s : Int) (A : Option Addr) (cp : Nat) (l : List DSector) (k r : Int) (N : Option Addr) (q : Nat) (m : List Int) (b : Int) (w : World) (hr : Rd w w.heap.size 2 A l.length (flat fSector l)) (hn : l.length ≤ 1048576) (hok : ∀ x ∈ l, okSector x) (kr : Rd w w.heap.size 1 N m.length (flat fI m)) (kn : m.length ≤ 1048576) (hqc : m.length ≤ q) :
    Calls Try.prog 23 #[.agg #[.int .i64 c, .int .i64 h, .int .i64 p, .int .i64 s, .slice A l.length cp, .int .i64 k, .int .i64 r, .slice N m.length q], .int .i64 b] w fun e w' => ∃ (v4 v7 : Value), e = .returned (.tuple #[.agg #[.int .i64 (ptN (rpOk (okV (okD c h p s l) l.length k r m) m.length b (frB (ordT p.toNat k.toNat (c * h).toNat) m)) c), .int .i64 (ptN (rpOk (okV (okD c h p s l) l.length k r m) m.length b (frB (ordT p.toNat k.toNat (c * h).toNat) m)) h), .int .i64 (ptN (rpOk (okV (okD c h p s l) l.length k r m) m.length b (frB (ordT p.toNat k.toNat (c * h).toNat) m)) p), .int .i64 (ptN (rpOk (okV (okD c h p s l) l.length k r m) m.length b (frB (ordT p.toNat k.toNat (c * h).toNat) m)) s), v4, .int .i64 (ptN (rpOk (okV (okD c h p s l) l.length k r m) m.length b (frB (ordT p.toNat k.toNat (c * h).toNat) m)) k), .int .i64 (ptN (rpOk (okV (okD c h p s l) l.length k r m) m.length b (frB (ordT p.toNat k.toNat (c * h).toNat) m)) r), v7], .int .i64 (rpC (okV (okD c h p s l) l.length k r m) m.length b (frB (ordT p.toNat k.toNat (c * h).toNat) m))]) ∧ w'.ownsRow w.heap.size 85 2 v4 (rpL (rpOk (okV (okD c h p s l) l.length k r m) m.length b (frB (ordT p.toNat k.toNat (c * h).toNat) m)) l m b (frB (ordT p.toNat k.toNat (c * h).toNat) m) (zerosB (szB s).toNat)).length (flat fSector (rpL (rpOk (okV (okD c h p s l) l.length k r m) m.length b (frB (ordT p.toNat k.toNat (c * h).toNat) m)) l m b (frB (ordT p.toNat k.toNat (c * h).toNat) m) (zerosB (szB s).toNat))) ∧ w'.ownsRow w.heap.size 2 1 v7 (rpM (rpOk (okV (okD c h p s l) l.length k r m) m.length b (frB (ordT p.toNat k.toNat (c * h).toNat) m)) m b (frB (ordT p.toNat k.toNat (c * h).toNat) m)).length (flat fI (rpM (rpOk (okV (okD c h p s l) l.length k r m) m.length b (frB (ordT p.toNat k.toNat (c * h).toNat) m)) m b (frB (ordT p.toNat k.toNat (c * h).toNat) m))) ∧ (v4.ownBlock = none ∨ v4.ownBlock ≠ v7.ownBlock) ∧ Below w.heap.size w w' := by
  have F3 := (BX.made w 33 [.int .i64 c, .int .i64 h, .int .i64 p, .int .i64 s, .slice A l.length cp, .int .i64 k, .int .i64 r, .slice N m.length q]).al (.cells #[.int .i64 0, .int .i64 0, .int .i64 0, .int .i64 0, .slice none 0 0, .int .i64 0, .int .i64 0, .slice none 0 0] 33)
  have F6 := BX.made1 w (.cells #[.int .i64 c, .int .i64 h, .int .i64 p, .int .i64 s, .slice A l.length cp, .int .i64 k, .int .i64 r, .slice N m.length q] 33) 33 [.int .i64 0, .int .i64 0, .int .i64 0, .int .i64 0, .slice none 0 0, .int .i64 0, .int .i64 0, .slice none 0 0]
  obtain ⟨wb, hwb⟩ : ∃ wb, wb = (w.alloc (.cells #[.int .i64 c, .int .i64 h, .int .i64 p, .int .i64 s, .slice A l.length cp, .int .i64 k, .int .i64 r, .slice N m.length q] 33)).alloc (.cells #[.int .i64 0, .int .i64 0, .int .i64 0, .int .i64 0, .slice none 0 0, .int .i64 0, .int .i64 0, .slice none 0 0] 33) := ⟨_, rfl⟩
  rw [← hwb] at F3 F6
  have hb0 : Below w.heap.size w wb := by rw [hwb]; exact (by with_reducible repeat (first | exact Below.refl _ _ | assumption | refine below_step ?_ (by assumption) | refine Below.drew ?_ | refine below_drewN ?_ _ | refine below_alloc ?_ _ | refine Below.setCell ?_ (by simp; try omega) _))
  have hs0 : w.heap.size + 1 < wb.heap.size := F6.lt
  have hrb := (hr.below hb0).more hb0.size
  have krb := (kr.below hb0).more hb0.size
  have HW := Lib.hid hwb
  clear hwb
  have hq := checkBlock_any c h p s A cp l k r N q m b wb hrb hn hok krb kn hqc
  cases hv : okV (okD c h p s l) l.length k r m
  · have HV := Lib.hid hv
    have HA := Lib.hid (askC_1 (n := m.length) (b := b))
    clear hv
    have HR := Lib.hid (rp_1 (n := m.length) (b := b) (fr := frB (ordT p.toNat k.toNat (c * h).toNat) m))
    go_enter Try.func23, Try.ntmps23
    go_wp2_with ((go_at_call 51; rw [← HW.out]; refine hq.mono ?_; rintro e w2 ⟨rfl, hx⟩; rw [HV.out, HA.out]; replace F3 := F3.below hx F3.lt; replace F6 := F6.below hx F6.lt; have hB : BB w w2 := hb0.trans (hx.mono (by omega)); have e0 : (_ : Option Value) = some (.int .i64 c) := F3.cell 0 (by simp); have e1 : (_ : Option Value) = some (.int .i64 h) := F3.cell 1 (by simp); have e2 : (_ : Option Value) = some (.int .i64 p) := F3.cell 2 (by simp); have e3 : (_ : Option Value) = some (.int .i64 s) := F3.cell 3 (by simp); have e4 : (_ : Option Value) = some (.slice A l.length cp) := F3.cell 4 (by simp); have e5 : (_ : Option Value) = some (.int .i64 k) := F3.cell 5 (by simp); have e6 : (_ : Option Value) = some (.int .i64 r) := F3.cell 6 (by simp); have e7 : (_ : Option Value) = some (.slice N m.length q) := F3.cell 7 (by simp); have z0 : (_ : Option Value) = some (.int .i64 0) := F6.cell 0 (by simp); have z1 : (_ : Option Value) = some (.int .i64 0) := F6.cell 1 (by simp); have z2 : (_ : Option Value) = some (.int .i64 0) := F6.cell 2 (by simp); have z3 : (_ : Option Value) = some (.int .i64 0) := F6.cell 3 (by simp); have z4 : (_ : Option Value) = some (.slice none 0 0) := F6.cell 4 (by simp); have z5 : (_ : Option Value) = some (.int .i64 0) := F6.cell 5 (by simp); have z6 : (_ : Option Value) = some (.int .i64 0) := F6.cell 6 (by simp); have z7 : (_ : Option Value) = some (.slice none 0 0) := F6.cell 7 (by simp); have hfz := fun j => F6.free j; have mk1 := True.intro))
    refine bodyPost_ret (v := .tuple #[.agg #[.int .i64 0, .int .i64 0, .int .i64 0, .int .i64 0, .slice none 0 0, .int .i64 0, .int .i64 0, .slice none 0 0], .int .i64 1]) (by simp [results, Try.results23, go_sem, World.cell?_setCell_other, z0, z1, z2, z3, z4, z5, z6, z7]) rfl ⟨.slice none 0 0, .slice none 0 0, by rw [HR.out.1, HR.out.2]; rfl, ?_, ?_, .inl rfl, ?_⟩
    · rw [HR.out.1]; exact World.ownsRow_nil _ _ _ _
    · rw [HR.out.1]; exact World.ownsRow_nil _ _ _ _
    · exact (by with_reducible repeat (first | exact Below.refl _ _ | assumption | refine below_step ?_ (by assumption) | refine Below.drew ?_ | refine below_drewN ?_ _ | refine below_alloc ?_ _ | refine Below.setCell ?_ (by simp; try omega) _))
  have hall := (okV_yes hv).2.2.2.2
  have hgeo := okD_geo (okV_yes hv).1
  have hk7 := (okV_yes hv).2.1
  have HV := Lib.hid hv
  clear hv
  cases g1 : inB b 0 ((m.length : Int) - 1)
  · have HA := Lib.hid (askC_2 (n := m.length) g1)
    have HR := Lib.hid (rp_2 (n := m.length) (fr := frB (ordT p.toNat k.toNat (c * h).toNat) m) g1)
    go_enter Try.func23, Try.ntmps23
    go_wp2_with ((go_at_call 51; rw [← HW.out]; refine hq.mono ?_; rintro e w2 ⟨rfl, hx⟩; rw [HV.out, HA.out]; replace F3 := F3.below hx F3.lt; replace F6 := F6.below hx F6.lt; have hB : BB w w2 := hb0.trans (hx.mono (by omega)); have e0 : (_ : Option Value) = some (.int .i64 c) := F3.cell 0 (by simp); have e1 : (_ : Option Value) = some (.int .i64 h) := F3.cell 1 (by simp); have e2 : (_ : Option Value) = some (.int .i64 p) := F3.cell 2 (by simp); have e3 : (_ : Option Value) = some (.int .i64 s) := F3.cell 3 (by simp); have e4 : (_ : Option Value) = some (.slice A l.length cp) := F3.cell 4 (by simp); have e5 : (_ : Option Value) = some (.int .i64 k) := F3.cell 5 (by simp); have e6 : (_ : Option Value) = some (.int .i64 r) := F3.cell 6 (by simp); have e7 : (_ : Option Value) = some (.slice N m.length q) := F3.cell 7 (by simp); have z0 : (_ : Option Value) = some (.int .i64 0) := F6.cell 0 (by simp); have z1 : (_ : Option Value) = some (.int .i64 0) := F6.cell 1 (by simp); have z2 : (_ : Option Value) = some (.int .i64 0) := F6.cell 2 (by simp); have z3 : (_ : Option Value) = some (.int .i64 0) := F6.cell 3 (by simp); have z4 : (_ : Option Value) = some (.slice none 0 0) := F6.cell 4 (by simp); have z5 : (_ : Option Value) = some (.int .i64 0) := F6.cell 5 (by simp); have z6 : (_ : Option Value) = some (.int .i64 0) := F6.cell 6 (by simp); have z7 : (_ : Option Value) = some (.slice none 0 0) := F6.cell 7 (by simp); have hfz := fun j => F6.free j; have mk1 := True.intro))
    refine bodyPost_ret (v := .tuple #[.agg #[.int .i64 0, .int .i64 0, .int .i64 0, .int .i64 0, .slice none 0 0, .int .i64 0, .int .i64 0, .slice none 0 0], .int .i64 2]) (by simp [results, Try.results23, go_sem, World.cell?_setCell_other, z0, z1, z2, z3, z4, z5, z6, z7]) rfl ⟨.slice none 0 0, .slice none 0 0, by rw [HR.out.1, HR.out.2]; rfl, ?_, ?_, .inl rfl, ?_⟩
    · rw [HR.out.1]; exact World.ownsRow_nil _ _ _ _
    · rw [HR.out.1]; exact World.ownsRow_nil _ _ _ _
    · exact (by with_reducible repeat (first | exact Below.refl _ _ | assumption | refine below_step ?_ (by assumption) | refine Below.drew ?_ | refine below_drewN ?_ _ | refine below_alloc ?_ _ | refine Below.setCell ?_ (by simp; try omega) _))
  have HA := Lib.hid (askC_3 (n := m.length) g1)
  obtain ⟨b0, b1⟩ := inB_yes g1
  obtain ⟨B, rfl⟩ : ∃ B : Nat, b = (B : Int) := ⟨b.toNat, by omega⟩
  have hlt : B < m.length := by omega
  have hlti : (B : Int) < (m.length : Int) := by omega
  obtain ⟨x0, x1⟩ := hall m[B] (List.getElem_mem hlt)
  obtain ⟨X, hX⟩ : ∃ X : Nat, m[B] = (X : Int) := ⟨m[B].toNat, by omega⟩
  have hXl : X < l.length := by omega
  have hXi : (X : Int) < (l.length : Int) := by omega
  have hpos : 0 < l.length := by omega
  have hposm : 0 < m.length := by omega
  obtain ⟨kk0, kk1⟩ := inB_yes hk7
  obtain ⟨K, rfl⟩ : ∃ K : Nat, k = (K : Int) := ⟨k.toNat, by omega⟩
  obtain ⟨c1, c2, h1, h2, p1, p2, s1, s2⟩ := geoB_yes hgeo.1
  obtain ⟨m1, m2⟩ := prod2 c1 c2 h1 h2
  obtain ⟨P, rfl⟩ : ∃ P : Nat, p = (P : Int) := ⟨p.toNat, by omega⟩
  obtain ⟨T, hT⟩ : ∃ T : Nat, c * h = (T : Int) := ⟨(c * h).toNat, by omega⟩
  have hNT : l.length = T * P := by
    have := hgeo.2.1
    rw [hT] at this
    omega
  have hmem : ∀ x ∈ ordT P K T, 0 ≤ x ∧ x < (l.length : Int) := by rw [hNT]; exact ordT_mem P K (by omega) T
  have hoL : (ordT P K T).length = l.length := by rw [ordT_len, hNT]
  have hord := fun (W : World) => sectorOrder_any c h s A l.length cp T P K W hT (by omega) (by omega) (by omega) (by omega)
  rw [show frB (ordT (P : Int).toNat (K : Int).toNat (c * h).toNat) m = frB (ordT P K T) m by rw [hT, Int.toNat_natCast, Int.toNat_natCast, Int.toNat_natCast]]
  obtain ⟨nb, y1, y2, y3, y4⟩ := szB_nat s1 s2
  rw [y4]
  obtain ⟨ba, off, rfl, hba, hc⟩ := kr.at_ fI_len rfl B hlt
  have hm0 := hc 0 _ (by omega) rfl
  clear hc
  simp only [Nat.mul_one, Nat.add_zero] at hm0
  rw [hX] at hm0
  obtain ⟨b2, off2, rfl, hb2, hcc⟩ := hr.at_ fSector_len rfl X hXl
  have hs0' := hcc 0 _ (by omega) rfl
  have hs1' := hcc 1 _ (by omega) rfl
  clear hcc
  simp only [← Nat.add_assoc, Nat.add_zero] at hs0' hs1'
  obtain ⟨dat, hdat⟩ : ∃ d, l[X].f0 = d := ⟨_, rfl⟩
  obtain ⟨st, hst⟩ : ∃ d, l[X].f1 = d := ⟨_, rfl⟩
  rw [hdat] at hs0'
  rw [hst] at hs1'
  have HLL := fun (Y : Nat) (hf : frB (ordT P K T) m = some (Y : Int)) => rp_L (z := zerosB nb) hlt hX hXl hdat hst hf
  have HMM := fun (Y : Nat) (hf : frB (ordT P K T) m = some (Y : Int)) => rp_M (m := m) (B := B) hf
  generalize ordT P K T = ord at *
  have hposo : 0 < ord.length := by omega
  clear hT hNT hgeo c1 c2 h1 h2 m1 m2 p2 kk0 x0 x1 hX hdat hst hall hk7
  go_enter Try.func23, Try.ntmps23
  go_wp2_with (first
        | (go_at_call 63; have := mk1; refine (hord _).mono ?_; rintro e w5 ⟨v5, rfl, ho5, hx5⟩; obtain ⟨g5, c5, hv⟩ := Go.Joins.ownsRow_form ho5 hposo; cases hv; have lt5 := World.ownsRow.lt ho5 g5 rfl; have l6 := F6.lt; clear e0 e1 e2 e3 e4 e5 e6 e7 z0 z1 z2 z3 z4 z5 z6 z7 hfz; replace F3 := BX.below F3 hx5 F3.lt; replace F6 := BX.below F6 hx5 F6.lt; replace hB := BB.next hB hx5)
        | (go_at_call 51; rw [← HW.out]; refine hq.mono ?_; rintro e w2 ⟨rfl, hx⟩; rw [HV.out, HA.out]; replace F3 := F3.below hx F3.lt; replace F6 := F6.below hx F6.lt; have hB : BB w w2 := hb0.trans (hx.mono (by omega)); have e0 : (_ : Option Value) = some (.int .i64 c) := F3.cell 0 (by simp); have e1 : (_ : Option Value) = some (.int .i64 h) := F3.cell 1 (by simp); have e2 : (_ : Option Value) = some (.int .i64 (P : Int)) := F3.cell 2 (by simp); have e3 : (_ : Option Value) = some (.int .i64 s) := F3.cell 3 (by simp); have e4 : (_ : Option Value) = some (.slice (some ⟨b2, off2, none⟩) l.length cp) := F3.cell 4 (by simp); have e5 : (_ : Option Value) = some (.int .i64 (K : Int)) := F3.cell 5 (by simp); have e6 : (_ : Option Value) = some (.int .i64 r) := F3.cell 6 (by simp); have e7 : (_ : Option Value) = some (.slice (some ⟨ba, off, none⟩) m.length q) := F3.cell 7 (by simp); have z0 : (_ : Option Value) = some (.int .i64 0) := F6.cell 0 (by simp); have z1 : (_ : Option Value) = some (.int .i64 0) := F6.cell 1 (by simp); have z2 : (_ : Option Value) = some (.int .i64 0) := F6.cell 2 (by simp); have z3 : (_ : Option Value) = some (.int .i64 0) := F6.cell 3 (by simp); have z4 : (_ : Option Value) = some (.slice none 0 0) := F6.cell 4 (by simp); have z5 : (_ : Option Value) = some (.int .i64 0) := F6.cell 5 (by simp); have z6 : (_ : Option Value) = some (.int .i64 0) := F6.cell 6 (by simp); have z7 : (_ : Option Value) = some (.slice none 0 0) := F6.cell 7 (by simp); have hfz := fun j => F6.free j; have mk1 := True.intro))
  clear hq hord HW hrb krb hb0 hs0
  go_loopw [25] (fun i wr => ∃ j : Nat, j ≤ ord.length ∧ i = .int .i64 j ∧ Below w5.heap.size w5 wr ∧ Hid (frB (ord.drop j) m = frB ord m)) (fun i _ => ord.length - (intOf i).toNat)
  case atStart => exact ⟨0, Nat.zero_le _, rfl, Below.refl _ _, Lib.hid rfl⟩
  case round =>
    obtain ⟨j, hj, rfl, hbl, HF⟩ := hrel
    replace F3 := BX.below F3 hbl F3.lt
    replace F6 := BX.below F6 hbl F6.lt
    replace ho5 := OO.next ho5 hbl
    replace hB := BB.next hB hbl
    by_cases hjl : j < ord.length
    rotate_left
    · have hjn : ¬ (j : Int) < (ord.length : Int) := by omega
      have HR := Lib.hid (rp_3 g1 (fr_end hjl HF.out))
      have z0 : (_ : Option Value) = some (.int .i64 0) := F6.cell 0 (by simp)
      have z1 : (_ : Option Value) = some (.int .i64 0) := F6.cell 1 (by simp)
      have z2 : (_ : Option Value) = some (.int .i64 0) := F6.cell 2 (by simp)
      have z3 : (_ : Option Value) = some (.int .i64 0) := F6.cell 3 (by simp)
      have z4 : (_ : Option Value) = some (.slice none 0 0) := F6.cell 4 (by simp)
      have z5 : (_ : Option Value) = some (.int .i64 0) := F6.cell 5 (by simp)
      have z6 : (_ : Option Value) = some (.int .i64 0) := F6.cell 6 (by simp)
      have z7 : (_ : Option Value) = some (.slice none 0 0) := F6.cell 7 (by simp)
      have hfz := fun j => F6.free j
      have hBw : Below w.heap.size w wr := hB
      go_wp2
      refine bodyPost_ret (v := .tuple #[.agg #[.int .i64 0, .int .i64 0, .int .i64 0, .int .i64 0, .slice none 0 0, .int .i64 0, .int .i64 0, .slice none 0 0], .int .i64 5]) (by simp [results, Try.results23, go_sem, World.cell?_setCell_other, z0, z1, z2, z3, z4, z5, z6, z7]) rfl ⟨.slice none 0 0, .slice none 0 0, by rw [HR.out.1, HR.out.2]; rfl, ?_, ?_, .inl rfl, ?_⟩
      · rw [HR.out.1]; exact World.ownsRow_nil _ _ _ _
      · rw [HR.out.1]; exact World.ownsRow_nil _ _ _ _
      · exact (by with_reducible repeat (first | exact Below.refl _ _ | assumption | refine below_step ?_ (by assumption) | refine Below.drew ?_ | refine below_drewN ?_ _ | refine below_alloc ?_ _ | refine Below.setCell ?_ (by simp; try omega) _))
    have hji : (j : Int) < (ord.length : Int) := by omega
    have oR := Rd.of_own ho5
    obtain ⟨bo, offo, hbo, hbo2, hc⟩ := oR.at_ fI_len rfl j hjl
    cases hbo
    have hc0 := hc 0 _ (by omega) rfl
    clear hc oR
    simp only [Nat.mul_one, Nat.zero_add, Nat.add_zero] at hc0
    obtain ⟨x0, x1⟩ := hmem ord[j] (List.getElem_mem hjl)
    obtain ⟨Y, hY⟩ : ∃ Y : Nat, ord[j] = (Y : Int) := ⟨ord[j].toNat, by omega⟩
    have hYl : Y < l.length := by omega
    have hYi : (Y : Int) < (l.length : Int) := by omega
    have FN := fun g => fr_next hjl HF.out g
    have FH := fun g => fr_here hjl HF.out g
    rw [hY] at hc0 FN FH
    clear x0 x1 hY
    have krr := (kr.below hB).more hB.size
    have hq := contains_rd (some ⟨ba, off, none⟩) q m m.length (Y : Int) wr wr.heap.size krr (Nat.le_refl _) kn
    rw [List.take_length, show m.contains (Y : Int) = hasB m (Y : Int) from rfl] at hq
    have e0 : (_ : Option Value) = some (.int .i64 c) := F3.cell 0 (by simp)
    have e1 : (_ : Option Value) = some (.int .i64 h) := F3.cell 1 (by simp)
    have e2 : (_ : Option Value) = some (.int .i64 (P : Int)) := F3.cell 2 (by simp)
    have e3 : (_ : Option Value) = some (.int .i64 s) := F3.cell 3 (by simp)
    have e4 : (_ : Option Value) = some (.slice (some ⟨b2, off2, none⟩) l.length cp) := F3.cell 4 (by simp)
    have e5 : (_ : Option Value) = some (.int .i64 (K : Int)) := F3.cell 5 (by simp)
    have e6 : (_ : Option Value) = some (.int .i64 r) := F3.cell 6 (by simp)
    have e7 : (_ : Option Value) = some (.slice (some ⟨ba, off, none⟩) m.length q) := F3.cell 7 (by simp)
    cases hcc : hasB m (Y : Int)
    rotate_left
    · rw [hcc] at hq
      have HN := Lib.hid (FN hcc)
      go_wp2_with (go_at_call 64; refine hq.mono ?_; rintro e w6 ⟨rfl, rfl⟩)
      go_roundw
      case rel => exact ⟨j + 1, by omega, by go_num, hbl, HN⟩
      case measure => (simp [intOf] <;> omega)
    rw [hcc] at hq
    have hfr := FH hcc
    have HR := Lib.hid (rp_4 (n := m.length) g1 hfr)
    have HL := Lib.hid (HLL Y hfr)
    have HM := Lib.hid (HMM Y hfr)
    clear hcc FN FH HLL HMM HF hmem g1
    go_upto_region 10 with (first
          | (go_at_call 65; refine (zeros_any nb _ (by omega)).mono ?_; rintro e w8 ⟨rfl, hx8⟩; clear e3 e3al; replace F3 := BX.al F3 (.cells #[.int .i64 c, .int .i64 h, .int .i64 (P : Int), .int .i64 s, .slice (some ⟨g4, 0, none⟩) l.length c4, .int .i64 (K : Int), .int .i64 r, .slice (some ⟨g7, 0, none⟩) m.length c7] 33); replace F6 := BX.al F6 (.cells #[.int .i64 c, .int .i64 h, .int .i64 (P : Int), .int .i64 s, .slice (some ⟨g4, 0, none⟩) l.length c4, .int .i64 (K : Int), .int .i64 r, .slice (some ⟨g7, 0, none⟩) m.length c7] 33); replace ho4 := OO.al ho4 (.cells #[.int .i64 c, .int .i64 h, .int .i64 (P : Int), .int .i64 s, .slice (some ⟨g4, 0, none⟩) l.length c4, .int .i64 (K : Int), .int .i64 r, .slice (some ⟨g7, 0, none⟩) m.length c7] 33); replace ho7 := OO.al ho7 (.cells #[.int .i64 c, .int .i64 h, .int .i64 (P : Int), .int .i64 s, .slice (some ⟨g4, 0, none⟩) l.length c4, .int .i64 (K : Int), .int .i64 r, .slice (some ⟨g7, 0, none⟩) m.length c7] 33); replace hB := BB.al hB (.cells #[.int .i64 c, .int .i64 h, .int .i64 (P : Int), .int .i64 s, .slice (some ⟨g4, 0, none⟩) l.length c4, .int .i64 (K : Int), .int .i64 r, .slice (some ⟨g7, 0, none⟩) m.length c7] 33); have F8 := BX.made w7 33 [.int .i64 c, .int .i64 h, .int .i64 (P : Int), .int .i64 s, .slice (some ⟨g4, 0, none⟩) l.length c4, .int .i64 (K : Int), .int .i64 r, .slice (some ⟨g7, 0, none⟩) m.length c7]; replace F3 := BX.below F3 hx8 F3.lt; replace F6 := BX.below F6 hx8 F6.lt; replace F8 := BX.below F8 hx8 F8.lt; replace ho4 := OO.next ho4 hx8; replace ho7 := OO.next ho7 hx8; replace hB := BB.next hB hx8; have mk4 := True.intro)
          | (go_at_call 52; refine (sizeBytes_any s s1 s2 _).mono ?_; rintro e w9' ⟨rfl, rfl⟩; rw [y1])
          | (go_at_call 53; refine (cloneDevice_any c h (P : Int) s _ cp l (K : Int) r _ q m _ ((hr.below hB).more hB.size) hn ((kr.below hB).more hB.size) kn).mono ?_; rintro e w7 ⟨v4, v7, rfl, ho4, ho7, hne, hx7⟩; obtain ⟨g4, c4, hv⟩ := Go.Joins.ownsRow_form ho4 hpos; cases hv; obtain ⟨g7, c7, hv⟩ := Go.Joins.ownsRow_form ho7 hposm; cases hv; have hc7 := own_cap ho7; have lt4 := World.ownsRow.lt ho4 g4 rfl; have lt7 := World.ownsRow.lt ho7 g7 rfl; have l6' := F6.lt; clear e0 e1 e2 e3 e4 e5 e6 e7; replace F3 := BX.below F3 hx7 F3.lt; replace F6 := BX.below F6 hx7 F6.lt; replace hB := BB.next hB hx7; have e3 : (_ : Option Value) = some (.int .i64 s) := F3.cell 3 (by simp); have e3al := fun (o : Obj) => (show (_ : Option Value) = some (.int .i64 s) from (F3.al o).cell 3 (by simp)); have mk3 := True.intro)
          | (go_at_call 64; refine hq.mono ?_; rintro e w6 ⟨rfl, rfl⟩))
    generalize hG : w7.heap.size = G at F8 lt4 lt7 hx7 ⊢
    clear hq
    have ltT := F8.lt
    have lt4b := World.ownsRow.lt ho4 g4 rfl
    have lt7b := World.ownsRow.lt ho7 g7 rfl
    replace F3 := BX.al F3 (.cells #[.string (zerosB nb), .int .i64 1] 85)
    replace F6 := BX.al F6 (.cells #[.string (zerosB nb), .int .i64 1] 85)
    replace F8 := BX.al F8 (.cells #[.string (zerosB nb), .int .i64 1] 85)
    replace ho4 := OO.al ho4 (.cells #[.string (zerosB nb), .int .i64 1] 85)
    replace ho7 := OO.al ho7 (.cells #[.string (zerosB nb), .int .i64 1] 85)
    replace hB := BB.al hB (.cells #[.string (zerosB nb), .int .i64 1] 85)
    have FT := BX.made w8 85 [.string (zerosB nb), .int .i64 1]
    generalize hGT : w8.heap.size = GT at FT ltT lt4b lt7b ⊢
    generalize w8.alloc (.cells #[.string (zerosB nb), .int .i64 1] 85) = w9 at *
    have l36 := F3.lt
    have n84 : G ≠ g4 := by omega
    have n87 : G ≠ g7 := by omega
    have n64 : w.heap.size + 1 ≠ g4 := by omega
    have n67 : w.heap.size + 1 ≠ g7 := by omega
    have n74 : g7 ≠ g4 := by
      intro e
      rcases hne with h | h
      · cases h
      · exact h (by rw [e]; rfl)
    have o74 : (Value.slice (some ⟨g7, 0, none⟩) m.length c7).ownBlock ≠ some g4 := fun e => n74 (by injection e)
    have o47 : (Value.slice (some ⟨g4, 0, none⟩) l.length c4).ownBlock ≠ some g7 := fun e => n74 (by injection e with e; exact e.symm)
    have hw4 : w.heap.size ≤ g4 := by omega
    have hw7 : w.heap.size ≤ g7 := by omega
    have hw4' : w.heap.size + 2 ≤ g4 := by omega
    have hw7' : w.heap.size + 2 ≤ g7 := by omega
    have kb0 : Y * 2 < l.length * 2 := by omega
    have kb1 : Y * 2 + 1 < l.length * 2 := by omega
    have nT6 : w.heap.size + 1 ≠ GT := by omega
    have nT8 : G ≠ GT := by omega
    have oT4 : (Value.slice (some ⟨g4, 0, none⟩) l.length c4).ownBlock ≠ some GT := fun e => absurd (show g4 = GT by injection e) (by omega)
    have oT7 : (Value.slice (some ⟨g7, 0, none⟩) m.length c7).ownBlock ≠ some GT := fun e => absurd (show g7 = GT by injection e) (by omega)
    have hwT : w.heap.size ≤ GT := by omega
    have a0 := (hB.cell (p := ⟨ba, off + B, none⟩) hba).trans hm0
    have a1 := (hB.cell (p := ⟨b2, off2 + X * 2, none⟩) hb2).trans hs0'
    have a2 := (hB.cell (p := ⟨b2, off2 + X * 2 + 1, none⟩) hb2).trans hs1'
    have a3 : (_ : Option Value) = some (.slice (some ⟨b2, off2, none⟩) l.length cp) := F3.cell 4 (by simp)
    have a4 : (_ : Option Value) = some (.slice (some ⟨ba, off, none⟩) m.length q) := F3.cell 7 (by simp)
    have n0 := World.new_ne w9 _ a0
    have n1 := World.new_ne w9 _ a1
    have n2 := World.new_ne w9 _ a2
    have n3 := World.new_ne w9 _ a3
    have n4 := World.new_ne w9 _ a4
    go_region_held3 (fun W => W.cell? ⟨ba, off + B, none⟩ = some (.int .i64 (X : Int)) ∧ W.cell? ⟨b2, off2 + X * 2, none⟩ = some (.string dat) ∧ W.cell? ⟨b2, off2 + X * 2 + 1, none⟩ = some (.int .i64 st) ∧ W.cell? ⟨w.heap.size, 4, none⟩ = some (.slice (some ⟨b2, off2, none⟩) l.length cp) ∧ W.cell? ⟨w.heap.size, 7, none⟩ = some (.slice (some ⟨ba, off, none⟩) m.length q)) (go_keep) (fail)
    go_upto_region 11 with fail
    clear n0 n1 n2 n3 n4 a0 a1 a2 a3 a4 F3
    have ltS := FT.lt
    replace F6 := BX.al F6 (.cells #[.string dat, .int .i64 st] 85)
    replace F8 := BX.al F8 (.cells #[.string dat, .int .i64 st] 85)
    replace FT := BX.al FT (.cells #[.string dat, .int .i64 st] 85)
    replace ho4 := OO.al ho4 (.cells #[.string dat, .int .i64 st] 85)
    replace ho7 := OO.al ho7 (.cells #[.string dat, .int .i64 st] 85)
    replace hB := BB.al hB (.cells #[.string dat, .int .i64 st] 85)
    replace F6 := BX.dr F6
    replace F8 := BX.dr F8
    replace FT := BX.dr FT
    replace ho4 : OO _ _ _ _ _ _ _ := OO.dr ho4
    replace ho7 : OO _ _ _ _ _ _ _ := OO.dr ho7
    replace hB : BB w _ := BB.dr hB
    have FS : BX (w9.alloc (.cells #[.string dat, .int .i64 st] 85)).drew w9.heap.size 85 [.string dat, .int .i64 st] := BX.made w9 85 [.string dat, .int .i64 st]
    generalize hGS : w9.heap.size = GS at FS ltS ⊢
    generalize (w9.alloc (.cells #[.string dat, .int .i64 st] 85)).drew = w10 at *
    clear hGS
    have f0 : (_ : Option Value) = some (.string dat) := FS.cell 0 (by simp)
    have f1 : (_ : Option Value) = some (.int .i64 st) := FS.cell 1 (by simp)
    cases g : rdB st
    · have HL2 := HL.out
      rw [g] at HL2
      simp only [Bool.false_eq_true, if_false] at HL2
      go_upto_region 13 with (go_at_call 66; refine (isRead_any dat st _).mono ?_; rintro e w11 ⟨rfl, hx11⟩; rw [g]; replace F6 := BX.below F6 hx11 F6.lt; replace F8 := BX.below F8 hx11 F8.lt; replace FT := BX.below FT hx11 FT.lt; replace FS := BX.below FS hx11 FS.lt; replace ho4 := OO.next ho4 hx11; replace ho7 := OO.next ho7 hx11; replace hB := BB.next hB hx11; clear f0 f1; have f0 : (_ : Option Value) = some (.string dat) := FS.cell 0 (by simp); have t0 : (_ : Option Value) = some (.string (zerosB nb)) := FT.cell 0 (by simp); have f2 := fun j => FT.free j)
      clear f0 t0 f2 FS
      generalize w11 = w12 at *
      have d4 : (_ : Option Value) = some (.slice (some ⟨g4, 0, none⟩) l.length c4) := F8.cell 4 (by simp)
      have f0 : (_ : Option Value) = some (.string (zerosB nb)) := FT.cell 0 (by simp)
      have f1 : (_ : Option Value) = some (.int .i64 1) := FT.cell 1 (by simp)
      have o1 := World.ownsRow.stored ho4 (Y * 2) (.string (zerosB nb)) |>.1
      have o2 := World.ownsRow.stored o1 (Y * 2 + 1) (.int .i64 1) |>.1
      obtain ⟨u0, hu0⟩ := own_some ho4 (Y * 2) kb0
      have hz0 := World.ownsRow.frozenAt ho4 (Y * 2)
      obtain ⟨u2, hu2⟩ := own_some o1 (Y * 2 + 1) kb1
      have hz2 := World.ownsRow.frozenAt o1 (Y * 2 + 1)
      go_upto_region 14 with fail
      replace F6 := ((F6.far (a := ⟨g4, Y * 2, none⟩) n64 (.string (zerosB nb))).far (a := ⟨g4, Y * 2 + 1, none⟩) n64 (.int .i64 1))
      replace F8 := ((F8.far (a := ⟨g4, Y * 2, none⟩) n84 (.string (zerosB nb))).far (a := ⟨g4, Y * 2 + 1, none⟩) n84 (.int .i64 1))
      replace ho7 := ((ho7.putne (a := ⟨g4, Y * 2, none⟩) o74 (.string (zerosB nb))).putne (a := ⟨g4, Y * 2 + 1, none⟩) o74 (.int .i64 1))
      replace hB := ((hB.put (a := ⟨g4, Y * 2, none⟩) hw4 (.string (zerosB nb))).put (a := ⟨g4, Y * 2 + 1, none⟩) hw4 (.int .i64 1))
      clear hu0 hz0 hu2 hz2 o1 d4 f0 f1 ho4 FT
      generalize ((w12.setCell ⟨g4, Y * 2, none⟩ (.string (zerosB nb))).setCell ⟨g4, Y * 2 + 1, none⟩ (.int .i64 1)) = w14 at F6 F8 ho7 hB o2 ⊢
      have d7 : (_ : Option Value) = some (.slice (some ⟨g7, 0, none⟩) m.length c7) := F8.cell 7 (by simp)
      have o7 := World.ownsRow.stored ho7 B (.int .i64 (Y : Int)) |>.1
      obtain ⟨u7, hu7⟩ := own_some ho7 B (by omega)
      have hz7 := World.ownsRow.frozenAt ho7 B
      have P8 := (F8.far (a := ⟨g7, B, none⟩) n87 (.int .i64 (Y : Int)))
      have P6 := (F6.far (a := ⟨g7, B, none⟩) n67 (.int .i64 (Y : Int)))
      have o4 := OO.putne (a := ⟨g7, B, none⟩) o2 o47 (.int .i64 (Y : Int))
      have hBq := (hB.put (a := ⟨g7, B, none⟩) hw7 (.int .i64 (Y : Int)))
      have q_0 : (_ : Option Value) = some (.int .i64 c) := P8.cell 0 (by simp)
      have q_1 : (_ : Option Value) = some (.int .i64 h) := P8.cell 1 (by simp)
      have q_2 : (_ : Option Value) = some (.int .i64 (P : Int)) := P8.cell 2 (by simp)
      have q_3 : (_ : Option Value) = some (.int .i64 s) := P8.cell 3 (by simp)
      have q_4 : (_ : Option Value) = some (.slice (some ⟨g4, 0, none⟩) l.length c4) := P8.cell 4 (by simp)
      have q_5 : (_ : Option Value) = some (.int .i64 (K : Int)) := P8.cell 5 (by simp)
      have q_6 : (_ : Option Value) = some (.int .i64 r) := P8.cell 6 (by simp)
      have q_7 : (_ : Option Value) = some (.slice (some ⟨g7, 0, none⟩) m.length c7) := P8.cell 7 (by simp)
      have z0 : (_ : Option Value) = some (.int .i64 0) := P6.cell 0 (by simp)
      have z1 : (_ : Option Value) = some (.int .i64 0) := P6.cell 1 (by simp)
      have z2 : (_ : Option Value) = some (.int .i64 0) := P6.cell 2 (by simp)
      have z3 : (_ : Option Value) = some (.int .i64 0) := P6.cell 3 (by simp)
      have z4 : (_ : Option Value) = some (.slice none 0 0) := P6.cell 4 (by simp)
      have z5 : (_ : Option Value) = some (.int .i64 0) := P6.cell 5 (by simp)
      have z6 : (_ : Option Value) = some (.int .i64 0) := P6.cell 6 (by simp)
      have z7 : (_ : Option Value) = some (.slice none 0 0) := P6.cell 7 (by simp)
      have hfz := fun j => P6.free j
      go_wp2
      refine bodyPost_ret (v := .tuple #[.agg #[.int .i64 c, .int .i64 h, .int .i64 (P : Int), .int .i64 s, .slice (some ⟨g4, 0, none⟩) l.length c4, .int .i64 (K : Int), .int .i64 r, .slice (some ⟨g7, 0, none⟩) m.length c7], .int .i64 0]) (by simp [results, Try.results23, go_sem, World.cell?_setCell_other, z0, z1, z2, z3, z4, z5, z6, z7]) rfl ⟨_, _, by rw [HR.out.1, HR.out.2]; rfl, ?_, ?_, hne, ?_⟩
      · rw [HR.out.1, HL2, List.length_set, ← setS l Y hYl ⟨(zerosB nb), 1⟩]
        have o3 : OO _ (w.heap.size + 2) _ _ _ _ (putV (flat fSector l) (Y * 2) (fSector ⟨(zerosB nb), 1⟩)) := own_base (base' := w.heap.size + 2) o4 (by omega)
        exact own_base (base' := w.heap.size) ((((((((o3.put (a := ⟨w.heap.size + 1, 0, none⟩) (by simp) (.int .i64 c)).put (a := ⟨w.heap.size + 1, 1, none⟩) (by simp) (.int .i64 h)).put (a := ⟨w.heap.size + 1, 2, none⟩) (by simp) (.int .i64 (P : Int))).put (a := ⟨w.heap.size + 1, 3, none⟩) (by simp) (.int .i64 s)).put (a := ⟨w.heap.size + 1, 4, none⟩) (by simp) (.slice (some ⟨g4, 0, none⟩) l.length c4)).put (a := ⟨w.heap.size + 1, 5, none⟩) (by simp) (.int .i64 (K : Int))).put (a := ⟨w.heap.size + 1, 6, none⟩) (by simp) (.int .i64 r)).put (a := ⟨w.heap.size + 1, 7, none⟩) (by simp) (.slice (some ⟨g7, 0, none⟩) m.length c7)) (by omega)
      · rw [HR.out.1, HM.out, List.length_set, ← setI]
        have o3 : OO _ (w.heap.size + 2) _ _ _ _ ((flat fI m).set B (.int .i64 (Y : Int))) := own_base (base' := w.heap.size + 2) o7 (by omega)
        exact own_base (base' := w.heap.size) ((((((((o3.put (a := ⟨w.heap.size + 1, 0, none⟩) (by simp) (.int .i64 c)).put (a := ⟨w.heap.size + 1, 1, none⟩) (by simp) (.int .i64 h)).put (a := ⟨w.heap.size + 1, 2, none⟩) (by simp) (.int .i64 (P : Int))).put (a := ⟨w.heap.size + 1, 3, none⟩) (by simp) (.int .i64 s)).put (a := ⟨w.heap.size + 1, 4, none⟩) (by simp) (.slice (some ⟨g4, 0, none⟩) l.length c4)).put (a := ⟨w.heap.size + 1, 5, none⟩) (by simp) (.int .i64 (K : Int))).put (a := ⟨w.heap.size + 1, 6, none⟩) (by simp) (.int .i64 r)).put (a := ⟨w.heap.size + 1, 7, none⟩) (by simp) (.slice (some ⟨g7, 0, none⟩) m.length c7)) (by omega)
      · exact ((((((((hBq.put (a := ⟨w.heap.size + 1, 0, none⟩) (by simp) (.int .i64 c)).put (a := ⟨w.heap.size + 1, 1, none⟩) (by simp) (.int .i64 h)).put (a := ⟨w.heap.size + 1, 2, none⟩) (by simp) (.int .i64 (P : Int))).put (a := ⟨w.heap.size + 1, 3, none⟩) (by simp) (.int .i64 s)).put (a := ⟨w.heap.size + 1, 4, none⟩) (by simp) (.slice (some ⟨g4, 0, none⟩) l.length c4)).put (a := ⟨w.heap.size + 1, 5, none⟩) (by simp) (.int .i64 (K : Int))).put (a := ⟨w.heap.size + 1, 6, none⟩) (by simp) (.int .i64 r)).put (a := ⟨w.heap.size + 1, 7, none⟩) (by simp) (.slice (some ⟨g7, 0, none⟩) m.length c7))
    · have HL2 := HL.out
      rw [g] at HL2
      simp only [if_true] at HL2
      go_upto_region 13 with (go_at_call 66; refine (isRead_any dat st _).mono ?_; rintro e w11 ⟨rfl, hx11⟩; rw [g]; replace F6 := BX.below F6 hx11 F6.lt; replace F8 := BX.below F8 hx11 F8.lt; replace FT := BX.below FT hx11 FT.lt; replace FS := BX.below FS hx11 FS.lt; replace ho4 := OO.next ho4 hx11; replace ho7 := OO.next ho7 hx11; replace hB := BB.next hB hx11; clear f0 f1; have f0 : (_ : Option Value) = some (.string dat) := FS.cell 0 (by simp); have t0 : (_ : Option Value) = some (.string (zerosB nb)) := FT.cell 0 (by simp); have f2 := fun j => FT.free j)
      clear f0 t0 f2 FS
      replace F6 := F6.far (a := ⟨GT, 0, none⟩) nT6 (.string dat)
      replace F8 := F8.far (a := ⟨GT, 0, none⟩) nT8 (.string dat)
      replace FT := FT.put 0 (.string dat)
      replace ho4 := OO.putne (a := ⟨GT, 0, none⟩) ho4 oT4 (.string dat)
      replace ho7 := OO.putne (a := ⟨GT, 0, none⟩) ho7 oT7 (.string dat)
      replace hB := BB.put (a := ⟨GT, 0, none⟩) hB hwT (.string dat)
      generalize w11.setCell ⟨GT, 0, none⟩ (.string dat) = w12 at F6 F8 FT ho4 ho7 hB ⊢
      have d4 : (_ : Option Value) = some (.slice (some ⟨g4, 0, none⟩) l.length c4) := F8.cell 4 (by simp)
      have f0 : (_ : Option Value) = some (.string dat) := FT.cell 0 (by simp)
      have f1 : (_ : Option Value) = some (.int .i64 1) := FT.cell 1 (by simp)
      have o1 := World.ownsRow.stored ho4 (Y * 2) (.string dat) |>.1
      have o2 := World.ownsRow.stored o1 (Y * 2 + 1) (.int .i64 1) |>.1
      obtain ⟨u0, hu0⟩ := own_some ho4 (Y * 2) kb0
      have hz0 := World.ownsRow.frozenAt ho4 (Y * 2)
      obtain ⟨u2, hu2⟩ := own_some o1 (Y * 2 + 1) kb1
      have hz2 := World.ownsRow.frozenAt o1 (Y * 2 + 1)
      go_upto_region 14 with fail
      replace F6 := ((F6.far (a := ⟨g4, Y * 2, none⟩) n64 (.string dat)).far (a := ⟨g4, Y * 2 + 1, none⟩) n64 (.int .i64 1))
      replace F8 := ((F8.far (a := ⟨g4, Y * 2, none⟩) n84 (.string dat)).far (a := ⟨g4, Y * 2 + 1, none⟩) n84 (.int .i64 1))
      replace ho7 := ((ho7.putne (a := ⟨g4, Y * 2, none⟩) o74 (.string dat)).putne (a := ⟨g4, Y * 2 + 1, none⟩) o74 (.int .i64 1))
      replace hB := ((hB.put (a := ⟨g4, Y * 2, none⟩) hw4 (.string dat)).put (a := ⟨g4, Y * 2 + 1, none⟩) hw4 (.int .i64 1))
      clear hu0 hz0 hu2 hz2 o1 d4 f0 f1 ho4 FT
      generalize ((w12.setCell ⟨g4, Y * 2, none⟩ (.string dat)).setCell ⟨g4, Y * 2 + 1, none⟩ (.int .i64 1)) = w14 at F6 F8 ho7 hB o2 ⊢
      have d7 : (_ : Option Value) = some (.slice (some ⟨g7, 0, none⟩) m.length c7) := F8.cell 7 (by simp)
      have o7 := World.ownsRow.stored ho7 B (.int .i64 (Y : Int)) |>.1
      obtain ⟨u7, hu7⟩ := own_some ho7 B (by omega)
      have hz7 := World.ownsRow.frozenAt ho7 B
      have P8 := (F8.far (a := ⟨g7, B, none⟩) n87 (.int .i64 (Y : Int)))
      have P6 := (F6.far (a := ⟨g7, B, none⟩) n67 (.int .i64 (Y : Int)))
      have o4 := OO.putne (a := ⟨g7, B, none⟩) o2 o47 (.int .i64 (Y : Int))
      have hBq := (hB.put (a := ⟨g7, B, none⟩) hw7 (.int .i64 (Y : Int)))
      have q_0 : (_ : Option Value) = some (.int .i64 c) := P8.cell 0 (by simp)
      have q_1 : (_ : Option Value) = some (.int .i64 h) := P8.cell 1 (by simp)
      have q_2 : (_ : Option Value) = some (.int .i64 (P : Int)) := P8.cell 2 (by simp)
      have q_3 : (_ : Option Value) = some (.int .i64 s) := P8.cell 3 (by simp)
      have q_4 : (_ : Option Value) = some (.slice (some ⟨g4, 0, none⟩) l.length c4) := P8.cell 4 (by simp)
      have q_5 : (_ : Option Value) = some (.int .i64 (K : Int)) := P8.cell 5 (by simp)
      have q_6 : (_ : Option Value) = some (.int .i64 r) := P8.cell 6 (by simp)
      have q_7 : (_ : Option Value) = some (.slice (some ⟨g7, 0, none⟩) m.length c7) := P8.cell 7 (by simp)
      have z0 : (_ : Option Value) = some (.int .i64 0) := P6.cell 0 (by simp)
      have z1 : (_ : Option Value) = some (.int .i64 0) := P6.cell 1 (by simp)
      have z2 : (_ : Option Value) = some (.int .i64 0) := P6.cell 2 (by simp)
      have z3 : (_ : Option Value) = some (.int .i64 0) := P6.cell 3 (by simp)
      have z4 : (_ : Option Value) = some (.slice none 0 0) := P6.cell 4 (by simp)
      have z5 : (_ : Option Value) = some (.int .i64 0) := P6.cell 5 (by simp)
      have z6 : (_ : Option Value) = some (.int .i64 0) := P6.cell 6 (by simp)
      have z7 : (_ : Option Value) = some (.slice none 0 0) := P6.cell 7 (by simp)
      have hfz := fun j => P6.free j
      go_wp2
      refine bodyPost_ret (v := .tuple #[.agg #[.int .i64 c, .int .i64 h, .int .i64 (P : Int), .int .i64 s, .slice (some ⟨g4, 0, none⟩) l.length c4, .int .i64 (K : Int), .int .i64 r, .slice (some ⟨g7, 0, none⟩) m.length c7], .int .i64 0]) (by simp [results, Try.results23, go_sem, World.cell?_setCell_other, z0, z1, z2, z3, z4, z5, z6, z7]) rfl ⟨_, _, by rw [HR.out.1, HR.out.2]; rfl, ?_, ?_, hne, ?_⟩
      · rw [HR.out.1, HL2, List.length_set, ← setS l Y hYl ⟨dat, 1⟩]
        have o3 : OO _ (w.heap.size + 2) _ _ _ _ (putV (flat fSector l) (Y * 2) (fSector ⟨dat, 1⟩)) := own_base (base' := w.heap.size + 2) o4 (by omega)
        exact own_base (base' := w.heap.size) ((((((((o3.put (a := ⟨w.heap.size + 1, 0, none⟩) (by simp) (.int .i64 c)).put (a := ⟨w.heap.size + 1, 1, none⟩) (by simp) (.int .i64 h)).put (a := ⟨w.heap.size + 1, 2, none⟩) (by simp) (.int .i64 (P : Int))).put (a := ⟨w.heap.size + 1, 3, none⟩) (by simp) (.int .i64 s)).put (a := ⟨w.heap.size + 1, 4, none⟩) (by simp) (.slice (some ⟨g4, 0, none⟩) l.length c4)).put (a := ⟨w.heap.size + 1, 5, none⟩) (by simp) (.int .i64 (K : Int))).put (a := ⟨w.heap.size + 1, 6, none⟩) (by simp) (.int .i64 r)).put (a := ⟨w.heap.size + 1, 7, none⟩) (by simp) (.slice (some ⟨g7, 0, none⟩) m.length c7)) (by omega)
      · rw [HR.out.1, HM.out, List.length_set, ← setI]
        have o3 : OO _ (w.heap.size + 2) _ _ _ _ ((flat fI m).set B (.int .i64 (Y : Int))) := own_base (base' := w.heap.size + 2) o7 (by omega)
        exact own_base (base' := w.heap.size) ((((((((o3.put (a := ⟨w.heap.size + 1, 0, none⟩) (by simp) (.int .i64 c)).put (a := ⟨w.heap.size + 1, 1, none⟩) (by simp) (.int .i64 h)).put (a := ⟨w.heap.size + 1, 2, none⟩) (by simp) (.int .i64 (P : Int))).put (a := ⟨w.heap.size + 1, 3, none⟩) (by simp) (.int .i64 s)).put (a := ⟨w.heap.size + 1, 4, none⟩) (by simp) (.slice (some ⟨g4, 0, none⟩) l.length c4)).put (a := ⟨w.heap.size + 1, 5, none⟩) (by simp) (.int .i64 (K : Int))).put (a := ⟨w.heap.size + 1, 6, none⟩) (by simp) (.int .i64 r)).put (a := ⟨w.heap.size + 1, 7, none⟩) (by simp) (.slice (some ⟨g7, 0, none⟩) m.length c7)) (by omega)
      · exact ((((((((hBq.put (a := ⟨w.heap.size + 1, 0, none⟩) (by simp) (.int .i64 c)).put (a := ⟨w.heap.size + 1, 1, none⟩) (by simp) (.int .i64 h)).put (a := ⟨w.heap.size + 1, 2, none⟩) (by simp) (.int .i64 (P : Int))).put (a := ⟨w.heap.size + 1, 3, none⟩) (by simp) (.int .i64 s)).put (a := ⟨w.heap.size + 1, 4, none⟩) (by simp) (.slice (some ⟨g4, 0, none⟩) l.length c4)).put (a := ⟨w.heap.size + 1, 5, none⟩) (by simp) (.int .i64 (K : Int))).put (a := ⟨w.heap.size + 1, 6, none⟩) (by simp) (.int .i64 r)).put (a := ⟨w.heap.size + 1, 7, none⟩) (by simp) (.slice (some ⟨g7, 0, none⟩) m.length c7))
end Go.Proofs.Ytipkckoejkmhfab
