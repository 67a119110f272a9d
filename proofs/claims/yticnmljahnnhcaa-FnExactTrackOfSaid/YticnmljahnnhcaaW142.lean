/- Walks: TrackOf (impl). -/
import Derived.Test.YticnmljahnnhcaaW141
namespace Go.Proofs.Yticnmljahnnhcaa
open Go.RowKit
set_option linter.unusedVariables false
theorem own_capT {w : World} {base : Nat} {e : TypeId} {size n c : Nat} {A : Option Addr} {xs : List Value} (h : w.ownsRow base e size (.slice A n c) n xs) : n ≤ c := by
  rcases h.2 with ⟨hv, h0⟩ | ⟨g, cap, cur, hv, _, _, hnc, _⟩
  · omega
  · injection hv with _ _ h3
    omega

set_option maxRecDepth 100000 in
set_option maxHeartbeats 4000000 in
set_option linter.unusedSimpArgs false in
theorem impl_TrackOf_any (c h p s t : Int) (A : Option Addr) (cp : Nat) (l : List DSector) (w : World) (hr : Rd w w.heap.size 2 A l.length (flat fSector l)) (hn : l.length ≤ 1048576) (hok : ∀ x ∈ l, okSector x) (hcp : l.length ≤ cp) :
    Calls Try.prog 45 #[.agg #[.int .i64 c, .int .i64 h, .int .i64 p, .int .i64 s, .slice A l.length cp], .int .i64 t] w fun e w' => ∃ v, e = .returned (.tuple #[.agg #[.int .i64 (tkF (tkOk (okD c h p s l) c h t) 2), .int .i64 (tkF (tkOk (okD c h p s l) c h t) 4), v], .int .i64 (tkC (okD c h p s l) c h t)]) ∧ w'.ownsRow w.heap.size 150 8 v (tkL (tkOk (okD c h p s l) c h t) h p s t l).length (flat fSectorSpec (tkL (tkOk (okD c h p s l) c h t) h p s t l)) ∧ Below w.heap.size w w' := by
  have F3 := (BX.made w 26 [.int .i64 c, .int .i64 h, .int .i64 p, .int .i64 s, .slice A l.length cp]).al (.cells #[.int .i64 0, .int .i64 0, .slice none 0 0] 84)
  have F6 := BX.made1 w (.cells #[.int .i64 c, .int .i64 h, .int .i64 p, .int .i64 s, .slice A l.length cp] 26) 84 [.int .i64 0, .int .i64 0, .slice none 0 0]
  obtain ⟨wb, hwb⟩ : ∃ wb, wb = (w.alloc (.cells #[.int .i64 c, .int .i64 h, .int .i64 p, .int .i64 s, .slice A l.length cp] 26)).alloc (.cells #[.int .i64 0, .int .i64 0, .slice none 0 0] 84) := ⟨_, rfl⟩
  rw [← hwb] at F3 F6
  have hb0 : Below w.heap.size w wb := by rw [hwb]; exact (by with_reducible repeat (first | exact Below.refl _ _ | assumption | refine below_step ?_ (by assumption) | refine Below.drew ?_ | refine below_drewN ?_ _ | refine below_alloc ?_ _ | refine Below.setCell ?_ (by simp; try omega) _))
  have hs0 : w.heap.size + 1 < wb.heap.size := F6.lt
  have hrb := (hr.below hb0).more hb0.size
  have HW := Lib.hid hwb
  clear hwb
  have hq := impl_ValidDisc_any c h p s A cp l wb hrb hn hok
  cases hd : okD c h p s l
  · rw [hd] at hq
    have HR := Lib.hid (tk_1 (c := c) (h := h) (t := t))
    go_enter Try.func45, Try.ntmps45
    go_wp2_with ((go_at_call 62; rw [← HW.out]; refine hq.mono ?_; rintro e w2 ⟨rfl, hx⟩; replace F3 := F3.below hx F3.lt; replace F6 := F6.below hx F6.lt; have hB : Below w.heap.size w w2 := hb0.trans (hx.mono (by omega)); have e0 : (_ : Option Value) = some (.int .i64 c) := F3.cell 0 (by simp); have e1 : (_ : Option Value) = some (.int .i64 h) := F3.cell 1 (by simp); have e2 : (_ : Option Value) = some (.int .i64 p) := F3.cell 2 (by simp); have e3 : (_ : Option Value) = some (.int .i64 s) := F3.cell 3 (by simp); have e4 : (_ : Option Value) = some (.slice A l.length cp) := F3.cell 4 (by simp); have z0 : (_ : Option Value) = some (.int .i64 0) := F6.cell 0 (by simp); have z1 : (_ : Option Value) = some (.int .i64 0) := F6.cell 1 (by simp); have z2 : (_ : Option Value) = some (.slice none 0 0) := F6.cell 2 (by simp); have hfz := fun j => F6.free j))
    refine bodyPost_ret (v := .tuple #[.agg #[.int .i64 0, .int .i64 0, .slice none 0 0], .int .i64 1]) (by simp [results, Try.results45, go_sem, World.cell?_setCell_other, z0, z1, z2]) rfl ⟨.slice none 0 0, by rw [HR.out.1, HR.out.2]; rfl, ?_, ?_⟩
    · rw [HR.out.1]; exact World.ownsRow_nil _ _ _ _
    · exact (by with_reducible repeat (first | exact Below.refl _ _ | assumption | refine below_step ?_ (by assumption) | refine Below.drew ?_ | refine below_drewN ?_ _ | refine below_alloc ?_ _ | refine Below.setCell ?_ (by simp; try omega) _))
  rw [hd] at hq
  obtain ⟨T, P, hT, rfl, hT16, hP1, hP8, hlT, hl128, hh1, hh2, hs1, hs2⟩ := tk_geo hd
  have HLT := Lib.hid hlT
  clear hlT
  have hin := fun W => hasTrackI_any c h (P : Int) s t T A l.length cp W hT (by omega)
  cases g1 : inB t 0 ((T : Int) - 1)
  · rw [g1] at hin
    rw [← hT] at g1
    have HR0 := Lib.hid (tk_2 g1)
    clear hT
    have HR := Lib.hid (HR0.out)
    go_enter Try.func45, Try.ntmps45
    go_wp2_with (first | (go_at_call 97; refine (hin _).mono ?_; rintro e w3 ⟨rfl, hx3⟩; replace F3 := F3.below hx3 F3.lt; replace F6 := F6.below hx3 F6.lt; replace hB : Below w.heap.size w w3 := hB.trans (hx3.mono hB.size); clear e0 e1 e2 e3 e4 z0 z1 z2 hfz; have e0 : (_ : Option Value) = some (.int .i64 c) := F3.cell 0 (by simp); have e1 : (_ : Option Value) = some (.int .i64 h) := F3.cell 1 (by simp); have e2 : (_ : Option Value) = some (.int .i64 (P : Int)) := F3.cell 2 (by simp); have e3 : (_ : Option Value) = some (.int .i64 s) := F3.cell 3 (by simp); have e4 : (_ : Option Value) = some (.slice A l.length cp) := F3.cell 4 (by simp); have z0 : (_ : Option Value) = some (.int .i64 0) := F6.cell 0 (by simp); have z1 : (_ : Option Value) = some (.int .i64 0) := F6.cell 1 (by simp); have z2 : (_ : Option Value) = some (.slice none 0 0) := F6.cell 2 (by simp); have hfz := fun j => F6.free j) | (go_at_call 62; rw [← HW.out]; refine hq.mono ?_; rintro e w2 ⟨rfl, hx⟩; replace F3 := F3.below hx F3.lt; replace F6 := F6.below hx F6.lt; have hB : Below w.heap.size w w2 := hb0.trans (hx.mono (by omega)); have e0 : (_ : Option Value) = some (.int .i64 c) := F3.cell 0 (by simp); have e1 : (_ : Option Value) = some (.int .i64 h) := F3.cell 1 (by simp); have e2 : (_ : Option Value) = some (.int .i64 (P : Int)) := F3.cell 2 (by simp); have e3 : (_ : Option Value) = some (.int .i64 s) := F3.cell 3 (by simp); have e4 : (_ : Option Value) = some (.slice A l.length cp) := F3.cell 4 (by simp); have z0 : (_ : Option Value) = some (.int .i64 0) := F6.cell 0 (by simp); have z1 : (_ : Option Value) = some (.int .i64 0) := F6.cell 1 (by simp); have z2 : (_ : Option Value) = some (.slice none 0 0) := F6.cell 2 (by simp); have hfz := fun j => F6.free j))
    refine bodyPost_ret (v := .tuple #[.agg #[.int .i64 0, .int .i64 0, .slice none 0 0], .int .i64 2]) (by simp [results, Try.results45, go_sem, World.cell?_setCell_other, z0, z1, z2]) rfl ⟨.slice none 0 0, by rw [HR.out.1, HR.out.2]; rfl, ?_, ?_⟩
    · rw [HR.out.1]; exact World.ownsRow_nil _ _ _ _
    · exact (by with_reducible repeat (first | exact Below.refl _ _ | assumption | refine below_step ?_ (by assumption) | refine Below.drew ?_ | refine below_drewN ?_ _ | refine below_alloc ?_ _ | refine Below.setCell ?_ (by simp; try omega) _))
  rw [g1] at hin
  obtain ⟨t0, t1⟩ := inB_yes g1
  obtain ⟨t', rfl⟩ : ∃ t' : Nat, t = (t' : Int) := ⟨t.toNat, by omega⟩
  rw [← hT] at g1
  have HR := Lib.hid (tk_3 g1)
  have htP := tk_in HLT.out (show t' < T by omega)
  have hlpos : 0 < l.length := by omega
  obtain ⟨b, off, hAb, _, _⟩ := hr.at_ fSector_len rfl 0 hlpos
  subst hAb
  have hts := fun W => trackSectors_any c h s P t' b off cp l W htP hl128 hP8 (by omega) hcp
  have HL := Lib.hid (show tkL true h (P : Int) s (t' : Int) l = tkS ((t' : Int).tdiv h) ((t' : Int).tmod h) s 0 (tkQ l (t' * P) P) by unfold tkL; rw [if_pos rfl, Int.toNat_natCast, Int.toNat_natCast])
  obtain ⟨q, hqe⟩ : ∃ q, t' * P = q := ⟨_, rfl⟩
  rw [hqe] at hts HL htP
  have hRq := tkQ_rd hr htP
  have hp0 : ¬ h = 0 := by omega
  have hp01 : (h == 0) = false := by simp; omega
  obtain ⟨tq, htq⟩ : ∃ x, (t' : Int).tdiv h = x := ⟨_, rfl⟩
  obtain ⟨tm, htm⟩ : ∃ x, (t' : Int).tmod h = x := ⟨_, rfl⟩
  have bq : 0 ≤ tq ∧ tq ≤ 128 := by
    have : h = 1 ∨ h = 2 := by omega
    rcases this with rfl | rfl <;> (rw [← htq, Int.tdiv_eq_ediv_of_nonneg (by omega)]; omega)
  have bm : 0 ≤ tm ∧ tm ≤ 128 := by
    have : h = 1 ∨ h = 2 := by omega
    rcases this with rfl | rfl <;> (rw [← htm, Int.tmod_eq_emod_of_nonneg (by omega)]; omega)
  have hwq : IntKind.i64.wrap tq = tq := IntWalk.i64_in _ (by omega)
  have hwm : IntKind.i64.wrap tm = tm := IntWalk.i64_in _ (by omega)
  have HQ1 := Lib.hid hwq
  have HM1 := Lib.hid hwm
  have HQ := Lib.hid htq
  have HM := Lib.hid htm
  rw [htq, htm] at HL
  have HLQ := Lib.hid (tkQ_len htP)
  clear htq htm hwq hwm hT hd g1 hqe t0 t1
  obtain ⟨R, hR⟩ : ∃ R, tkS tq tm s 0 (tkQ l q P) = R := ⟨_, rfl⟩
  rw [hR] at HL
  have HI0 := Lib.hid hR
  clear hR
  generalize tkQ l q P = ss at hRq HI0 HLQ
  go_enter Try.func45, Try.ntmps45
  go_wp2_with (first
    | (go_at_call 98; refine (hts _).mono ?_; rintro e w4 ⟨rfl, hx4⟩; have F8 := BX.made w3 84 [.int .i64 2, .int .i64 4, .slice none 0 0]; replace F8 := F8.below hx4 F8.lt; replace F3 := (F3.al (.cells #[.int .i64 2, .int .i64 4, .slice none 0 0] 84)).below hx4 (by rw [World.size_alloc]; exact Nat.lt_succ_of_lt F3.lt); replace F6 := (F6.al (.cells #[.int .i64 2, .int .i64 4, .slice none 0 0] 84)).below hx4 (by rw [World.size_alloc]; exact Nat.lt_succ_of_lt F6.lt); have hG := hG3; replace hB : Below w.heap.size w w4 := (hB.alloc hB.size (.cells #[.int .i64 2, .int .i64 4, .slice none 0 0] 84)).trans (hx4.mono (by rw [World.size_alloc]; have := hB.size; omega)))
    | (go_at_call 97; refine (hin _).mono ?_; rintro e w3 ⟨rfl, hx3⟩; replace F3 := F3.below hx3 F3.lt; replace F6 := F6.below hx3 F6.lt; replace hB : Below w.heap.size w w3 := hB.trans (hx3.mono hB.size); have h13 := hx3.size; have hG3 : w.heap.size + 1 < w3.heap.size := F6.lt; clear e0 e1 e2 e3 e4 z0 z1 z2 hfz; have e0 : (_ : Option Value) = some (.int .i64 c) := F3.cell 0 (by simp); have e1 : (_ : Option Value) = some (.int .i64 h) := F3.cell 1 (by simp); have e2 : (_ : Option Value) = some (.int .i64 (P : Int)) := F3.cell 2 (by simp); have e3 : (_ : Option Value) = some (.int .i64 s) := F3.cell 3 (by simp); have e4 : (_ : Option Value) = some (.slice (some ⟨b, off, none⟩) l.length cp) := F3.cell 4 (by simp); have z0 : (_ : Option Value) = some (.int .i64 0) := F6.cell 0 (by simp); have z1 : (_ : Option Value) = some (.int .i64 0) := F6.cell 1 (by simp); have z2 : (_ : Option Value) = some (.slice none 0 0) := F6.cell 2 (by simp); have hfz := fun j => F6.free j; have q0 : (_ : Option Value) = some (.int .i64 c) := (F3.al (.cells #[.int .i64 2, .int .i64 4, .slice none 0 0] 84)).cell 0 (by simp); have q1 : (_ : Option Value) = some (.int .i64 h) := (F3.al (.cells #[.int .i64 2, .int .i64 4, .slice none 0 0] 84)).cell 1 (by simp); have q2 : (_ : Option Value) = some (.int .i64 (P : Int)) := (F3.al (.cells #[.int .i64 2, .int .i64 4, .slice none 0 0] 84)).cell 2 (by simp); have q3 : (_ : Option Value) = some (.int .i64 s) := (F3.al (.cells #[.int .i64 2, .int .i64 4, .slice none 0 0] 84)).cell 3 (by simp); have q4 : (_ : Option Value) = some (.slice (some ⟨b, off, none⟩) l.length cp) := (F3.al (.cells #[.int .i64 2, .int .i64 4, .slice none 0 0] 84)).cell 4 (by simp))
    | (go_at_call 62; rw [← HW.out]; refine hq.mono ?_; rintro e w2 ⟨rfl, hx⟩; replace F3 := F3.below hx F3.lt; replace F6 := F6.below hx F6.lt; have hB : Below w.heap.size w w2 := hb0.trans (hx.mono (by omega)); have e0 : (_ : Option Value) = some (.int .i64 c) := F3.cell 0 (by simp); have e1 : (_ : Option Value) = some (.int .i64 h) := F3.cell 1 (by simp); have e2 : (_ : Option Value) = some (.int .i64 (P : Int)) := F3.cell 2 (by simp); have e3 : (_ : Option Value) = some (.int .i64 s) := F3.cell 3 (by simp); have e4 : (_ : Option Value) = some (.slice (some ⟨b, off, none⟩) l.length cp) := F3.cell 4 (by simp); have z0 : (_ : Option Value) = some (.int .i64 0) := F6.cell 0 (by simp); have z1 : (_ : Option Value) = some (.int .i64 0) := F6.cell 1 (by simp); have z2 : (_ : Option Value) = some (.slice none 0 0) := F6.cell 2 (by simp); have hfz := fun j => F6.free j))
  have hG0 : w.heap.size ≠ w3.heap.size := by omega
  have ho : World.ownsRow w4 (w3.heap.size + 1) 150 8 (.slice none 0 0) 0 (flat fSectorSpec []) := World.ownsRow_nil _ _ _ _
  have hB0 := hB
  clear hrb hq hin hts hx hx3 hx4
  generalize w3.heap.size = G6 at F8 hG hG0 ho ⊢
  go_loopw [23] (fun i wr => ∃ (k : Nat) (out : List DSectorSpec) (A5 : Option Addr) (c5 : Nat), k ≤ P ∧ i = .int .i64 k ∧ out.length ≤ k ∧ BX wr w.heap.size 26 [.int .i64 c, .int .i64 h, .int .i64 (P : Int), .int .i64 s, .slice (some ⟨b, off, none⟩) l.length cp] ∧ BX wr (w.heap.size + 1) 84 [.int .i64 0, .int .i64 0, .slice none 0 0] ∧ BX wr G6 84 [.int .i64 2, .int .i64 4, .slice A5 out.length c5] ∧ OO wr (G6 + 1) 150 8 (.slice A5 out.length c5) out.length (flat fSectorSpec out) ∧ BB w wr ∧ Hid (out ++ tkS tq tm s k (ss.drop k) = R)) (fun i _ => P - (intOf i).toNat)
  case atStart => exact ⟨0, [], none, 0, Nat.zero_le _, rfl, Nat.zero_le _, F3, F6, F8, ho, hB0, Lib.hid HI0.out⟩
  case round =>
    clear F3 F6 F8 hB hB0 ho
    obtain ⟨k, out, A5, c5, hk, rfl, hol, F3, F6, F8, ho, hB, HI⟩ := hrel
    by_cases hlt : k < P
    · have hlti : (k : Int) < (P : Int) := by omega
      have hkl : k < ss.length := by rw [HLQ.out]; exact hlt
      obtain ⟨b2, off2, hb2e, hb2, hc⟩ := hRq.at_ fSector_len HLQ.out.symm k (by first | exact hkl | exact hlt)
      have a1 := hc 0 _ (by omega) rfl
      have a2 := hc 1 _ (by omega) rfl
      clear hc
      simp only [Option.some.injEq, Addr.mk.injEq, and_true] at hb2e
      obtain ⟨rfl, rfl⟩ := hb2e
      simp only [← Nat.add_assoc, Nat.add_zero] at a1 a2
      obtain ⟨dat, hdat⟩ : ∃ x, ss[k].f0 = x := ⟨_, rfl⟩
      obtain ⟨st, hst⟩ : ∃ x, ss[k].f1 = x := ⟨_, rfl⟩
      rw [hdat] at a1
      rw [hst] at a2
      replace a1 := (hB.cell (p := ⟨b, off + q * 2 + k * 2, none⟩) hb2).trans a1
      replace a2 := (hB.cell (p := ⟨b, off + q * 2 + k * 2 + 1, none⟩) hb2).trans a2
      have HT : ¬ st = 3 → Hid ((out ++ [⟨tq, tm, ((k + 1 : Nat) : Int), s, dat, false, false, decide (st = 2)⟩]) ++ tkS tq tm s (k + 1) (ss.drop (k + 1)) = R) := fun hne => Lib.hid (tkS_take hkl (by rw [hst]; exact hne) hdat (by rw [hst]) HI.out)
      have HS : st = 3 → Hid (out ++ tkS tq tm s (k + 1) (ss.drop (k + 1)) = R) := fun he => Lib.hid (tkS_skip hkl (by rw [hst]; exact he) HI.out)
      clear hdat hst
      have FS := BX.made wr 39 [.string dat, .int .i64 st]
      have hneS : (Value.slice A5 out.length c5).ownBlock ≠ some wr.heap.size := OO.ne_box ho
      have hGS : G6 < wr.heap.size := F8.lt
      replace F3 := F3.al (.cells #[.string dat, .int .i64 st] 39)
      replace F6 := F6.al (.cells #[.string dat, .int .i64 st] 39)
      replace F8 := F8.al (.cells #[.string dat, .int .i64 st] 39)
      replace hB : BB w _ := BB.al hB (.cells #[.string dat, .int .i64 st] 39)
      replace ho : OO _ _ _ _ _ _ _ := OO.al ho (.cells #[.string dat, .int .i64 st] 39)
      go_upto_region 9 with fail
      clear a1 a2
      generalize wr.heap.size = GS at FS hneS hGS ⊢
      generalize (wr.alloc (.cells #[.string dat, .int .i64 st] 39)) = w9 at *
      have f0 : (_ : Option Value) = some (.string dat) := FS.cell 0 (by simp)
      have f1 : (_ : Option Value) = some (.int .i64 st) := FS.cell 1 (by simp)
      have hwk : IntKind.i64.wrap ((k : Int) + 1) = ((k + 1 : Nat) : Int) := by rw [IntWalk.i64_in _ (by omega)]; rfl
      by_cases hst3 : st = 3
      · have HN := HS hst3
        subst hst3
        clear HT HS
        go_wp2
        go_roundw
        case rel => exact ⟨k + 1, out, A5, c5, by omega, by go_num, by omega, F3, F6, F8, ho, hB, HN⟩
        case measure => (simp [intOf] <;> omega)
      have HN := HT hst3
      clear HT HS
      have hst3b : (st == 3) = false := by simp [hst3]
      obtain ⟨sb, hsb⟩ : ∃ x, decide (st = 2) = x := ⟨_, rfl⟩
      rw [hsb] at HN
      have hsb2 : (st == 2) = sb := by rw [← hsb]; rfl
      have htq := HQ.out
      have htm := HM.out
      have hwq := HQ1.out
      have hwm := HM1.out
      have hby : 56 ≤ 1000 := by decide
      have hbig : out.length ≤ 100000000 := by omega
      have hbs : G6 + 1 ≤ w9.heap.size := F8.lt
      have HCS := Lib.hid (show (#[.int .i64 tq, .int .i64 tm, .int .i64 ((k + 1 : Nat) : Int), .int .i64 s, .string dat, .bool false, .bool false, .bool sb] : Array Value).toList = fSectorSpec (⟨tq, tm, ((k + 1 : Nat) : Int), s, dat, false, false, sb⟩ : DSectorSpec) from rfl)
      have HLN := Lib.hid (show (out ++ [(⟨tq, tm, ((k + 1 : Nat) : Int), s, dat, false, false, sb⟩ : DSectorSpec)]).length = out.length + 1 by rw [List.length_append]; rfl)
      have hoD : World.ownsRow w9.drew (G6 + 1) 150 8 (.slice A5 out.length c5) out.length (flat fSectorSpec out) := OO.dr ho
      have hbsD : G6 + 1 ≤ w9.drew.heap.size := hbs
      have h12 : G6 < G6 + 1 := by omega
      have h02 : w.heap.size < G6 + 1 := by omega
      have h06 : w.heap.size + 1 < G6 + 1 := by omega
      have h61 : w.heap.size + 1 ≠ G6 := by omega
      have h31 : w.heap.size ≠ G6 := by omega
      have h22 : w.heap.size ≤ G6 + 1 := by omega
      have h21 : w.heap.size ≤ G6 := by omega
      have hg1 : G6 ≠ w.heap.size := by omega
      have hGS1 : G6 ≠ GS := by omega
      have e2 : (_ : Option Value) = some (.slice A5 out.length c5) := F8.cell 2 (by simp)
      have e2o := fun (o : Obj) => (show (_ : Option Value) = some (.slice A5 out.length c5) from (F8.al o).cell 2 (by simp))
      have d1 : (_ : Option Value) = some (.int .i64 h) := F3.cell 1 (by simp)
      have d3 : (_ : Option Value) = some (.int .i64 s) := F3.cell 3 (by simp)
      go_wp2_with fail
      refine wp_region_held_drew (S := (fun W => W.cell? ⟨w.heap.size, 1, none⟩ = some (.int .i64 h) ∧ W.cell? ⟨w.heap.size, 3, none⟩ = some (.int .i64 s) ∧ W.cell? ⟨GS, 0, none⟩ = some (.string dat) ∧ W.cell? ⟨GS, 1, none⟩ = some (.int .i64 st))) (by kernel_rfl) ?hS1 (fun hHeld => ?rest2)
      case hS1 => (exact ⟨d1, d3, f0, f1⟩)
      refine wpAnyH_take (i := 0) (oi := _) (v := ?v3) rfl (by kernel_rfl) (by kernel_rfl) (by kernel_rfl) (fun _ _ _ h => h) (Or.inl ⟨by rfl, ?hy4⟩) hHeld ?rest5
      case hy4 => (intro w hSw; (try dsimp only at hSw); go_simp; (try with_reducible rfl))
      try simp only [Act.put, List.setIfInBounds_toArray, List.set_cons_zero, List.set_cons_succ]
      refine wpAnyH_take (i := 2) (oi := _) (v := ?v6) rfl (by kernel_rfl) (by kernel_rfl) (by kernel_rfl) (fun _ _ _ h => h) (Or.inl ⟨by rfl, ?hy7⟩) hHeld ?rest8
      case hy7 => (intro w hSw; (try dsimp only at hSw); go_simp; (try with_reducible rfl))
      try simp only [Act.put, List.setIfInBounds_toArray, List.set_cons_zero, List.set_cons_succ]
      refine wpAnyH_take (i := 3) (oi := _) (v := ?v9) rfl (by kernel_rfl) (by kernel_rfl) (by kernel_rfl) (fun _ _ _ h => h) (Or.inl ⟨by rfl, ?hy10⟩) hHeld ?rest11
      case hy10 => (intro w hSw; (try dsimp only at hSw); go_simp; (try with_reducible rfl))
      try simp only [Act.put, List.setIfInBounds_toArray, List.set_cons_zero, List.set_cons_succ]
      refine wpAnyH_take (i := 4) (oi := _) (v := ?v12) rfl (by kernel_rfl) (by kernel_rfl) (by kernel_rfl) (fun _ _ _ h => h) (Or.inl ⟨by rfl, ?hy13⟩) hHeld ?rest14
      case hy13 => (intro w hSw; (try dsimp only at hSw); go_simp; (try with_reducible rfl))
      try simp only [Act.put, List.setIfInBounds_toArray, List.set_cons_zero, List.set_cons_succ]
      refine wpAnyH_take (i := 5) (oi := _) (v := ?v15) rfl (by kernel_rfl) (by kernel_rfl) (by kernel_rfl) (fun _ _ _ h => h) (Or.inl ⟨by rfl, ?hy16⟩) hHeld ?rest17
      case hy16 => (intro w hSw; (try dsimp only at hSw); go_simp; (try with_reducible rfl))
      try simp only [Act.put, List.setIfInBounds_toArray, List.set_cons_zero, List.set_cons_succ]
      refine wpAnyH_take (i := 6) (oi := _) (v := ?v18) rfl (by kernel_rfl) (by kernel_rfl) (by kernel_rfl) (fun _ _ _ h => h) (Or.inl ⟨by rfl, ?hy19⟩) hHeld ?rest20
      case hy19 => (intro w hSw; (try dsimp only at hSw); go_simp; (try with_reducible rfl))
      try simp only [Act.put, List.setIfInBounds_toArray, List.set_cons_zero, List.set_cons_succ]
      refine wpAnyH_take (i := 7) (oi := _) (v := ?v21) rfl (by kernel_rfl) (by kernel_rfl) (by kernel_rfl) (fun _ _ _ h => h) (Or.inl ⟨by rfl, ?hy22⟩) hHeld ?rest23
      case hy22 => (intro w hSw; (try dsimp only at hSw); go_simp; (try with_reducible rfl))
      try simp only [Act.put, List.setIfInBounds_toArray, List.set_cons_zero, List.set_cons_succ]
      refine wpAnyH_take (i := 8) (oi := _) (v := ?v24) rfl (by kernel_rfl) (by kernel_rfl) (by kernel_rfl) (fun _ _ _ h => h) (Or.inl ⟨by rfl, ?hy25⟩) hHeld ?rest26
      case hy25 => (intro w hSw; (try dsimp only at hSw); go_simp; (try with_reducible rfl))
      try simp only [Act.put, List.setIfInBounds_toArray, List.set_cons_zero, List.set_cons_succ]
      refine wpAnyH_take (i := 9) (oi := _) (v := ?v27) rfl (by kernel_rfl) (by kernel_rfl) (by kernel_rfl) (fun _ _ _ h => h) (Or.inl ⟨by rfl, ?hy28⟩) hHeld ?rest29
      case hy28 => (intro w hSw; (try dsimp only at hSw); go_simp; (try with_reducible rfl))
      try simp only [Act.put, List.setIfInBounds_toArray, List.set_cons_zero, List.set_cons_succ]
      refine wpAnyH_take (i := 10) (oi := _) (v := ?v30) rfl (by kernel_rfl) (by kernel_rfl) (by kernel_rfl) (fun _ _ _ h => h) (Or.inl ⟨by rfl, ?hy31⟩) hHeld ?rest32
      case hy31 => (intro w hSw; (try dsimp only at hSw); go_simp; (try with_reducible rfl))
      try simp only [Act.put, List.setIfInBounds_toArray, List.set_cons_zero, List.set_cons_succ]
      refine wpAnyH_take (i := 11) (oi := _) (v := ?v33) rfl (by kernel_rfl) (by kernel_rfl) (by kernel_rfl) (fun _ _ _ h => h) (Or.inl ⟨by rfl, ?hy34⟩) hHeld ?rest35
      case hy34 => (intro w hSw; (try dsimp only at hSw); go_simp; (try with_reducible rfl))
      try simp only [Act.put, List.setIfInBounds_toArray, List.set_cons_zero, List.set_cons_succ]
      refine wpAnyH_take (i := 12) (oi := _) (v := ?v36) rfl (by kernel_rfl) (by kernel_rfl) (by kernel_rfl) (fun _ _ _ h => h) (Or.inl ⟨by rfl, ?hy37⟩) hHeld ?rest38
      case hy37 => (intro w hSw; (try dsimp only at hSw); go_simp; (try with_reducible rfl))
      try simp only [Act.put, List.setIfInBounds_toArray, List.set_cons_zero, List.set_cons_succ]
      refine wpAnyH_take (i := 13) (oi := _) (v := ?v39) rfl (by kernel_rfl) (by kernel_rfl) (by kernel_rfl) (fun _ _ _ h => h) (Or.inl ⟨by rfl, ?hy40⟩) hHeld ?rest41
      case hy40 => (intro w hSw; (try dsimp only at hSw); go_simp; (try with_reducible rfl))
      try simp only [Act.put, List.setIfInBounds_toArray, List.set_cons_zero, List.set_cons_succ]
      refine wpAnyH_take (i := 14) (oi := _) (v := ?v42) rfl (by kernel_rfl) (by kernel_rfl) (by kernel_rfl) (fun _ _ _ h => h) (Or.inl ⟨by rfl, ?hy43⟩) hHeld ?rest44
      case hy43 => (intro w hSw; (try dsimp only at hSw); go_simp; (try with_reducible rfl))
      try simp only [Act.put, List.setIfInBounds_toArray, List.set_cons_zero, List.set_cons_succ]
      refine wpAnyH_take (i := 15) (oi := _) (v := ?v45) rfl (by kernel_rfl) (by kernel_rfl) (by kernel_rfl) (fun _ _ _ h => h) (Or.inl ⟨by rfl, ?hy46⟩) hHeld ?rest47
      case hy46 => (intro w hSw; (try dsimp only at hSw); go_simp; (try with_reducible rfl))
      try simp only [Act.put, List.setIfInBounds_toArray, List.set_cons_zero, List.set_cons_succ]
      refine wpAnyH_take (i := 16) (oi := _) (v := ?v48) rfl (by kernel_rfl) (by kernel_rfl) (by kernel_rfl) (fun _ _ _ h => h) (Or.inl ⟨by rfl, ?hy49⟩) hHeld ?rest50
      case hy49 => (intro w hSw; (try dsimp only at hSw); go_simp; (try with_reducible rfl))
      try simp only [Act.put, List.setIfInBounds_toArray, List.set_cons_zero, List.set_cons_succ]
      refine wpAnyH_take (i := 17) (oi := _) (v := ?v51) rfl (by kernel_rfl) (by kernel_rfl) (by kernel_rfl) (fun _ _ _ h => h) (Or.inl ⟨by rfl, ?hy52⟩) hHeld ?rest53
      case hy52 => (intro w hSw; (try dsimp only at hSw); go_simp; (try with_reducible rfl))
      try simp only [Act.put, List.setIfInBounds_toArray, List.set_cons_zero, List.set_cons_succ]
      refine wpAnyH_take (i := 18) (oi := _) (v := ?v54) rfl (by kernel_rfl) (by kernel_rfl) (by kernel_rfl) (fun _ _ _ h => h) (Or.inl ⟨by rfl, ?hy55⟩) hHeld ?rest56
      case hy55 => (intro w hSw; (try dsimp only at hSw); go_simp; (try with_reducible rfl))
      try simp only [Act.put, List.setIfInBounds_toArray, List.set_cons_zero, List.set_cons_succ]
      refine wpAnyH_take (i := 19) (oi := _) (v := ?v57) rfl (by kernel_rfl) (by kernel_rfl) (by kernel_rfl) (fun _ _ _ h => h) (Or.inl ⟨by rfl, ?hy58⟩) hHeld ?rest59
      case hy58 => (intro w hSw; (try dsimp only at hSw); go_simp; (try with_reducible rfl))
      try simp only [Act.put, List.setIfInBounds_toArray, List.set_cons_zero, List.set_cons_succ]
      refine wpAnyH_ready (rs := [1, 20]) (by kernel_rfl) (by simp) ?_
      refine AllReadyH.cons (o := _) rfl (fun K hK => ?stp92) ?more93
      case stp92 =>
        go_simp
        refine hK.out _ _ ?hS94 (fun hHeld2 => ?rest95)
        case hS94 => (exact hHeld)
        clear hK K hHeld
        have hHeld := hHeld2
        clear hHeld2
        try simp only [Act.put, List.setIfInBounds_toArray, List.set_cons_zero, List.set_cons_succ]
        refine wpAnyH_ready (rs := [20]) (by kernel_rfl) (by simp) ?_
        refine AllReadyH.cons (o := _) rfl (fun K hK => ?stp72) ?more73
        case stp72 =>
          go_simp
          refine hK.out _ _ ?hS74 (fun hHeld2 => ?rest75)
          case hS74 => (exact ⟨(F3.al _).cell 1 (by simp), (F3.al _).cell 3 (by simp), (FS.al _).cell 0 (by simp), (FS.al _).cell 1 (by simp)⟩)
          clear hK K hHeld
          have hHeld := hHeld2
          clear hHeld2
          try simp only [Act.put, List.setIfInBounds_toArray, List.set_cons_zero, List.set_cons_succ]
          refine wpAnyH_ready (rs := [21]) (by kernel_rfl) (by simp) ?_
          refine AllReadyH.cons (o := _) rfl (fun K hK => ?stp68) ?more69
          case stp68 =>
            refine step_appG (w := w9.drew) (f := fSectorSpec) rfl (.tmp 32) (.tmp 51) 82 rfl eltSectorSpec hby (.slice A5 out.length c5) out out.length rfl rfl hoD #[.int .i64 tq, .int .i64 tm, .int .i64 ((k + 1 : Nat) : Int), .int .i64 s, .string dat, .bool false, .bool false, .bool sb] 150 (⟨tq, tm, ((k + 1 : Nat) : Int), s, dat, false, false, sb⟩ : DSectorSpec) 1 rfl rfl rfl (oneSectorSpec _) hbig hbsD ?_
            intro v7 w7 R7 hg7 hat7 hbl7
            obtain ⟨A7, c7, rfl⟩ := own_form R7
            rw [HLN.out] at R7 hat7
            have F17 := (BX.dr0 F8).below hbl7 h12
            have FS7 := ((BX.dr0 FS).al (.cells #[.int .i64 tq, .int .i64 tm, .int .i64 ((k + 1 : Nat) : Int), .int .i64 s, .string dat, .bool false, .bool false, .bool sb] 150)).grown hg7 hneS
            have e7 : (_ : Option Value) = some (.slice A5 out.length c5) := F17.cell 2 (by simp)
            have hfz7 := fun j => F17.free j
            have D7 := ((BX.dr0 F3).below hbl7 h02)
            refine hK.out _ _ ?hS70 (fun hHeld2 => ?rest71)
            case hS70 => (exact ⟨D7.cell 1 (by simp), D7.cell 3 (by simp), FS7.cell 0 (by simp), FS7.cell 1 (by simp)⟩)
            clear hK K hHeld
            have hHeld := hHeld2
            clear hHeld2
            try simp only [Act.put, List.setIfInBounds_toArray, List.set_cons_zero, List.set_cons_succ]
            refine wpAnyH_ready (rs := [22]) (by kernel_rfl) (by simp) ?_
            refine AllReadyH.cons (o := _) rfl (fun K hK => ?stp64) ?more65
            case stp64 =>
              go_simp
              refine hK.out _ _ ?hS66 (fun hHeld2 => ?rest67)
              case hS66 => (exact hHeld)
              clear hK K hHeld
              have hHeld := hHeld2
              clear hHeld2
              try simp only [Act.put, List.setIfInBounds_toArray, List.set_cons_zero, List.set_cons_succ]
              refine wpAnyH_ready (rs := [23]) (by kernel_rfl) (by simp) ?_
              refine AllReadyH.cons (o := _) rfl (fun K hK => ?stp60) ?more61
              case stp60 =>
                go_simp
                refine hK.out _ _ ?hS62 (fun hHeld2 => ?rest63)
                case hS62 => (exact ⟨(World.cell?_setCell_far _ _ _ _ hg1).trans hHeld.1, (World.cell?_setCell_far _ _ _ _ hg1).trans hHeld.2.1, (World.cell?_setCell_far _ _ _ _ hGS1).trans hHeld.2.2.1, (World.cell?_setCell_far _ _ _ _ hGS1).trans hHeld.2.2.2⟩)
                clear hK K hHeld
                have hHeld := hHeld2
                clear hHeld2
                try simp only [Act.put, List.setIfInBounds_toArray, List.set_cons_zero, List.set_cons_succ]
                refine wpAnyH_done (by kernel_rfl) ?_ _
                have F19 := F17.put 2 (.slice A7 (out.length + 1) c7)
                have F09 := ((BX.dr0 F6).below hbl7 h06).far (a := ⟨G6, 2, none⟩) h61 (.slice A7 (out.length + 1) c7)
                have F39 := D7.far (a := ⟨G6, 2, none⟩) h31 (.slice A7 (out.length + 1) c7)
                have R9 := OO.put (a := ⟨G6, 2, none⟩) R7 h12 (.slice A7 (out.length + 1) c7)
                have hB9 : BB w _ := Below.setCell (Below.trans (Below.drew hB) (hbl7.mono h22)) (p := ⟨G6, 2, none⟩) h21 (.slice A7 (out.length + 1) c7)
                go_wp2
                go_roundw
                case rel => exact ⟨k + 1, out ++ [(⟨tq, tm, ((k + 1 : Nat) : Int), s, dat, false, false, sb⟩ : DSectorSpec)], A7, c7, by omega, by go_num, by rw [HLN.out]; omega, F39, F09, by rw [HLN.out]; exact F19, by rw [HLN.out]; exact R9, hB9, HN⟩
                case measure => (simp [intOf] <;> omega)
              exact AllReadyH.nil
            exact AllReadyH.nil
          exact AllReadyH.nil
        exact AllReadyH.nil
      refine AllReadyH.cons (o := _) rfl (fun K hK => ?stp96) ?more97
      case stp96 =>
        go_simp
        refine hK.out _ _ ?hS98 (fun hHeld2 => ?rest99)
        case hS98 => (exact ⟨(F3.al _).cell 1 (by simp), (F3.al _).cell 3 (by simp), (FS.al _).cell 0 (by simp), (FS.al _).cell 1 (by simp)⟩)
        clear hK K hHeld
        have hHeld := hHeld2
        clear hHeld2
        try simp only [Act.put, List.setIfInBounds_toArray, List.set_cons_zero, List.set_cons_succ]
        refine wpAnyH_ready (rs := [1]) (by kernel_rfl) (by simp) ?_
        refine AllReadyH.cons (o := _) rfl (fun K hK => ?stp88) ?more89
        case stp88 =>
          go_simp
          refine hK.out _ _ ?hS90 (fun hHeld2 => ?rest91)
          case hS90 => (exact hHeld)
          clear hK K hHeld
          have hHeld := hHeld2
          clear hHeld2
          try simp only [Act.put, List.setIfInBounds_toArray, List.set_cons_zero, List.set_cons_succ]
          refine wpAnyH_ready (rs := [21]) (by kernel_rfl) (by simp) ?_
          refine AllReadyH.cons (o := _) rfl (fun K hK => ?stp84) ?more85
          case stp84 =>
            refine step_appG (w := w9.drew) (f := fSectorSpec) rfl (.tmp 32) (.tmp 51) 82 rfl eltSectorSpec hby (.slice A5 out.length c5) out out.length rfl rfl hoD #[.int .i64 tq, .int .i64 tm, .int .i64 ((k + 1 : Nat) : Int), .int .i64 s, .string dat, .bool false, .bool false, .bool sb] 150 (⟨tq, tm, ((k + 1 : Nat) : Int), s, dat, false, false, sb⟩ : DSectorSpec) 1 rfl rfl rfl (oneSectorSpec _) hbig hbsD ?_
            intro v7 w7 R7 hg7 hat7 hbl7
            obtain ⟨A7, c7, rfl⟩ := own_form R7
            rw [HLN.out] at R7 hat7
            have F17 := (BX.dr0 F8).below hbl7 h12
            have FS7 := ((BX.dr0 FS).al (.cells #[.int .i64 tq, .int .i64 tm, .int .i64 ((k + 1 : Nat) : Int), .int .i64 s, .string dat, .bool false, .bool false, .bool sb] 150)).grown hg7 hneS
            have e7 : (_ : Option Value) = some (.slice A5 out.length c5) := F17.cell 2 (by simp)
            have hfz7 := fun j => F17.free j
            have D7 := ((BX.dr0 F3).below hbl7 h02)
            refine hK.out _ _ ?hS86 (fun hHeld2 => ?rest87)
            case hS86 => (exact ⟨D7.cell 1 (by simp), D7.cell 3 (by simp), FS7.cell 0 (by simp), FS7.cell 1 (by simp)⟩)
            clear hK K hHeld
            have hHeld := hHeld2
            clear hHeld2
            try simp only [Act.put, List.setIfInBounds_toArray, List.set_cons_zero, List.set_cons_succ]
            refine wpAnyH_ready (rs := [22]) (by kernel_rfl) (by simp) ?_
            refine AllReadyH.cons (o := _) rfl (fun K hK => ?stp80) ?more81
            case stp80 =>
              go_simp
              refine hK.out _ _ ?hS82 (fun hHeld2 => ?rest83)
              case hS82 => (exact hHeld)
              clear hK K hHeld
              have hHeld := hHeld2
              clear hHeld2
              try simp only [Act.put, List.setIfInBounds_toArray, List.set_cons_zero, List.set_cons_succ]
              refine wpAnyH_ready (rs := [23]) (by kernel_rfl) (by simp) ?_
              refine AllReadyH.cons (o := _) rfl (fun K hK => ?stp76) ?more77
              case stp76 =>
                go_simp
                refine hK.out _ _ ?hS78 (fun hHeld2 => ?rest79)
                case hS78 => (exact ⟨(World.cell?_setCell_far _ _ _ _ hg1).trans hHeld.1, (World.cell?_setCell_far _ _ _ _ hg1).trans hHeld.2.1, (World.cell?_setCell_far _ _ _ _ hGS1).trans hHeld.2.2.1, (World.cell?_setCell_far _ _ _ _ hGS1).trans hHeld.2.2.2⟩)
                clear hK K hHeld
                have hHeld := hHeld2
                clear hHeld2
                try simp only [Act.put, List.setIfInBounds_toArray, List.set_cons_zero, List.set_cons_succ]
                refine wpAnyH_done (by kernel_rfl) ?_ _
                have F19 := F17.put 2 (.slice A7 (out.length + 1) c7)
                have F09 := ((BX.dr0 F6).below hbl7 h06).far (a := ⟨G6, 2, none⟩) h61 (.slice A7 (out.length + 1) c7)
                have F39 := D7.far (a := ⟨G6, 2, none⟩) h31 (.slice A7 (out.length + 1) c7)
                have R9 := OO.put (a := ⟨G6, 2, none⟩) R7 h12 (.slice A7 (out.length + 1) c7)
                have hB9 : BB w _ := Below.setCell (Below.trans (Below.drew hB) (hbl7.mono h22)) (p := ⟨G6, 2, none⟩) h21 (.slice A7 (out.length + 1) c7)
                go_wp2
                go_roundw
                case rel => exact ⟨k + 1, out ++ [(⟨tq, tm, ((k + 1 : Nat) : Int), s, dat, false, false, sb⟩ : DSectorSpec)], A7, c7, by omega, by go_num, by rw [HLN.out]; omega, F39, F09, by rw [HLN.out]; exact F19, by rw [HLN.out]; exact R9, hB9, HN⟩
                case measure => (simp [intOf] <;> omega)
              exact AllReadyH.nil
            exact AllReadyH.nil
          exact AllReadyH.nil
        exact AllReadyH.nil
      exact AllReadyH.nil
    · obtain rfl : k = P := by omega
      have HE := Lib.hid (tkS_end (by rw [HLQ.out]; exact Nat.le_refl _) HI.out)
      have z0 : (_ : Option Value) = some (.int .i64 0) := F6.cell 0 (by simp)
      have z1 : (_ : Option Value) = some (.int .i64 0) := F6.cell 1 (by simp)
      have z2 : (_ : Option Value) = some (.slice none 0 0) := F6.cell 2 (by simp)
      have o0 : (_ : Option Value) = some (.int .i64 2) := F8.cell 0 (by simp)
      have o1 : (_ : Option Value) = some (.int .i64 4) := F8.cell 1 (by simp)
      have o2 : (_ : Option Value) = some (.slice A5 out.length c5) := F8.cell 2 (by simp)
      have hfz := fun j => F6.free j
      go_wp2
      refine bodyPost_ret (v := .tuple #[.agg #[.int .i64 2, .int .i64 4, .slice A5 out.length c5], .int .i64 0]) (by simp [results, Try.results45, go_sem, World.cell?_setCell_other, z0, z1, z2]) rfl ⟨_, by rw [HR.out.1, HR.out.2]; rfl, ?_, Below.setCell (Below.setCell (Below.setCell (show Below w.heap.size w wr from hB) (Nat.le_succ _) _) (Nat.le_succ _) _) (Nat.le_succ _) _⟩
      rw [HR.out.1, HL.out, ← HE.out]
      have h06 : w.heap.size + 1 < G6 + 1 := by omega
      exact own_base (OO.put (OO.put (OO.put ho h06 _) h06 _) h06 _) (by omega)
end Go.Proofs.Yticnmljahnnhcaa
