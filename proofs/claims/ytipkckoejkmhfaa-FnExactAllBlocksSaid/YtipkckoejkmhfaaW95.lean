/- Walks: AllBlocks (impl). -/
import Derived.Test.YtipkckoejkmhfaaW94
import Derived.Test.YtipkckoejkmhfaaSString
import Derived.Test.YtipkckoejkmhfaaPut
import Derived.Deep.RegionHeld3
namespace Go.Proofs.Ytipkckoejkmhfaa
open Go.RowKit
set_option linter.unusedVariables false

set_option maxRecDepth 100000 in
set_option maxHeartbeats 4000000 in
theorem impl_AllBlocks_any (c h p s : Int) (A : Option Addr) (cp : Nat) (l : List DSector) (k r : Int) (N : Option Addr) (q : Nat) (m : List Int) (w : World) (hr : Rd w w.heap.size 2 A l.length (flat fSector l)) (hn : l.length ≤ 1048576) (hok : ∀ x ∈ l, okSector x) (kr : Rd w w.heap.size 1 N m.length (flat fI m)) (kn : m.length ≤ 1048576) (hqc : m.length ≤ q) :
    Calls Try.prog 28 #[.agg #[.int .i64 c, .int .i64 h, .int .i64 p, .int .i64 s, .slice A l.length cp, .int .i64 k, .int .i64 r, .slice N m.length q]] w fun e w' => ∃ (v5 v6 : Value), e = .returned (.tuple #[v5, v6, .int .i64 (abC (okV (okD c h p s l) l.length k r m))]) ∧ w'.ownsRow w.heap.size 9 1 v5 (abLL (okV (okD c h p s l) l.length k r m) l (szB s).toNat m).length (flat fS (abLL (okV (okD c h p s l) l.length k r m) l (szB s).toNat m)) ∧ w'.ownsRow w.heap.size 2 1 v6 (abDD (okV (okD c h p s l) l.length k r m) l m).length (flat fI (abDD (okV (okD c h p s l) l.length k r m) l m)) ∧ (v6.ownBlock = none ∨ v6.ownBlock ≠ v5.ownBlock) ∧ Below w.heap.size w w' := by
  have F3 := BX.made w 57 [.int .i64 c, .int .i64 h, .int .i64 p, .int .i64 s, .slice A l.length cp, .int .i64 k, .int .i64 r, .slice N m.length q]
  obtain ⟨wb, hwb⟩ : ∃ wb, wb = w.alloc (.cells #[.int .i64 c, .int .i64 h, .int .i64 p, .int .i64 s, .slice A l.length cp, .int .i64 k, .int .i64 r, .slice N m.length q] 57) := ⟨_, rfl⟩
  rw [← hwb] at F3
  have hb0 : Below w.heap.size w wb := by rw [hwb]; exact (by with_reducible repeat (first | exact Below.refl _ _ | assumption | refine below_step ?_ (by assumption) | refine Below.drew ?_ | refine below_drewN ?_ _ | refine below_alloc ?_ _ | refine Below.setCell ?_ (by simp; try omega) _))
  have hs0 : w.heap.size < wb.heap.size := F3.lt
  have hrb := (hr.below hb0).more hb0.size
  have krb := (kr.below hb0).more hb0.size
  have HW := Lib.hid hwb
  clear hwb
  have hq := impl_ValidDevice_any c h p s A cp l k r N q m wb hrb hn hok krb kn hqc
  have e0 : (_ : Option Value) = some (.int .i64 c) := F3.cell 0 (by simp)
  have e1 : (_ : Option Value) = some (.int .i64 h) := F3.cell 1 (by simp)
  have e2 : (_ : Option Value) = some (.int .i64 p) := F3.cell 2 (by simp)
  have e3 : (_ : Option Value) = some (.int .i64 s) := F3.cell 3 (by simp)
  have e4 : (_ : Option Value) = some (.slice A l.length cp) := F3.cell 4 (by simp)
  have e5 : (_ : Option Value) = some (.int .i64 k) := F3.cell 5 (by simp)
  have e6 : (_ : Option Value) = some (.int .i64 r) := F3.cell 6 (by simp)
  have e7 : (_ : Option Value) = some (.slice N m.length q) := F3.cell 7 (by simp)
  cases hv : (okV (okD c h p s l) l.length k r m)
  · rw [hv] at hq
    clear hv
    go_enter Try.func28, Try.ntmps28
    go_wp2_with ((go_at_call 51; rw [← HW.out]; refine hq.mono ?_; rintro e w2 ⟨rfl, hx⟩; clear e0 e1 e2 e3 e4 e5 e6 e7; replace F3 := F3.below hx F3.lt; have hB : BB w w2 := hb0.trans (hx.mono (by omega)); have e0 : (_ : Option Value) = some (.int .i64 c) := F3.cell 0 (by simp); have e1 : (_ : Option Value) = some (.int .i64 h) := F3.cell 1 (by simp); have e2 : (_ : Option Value) = some (.int .i64 p) := F3.cell 2 (by simp); have e3 : (_ : Option Value) = some (.int .i64 s) := F3.cell 3 (by simp); have e4 : (_ : Option Value) = some (.slice A l.length cp) := F3.cell 4 (by simp); have e5 : (_ : Option Value) = some (.int .i64 k) := F3.cell 5 (by simp); have e6 : (_ : Option Value) = some (.int .i64 r) := F3.cell 6 (by simp); have e7 : (_ : Option Value) = some (.slice N m.length q) := F3.cell 7 (by simp); have mk1 := True.intro))
    have hBw : Below w.heap.size w w2 := hB
    (try simp only [Exit.inBlock, Exit.then]); refine bodyPost_ret (results_tmp3 rfl _ _ _) rfl ?_
    exact ⟨_, _, rfl, World.ownsRow_nil _ _ _ _, World.ownsRow_nil _ _ _ _, .inl rfl, hBw⟩
  have hall := (okV_yes hv).2.2.2.2
  have hr1 := inB_yes (okV_yes hv).2.2.1
  have hml := (okV_yes hv).2.2.2.1
  obtain ⟨-, -, -, -, -, -, s1, s2⟩ := geoB_yes (okD_geo (okV_yes hv).1).1
  have hpos : 0 < l.length := by omega
  have hposm : 0 < m.length := by omega
  obtain ⟨nb, y1, y2, y3, y4⟩ := szB_nat s1 s2
  rw [hv] at hq
  rw [show abC true = 0 from rfl, show abLL true l (szB s).toNat m = abL l (szB s).toNat m from rfl, show abDD true l m = abD l 0 m from rfl, y4]
  clear hv hr1 hml
  have hmk := fun W => eltStr.make m.length (by omega) (by omega) W
  go_enter Try.func28, Try.ntmps28
  go_upto_region 4 with ((go_at_call 51; rw [← HW.out]; refine hq.mono ?_; rintro e w2 ⟨rfl, hx⟩; clear e0 e1 e2 e3 e4 e5 e6 e7; replace F3 := F3.below hx F3.lt; have hB : BB w w2 := hb0.trans (hx.mono (by omega)); have e0 : (_ : Option Value) = some (.int .i64 c) := F3.cell 0 (by simp); have e1 : (_ : Option Value) = some (.int .i64 h) := F3.cell 1 (by simp); have e2 : (_ : Option Value) = some (.int .i64 p) := F3.cell 2 (by simp); have e3 : (_ : Option Value) = some (.int .i64 s) := F3.cell 3 (by simp); have e4 : (_ : Option Value) = some (.slice A l.length cp) := F3.cell 4 (by simp); have e5 : (_ : Option Value) = some (.int .i64 k) := F3.cell 5 (by simp); have e6 : (_ : Option Value) = some (.int .i64 r) := F3.cell 6 (by simp); have e7 : (_ : Option Value) = some (.slice N m.length q) := F3.cell 7 (by simp); have mk1 := True.intro))
  clear hq HW hrb krb hb0
  clear e0 e1 e2 e3 e4 e5 e6 e7
  have hgw : w.heap.size < w2.heap.size := F3.lt
  have G1 := FillC.made w2 9 #[Value.string ByteArray.empty] m.length (flat fS (abL l nb m))
  replace F3 := BX.al F3 (.cells (madeCells #[Value.string ByteArray.empty] m.length) 9)
  replace hB := BB.al hB (.cells (madeCells #[Value.string ByteArray.empty] m.length) 9)
  generalize hG : w2.heap.size = G at G1 hgw ⊢
  generalize w2.alloc (.cells (madeCells #[Value.string ByteArray.empty] m.length) 9) = w3 at *
  clear hG
  have e7 : (_ : Option Value) = some (.slice N m.length q) := F3.cell 7 (by simp)
  go_wp2
  clear e7
  go_loopw [6, 7, 8, 20] (fun v6 _ _ i wr => ∃ (j : Nat) (o6 : List Int), j ≤ m.length ∧ i = .int .i64 j ∧ o6.length ≤ j ∧ Hid (o6 ++ abD l j (m.drop j) = abD l 0 m) ∧ FillC wr G 9 m.length (flat fS (abL l nb m)) j ∧ OO wr (G + 1) 2 1 v6 o6.length (flat fI o6) ∧ BX wr w.heap.size 57 [.int .i64 c, .int .i64 h, .int .i64 p, .int .i64 s, .slice A l.length cp, .int .i64 k, .int .i64 r, .slice N m.length q] ∧ BB w wr) (fun _ _ _ i _ => m.length - (intOf i).toNat)
  case atStart => exact ⟨0, [], Nat.zero_le _, rfl, Nat.zero_le _, Lib.hid rfl, G1, World.ownsRow_nil _ _ _ _, F3, hB⟩
  case round =>
    clear F3 hB G1
    obtain ⟨j, o6, hj, rfl, hl6, H6, G1, ho6, F3, hB⟩ := hrel
    by_cases hjl : j < m.length
    · have hji : (j : Int) < (m.length : Int) := by omega
      obtain ⟨x0, x1⟩ := hall m[j] (List.getElem_mem hjl)
      obtain ⟨X, hX⟩ : ∃ X : Nat, m[j] = (X : Int) := ⟨m[j].toNat, by omega⟩
      have hXl : X < l.length := by omega
      have hXi : (X : Int) < (l.length : Int) := by omega
      have hSE := abS_at hX hXl
      obtain ⟨dat, hdat⟩ : ∃ d, l[X].f0 = d := ⟨_, rfl⟩
      obtain ⟨st, hst⟩ : ∃ d, l[X].f1 = d := ⟨_, rfl⟩
      have hrd : rdB (abS l m[j]).f1 = rdB st := by rw [hSE, hst]
      have hav : abV l nb m[j] = if rdB st then dat else zerosB nb := by rw [abV, hSE, hst, hdat]
      obtain ⟨ba, offa, rfl, hba, hca⟩ := ((kr.below hB).more hB.size).at_ fI_len rfl j hjl
      have a0 := hca 0 _ (by omega) rfl
      obtain ⟨b2, off2, rfl, hb2, hcb⟩ := ((hr.below hB).more hB.size).at_ fSector_len rfl X hXl
      have a1 := hcb 0 _ (by omega) rfl
      have a2 := hcb 1 _ (by omega) rfl
      clear hca hcb
      simp only [Nat.mul_one, ← Nat.add_assoc, Nat.add_zero] at a0 a1 a2
      rw [hX] at a0
      rw [hdat] at a1
      rw [hst] at a2
      clear hSE hX hdat hst
      have a3 : (_ : Option Value) = some (.slice (some ⟨b2, off2, none⟩) l.length cp) := F3.cell 4 (by simp)
      obtain ⟨u, hu⟩ := (G1.al (.cells #[.string dat, .int .i64 st] 90)).some_ j hjl
      have hfz := (G1.al (.cells #[.string dat, .int .i64 st] 90)).free j
      have FS := BX.made wr 90 [.string dat, .int .i64 st]
      have f0 : (_ : Option Value) = some (.string dat) := FS.cell 0 (by simp)
      have ltG := G1.lt
      have nG : w.heap.size ≠ G := by omega
      have hwG : w.heap.size ≤ G := by omega
      go_upto_region 10 with fail
      clear hu hfz FS f0 a0 a1 a2 a3
      replace F3 := F3.far (a := ⟨G, j, none⟩) nG (.string dat)
      replace hB := BB.put (a := ⟨G, j, none⟩) hB hwG (.string dat)
      replace ho6 := OO.put (a := ⟨G, j, none⟩) ho6 (by simp) (.string dat)
      have FS : BX ((wr.setCell ⟨G, j, none⟩ (.string dat)).alloc (.cells #[.string dat, .int .i64 st] 90)) wr.heap.size 90 [.string dat, .int .i64 st] := by
        have := BX.made (wr.setCell ⟨G, j, none⟩ (.string dat)) 90 [.string dat, .int .i64 st]
        rwa [World.size_setCell] at this
      cases g : rdB st
      · rw [g] at hav hrd
        simp only [Bool.false_eq_true, if_false] at hav
        have H6N := Lib.hid (ab_6n hjl hrd H6.out)
        have HAT := Lib.hid (ab_at hjl hav)
        have G2 := G1.junk (.string dat)
        replace F3 := BX.al F3 (.cells #[.string dat, .int .i64 st] 90)
        replace ho6 := OO.al ho6 (.cells #[.string dat, .int .i64 st] 90)
        replace hB := BB.al hB (.cells #[.string dat, .int .i64 st] 90)
        replace G2 := G2.al (.cells #[.string dat, .int .i64 st] 90)
        generalize wr.heap.size = GS at FS ⊢
        generalize (wr.setCell ⟨G, j, none⟩ (.string dat)).alloc (.cells #[.string dat, .int .i64 st] 90) = w9 at *
        have f0 : (_ : Option Value) = some (.string dat) := FS.cell 0 (by simp)
        have f1 : (_ : Option Value) = some (.int .i64 st) := FS.cell 1 (by simp)
        clear hav hrd H6
        go_upto_region 12 with (first
              | (go_at_call 53; refine (zeros_any nb _ (by omega)).mono ?_; rintro e w11 ⟨rfl, hx11⟩; replace F3 := BX.below F3 hx11 F3.lt; replace ho6 := OO.next ho6 hx11; replace hB := BB.next hB hx11; replace G2 := G2.below hx11 G2.lt; obtain ⟨u, hu⟩ := G2.some_ j hjl; have hfz := G2.free j; have G3 := G2.put (.string (zerosB nb)) hjl HAT.out; clear e3; replace F3 := F3.far (a := ⟨G, j, none⟩) nG (.string (zerosB nb)); replace hB := BB.put (a := ⟨G, j, none⟩) hB hwG (.string (zerosB nb)); replace ho6 := OO.put (a := ⟨G, j, none⟩) ho6 (by simp) (.string (zerosB nb)); have lt3 := G3.lt; have mkz := True.intro)
              | (go_at_call 54; refine (sizeBytes_any s s1 s2 _).mono ?_; rintro e w10' ⟨rfl, rfl⟩; rw [y1])
              | (go_at_call 52; refine (isRead_any dat st _).mono ?_; rintro e w10 ⟨rfl, hx10⟩; rw [g]; clear f0 f1; replace F3 := BX.below F3 hx10 F3.lt; replace ho6 := OO.next ho6 hx10; replace hB := BB.next hB hx10; replace FS := FS.below hx10 FS.lt; replace G2 := G2.below hx10 G2.lt; have e3 : (_ : Option Value) = some (.int .i64 s) := F3.cell 3 (by simp); have mk2 := True.intro))
        clear hu hfz G2 FS
        generalize w11.setCell ⟨G, j, none⟩ (.string (zerosB nb)) = w12 at *
        go_wp2_with (at_builtin; go_must (refine wpList_appF (f := fI) rfl _ _ _ rfl eltI (by omega) _ o6 rfl (OOf ho6) _ _ _ _ rfl rfl rfl (by intro u hu; simp only [fI, List.mem_cons, List.not_mem_nil, or_false] at hu; subst hu; rfl) (by omega) lt3 ?_); intro v12 w12 hon2 hgn2 hatn2 hbln2; replace G3 := G3.below hbln2 (show G < G + 1 by omega); replace F3 := F3.below hbln2 (show w.heap.size < G + 1 by omega); replace hB : BB w _ := Below.trans hB (hbln2.mono (by omega)))
        go_roundw
        case rel => exact ⟨j + 1, _, by omega, by go_num, by rw [List.length_append, List.length_singleton]; omega, H6N, G3, hon2, F3, hB⟩
        case measure => (simp [intOf] <;> omega)
      · rw [g] at hav hrd
        simp only [if_true] at hav
        have H6N := Lib.hid (ab_6y hjl hrd H6.out)
        have G2 := G1.put (.string dat) hjl (ab_at hjl hav)
        replace F3 := BX.al F3 (.cells #[.string dat, .int .i64 st] 90)
        replace ho6 := OO.al ho6 (.cells #[.string dat, .int .i64 st] 90)
        replace hB := BB.al hB (.cells #[.string dat, .int .i64 st] 90)
        replace G2 := G2.al (.cells #[.string dat, .int .i64 st] 90)
        generalize wr.heap.size = GS at FS ⊢
        generalize (wr.setCell ⟨G, j, none⟩ (.string dat)).alloc (.cells #[.string dat, .int .i64 st] 90) = w9 at *
        have f0 : (_ : Option Value) = some (.string dat) := FS.cell 0 (by simp)
        have f1 : (_ : Option Value) = some (.int .i64 st) := FS.cell 1 (by simp)
        clear hav hrd H6
        go_wp2_with (go_at_call 52; refine (isRead_any dat st _).mono ?_; rintro e w10 ⟨rfl, hx10⟩; rw [g]; clear f0 f1; replace F3 := BX.below F3 hx10 F3.lt; replace ho6 := OO.next ho6 hx10; replace hB := BB.next hB hx10; replace FS := FS.below hx10 FS.lt; replace G2 := G2.below hx10 G2.lt; have e3 : (_ : Option Value) = some (.int .i64 s) := F3.cell 3 (by simp); have mk2 := True.intro)
        go_roundw
        case rel => exact ⟨j + 1, _, by omega, by go_num, by omega, H6N, G2, ho6, F3, hB⟩
        case measure => (simp [intOf] <;> omega)
    have hjn : ¬ (j : Int) < (m.length : Int) := by omega
    have E6 := Lib.hid (ab_6e hjl H6.out)
    obtain rfl : j = m.length := by omega
    have hal : (abL l nb m).length = m.length := by simp [abL]
    have hown := G1.own (base := G) (size := 1) (n := m.length) (by omega) (by rw [flat_length fS 1 fS_len, hal, Nat.mul_one]) (Nat.le_refl _) (by simp only [maxLen]; omega)
    have hne : (u6.ownBlock = none ∨ u6.ownBlock ≠ (Value.slice (some ⟨G, 0, none⟩) m.length m.length).ownBlock) := by
      rcases hv6 : u6.ownBlock with _ | q
      · exact .inl rfl
      · right
        intro e
        have h1 := (World.ownsRow.lt ho6 q hv6).1
        have h2 : q = G := by injection e
        omega
    go_wp2
    (try simp only [Exit.inBlock, Exit.then]); refine bodyPost_ret (results_tmp3 rfl _ _ _) rfl ?_
    refine ⟨_, _, rfl, ?_, ?_, hne, hB⟩
    · first | exact own_base (base' := w.heap.size) hown (by omega) | (rw [hal]; exact own_base (base' := w.heap.size) hown (by omega))
    · rw [E6.out]; exact own_base (base' := w.heap.size) ho6 (by omega)
end Go.Proofs.Ytipkckoejkmhfaa
