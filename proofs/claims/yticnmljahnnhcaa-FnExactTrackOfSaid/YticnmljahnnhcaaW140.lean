/- Walks: the description of a track (spec). -/
import Derived.Test.YticnmljahnnhcaaTkM
import Derived.Test.YticnmljahnnhcaaW1
import Derived.Test.YticnmljahnnhcaaW61
import Derived.Test.YticnmljahnnhcaaW120
import Derived.Deep.RegionHeld3
namespace Go.Proofs.Yticnmljahnnhcaa
open Go.RowKit
set_option linter.unusedVariables false

theorem BX.dr0 {w : World} {g : Nat} {t : TypeId} {vs : List Value} (h : BX w g t vs) : BX w.drew g t vs := h
set_option maxRecDepth 100000 in
set_option maxHeartbeats 4000000 in
set_option linter.unusedSimpArgs false in
theorem l12Track_any (g : Nat) (c h s : Int) (P t : Nat) (A : Option Addr) (cp : Nat) (l : List DSector) (w : World) (hd : DP w g c h (P : Int) s (.slice A l.length cp)) (hr : Rd w w.heap.size 2 A l.length (flat fSector l)) (ht : t * P + P ≤ l.length) (hn : l.length ≤ 128) (hP : P ≤ 8) (hh1 : 1 ≤ h) (hh2 : h ≤ 2) (ht8 : t ≤ 128) :
    Calls Try.prog 95 #[.pointer (some ⟨g, 0, none⟩), .int .i64 (t : Int)] w fun e w' => ∃ v, e = .returned (.agg #[.int .i64 2, .int .i64 4, v]) ∧ w'.ownsRow w.heap.size 150 8 v (tkS ((t : Int).tdiv h) ((t : Int).tmod h) s 0 (tkQ l (t * P) P)).length (flat fSectorSpec (tkS ((t : Int).tdiv h) ((t : Int).tmod h) s 0 (tkQ l (t * P) P))) ∧ Below w.heap.size w w' := by
  obtain ⟨q, hq⟩ : ∃ q, t * P = q := ⟨_, rfl⟩
  have hg := hd.lt
  rw [hq] at ht ⊢
  have hqb : q ≤ 128 := by omega
  have hw1 : IntKind.i64.wrap ((t : Int) * (P : Int)) = (q : Int) := by rw [← hq, ← Int.natCast_mul]; exact IntWalk.i64_in _ (by omega)
  have hw1b : wrap64 ((t : Int) * (P : Int)) = (q : Int) := by rw [← hq, ← Int.natCast_mul]; exact IntWalk.wrap64_in _ (by omega)
  clear hq
  have hp0 : ¬ h = 0 := by omega
  have hp01 : (h == 0) = false := by simp; omega
  obtain ⟨tq, htq⟩ : ∃ x, (t : Int).tdiv h = x := ⟨_, rfl⟩
  obtain ⟨tm, htm⟩ : ∃ x, (t : Int).tmod h = x := ⟨_, rfl⟩
  have bq : 0 ≤ tq ∧ tq ≤ 128 := by
    have : h = 1 ∨ h = 2 := by omega
    rcases this with rfl | rfl <;> (rw [← htq, Int.tdiv_eq_ediv_of_nonneg (by omega)]; omega)
  have bm : 0 ≤ tm ∧ tm ≤ 128 := by
    have : h = 1 ∨ h = 2 := by omega
    rcases this with rfl | rfl <;> (rw [← htm, Int.tmod_eq_emod_of_nonneg (by omega)]; omega)
  have hwq : IntKind.i64.wrap tq = tq := IntWalk.i64_in _ (by omega)
  have hwm : IntKind.i64.wrap tm = tm := IntWalk.i64_in _ (by omega)
  have HQ1 := Lib.hid hwq
  have HM1 := Lib.hid hwm
  have HQ := Lib.hid htq
  have HM := Lib.hid htm
  rw [htq, htm]
  clear htq htm hwq hwm
  obtain ⟨R, hR⟩ : ∃ R, tkS tq tm s 0 (tkQ l q P) = R := ⟨_, rfl⟩
  rw [hR]
  have HI0 := Lib.hid hR
  clear hR
  have HL := Lib.hid (tkQ_len ht)
  have F0 := (BX.made w 84 [.int .i64 0, .int .i64 0, .slice none 0 0]).al (.cells #[.int .i64 2, .int .i64 4, .slice none 0 0] 84)
  have F1 := BX.made1 w (.cells #[.int .i64 0, .int .i64 0, .slice none 0 0] 84) 84 [.int .i64 2, .int .i64 4, .slice none 0 0]
  have hB : BB w ((w.alloc (.cells #[.int .i64 0, .int .i64 0, .slice none 0 0] 84)).alloc (.cells #[.int .i64 2, .int .i64 4, .slice none 0 0] 84)) := (show Below w.heap.size w _ from (by with_reducible repeat (first | exact Below.refl _ _ | assumption | refine below_step ?_ (by assumption) | refine Below.drew ?_ | refine below_drewN ?_ _ | refine below_alloc ?_ _ | refine Below.setCell ?_ (by simp; try omega) _)))
  have ho : World.ownsRow ((w.alloc (.cells #[.int .i64 0, .int .i64 0, .slice none 0 0] 84)).alloc (.cells #[.int .i64 2, .int .i64 4, .slice none 0 0] 84)) (w.heap.size + 2) 150 8 (.slice none 0 0) 0 (flat fSectorSpec []) := World.ownsRow_nil _ _ _ _
  go_enter Try.func95, Try.ntmps95
  go_wp2
  generalize ((w.alloc (.cells #[.int .i64 0, .int .i64 0, .slice none 0 0] 84)).alloc (.cells #[.int .i64 2, .int .i64 4, .slice none 0 0] 84)) = w2 at F0 F1 hB ho ⊢
  go_loopw [6] (fun i wr => ∃ (k : Nat) (out : List DSectorSpec) (A5 : Option Addr) (c5 : Nat), k ≤ P ∧ i = .int .i64 k ∧ out.length ≤ k ∧ BX wr w.heap.size 84 [.int .i64 0, .int .i64 0, .slice none 0 0] ∧ BX wr (w.heap.size + 1) 84 [.int .i64 2, .int .i64 4, .slice A5 out.length c5] ∧ OO wr (w.heap.size + 2) 150 8 (.slice A5 out.length c5) out.length (flat fSectorSpec out) ∧ BB w wr ∧ Hid (out ++ tkS tq tm s k ((tkQ l q P).drop k) = R)) (fun i _ => P - (intOf i).toNat)
  case atStart => exact ⟨0, [], none, 0, Nat.zero_le _, rfl, Nat.zero_le _, F0, F1, ho, hB, Lib.hid HI0.out⟩
  case round =>
    clear F0 F1 hB ho
    obtain ⟨k, out, A5, c5, hk, rfl, hol, F0, F1, ho, hB, HI⟩ := hrel
    have D := hd.next hB
    by_cases hlt : k < P
    · have hlti : (k : Int) < (P : Int) := by omega
      have hkl : k < (tkQ l q P).length := by rw [HL.out]; exact hlt
      obtain ⟨j, hj⟩ : ∃ j, q + k = j := ⟨_, rfl⟩
      have hjl : j < l.length := by omega
      have hjli : (j : Int) < (l.length : Int) := by omega
      have hw2 : IntKind.i64.wrap ((q : Int) + (k : Int)) = (j : Int) := by rw [show (q : Int) + (k : Int) = ((q + k : Nat) : Int) by omega, hj]; exact IntWalk.i64_in _ (by omega)
      have hgk : (tkQ l q P)[k] = l[j] := by subst hj; exact tkQ_get hkl hjl
      obtain ⟨b2, off2, rfl, hb2, hc⟩ := hr.at_ fSector_len rfl j hjl
      have a1 := hc 0 _ (by omega) rfl
      have a2 := hc 1 _ (by omega) rfl
      clear hc
      simp only [← Nat.add_assoc, Nat.add_zero] at a1 a2
      obtain ⟨dat, hdat⟩ : ∃ x, l[j].f0 = x := ⟨_, rfl⟩
      obtain ⟨st, hst⟩ : ∃ x, l[j].f1 = x := ⟨_, rfl⟩
      rw [hdat] at a1
      rw [hst] at a2
      rw [← hgk] at hdat hst
      replace a1 := (hB.cell (p := ⟨b2, off2 + j * 2, none⟩) hb2).trans a1
      replace a2 := (hB.cell (p := ⟨b2, off2 + j * 2 + 1, none⟩) hb2).trans a2
      obtain ⟨-, -, a0, -, a3⟩ := id D
      have HT : ¬ st = 3 → Hid ((out ++ [⟨tq, tm, ((k + 1 : Nat) : Int), s, dat, false, false, decide (st = 2)⟩]) ++ tkS tq tm s (k + 1) ((tkQ l q P).drop (k + 1)) = R) := fun hne => Lib.hid (tkS_take hkl (by rw [hst]; exact hne) hdat (by rw [hst]) HI.out)
      have HS : st = 3 → Hid (out ++ tkS tq tm s (k + 1) ((tkQ l q P).drop (k + 1)) = R) := fun he => Lib.hid (tkS_skip hkl (by rw [hst]; exact he) HI.out)
      clear hgk hj hdat hst
      have n0 := World.new_ne wr _ a0
      have n1 := World.new_ne wr _ a1
      have n2 := World.new_ne wr _ a2
      have n3 := World.new_ne wr _ a3
      go_wp2_with fail
      go_region_held3 (fun W => W.cell? ⟨g, 2, none⟩ = some (.int .i64 (P : Int)) ∧ W.cell? ⟨b2, off2 + j * 2, none⟩ = some (.string dat) ∧ W.cell? ⟨b2, off2 + j * 2 + 1, none⟩ = some (.int .i64 st) ∧ W.cell? ⟨g, 4, none⟩ = some (.slice (some ⟨b2, off2, none⟩) l.length cp)) (go_keep) (fail)
      go_upto_region 6 with fail
      clear n0 n1 n2 n3 a0 a1 a2 a3
      have hgs2 : w.heap.size + 1 < wr.heap.size := F1.lt
      have hneS : (Value.slice A5 out.length c5).ownBlock ≠ some wr.heap.size := OO.ne_box ho
      have FS : BX (wr.alloc (.cells #[.string dat, .int .i64 st] 39)).drew wr.heap.size 39 [.string dat, .int .i64 st] := BX.made wr 39 [.string dat, .int .i64 st]
      replace F0 := BX.dr0 (F0.al (.cells #[.string dat, .int .i64 st] 39))
      replace F1 := BX.dr0 (F1.al (.cells #[.string dat, .int .i64 st] 39))
      replace hB : BB w _ := BB.dr (BB.al hB (.cells #[.string dat, .int .i64 st] 39))
      replace ho : OO _ _ _ _ _ _ _ := OO.dr (OO.al ho (.cells #[.string dat, .int .i64 st] 39))
      generalize wr.heap.size = GS at FS hneS hgs2 ⊢
      generalize (wr.alloc (.cells #[.string dat, .int .i64 st] 39)).drew = w9 at *
      have f0 : (_ : Option Value) = some (.string dat) := FS.cell 0 (by simp)
      have f1 : (_ : Option Value) = some (.int .i64 st) := FS.cell 1 (by simp)
      have D9 := hd.next hB
      obtain ⟨d0, d1, d2, d3, d4⟩ := id D9
      have e2 : (_ : Option Value) = some (.slice A5 out.length c5) := F1.cell 2 (by simp)
      have hwk : IntKind.i64.wrap ((k : Int) + 1) = ((k + 1 : Nat) : Int) := by rw [IntWalk.i64_in _ (by omega)]; rfl
      by_cases hst3 : st = 3
      · have HN := HS hst3
        subst hst3
        clear HT HS
        go_wp2
        go_roundw
        case rel => exact ⟨k + 1, out, A5, c5, by omega, by go_num, by omega, F0, F1, ho, hB, HN⟩
        case measure => (simp [intOf] <;> omega)
      have HN := HT hst3
      clear HT HS
      have hst3b : (st == 3) = false := by simp [hst3]
      obtain ⟨sb, hsb⟩ : ∃ x, decide (st = 2) = x := ⟨_, rfl⟩
      rw [hsb] at HN
      have hsb2 : (st == 2) = sb := by rw [← hsb]; rfl
      have htq := HQ.out
      have htm := HM.out
      have hwq := HQ1.out
      have hwm := HM1.out
      have hby : 56 ≤ 1000 := by decide
      have hbig : out.length ≤ 100000000 := by omega
      have hbs : w.heap.size + 2 ≤ w9.heap.size := F1.lt
      have HCS := Lib.hid (show (#[.int .i64 tq, .int .i64 tm, .int .i64 ((k + 1 : Nat) : Int), .int .i64 s, .string dat, .bool false, .bool false, .bool sb] : Array Value).toList = fSectorSpec (⟨tq, tm, ((k + 1 : Nat) : Int), s, dat, false, false, sb⟩ : DSectorSpec) from rfl)
      have HLN := Lib.hid (show (out ++ [(⟨tq, tm, ((k + 1 : Nat) : Int), s, dat, false, false, sb⟩ : DSectorSpec)]).length = out.length + 1 by rw [List.length_append]; rfl)
      go_wp2_with fail
      have hoD : World.ownsRow w9.drew (w.heap.size + 2) 150 8 (.slice A5 out.length c5) out.length (flat fSectorSpec out) := OO.dr ho
      have hbsD : w.heap.size + 2 ≤ w9.drew.heap.size := hbs
      have h12 : w.heap.size + 1 < w.heap.size + 2 := by omega
      have h02 : w.heap.size < w.heap.size + 2 := by omega
      have h01 : w.heap.size ≠ w.heap.size + 1 := by omega
      have h22 : w.heap.size ≤ w.heap.size + 2 := by omega
      have h21 : w.heap.size ≤ w.heap.size + 1 := by omega
      have hg12 : g < w.heap.size + 2 := by omega
      have hg1 : w.heap.size + 1 ≠ g := by omega
      have hGS1 : w.heap.size + 1 ≠ GS := by omega
      have e2o := fun (o : Obj) => (show (_ : Option Value) = some (.slice A5 out.length c5) from (F1.al o).cell 2 (by simp))
      refine wp_region_held_drew (S := (fun W => W.cell? ⟨g, 1, none⟩ = some (.int .i64 h) ∧ W.cell? ⟨g, 3, none⟩ = some (.int .i64 s) ∧ W.cell? ⟨GS, 0, none⟩ = some (.string dat) ∧ W.cell? ⟨GS, 1, none⟩ = some (.int .i64 st))) (by kernel_rfl) ?hS1 (fun hHeld => ?rest2)
      case hS1 => (exact ⟨d1, d3, f0, f1⟩)
      refine wpAnyH_take (i := 0) (oi := _) (v := ?v3) rfl (by kernel_rfl) (by kernel_rfl) (by kernel_rfl) (fun _ _ _ h => h) (Or.inl ⟨by rfl, ?hy4⟩) hHeld ?rest5
      case hy4 => (intro w hSw; (try dsimp only at hSw); go_simp; (try with_reducible rfl))
      try simp only [Act.put, List.setIfInBounds_toArray, List.set_cons_zero, List.set_cons_succ]
      refine wpAnyH_take (i := 2) (oi := _) (v := ?v6) rfl (by kernel_rfl) (by kernel_rfl) (by kernel_rfl) (fun _ _ _ h => h) (Or.inl ⟨by rfl, ?hy7⟩) hHeld ?rest8
      case hy7 => (intro w hSw; (try dsimp only at hSw); go_simp; (try with_reducible rfl))
      try simp only [Act.put, List.setIfInBounds_toArray, List.set_cons_zero, List.set_cons_succ]
      refine wpAnyH_take (i := 3) (oi := _) (v := ?v9) rfl (by kernel_rfl) (by kernel_rfl) (by kernel_rfl) (fun _ _ _ h => h) (Or.inl ⟨by rfl, ?hy10⟩) hHeld ?rest11
      case hy10 => (intro w hSw; (try dsimp only at hSw); go_simp; (try with_reducible rfl))
      try simp only [Act.put, List.setIfInBounds_toArray, List.set_cons_zero, List.set_cons_succ]
      refine wpAnyH_take (i := 4) (oi := _) (v := ?v12) rfl (by kernel_rfl) (by kernel_rfl) (by kernel_rfl) (fun _ _ _ h => h) (Or.inl ⟨by rfl, ?hy13⟩) hHeld ?rest14
      case hy13 => (intro w hSw; (try dsimp only at hSw); go_simp; (try with_reducible rfl))
      try simp only [Act.put, List.setIfInBounds_toArray, List.set_cons_zero, List.set_cons_succ]
      refine wpAnyH_take (i := 5) (oi := _) (v := ?v15) rfl (by kernel_rfl) (by kernel_rfl) (by kernel_rfl) (fun _ _ _ h => h) (Or.inl ⟨by rfl, ?hy16⟩) hHeld ?rest17
      case hy16 => (intro w hSw; (try dsimp only at hSw); go_simp; (try with_reducible rfl))
      try simp only [Act.put, List.setIfInBounds_toArray, List.set_cons_zero, List.set_cons_succ]
      refine wpAnyH_take (i := 6) (oi := _) (v := ?v18) rfl (by kernel_rfl) (by kernel_rfl) (by kernel_rfl) (fun _ _ _ h => h) (Or.inl ⟨by rfl, ?hy19⟩) hHeld ?rest20
      case hy19 => (intro w hSw; (try dsimp only at hSw); go_simp; (try with_reducible rfl))
      try simp only [Act.put, List.setIfInBounds_toArray, List.set_cons_zero, List.set_cons_succ]
      refine wpAnyH_take (i := 7) (oi := _) (v := ?v21) rfl (by kernel_rfl) (by kernel_rfl) (by kernel_rfl) (fun _ _ _ h => h) (Or.inl ⟨by rfl, ?hy22⟩) hHeld ?rest23
      case hy22 => (intro w hSw; (try dsimp only at hSw); go_simp; (try with_reducible rfl))
      try simp only [Act.put, List.setIfInBounds_toArray, List.set_cons_zero, List.set_cons_succ]
      refine wpAnyH_take (i := 8) (oi := _) (v := ?v24) rfl (by kernel_rfl) (by kernel_rfl) (by kernel_rfl) (fun _ _ _ h => h) (Or.inl ⟨by rfl, ?hy25⟩) hHeld ?rest26
      case hy25 => (intro w hSw; (try dsimp only at hSw); go_simp; (try with_reducible rfl))
      try simp only [Act.put, List.setIfInBounds_toArray, List.set_cons_zero, List.set_cons_succ]
      refine wpAnyH_take (i := 9) (oi := _) (v := ?v27) rfl (by kernel_rfl) (by kernel_rfl) (by kernel_rfl) (fun _ _ _ h => h) (Or.inl ⟨by rfl, ?hy28⟩) hHeld ?rest29
      case hy28 => (intro w hSw; (try dsimp only at hSw); go_simp; (try with_reducible rfl))
      try simp only [Act.put, List.setIfInBounds_toArray, List.set_cons_zero, List.set_cons_succ]
      refine wpAnyH_take (i := 10) (oi := _) (v := ?v30) rfl (by kernel_rfl) (by kernel_rfl) (by kernel_rfl) (fun _ _ _ h => h) (Or.inl ⟨by rfl, ?hy31⟩) hHeld ?rest32
      case hy31 => (intro w hSw; (try dsimp only at hSw); go_simp; (try with_reducible rfl))
      try simp only [Act.put, List.setIfInBounds_toArray, List.set_cons_zero, List.set_cons_succ]
      refine wpAnyH_take (i := 11) (oi := _) (v := ?v33) rfl (by kernel_rfl) (by kernel_rfl) (by kernel_rfl) (fun _ _ _ h => h) (Or.inl ⟨by rfl, ?hy34⟩) hHeld ?rest35
      case hy34 => (intro w hSw; (try dsimp only at hSw); go_simp; (try with_reducible rfl))
      try simp only [Act.put, List.setIfInBounds_toArray, List.set_cons_zero, List.set_cons_succ]
      refine wpAnyH_take (i := 12) (oi := _) (v := ?v36) rfl (by kernel_rfl) (by kernel_rfl) (by kernel_rfl) (fun _ _ _ h => h) (Or.inl ⟨by rfl, ?hy37⟩) hHeld ?rest38
      case hy37 => (intro w hSw; (try dsimp only at hSw); go_simp; (try with_reducible rfl))
      try simp only [Act.put, List.setIfInBounds_toArray, List.set_cons_zero, List.set_cons_succ]
      refine wpAnyH_take (i := 13) (oi := _) (v := ?v39) rfl (by kernel_rfl) (by kernel_rfl) (by kernel_rfl) (fun _ _ _ h => h) (Or.inl ⟨by rfl, ?hy40⟩) hHeld ?rest41
      case hy40 => (intro w hSw; (try dsimp only at hSw); go_simp; (try with_reducible rfl))
      try simp only [Act.put, List.setIfInBounds_toArray, List.set_cons_zero, List.set_cons_succ]
      refine wpAnyH_take (i := 14) (oi := _) (v := ?v42) rfl (by kernel_rfl) (by kernel_rfl) (by kernel_rfl) (fun _ _ _ h => h) (Or.inl ⟨by rfl, ?hy43⟩) hHeld ?rest44
      case hy43 => (intro w hSw; (try dsimp only at hSw); go_simp; (try with_reducible rfl))
      try simp only [Act.put, List.setIfInBounds_toArray, List.set_cons_zero, List.set_cons_succ]
      refine wpAnyH_take (i := 15) (oi := _) (v := ?v45) rfl (by kernel_rfl) (by kernel_rfl) (by kernel_rfl) (fun _ _ _ h => h) (Or.inl ⟨by rfl, ?hy46⟩) hHeld ?rest47
      case hy46 => (intro w hSw; (try dsimp only at hSw); go_simp; (try with_reducible rfl))
      try simp only [Act.put, List.setIfInBounds_toArray, List.set_cons_zero, List.set_cons_succ]
      refine wpAnyH_take (i := 16) (oi := _) (v := ?v48) rfl (by kernel_rfl) (by kernel_rfl) (by kernel_rfl) (fun _ _ _ h => h) (Or.inl ⟨by rfl, ?hy49⟩) hHeld ?rest50
      case hy49 => (intro w hSw; (try dsimp only at hSw); go_simp; (try with_reducible rfl))
      try simp only [Act.put, List.setIfInBounds_toArray, List.set_cons_zero, List.set_cons_succ]
      refine wpAnyH_take (i := 17) (oi := _) (v := ?v51) rfl (by kernel_rfl) (by kernel_rfl) (by kernel_rfl) (fun _ _ _ h => h) (Or.inl ⟨by rfl, ?hy52⟩) hHeld ?rest53
      case hy52 => (intro w hSw; (try dsimp only at hSw); go_simp; (try with_reducible rfl))
      try simp only [Act.put, List.setIfInBounds_toArray, List.set_cons_zero, List.set_cons_succ]
      refine wpAnyH_take (i := 18) (oi := _) (v := ?v54) rfl (by kernel_rfl) (by kernel_rfl) (by kernel_rfl) (fun _ _ _ h => h) (Or.inl ⟨by rfl, ?hy55⟩) hHeld ?rest56
      case hy55 => (intro w hSw; (try dsimp only at hSw); go_simp; (try with_reducible rfl))
      try simp only [Act.put, List.setIfInBounds_toArray, List.set_cons_zero, List.set_cons_succ]
      refine wpAnyH_take (i := 19) (oi := _) (v := ?v57) rfl (by kernel_rfl) (by kernel_rfl) (by kernel_rfl) (fun _ _ _ h => h) (Or.inl ⟨by rfl, ?hy58⟩) hHeld ?rest59
      case hy58 => (intro w hSw; (try dsimp only at hSw); go_simp; (try with_reducible rfl))
      try simp only [Act.put, List.setIfInBounds_toArray, List.set_cons_zero, List.set_cons_succ]
      refine wpAnyH_take (i := 20) (oi := _) (v := ?v60) rfl (by kernel_rfl) (by kernel_rfl) (by kernel_rfl) (fun _ _ _ h => h) (Or.inl ⟨by rfl, ?hy61⟩) hHeld ?rest62
      case hy61 => (intro w hSw; (try dsimp only at hSw); go_simp; (try with_reducible rfl))
      try simp only [Act.put, List.setIfInBounds_toArray, List.set_cons_zero, List.set_cons_succ]
      refine wpAnyH_take (i := 21) (oi := _) (v := ?v63) rfl (by kernel_rfl) (by kernel_rfl) (by kernel_rfl) (fun _ _ _ h => h) (Or.inl ⟨by rfl, ?hy64⟩) hHeld ?rest65
      case hy64 => (intro w hSw; (try dsimp only at hSw); go_simp; (try with_reducible rfl))
      try simp only [Act.put, List.setIfInBounds_toArray, List.set_cons_zero, List.set_cons_succ]
      refine wpAnyH_take (i := 22) (oi := _) (v := ?v66) rfl (by kernel_rfl) (by kernel_rfl) (by kernel_rfl) (fun _ _ _ h => h) (Or.inl ⟨by rfl, ?hy67⟩) hHeld ?rest68
      case hy67 => (intro w hSw; (try dsimp only at hSw); go_simp; (try with_reducible rfl))
      try simp only [Act.put, List.setIfInBounds_toArray, List.set_cons_zero, List.set_cons_succ]
      refine wpAnyH_take (i := 23) (oi := _) (v := ?v69) rfl (by kernel_rfl) (by kernel_rfl) (by kernel_rfl) (fun _ _ _ h => h) (Or.inl ⟨by rfl, ?hy70⟩) hHeld ?rest71
      case hy70 => (intro w hSw; (try dsimp only at hSw); go_simp; (try with_reducible rfl))
      try simp only [Act.put, List.setIfInBounds_toArray, List.set_cons_zero, List.set_cons_succ]
      refine wpAnyH_take (i := 24) (oi := _) (v := ?v72) rfl (by kernel_rfl) (by kernel_rfl) (by kernel_rfl) (fun _ _ _ h => h) (Or.inl ⟨by rfl, ?hy73⟩) hHeld ?rest74
      case hy73 => (intro w hSw; (try dsimp only at hSw); go_simp; (try with_reducible rfl))
      try simp only [Act.put, List.setIfInBounds_toArray, List.set_cons_zero, List.set_cons_succ]
      refine wpAnyH_take (i := 25) (oi := _) (v := ?v75) rfl (by kernel_rfl) (by kernel_rfl) (by kernel_rfl) (fun _ _ _ h => h) (Or.inl ⟨by rfl, ?hy76⟩) hHeld ?rest77
      case hy76 => (intro w hSw; (try dsimp only at hSw); go_simp; (try with_reducible rfl))
      try simp only [Act.put, List.setIfInBounds_toArray, List.set_cons_zero, List.set_cons_succ]
      refine wpAnyH_ready (rs := [1, 26]) (by kernel_rfl) (by simp) ?_
      refine AllReadyH.cons (o := _) rfl (fun K hK => ?stp110) ?more111
      case stp110 =>
        go_simp
        refine hK.out _ _ ?hS112 (fun hHeld2 => ?rest113)
        case hS112 => (exact hHeld)
        clear hK K hHeld
        have hHeld := hHeld2
        clear hHeld2
        try simp only [Act.put, List.setIfInBounds_toArray, List.set_cons_zero, List.set_cons_succ]
        refine wpAnyH_ready (rs := [26]) (by kernel_rfl) (by simp) ?_
        refine AllReadyH.cons (o := _) rfl (fun K hK => ?stp90) ?more91
        case stp90 =>
          go_simp
          refine hK.out _ _ ?hS92 (fun hHeld2 => ?rest93)
          case hS92 => (exact ⟨(D9.alloc _).2.1, (D9.alloc _).2.2.2.1, (FS.al _).cell 0 (by simp), (FS.al _).cell 1 (by simp)⟩)
          clear hK K hHeld
          have hHeld := hHeld2
          clear hHeld2
          try simp only [Act.put, List.setIfInBounds_toArray, List.set_cons_zero, List.set_cons_succ]
          refine wpAnyH_ready (rs := [27]) (by kernel_rfl) (by simp) ?_
          refine AllReadyH.cons (o := _) rfl (fun K hK => ?stp86) ?more87
          case stp86 =>
            refine step_appG (w := w9.drew) (f := fSectorSpec) rfl (.tmp 35) (.tmp 60) 82 rfl eltSectorSpec hby (.slice A5 out.length c5) out out.length rfl rfl hoD #[.int .i64 tq, .int .i64 tm, .int .i64 ((k + 1 : Nat) : Int), .int .i64 s, .string dat, .bool false, .bool false, .bool sb] 150 (⟨tq, tm, ((k + 1 : Nat) : Int), s, dat, false, false, sb⟩ : DSectorSpec) 1 rfl rfl rfl (oneSectorSpec _) hbig hbsD ?_
            intro v7 w7 R7 hg7 hat7 hbl7
            obtain ⟨A7, c7, rfl⟩ := own_form R7
            rw [HLN.out] at R7 hat7
            have F17 := (BX.dr0 F1).below hbl7 h12
            have FS7 := ((BX.dr0 FS).al (.cells #[.int .i64 tq, .int .i64 tm, .int .i64 ((k + 1 : Nat) : Int), .int .i64 s, .string dat, .bool false, .bool false, .bool sb] 150)).grown hg7 hneS
            have e7 : (_ : Option Value) = some (.slice A5 out.length c5) := F17.cell 2 (by simp)
            have hfz7 := fun j => F17.free j
            have D7 := (hbl7.cell (p := ⟨g, 1, none⟩) hg12).trans d1
            have D7b := (hbl7.cell (p := ⟨g, 3, none⟩) hg12).trans d3
            refine hK.out _ _ ?hS88 (fun hHeld2 => ?rest89)
            case hS88 => (exact ⟨D7, D7b, FS7.cell 0 (by simp), FS7.cell 1 (by simp)⟩)
            clear hK K hHeld
            have hHeld := hHeld2
            clear hHeld2
            try simp only [Act.put, List.setIfInBounds_toArray, List.set_cons_zero, List.set_cons_succ]
            refine wpAnyH_ready (rs := [28]) (by kernel_rfl) (by simp) ?_
            refine AllReadyH.cons (o := _) rfl (fun K hK => ?stp82) ?more83
            case stp82 =>
              go_simp
              refine hK.out _ _ ?hS84 (fun hHeld2 => ?rest85)
              case hS84 => (exact hHeld)
              clear hK K hHeld
              have hHeld := hHeld2
              clear hHeld2
              try simp only [Act.put, List.setIfInBounds_toArray, List.set_cons_zero, List.set_cons_succ]
              refine wpAnyH_ready (rs := [29]) (by kernel_rfl) (by simp) ?_
              refine AllReadyH.cons (o := _) rfl (fun K hK => ?stp78) ?more79
              case stp78 =>
                go_simp
                refine hK.out _ _ ?hS80 (fun hHeld2 => ?rest81)
                case hS80 => (exact ⟨(World.cell?_setCell_far _ _ _ _ hg1).trans hHeld.1, (World.cell?_setCell_far _ _ _ _ hg1).trans hHeld.2.1, (World.cell?_setCell_far _ _ _ _ hGS1).trans hHeld.2.2.1, (World.cell?_setCell_far _ _ _ _ hGS1).trans hHeld.2.2.2⟩)
                clear hK K hHeld
                have hHeld := hHeld2
                clear hHeld2
                try simp only [Act.put, List.setIfInBounds_toArray, List.set_cons_zero, List.set_cons_succ]
                refine wpAnyH_done (by kernel_rfl) ?_ _
                have F19 := F17.put 2 (.slice A7 (out.length + 1) c7)
                have F09 := ((BX.dr0 F0).below hbl7 h02).far (a := ⟨w.heap.size + 1, 2, none⟩) h01 (.slice A7 (out.length + 1) c7)
                have R9 := OO.put (a := ⟨w.heap.size + 1, 2, none⟩) R7 h12 (.slice A7 (out.length + 1) c7)
                have hB9 : BB w _ := Below.setCell (Below.trans (Below.drew hB) (hbl7.mono h22)) (p := ⟨w.heap.size + 1, 2, none⟩) h21 (.slice A7 (out.length + 1) c7)
                go_wp2
                go_roundw
                case rel => exact ⟨k + 1, out ++ [(⟨tq, tm, ((k + 1 : Nat) : Int), s, dat, false, false, sb⟩ : DSectorSpec)], A7, c7, by omega, by go_num, by rw [HLN.out]; omega, F09, by rw [HLN.out]; exact F19, by rw [HLN.out]; exact R9, hB9, HN⟩
                case measure => (simp [intOf] <;> omega)
              exact AllReadyH.nil
            exact AllReadyH.nil
          exact AllReadyH.nil
        exact AllReadyH.nil
      refine AllReadyH.cons (o := _) rfl (fun K hK => ?stp114) ?more115
      case stp114 =>
        go_simp
        refine hK.out _ _ ?hS116 (fun hHeld2 => ?rest117)
        case hS116 => (exact ⟨(D9.alloc _).2.1, (D9.alloc _).2.2.2.1, (FS.al _).cell 0 (by simp), (FS.al _).cell 1 (by simp)⟩)
        clear hK K hHeld
        have hHeld := hHeld2
        clear hHeld2
        try simp only [Act.put, List.setIfInBounds_toArray, List.set_cons_zero, List.set_cons_succ]
        refine wpAnyH_ready (rs := [1]) (by kernel_rfl) (by simp) ?_
        refine AllReadyH.cons (o := _) rfl (fun K hK => ?stp106) ?more107
        case stp106 =>
          go_simp
          refine hK.out _ _ ?hS108 (fun hHeld2 => ?rest109)
          case hS108 => (exact hHeld)
          clear hK K hHeld
          have hHeld := hHeld2
          clear hHeld2
          try simp only [Act.put, List.setIfInBounds_toArray, List.set_cons_zero, List.set_cons_succ]
          refine wpAnyH_ready (rs := [27]) (by kernel_rfl) (by simp) ?_
          refine AllReadyH.cons (o := _) rfl (fun K hK => ?stp102) ?more103
          case stp102 =>
            refine step_appG (w := w9.drew) (f := fSectorSpec) rfl (.tmp 35) (.tmp 60) 82 rfl eltSectorSpec hby (.slice A5 out.length c5) out out.length rfl rfl hoD #[.int .i64 tq, .int .i64 tm, .int .i64 ((k + 1 : Nat) : Int), .int .i64 s, .string dat, .bool false, .bool false, .bool sb] 150 (⟨tq, tm, ((k + 1 : Nat) : Int), s, dat, false, false, sb⟩ : DSectorSpec) 1 rfl rfl rfl (oneSectorSpec _) hbig hbsD ?_
            intro v7 w7 R7 hg7 hat7 hbl7
            obtain ⟨A7, c7, rfl⟩ := own_form R7
            rw [HLN.out] at R7 hat7
            have F17 := (BX.dr0 F1).below hbl7 h12
            have FS7 := ((BX.dr0 FS).al (.cells #[.int .i64 tq, .int .i64 tm, .int .i64 ((k + 1 : Nat) : Int), .int .i64 s, .string dat, .bool false, .bool false, .bool sb] 150)).grown hg7 hneS
            have e7 : (_ : Option Value) = some (.slice A5 out.length c5) := F17.cell 2 (by simp)
            have hfz7 := fun j => F17.free j
            have D7 := (hbl7.cell (p := ⟨g, 1, none⟩) hg12).trans d1
            have D7b := (hbl7.cell (p := ⟨g, 3, none⟩) hg12).trans d3
            refine hK.out _ _ ?hS104 (fun hHeld2 => ?rest105)
            case hS104 => (exact ⟨D7, D7b, FS7.cell 0 (by simp), FS7.cell 1 (by simp)⟩)
            clear hK K hHeld
            have hHeld := hHeld2
            clear hHeld2
            try simp only [Act.put, List.setIfInBounds_toArray, List.set_cons_zero, List.set_cons_succ]
            refine wpAnyH_ready (rs := [28]) (by kernel_rfl) (by simp) ?_
            refine AllReadyH.cons (o := _) rfl (fun K hK => ?stp98) ?more99
            case stp98 =>
              go_simp
              refine hK.out _ _ ?hS100 (fun hHeld2 => ?rest101)
              case hS100 => (exact hHeld)
              clear hK K hHeld
              have hHeld := hHeld2
              clear hHeld2
              try simp only [Act.put, List.setIfInBounds_toArray, List.set_cons_zero, List.set_cons_succ]
              refine wpAnyH_ready (rs := [29]) (by kernel_rfl) (by simp) ?_
              refine AllReadyH.cons (o := _) rfl (fun K hK => ?stp94) ?more95
              case stp94 =>
                go_simp
                refine hK.out _ _ ?hS96 (fun hHeld2 => ?rest97)
                case hS96 => (exact ⟨(World.cell?_setCell_far _ _ _ _ hg1).trans hHeld.1, (World.cell?_setCell_far _ _ _ _ hg1).trans hHeld.2.1, (World.cell?_setCell_far _ _ _ _ hGS1).trans hHeld.2.2.1, (World.cell?_setCell_far _ _ _ _ hGS1).trans hHeld.2.2.2⟩)
                clear hK K hHeld
                have hHeld := hHeld2
                clear hHeld2
                try simp only [Act.put, List.setIfInBounds_toArray, List.set_cons_zero, List.set_cons_succ]
                refine wpAnyH_done (by kernel_rfl) ?_ _
                have F19 := F17.put 2 (.slice A7 (out.length + 1) c7)
                have F09 := ((BX.dr0 F0).below hbl7 h02).far (a := ⟨w.heap.size + 1, 2, none⟩) h01 (.slice A7 (out.length + 1) c7)
                have R9 := OO.put (a := ⟨w.heap.size + 1, 2, none⟩) R7 h12 (.slice A7 (out.length + 1) c7)
                have hB9 : BB w _ := Below.setCell (Below.trans (Below.drew hB) (hbl7.mono h22)) (p := ⟨w.heap.size + 1, 2, none⟩) h21 (.slice A7 (out.length + 1) c7)
                go_wp2
                go_roundw
                case rel => exact ⟨k + 1, out ++ [(⟨tq, tm, ((k + 1 : Nat) : Int), s, dat, false, false, sb⟩ : DSectorSpec)], A7, c7, by omega, by go_num, by rw [HLN.out]; omega, F09, by rw [HLN.out]; exact F19, by rw [HLN.out]; exact R9, hB9, HN⟩
                case measure => (simp [intOf] <;> omega)
              exact AllReadyH.nil
            exact AllReadyH.nil
          exact AllReadyH.nil
        exact AllReadyH.nil
      exact AllReadyH.nil
    · obtain rfl : k = P := by omega
      have HE := Lib.hid (tkS_end (by rw [HL.out]; exact Nat.le_refl _) HI.out)
      have z0 : (_ : Option Value) = some (.int .i64 0) := F0.cell 0 (by simp)
      have z1 : (_ : Option Value) = some (.int .i64 0) := F0.cell 1 (by simp)
      have z2 : (_ : Option Value) = some (.slice none 0 0) := F0.cell 2 (by simp)
      have o0 : (_ : Option Value) = some (.int .i64 2) := F1.cell 0 (by simp)
      have o1 : (_ : Option Value) = some (.int .i64 4) := F1.cell 1 (by simp)
      have o2 : (_ : Option Value) = some (.slice A5 out.length c5) := F1.cell 2 (by simp)
      have hfz := fun j => F0.free j
      obtain ⟨d0, d1, d2, d3, d4⟩ := id D
      go_wp2
      refine bodyPost_ret (v := .agg #[.int .i64 2, .int .i64 4, .slice A5 out.length c5]) (by simp [results, Try.results95, go_sem, World.cell?_setCell_other, z0, z1, z2]) rfl ⟨_, rfl, ?_, Below.setCell (Below.setCell (Below.setCell (show Below w.heap.size w wr from hB) (Nat.le_refl _) _) (Nat.le_refl _) _) (Nat.le_refl _) _⟩
      rw [← HE.out]
      have h02 : w.heap.size < w.heap.size + 2 := by omega
      exact own_base (OO.put (OO.put (OO.put ho h02 _) h02 _) h02 _) (Nat.le_of_lt h02)
end Go.Proofs.Yticnmljahnnhcaa
