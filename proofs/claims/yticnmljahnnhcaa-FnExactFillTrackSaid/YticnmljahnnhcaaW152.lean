/- Walks: what was found enters a disc (spec). -/
import Derived.Test.YticnmljahnnhcaaEnM
import Derived.Test.YticnmljahnnhcaaD3
import Derived.Test.YticnmljahnnhcaaW33
import Derived.Test.YticnmljahnnhcaaTrS
import Derived.Test.YticnmljahnnhcaaPut
namespace Go.Proofs.Yticnmljahnnhcaa
open Go.RowKit
set_option linter.unusedVariables false

theorem BX.dnx {w : World} {g : Nat} {t : TypeId} {vs : List Value} (h : BX w g t vs) (n : Nat) : BX (w.drewN n) g t vs := h

set_option maxRecDepth 100000 in
set_option maxHeartbeats 8000000 in
set_option linter.unusedSimpArgs false in
theorem l12Enter_any (g : Nat) (c h s : Int) (P t b cp B : Nat) (L : List DSector) (xs : List DFound) (Ax : Option Addr) (cx : Nat) (w : World) (base : Nat) (hd : BX w g 26 [.int .i64 c, .int .i64 h, .int .i64 (P : Int), .int .i64 s, .slice (some ⟨b, 0, none⟩) L.length cp]) (hgb : g ≠ b) (ho : OO w base 39 2 (.slice (some ⟨b, 0, none⟩) L.length cp) L.length (flat fSector L)) (hx : Rd w B 8 Ax xs.length (flat fFound xs)) (hBb : B ≤ b) (hbb : b < w.heap.size) (ht : t * P + P ≤ L.length) (hn : L.length ≤ 128) (hP0 : 1 ≤ P) (hP : P ≤ 8) (hh1 : 1 ≤ h) (hh2 : h ≤ 2) (ht8 : t ≤ 128) (hxn : xs.length ≤ 1048576) :
    Calls Try.prog 107 #[.pointer (some ⟨g, 0, none⟩), .int .i64 (t : Int), .slice Ax xs.length cx] w fun e w' => ∃ v, e = .returned v ∧ w'.ownsRow base 39 2 (.slice (some ⟨b, 0, none⟩) L.length cp) L.length (flat fSector (enL (t * P) P ((t : Int).tdiv h) ((t : Int).tmod h) s L xs)) ∧ w.grownBy w' (some b) := by
  obtain ⟨q, hq⟩ : ∃ q, t * P = q := ⟨_, rfl⟩
  rw [hq] at ht ⊢
  have hqb : q ≤ 128 := by omega
  have hw1 : IntKind.i64.wrap ((t : Int) * (P : Int)) = (q : Int) := by rw [← hq, ← Int.natCast_mul]; exact IntWalk.i64_in _ (by omega)
  have hw1b : wrap64 ((t : Int) * (P : Int)) = (q : Int) := by rw [← hq, ← Int.natCast_mul]; exact IntWalk.wrap64_in _ (by omega)
  clear hq
  have HW1 := Lib.hid hw1
  have HW1b := Lib.hid hw1b
  clear hw1 hw1b
  have hp0 : ¬ h = 0 := by omega
  have hp01 : (h == 0) = false := by simp; omega
  obtain ⟨tq, htq⟩ : ∃ x, (t : Int).tdiv h = x := ⟨_, rfl⟩
  obtain ⟨tm, htm⟩ : ∃ x, (t : Int).tmod h = x := ⟨_, rfl⟩
  have bq : 0 ≤ tq ∧ tq ≤ 128 := by
    have : h = 1 ∨ h = 2 := by omega
    rcases this with rfl | rfl <;> (rw [← htq, Int.tdiv_eq_ediv_of_nonneg (by omega)]; omega)
  have bm : 0 ≤ tm ∧ tm ≤ 128 := by
    have : h = 1 ∨ h = 2 := by omega
    rcases this with rfl | rfl <;> (rw [← htm, Int.tmod_eq_emod_of_nonneg (by omega)]; omega)
  have hwq : IntKind.i64.wrap tq = tq := IntWalk.i64_in _ (by omega)
  have hwm : IntKind.i64.wrap tm = tm := IntWalk.i64_in _ (by omega)
  rw [htq, htm]
  obtain ⟨R, hR⟩ : ∃ R, enL q P tq tm s L xs = R := ⟨_, rfl⟩
  rw [hR]
  have HI0 := Lib.hid hR
  clear hR
  have HQ1 := Lib.hid hwq
  have HM1 := Lib.hid hwm
  have HQ := Lib.hid htq
  have HM := Lib.hid htm
  clear htq htm hwq hwm
  go_enter Try.func107, Try.ntmps107
  go_wp2
  have ho1 := ho
  have hg1 : w.grownBy w (some b) := World.grownBy.refl _ _
  have hwg : ∀ W : World, w.grownBy W (some b) → BX W g 26 [.int .i64 c, .int .i64 h, .int .i64 (P : Int), .int .i64 s, .slice (some ⟨b, 0, none⟩) L.length cp] := fun W hgw => hd.grown hgw (fun e => hgb (Option.some.inj e).symm)
  have hxg : ∀ W : World, w.grownBy W (some b) → Rd W B 8 Ax xs.length (flat fFound xs) := fun W hgw => hx.below ((Below.refl B w).grown (gr_trans hg1 hgw) (by omega) (fun k hk => by injection hk with hk; omega))
  go_loopw [6] (fun i wr => ∃ (k : Nat) (Lk : List DSector), k ≤ xs.length ∧ i = .int .i64 k ∧ Lk.length = L.length ∧ OO wr base 39 2 (.slice (some ⟨b, 0, none⟩) L.length cp) L.length (flat fSector Lk) ∧ w.grownBy wr (some b) ∧ Hid (enL q P tq tm s Lk (xs.drop k) = R)) (fun i _ => xs.length - (intOf i).toNat)
  case atStart => exact ⟨0, L, Nat.zero_le _, rfl, rfl, ho1, World.grownBy.refl _ _, Lib.hid HI0.out⟩
  case round =>
    clear ho1
    obtain ⟨k, Lk, hk, rfl, hlk, O, hg, HI⟩ := hrel
    by_cases hlt : k < xs.length
    · have hlti : (k : Int) < (xs.length : Int) := by omega
      have hdw := hwg wr hg
      obtain ⟨bx, ox, rfl, hbx, hc⟩ := (hxg wr hg).at_ fFound_len rfl k hlt
      have x0 := hc 0 _ (by omega) rfl
      have x1 := hc 1 _ (by omega) rfl
      have x2 := hc 2 _ (by omega) rfl
      have x3 := hc 3 _ (by omega) rfl
      have x4 := hc 4 _ (by omega) rfl
      have x5 := hc 5 _ (by omega) rfl
      have x6 := hc 6 _ (by omega) rfl
      have x7 := hc 7 _ (by omega) rfl
      clear hc
      simp only [← Nat.add_assoc, Nat.add_zero] at x0 x1 x2 x3 x4 x5 x6 x7
      obtain ⟨a0, ha0⟩ : ∃ x, xs[k].f0 = x := ⟨_, rfl⟩
      rw [ha0] at x0
      obtain ⟨a1, ha1⟩ : ∃ x, xs[k].f1 = x := ⟨_, rfl⟩
      rw [ha1] at x1
      obtain ⟨a2, ha2⟩ : ∃ x, xs[k].f2 = x := ⟨_, rfl⟩
      rw [ha2] at x2
      obtain ⟨a3, ha3⟩ : ∃ x, xs[k].f3 = x := ⟨_, rfl⟩
      rw [ha3] at x3
      obtain ⟨a4, ha4⟩ : ∃ x, xs[k].f4 = x := ⟨_, rfl⟩
      rw [ha4] at x4
      obtain ⟨a5, ha5⟩ : ∃ x, xs[k].f5 = x := ⟨_, rfl⟩
      rw [ha5] at x5
      obtain ⟨a6, ha6⟩ : ∃ x, xs[k].f6 = x := ⟨_, rfl⟩
      rw [ha6] at x6
      obtain ⟨a7, ha7⟩ : ∃ x, xs[k].f7 = x := ⟨_, rfl⟩
      rw [ha7] at x7
      have HSK : enC tq tm s P xs[k] = false ∨ enOk xs[k].f5 (Lk.getD (enJ q xs[k]) noS).f1 = false → Hid (enL q P tq tm s Lk (xs.drop (k + 1)) = R) := fun g => Lib.hid (enL_skip hlt g HI.out)
      have hCE : enC tq tm s P xs[k] = ((a0 == tq) && (a1 == tm) && (a3 == s) && inB a2 1 (P : Int)) := by unfold enC; rw [ha0, ha1, ha2, ha3]
      have FF := BX.made wr 159 [.int .i64 a0, .int .i64 a1, .int .i64 a2, .int .i64 a3, .string a4, .int .i64 a5, .bool a6, .int .i64 a7]
      have hgF : g ≠ wr.heap.size := by have := hdw.lt; omega
      have hbF : b ≠ wr.heap.size := by have := (hg.size); omega
      replace hdw := hdw.al (.cells #[.int .i64 a0, .int .i64 a1, .int .i64 a2, .int .i64 a3, .string a4, .int .i64 a5, .bool a6, .int .i64 a7] 159)
      replace O : OO _ _ _ _ _ _ _ := OO.al O (.cells #[.int .i64 a0, .int .i64 a1, .int .i64 a2, .int .i64 a3, .string a4, .int .i64 a5, .bool a6, .int .i64 a7] 159)
      replace hg : w.grownBy (wr.alloc (.cells #[.int .i64 a0, .int .i64 a1, .int .i64 a2, .int .i64 a3, .string a4, .int .i64 a5, .bool a6, .int .i64 a7] 159)) (some b) := gr_trans hg (World.grownBy_alloc wr _ _)
      go_upto_region 4 with fail
      clear x0 x1 x2 x3 x4 x5 x6 x7
      generalize wr.heap.size = gf at FF hgF hbF ⊢
      generalize wr.alloc (.cells #[.int .i64 a0, .int .i64 a1, .int .i64 a2, .int .i64 a3, .string a4, .int .i64 a5, .bool a6, .int .i64 a7] 159) = w2 at FF hdw O hg ⊢
      have hw2s := hg.size
      have f0 : (_ : Option Value) = some (.int .i64 a0) := FF.cell 0 (by simp)
      have f1 : (_ : Option Value) = some (.int .i64 a1) := FF.cell 1 (by simp)
      have f2 : (_ : Option Value) = some (.int .i64 a2) := FF.cell 2 (by simp)
      have f3 : (_ : Option Value) = some (.int .i64 a3) := FF.cell 3 (by simp)
      have f4 : (_ : Option Value) = some (.string a4) := FF.cell 4 (by simp)
      have f5 : (_ : Option Value) = some (.int .i64 a5) := FF.cell 5 (by simp)
      have f6 : (_ : Option Value) = some (.bool a6) := FF.cell 6 (by simp)
      have f7 : (_ : Option Value) = some (.int .i64 a7) := FF.cell 7 (by simp)
      have d0 : (_ : Option Value) = some (.int .i64 c) := hdw.cell 0 (by simp)
      have d1 : (_ : Option Value) = some (.int .i64 h) := hdw.cell 1 (by simp)
      have d2 : (_ : Option Value) = some (.int .i64 (P : Int)) := hdw.cell 2 (by simp)
      have d3 : (_ : Option Value) = some (.int .i64 s) := hdw.cell 3 (by simp)
      have d4 : (_ : Option Value) = some (.slice (some ⟨b, 0, none⟩) L.length cp) := hdw.cell 4 (by simp)
      have htq := HQ.out
      have htm := HM.out
      have hwq := HQ1.out
      have hwm := HM1.out
      have hin := fun W => l00In_any a2 1 (P : Int) W
      by_cases ea0 : a0 = tq
      case neg =>
        have na0 : (a0 != tq) = true := by simp [ea0]
        have ua0 : (a0 == tq) = false := by simp [ea0]
        have HN := HSK (.inl (by rw [hCE]; simp [ua0]))
        clear HSK hCE
        go_quiet ((go_at_call 71; exact quiet_left (hin _)))
        generalize nq = nn
        go_wp2
        go_roundw
        case rel => exact ⟨k + 1, Lk, by omega, by go_num, hlk, OO.dn O _, only_drewN hg _, HN⟩
        case measure => (simp [intOf] <;> omega)
      have na0 : (a0 != tq) = false := by simp [ea0]
      have ua0 : (a0 == tq) = true := by simp [ea0]
      clear ea0
      by_cases ea1 : a1 = tm
      case neg =>
        have na1 : (a1 != tm) = true := by simp [ea1]
        have ua1 : (a1 == tm) = false := by simp [ea1]
        have HN := HSK (.inl (by rw [hCE]; simp [ua1]))
        clear HSK hCE
        go_quiet ((go_at_call 71; exact quiet_left (hin _)))
        generalize nq = nn
        go_wp2
        go_roundw
        case rel => exact ⟨k + 1, Lk, by omega, by go_num, hlk, OO.dn O _, only_drewN hg _, HN⟩
        case measure => (simp [intOf] <;> omega)
      have na1 : (a1 != tm) = false := by simp [ea1]
      have ua1 : (a1 == tm) = true := by simp [ea1]
      clear ea1
      by_cases ea3 : a3 = s
      case neg =>
        have na3 : (a3 != s) = true := by simp [ea3]
        have ua3 : (a3 == s) = false := by simp [ea3]
        have HN := HSK (.inl (by rw [hCE]; simp [ua3]))
        clear HSK hCE
        go_quiet ((go_at_call 71; exact quiet_left (hin _)))
        generalize nq = nn
        go_wp2
        go_roundw
        case rel => exact ⟨k + 1, Lk, by omega, by go_num, hlk, OO.dn O _, only_drewN hg _, HN⟩
        case measure => (simp [intOf] <;> omega)
      have na3 : (a3 != s) = false := by simp [ea3]
      have ua3 : (a3 == s) = true := by simp [ea3]
      clear ea3
      cases gi : inB a2 1 (P : Int)
      · rw [gi] at hin
        have HN := HSK (.inl (by rw [hCE, gi, Bool.and_false]))
        clear HSK hCE
        go_quiet ((go_at_call 71; exact quiet_left (hin _)))
        generalize nq = nn
        go_wp2
        go_roundw
        case rel => exact ⟨k + 1, Lk, by omega, by go_num, hlk, OO.dn O _, only_drewN hg _, HN⟩
        case measure => (simp [intOf] <;> omega)
      rw [gi] at hin
      obtain ⟨i1, i2⟩ := inB_yes gi
      obtain ⟨m, hm⟩ : ∃ m : Nat, a2 = ((m + 1 : Nat) : Int) := ⟨(a2 - 1).toNat, by omega⟩
      have hCT : enC tq tm s P xs[k] = true := by rw [hCE, ua0, ua1, ua3, gi]; rfl
      clear hCE
      have hJ : enJ q xs[k] = q + m := by unfold enJ; rw [ha2, hm]; omega
      subst hm
      have hmP : m < P := by omega
      obtain ⟨j, hj⟩ : ∃ j, q + m = j := ⟨_, rfl⟩
      rw [hj] at hJ
      have hjl : j < L.length := by omega
      have hjk : j < Lk.length := by omega
      obtain ⟨y, hy⟩ : ∃ y, Lk[j].f1 = y := ⟨_, rfl⟩
      have hgd : (Lk.getD (enJ q xs[k]) noS).f1 = y := by rw [hJ, List.getD_eq_getElem?_getD, List.getElem?_eq_getElem hjk]; exact hy
      have HSK2 : enOk a5 y = false → Hid (enL q P tq tm s Lk (xs.drop (k + 1)) = R) := fun g => HSK (.inr (by rw [hgd, ha5]; exact g))
      have HST : ∀ z, enOk a5 y = true → (if a5 = 1 then (1 : Int) else 2) = z → Hid (enL q P tq tm s (Lk.set j ⟨a4, z⟩) (xs.drop (k + 1)) = R) := fun z g1 g2 => Lib.hid (enL_set hlt hCT hJ hjk (by rw [hy, ha5]; exact g1) (by rw [ha4, ha5, g2]) HI.out)
      have c1 : w2.cell? ⟨b, j * 2 + 1, none⟩ = some (.int .i64 y) := by
        have h1 := World.ownsRow.cellAt O (j * 2 + 1) (by omega)
        have h2 := flat_get fSector 2 fSector_len Lk j 1 hjk (by omega)
        simp only [fSector, List.getElem?_cons_succ, List.getElem?_cons_zero] at h2
        rw [show (⟨b, j * 2 + 1, none⟩ : Addr) = ⟨b, j * 2 + 1, none⟩ from rfl]
        rw [h1, h2, hy]
      have hz0 := World.ownsRow.frozenAt O (j * 2)
      have hz1 := World.ownsRow.frozenAt O (j * 2 + 1)
      obtain ⟨o0, ho0⟩ := own_some O (j * 2) (by omega)
      clear HSK hgd hy hCT hJ
      clear ha0 ha1 ha2 ha3 ha4 ha5 ha6 ha7
      have v1 : IntKind.i64.wrap ((q : Int) + ((m + 1 : Nat) : Int)) = ((j + 1 : Nat) : Int) := by rw [IntWalk.i64_in _ (by omega)]; omega
      have v2 : IntKind.i64.wrap (((j + 1 : Nat) : Int) - 1) = (j : Int) := by rw [IntWalk.i64_in _ (by omega)]; omega
      have v3 : (j : Int) < (L.length : Int) := by omega
      by_cases hs1 : a5 = 1
      · subst hs1
        by_cases hy3 : y = 3
        · subst hy3
          have HN := HST 1 (by decide) (by decide)
          clear HSK2 HST
          go_quiet ((go_at_call 71; exact quiet_left (hin _)))
          generalize nq = n1
          have hw1 := HW1.out
          have hw1b := HW1b.out
          go_wp2_with fail
          go_quiet (fail)
          generalize nq = n2
          go_wp2_with fail
          go_upto_region 8 with fail
          replace O : OO _ _ _ _ _ _ _ := OO.dn O (n1 + n2)
          replace hg := only_drewN hg (n1 + n2)
          replace FF := BX.dnx FF (n1 + n2)
          replace hdw := BX.dnx hdw (n1 + n2)
          clear c1 hz0 hz1 ho0 f0 f1 f2 f3 f4 f5 f6 f7 d0 d1 d2 d3 d4
          generalize w2.drewN (n1 + n2) = w3 at O hg FF hdw ⊢
          have s1 := World.ownsRow.stored O (j * 2) (.string a4)
          have s2 := World.ownsRow.stored s1.1 (j * 2 + 1) (.int .i64 2)
          have s3 := World.ownsRow.stored s2.1 (j * 2 + 1) (.int .i64 1)
          obtain ⟨t0, ht0⟩ := own_some O (j * 2) (by omega)
          have hy0 := World.ownsRow.frozenAt O (j * 2)
          obtain ⟨t1, ht1⟩ := own_some s1.1 (j * 2 + 1) (by omega)
          have hy1 := World.ownsRow.frozenAt s1.1 (j * 2 + 1)
          obtain ⟨t2, ht2⟩ := own_some s2.1 (j * 2 + 1) (by omega)
          have hy2 := World.ownsRow.frozenAt s2.1 (j * 2 + 1)
          have f4 : (_ : Option Value) = some (.string a4) := FF.cell 4 (by simp)
          have OZ := s3.1
          rw [set_twice] at OZ
          replace OZ : OO _ _ _ _ _ _ (putV (flat fSector Lk) (j * 2) (fSector ⟨a4, 1⟩)) := OZ
          rw [setS Lk j hjk] at OZ
          have hgz := gr_trans (gr_trans (gr_trans hg s1.2) s2.2) s3.2
          go_wp2
          go_roundw
          case rel => exact ⟨k + 1, Lk.set j ⟨a4, 1⟩, by omega, by go_num, by rw [List.length_set]; exact hlk, OZ, hgz, HN⟩
          case measure => (simp [intOf] <;> omega)
        have ny3 : (y == 3) = false := by simp [hy3]
        have my3 : (y != 3) = true := by simp [hy3]
        by_cases hy2 : y = 2
        · subst hy2
          have HN := HST 1 (by decide) (by decide)
          clear HSK2 HST
          go_quiet ((go_at_call 71; exact quiet_left (hin _)))
          generalize nq = n1
          have hw1 := HW1.out
          have hw1b := HW1b.out
          go_wp2_with fail
          go_quiet (fail)
          generalize nq = n2
          go_wp2_with fail
          go_upto_region 8 with fail
          replace O : OO _ _ _ _ _ _ _ := OO.dn O (n1 + n2)
          replace hg := only_drewN hg (n1 + n2)
          replace FF := BX.dnx FF (n1 + n2)
          replace hdw := BX.dnx hdw (n1 + n2)
          clear c1 hz0 hz1 ho0 f0 f1 f2 f3 f4 f5 f6 f7 d0 d1 d2 d3 d4
          generalize w2.drewN (n1 + n2) = w3 at O hg FF hdw ⊢
          have s1 := World.ownsRow.stored O (j * 2) (.string a4)
          have s2 := World.ownsRow.stored s1.1 (j * 2 + 1) (.int .i64 2)
          have s3 := World.ownsRow.stored s2.1 (j * 2 + 1) (.int .i64 1)
          obtain ⟨t0, ht0⟩ := own_some O (j * 2) (by omega)
          have hy0 := World.ownsRow.frozenAt O (j * 2)
          obtain ⟨t1, ht1⟩ := own_some s1.1 (j * 2 + 1) (by omega)
          have hy1 := World.ownsRow.frozenAt s1.1 (j * 2 + 1)
          obtain ⟨t2, ht2⟩ := own_some s2.1 (j * 2 + 1) (by omega)
          have hy2 := World.ownsRow.frozenAt s2.1 (j * 2 + 1)
          have f4 : (_ : Option Value) = some (.string a4) := FF.cell 4 (by simp)
          have OZ := s3.1
          rw [set_twice] at OZ
          replace OZ : OO _ _ _ _ _ _ (putV (flat fSector Lk) (j * 2) (fSector ⟨a4, 1⟩)) := OZ
          rw [setS Lk j hjk] at OZ
          have hgz := gr_trans (gr_trans (gr_trans hg s1.2) s2.2) s3.2
          go_wp2
          go_roundw
          case rel => exact ⟨k + 1, Lk.set j ⟨a4, 1⟩, by omega, by go_num, by rw [List.length_set]; exact hlk, OZ, hgz, HN⟩
          case measure => (simp [intOf] <;> omega)
        have ny2 : (y == 2) = false := by simp [hy2]
        have my2 : (y != 2) = true := by simp [hy2]
        have HN := HSK2 (by simp [enOk, ny3, ny2])
        clear HSK2 HST
        go_quiet ((go_at_call 71; exact quiet_left (hin _)))
        generalize nq = n1
        have hw1 := HW1.out
        have hw1b := HW1b.out
        go_wp2_with fail
        go_quiet (fail)
        generalize nq = n2
        go_wp2_with fail
        go_wp2
        go_roundw
        case rel => exact ⟨k + 1, Lk, by omega, by go_num, hlk, OO.dn O _, only_drewN hg _, HN⟩
        case measure => (simp [intOf] <;> omega)
      by_cases hs3 : a5 = 3
      · subst hs3
        by_cases hy3 : y = 3
        · subst hy3
          have HN := HST 2 (by decide) (by decide)
          clear HSK2 HST
          go_quiet ((go_at_call 71; exact quiet_left (hin _)))
          generalize nq = n1
          have hw1 := HW1.out
          have hw1b := HW1b.out
          go_wp2_with fail
          go_quiet (fail)
          generalize nq = n2
          go_wp2_with fail
          go_upto_region 8 with fail
          replace O : OO _ _ _ _ _ _ _ := OO.dn O (n1 + n2)
          replace hg := only_drewN hg (n1 + n2)
          replace FF := BX.dnx FF (n1 + n2)
          replace hdw := BX.dnx hdw (n1 + n2)
          clear c1 hz0 hz1 ho0 f0 f1 f2 f3 f4 f5 f6 f7 d0 d1 d2 d3 d4
          generalize w2.drewN (n1 + n2) = w3 at O hg FF hdw ⊢
          have s1 := World.ownsRow.stored O (j * 2) (.string a4)
          have s2 := World.ownsRow.stored s1.1 (j * 2 + 1) (.int .i64 2)
          obtain ⟨t0, ht0⟩ := own_some O (j * 2) (by omega)
          have hy0 := World.ownsRow.frozenAt O (j * 2)
          obtain ⟨t1, ht1⟩ := own_some s1.1 (j * 2 + 1) (by omega)
          have hy1 := World.ownsRow.frozenAt s1.1 (j * 2 + 1)
          have f4 : (_ : Option Value) = some (.string a4) := FF.cell 4 (by simp)
          have OZ := s2.1
          replace OZ : OO _ _ _ _ _ _ (putV (flat fSector Lk) (j * 2) (fSector ⟨a4, 2⟩)) := OZ
          rw [setS Lk j hjk] at OZ
          have hgz := gr_trans (gr_trans hg s1.2) s2.2
          go_wp2
          go_roundw
          case rel => exact ⟨k + 1, Lk.set j ⟨a4, 2⟩, by omega, by go_num, by rw [List.length_set]; exact hlk, OZ, hgz, HN⟩
          case measure => (simp [intOf] <;> omega)
        have ny3 : (y == 3) = false := by simp [hy3]
        have my3 : (y != 3) = true := by simp [hy3]
        have HN := HSK2 (by simp [enOk, ny3])
        clear HSK2 HST
        go_quiet ((go_at_call 71; exact quiet_left (hin _)))
        generalize nq = n1
        have hw1 := HW1.out
        have hw1b := HW1b.out
        go_wp2_with fail
        go_quiet (fail)
        generalize nq = n2
        go_wp2_with fail
        go_wp2
        go_roundw
        case rel => exact ⟨k + 1, Lk, by omega, by go_num, hlk, OO.dn O _, only_drewN hg _, HN⟩
        case measure => (simp [intOf] <;> omega)
      have ns1 : (a5 == 1) = false := by simp [hs1]
      have ms1 : (a5 != 1) = true := by simp [hs1]
      have ns3 : (a5 == 3) = false := by simp [hs3]
      have ms3 : (a5 != 3) = true := by simp [hs3]
      have HN := HSK2 (by simp [enOk, ns1, ns3])
      clear HSK2 HST hs1 hs3
      go_quiet ((go_at_call 71; exact quiet_left (hin _)))
      generalize nq = n1
      go_wp2
      go_roundw
      case rel => exact ⟨k + 1, Lk, by omega, by go_num, hlk, OO.dn O _, only_drewN hg _, HN⟩
      case measure => (simp [intOf] <;> omega)
    · obtain rfl : k = xs.length := by omega
      have HE := enL_end (Nat.le_refl _) HI.out
      go_wp2
      refine bodyPost_end (v := .tuple #[]) (by simp [results, Try.results107, go_sem]) rfl ⟨_, rfl, by rw [← HE]; exact O, gr_trans hg1 hg⟩
end Go.Proofs.Yticnmljahnnhcaa
