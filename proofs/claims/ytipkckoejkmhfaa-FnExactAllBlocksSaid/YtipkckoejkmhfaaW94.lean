/- Walks: AllBlocks. -/
import Derived.Test.YtipkckoejkmhfaaW73
import Derived.Test.YtipkckoejkmhfaaSString
import Derived.Test.YtipkckoejkmhfaaPut
import Derived.Deep.RegionHeld3
namespace Go.Proofs.Ytipkckoejkmhfaa
open Go.RowKit
set_option linter.unusedVariables false

def abS (l : List DSector) (x : Int) : DSector := l.getD x.toNat noSec
def abV (l : List DSector) (n : Nat) (x : Int) : ByteArray := if rdB (abS l x).f1 then (abS l x).f0 else zerosB n
/-- The contents of the blocks, and the numbers of those that cannot be read. -/
def abL (l : List DSector) (n : Nat) (m : List Int) : List ByteArray := m.map (abV l n)
def abD (l : List DSector) : Nat → List Int → List Int
  | _, [] => []
  | i, x :: m => if rdB (abS l x).f1 then abD l (i + 1) m else (i : Int) :: abD l (i + 1) m
def abLL (ok : Bool) (l : List DSector) (n : Nat) (m : List Int) : List ByteArray := if ok then abL l n m else []
def abDD (ok : Bool) (l : List DSector) (m : List Int) : List Int := if ok then abD l 0 m else []
def abC (ok : Bool) : Int := if ok then 0 else 1
theorem abD_len (l : List DSector) : ∀ (m : List Int) (i : Nat), (abD l i m).length ≤ m.length
  | [], _ => by simp [abD]
  | x :: m, i => by
    have := abD_len l m (i + 1)
    rw [abD]
    split <;> simp only [List.length_cons] <;> omega
theorem abLL_len (ok : Bool) (l : List DSector) (n : Nat) (m : List Int) : (abLL ok l n m).length ≤ m.length := by
  unfold abLL
  split <;> simp [abL]
theorem abDD_len (ok : Bool) (l : List DSector) (m : List Int) : (abDD ok l m).length ≤ m.length := by
  unfold abDD
  split
  · exact abD_len l m 0
  · simp
section
variable {l : List DSector} {m : List Int} {n j X : Nat} {o5 R5 : List ByteArray} {o6 R6 : List Int}
theorem abS_at {x : Int} (hX : x = (X : Int)) (h : X < l.length) : abS l x = l[X] := by
  rw [abS, hX, Int.toNat_natCast]
  simp [h]
theorem ab_5 {v : ByteArray} (h : j < m.length) (hv : abV l n m[j] = v) (e : o5 ++ abL l n (m.drop j) = R5) : (o5 ++ [v]) ++ abL l n (m.drop (j + 1)) = R5 := by
  rw [List.drop_eq_getElem_cons h, abL, List.map_cons, hv] at e
  rw [List.append_assoc]
  exact e
theorem ab_6y (h : j < m.length) (g : rdB (abS l m[j]).f1 = true) (e : o6 ++ abD l j (m.drop j) = R6) : o6 ++ abD l (j + 1) (m.drop (j + 1)) = R6 := by
  rw [List.drop_eq_getElem_cons h, abD, if_pos g] at e
  exact e
theorem ab_6n (h : j < m.length) (g : rdB (abS l m[j]).f1 = false) (e : o6 ++ abD l j (m.drop j) = R6) : (o6 ++ [(j : Int)]) ++ abD l (j + 1) (m.drop (j + 1)) = R6 := by
  rw [List.drop_eq_getElem_cons h, abD, if_neg (by rw [g]; decide)] at e
  rw [List.append_assoc]
  exact e
theorem ab_5e (h : ¬ j < m.length) (e : o5 ++ abL l n (m.drop j) = R5) : R5 = o5 := by
  rw [← e, List.drop_eq_nil_of_le (by omega), abL, List.map_nil, List.append_nil]
theorem ab_6e (h : ¬ j < m.length) (e : o6 ++ abD l j (m.drop j) = R6) : R6 = o6 := by
  rw [← e, List.drop_eq_nil_of_le (by omega), abD, List.append_nil]
theorem ab_at {v : ByteArray} (h : j < m.length) (hv : abV l n m[j] = v) : (flat fS (abL l n m))[j]? = some (.string v) := by
  have := flat_get fS 1 fS_len (abL l n m) j 0 (by simpa [abL] using h) (by omega)
  rw [Nat.mul_one, Nat.add_zero] at this
  rw [this]
  simp [abL, fS, hv]
end
theorem ne_app {w : World} {base size k : Nat} {e : TypeId} {v v5 v' : Value} {xs : List Value} (h : OO w base e size v k xs) (hne : v.ownBlock = none ∨ v.ownBlock ≠ v5.ownBlock) (hat : v'.ownBlock = v5.ownBlock ∨ v'.ownBlock = some (w.heap.size + 1)) : v.ownBlock = none ∨ v.ownBlock ≠ v'.ownBlock := by
  rcases hat with hat | hat
  · rw [hat]; exact hne
  · rw [hat]
    right
    intro e
    have := World.ownsRow.lt h _ e
    omega
theorem FillC.junk {w : World} {g N m : Nat} {e : TypeId} {xs : List Value} (h : FillC w g e N xs m) (u : Value) : FillC (w.setCell ⟨g, m, none⟩ u) g e N xs m := by
  obtain ⟨cs, hg, hs, hc⟩ := h
  refine ⟨cs.setIfInBounds m u, ?_, by simpa using hs, fun j hj => ?_⟩
  · simp [World.setCell, Array.getElem?_modify, hg]
  · rw [Array.getElem?_setIfInBounds_ne (by omega)]
    exact hc j hj
theorem BB.trans' {w w1 w2 : World} (h : BB w w1) (h2 : Below (w.heap.size + 1) w1 w2) : BB w w2 := Below.trans h (h2.mono (by omega))
set_option maxRecDepth 100000 in
set_option maxHeartbeats 4000000 in
theorem spec_AllBlocks_any (c h p s : Int) (A : Option Addr) (cp : Nat) (l : List DSector) (k r : Int) (N : Option Addr) (q : Nat) (m : List Int) (w : World) (hr : Rd w w.heap.size 2 A l.length (flat fSector l)) (hn : l.length ≤ 1048576) (hok : ∀ x ∈ l, okSector x) (kr : Rd w w.heap.size 1 N m.length (flat fI m)) (kn : m.length ≤ 1048576) (hqc : m.length ≤ q) :
    Calls Try.prog 26 #[.agg #[.int .i64 c, .int .i64 h, .int .i64 p, .int .i64 s, .slice A l.length cp, .int .i64 k, .int .i64 r, .slice N m.length q]] w fun e w' => ∃ (v5 v6 : Value), e = .returned (.tuple #[v5, v6, .int .i64 (abC (okV (okD c h p s l) l.length k r m))]) ∧ w'.ownsRow w.heap.size 9 1 v5 (abLL (okV (okD c h p s l) l.length k r m) l (szB s).toNat m).length (flat fS (abLL (okV (okD c h p s l) l.length k r m) l (szB s).toNat m)) ∧ w'.ownsRow w.heap.size 2 1 v6 (abDD (okV (okD c h p s l) l.length k r m) l m).length (flat fI (abDD (okV (okD c h p s l) l.length k r m) l m)) ∧ (v6.ownBlock = none ∨ v6.ownBlock ≠ v5.ownBlock) ∧ Below w.heap.size w w' := by
  have F3 := BX.made w 57 [.int .i64 c, .int .i64 h, .int .i64 p, .int .i64 s, .slice A l.length cp, .int .i64 k, .int .i64 r, .slice N m.length q]
  obtain ⟨wb, hwb⟩ : ∃ wb, wb = w.alloc (.cells #[.int .i64 c, .int .i64 h, .int .i64 p, .int .i64 s, .slice A l.length cp, .int .i64 k, .int .i64 r, .slice N m.length q] 57) := ⟨_, rfl⟩
  rw [← hwb] at F3
  have hb0 : Below w.heap.size w wb := by rw [hwb]; exact (by with_reducible repeat (first | exact Below.refl _ _ | assumption | refine below_step ?_ (by assumption) | refine Below.drew ?_ | refine below_drewN ?_ _ | refine below_alloc ?_ _ | refine Below.setCell ?_ (by simp; try omega) _))
  have hs0 : w.heap.size < wb.heap.size := F3.lt
  have hrb := (hr.below hb0).more hb0.size
  have krb := (kr.below hb0).more hb0.size
  have HW := Lib.hid hwb
  clear hwb
  have hq := l15Ok_any w.heap.size c h p s A cp l k r N q m wb F3.cp hrb hn hok krb kn
  cases hv : (okV (okD c h p s l) l.length k r m)
  · rw [hv] at hq
    clear hv
    go_enter Try.func26, Try.ntmps26
    go_wp2_with ((go_at_call 45; rw [← HW.out]; refine hq.mono ?_; rintro e w2 ⟨rfl, hx⟩; replace F3 := F3.below hx F3.lt; have hB : BB w w2 := hb0.trans (hx.mono (by omega)); have e0 : (_ : Option Value) = some (.int .i64 c) := F3.cell 0 (by simp); have e1 : (_ : Option Value) = some (.int .i64 h) := F3.cell 1 (by simp); have e2 : (_ : Option Value) = some (.int .i64 p) := F3.cell 2 (by simp); have e3 : (_ : Option Value) = some (.int .i64 s) := F3.cell 3 (by simp); have e4 : (_ : Option Value) = some (.slice A l.length cp) := F3.cell 4 (by simp); have e5 : (_ : Option Value) = some (.int .i64 k) := F3.cell 5 (by simp); have e6 : (_ : Option Value) = some (.int .i64 r) := F3.cell 6 (by simp); have e7 : (_ : Option Value) = some (.slice N m.length q) := F3.cell 7 (by simp); have mk1 := True.intro))
    have hsz : w.heap.size ≤ w2.heap.size := Below.size hB
    have r5 : OO _ _ _ _ _ _ _ := own_lit0 (e := 9) (size := 1) w2 w.heap.size hsz
    have r6 : OO _ _ _ _ _ _ _ := own_lit0 (e := 2) (size := 1) (w2.alloc (.cells #[] 9)) (w2.alloc (.cells #[] 9)).heap.size (Nat.le_refl _)
    have rne := ne_flip (own_ne (OOf r5) (OOf r6) (Nat.le_refl _))
    replace r5 := OO.al r5 (.cells #[] 2)
    replace r6 : OO _ _ _ _ _ _ _ := own_base (base' := w.heap.size) r6 (by simp; omega)
    rw [World.size_alloc] at r6 rne
    have hBw : Below w.heap.size w w2 := hB
    (try simp only [Exit.inBlock, Exit.then]); refine bodyPost_ret (results_tmp3 rfl _ _ _) rfl ?_
    exact ⟨_, _, rfl, OOf r5, OOf r6, rne, (by with_reducible repeat (first | exact Below.refl _ _ | assumption | refine below_step ?_ (by assumption) | refine Below.drew ?_ | refine below_drewN ?_ _ | refine below_alloc ?_ _ | refine Below.setCell ?_ (by simp; try omega) _))⟩
  have hall := (okV_yes hv).2.2.2.2
  have hr1 := inB_yes (okV_yes hv).2.2.1
  have hml := (okV_yes hv).2.2.2.1
  obtain ⟨-, -, -, -, -, -, s1, s2⟩ := geoB_yes (okD_geo (okV_yes hv).1).1
  have hpos : 0 < l.length := by omega
  have hposm : 0 < m.length := by omega
  obtain ⟨nb, y1, y2, y3, y4⟩ := szB_nat s1 s2
  rw [hv] at hq
  rw [show abC true = 0 from rfl, show abLL true l (szB s).toNat m = abL l (szB s).toNat m from rfl, show abDD true l m = abD l 0 m from rfl, y4]
  clear hv hr1 hml
  go_enter Try.func26, Try.ntmps26
  go_wp2_with ((go_at_call 45; rw [← HW.out]; refine hq.mono ?_; rintro e w2 ⟨rfl, hx⟩; replace F3 := F3.below hx F3.lt; have hB : BB w w2 := hb0.trans (hx.mono (by omega)); have e0 : (_ : Option Value) = some (.int .i64 c) := F3.cell 0 (by simp); have e1 : (_ : Option Value) = some (.int .i64 h) := F3.cell 1 (by simp); have e2 : (_ : Option Value) = some (.int .i64 p) := F3.cell 2 (by simp); have e3 : (_ : Option Value) = some (.int .i64 s) := F3.cell 3 (by simp); have e4 : (_ : Option Value) = some (.slice A l.length cp) := F3.cell 4 (by simp); have e5 : (_ : Option Value) = some (.int .i64 k) := F3.cell 5 (by simp); have e6 : (_ : Option Value) = some (.int .i64 r) := F3.cell 6 (by simp); have e7 : (_ : Option Value) = some (.slice N m.length q) := F3.cell 7 (by simp); have mk1 := True.intro))
  clear hq HW hrb krb hb0
  clear e0 e1 e2 e3 e4 e5 e6 e7
  have l3 := F3.lt
  have hsz : w.heap.size ≤ w2.heap.size := Below.size hB
  have r5 : OO _ _ _ _ _ _ _ := own_lit0 (e := 9) (size := 1) w2 (w.heap.size + 1) l3
  have r6 : OO _ _ _ _ _ _ _ := own_lit0 (e := 2) (size := 1) (w2.alloc (.cells #[] 9)) (w2.alloc (.cells #[] 9)).heap.size (Nat.le_refl _)
  have rne := ne_flip (own_ne (OOf r5) (OOf r6) (Nat.le_refl _))
  replace r5 := OO.al r5 (.cells #[] 2)
  replace r6 : OO _ _ _ _ _ _ _ := own_base (base' := (w.heap.size + 1)) r6 (by simp; omega)
  rw [World.size_alloc] at r6 rne
  replace F3 := BX.al F3 (.cells #[] 9)
  replace hB := BB.al hB (.cells #[] 9)
  replace F3 := BX.al F3 (.cells #[] 2)
  replace hB := BB.al hB (.cells #[] 2)
  generalize (w2.alloc (.cells #[] 9)).alloc (.cells #[] 2) = w3 at *
  go_loopw [5, 6, 7] (fun v5 v6 i wr => ∃ (j : Nat) (o5 : List ByteArray) (o6 : List Int), j ≤ m.length ∧ i = .int .i64 j ∧ o5.length ≤ j ∧ o6.length ≤ j ∧ Hid (o5 ++ abL l nb (m.drop j) = abL l nb m) ∧ Hid (o6 ++ abD l j (m.drop j) = abD l 0 m) ∧ OO wr (w.heap.size + 1) 9 1 v5 o5.length (flat fS o5) ∧ OO wr (w.heap.size + 1) 2 1 v6 o6.length (flat fI o6) ∧ (v6.ownBlock = none ∨ v6.ownBlock ≠ v5.ownBlock) ∧ BX wr w.heap.size 57 [.int .i64 c, .int .i64 h, .int .i64 p, .int .i64 s, .slice A l.length cp, .int .i64 k, .int .i64 r, .slice N m.length q] ∧ BB w wr) (fun _ _ i _ => m.length - (intOf i).toNat)
  case atStart => exact ⟨0, [], [], Nat.zero_le _, rfl, Nat.zero_le _, Nat.zero_le _, Lib.hid rfl, Lib.hid rfl, r5, r6, rne, F3, hB⟩
  case round =>
    clear F3 hB r5 r6 rne l3 hsz
    obtain ⟨j, o5, o6, hj, rfl, hl5, hl6, H5, H6, ho5, ho6, hne, F3, hB⟩ := hrel
    have e7 : (_ : Option Value) = some (.slice N m.length q) := F3.cell 7 (by simp)
    by_cases hjl : j < m.length
    · have hji : (j : Int) < (m.length : Int) := by omega
      clear e7
      obtain ⟨x0, x1⟩ := hall m[j] (List.getElem_mem hjl)
      obtain ⟨X, hX⟩ : ∃ X : Nat, m[j] = (X : Int) := ⟨m[j].toNat, by omega⟩
      have hXl : X < l.length := by omega
      have hXi : (X : Int) < (l.length : Int) := by omega
      have hSE := abS_at hX hXl
      obtain ⟨dat, hdat⟩ : ∃ d, l[X].f0 = d := ⟨_, rfl⟩
      obtain ⟨st, hst⟩ : ∃ d, l[X].f1 = d := ⟨_, rfl⟩
      have hrd : rdB (abS l m[j]).f1 = rdB st := by rw [hSE, hst]
      have hav : abV l nb m[j] = if rdB st then dat else zerosB nb := by rw [abV, hSE, hst, hdat]
      obtain ⟨ba, offa, rfl, hba, hca⟩ := ((kr.below hB).more hB.size).at_ fI_len rfl j hjl
      have a0 := hca 0 _ (by omega) rfl
      obtain ⟨b2, off2, rfl, hb2, hcb⟩ := ((hr.below hB).more hB.size).at_ fSector_len rfl X hXl
      have a1 := hcb 0 _ (by omega) rfl
      have a2 := hcb 1 _ (by omega) rfl
      clear hca hcb
      simp only [Nat.mul_one, ← Nat.add_assoc, Nat.add_zero] at a0 a1 a2
      rw [hX] at a0
      rw [hdat] at a1
      rw [hst] at a2
      clear hSE hX hdat hst
      have a3 : (_ : Option Value) = some (.slice (some ⟨b2, off2, none⟩) l.length cp) := F3.cell 4 (by simp)
      have a4 : (_ : Option Value) = some (.slice (some ⟨ba, offa, none⟩) m.length q) := F3.cell 7 (by simp)
      have n0 := World.new_ne wr _ a0
      have n1 := World.new_ne wr _ a1
      have n2 := World.new_ne wr _ a2
      have n3 := World.new_ne wr _ a3
      have n4 := World.new_ne wr _ a4
      go_wp2_with fail
      go_region_held3 (fun W => W.cell? ⟨ba, offa + j, none⟩ = some (.int .i64 (X : Int)) ∧ W.cell? ⟨b2, off2 + X * 2, none⟩ = some (.string dat) ∧ W.cell? ⟨b2, off2 + X * 2 + 1, none⟩ = some (.int .i64 st) ∧ W.cell? ⟨w.heap.size, 4, none⟩ = some (.slice (some ⟨b2, off2, none⟩) l.length cp) ∧ W.cell? ⟨w.heap.size, 7, none⟩ = some (.slice (some ⟨ba, offa, none⟩) m.length q)) (go_keep) (fail)
      go_upto_region 9 with fail
      clear n0 n1 n2 n3 n4 a0 a1 a2 a3 a4
      have FS : BX (wr.alloc (.cells #[.string dat, .int .i64 st] 90)).drew wr.heap.size 90 [.string dat, .int .i64 st] := BX.made wr 90 [.string dat, .int .i64 st]
      replace F3 := BX.al F3 (.cells #[.string dat, .int .i64 st] 90)
      replace ho5 := OO.al ho5 (.cells #[.string dat, .int .i64 st] 90)
      replace ho6 := OO.al ho6 (.cells #[.string dat, .int .i64 st] 90)
      replace hB := BB.al hB (.cells #[.string dat, .int .i64 st] 90)
      replace F3 := BX.dr F3
      replace ho5 : OO _ _ _ _ _ _ _ := OO.dr ho5
      replace ho6 : OO _ _ _ _ _ _ _ := OO.dr ho6
      replace hB : BB w _ := BB.dr hB
      generalize wr.heap.size = GS at FS ⊢
      generalize (wr.alloc (.cells #[.string dat, .int .i64 st] 90)).drew = w9 at *
      have f0 : (_ : Option Value) = some (.string dat) := FS.cell 0 (by simp)
      have f1 : (_ : Option Value) = some (.int .i64 st) := FS.cell 1 (by simp)
      cases g : rdB st
      · rw [g] at hav hrd
        simp only [Bool.false_eq_true, if_false] at hav
        have H5N := Lib.hid (ab_5 hjl hav H5.out)
        have H6N := Lib.hid (ab_6n hjl hrd H6.out)
        clear hav hrd H5 H6
        go_wp2_with (first
              | (at_builtin; have := mk3; go_must (refine wpList_appF (f := fI) rfl _ _ _ rfl eltI (by omega) _ o6 rfl (OOf hk6) _ _ _ _ rfl rfl rfl (by intro u hu; simp only [fI, List.mem_cons, List.not_mem_nil, or_false] at hu; subst hu; rfl) (by omega) hsz2 ?_); intro v12 w12 hon2 hgn2 hatn2 hbln2; have hne1 := ne_flip hne; have hk5 : OO _ _ _ _ _ _ _ := World.ownsRow.kept (OO.al (show OO _ _ _ _ _ _ _ from hon1) _) hgn2 hne1; replace hne := ne_flip (ne_app (show OO _ _ _ _ _ _ _ from hon1) hne1 hatn2); replace F3 := F3.below hbln2 (show w.heap.size < w.heap.size + 1 by omega); replace hB : BB w _ := BB.trans' hB hbln2)
              | (at_builtin; have := mkz; go_must (refine wpList_appF (f := fS) rfl _ _ _ rfl eltStr (by omega) _ o5 rfl (OOf ho5) _ _ _ _ rfl rfl rfl (by intro u hu; simp only [fS, List.mem_cons, List.not_mem_nil, or_false] at hu; subst hu; rfl) (by omega) hsz ?_); intro v11 w11 hon1 hgn1 hatn1 hbln1; have hne0 := hne; replace hne := ne_app ho6 hne hatn1; have hk6 : OO _ _ _ _ _ _ _ := World.ownsRow.kept (OO.al ho6 _) hgn1 hne0; clear e3; replace F3 := F3.below hbln1 (show w.heap.size < w.heap.size + 1 by omega); replace hB : BB w _ := BB.trans' hB hbln1; have hsz2 : w.heap.size + 1 ≤ w11.heap.size := F3.lt; have mk3 := True.intro)
              | (go_at_call 47; refine (l01Zeros_any nb _ (by omega)).mono ?_; rintro e w10z ⟨rfl, hx11⟩; replace F3 := BX.below F3 hx11 F3.lt; replace ho5 := OO.next ho5 hx11; replace ho6 := OO.next ho6 hx11; replace hB := BB.next hB hx11; replace hsz := Nat.le_trans hsz (Below.size hx11); have mkz := True.intro)
              | (go_at_call 48; refine (l12Bytes_any s s1 s2 _).mono ?_; rintro e w10' ⟨rfl, rfl⟩; rw [y1])
              | (go_at_call 46; refine (l15Readable_any dat st _).mono ?_; rintro e w10 ⟨rfl, hx10⟩; rw [g]; clear f0 f1; replace F3 := BX.below F3 hx10 F3.lt; replace ho5 := OO.next ho5 hx10; replace ho6 := OO.next ho6 hx10; replace hB := BB.next hB hx10; replace FS := FS.below hx10 FS.lt; have f0 : (_ : Option Value) = some (.string dat) := FS.cell 0 (by simp); have e3 : (_ : Option Value) = some (.int .i64 s) := F3.cell 3 (by simp); have hsz : w.heap.size + 1 ≤ w10.heap.size := F3.lt; have mk2 := True.intro))
        go_roundw
        case rel => exact ⟨j + 1, _, _, by omega, by go_num, by rw [List.length_append, List.length_singleton]; omega, by rw [List.length_append, List.length_singleton]; omega, H5N, H6N, hk5, hon2, hne, F3, hB⟩
        case measure => (simp [intOf] <;> omega)
      · rw [g] at hav hrd
        simp only [if_true] at hav
        have H5N := Lib.hid (ab_5 hjl hav H5.out)
        have H6N := Lib.hid (ab_6y hjl hrd H6.out)
        clear hav hrd H5 H6
        go_wp2_with (first
              | (at_builtin; go_must (refine wpList_appF (f := fS) rfl _ _ _ rfl eltStr (by omega) _ o5 rfl (OOf ho5) _ _ _ _ rfl rfl rfl (by intro u hu; simp only [fS, List.mem_cons, List.not_mem_nil, or_false] at hu; subst hu; rfl) (by omega) hsz ?_); intro v11 w11 hon1 hgn1 hatn1 hbln1; have hne0 := hne; replace hne := ne_app ho6 hne hatn1; have hk6 : OO _ _ _ _ _ _ _ := World.ownsRow.kept (OO.al ho6 _) hgn1 hne0; clear e3 f0; replace F3 := F3.below hbln1 (show w.heap.size < w.heap.size + 1 by omega); replace hB : BB w _ := BB.trans' hB hbln1; have mk3 := True.intro)
              | (go_at_call 46; refine (l15Readable_any dat st _).mono ?_; rintro e w10 ⟨rfl, hx10⟩; rw [g]; clear f0 f1; replace F3 := BX.below F3 hx10 F3.lt; replace ho5 := OO.next ho5 hx10; replace ho6 := OO.next ho6 hx10; replace hB := BB.next hB hx10; replace FS := FS.below hx10 FS.lt; have f0 : (_ : Option Value) = some (.string dat) := FS.cell 0 (by simp); have e3 : (_ : Option Value) = some (.int .i64 s) := F3.cell 3 (by simp); have hsz : w.heap.size + 1 ≤ w10.heap.size := F3.lt; have mk2 := True.intro))
        go_roundw
        case rel => exact ⟨j + 1, _, _, by omega, by go_num, by rw [List.length_append, List.length_singleton]; omega, by omega, H5N, H6N, hon1, hk6, hne, F3, hB⟩
        case measure => (simp [intOf] <;> omega)
    have hjn : ¬ (j : Int) < (m.length : Int) := by omega
    have E5 := Lib.hid (ab_5e hjl H5.out)
    have E6 := Lib.hid (ab_6e hjl H6.out)
    have hsw := F3.lt
    go_wp2
    (try simp only [Exit.inBlock, Exit.then]); refine bodyPost_ret (results_tmp3 rfl _ _ _) rfl ?_
    refine ⟨_, _, rfl, ?_, ?_, hne, hB⟩
    · rw [E5.out]; exact own_base (base' := w.heap.size) ho5 (by omega)
    · rw [E6.out]; exact own_base (base' := w.heap.size) ho6 (by omega)
end Go.Proofs.Ytipkckoejkmhfaa
