/- Walks: ChangedSectors. -/
import Derived.Test.YtcoidpooghmppaaW42
import Derived.Test.YtcoidpooghmppaaW15
import Derived.Test.YtcoidpooghmppaaW32
import Derived.Test.YtcoidpooghmppaaStep
namespace Go.Proofs.Ytcoidpooghmppaa
open Go.RowKit
set_option linter.unusedVariables false

def chG : Nat → List DSector → List DSector → List Int
  | i, x :: l, y :: m => if qSec x y then chG (i + 1) l m else (i : Int) :: chG (i + 1) l m
  | _, [], _ => []
  | _, _ :: _, [] => []
theorem chG_same {l m : List DSector} {k : Nat} (h1 : k < l.length) (h2 : k < m.length) (h : qSec l[k] m[k] = true) {out R : List Int} (e : out ++ chG k (l.drop k) (m.drop k) = R) : out ++ chG (k + 1) (l.drop (k + 1)) (m.drop (k + 1)) = R := by
  rw [List.drop_eq_getElem_cons h1, List.drop_eq_getElem_cons h2, chG, if_pos h] at e
  exact e
theorem chG_diff {l m : List DSector} {k : Nat} (h1 : k < l.length) (h2 : k < m.length) (h : qSec l[k] m[k] = false) {out R : List Int} (e : out ++ chG k (l.drop k) (m.drop k) = R) : (out ++ [(k : Int)]) ++ chG (k + 1) (l.drop (k + 1)) (m.drop (k + 1)) = R := by
  rw [List.drop_eq_getElem_cons h1, List.drop_eq_getElem_cons h2, chG, if_neg (by simp [h])] at e
  rw [List.append_assoc]
  exact e
theorem chG_end {l m : List DSector} {k : Nat} (h1 : ¬ k < l.length) {out R : List Int} (e : out ++ chG k (l.drop k) (m.drop k) = R) : out = R := by
  rw [List.drop_eq_nil_of_le (by omega), chG, List.append_nil] at e
  exact e
theorem chG_len : ∀ (l m : List DSector) (k : Nat), (chG k l m).length ≤ l.length
  | [], _, _ => by simp [chG]
  | _ :: _, [], _ => by simp [chG]
  | x :: l, y :: m, k => by
    have := chG_len l m (k + 1)
    rw [chG]
    split
    · simp only [List.length_cons]; omega
    · simp only [List.length_cons]; omega
theorem alike_eq {c h p s c' h' p' s' : Int} (g : alikeB c h p s c' h' p' s' = true) : c = c' ∧ h = h' ∧ p = p' ∧ s = s' := by
  simpa [alikeB, and_assoc] using g
/-- The list and the code of ChangedSectors: x, y say whether the discs are valid, z whether they are alike. -/
def chL (x y z : Bool) (l m : List DSector) : List Int := if x && y && z then chG 0 l m else []
def chC (x y z : Bool) : Int := if x && y then (if z then 0 else 6) else 1
theorem chL_len (x y z : Bool) (l m : List DSector) : (chL x y z l m).length ≤ l.length := by
  unfold chL
  split
  · exact chG_len l m 0
  · simp
theorem chL_1 {y z : Bool} {l m : List DSector} : chL false y z l m = [] := by simp [chL]
theorem chL_2 {z : Bool} {l m : List DSector} : chL true false z l m = [] := by simp [chL]
theorem chL_3 {l m : List DSector} : chL true true false l m = [] := by simp [chL]
theorem chL_4 {l m : List DSector} : chL true true true l m = chG 0 l m := by simp [chL]
theorem chC_1 {y z : Bool} : chC false y z = 1 := by simp [chC]
theorem chC_2 {z : Bool} : chC true false z = 1 := by simp [chC]
set_option maxRecDepth 100000 in
set_option maxHeartbeats 1000000 in
theorem spec_ChangedSectors_any (c h p s c' h' p' s' : Int) (A A' : Option Addr) (cp cp' : Nat) (l m : List DSector) (w : World)
    (hr : Rd w w.heap.size 2 A l.length (flat fSector l)) (hr' : Rd w w.heap.size 2 A' m.length (flat fSector m)) (hn : l.length ≤ 1048576) (hn' : m.length ≤ 1048576) (hok : ∀ x ∈ l, okSector x) (hok' : ∀ x ∈ m, okSector x) :
    Calls Try.prog 33 #[.agg #[.int .i64 c, .int .i64 h, .int .i64 p, .int .i64 s, .slice A l.length cp], .agg #[.int .i64 c', .int .i64 h', .int .i64 p', .int .i64 s', .slice A' m.length cp']] w fun e w' => ∃ v, e = .returned (.tuple #[v, .int .i64 (chC (okD c h p s l) (okD c' h' p' s' m) (alikeB c h p s c' h' p' s'))]) ∧ w'.ownsRow w.heap.size 2 1 v (chL (okD c h p s l) (okD c' h' p' s' m) (alikeB c h p s c' h' p' s') l m).length (flat fI (chL (okD c h p s l) (okD c' h' p' s' m) (alikeB c h p s c' h' p' s') l m)) ∧ Below w.heap.size w w' := by
  have hq1 := fun W hd hr => l12Ok_any w.heap.size c h p s A cp l W hd hr hn hok
  have hq2 := fun W hd hr => l12Ok_any (w.heap.size + 1) c' h' p' s' A' cp' m W hd hr hn' hok'
  have hal := fun W h1 h2 => l12Alike_any w.heap.size (w.heap.size + 1) c h p s c' h' p' s' (.slice A l.length cp) (.slice A' m.length cp') W h1 h2
  have E0 := (DP.made w c h p s (.slice A l.length cp) 24).alloc (.cells #[.int .i64 c', .int .i64 h', .int .i64 p', .int .i64 s', .slice A' m.length cp'] 24)
  have E1 := DP.made1 w (.cells #[.int .i64 c, .int .i64 h, .int .i64 p, .int .i64 s, .slice A l.length cp] 24) c' h' p' s' (.slice A' m.length cp') 24
  have hb0 : Below w.heap.size w ((w.alloc (.cells #[.int .i64 c, .int .i64 h, .int .i64 p, .int .i64 s, .slice A l.length cp] 24)).alloc (.cells #[.int .i64 c', .int .i64 h', .int .i64 p', .int .i64 s', .slice A' m.length cp'] 24)) := (by with_reducible repeat (first | exact Below.refl _ _ | assumption | refine below_step ?_ (by assumption) | refine Below.drew ?_ | refine below_drewN ?_ _ | refine below_alloc ?_ _ | refine Below.setCell ?_ (by simp; try omega) _))
  cases hx : okD c h p s l
  · rw [hx] at hq1
    have hL := Lib.hid (chL_1 (y := okD c' h' p' s' m) (z := alikeB c h p s c' h' p' s') (l := l) (m := m))
    have hC := Lib.hid (chC_1 (y := okD c' h' p' s' m) (z := alikeB c h p s c' h' p' s'))
    rw [hC.out]
    go_enter Try.func33, Try.ntmps33
    go_wp2_with (first
      | (go_at_call 79; refine (hq1 _ E0 ((hr.below hb0).more hb0.size)).mono ?_; rintro e w1 ⟨rfl, hx1⟩; replace E0 := E0.next hx1; replace E1 := E1.next hx1; have hb1 := below_step hb0 hx1; have m1 := True.intro))
    (try simp only [Exit.inBlock, Exit.then]); refine bodyPost_ret (results_tmp2 rfl _ _ _) rfl ?_
    exact ⟨_, rfl, by rw [hL.out]; exact own_lit0 _ _ (Below.size hb1), (by with_reducible repeat (first | exact Below.refl _ _ | assumption | refine below_step ?_ (by assumption) | refine Below.drew ?_ | refine below_drewN ?_ _ | refine below_alloc ?_ _ | refine Below.setCell ?_ (by simp; try omega) _))⟩
  rw [hx] at hq1
  cases hy : okD c' h' p' s' m
  · rw [hy] at hq2
    have hL := Lib.hid (chL_2 (z := alikeB c h p s c' h' p' s') (l := l) (m := m))
    have hC := Lib.hid (chC_2 (z := alikeB c h p s c' h' p' s'))
    rw [hC.out]
    go_enter Try.func33, Try.ntmps33
    go_wp2_with (first
      | (go_at_call 79; have := m1; refine (hq2 _ E1 ((hr'.below hb1).more hb1.size)).mono ?_; rintro e w2 ⟨rfl, hx2⟩; replace E0 := E0.next hx2; replace E1 := E1.next hx2; have hb2 := below_step hb1 hx2; have m2 := True.intro)
      | (go_at_call 79; refine (hq1 _ E0 ((hr.below hb0).more hb0.size)).mono ?_; rintro e w1 ⟨rfl, hx1⟩; replace E0 := E0.next hx1; replace E1 := E1.next hx1; have hb1 := below_step hb0 hx1; have m1 := True.intro))
    (try simp only [Exit.inBlock, Exit.then]); refine bodyPost_ret (results_tmp2 rfl _ _ _) rfl ?_
    exact ⟨_, rfl, by rw [hL.out]; exact own_lit0 _ _ (Below.size hb2), (by with_reducible repeat (first | exact Below.refl _ _ | assumption | refine below_step ?_ (by assumption) | refine Below.drew ?_ | refine below_drewN ?_ _ | refine below_alloc ?_ _ | refine Below.setCell ?_ (by simp; try omega) _))⟩
  rw [hy] at hq2
  cases hz : alikeB c h p s c' h' p' s'
  · rw [hz] at hal
    have hL := Lib.hid (chL_3 (l := l) (m := m))
    have hC := Lib.hid (show chC true true false = 6 from rfl)
    rw [hC.out]
    go_enter Try.func33, Try.ntmps33
    go_wp2_with (first
      | (go_at_call 89; have := m2; refine (hal _ E0 E1).mono ?_; rintro e w3 ⟨rfl, n3, rfl⟩; replace E0 := E0.drewN n3; replace E1 := E1.drewN n3; have hb3 := below_drewN hb2 n3; obtain ⟨d0, d1, d2, d3, d4⟩ := id E0; obtain ⟨e0, e1, e2, e3, e4⟩ := id E1)
      | (go_at_call 79; have := m1; refine (hq2 _ E1 ((hr'.below hb1).more hb1.size)).mono ?_; rintro e w2 ⟨rfl, hx2⟩; replace E0 := E0.next hx2; replace E1 := E1.next hx2; have hb2 := below_step hb1 hx2; have m2 := True.intro)
      | (go_at_call 79; refine (hq1 _ E0 ((hr.below hb0).more hb0.size)).mono ?_; rintro e w1 ⟨rfl, hx1⟩; replace E0 := E0.next hx1; replace E1 := E1.next hx1; have hb1 := below_step hb0 hx1; have m1 := True.intro))
    (try simp only [Exit.inBlock, Exit.then]); refine bodyPost_ret (results_tmp2 rfl _ _ _) rfl ?_
    exact ⟨_, rfl, by rw [hL.out]; exact own_lit0 _ _ (Below.size hb3), (by with_reducible repeat (first | exact Below.refl _ _ | assumption | refine below_step ?_ (by assumption) | refine Below.drew ?_ | refine below_drewN ?_ _ | refine below_alloc ?_ _ | refine Below.setCell ?_ (by simp; try omega) _))⟩
  have hlm : Hid (l.length = m.length) := Lib.hid (by
    obtain ⟨_, h1, _⟩ := okD_geo hx
    obtain ⟨_, h2, _⟩ := okD_geo hy
    obtain ⟨e1, e2, e3, _⟩ := alike_eq hz
    rw [e1, e2, e3] at h1
    omega)
  have hL := Lib.hid (chL_4 (l := l) (m := m))
  have hC := Lib.hid (show chC true true true = 0 from rfl)
  have HLL := Lib.hid (chL_len true true true l m)
  rw [hC.out]
  rw [hz] at hal
  have HZ := Lib.hid hz
  clear hx hy hz
  go_enter Try.func33, Try.ntmps33
  go_wp2_with (first
    | (go_at_call 89; have := m2; refine (hal _ E0 E1).mono ?_; rintro e w3 ⟨rfl, n3, rfl⟩; replace E0 := E0.drewN n3; replace E1 := E1.drewN n3; have hb3 := below_drewN hb2 n3; obtain ⟨d0, d1, d2, d3, d4⟩ := id E0; obtain ⟨e0, e1, e2, e3, e4⟩ := id E1)
    | (go_at_call 79; have := m1; refine (hq2 _ E1 ((hr'.below hb1).more hb1.size)).mono ?_; rintro e w2 ⟨rfl, hx2⟩; replace E0 := E0.next hx2; replace E1 := E1.next hx2; have hb2 := below_step hb1 hx2; have m2 := True.intro)
    | (go_at_call 79; refine (hq1 _ E0 ((hr.below hb0).more hb0.size)).mono ?_; rintro e w1 ⟨rfl, hx1⟩; replace E0 := E0.next hx1; replace E1 := E1.next hx1; have hb1 := below_step hb0 hx1; have m1 := True.intro))
  have hs3 := hb3.size
  go_loopw [6, 7] (fun v i wr => ∃ (k : Nat) (out : List Int), k ≤ l.length ∧ i = .int .i64 k ∧ wr.ownsRow (w2.drewN n3).heap.size 2 1 v out.length (flat fI out) ∧ Below (w2.drewN n3).heap.size (w2.drewN n3) wr ∧ out.length ≤ k ∧ Hid (out ++ chG k (l.drop k) (m.drop k) = chG 0 l m)) (fun _ i _ => l.length - (intOf i).toNat)
  case atStart => exact ⟨0, [], Nat.zero_le _, rfl, own_lit0 _ _, (by with_reducible repeat (first | exact Below.refl _ _ | assumption | refine below_step ?_ (by assumption) | refine Below.drew ?_ | refine below_drewN ?_ _ | refine below_alloc ?_ _ | refine Below.setCell ?_ (by simp; try omega) _)), Nat.zero_le _, Lib.hid rfl⟩
  case round =>
    obtain ⟨k, out, hk, rfl, hown, hb, hol, HI⟩ := hrel
    obtain ⟨d0, d1, d2, d3, d4⟩ := E0.next hb
    obtain ⟨e0, e1, e2, e3, e4⟩ := E1.next hb
    have hs4 := hb.size
    by_cases hlt : k < l.length
    · have hlt' : k < m.length := by have := hlm.out; omega
      obtain ⟨b, off, rfl, hbb, hc⟩ := hr.at_ fSector_len rfl k hlt
      obtain ⟨b', off', rfl, hbb', hd'⟩ := hr'.at_ fSector_len rfl k hlt'
      have hB := hb3.trans (hb.mono hs3)
      have hc0 := (hB.cell (p := ⟨b, off + (k * 2 + 0), none⟩) hbb).trans (hc 0 _ (by omega) rfl)
      have hd0 := (hB.cell (p := ⟨b', off' + (k * 2 + 0), none⟩) hbb').trans (hd' 0 _ (by omega) rfl)
      have hc1 := (hB.cell (p := ⟨b, off + (k * 2 + 1), none⟩) hbb).trans (hc 1 _ (by omega) rfl)
      have hd1 := (hB.cell (p := ⟨b', off' + (k * 2 + 1), none⟩) hbb').trans (hd' 1 _ (by omega) rfl)
      clear hc hd'
      simp only [← Nat.add_assoc, Nat.add_zero] at hc0 hd0 hc1 hd1
      have hkm : (k : Int) < (m.length : Int) := by omega
      have q1 : Try.prog.stoodInHeld 47 = false := by kernel_rfl
      have q2 : Try.prog.eqGuardType Try.prog.depth 47 = false := by kernel_rfl
      have HS := Lib.hid (fun g => chG_same hlt hlt' g HI.out)
      have HD := Lib.hid (fun g => chG_diff hlt hlt' g HI.out)
      cases s0 : (l[k].f0.toList == m[k].f0.toList)
      · have HN := Lib.hid (HD.out (by unfold qSec; rw [s0]; rfl))
        go_wp2_with fail
        go_quiet (fail)
        replace hb := below_drewN hb nq
        replace hown : OO _ _ _ _ _ _ _ := OO.dn hown nq
        have hsz : (w2.drewN n3).heap.size ≤ (wr.drewN nq).heap.size := hb.size
        generalize wr.drewN nq = w4 at hb hown hsz ⊢
        go_wp2_with (at_builtin; go_must (refine wpList_appF (f := fI) rfl _ _ _ rfl eltI (by omega) _ out rfl (OOf hown) _ _ _ _ rfl rfl rfl (by intro u hu; simp only [fI, List.mem_cons, List.not_mem_nil, or_false] at hu; subst hu; rfl) (by omega) hsz ?_); intro v5 w5 hown5 hg5 hat5 hbl5)
        go_roundw
        case rel => exact ⟨k + 1, _, by omega, by go_num, hown5, hb.trans hbl5, by rw [List.length_append, List.length_singleton]; omega, HN⟩
        case measure => (simp [intOf] <;> omega)
      cases s1 : (l[k].f1 == m[k].f1)
      · have HN := Lib.hid (HD.out (by unfold qSec; rw [s0, s1]; rfl))
        go_wp2_with fail
        go_quiet (fail)
        replace hb := below_drewN hb nq
        replace hown : OO _ _ _ _ _ _ _ := OO.dn hown nq
        have hsz : (w2.drewN n3).heap.size ≤ (wr.drewN nq).heap.size := hb.size
        generalize wr.drewN nq = w4 at hb hown hsz ⊢
        go_wp2_with (at_builtin; go_must (refine wpList_appF (f := fI) rfl _ _ _ rfl eltI (by omega) _ out rfl (OOf hown) _ _ _ _ rfl rfl rfl (by intro u hu; simp only [fI, List.mem_cons, List.not_mem_nil, or_false] at hu; subst hu; rfl) (by omega) hsz ?_); intro v5 w5 hown5 hg5 hat5 hbl5)
        go_roundw
        case rel => exact ⟨k + 1, _, by omega, by go_num, hown5, hb.trans hbl5, by rw [List.length_append, List.length_singleton]; omega, HN⟩
        case measure => (simp [intOf] <;> omega)
      have HN := Lib.hid (HS.out (by unfold qSec; rw [s0, s1]; rfl))
      go_wp2_with fail
      go_quiet (fail)
      go_wp2
      go_roundw
      case rel => exact ⟨k + 1, _, by omega, by go_num, hown, (by with_reducible repeat (first | exact Below.refl _ _ | assumption | refine below_step ?_ (by assumption) | refine Below.drew ?_ | refine below_drewN ?_ _ | refine below_alloc ?_ _ | refine Below.setCell ?_ (by simp; try omega) _)), by omega, HN⟩
      case measure => (simp [intOf] <;> omega)
    · have HE := Lib.hid (chG_end hlt HI.out)
      go_wp2
      (try simp only [Exit.inBlock, Exit.then]); refine bodyPost_ret (results_tmp2 rfl _ _ _) rfl ?_
      exact ⟨_, rfl, by rw [hL.out, ← HE.out]; exact own_base hown hs3, hb3.trans (hb.mono hs3)⟩
set_option maxRecDepth 100000 in
set_option maxHeartbeats 1000000 in
theorem impl_ChangedSectors_any (c h p s c' h' p' s' : Int) (A A' : Option Addr) (cp cp' : Nat) (l m : List DSector) (w : World)
    (hr : Rd w w.heap.size 2 A l.length (flat fSector l)) (hr' : Rd w w.heap.size 2 A' m.length (flat fSector m)) (hn : l.length ≤ 1048576) (hn' : m.length ≤ 1048576) (hok : ∀ x ∈ l, okSector x) (hok' : ∀ x ∈ m, okSector x) :
    Calls Try.prog 34 #[.agg #[.int .i64 c, .int .i64 h, .int .i64 p, .int .i64 s, .slice A l.length cp], .agg #[.int .i64 c', .int .i64 h', .int .i64 p', .int .i64 s', .slice A' m.length cp']] w fun e w' => ∃ v, e = .returned (.tuple #[v, .int .i64 (chC (okD c h p s l) (okD c' h' p' s' m) (alikeB c h p s c' h' p' s'))]) ∧ w'.ownsRow w.heap.size 2 1 v (chL (okD c h p s l) (okD c' h' p' s' m) (alikeB c h p s c' h' p' s') l m).length (flat fI (chL (okD c h p s l) (okD c' h' p' s' m) (alikeB c h p s c' h' p' s') l m)) ∧ Below w.heap.size w w' := by
  have hq1 := fun W hr => impl_ValidDisc_any c h p s A cp l W hr hn hok
  have hq2 := fun W hr => impl_ValidDisc_any c' h' p' s' A' cp' m W hr hn' hok'
  have E0 := (DP.made w c h p s (.slice A l.length cp) 24).alloc (.cells #[.int .i64 c', .int .i64 h', .int .i64 p', .int .i64 s', .slice A' m.length cp'] 24)
  have E1 := DP.made1 w (.cells #[.int .i64 c, .int .i64 h, .int .i64 p, .int .i64 s, .slice A l.length cp] 24) c' h' p' s' (.slice A' m.length cp') 24
  have hb0 : Below w.heap.size w ((w.alloc (.cells #[.int .i64 c, .int .i64 h, .int .i64 p, .int .i64 s, .slice A l.length cp] 24)).alloc (.cells #[.int .i64 c', .int .i64 h', .int .i64 p', .int .i64 s', .slice A' m.length cp'] 24)) := (by with_reducible repeat (first | exact Below.refl _ _ | assumption | refine below_step ?_ (by assumption) | refine Below.drew ?_ | refine below_drewN ?_ _ | refine below_alloc ?_ _ | refine Below.setCell ?_ (by simp; try omega) _))
  cases hx : okD c h p s l
  · rw [hx] at hq1
    have hL := Lib.hid (chL_1 (y := okD c' h' p' s' m) (z := alikeB c h p s c' h' p' s') (l := l) (m := m))
    have hC := Lib.hid (chC_1 (y := okD c' h' p' s' m) (z := alikeB c h p s c' h' p' s'))
    rw [hC.out]
    go_enter Try.func34, Try.ntmps34
    go_wp2_with (first
      | (go_at_call 84; refine (hq1 _ ((hr.below hb0).more hb0.size)).mono ?_; rintro e w1 ⟨rfl, hx1⟩; replace E0 := E0.next hx1; replace E1 := E1.next hx1; have hb1 := below_step hb0 hx1; obtain ⟨d0, d1, d2, d3, d4⟩ := id E0; obtain ⟨e0, e1, e2, e3, e4⟩ := id E1; have m1 := True.intro))
    (try simp only [Exit.inBlock, Exit.then]); refine bodyPost_ret (results_tmp2 rfl _ _ _) rfl ?_
    exact ⟨_, rfl, by rw [hL.out]; exact World.ownsRow_nil _ _ _ _, (by with_reducible repeat (first | exact Below.refl _ _ | assumption | refine below_step ?_ (by assumption) | refine Below.drew ?_ | refine below_drewN ?_ _ | refine below_alloc ?_ _ | refine Below.setCell ?_ (by simp; try omega) _))⟩
  rw [hx] at hq1
  cases hy : okD c' h' p' s' m
  · rw [hy] at hq2
    have hL := Lib.hid (chL_2 (z := alikeB c h p s c' h' p' s') (l := l) (m := m))
    have hC := Lib.hid (chC_2 (z := alikeB c h p s c' h' p' s'))
    rw [hC.out]
    go_enter Try.func34, Try.ntmps34
    go_wp2_with (first
      | (go_at_call 84; have := m1; refine (hq2 _ ((hr'.below hb1).more hb1.size)).mono ?_; rintro e w2 ⟨rfl, hx2⟩; replace E0 := E0.next hx2; replace E1 := E1.next hx2; have hb2 := below_step hb1 hx2; clear d0 d1 d2 d3 d4 e0 e1 e2 e3 e4; obtain ⟨d0, d1, d2, d3, d4⟩ := id E0; obtain ⟨e0, e1, e2, e3, e4⟩ := id E1; have m2 := True.intro)
      | (go_at_call 84; refine (hq1 _ ((hr.below hb0).more hb0.size)).mono ?_; rintro e w1 ⟨rfl, hx1⟩; replace E0 := E0.next hx1; replace E1 := E1.next hx1; have hb1 := below_step hb0 hx1; obtain ⟨d0, d1, d2, d3, d4⟩ := id E0; obtain ⟨e0, e1, e2, e3, e4⟩ := id E1; have m1 := True.intro))
    (try simp only [Exit.inBlock, Exit.then]); refine bodyPost_ret (results_tmp2 rfl _ _ _) rfl ?_
    exact ⟨_, rfl, by rw [hL.out]; exact World.ownsRow_nil _ _ _ _, (by with_reducible repeat (first | exact Below.refl _ _ | assumption | refine below_step ?_ (by assumption) | refine Below.drew ?_ | refine below_drewN ?_ _ | refine below_alloc ?_ _ | refine Below.setCell ?_ (by simp; try omega) _))⟩
  rw [hy] at hq2
  cases hz : alikeB c h p s c' h' p' s'
  · have hL := Lib.hid (chL_3 (l := l) (m := m))
    have hC := Lib.hid (show chC true true false = 6 from rfl)
    rw [hC.out]
    go_enter Try.func34, Try.ntmps34
    go_wp2_with (first
      | (go_at_call 90; have := m2; refine (sameGeometry_any c h p s c' h' p' s' _ _ _ rfl rfl).mono ?_; rintro e w3 ⟨rfl, hx3⟩; rw [hz]; replace E0 := E0.next hx3; replace E1 := E1.next hx3; have hb3 := below_step hb2 hx3; clear d0 d1 d2 d3 d4 e0 e1 e2 e3 e4; obtain ⟨d0, d1, d2, d3, d4⟩ := id E0; obtain ⟨e0, e1, e2, e3, e4⟩ := id E1)
      | (go_at_call 84; have := m1; refine (hq2 _ ((hr'.below hb1).more hb1.size)).mono ?_; rintro e w2 ⟨rfl, hx2⟩; replace E0 := E0.next hx2; replace E1 := E1.next hx2; have hb2 := below_step hb1 hx2; clear d0 d1 d2 d3 d4 e0 e1 e2 e3 e4; obtain ⟨d0, d1, d2, d3, d4⟩ := id E0; obtain ⟨e0, e1, e2, e3, e4⟩ := id E1; have m2 := True.intro)
      | (go_at_call 84; refine (hq1 _ ((hr.below hb0).more hb0.size)).mono ?_; rintro e w1 ⟨rfl, hx1⟩; replace E0 := E0.next hx1; replace E1 := E1.next hx1; have hb1 := below_step hb0 hx1; obtain ⟨d0, d1, d2, d3, d4⟩ := id E0; obtain ⟨e0, e1, e2, e3, e4⟩ := id E1; have m1 := True.intro))
    (try simp only [Exit.inBlock, Exit.then]); refine bodyPost_ret (results_tmp2 rfl _ _ _) rfl ?_
    exact ⟨_, rfl, by rw [hL.out]; exact World.ownsRow_nil _ _ _ _, (by with_reducible repeat (first | exact Below.refl _ _ | assumption | refine below_step ?_ (by assumption) | refine Below.drew ?_ | refine below_drewN ?_ _ | refine below_alloc ?_ _ | refine Below.setCell ?_ (by simp; try omega) _))⟩
  have hlm : Hid (l.length = m.length) := Lib.hid (by
    obtain ⟨_, h1, _⟩ := okD_geo hx
    obtain ⟨_, h2, _⟩ := okD_geo hy
    obtain ⟨e1, e2, e3, _⟩ := alike_eq hz
    rw [e1, e2, e3] at h1
    omega)
  have hL := Lib.hid (chL_4 (l := l) (m := m))
  have hC := Lib.hid (show chC true true true = 0 from rfl)
  have HLL := Lib.hid (chL_len true true true l m)
  rw [hC.out]
  have HZ := Lib.hid hz
  clear hx hy hz
  go_enter Try.func34, Try.ntmps34
  go_wp2_with (first
    | (go_at_call 90; have := m2; refine (sameGeometry_any c h p s c' h' p' s' _ _ _ rfl rfl).mono ?_; rintro e w3 ⟨rfl, hx3⟩; rw [HZ.out]; replace E0 := E0.next hx3; replace E1 := E1.next hx3; have hb3 := below_step hb2 hx3; clear d0 d1 d2 d3 d4 e0 e1 e2 e3 e4; obtain ⟨d0, d1, d2, d3, d4⟩ := id E0; obtain ⟨e0, e1, e2, e3, e4⟩ := id E1)
    | (go_at_call 84; have := m1; refine (hq2 _ ((hr'.below hb1).more hb1.size)).mono ?_; rintro e w2 ⟨rfl, hx2⟩; replace E0 := E0.next hx2; replace E1 := E1.next hx2; have hb2 := below_step hb1 hx2; clear d0 d1 d2 d3 d4 e0 e1 e2 e3 e4; obtain ⟨d0, d1, d2, d3, d4⟩ := id E0; obtain ⟨e0, e1, e2, e3, e4⟩ := id E1; have m2 := True.intro)
    | (go_at_call 84; refine (hq1 _ ((hr.below hb0).more hb0.size)).mono ?_; rintro e w1 ⟨rfl, hx1⟩; replace E0 := E0.next hx1; replace E1 := E1.next hx1; have hb1 := below_step hb0 hx1; obtain ⟨d0, d1, d2, d3, d4⟩ := id E0; obtain ⟨e0, e1, e2, e3, e4⟩ := id E1; have m1 := True.intro))
  have hs3 := hb3.size
  go_loopw [6, 7, 8, 24] (fun v _ _ i wr => ∃ (k : Nat) (out : List Int), k ≤ l.length ∧ i = .int .i64 k ∧ wr.ownsRow w3.heap.size 2 1 v out.length (flat fI out) ∧ Below w3.heap.size w3 wr ∧ out.length ≤ k ∧ Hid (out ++ chG k (l.drop k) (m.drop k) = chG 0 l m)) (fun _ _ _ i _ => l.length - (intOf i).toNat)
  case atStart => exact ⟨0, [], Nat.zero_le _, rfl, World.ownsRow_nil _ _ _ _, Below.refl _ _, Nat.zero_le _, Lib.hid rfl⟩
  case round =>
    obtain ⟨k, out, hk, rfl, hown, hb, hol, HI⟩ := hrel
    obtain ⟨d0, d1, d2, d3, d4⟩ := E0.next hb
    obtain ⟨e0, e1, e2, e3, e4⟩ := E1.next hb
    have hs4 := hb.size
    by_cases hlt : k < l.length
    · have hlt' : k < m.length := by have := hlm.out; omega
      obtain ⟨b, off, rfl, hbb, hc⟩ := hr.at_ fSector_len rfl k hlt
      obtain ⟨b', off', rfl, hbb', hd'⟩ := hr'.at_ fSector_len rfl k hlt'
      have hB := hb3.trans (hb.mono hs3)
      have hc0 := (hB.cell (p := ⟨b, off + (k * 2 + 0), none⟩) hbb).trans (hc 0 _ (by omega) rfl)
      have hd0 := (hB.cell (p := ⟨b', off' + (k * 2 + 0), none⟩) hbb').trans (hd' 0 _ (by omega) rfl)
      have hc1 := (hB.cell (p := ⟨b, off + (k * 2 + 1), none⟩) hbb).trans (hc 1 _ (by omega) rfl)
      have hd1 := (hB.cell (p := ⟨b', off' + (k * 2 + 1), none⟩) hbb').trans (hd' 1 _ (by omega) rfl)
      clear hc hd'
      simp only [← Nat.add_assoc, Nat.add_zero] at hc0 hd0 hc1 hd1
      have hkm : (k : Int) < (m.length : Int) := by omega
      have q1 : Try.prog.stoodInHeld 47 = false := by kernel_rfl
      have q2 : Try.prog.eqGuardType Try.prog.depth 47 = false := by kernel_rfl
      have HS := Lib.hid (fun g => chG_same hlt hlt' g HI.out)
      have HD := Lib.hid (fun g => chG_diff hlt hlt' g HI.out)
      have f4 := fun (o : Obj) => (E1.next hb).alloc o |>.2.2.2.2
      have g0 := fun (o : Obj) => (World.cell?_alloc_lt wr o ⟨b', off' + k * 2, none⟩ (cell_spot hd0).2).trans hd0
      have g1 := fun (o : Obj) => (World.cell?_alloc_lt wr o ⟨b', off' + k * 2 + 1, none⟩ (cell_spot hd1).2).trans hd1
      cases s0 : (l[k].f0.toList == m[k].f0.toList)
      · have HN := Lib.hid (HD.out (by unfold qSec; rw [s0]; rfl))
        go_wp2_with fail
        go_quiet (fail)
        replace hb := below_drewN (below_alloc hb (.cells #[.string l[k].f0, .int .i64 l[k].f1] 47)) nq
        replace hown : OO _ _ _ _ _ _ _ := OO.dn (OO.al hown (.cells #[.string l[k].f0, .int .i64 l[k].f1] 47)) nq
        have hsz := hb.size
        generalize (wr.alloc (.cells #[.string l[k].f0, .int .i64 l[k].f1] 47)).drewN nq = w4 at hb hown hsz ⊢
        go_wp2_with (at_builtin; go_must (refine wpList_appF (f := fI) rfl _ _ _ rfl eltI (by omega) _ out rfl (OOf hown) _ _ _ _ rfl rfl rfl (by intro u hu; simp only [fI, List.mem_cons, List.not_mem_nil, or_false] at hu; subst hu; rfl) (by omega) hsz ?_); intro v5 w5 hown5 hg5 hat5 hbl5)
        go_roundw
        case rel => exact ⟨k + 1, _, by omega, by go_num, hown5, hb.trans hbl5, by rw [List.length_append, List.length_singleton]; omega, HN⟩
        case measure => (simp [intOf] <;> omega)
      cases s1 : (l[k].f1 == m[k].f1)
      · have HN := Lib.hid (HD.out (by unfold qSec; rw [s0, s1]; rfl))
        go_wp2_with fail
        go_quiet (fail)
        replace hb := below_drewN (below_alloc hb (.cells #[.string l[k].f0, .int .i64 l[k].f1] 47)) nq
        replace hown : OO _ _ _ _ _ _ _ := OO.dn (OO.al hown (.cells #[.string l[k].f0, .int .i64 l[k].f1] 47)) nq
        have hsz := hb.size
        generalize (wr.alloc (.cells #[.string l[k].f0, .int .i64 l[k].f1] 47)).drewN nq = w4 at hb hown hsz ⊢
        go_wp2_with (at_builtin; go_must (refine wpList_appF (f := fI) rfl _ _ _ rfl eltI (by omega) _ out rfl (OOf hown) _ _ _ _ rfl rfl rfl (by intro u hu; simp only [fI, List.mem_cons, List.not_mem_nil, or_false] at hu; subst hu; rfl) (by omega) hsz ?_); intro v5 w5 hown5 hg5 hat5 hbl5)
        go_roundw
        case rel => exact ⟨k + 1, _, by omega, by go_num, hown5, hb.trans hbl5, by rw [List.length_append, List.length_singleton]; omega, HN⟩
        case measure => (simp [intOf] <;> omega)
      have HN := Lib.hid (HS.out (by unfold qSec; rw [s0, s1]; rfl))
      go_wp2_with fail
      go_quiet (fail)
      go_wp2
      go_roundw
      case rel => exact ⟨k + 1, _, by omega, by go_num, OO.dn (OO.al hown _) _, (by with_reducible repeat (first | exact Below.refl _ _ | assumption | refine below_step ?_ (by assumption) | refine Below.drew ?_ | refine below_drewN ?_ _ | refine below_alloc ?_ _ | refine Below.setCell ?_ (by simp; try omega) _)), by omega, HN⟩
      case measure => (simp [intOf] <;> omega)
    · have HE := Lib.hid (chG_end hlt HI.out)
      go_wp2
      (try simp only [Exit.inBlock, Exit.then]); refine bodyPost_ret (results_tmp2 rfl _ _ _) rfl ?_
      exact ⟨_, rfl, by rw [hL.out, ← HE.out]; exact own_base hown hs3, hb3.trans (hb.mono hs3)⟩
end Go.Proofs.Ytcoidpooghmppaa
