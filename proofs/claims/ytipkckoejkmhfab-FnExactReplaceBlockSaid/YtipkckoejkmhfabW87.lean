/- Walks: ReplaceBlock. -/
import Derived.Test.YtipkckoejkmhfabW85
import Derived.Test.YtipkckoejkmhfabW78
import Derived.Test.YtipkckoejkmhfabQB
import Derived.Deep.RegionHeld3
namespace Go.Proofs.Ytipkckoejkmhfab
open Go.RowKit
set_option linter.unusedVariables false

theorem ordT_mem (P K : Nat) (hP : 0 < P) : ∀ t, ∀ x ∈ ordT P K t, 0 ≤ x ∧ x < ((t * P : Nat) : Int)
  | 0, x, hx => absurd hx (by simp [ordT])
  | t + 1, x, hx => by
    rw [ordT, List.mem_append] at hx
    have hs : (t + 1) * P = t * P + P := Nat.succ_mul t P
    rcases hx with hx | hx
    · have := ordT_mem P K hP t x hx
      omega
    · have := rowO_mem P (t * P) (t * K) hP P x hx
      omega
/-- Whether a block has a sector, and the first sector of the order that no block has. -/
def hasB (m : List Int) (x : Int) : Bool := m.contains x
def frB (o m : List Int) : Option Int := o.find? (fun x => !hasB m x)
section
variable {o m : List Int} {j : Nat} {F : Option Int}
theorem fr_next (h : j < o.length) (hs : frB (o.drop j) m = F) (g : hasB m o[j] = true) : frB (o.drop (j + 1)) m = F := by
  rw [← hs, List.drop_eq_getElem_cons h, frB, frB, List.find?_cons_of_neg (by simpa using g)]
theorem fr_here (h : j < o.length) (hs : frB (o.drop j) m = F) (g : hasB m o[j] = false) : F = some o[j] := by
  rw [← hs, List.drop_eq_getElem_cons h, frB, List.find?_cons_of_pos (by rw [g]; rfl)]
theorem fr_end (h : ¬ j < o.length) (hs : frB (o.drop j) m = F) : F = none := by
  rw [← hs, List.drop_eq_nil_of_le (by omega)]
  rfl
end
def rpOk (ok : Bool) (n : Nat) (b : Int) (fr : Option Int) : Bool := ok && inB b 0 ((n : Int) - 1) && fr.isSome
def rpC (ok : Bool) (n : Nat) (b : Int) (fr : Option Int) : Int := if ok then (if inB b 0 ((n : Int) - 1) then (if fr.isSome then 0 else 5) else 2) else 1
def rpS (l : List DSector) (m : List Int) (b : Int) (z : ByteArray) : DSector := ⟨if rdB (l.getD (m.getD b.toNat 0).toNat noSec).f1 then (l.getD (m.getD b.toNat 0).toNat noSec).f0 else z, 1⟩
def rpL (g : Bool) (l : List DSector) (m : List Int) (b : Int) (fr : Option Int) (z : ByteArray) : List DSector := if g then l.set (fr.getD 0).toNat (rpS l m b z) else []
def rpM (g : Bool) (m : List Int) (b : Int) (fr : Option Int) : List Int := if g then m.set b.toNat (fr.getD 0) else []
theorem rpL_len (g : Bool) (l : List DSector) (m : List Int) (b : Int) (fr : Option Int) (z : ByteArray) : (rpL g l m b fr z).length ≤ l.length := by
  unfold rpL
  split <;> simp
theorem rpM_len (g : Bool) (m : List Int) (b : Int) (fr : Option Int) : (rpM g m b fr).length ≤ m.length := by
  unfold rpM
  split <;> simp
theorem rp_1 {n : Nat} {b : Int} {fr : Option Int} : rpOk false n b fr = false ∧ rpC false n b fr = 1 := by simp [rpOk, rpC]
theorem rp_2 {n : Nat} {b : Int} {fr : Option Int} (g : inB b 0 ((n : Int) - 1) = false) : rpOk true n b fr = false ∧ rpC true n b fr = 2 := by simp [rpOk, rpC, g]
theorem rp_3 {n : Nat} {b : Int} {fr : Option Int} (g : inB b 0 ((n : Int) - 1) = true) (h : fr = none) : rpOk true n b fr = false ∧ rpC true n b fr = 5 := by simp [rpOk, rpC, g, h]
theorem rp_4 {n : Nat} {b : Int} {fr : Option Int} {x : Int} (g : inB b 0 ((n : Int) - 1) = true) (h : fr = some x) : rpOk true n b fr = true ∧ rpC true n b fr = 0 := by simp [rpOk, rpC, g, h]
theorem rp_L {l : List DSector} {m : List Int} {B X Y : Nat} {fr : Option Int} {z dat : ByteArray} {st : Int} (hb : B < m.length) (hx : m[B] = (X : Int)) (hX : X < l.length) (h0 : l[X].f0 = dat) (h1 : l[X].f1 = st) (hf : fr = some (Y : Int)) :
    rpL true l m (B : Int) fr z = l.set Y ⟨if rdB st then dat else z, 1⟩ := by
  simp [rpL, rpS, hb, hx, hX, h0, h1, hf]
theorem rp_M {m : List Int} {B Y : Nat} {fr : Option Int} (hf : fr = some (Y : Int)) : rpM true m (B : Int) fr = m.set B (Y : Int) := by
  simp [rpM, hf]
theorem flatI_map : ∀ l : List Int, flat fI l = l.map (fun x => Value.int .i64 x)
  | [] => rfl
  | x :: l => by
    have := flatI_map l
    simp only [flat, List.map_cons, List.flatten_cons, fI] at this ⊢
    rw [this]
    rfl
theorem setI (m : List Int) (j : Nat) (x : Int) : (flat fI m).set j (.int .i64 x) = flat fI (m.set j x) := by
  rw [flatI_map, flatI_map, List.map_set]
theorem has_next {m : List Int} {x : Int} {k : Nat} {R : Bool} (h : k < m.length) (hs : hasB (m.drop k) x = R) (g : ¬ m[k] = x) : hasB (m.drop (k + 1)) x = R := by
  rw [← hs, hasB, hasB, List.drop_eq_getElem_cons h, List.contains_cons, beq_false_of_ne (fun e => g e.symm), Bool.false_or]
theorem has_yes {m : List Int} {x : Int} {k : Nat} {R : Bool} (h : k < m.length) (hs : hasB (m.drop k) x = R) (g : m[k] = x) : R = true := by
  rw [← hs, hasB, List.drop_eq_getElem_cons h, List.contains_cons, g, beq_self_eq_true, Bool.true_or]
theorem has_no {m : List Int} {x : Int} {k : Nat} {R : Bool} (h : ¬ k < m.length) (hs : hasB (m.drop k) x = R) : R = false := by
  rw [← hs, hasB, List.drop_eq_nil_of_le (by omega)]
  rfl
set_option maxRecDepth 100000 in
set_option maxHeartbeats 400000 in
theorem l00Has_any (N : Option Addr) (q : Nat) (m : List Int) (x : Int) (w : World) (kr : Rd w w.heap.size 1 N m.length (flat fI m)) (kn : m.length ≤ 1048576) :
    Calls Try.prog 60 #[.slice N m.length q, .int .i64 x] w fun e w' => e = .returned (.bool (hasB m x)) ∧ w = w' := by
  go_enter Try.func60, Try.ntmps60
  go_wp2
  go_loop [5] (fun i => ∃ k : Nat, k ≤ m.length ∧ i = .int .i64 k ∧ Hid (hasB (m.drop k) x = hasB m x)) (fun i => m.length - (intOf i).toNat)
  case atStart => exact ⟨0, Nat.zero_le _, rfl, Lib.hid rfl⟩
  case round =>
    obtain ⟨k, hk, rfl, HS⟩ := hrel
    by_cases hlt : k < m.length
    · have hlti : (k : Int) < (m.length : Int) := by omega
      obtain ⟨bb, off, rfl, hbb, hc⟩ := kr.at_ fI_len rfl k hlt
      have hc0 := hc 0 _ (by omega) rfl
      clear hc
      simp only [Nat.mul_one, Nat.add_zero] at hc0
      by_cases hx : m[k] = x
      · have HN := Lib.hid (has_yes hlt HS.out hx)
        have hx2 : (m[k] == x) = true := by simp [hx]
        go_wp2
        go_ret
        exact ⟨ret_bool HN.out.symm, rfl⟩
      · have HN := Lib.hid (has_next hlt HS.out hx)
        have hx2 : (m[k] == x) = false := by simp [hx]
        go_wp2
        go_round
        case rel => exact ⟨k + 1, by omega, by go_num, HN⟩
        case measure => simp [intOf]; omega
    · have HE := Lib.hid (has_no hlt HS.out)
      have hlti : ¬ (k : Int) < (m.length : Int) := by omega
      go_wp2
      go_ret
      exact ⟨ret_bool HE.out.symm, rfl⟩

set_option maxRecDepth 100000 in
set_option maxHeartbeats 4000000 in
theorem spec_ReplaceBlock_any (c h p s : Int) (A : Option Addr) (cp : Nat) (l : List DSector) (k r : Int) (N : Option Addr) (q : Nat) (m : List Int) (b : Int) (w : World) (hr : Rd w w.heap.size 2 A l.length (flat fSector l)) (hn : l.length ≤ 1048576) (hok : ∀ x ∈ l, okSector x) (kr : Rd w w.heap.size 1 N m.length (flat fI m)) (kn : m.length ≤ 1048576) (hqc : m.length ≤ q) :
    Calls Try.prog 22 #[.agg #[.int .i64 c, .int .i64 h, .int .i64 p, .int .i64 s, .slice A l.length cp, .int .i64 k, .int .i64 r, .slice N m.length q], .int .i64 b] w fun e w' => ∃ (v4 v7 : Value), e = .returned (.tuple #[.agg #[.int .i64 (ptN (rpOk (okV (okD c h p s l) l.length k r m) m.length b (frB (ordT p.toNat k.toNat (c * h).toNat) m)) c), .int .i64 (ptN (rpOk (okV (okD c h p s l) l.length k r m) m.length b (frB (ordT p.toNat k.toNat (c * h).toNat) m)) h), .int .i64 (ptN (rpOk (okV (okD c h p s l) l.length k r m) m.length b (frB (ordT p.toNat k.toNat (c * h).toNat) m)) p), .int .i64 (ptN (rpOk (okV (okD c h p s l) l.length k r m) m.length b (frB (ordT p.toNat k.toNat (c * h).toNat) m)) s), v4, .int .i64 (ptN (rpOk (okV (okD c h p s l) l.length k r m) m.length b (frB (ordT p.toNat k.toNat (c * h).toNat) m)) k), .int .i64 (ptN (rpOk (okV (okD c h p s l) l.length k r m) m.length b (frB (ordT p.toNat k.toNat (c * h).toNat) m)) r), v7], .int .i64 (rpC (okV (okD c h p s l) l.length k r m) m.length b (frB (ordT p.toNat k.toNat (c * h).toNat) m))]) ∧ w'.ownsRow w.heap.size 85 2 v4 (rpL (rpOk (okV (okD c h p s l) l.length k r m) m.length b (frB (ordT p.toNat k.toNat (c * h).toNat) m)) l m b (frB (ordT p.toNat k.toNat (c * h).toNat) m) (zerosB (szB s).toNat)).length (flat fSector (rpL (rpOk (okV (okD c h p s l) l.length k r m) m.length b (frB (ordT p.toNat k.toNat (c * h).toNat) m)) l m b (frB (ordT p.toNat k.toNat (c * h).toNat) m) (zerosB (szB s).toNat))) ∧ w'.ownsRow w.heap.size 2 1 v7 (rpM (rpOk (okV (okD c h p s l) l.length k r m) m.length b (frB (ordT p.toNat k.toNat (c * h).toNat) m)) m b (frB (ordT p.toNat k.toNat (c * h).toNat) m)).length (flat fI (rpM (rpOk (okV (okD c h p s l) l.length k r m) m.length b (frB (ordT p.toNat k.toNat (c * h).toNat) m)) m b (frB (ordT p.toNat k.toNat (c * h).toNat) m))) ∧ (v4.ownBlock = none ∨ v4.ownBlock ≠ v7.ownBlock) ∧ Below w.heap.size w w' := by
  have F3 := (BX.made w 33 [.int .i64 c, .int .i64 h, .int .i64 p, .int .i64 s, .slice A l.length cp, .int .i64 k, .int .i64 r, .slice N m.length q]).al (.cells #[.int .i64 0, .int .i64 0, .int .i64 0, .int .i64 0, .slice none 0 0, .int .i64 0, .int .i64 0, .slice none 0 0] 33)
  have F6 := BX.made1 w (.cells #[.int .i64 c, .int .i64 h, .int .i64 p, .int .i64 s, .slice A l.length cp, .int .i64 k, .int .i64 r, .slice N m.length q] 33) 33 [.int .i64 0, .int .i64 0, .int .i64 0, .int .i64 0, .slice none 0 0, .int .i64 0, .int .i64 0, .slice none 0 0]
  obtain ⟨wb, hwb⟩ : ∃ wb, wb = (w.alloc (.cells #[.int .i64 c, .int .i64 h, .int .i64 p, .int .i64 s, .slice A l.length cp, .int .i64 k, .int .i64 r, .slice N m.length q] 33)).alloc (.cells #[.int .i64 0, .int .i64 0, .int .i64 0, .int .i64 0, .slice none 0 0, .int .i64 0, .int .i64 0, .slice none 0 0] 33) := ⟨_, rfl⟩
  rw [← hwb] at F3 F6
  have hb0 : Below w.heap.size w wb := by rw [hwb]; exact (by with_reducible repeat (first | exact Below.refl _ _ | assumption | refine below_step ?_ (by assumption) | refine Below.drew ?_ | refine below_drewN ?_ _ | refine below_alloc ?_ _ | refine Below.setCell ?_ (by simp; try omega) _))
  have hs0 : w.heap.size + 1 < wb.heap.size := F6.lt
  have hrb := (hr.below hb0).more hb0.size
  have krb := (kr.below hb0).more hb0.size
  have HW := Lib.hid hwb
  clear hwb
  have hq := l15Ask_any w.heap.size c h p s A cp l k r N q m b wb F3.cp hrb hn hok krb kn
  cases hv : okV (okD c h p s l) l.length k r m
  · have HV := Lib.hid hv
    have HA := Lib.hid (askC_1 (n := m.length) (b := b))
    clear hv
    have HR := Lib.hid (rp_1 (n := m.length) (b := b) (fr := frB (ordT p.toNat k.toNat (c * h).toNat) m))
    go_enter Try.func22, Try.ntmps22
    go_wp2_with ((go_at_call 48; rw [← HW.out]; refine hq.mono ?_; rintro e w2 ⟨rfl, hx⟩; rw [HV.out, HA.out]; replace F3 := F3.below hx F3.lt; replace F6 := F6.below hx F6.lt; have hB : BB w w2 := hb0.trans (hx.mono (by omega)); have e0 : (_ : Option Value) = some (.int .i64 c) := F3.cell 0 (by simp); have e1 : (_ : Option Value) = some (.int .i64 h) := F3.cell 1 (by simp); have e2 : (_ : Option Value) = some (.int .i64 p) := F3.cell 2 (by simp); have e3 : (_ : Option Value) = some (.int .i64 s) := F3.cell 3 (by simp); have e4 : (_ : Option Value) = some (.slice A l.length cp) := F3.cell 4 (by simp); have e5 : (_ : Option Value) = some (.int .i64 k) := F3.cell 5 (by simp); have e6 : (_ : Option Value) = some (.int .i64 r) := F3.cell 6 (by simp); have e7 : (_ : Option Value) = some (.slice N m.length q) := F3.cell 7 (by simp); have z0 : (_ : Option Value) = some (.int .i64 0) := F6.cell 0 (by simp); have z1 : (_ : Option Value) = some (.int .i64 0) := F6.cell 1 (by simp); have z2 : (_ : Option Value) = some (.int .i64 0) := F6.cell 2 (by simp); have z3 : (_ : Option Value) = some (.int .i64 0) := F6.cell 3 (by simp); have z4 : (_ : Option Value) = some (.slice none 0 0) := F6.cell 4 (by simp); have z5 : (_ : Option Value) = some (.int .i64 0) := F6.cell 5 (by simp); have z6 : (_ : Option Value) = some (.int .i64 0) := F6.cell 6 (by simp); have z7 : (_ : Option Value) = some (.slice none 0 0) := F6.cell 7 (by simp); have hfz := fun j => F6.free j; have mk1 := True.intro))
    refine bodyPost_ret (v := .tuple #[.agg #[.int .i64 0, .int .i64 0, .int .i64 0, .int .i64 0, .slice none 0 0, .int .i64 0, .int .i64 0, .slice none 0 0], .int .i64 1]) (by simp [results, Try.results22, go_sem, World.cell?_setCell_other, z0, z1, z2, z3, z4, z5, z6, z7]) rfl ⟨.slice none 0 0, .slice none 0 0, by rw [HR.out.1, HR.out.2]; rfl, ?_, ?_, .inl rfl, ?_⟩
    · rw [HR.out.1]; exact World.ownsRow_nil _ _ _ _
    · rw [HR.out.1]; exact World.ownsRow_nil _ _ _ _
    · exact (by with_reducible repeat (first | exact Below.refl _ _ | assumption | refine below_step ?_ (by assumption) | refine Below.drew ?_ | refine below_drewN ?_ _ | refine below_alloc ?_ _ | refine Below.setCell ?_ (by simp; try omega) _))
  have hall := (okV_yes hv).2.2.2.2
  have hgeo := okD_geo (okV_yes hv).1
  have hk7 := (okV_yes hv).2.1
  have HV := Lib.hid hv
  clear hv
  cases g1 : inB b 0 ((m.length : Int) - 1)
  · have HA := Lib.hid (askC_2 (n := m.length) g1)
    have HR := Lib.hid (rp_2 (n := m.length) (fr := frB (ordT p.toNat k.toNat (c * h).toNat) m) g1)
    go_enter Try.func22, Try.ntmps22
    go_wp2_with ((go_at_call 48; rw [← HW.out]; refine hq.mono ?_; rintro e w2 ⟨rfl, hx⟩; rw [HV.out, HA.out]; replace F3 := F3.below hx F3.lt; replace F6 := F6.below hx F6.lt; have hB : BB w w2 := hb0.trans (hx.mono (by omega)); have e0 : (_ : Option Value) = some (.int .i64 c) := F3.cell 0 (by simp); have e1 : (_ : Option Value) = some (.int .i64 h) := F3.cell 1 (by simp); have e2 : (_ : Option Value) = some (.int .i64 p) := F3.cell 2 (by simp); have e3 : (_ : Option Value) = some (.int .i64 s) := F3.cell 3 (by simp); have e4 : (_ : Option Value) = some (.slice A l.length cp) := F3.cell 4 (by simp); have e5 : (_ : Option Value) = some (.int .i64 k) := F3.cell 5 (by simp); have e6 : (_ : Option Value) = some (.int .i64 r) := F3.cell 6 (by simp); have e7 : (_ : Option Value) = some (.slice N m.length q) := F3.cell 7 (by simp); have z0 : (_ : Option Value) = some (.int .i64 0) := F6.cell 0 (by simp); have z1 : (_ : Option Value) = some (.int .i64 0) := F6.cell 1 (by simp); have z2 : (_ : Option Value) = some (.int .i64 0) := F6.cell 2 (by simp); have z3 : (_ : Option Value) = some (.int .i64 0) := F6.cell 3 (by simp); have z4 : (_ : Option Value) = some (.slice none 0 0) := F6.cell 4 (by simp); have z5 : (_ : Option Value) = some (.int .i64 0) := F6.cell 5 (by simp); have z6 : (_ : Option Value) = some (.int .i64 0) := F6.cell 6 (by simp); have z7 : (_ : Option Value) = some (.slice none 0 0) := F6.cell 7 (by simp); have hfz := fun j => F6.free j; have mk1 := True.intro))
    refine bodyPost_ret (v := .tuple #[.agg #[.int .i64 0, .int .i64 0, .int .i64 0, .int .i64 0, .slice none 0 0, .int .i64 0, .int .i64 0, .slice none 0 0], .int .i64 2]) (by simp [results, Try.results22, go_sem, World.cell?_setCell_other, z0, z1, z2, z3, z4, z5, z6, z7]) rfl ⟨.slice none 0 0, .slice none 0 0, by rw [HR.out.1, HR.out.2]; rfl, ?_, ?_, .inl rfl, ?_⟩
    · rw [HR.out.1]; exact World.ownsRow_nil _ _ _ _
    · rw [HR.out.1]; exact World.ownsRow_nil _ _ _ _
    · exact (by with_reducible repeat (first | exact Below.refl _ _ | assumption | refine below_step ?_ (by assumption) | refine Below.drew ?_ | refine below_drewN ?_ _ | refine below_alloc ?_ _ | refine Below.setCell ?_ (by simp; try omega) _))
  have HA := Lib.hid (askC_3 (n := m.length) g1)
  obtain ⟨b0, b1⟩ := inB_yes g1
  obtain ⟨B, rfl⟩ : ∃ B : Nat, b = (B : Int) := ⟨b.toNat, by omega⟩
  have hlt : B < m.length := by omega
  have hlti : (B : Int) < (m.length : Int) := by omega
  obtain ⟨x0, x1⟩ := hall m[B] (List.getElem_mem hlt)
  obtain ⟨X, hX⟩ : ∃ X : Nat, m[B] = (X : Int) := ⟨m[B].toNat, by omega⟩
  have hXl : X < l.length := by omega
  have hXi : (X : Int) < (l.length : Int) := by omega
  have hpos : 0 < l.length := by omega
  have hposm : 0 < m.length := by omega
  obtain ⟨kk0, kk1⟩ := inB_yes hk7
  obtain ⟨K, rfl⟩ : ∃ K : Nat, k = (K : Int) := ⟨k.toNat, by omega⟩
  obtain ⟨c1, c2, h1, h2, p1, p2, s1, s2⟩ := geoB_yes hgeo.1
  obtain ⟨m1, m2⟩ := prod2 c1 c2 h1 h2
  obtain ⟨P, rfl⟩ : ∃ P : Nat, p = (P : Int) := ⟨p.toNat, by omega⟩
  obtain ⟨T, hT⟩ : ∃ T : Nat, c * h = (T : Int) := ⟨(c * h).toNat, by omega⟩
  have hNT : l.length = T * P := by
    have := hgeo.2.1
    rw [hT] at this
    omega
  have hmem : ∀ x ∈ ordT P K T, 0 ≤ x ∧ x < (l.length : Int) := by rw [hNT]; exact ordT_mem P K (by omega) T
  have hoL : (ordT P K T).length = l.length := by rw [ordT_len, hNT]
  have hord := fun (W : World) (hd : DP W w.heap.size c h (P : Int) s (.slice A l.length cp)) => l15Order_any w.heap.size c h s (.slice A l.length cp) T P K W hd hT (by omega) (by omega) (by omega) (by omega)
  rw [show frB (ordT (P : Int).toNat (K : Int).toNat (c * h).toNat) m = frB (ordT P K T) m by rw [hT, Int.toNat_natCast, Int.toNat_natCast, Int.toNat_natCast]]
  obtain ⟨nb, y1, y2, y3, y4⟩ := szB_nat s1 s2
  rw [y4]
  obtain ⟨ba, off, rfl, hba, hc⟩ := kr.at_ fI_len rfl B hlt
  have hm0 := hc 0 _ (by omega) rfl
  clear hc
  simp only [Nat.mul_one, Nat.add_zero] at hm0
  rw [hX] at hm0
  obtain ⟨b2, off2, rfl, hb2, hcc⟩ := hr.at_ fSector_len rfl X hXl
  have hs0' := hcc 0 _ (by omega) rfl
  have hs1' := hcc 1 _ (by omega) rfl
  clear hcc
  simp only [← Nat.add_assoc, Nat.add_zero] at hs0' hs1'
  obtain ⟨dat, hdat⟩ : ∃ d, l[X].f0 = d := ⟨_, rfl⟩
  obtain ⟨st, hst⟩ : ∃ d, l[X].f1 = d := ⟨_, rfl⟩
  rw [hdat] at hs0'
  rw [hst] at hs1'
  have HLL := fun (Y : Nat) (hf : frB (ordT P K T) m = some (Y : Int)) => rp_L (z := zerosB nb) hlt hX hXl hdat hst hf
  have HMM := fun (Y : Nat) (hf : frB (ordT P K T) m = some (Y : Int)) => rp_M (m := m) (B := B) hf
  generalize ordT P K T = ord at *
  have hposo : 0 < ord.length := by omega
  clear hT hNT hgeo c1 c2 h1 h2 m1 m2 p2 kk0 x0 x1 hX hdat hst hall hk7
  go_enter Try.func22, Try.ntmps22
  go_wp2_with (first
        | (go_at_call 59; have := mk1; refine (hord _ (CP.disc8 F3.cp)).mono ?_; rintro e w5 ⟨v5, rfl, ho5, hx5⟩; obtain ⟨g5, c5, hv⟩ := Go.Joins.ownsRow_form ho5 hposo; cases hv; have lt5 := World.ownsRow.lt ho5 g5 rfl; have l6 := F6.lt; clear e0 e1 e2 e3 e4 e5 e6 e7 z0 z1 z2 z3 z4 z5 z6 z7 hfz; replace F3 := BX.below F3 hx5 F3.lt; replace F6 := BX.below F6 hx5 F6.lt; replace hB := BB.next hB hx5)
        | (go_at_call 48; rw [← HW.out]; refine hq.mono ?_; rintro e w2 ⟨rfl, hx⟩; rw [HV.out, HA.out]; replace F3 := F3.below hx F3.lt; replace F6 := F6.below hx F6.lt; have hB : BB w w2 := hb0.trans (hx.mono (by omega)); have e0 : (_ : Option Value) = some (.int .i64 c) := F3.cell 0 (by simp); have e1 : (_ : Option Value) = some (.int .i64 h) := F3.cell 1 (by simp); have e2 : (_ : Option Value) = some (.int .i64 (P : Int)) := F3.cell 2 (by simp); have e3 : (_ : Option Value) = some (.int .i64 s) := F3.cell 3 (by simp); have e4 : (_ : Option Value) = some (.slice (some ⟨b2, off2, none⟩) l.length cp) := F3.cell 4 (by simp); have e5 : (_ : Option Value) = some (.int .i64 (K : Int)) := F3.cell 5 (by simp); have e6 : (_ : Option Value) = some (.int .i64 r) := F3.cell 6 (by simp); have e7 : (_ : Option Value) = some (.slice (some ⟨ba, off, none⟩) m.length q) := F3.cell 7 (by simp); have z0 : (_ : Option Value) = some (.int .i64 0) := F6.cell 0 (by simp); have z1 : (_ : Option Value) = some (.int .i64 0) := F6.cell 1 (by simp); have z2 : (_ : Option Value) = some (.int .i64 0) := F6.cell 2 (by simp); have z3 : (_ : Option Value) = some (.int .i64 0) := F6.cell 3 (by simp); have z4 : (_ : Option Value) = some (.slice none 0 0) := F6.cell 4 (by simp); have z5 : (_ : Option Value) = some (.int .i64 0) := F6.cell 5 (by simp); have z6 : (_ : Option Value) = some (.int .i64 0) := F6.cell 6 (by simp); have z7 : (_ : Option Value) = some (.slice none 0 0) := F6.cell 7 (by simp); have hfz := fun j => F6.free j; have mk1 := True.intro))
  clear hq hord HW hrb krb hb0 hs0
  go_loopw [8] (fun i wr => ∃ j : Nat, j ≤ ord.length ∧ i = .int .i64 j ∧ Below w5.heap.size w5 wr ∧ Hid (frB (ord.drop j) m = frB ord m)) (fun i _ => ord.length - (intOf i).toNat)
  case atStart => exact ⟨0, Nat.zero_le _, rfl, Below.refl _ _, Lib.hid rfl⟩
  case round =>
    obtain ⟨j, hj, rfl, hbl, HF⟩ := hrel
    replace F3 := BX.below F3 hbl F3.lt
    replace F6 := BX.below F6 hbl F6.lt
    replace ho5 := OO.next ho5 hbl
    replace hB := BB.next hB hbl
    by_cases hjl : j < ord.length
    rotate_left
    · have hjn : ¬ (j : Int) < (ord.length : Int) := by omega
      have HR := Lib.hid (rp_3 g1 (fr_end hjl HF.out))
      have z0 : (_ : Option Value) = some (.int .i64 0) := F6.cell 0 (by simp)
      have z1 : (_ : Option Value) = some (.int .i64 0) := F6.cell 1 (by simp)
      have z2 : (_ : Option Value) = some (.int .i64 0) := F6.cell 2 (by simp)
      have z3 : (_ : Option Value) = some (.int .i64 0) := F6.cell 3 (by simp)
      have z4 : (_ : Option Value) = some (.slice none 0 0) := F6.cell 4 (by simp)
      have z5 : (_ : Option Value) = some (.int .i64 0) := F6.cell 5 (by simp)
      have z6 : (_ : Option Value) = some (.int .i64 0) := F6.cell 6 (by simp)
      have z7 : (_ : Option Value) = some (.slice none 0 0) := F6.cell 7 (by simp)
      have hfz := fun j => F6.free j
      have hBw : Below w.heap.size w wr := hB
      go_wp2
      refine bodyPost_ret (v := .tuple #[.agg #[.int .i64 0, .int .i64 0, .int .i64 0, .int .i64 0, .slice none 0 0, .int .i64 0, .int .i64 0, .slice none 0 0], .int .i64 5]) (by simp [results, Try.results22, go_sem, World.cell?_setCell_other, z0, z1, z2, z3, z4, z5, z6, z7]) rfl ⟨.slice none 0 0, .slice none 0 0, by rw [HR.out.1, HR.out.2]; rfl, ?_, ?_, .inl rfl, ?_⟩
      · rw [HR.out.1]; exact World.ownsRow_nil _ _ _ _
      · rw [HR.out.1]; exact World.ownsRow_nil _ _ _ _
      · exact (by with_reducible repeat (first | exact Below.refl _ _ | assumption | refine below_step ?_ (by assumption) | refine Below.drew ?_ | refine below_drewN ?_ _ | refine below_alloc ?_ _ | refine Below.setCell ?_ (by simp; try omega) _))
    have hji : (j : Int) < (ord.length : Int) := by omega
    have oR := Rd.of_own ho5
    obtain ⟨bo, offo, hbo, hbo2, hc⟩ := oR.at_ fI_len rfl j hjl
    cases hbo
    have hc0 := hc 0 _ (by omega) rfl
    clear hc oR
    simp only [Nat.mul_one, Nat.zero_add, Nat.add_zero] at hc0
    obtain ⟨x0, x1⟩ := hmem ord[j] (List.getElem_mem hjl)
    obtain ⟨Y, hY⟩ : ∃ Y : Nat, ord[j] = (Y : Int) := ⟨ord[j].toNat, by omega⟩
    have hYl : Y < l.length := by omega
    have hYi : (Y : Int) < (l.length : Int) := by omega
    have FN := fun g => fr_next hjl HF.out g
    have FH := fun g => fr_here hjl HF.out g
    rw [hY] at hc0 FN FH
    clear x0 x1 hY
    have krr := (kr.below hB).more hB.size
    have hq := fun (p' : Regrown) => qb_same p' (l00Has_any (some ⟨ba, off, none⟩) q m (Y : Int) (Sort.grow (redrawn wr p'.d) p'.os) (krr.gw p') kn)
    have k7 := gw_cell (show wr.cell? ⟨w.heap.size, 7, none⟩ = some (.slice (some ⟨ba, off, none⟩) m.length q) from F3.cell 7 (by simp))
    have kO := gw_cell hc0
    cases hcc : hasB m (Y : Int)
    rotate_left
    · rw [hcc] at hq
      have HN := Lib.hid (FN hcc)
      go_wp2_with fail
      refine wp_region_quiet_below (by kernel_rfl) (by kernel_rfl) ?_
      repeat (go_big_quiet_step ((first | with_reducible exact hq _)))
      refine wpQuiet_nil ?_
      intro _ hw'
      obtain ⟨pq, hw''⟩ := hw'
      subst hw''
      have hb6 := gw_below wr pq
      have hc1 := kO pq.d pq.os
      generalize Sort.grow (redrawn wr pq.d) pq.os = w6 at hb6 hc1 ⊢
      have hb7 : Below w5.heap.size w5 w6 := hbl.trans (hb6.mono (Below.size hbl))
      go_wp2
      go_roundw
      case rel => exact ⟨j + 1, by omega, by go_num, hb7, HN⟩
      case measure => (simp [intOf] <;> omega)
    rw [hcc] at hq
    have hfr := FH hcc
    have HR := Lib.hid (rp_4 (n := m.length) g1 hfr)
    have HL := Lib.hid (HLL Y hfr)
    have HM := Lib.hid (HMM Y hfr)
    clear hcc FN FH HLL HMM HF hmem g1
    go_wp2_with fail
    refine wp_region_quiet_below (by kernel_rfl) (by kernel_rfl) ?_
    repeat (go_big_quiet_step ((first | with_reducible exact hq _)))
    refine wpQuiet_nil ?_
    intro _ hw'
    obtain ⟨pq, hw''⟩ := hw'
    subst hw''
    have hb6 := gw_below wr pq
    have hc1 := kO pq.d pq.os
    generalize Sort.grow (redrawn wr pq.d) pq.os = w6 at hb6 hc1 ⊢
    clear k7 kO hq hc0
    replace F3 := BX.below F3 hb6 F3.lt
    replace F6 := BX.below F6 hb6 F6.lt
    replace ho5 := OO.next ho5 hb6
    replace hB := BB.next hB hb6
    go_upto_region 10 with ((go_at_call 49; refine (l15Own_any w.heap.size c h (P : Int) s _ cp l (K : Int) r _ q m _ F3.cp ((hr.below hB).more hB.size) hn ((kr.below hB).more hB.size) kn).mono ?_; rintro e w7 ⟨v4, v7, rfl, ho4, ho7, hne, hx7⟩; obtain ⟨g4, c4, hv⟩ := Go.Joins.ownsRow_form ho4 hpos; cases hv; obtain ⟨g7, c7, hv⟩ := Go.Joins.ownsRow_form ho7 hposm; cases hv; have hc7 := own_cap ho7; have lt4 := World.ownsRow.lt ho4 g4 rfl; have lt7 := World.ownsRow.lt ho7 g7 rfl; have l6' := F6.lt; have l5' := World.ownsRow.lt ho5 g5 rfl; have hc2 := (hx7.cell (p := ⟨g5, j, none⟩) l5'.2).trans hc1; replace F3 := BX.below F3 hx7 F3.lt; replace F6 := BX.below F6 hx7 F6.lt; replace ho5 := OO.next ho5 hx7; replace hB := BB.next hB hx7))
    clear hc1
    replace F3 := BX.al F3 (.cells #[.int .i64 c, .int .i64 h, .int .i64 (P : Int), .int .i64 s, .slice (some ⟨g4, 0, none⟩) l.length c4, .int .i64 (K : Int), .int .i64 r, .slice (some ⟨g7, 0, none⟩) m.length c7] 33)
    replace F6 := BX.al F6 (.cells #[.int .i64 c, .int .i64 h, .int .i64 (P : Int), .int .i64 s, .slice (some ⟨g4, 0, none⟩) l.length c4, .int .i64 (K : Int), .int .i64 r, .slice (some ⟨g7, 0, none⟩) m.length c7] 33)
    replace ho5 := OO.al ho5 (.cells #[.int .i64 c, .int .i64 h, .int .i64 (P : Int), .int .i64 s, .slice (some ⟨g4, 0, none⟩) l.length c4, .int .i64 (K : Int), .int .i64 r, .slice (some ⟨g7, 0, none⟩) m.length c7] 33)
    replace ho4 := OO.al ho4 (.cells #[.int .i64 c, .int .i64 h, .int .i64 (P : Int), .int .i64 s, .slice (some ⟨g4, 0, none⟩) l.length c4, .int .i64 (K : Int), .int .i64 r, .slice (some ⟨g7, 0, none⟩) m.length c7] 33)
    replace ho7 := OO.al ho7 (.cells #[.int .i64 c, .int .i64 h, .int .i64 (P : Int), .int .i64 s, .slice (some ⟨g4, 0, none⟩) l.length c4, .int .i64 (K : Int), .int .i64 r, .slice (some ⟨g7, 0, none⟩) m.length c7] 33)
    replace hB := BB.al hB (.cells #[.int .i64 c, .int .i64 h, .int .i64 (P : Int), .int .i64 s, .slice (some ⟨g4, 0, none⟩) l.length c4, .int .i64 (K : Int), .int .i64 r, .slice (some ⟨g7, 0, none⟩) m.length c7] 33)
    have F8 := BX.made w7 33 [.int .i64 c, .int .i64 h, .int .i64 (P : Int), .int .i64 s, .slice (some ⟨g4, 0, none⟩) l.length c4, .int .i64 (K : Int), .int .i64 r, .slice (some ⟨g7, 0, none⟩) m.length c7]
    have hc1 := (World.cell?_alloc_lt w7 (.cells #[.int .i64 c, .int .i64 h, .int .i64 (P : Int), .int .i64 s, .slice (some ⟨g4, 0, none⟩) l.length c4, .int .i64 (K : Int), .int .i64 r, .slice (some ⟨g7, 0, none⟩) m.length c7] 33) ⟨g5, j, none⟩ (by simp; omega)).trans hc2
    generalize hG : w7.heap.size = G at F8 lt4 lt7 hx7 ⊢
    clear hc2
    generalize w7.alloc (.cells #[.int .i64 c, .int .i64 h, .int .i64 (P : Int), .int .i64 s, .slice (some ⟨g4, 0, none⟩) l.length c4, .int .i64 (K : Int), .int .i64 r, .slice (some ⟨g7, 0, none⟩) m.length c7] 33) = w8 at *
    have n84 : G ≠ g4 := by omega
    have n87 : G ≠ g7 := by omega
    have n64 : w.heap.size + 1 ≠ g4 := by omega
    have n67 : w.heap.size + 1 ≠ g7 := by omega
    have n34 : w.heap.size ≠ g4 := by omega
    have n54 : g5 ≠ g4 := by omega
    have n74 : g7 ≠ g4 := by
      intro e
      rcases hne with h | h
      · cases h
      · exact h (by rw [e]; rfl)
    have o74 : (Value.slice (some ⟨g7, 0, none⟩) m.length c7).ownBlock ≠ some g4 := fun e => n74 (by injection e)
    have o47 : (Value.slice (some ⟨g4, 0, none⟩) l.length c4).ownBlock ≠ some g7 := fun e => n74 (by injection e with e; exact e.symm)
    have hw4 : w.heap.size ≤ g4 := by omega
    have hw7 : w.heap.size ≤ g7 := by omega
    have hw4' : w.heap.size + 2 ≤ g4 := by omega
    have hw7' : w.heap.size + 2 ≤ g7 := by omega
    have kb0 : Y * 2 < l.length * 2 := by omega
    have kb1 : Y * 2 + 1 < l.length * 2 := by omega
    have a0 := (hB.cell (p := ⟨ba, off + B, none⟩) hba).trans hm0
    have a1 := (hB.cell (p := ⟨b2, off2 + X * 2, none⟩) hb2).trans hs0'
    have a2 := (hB.cell (p := ⟨b2, off2 + X * 2 + 1, none⟩) hb2).trans hs1'
    have a3 : (_ : Option Value) = some (.slice (some ⟨b2, off2, none⟩) l.length cp) := F3.cell 4 (by simp)
    have a4 : (_ : Option Value) = some (.slice (some ⟨ba, off, none⟩) m.length q) := F3.cell 7 (by simp)
    have n0 := World.new_ne w8 _ a0
    have n1 := World.new_ne w8 _ a1
    have n2 := World.new_ne w8 _ a2
    have n3 := World.new_ne w8 _ a3
    have n4 := World.new_ne w8 _ a4
    go_region_held3 (fun W => W.cell? ⟨ba, off + B, none⟩ = some (.int .i64 (X : Int)) ∧ W.cell? ⟨b2, off2 + X * 2, none⟩ = some (.string dat) ∧ W.cell? ⟨b2, off2 + X * 2 + 1, none⟩ = some (.int .i64 st) ∧ W.cell? ⟨w.heap.size, 4, none⟩ = some (.slice (some ⟨b2, off2, none⟩) l.length cp) ∧ W.cell? ⟨w.heap.size, 7, none⟩ = some (.slice (some ⟨ba, off, none⟩) m.length q)) (go_keep) (fail)
    go_upto_region 11 with fail
    clear n0 n1 n2 n3 n4 a0 a1 a2 a3 a4
    have ltS := F8.lt
    have lt4b := World.ownsRow.lt ho4 g4 rfl
    have lt7b := World.ownsRow.lt ho7 g7 rfl
    have lt5b := World.ownsRow.lt ho5 g5 rfl
    replace F3 := BX.al F3 (.cells #[.string dat, .int .i64 st] 85)
    replace F6 := BX.al F6 (.cells #[.string dat, .int .i64 st] 85)
    replace F8 := BX.al F8 (.cells #[.string dat, .int .i64 st] 85)
    replace ho5 := OO.al ho5 (.cells #[.string dat, .int .i64 st] 85)
    replace ho4 := OO.al ho4 (.cells #[.string dat, .int .i64 st] 85)
    replace ho7 := OO.al ho7 (.cells #[.string dat, .int .i64 st] 85)
    replace hB := BB.al hB (.cells #[.string dat, .int .i64 st] 85)
    replace F3 := BX.dr F3
    replace F6 := BX.dr F6
    replace F8 := BX.dr F8
    replace ho5 : OO _ _ _ _ _ _ _ := OO.dr ho5
    replace ho4 : OO _ _ _ _ _ _ _ := OO.dr ho4
    replace ho7 : OO _ _ _ _ _ _ _ := OO.dr ho7
    replace hB : BB w _ := BB.dr hB
    have FS : BX (w8.alloc (.cells #[.string dat, .int .i64 st] 85)).drew w8.heap.size 85 [.string dat, .int .i64 st] := BX.made w8 85 [.string dat, .int .i64 st]
    replace hc1 : (w8.alloc (.cells #[.string dat, .int .i64 st] 85)).drew.cell? ⟨g5, j, none⟩ = _ := (World.cell?_alloc_lt w8 (.cells #[.string dat, .int .i64 st] 85) ⟨g5, j, none⟩ (cell_spot hc1).2).trans hc1
    obtain ⟨GS, hGS⟩ : ∃ GS, GS = w8.heap.size := ⟨_, rfl⟩
    rw [← hGS] at FS ltS lt4b lt7b lt5b
    rw [← hGS]
    generalize (w8.alloc (.cells #[.string dat, .int .i64 st] 85)).drew = w9 at *
    clear hGS
    have l36 := F3.lt
    have nS3 : w.heap.size ≠ GS := by omega
    have nS6 : w.heap.size + 1 ≠ GS := by omega
    have nS8 : G ≠ GS := by omega
    have nS5 : g5 ≠ GS := by omega
    have oS4 : (Value.slice (some ⟨g4, 0, none⟩) l.length c4).ownBlock ≠ some GS := fun e => absurd (show g4 = GS by injection e) (by omega)
    have oS7 : (Value.slice (some ⟨g7, 0, none⟩) m.length c7).ownBlock ≠ some GS := fun e => absurd (show g7 = GS by injection e) (by omega)
    have oS5 : (Value.slice (some ⟨g5, 0, none⟩) ord.length c5).ownBlock ≠ some GS := fun e => absurd (show g5 = GS by injection e) (by omega)
    have o54 : (Value.slice (some ⟨g5, 0, none⟩) ord.length c5).ownBlock ≠ some g4 := fun e => n54 (by injection e)
    have n4S : GS ≠ g4 := by omega
    have n7S : GS ≠ g7 := by omega
    have n57 : g5 ≠ g7 := by omega
    have n37 : w.heap.size ≠ g7 := by omega
    have hwS : w.heap.size ≤ GS := by omega
    have f0 : (_ : Option Value) = some (.string dat) := FS.cell 0 (by simp)
    have f1 : (_ : Option Value) = some (.int .i64 st) := FS.cell 1 (by simp)
    cases g : rdB st
    · have HL2 := HL.out
      rw [g] at HL2
      simp only [Bool.false_eq_true, if_false] at HL2
      go_upto_region 14 with (first
            | (go_at_call 62; refine (l01Zeros_any nb _ (by omega)).mono ?_; rintro e w11 ⟨rfl, hx11⟩; clear f0 f1 f2 e3; replace hc2 := (hx11.cell (p := ⟨g5, j, none⟩) (cell_spot hc2).2).trans hc2; replace F3 := BX.below F3 hx11 F3.lt; replace F6 := BX.below F6 hx11 F6.lt; replace F8 := BX.below F8 hx11 F8.lt; replace FS := BX.below FS hx11 FS.lt; replace ho5 := OO.next ho5 hx11; replace ho4 := OO.next ho4 hx11; replace ho7 := OO.next ho7 hx11; replace hB := BB.next hB hx11; have FZ := FS.put 0 (.string (zerosB nb)); have f0 : (_ : Option Value) = some (.string dat) := FS.cell 0 (by simp); have f2 := fun j => FS.free j; have f3 := fun j => FZ.free j; have f4 : (_ : Option Value) = some (.int .i64 st) := FZ.cell 1 (by simp))
            | (go_at_call 47; refine (l12Bytes_any s s1 s2 _).mono ?_; rintro e w9' ⟨rfl, rfl⟩; rw [y1])
            | (go_at_call 61; refine (l15Readable_any dat st _).mono ?_; rintro e w10 ⟨rfl, hx10⟩; rw [g]; have hc2 := (hx10.cell (p := ⟨g5, j, none⟩) (cell_spot hc1).2).trans hc1; replace F3 := BX.below F3 hx10 F3.lt; replace F6 := BX.below F6 hx10 F6.lt; replace F8 := BX.below F8 hx10 F8.lt; replace FS := BX.below FS hx10 FS.lt; replace ho5 := OO.next ho5 hx10; replace ho4 := OO.next ho4 hx10; replace ho7 := OO.next ho7 hx10; replace hB := BB.next hB hx10; clear f0 f1; have f0 : (_ : Option Value) = some (.string dat) := FS.cell 0 (by simp); have f1 : (_ : Option Value) = some (.int .i64 st) := FS.cell 1 (by simp); have f2 := fun j => FS.free j; have e3 : (_ : Option Value) = some (.int .i64 s) := F3.cell 3 (by simp); have mk2 := True.intro))
      clear f0 f2 f3 f4 FZ
      have g3 := ((F3.far (a := ⟨GS, 0, none⟩) nS3 (.string (zerosB nb))).far (a := ⟨GS, 1, none⟩) nS3 (.int .i64 1))
      have g6 := ((F6.far (a := ⟨GS, 0, none⟩) nS6 (.string (zerosB nb))).far (a := ⟨GS, 1, none⟩) nS6 (.int .i64 1))
      have g8 := ((F8.far (a := ⟨GS, 0, none⟩) nS8 (.string (zerosB nb))).far (a := ⟨GS, 1, none⟩) nS8 (.int .i64 1))
      have gS := ((FS.put 0 (.string (zerosB nb))).put 1 (.int .i64 1))
      have q5 := ((ho5.putne (a := ⟨GS, 0, none⟩) oS5 (.string (zerosB nb))).putne (a := ⟨GS, 1, none⟩) oS5 (.int .i64 1))
      have q4 := ((ho4.putne (a := ⟨GS, 0, none⟩) oS4 (.string (zerosB nb))).putne (a := ⟨GS, 1, none⟩) oS4 (.int .i64 1))
      have q7 := ((ho7.putne (a := ⟨GS, 0, none⟩) oS7 (.string (zerosB nb))).putne (a := ⟨GS, 1, none⟩) oS7 (.int .i64 1))
      have qB := ((hB.put (a := ⟨GS, 0, none⟩) hwS (.string (zerosB nb))).put (a := ⟨GS, 1, none⟩) hwS (.int .i64 1))
      have hc3 := ((World.cell?_setCell_other (w11.setCell ⟨GS, 0, none⟩ (.string (zerosB nb))) ⟨GS, 1, none⟩ ⟨g5, j, none⟩ (.int .i64 1) (fun e => nS5 (congrArg Addr.block e.symm))).trans ((World.cell?_setCell_other w11 ⟨GS, 0, none⟩ ⟨g5, j, none⟩ (.string (zerosB nb)) (fun e => nS5 (congrArg Addr.block e.symm))).trans hc2))
      clear F3 F6 F8 FS ho5 ho4 ho7 hB hc1 hc2
      generalize ((w11.setCell ⟨GS, 0, none⟩ (.string (zerosB nb))).setCell ⟨GS, 1, none⟩ (.int .i64 1)) = w12 at g3 g6 g8 gS q5 q4 q7 qB hc3 ⊢
      have d4 : (_ : Option Value) = some (.slice (some ⟨g4, 0, none⟩) l.length c4) := g8.cell 4 (by simp)
      have f0 : (_ : Option Value) = some (.string (zerosB nb)) := gS.cell 0 (by simp)
      have f1 : (_ : Option Value) = some (.int .i64 1) := gS.cell 1 (by simp)
      refine wp_region_still_tail 8 (by kernel_rfl) (by kernel_rfl) ?_
      simp only [List.take_succ_cons, List.take_zero, List.drop_succ_cons, List.drop_zero]
      repeat still_step
      refine wpStill_nil ?_
      change wpList _ _ _ _ _ w12.drew
      clear d4 f0 f1
      replace hc3 : w12.drew.cell? ⟨g5, j, none⟩ = _ := hc3
      replace g3 := BX.dr g3
      replace g6 := BX.dr g6
      replace g8 := BX.dr g8
      replace gS := BX.dr gS
      replace q5 : OO _ _ _ _ _ _ _ := OO.dr q5
      replace q4 : OO _ _ _ _ _ _ _ := OO.dr q4
      replace q7 : OO _ _ _ _ _ _ _ := OO.dr q7
      replace qB : BB w _ := BB.dr qB
      generalize w12.drew = w13 at g3 g6 g8 gS q5 q4 q7 qB hc3 ⊢
      have o1 := World.ownsRow.stored q4 (Y * 2) (.string (zerosB nb)) |>.1
      have o2 := World.ownsRow.stored o1 (Y * 2 + 1) (.int .i64 1) |>.1
      obtain ⟨u0, hu0⟩ := own_some q4 (Y * 2) kb0
      have hz0 := World.ownsRow.frozenAt q4 (Y * 2)
      obtain ⟨u2, hu2⟩ := own_some o1 (Y * 2 + 1) kb1
      have hz2 := World.ownsRow.frozenAt o1 (Y * 2 + 1)
      go_upto_region 15 with fail
      replace g6 := ((g6.far (a := ⟨g4, Y * 2, none⟩) n64 (.string (zerosB nb))).far (a := ⟨g4, Y * 2 + 1, none⟩) n64 (.int .i64 1))
      replace g8 := ((g8.far (a := ⟨g4, Y * 2, none⟩) n84 (.string (zerosB nb))).far (a := ⟨g4, Y * 2 + 1, none⟩) n84 (.int .i64 1))
      replace q7 := ((q7.putne (a := ⟨g4, Y * 2, none⟩) o74 (.string (zerosB nb))).putne (a := ⟨g4, Y * 2 + 1, none⟩) o74 (.int .i64 1))
      replace qB := ((qB.put (a := ⟨g4, Y * 2, none⟩) hw4 (.string (zerosB nb))).put (a := ⟨g4, Y * 2 + 1, none⟩) hw4 (.int .i64 1))
      have hc4 := ((World.cell?_setCell_other (w13.setCell ⟨g4, Y * 2, none⟩ (.string (zerosB nb))) ⟨g4, Y * 2 + 1, none⟩ ⟨g5, j, none⟩ (.int .i64 1) (fun e => n54 (congrArg Addr.block e.symm))).trans ((World.cell?_setCell_other w13 ⟨g4, Y * 2, none⟩ ⟨g5, j, none⟩ (.string (zerosB nb)) (fun e => n54 (congrArg Addr.block e.symm))).trans hc3))
      clear hu0 hz0 hu2 hz2 o1 hc3 gS g3 q5
      generalize ((w13.setCell ⟨g4, Y * 2, none⟩ (.string (zerosB nb))).setCell ⟨g4, Y * 2 + 1, none⟩ (.int .i64 1)) = w14 at g6 g8 q7 qB hc4 o2 ⊢
      have d7 : (_ : Option Value) = some (.slice (some ⟨g7, 0, none⟩) m.length c7) := g8.cell 7 (by simp)
      refine wp_region_still_tail 7 (by kernel_rfl) (by kernel_rfl) ?_
      simp only [List.take_succ_cons, List.take_zero, List.drop_succ_cons, List.drop_zero]
      repeat still_step
      refine wpStill_nil ?_
      change wpList _ _ _ _ _ w14.drew
      clear d7 hc4
      replace g6 := BX.dr g6
      replace g8 := BX.dr g8
      replace q7 : OO _ _ _ _ _ _ _ := OO.dr q7
      replace o2 : OO _ _ _ _ _ _ _ := OO.dr o2
      replace qB : BB w _ := BB.dr qB
      generalize w14.drew = w15 at g6 g8 q7 o2 qB ⊢
      have o7 := World.ownsRow.stored q7 B (.int .i64 (Y : Int)) |>.1
      obtain ⟨u7, hu7⟩ := own_some q7 B (by omega)
      have hz7 := World.ownsRow.frozenAt q7 B
      have P8 := (g8.far (a := ⟨g7, B, none⟩) n87 (.int .i64 (Y : Int)))
      have P6 := (g6.far (a := ⟨g7, B, none⟩) n67 (.int .i64 (Y : Int)))
      have o4 := OO.putne (a := ⟨g7, B, none⟩) o2 o47 (.int .i64 (Y : Int))
      have hBq := (qB.put (a := ⟨g7, B, none⟩) hw7 (.int .i64 (Y : Int)))
      have q_0 : (_ : Option Value) = some (.int .i64 c) := P8.cell 0 (by simp)
      have q_1 : (_ : Option Value) = some (.int .i64 h) := P8.cell 1 (by simp)
      have q_2 : (_ : Option Value) = some (.int .i64 (P : Int)) := P8.cell 2 (by simp)
      have q_3 : (_ : Option Value) = some (.int .i64 s) := P8.cell 3 (by simp)
      have q_4 : (_ : Option Value) = some (.slice (some ⟨g4, 0, none⟩) l.length c4) := P8.cell 4 (by simp)
      have q_5 : (_ : Option Value) = some (.int .i64 (K : Int)) := P8.cell 5 (by simp)
      have q_6 : (_ : Option Value) = some (.int .i64 r) := P8.cell 6 (by simp)
      have q_7 : (_ : Option Value) = some (.slice (some ⟨g7, 0, none⟩) m.length c7) := P8.cell 7 (by simp)
      have z0 : (_ : Option Value) = some (.int .i64 0) := P6.cell 0 (by simp)
      have z1 : (_ : Option Value) = some (.int .i64 0) := P6.cell 1 (by simp)
      have z2 : (_ : Option Value) = some (.int .i64 0) := P6.cell 2 (by simp)
      have z3 : (_ : Option Value) = some (.int .i64 0) := P6.cell 3 (by simp)
      have z4 : (_ : Option Value) = some (.slice none 0 0) := P6.cell 4 (by simp)
      have z5 : (_ : Option Value) = some (.int .i64 0) := P6.cell 5 (by simp)
      have z6 : (_ : Option Value) = some (.int .i64 0) := P6.cell 6 (by simp)
      have z7 : (_ : Option Value) = some (.slice none 0 0) := P6.cell 7 (by simp)
      have hfz := fun j => P6.free j
      go_wp2
      refine bodyPost_ret (v := .tuple #[.agg #[.int .i64 c, .int .i64 h, .int .i64 (P : Int), .int .i64 s, .slice (some ⟨g4, 0, none⟩) l.length c4, .int .i64 (K : Int), .int .i64 r, .slice (some ⟨g7, 0, none⟩) m.length c7], .int .i64 0]) (by simp [results, Try.results22, go_sem, World.cell?_setCell_other, z0, z1, z2, z3, z4, z5, z6, z7]) rfl ⟨_, _, by rw [HR.out.1, HR.out.2]; rfl, ?_, ?_, hne, ?_⟩
      · rw [HR.out.1, HL2, List.length_set, ← setS l Y hYl ⟨(zerosB nb), 1⟩]
        have o3 : OO _ (w.heap.size + 2) _ _ _ _ (putV (flat fSector l) (Y * 2) (fSector ⟨(zerosB nb), 1⟩)) := own_base (base' := w.heap.size + 2) o4 (by omega)
        exact own_base (base' := w.heap.size) ((((((((o3.put (a := ⟨w.heap.size + 1, 0, none⟩) (by simp) (.int .i64 c)).put (a := ⟨w.heap.size + 1, 1, none⟩) (by simp) (.int .i64 h)).put (a := ⟨w.heap.size + 1, 2, none⟩) (by simp) (.int .i64 (P : Int))).put (a := ⟨w.heap.size + 1, 3, none⟩) (by simp) (.int .i64 s)).put (a := ⟨w.heap.size + 1, 4, none⟩) (by simp) (.slice (some ⟨g4, 0, none⟩) l.length c4)).put (a := ⟨w.heap.size + 1, 5, none⟩) (by simp) (.int .i64 (K : Int))).put (a := ⟨w.heap.size + 1, 6, none⟩) (by simp) (.int .i64 r)).put (a := ⟨w.heap.size + 1, 7, none⟩) (by simp) (.slice (some ⟨g7, 0, none⟩) m.length c7)) (by omega)
      · rw [HR.out.1, HM.out, List.length_set, ← setI]
        have o3 : OO _ (w.heap.size + 2) _ _ _ _ ((flat fI m).set B (.int .i64 (Y : Int))) := own_base (base' := w.heap.size + 2) o7 (by omega)
        exact own_base (base' := w.heap.size) ((((((((o3.put (a := ⟨w.heap.size + 1, 0, none⟩) (by simp) (.int .i64 c)).put (a := ⟨w.heap.size + 1, 1, none⟩) (by simp) (.int .i64 h)).put (a := ⟨w.heap.size + 1, 2, none⟩) (by simp) (.int .i64 (P : Int))).put (a := ⟨w.heap.size + 1, 3, none⟩) (by simp) (.int .i64 s)).put (a := ⟨w.heap.size + 1, 4, none⟩) (by simp) (.slice (some ⟨g4, 0, none⟩) l.length c4)).put (a := ⟨w.heap.size + 1, 5, none⟩) (by simp) (.int .i64 (K : Int))).put (a := ⟨w.heap.size + 1, 6, none⟩) (by simp) (.int .i64 r)).put (a := ⟨w.heap.size + 1, 7, none⟩) (by simp) (.slice (some ⟨g7, 0, none⟩) m.length c7)) (by omega)
      · exact ((((((((hBq.put (a := ⟨w.heap.size + 1, 0, none⟩) (by simp) (.int .i64 c)).put (a := ⟨w.heap.size + 1, 1, none⟩) (by simp) (.int .i64 h)).put (a := ⟨w.heap.size + 1, 2, none⟩) (by simp) (.int .i64 (P : Int))).put (a := ⟨w.heap.size + 1, 3, none⟩) (by simp) (.int .i64 s)).put (a := ⟨w.heap.size + 1, 4, none⟩) (by simp) (.slice (some ⟨g4, 0, none⟩) l.length c4)).put (a := ⟨w.heap.size + 1, 5, none⟩) (by simp) (.int .i64 (K : Int))).put (a := ⟨w.heap.size + 1, 6, none⟩) (by simp) (.int .i64 r)).put (a := ⟨w.heap.size + 1, 7, none⟩) (by simp) (.slice (some ⟨g7, 0, none⟩) m.length c7))
    · have HL2 := HL.out
      rw [g] at HL2
      simp only [if_true] at HL2
      go_upto_region 14 with (go_at_call 61; refine (l15Readable_any dat st _).mono ?_; rintro e w10 ⟨rfl, hx10⟩; rw [g]; have hc2 := (hx10.cell (p := ⟨g5, j, none⟩) (cell_spot hc1).2).trans hc1; replace F3 := BX.below F3 hx10 F3.lt; replace F6 := BX.below F6 hx10 F6.lt; replace F8 := BX.below F8 hx10 F8.lt; replace FS := BX.below FS hx10 FS.lt; replace ho5 := OO.next ho5 hx10; replace ho4 := OO.next ho4 hx10; replace ho7 := OO.next ho7 hx10; replace hB := BB.next hB hx10; clear f0 f1; have f0 : (_ : Option Value) = some (.string dat) := FS.cell 0 (by simp); have f1 : (_ : Option Value) = some (.int .i64 st) := FS.cell 1 (by simp); have f2 := fun j => FS.free j; have e3 : (_ : Option Value) = some (.int .i64 s) := F3.cell 3 (by simp); have mk2 := True.intro)
      clear f0 f1 f2 e3
      have g3 := (F3.far (a := ⟨GS, 1, none⟩) nS3 (.int .i64 1))
      have g6 := (F6.far (a := ⟨GS, 1, none⟩) nS6 (.int .i64 1))
      have g8 := (F8.far (a := ⟨GS, 1, none⟩) nS8 (.int .i64 1))
      have gS := (FS.put 1 (.int .i64 1))
      have q5 := (ho5.putne (a := ⟨GS, 1, none⟩) oS5 (.int .i64 1))
      have q4 := (ho4.putne (a := ⟨GS, 1, none⟩) oS4 (.int .i64 1))
      have q7 := (ho7.putne (a := ⟨GS, 1, none⟩) oS7 (.int .i64 1))
      have qB := (hB.put (a := ⟨GS, 1, none⟩) hwS (.int .i64 1))
      have hc3 := ((World.cell?_setCell_other w10 ⟨GS, 1, none⟩ ⟨g5, j, none⟩ (.int .i64 1) (fun e => nS5 (congrArg Addr.block e.symm))).trans hc2)
      clear F3 F6 F8 FS ho5 ho4 ho7 hB hc1 hc2
      generalize (w10.setCell ⟨GS, 1, none⟩ (.int .i64 1)) = w12 at g3 g6 g8 gS q5 q4 q7 qB hc3 ⊢
      have d4 : (_ : Option Value) = some (.slice (some ⟨g4, 0, none⟩) l.length c4) := g8.cell 4 (by simp)
      have f0 : (_ : Option Value) = some (.string dat) := gS.cell 0 (by simp)
      have f1 : (_ : Option Value) = some (.int .i64 1) := gS.cell 1 (by simp)
      refine wp_region_still_tail 8 (by kernel_rfl) (by kernel_rfl) ?_
      simp only [List.take_succ_cons, List.take_zero, List.drop_succ_cons, List.drop_zero]
      repeat still_step
      refine wpStill_nil ?_
      change wpList _ _ _ _ _ w12.drew
      clear d4 f0 f1
      replace hc3 : w12.drew.cell? ⟨g5, j, none⟩ = _ := hc3
      replace g3 := BX.dr g3
      replace g6 := BX.dr g6
      replace g8 := BX.dr g8
      replace gS := BX.dr gS
      replace q5 : OO _ _ _ _ _ _ _ := OO.dr q5
      replace q4 : OO _ _ _ _ _ _ _ := OO.dr q4
      replace q7 : OO _ _ _ _ _ _ _ := OO.dr q7
      replace qB : BB w _ := BB.dr qB
      generalize w12.drew = w13 at g3 g6 g8 gS q5 q4 q7 qB hc3 ⊢
      have o1 := World.ownsRow.stored q4 (Y * 2) (.string dat) |>.1
      have o2 := World.ownsRow.stored o1 (Y * 2 + 1) (.int .i64 1) |>.1
      obtain ⟨u0, hu0⟩ := own_some q4 (Y * 2) kb0
      have hz0 := World.ownsRow.frozenAt q4 (Y * 2)
      obtain ⟨u2, hu2⟩ := own_some o1 (Y * 2 + 1) kb1
      have hz2 := World.ownsRow.frozenAt o1 (Y * 2 + 1)
      go_upto_region 15 with fail
      replace g6 := ((g6.far (a := ⟨g4, Y * 2, none⟩) n64 (.string dat)).far (a := ⟨g4, Y * 2 + 1, none⟩) n64 (.int .i64 1))
      replace g8 := ((g8.far (a := ⟨g4, Y * 2, none⟩) n84 (.string dat)).far (a := ⟨g4, Y * 2 + 1, none⟩) n84 (.int .i64 1))
      replace q7 := ((q7.putne (a := ⟨g4, Y * 2, none⟩) o74 (.string dat)).putne (a := ⟨g4, Y * 2 + 1, none⟩) o74 (.int .i64 1))
      replace qB := ((qB.put (a := ⟨g4, Y * 2, none⟩) hw4 (.string dat)).put (a := ⟨g4, Y * 2 + 1, none⟩) hw4 (.int .i64 1))
      have hc4 := ((World.cell?_setCell_other (w13.setCell ⟨g4, Y * 2, none⟩ (.string dat)) ⟨g4, Y * 2 + 1, none⟩ ⟨g5, j, none⟩ (.int .i64 1) (fun e => n54 (congrArg Addr.block e.symm))).trans ((World.cell?_setCell_other w13 ⟨g4, Y * 2, none⟩ ⟨g5, j, none⟩ (.string dat) (fun e => n54 (congrArg Addr.block e.symm))).trans hc3))
      clear hu0 hz0 hu2 hz2 o1 hc3 gS g3 q5
      generalize ((w13.setCell ⟨g4, Y * 2, none⟩ (.string dat)).setCell ⟨g4, Y * 2 + 1, none⟩ (.int .i64 1)) = w14 at g6 g8 q7 qB hc4 o2 ⊢
      have d7 : (_ : Option Value) = some (.slice (some ⟨g7, 0, none⟩) m.length c7) := g8.cell 7 (by simp)
      refine wp_region_still_tail 7 (by kernel_rfl) (by kernel_rfl) ?_
      simp only [List.take_succ_cons, List.take_zero, List.drop_succ_cons, List.drop_zero]
      repeat still_step
      refine wpStill_nil ?_
      change wpList _ _ _ _ _ w14.drew
      clear d7 hc4
      replace g6 := BX.dr g6
      replace g8 := BX.dr g8
      replace q7 : OO _ _ _ _ _ _ _ := OO.dr q7
      replace o2 : OO _ _ _ _ _ _ _ := OO.dr o2
      replace qB : BB w _ := BB.dr qB
      generalize w14.drew = w15 at g6 g8 q7 o2 qB ⊢
      have o7 := World.ownsRow.stored q7 B (.int .i64 (Y : Int)) |>.1
      obtain ⟨u7, hu7⟩ := own_some q7 B (by omega)
      have hz7 := World.ownsRow.frozenAt q7 B
      have P8 := (g8.far (a := ⟨g7, B, none⟩) n87 (.int .i64 (Y : Int)))
      have P6 := (g6.far (a := ⟨g7, B, none⟩) n67 (.int .i64 (Y : Int)))
      have o4 := OO.putne (a := ⟨g7, B, none⟩) o2 o47 (.int .i64 (Y : Int))
      have hBq := (qB.put (a := ⟨g7, B, none⟩) hw7 (.int .i64 (Y : Int)))
      have q_0 : (_ : Option Value) = some (.int .i64 c) := P8.cell 0 (by simp)
      have q_1 : (_ : Option Value) = some (.int .i64 h) := P8.cell 1 (by simp)
      have q_2 : (_ : Option Value) = some (.int .i64 (P : Int)) := P8.cell 2 (by simp)
      have q_3 : (_ : Option Value) = some (.int .i64 s) := P8.cell 3 (by simp)
      have q_4 : (_ : Option Value) = some (.slice (some ⟨g4, 0, none⟩) l.length c4) := P8.cell 4 (by simp)
      have q_5 : (_ : Option Value) = some (.int .i64 (K : Int)) := P8.cell 5 (by simp)
      have q_6 : (_ : Option Value) = some (.int .i64 r) := P8.cell 6 (by simp)
      have q_7 : (_ : Option Value) = some (.slice (some ⟨g7, 0, none⟩) m.length c7) := P8.cell 7 (by simp)
      have z0 : (_ : Option Value) = some (.int .i64 0) := P6.cell 0 (by simp)
      have z1 : (_ : Option Value) = some (.int .i64 0) := P6.cell 1 (by simp)
      have z2 : (_ : Option Value) = some (.int .i64 0) := P6.cell 2 (by simp)
      have z3 : (_ : Option Value) = some (.int .i64 0) := P6.cell 3 (by simp)
      have z4 : (_ : Option Value) = some (.slice none 0 0) := P6.cell 4 (by simp)
      have z5 : (_ : Option Value) = some (.int .i64 0) := P6.cell 5 (by simp)
      have z6 : (_ : Option Value) = some (.int .i64 0) := P6.cell 6 (by simp)
      have z7 : (_ : Option Value) = some (.slice none 0 0) := P6.cell 7 (by simp)
      have hfz := fun j => P6.free j
      go_wp2
      refine bodyPost_ret (v := .tuple #[.agg #[.int .i64 c, .int .i64 h, .int .i64 (P : Int), .int .i64 s, .slice (some ⟨g4, 0, none⟩) l.length c4, .int .i64 (K : Int), .int .i64 r, .slice (some ⟨g7, 0, none⟩) m.length c7], .int .i64 0]) (by simp [results, Try.results22, go_sem, World.cell?_setCell_other, z0, z1, z2, z3, z4, z5, z6, z7]) rfl ⟨_, _, by rw [HR.out.1, HR.out.2]; rfl, ?_, ?_, hne, ?_⟩
      · rw [HR.out.1, HL2, List.length_set, ← setS l Y hYl ⟨dat, 1⟩]
        have o3 : OO _ (w.heap.size + 2) _ _ _ _ (putV (flat fSector l) (Y * 2) (fSector ⟨dat, 1⟩)) := own_base (base' := w.heap.size + 2) o4 (by omega)
        exact own_base (base' := w.heap.size) ((((((((o3.put (a := ⟨w.heap.size + 1, 0, none⟩) (by simp) (.int .i64 c)).put (a := ⟨w.heap.size + 1, 1, none⟩) (by simp) (.int .i64 h)).put (a := ⟨w.heap.size + 1, 2, none⟩) (by simp) (.int .i64 (P : Int))).put (a := ⟨w.heap.size + 1, 3, none⟩) (by simp) (.int .i64 s)).put (a := ⟨w.heap.size + 1, 4, none⟩) (by simp) (.slice (some ⟨g4, 0, none⟩) l.length c4)).put (a := ⟨w.heap.size + 1, 5, none⟩) (by simp) (.int .i64 (K : Int))).put (a := ⟨w.heap.size + 1, 6, none⟩) (by simp) (.int .i64 r)).put (a := ⟨w.heap.size + 1, 7, none⟩) (by simp) (.slice (some ⟨g7, 0, none⟩) m.length c7)) (by omega)
      · rw [HR.out.1, HM.out, List.length_set, ← setI]
        have o3 : OO _ (w.heap.size + 2) _ _ _ _ ((flat fI m).set B (.int .i64 (Y : Int))) := own_base (base' := w.heap.size + 2) o7 (by omega)
        exact own_base (base' := w.heap.size) ((((((((o3.put (a := ⟨w.heap.size + 1, 0, none⟩) (by simp) (.int .i64 c)).put (a := ⟨w.heap.size + 1, 1, none⟩) (by simp) (.int .i64 h)).put (a := ⟨w.heap.size + 1, 2, none⟩) (by simp) (.int .i64 (P : Int))).put (a := ⟨w.heap.size + 1, 3, none⟩) (by simp) (.int .i64 s)).put (a := ⟨w.heap.size + 1, 4, none⟩) (by simp) (.slice (some ⟨g4, 0, none⟩) l.length c4)).put (a := ⟨w.heap.size + 1, 5, none⟩) (by simp) (.int .i64 (K : Int))).put (a := ⟨w.heap.size + 1, 6, none⟩) (by simp) (.int .i64 r)).put (a := ⟨w.heap.size + 1, 7, none⟩) (by simp) (.slice (some ⟨g7, 0, none⟩) m.length c7)) (by omega)
      · exact ((((((((hBq.put (a := ⟨w.heap.size + 1, 0, none⟩) (by simp) (.int .i64 c)).put (a := ⟨w.heap.size + 1, 1, none⟩) (by simp) (.int .i64 h)).put (a := ⟨w.heap.size + 1, 2, none⟩) (by simp) (.int .i64 (P : Int))).put (a := ⟨w.heap.size + 1, 3, none⟩) (by simp) (.int .i64 s)).put (a := ⟨w.heap.size + 1, 4, none⟩) (by simp) (.slice (some ⟨g4, 0, none⟩) l.length c4)).put (a := ⟨w.heap.size + 1, 5, none⟩) (by simp) (.int .i64 (K : Int))).put (a := ⟨w.heap.size + 1, 6, none⟩) (by simp) (.int .i64 r)).put (a := ⟨w.heap.size + 1, 7, none⟩) (by simp) (.slice (some ⟨g7, 0, none⟩) m.length c7))
end Go.Proofs.Ytipkckoejkmhfab
