/- Walks: NewDevice. -/
import Derived.Test.YticnmljahnnhcaaW78
import Derived.Test.YticnmljahnnhcaaW80
import Derived.Deep.RegionHeld3
namespace Go.Proofs.Yticnmljahnnhcaa
open Go.RowKit
set_option linter.unusedVariables false

theorem own_take {w : World} {base : Nat} {e : TypeId} {size n c k : Nat} {A : Option Addr} {xs : List Value} (h : w.ownsRow base e size (.slice A n c) n xs) (hk : k ≤ n) : w.ownsRow base e size (.slice A k c) k (xs.take (k * size)) := by
  have hks : k * size ≤ n * size := Nat.mul_le_mul_right _ hk
  refine ⟨by rw [List.length_take, h.1]; omega, ?_⟩
  rcases h.2 with ⟨hv, h0⟩ | ⟨g, cap, cur, hv, hb, hh, hnc, hcm, hcs, htake⟩
  · left
    injection hv with h1 h2 h3
    exact ⟨by rw [h1, h3, show k = 0 by omega], by omega⟩
  · right
    injection hv with h1 h2 h3
    refine ⟨g, cap, cur, by rw [h1, h3], hb, hh, by omega, hcm, hcs, ?_⟩
    rw [← htake, List.take_take, Nat.min_eq_left hks]
theorem flatI_take : ∀ (l : List Int) (k : Nat), (flat fI l).take (k * 1) = flat fI (l.take k)
  | _, 0 => by simp [flat]
  | [], k + 1 => by simp [flat]
  | x :: l, k + 1 => by
    have := flatI_take l k
    simp only [flat, List.map_cons, List.flatten_cons, fI, List.cons_append, List.nil_append, Nat.mul_one, List.take_succ_cons] at this ⊢
    rw [this]
theorem own_capN {w : World} {base : Nat} {e : TypeId} {size n c : Nat} {A : Option Addr} {xs : List Value} (h : w.ownsRow base e size (.slice A n c) n xs) : n ≤ c := by
  rcases h.2 with ⟨hv, h0⟩ | ⟨g, cap, cur, hv, _, _, hnc, _⟩
  · omega
  · injection hv with _ _ h3
    omega
/-- What NewDevice answers: d says that the disc is valid, N is the number of its sectors. -/
def nvOk (d : Bool) (k r : Int) (N : Nat) : Bool := d && inB k 0 7 && inB r 0 ((N : Int) - 1)
def nvC (d : Bool) (k r : Int) (N : Nat) : Int := if d then (if inB k 0 7 && inB r 0 ((N : Int) - 1) then 0 else 2) else 1
def nvL (b : Bool) (l : List DSector) : List DSector := if b then l else []
def nvM (b : Bool) (c h p k r : Int) (N : Nat) : List Int := if b then (ordT p.toNat k.toNat (c * h).toNat).take ((N : Int) - r).toNat else []
theorem nv_1 {k r : Int} {N : Nat} : nvOk false k r N = false ∧ nvC false k r N = 1 := by simp [nvOk, nvC]
theorem nv_2 {k r : Int} {N : Nat} (g : inB k 0 7 = false) : nvOk true k r N = false ∧ nvC true k r N = 2 := by simp [nvOk, nvC, g]
theorem nv_3 {k r : Int} {N : Nat} (g : inB r 0 ((N : Int) - 1) = false) : nvOk true k r N = false ∧ nvC true k r N = 2 := by simp [nvOk, nvC, g]
theorem nv_4 {k r : Int} {N : Nat} (g : inB k 0 7 = true) (g2 : inB r 0 ((N : Int) - 1) = true) : nvOk true k r N = true ∧ nvC true k r N = 0 := by simp [nvOk, nvC, g, g2]
theorem nvL_len (b : Bool) (l : List DSector) : (nvL b l).length ≤ l.length := by
  unfold nvL
  split <;> simp
theorem nvM_len (b : Bool) (c h p k r : Int) (N : Nat) (hb : b = true → 0 ≤ r) : (nvM b c h p k r N).length ≤ N := by
  unfold nvM
  split
  · rename_i g
    have := hb g
    rw [List.length_take]
    omega
  · simp
theorem nvOk_r {d : Bool} {k r : Int} {N : Nat} (h : nvOk d k r N = true) : 0 ≤ r := by
  simp only [nvOk, Bool.and_eq_true] at h
  exact (inB_yes h.2).1

set_option maxRecDepth 100000 in
set_option maxHeartbeats 2000000 in
theorem spec_NewDevice_any (c h p s : Int) (A : Option Addr) (cp : Nat) (l : List DSector) (k r : Int) (w : World) (hr : Rd w w.heap.size 2 A l.length (flat fSector l)) (hn : l.length ≤ 1048576) (hok : ∀ x ∈ l, okSector x) :
    Calls Try.prog 121 #[.agg #[.int .i64 c, .int .i64 h, .int .i64 p, .int .i64 s, .slice A l.length cp], .int .i64 k, .int .i64 r] w fun e w' => ∃ (v4 : Value) (A7 : Option Addr) (c7 c0 : Nat), e = .returned (.tuple #[.agg #[.int .i64 (ptN (nvOk (okD c h p s l) k r l.length) c), .int .i64 (ptN (nvOk (okD c h p s l) k r l.length) h), .int .i64 (ptN (nvOk (okD c h p s l) k r l.length) p), .int .i64 (ptN (nvOk (okD c h p s l) k r l.length) s), v4, .int .i64 (ptN (nvOk (okD c h p s l) k r l.length) k), .int .i64 (ptN (nvOk (okD c h p s l) k r l.length) r), .slice A7 (nvM (nvOk (okD c h p s l) k r l.length) c h p k r l.length).length c7], .int .i64 (nvC (okD c h p s l) k r l.length)]) ∧ w'.ownsRow w.heap.size 39 2 v4 (nvL (nvOk (okD c h p s l) k r l.length) l).length (flat fSector (nvL (nvOk (okD c h p s l) k r l.length) l)) ∧ w'.ownsRow w.heap.size 2 1 (.slice A7 (nvM (nvOk (okD c h p s l) k r l.length) c h p k r l.length).length c0) (nvM (nvOk (okD c h p s l) k r l.length) c h p k r l.length).length (flat fI (nvM (nvOk (okD c h p s l) k r l.length) c h p k r l.length)) ∧ (v4.ownBlock = none ∨ v4.ownBlock ≠ (Value.slice A7 (nvM (nvOk (okD c h p s l) k r l.length) c h p k r l.length).length c0).ownBlock) ∧ Below w.heap.size w w' := by
  have F3 := (BX.made w 26 [.int .i64 c, .int .i64 h, .int .i64 p, .int .i64 s, .slice A l.length cp]).al (.cells #[.int .i64 0, .int .i64 0, .int .i64 0, .int .i64 0, .slice none 0 0, .int .i64 0, .int .i64 0, .slice none 0 0] 31)
  have F6 := BX.made1 w (.cells #[.int .i64 c, .int .i64 h, .int .i64 p, .int .i64 s, .slice A l.length cp] 26) 31 [.int .i64 0, .int .i64 0, .int .i64 0, .int .i64 0, .slice none 0 0, .int .i64 0, .int .i64 0, .slice none 0 0]
  obtain ⟨wb, hwb⟩ : ∃ wb, wb = (w.alloc (.cells #[.int .i64 c, .int .i64 h, .int .i64 p, .int .i64 s, .slice A l.length cp] 26)).alloc (.cells #[.int .i64 0, .int .i64 0, .int .i64 0, .int .i64 0, .slice none 0 0, .int .i64 0, .int .i64 0, .slice none 0 0] 31) := ⟨_, rfl⟩
  rw [← hwb] at F3 F6
  have hb0 : Below w.heap.size w wb := by rw [hwb]; exact (by with_reducible repeat (first | exact Below.refl _ _ | assumption | refine below_step ?_ (by assumption) | refine Below.drew ?_ | refine below_drewN ?_ _ | refine below_alloc ?_ _ | refine Below.setCell ?_ (by simp; try omega) _))
  have hs0 : w.heap.size + 1 < wb.heap.size := F6.lt
  have hrb := (hr.below hb0).more hb0.size
  have DP3 : DP wb w.heap.size c h p s (.slice A l.length cp) := ⟨F3.cell 0 (by simp), F3.cell 1 (by simp), F3.cell 2 (by simp), F3.cell 3 (by simp), F3.cell 4 (by simp)⟩
  have HW := Lib.hid hwb
  clear hwb
  have hq := l12Ok_any w.heap.size c h p s A cp l wb DP3 hrb hn hok
  have hin1 := fun W => l00In_any k 0 7 W
  have hin2 := fun W => l00In_any r 0 ((l.length : Int) - 1) W
  cases hd : okD c h p s l
  · rw [hd] at hq
    have HR := Lib.hid (nv_1 (k := k) (r := r) (N := l.length))
    go_enter Try.func121, Try.ntmps121
    go_wp2_with (first
          | (go_at_call 76; rw [← HW.out]; refine hq.mono ?_; rintro e w2 ⟨rfl, hx⟩; replace F3 := F3.below hx F3.lt; replace F6 := F6.below hx F6.lt; have hB : Below w.heap.size w w2 := hb0.trans (hx.mono (by omega)); have e0 : (_ : Option Value) = some (.int .i64 c) := F3.cell 0 (by simp); have e1 : (_ : Option Value) = some (.int .i64 h) := F3.cell 1 (by simp); have e2 : (_ : Option Value) = some (.int .i64 p) := F3.cell 2 (by simp); have e3 : (_ : Option Value) = some (.int .i64 s) := F3.cell 3 (by simp); have e4 : (_ : Option Value) = some (.slice A l.length cp) := F3.cell 4 (by simp); have z0 : (_ : Option Value) = some (.int .i64 0) := F6.cell 0 (by simp); have z1 : (_ : Option Value) = some (.int .i64 0) := F6.cell 1 (by simp); have z2 : (_ : Option Value) = some (.int .i64 0) := F6.cell 2 (by simp); have z3 : (_ : Option Value) = some (.int .i64 0) := F6.cell 3 (by simp); have z4 : (_ : Option Value) = some (.slice none 0 0) := F6.cell 4 (by simp); have z5 : (_ : Option Value) = some (.int .i64 0) := F6.cell 5 (by simp); have z6 : (_ : Option Value) = some (.int .i64 0) := F6.cell 6 (by simp); have z7 : (_ : Option Value) = some (.slice none 0 0) := F6.cell 7 (by simp); have hfz := fun j => F6.free j; have hs2 := F6.lt))
    refine bodyPost_ret (v := .tuple #[.agg #[.int .i64 0, .int .i64 0, .int .i64 0, .int .i64 0, .slice none 0 0, .int .i64 0, .int .i64 0, .slice none 0 0], .int .i64 1]) (by simp [results, Try.results121, go_sem, World.cell?_setCell_other, z0, z1, z2, z3, z4, z5, z6, z7]) rfl ⟨.slice none 0 0, none, 0, 0, by rw [HR.out.1, HR.out.2]; rfl, ?_, ?_, .inl rfl, ?_⟩
    · rw [HR.out.1]; exact World.ownsRow_nil _ _ _ _
    · rw [HR.out.1]; exact World.ownsRow_nil _ _ _ _
    · exact (by with_reducible repeat (first | exact Below.refl _ _ | assumption | refine below_step ?_ (by assumption) | refine Below.drew ?_ | refine below_drewN ?_ _ | refine below_alloc ?_ _ | refine Below.setCell ?_ (by simp; try omega) _))
  rw [hd] at hq
  cases g1 : inB k 0 7
  · rw [g1] at hin1
    clear hd
    have HR := Lib.hid (nv_2 (r := r) (N := l.length) g1)
    go_enter Try.func121, Try.ntmps121
    go_wp2_with (first
          | (go_at_call 71; have := mk1; refine (hin2 _).mono ?_; rintro e w9 ⟨rfl, rfl⟩)
          | (go_at_call 71; refine (hin1 _).mono ?_; rintro e w9 ⟨rfl, rfl⟩; have mk1 := True.intro)
          | (go_at_call 76; rw [← HW.out]; refine hq.mono ?_; rintro e w2 ⟨rfl, hx⟩; replace F3 := F3.below hx F3.lt; replace F6 := F6.below hx F6.lt; have hB : Below w.heap.size w w2 := hb0.trans (hx.mono (by omega)); have e0 : (_ : Option Value) = some (.int .i64 c) := F3.cell 0 (by simp); have e1 : (_ : Option Value) = some (.int .i64 h) := F3.cell 1 (by simp); have e2 : (_ : Option Value) = some (.int .i64 p) := F3.cell 2 (by simp); have e3 : (_ : Option Value) = some (.int .i64 s) := F3.cell 3 (by simp); have e4 : (_ : Option Value) = some (.slice A l.length cp) := F3.cell 4 (by simp); have z0 : (_ : Option Value) = some (.int .i64 0) := F6.cell 0 (by simp); have z1 : (_ : Option Value) = some (.int .i64 0) := F6.cell 1 (by simp); have z2 : (_ : Option Value) = some (.int .i64 0) := F6.cell 2 (by simp); have z3 : (_ : Option Value) = some (.int .i64 0) := F6.cell 3 (by simp); have z4 : (_ : Option Value) = some (.slice none 0 0) := F6.cell 4 (by simp); have z5 : (_ : Option Value) = some (.int .i64 0) := F6.cell 5 (by simp); have z6 : (_ : Option Value) = some (.int .i64 0) := F6.cell 6 (by simp); have z7 : (_ : Option Value) = some (.slice none 0 0) := F6.cell 7 (by simp); have hfz := fun j => F6.free j; have hs2 := F6.lt))
    refine bodyPost_ret (v := .tuple #[.agg #[.int .i64 0, .int .i64 0, .int .i64 0, .int .i64 0, .slice none 0 0, .int .i64 0, .int .i64 0, .slice none 0 0], .int .i64 2]) (by simp [results, Try.results121, go_sem, World.cell?_setCell_other, z0, z1, z2, z3, z4, z5, z6, z7]) rfl ⟨.slice none 0 0, none, 0, 0, by rw [HR.out.1, HR.out.2]; rfl, ?_, ?_, .inl rfl, ?_⟩
    · rw [HR.out.1]; exact World.ownsRow_nil _ _ _ _
    · rw [HR.out.1]; exact World.ownsRow_nil _ _ _ _
    · exact (by with_reducible repeat (first | exact Below.refl _ _ | assumption | refine below_step ?_ (by assumption) | refine Below.drew ?_ | refine below_drewN ?_ _ | refine below_alloc ?_ _ | refine Below.setCell ?_ (by simp; try omega) _))
  rw [g1] at hin1
  cases g2 : inB r 0 ((l.length : Int) - 1)
  · rw [g2] at hin2
    clear hd
    have HR := Lib.hid (nv_3 (k := k) (N := l.length) g2)
    go_enter Try.func121, Try.ntmps121
    go_wp2_with (first
          | (go_at_call 71; have := mk1; refine (hin2 _).mono ?_; rintro e w9 ⟨rfl, rfl⟩)
          | (go_at_call 71; refine (hin1 _).mono ?_; rintro e w9 ⟨rfl, rfl⟩; have mk1 := True.intro)
          | (go_at_call 76; rw [← HW.out]; refine hq.mono ?_; rintro e w2 ⟨rfl, hx⟩; replace F3 := F3.below hx F3.lt; replace F6 := F6.below hx F6.lt; have hB : Below w.heap.size w w2 := hb0.trans (hx.mono (by omega)); have e0 : (_ : Option Value) = some (.int .i64 c) := F3.cell 0 (by simp); have e1 : (_ : Option Value) = some (.int .i64 h) := F3.cell 1 (by simp); have e2 : (_ : Option Value) = some (.int .i64 p) := F3.cell 2 (by simp); have e3 : (_ : Option Value) = some (.int .i64 s) := F3.cell 3 (by simp); have e4 : (_ : Option Value) = some (.slice A l.length cp) := F3.cell 4 (by simp); have z0 : (_ : Option Value) = some (.int .i64 0) := F6.cell 0 (by simp); have z1 : (_ : Option Value) = some (.int .i64 0) := F6.cell 1 (by simp); have z2 : (_ : Option Value) = some (.int .i64 0) := F6.cell 2 (by simp); have z3 : (_ : Option Value) = some (.int .i64 0) := F6.cell 3 (by simp); have z4 : (_ : Option Value) = some (.slice none 0 0) := F6.cell 4 (by simp); have z5 : (_ : Option Value) = some (.int .i64 0) := F6.cell 5 (by simp); have z6 : (_ : Option Value) = some (.int .i64 0) := F6.cell 6 (by simp); have z7 : (_ : Option Value) = some (.slice none 0 0) := F6.cell 7 (by simp); have hfz := fun j => F6.free j; have hs2 := F6.lt))
    refine bodyPost_ret (v := .tuple #[.agg #[.int .i64 0, .int .i64 0, .int .i64 0, .int .i64 0, .slice none 0 0, .int .i64 0, .int .i64 0, .slice none 0 0], .int .i64 2]) (by simp [results, Try.results121, go_sem, World.cell?_setCell_other, z0, z1, z2, z3, z4, z5, z6, z7]) rfl ⟨.slice none 0 0, none, 0, 0, by rw [HR.out.1, HR.out.2]; rfl, ?_, ?_, .inl rfl, ?_⟩
    · rw [HR.out.1]; exact World.ownsRow_nil _ _ _ _
    · rw [HR.out.1]; exact World.ownsRow_nil _ _ _ _
    · exact (by with_reducible repeat (first | exact Below.refl _ _ | assumption | refine below_step ?_ (by assumption) | refine Below.drew ?_ | refine below_drewN ?_ _ | refine below_alloc ?_ _ | refine Below.setCell ?_ (by simp; try omega) _))
  rw [g2] at hin2
  have HR := Lib.hid (nv_4 (N := l.length) g1 g2)
  obtain ⟨k0, k1⟩ := inB_yes g1
  obtain ⟨r0, r1⟩ := inB_yes g2
  obtain ⟨K, rfl⟩ : ∃ K : Nat, k = (K : Int) := ⟨k.toNat, by omega⟩
  obtain ⟨R, rfl⟩ : ∃ R : Nat, r = (R : Int) := ⟨r.toNat, by omega⟩
  have hgeo := okD_geo hd
  obtain ⟨c1, c2, h1, h2, p1, p2, s1, s2⟩ := geoB_yes hgeo.1
  obtain ⟨m1, m2⟩ := prod2 c1 c2 h1 h2
  obtain ⟨P, rfl⟩ : ∃ P : Nat, p = (P : Int) := ⟨p.toNat, by omega⟩
  obtain ⟨T, hT⟩ : ∃ T : Nat, c * h = (T : Int) := ⟨(c * h).toNat, by omega⟩
  have hNT : l.length = T * P := by
    have := hgeo.2.1
    rw [hT] at this
    omega
  obtain ⟨m, hm⟩ : ∃ m : Nat, m = l.length - R := ⟨_, rfl⟩
  have hmpos : 0 < m := by omega
  have hml : m ≤ l.length := by omega
  have hRl : R ≤ l.length := by omega
  have hsub : IntKind.i64.wrap ((l.length : Int) - (R : Int)) = (m : Int) := (IntWalk.i64_in _ (by omega)).trans (by omega)
  have HM := Lib.hid (show nvM true c h (P : Int) (K : Int) (R : Int) l.length = (ordT P K T).take m by
    unfold nvM
    rw [if_pos rfl, hT, Int.toNat_natCast, Int.toNat_natCast, Int.toNat_natCast, show ((l.length : Int) - (R : Int)).toNat = m by omega])
  have HOL := Lib.hid (show (ordT P K T).length = l.length by rw [ordT_len, hNT])
  have HTL := Lib.hid (show ((ordT P K T).take m).length = m by rw [List.length_take, HOL.out]; omega)
  have hord := fun (W : World) (hd : DP W w.heap.size c h (P : Int) s (.slice A l.length cp)) => l15Order_any w.heap.size c h s (.slice A l.length cp) T P K W hd hT (by omega) (by omega) (by omega) (by omega)
  have hpos : 0 < l.length := by omega
  clear hd hgeo hT hNT hm c1 c2 h1 h2 m1 m2 s1 s2 k0 g1 g2
  go_enter Try.func121, Try.ntmps121
  have HL2 := Lib.hid (ordT_len P K T)
  go_wp2_with (first
        | (go_at_call 71; have := mk1; refine (hin2 _).mono ?_; rintro e w9 ⟨rfl, rfl⟩)
        | (go_at_call 71; refine (hin1 _).mono ?_; rintro e w9 ⟨rfl, rfl⟩; have mk1 := True.intro)
        | (go_at_call 143; refine (hord _ ⟨F3.cell 0 (by simp), F3.cell 1 (by simp), F3.cell 2 (by simp), F3.cell 3 (by simp), F3.cell 4 (by simp)⟩).mono ?_; rintro e w5 ⟨v5, rfl, hown5, hx5⟩; obtain ⟨g5, c5, hv⟩ := Go.Joins.ownsRow_form hown5 (by rw [HOL.out]; exact hpos); cases hv; have hlt5 := World.ownsRow.lt hown5 g5 rfl; have hcap := own_capN hown5; clear e0 e1 e2 e3 e4 z0 z1 z2 z3 z4 z5 z6 z7 hfz; replace F3 := F3.below hx5 F3.lt; replace F6 := F6.below hx5 F6.lt; replace hB := below_step hB hx5; replace ho4 := own_later ho4 hx5 (Nat.le_refl _); have e0 : (_ : Option Value) = some (.int .i64 c) := F3.cell 0 (by simp); have e1 : (_ : Option Value) = some (.int .i64 h) := F3.cell 1 (by simp); have e2 : (_ : Option Value) = some (.int .i64 (P : Int)) := F3.cell 2 (by simp); have e3 : (_ : Option Value) = some (.int .i64 s) := F3.cell 3 (by simp); have e4 : (_ : Option Value) = some (.slice A l.length cp) := F3.cell 4 (by simp); have z0 : (_ : Option Value) = some (.int .i64 0) := F6.cell 0 (by simp); have z1 : (_ : Option Value) = some (.int .i64 0) := F6.cell 1 (by simp); have z2 : (_ : Option Value) = some (.int .i64 0) := F6.cell 2 (by simp); have z3 : (_ : Option Value) = some (.int .i64 0) := F6.cell 3 (by simp); have z4 : (_ : Option Value) = some (.slice none 0 0) := F6.cell 4 (by simp); have z5 : (_ : Option Value) = some (.int .i64 0) := F6.cell 5 (by simp); have z6 : (_ : Option Value) = some (.int .i64 0) := F6.cell 6 (by simp); have z7 : (_ : Option Value) = some (.slice none 0 0) := F6.cell 7 (by simp); have hfz := fun j => F6.free j; have hq1 : m ≤ c5 := (by have := HOL.out; omega); have hq2 : ¬ c5 = 0 := (by omega))
        | (go_at_call 106; refine (l12Own_any w.heap.size c h (P : Int) s A cp l _ ⟨F3.cell 0 (by simp), F3.cell 1 (by simp), F3.cell 2 (by simp), F3.cell 3 (by simp), F3.cell 4 (by simp)⟩ ((hr.below hB).more hB.size) hn).mono ?_; rintro e w4 ⟨v4, rfl, hown4, hx4⟩; obtain ⟨g4, c4, hv⟩ := Go.Joins.ownsRow_form hown4 hpos; cases hv; have hlt4 := World.ownsRow.lt hown4 g4 rfl; clear e0 e1 e2 e3 e4 z0 z1 z2 z3 z4 z5 z6 z7 hfz; replace F3 := F3.below hx4 F3.lt; replace F6 := F6.below hx4 F6.lt; replace hB := below_step hB hx4; have e0 : (_ : Option Value) = some (.int .i64 c) := F3.cell 0 (by simp); have e1 : (_ : Option Value) = some (.int .i64 h) := F3.cell 1 (by simp); have e2 : (_ : Option Value) = some (.int .i64 (P : Int)) := F3.cell 2 (by simp); have e3 : (_ : Option Value) = some (.int .i64 s) := F3.cell 3 (by simp); have e4 : (_ : Option Value) = some (.slice A l.length cp) := F3.cell 4 (by simp); have z0 : (_ : Option Value) = some (.int .i64 0) := F6.cell 0 (by simp); have z1 : (_ : Option Value) = some (.int .i64 0) := F6.cell 1 (by simp); have z2 : (_ : Option Value) = some (.int .i64 0) := F6.cell 2 (by simp); have z3 : (_ : Option Value) = some (.int .i64 0) := F6.cell 3 (by simp); have z4 : (_ : Option Value) = some (.slice none 0 0) := F6.cell 4 (by simp); have z5 : (_ : Option Value) = some (.int .i64 0) := F6.cell 5 (by simp); have z6 : (_ : Option Value) = some (.int .i64 0) := F6.cell 6 (by simp); have z7 : (_ : Option Value) = some (.slice none 0 0) := F6.cell 7 (by simp); have hfz := fun j => F6.free j; have ho4 := hown4)
        | (go_at_call 76; rw [← HW.out]; refine hq.mono ?_; rintro e w2 ⟨rfl, hx⟩; replace F3 := F3.below hx F3.lt; replace F6 := F6.below hx F6.lt; have hB : Below w.heap.size w w2 := hb0.trans (hx.mono (by omega)); have e0 : (_ : Option Value) = some (.int .i64 c) := F3.cell 0 (by simp); have e1 : (_ : Option Value) = some (.int .i64 h) := F3.cell 1 (by simp); have e2 : (_ : Option Value) = some (.int .i64 (P : Int)) := F3.cell 2 (by simp); have e3 : (_ : Option Value) = some (.int .i64 s) := F3.cell 3 (by simp); have e4 : (_ : Option Value) = some (.slice A l.length cp) := F3.cell 4 (by simp); have z0 : (_ : Option Value) = some (.int .i64 0) := F6.cell 0 (by simp); have z1 : (_ : Option Value) = some (.int .i64 0) := F6.cell 1 (by simp); have z2 : (_ : Option Value) = some (.int .i64 0) := F6.cell 2 (by simp); have z3 : (_ : Option Value) = some (.int .i64 0) := F6.cell 3 (by simp); have z4 : (_ : Option Value) = some (.slice none 0 0) := F6.cell 4 (by simp); have z5 : (_ : Option Value) = some (.int .i64 0) := F6.cell 5 (by simp); have z6 : (_ : Option Value) = some (.int .i64 0) := F6.cell 6 (by simp); have z7 : (_ : Option Value) = some (.slice none 0 0) := F6.cell 7 (by simp); have hfz := fun j => F6.free j; have hs2 := F6.lt))
  refine bodyPost_ret (v := .tuple #[.agg #[.int .i64 c, .int .i64 h, .int .i64 (P : Int), .int .i64 s, .slice (some ⟨g4, 0, none⟩) l.length c4, .int .i64 (K : Int), .int .i64 (R : Int), .slice (some ⟨g5, 0, none⟩) m c5], .int .i64 0]) (by simp [results, Try.results121, go_sem, World.cell?_setCell_other, z0, z1, z2, z3, z4, z5, z6, z7]) rfl ⟨_, some ⟨g5, 0, none⟩, c5, c5, by rw [HR.out.1, HR.out.2, HM.out, HTL.out]; rfl, ?_, ?_, ?_, ?_⟩
  · rw [HR.out.1, show nvL true l = l from rfl]
    have ho := own_base (base' := w.heap.size + 1 + 1) ho4 (by omega)
    refine own_base (base := w.heap.size + 1 + 1) ?_ (by omega)
    with_reducible repeat (first | exact ho | refine ownsRow_setCell_below ?_ (by simp; try omega) _)
  · rw [HR.out.1, HM.out, HTL.out, ← flatI_take]
    have hoo : World.ownsRow _ _ _ _ (.slice (some ⟨g5, 0, none⟩) m c5) m _ := own_take (k := m) (by have h9 := hown5; rw [HOL.out] at h9; exact h9) hml
    have ho := own_base (base' := w.heap.size + 1 + 1) hoo (by omega)
    refine own_base (base := w.heap.size + 1 + 1) ?_ (by omega)
    with_reducible repeat (first | exact ho | refine ownsRow_setCell_below ?_ (by simp; try omega) _)
  · right
    intro e
    injection e with e
    have : g4 = g5 := e
    omega
  · exact (by with_reducible repeat (first | exact Below.refl _ _ | assumption | refine below_step ?_ (by assumption) | refine Below.drew ?_ | refine below_drewN ?_ _ | refine below_alloc ?_ _ | refine Below.setCell ?_ (by simp; try omega) _))
set_option maxRecDepth 100000 in
set_option maxHeartbeats 2000000 in
theorem impl_NewDevice_any (c h p s : Int) (A : Option Addr) (cp : Nat) (l : List DSector) (k r : Int) (w : World) (hr : Rd w w.heap.size 2 A l.length (flat fSector l)) (hn : l.length ≤ 1048576) (hok : ∀ x ∈ l, okSector x) :
    Calls Try.prog 11 #[.agg #[.int .i64 c, .int .i64 h, .int .i64 p, .int .i64 s, .slice A l.length cp], .int .i64 k, .int .i64 r] w fun e w' => ∃ (v4 : Value) (A7 : Option Addr) (c7 c0 : Nat), e = .returned (.tuple #[.agg #[.int .i64 (ptN (nvOk (okD c h p s l) k r l.length) c), .int .i64 (ptN (nvOk (okD c h p s l) k r l.length) h), .int .i64 (ptN (nvOk (okD c h p s l) k r l.length) p), .int .i64 (ptN (nvOk (okD c h p s l) k r l.length) s), v4, .int .i64 (ptN (nvOk (okD c h p s l) k r l.length) k), .int .i64 (ptN (nvOk (okD c h p s l) k r l.length) r), .slice A7 (nvM (nvOk (okD c h p s l) k r l.length) c h p k r l.length).length c7], .int .i64 (nvC (okD c h p s l) k r l.length)]) ∧ w'.ownsRow w.heap.size 39 2 v4 (nvL (nvOk (okD c h p s l) k r l.length) l).length (flat fSector (nvL (nvOk (okD c h p s l) k r l.length) l)) ∧ w'.ownsRow w.heap.size 2 1 (.slice A7 (nvM (nvOk (okD c h p s l) k r l.length) c h p k r l.length).length c0) (nvM (nvOk (okD c h p s l) k r l.length) c h p k r l.length).length (flat fI (nvM (nvOk (okD c h p s l) k r l.length) c h p k r l.length)) ∧ (v4.ownBlock = none ∨ v4.ownBlock ≠ (Value.slice A7 (nvM (nvOk (okD c h p s l) k r l.length) c h p k r l.length).length c0).ownBlock) ∧ Below w.heap.size w w' := by
  have F3 := (BX.made w 26 [.int .i64 c, .int .i64 h, .int .i64 p, .int .i64 s, .slice A l.length cp]).al (.cells #[.int .i64 0, .int .i64 0, .int .i64 0, .int .i64 0, .slice none 0 0, .int .i64 0, .int .i64 0, .slice none 0 0] 31)
  have F6 := BX.made1 w (.cells #[.int .i64 c, .int .i64 h, .int .i64 p, .int .i64 s, .slice A l.length cp] 26) 31 [.int .i64 0, .int .i64 0, .int .i64 0, .int .i64 0, .slice none 0 0, .int .i64 0, .int .i64 0, .slice none 0 0]
  obtain ⟨wb, hwb⟩ : ∃ wb, wb = (w.alloc (.cells #[.int .i64 c, .int .i64 h, .int .i64 p, .int .i64 s, .slice A l.length cp] 26)).alloc (.cells #[.int .i64 0, .int .i64 0, .int .i64 0, .int .i64 0, .slice none 0 0, .int .i64 0, .int .i64 0, .slice none 0 0] 31) := ⟨_, rfl⟩
  rw [← hwb] at F3 F6
  have hb0 : Below w.heap.size w wb := by rw [hwb]; exact (by with_reducible repeat (first | exact Below.refl _ _ | assumption | refine below_step ?_ (by assumption) | refine Below.drew ?_ | refine below_drewN ?_ _ | refine below_alloc ?_ _ | refine Below.setCell ?_ (by simp; try omega) _))
  have hs0 : w.heap.size + 1 < wb.heap.size := F6.lt
  have hrb := (hr.below hb0).more hb0.size
  have DP3 : DP wb w.heap.size c h p s (.slice A l.length cp) := ⟨F3.cell 0 (by simp), F3.cell 1 (by simp), F3.cell 2 (by simp), F3.cell 3 (by simp), F3.cell 4 (by simp)⟩
  have HW := Lib.hid hwb
  clear hwb
  have hq := impl_ValidDisc_any c h p s A cp l wb hrb hn hok
  have hin1 := fun W => within_any k 0 7 W
  have hin2 := fun W => within_any r 0 ((l.length : Int) - 1) W
  have b0 : (_ : Option Value) = some (.int .i64 c) := F3.cell 0 (by simp)
  have b1 : (_ : Option Value) = some (.int .i64 h) := F3.cell 1 (by simp)
  have b2 : (_ : Option Value) = some (.int .i64 p) := F3.cell 2 (by simp)
  have b3 : (_ : Option Value) = some (.int .i64 s) := F3.cell 3 (by simp)
  have b4 : (_ : Option Value) = some (.slice A l.length cp) := F3.cell 4 (by simp)
  cases hd : okD c h p s l
  · rw [hd] at hq
    have HR := Lib.hid (nv_1 (k := k) (r := r) (N := l.length))
    go_enter Try.func11, Try.ntmps11
    go_wp2_with (first
          | (go_at_call 62; rw [← HW.out]; refine hq.mono ?_; rintro e w2 ⟨rfl, hx⟩; replace F3 := F3.below hx F3.lt; replace F6 := F6.below hx F6.lt; have hB : Below w.heap.size w w2 := hb0.trans (hx.mono (by omega)); have e0 : (_ : Option Value) = some (.int .i64 c) := F3.cell 0 (by simp); have e1 : (_ : Option Value) = some (.int .i64 h) := F3.cell 1 (by simp); have e2 : (_ : Option Value) = some (.int .i64 p) := F3.cell 2 (by simp); have e3 : (_ : Option Value) = some (.int .i64 s) := F3.cell 3 (by simp); have e4 : (_ : Option Value) = some (.slice A l.length cp) := F3.cell 4 (by simp); have z0 : (_ : Option Value) = some (.int .i64 0) := F6.cell 0 (by simp); have z1 : (_ : Option Value) = some (.int .i64 0) := F6.cell 1 (by simp); have z2 : (_ : Option Value) = some (.int .i64 0) := F6.cell 2 (by simp); have z3 : (_ : Option Value) = some (.int .i64 0) := F6.cell 3 (by simp); have z4 : (_ : Option Value) = some (.slice none 0 0) := F6.cell 4 (by simp); have z5 : (_ : Option Value) = some (.int .i64 0) := F6.cell 5 (by simp); have z6 : (_ : Option Value) = some (.int .i64 0) := F6.cell 6 (by simp); have z7 : (_ : Option Value) = some (.slice none 0 0) := F6.cell 7 (by simp); have hfz := fun j => F6.free j; have hs2 := F6.lt))
    refine bodyPost_ret (v := .tuple #[.agg #[.int .i64 0, .int .i64 0, .int .i64 0, .int .i64 0, .slice none 0 0, .int .i64 0, .int .i64 0, .slice none 0 0], .int .i64 1]) (by simp [results, Try.results11, go_sem, World.cell?_setCell_other, z0, z1, z2, z3, z4, z5, z6, z7]) rfl ⟨.slice none 0 0, none, 0, 0, by rw [HR.out.1, HR.out.2]; rfl, ?_, ?_, .inl rfl, ?_⟩
    · rw [HR.out.1]; exact World.ownsRow_nil _ _ _ _
    · rw [HR.out.1]; exact World.ownsRow_nil _ _ _ _
    · exact (by with_reducible repeat (first | exact Below.refl _ _ | assumption | refine below_step ?_ (by assumption) | refine Below.drew ?_ | refine below_drewN ?_ _ | refine below_alloc ?_ _ | refine Below.setCell ?_ (by simp; try omega) _))
  rw [hd] at hq
  cases g1 : inB k 0 7
  · rw [g1] at hin1
    clear hd
    have HR := Lib.hid (nv_2 (r := r) (N := l.length) g1)
    go_enter Try.func11, Try.ntmps11
    go_wp2_with (first
          | (go_at_call 64; have := mk1; refine (hin2 _).mono ?_; rintro e w9 ⟨rfl, rfl⟩)
          | (go_at_call 64; refine (hin1 _).mono ?_; rintro e w9 ⟨rfl, rfl⟩; have mk1 := True.intro)
          | (go_at_call 63; refine (size_sector_any A l.length cp _).mono ?_; rintro e w9 ⟨rfl, rfl⟩)
          | (go_at_call 62; rw [← HW.out]; refine hq.mono ?_; rintro e w2 ⟨rfl, hx⟩; replace F3 := F3.below hx F3.lt; replace F6 := F6.below hx F6.lt; have hB : Below w.heap.size w w2 := hb0.trans (hx.mono (by omega)); have e0 : (_ : Option Value) = some (.int .i64 c) := F3.cell 0 (by simp); have e1 : (_ : Option Value) = some (.int .i64 h) := F3.cell 1 (by simp); have e2 : (_ : Option Value) = some (.int .i64 p) := F3.cell 2 (by simp); have e3 : (_ : Option Value) = some (.int .i64 s) := F3.cell 3 (by simp); have e4 : (_ : Option Value) = some (.slice A l.length cp) := F3.cell 4 (by simp); have z0 : (_ : Option Value) = some (.int .i64 0) := F6.cell 0 (by simp); have z1 : (_ : Option Value) = some (.int .i64 0) := F6.cell 1 (by simp); have z2 : (_ : Option Value) = some (.int .i64 0) := F6.cell 2 (by simp); have z3 : (_ : Option Value) = some (.int .i64 0) := F6.cell 3 (by simp); have z4 : (_ : Option Value) = some (.slice none 0 0) := F6.cell 4 (by simp); have z5 : (_ : Option Value) = some (.int .i64 0) := F6.cell 5 (by simp); have z6 : (_ : Option Value) = some (.int .i64 0) := F6.cell 6 (by simp); have z7 : (_ : Option Value) = some (.slice none 0 0) := F6.cell 7 (by simp); have hfz := fun j => F6.free j; have hs2 := F6.lt))
    refine bodyPost_ret (v := .tuple #[.agg #[.int .i64 0, .int .i64 0, .int .i64 0, .int .i64 0, .slice none 0 0, .int .i64 0, .int .i64 0, .slice none 0 0], .int .i64 2]) (by simp [results, Try.results11, go_sem, World.cell?_setCell_other, z0, z1, z2, z3, z4, z5, z6, z7]) rfl ⟨.slice none 0 0, none, 0, 0, by rw [HR.out.1, HR.out.2]; rfl, ?_, ?_, .inl rfl, ?_⟩
    · rw [HR.out.1]; exact World.ownsRow_nil _ _ _ _
    · rw [HR.out.1]; exact World.ownsRow_nil _ _ _ _
    · exact (by with_reducible repeat (first | exact Below.refl _ _ | assumption | refine below_step ?_ (by assumption) | refine Below.drew ?_ | refine below_drewN ?_ _ | refine below_alloc ?_ _ | refine Below.setCell ?_ (by simp; try omega) _))
  rw [g1] at hin1
  cases g2 : inB r 0 ((l.length : Int) - 1)
  · rw [g2] at hin2
    clear hd
    have HR := Lib.hid (nv_3 (k := k) (N := l.length) g2)
    go_enter Try.func11, Try.ntmps11
    go_wp2_with (first
          | (go_at_call 64; have := mk1; refine (hin2 _).mono ?_; rintro e w9 ⟨rfl, rfl⟩)
          | (go_at_call 64; refine (hin1 _).mono ?_; rintro e w9 ⟨rfl, rfl⟩; have mk1 := True.intro)
          | (go_at_call 63; refine (size_sector_any A l.length cp _).mono ?_; rintro e w9 ⟨rfl, rfl⟩)
          | (go_at_call 62; rw [← HW.out]; refine hq.mono ?_; rintro e w2 ⟨rfl, hx⟩; replace F3 := F3.below hx F3.lt; replace F6 := F6.below hx F6.lt; have hB : Below w.heap.size w w2 := hb0.trans (hx.mono (by omega)); have e0 : (_ : Option Value) = some (.int .i64 c) := F3.cell 0 (by simp); have e1 : (_ : Option Value) = some (.int .i64 h) := F3.cell 1 (by simp); have e2 : (_ : Option Value) = some (.int .i64 p) := F3.cell 2 (by simp); have e3 : (_ : Option Value) = some (.int .i64 s) := F3.cell 3 (by simp); have e4 : (_ : Option Value) = some (.slice A l.length cp) := F3.cell 4 (by simp); have z0 : (_ : Option Value) = some (.int .i64 0) := F6.cell 0 (by simp); have z1 : (_ : Option Value) = some (.int .i64 0) := F6.cell 1 (by simp); have z2 : (_ : Option Value) = some (.int .i64 0) := F6.cell 2 (by simp); have z3 : (_ : Option Value) = some (.int .i64 0) := F6.cell 3 (by simp); have z4 : (_ : Option Value) = some (.slice none 0 0) := F6.cell 4 (by simp); have z5 : (_ : Option Value) = some (.int .i64 0) := F6.cell 5 (by simp); have z6 : (_ : Option Value) = some (.int .i64 0) := F6.cell 6 (by simp); have z7 : (_ : Option Value) = some (.slice none 0 0) := F6.cell 7 (by simp); have hfz := fun j => F6.free j; have hs2 := F6.lt))
    refine bodyPost_ret (v := .tuple #[.agg #[.int .i64 0, .int .i64 0, .int .i64 0, .int .i64 0, .slice none 0 0, .int .i64 0, .int .i64 0, .slice none 0 0], .int .i64 2]) (by simp [results, Try.results11, go_sem, World.cell?_setCell_other, z0, z1, z2, z3, z4, z5, z6, z7]) rfl ⟨.slice none 0 0, none, 0, 0, by rw [HR.out.1, HR.out.2]; rfl, ?_, ?_, .inl rfl, ?_⟩
    · rw [HR.out.1]; exact World.ownsRow_nil _ _ _ _
    · rw [HR.out.1]; exact World.ownsRow_nil _ _ _ _
    · exact (by with_reducible repeat (first | exact Below.refl _ _ | assumption | refine below_step ?_ (by assumption) | refine Below.drew ?_ | refine below_drewN ?_ _ | refine below_alloc ?_ _ | refine Below.setCell ?_ (by simp; try omega) _))
  rw [g2] at hin2
  have HR := Lib.hid (nv_4 (N := l.length) g1 g2)
  obtain ⟨k0, k1⟩ := inB_yes g1
  obtain ⟨r0, r1⟩ := inB_yes g2
  obtain ⟨K, rfl⟩ : ∃ K : Nat, k = (K : Int) := ⟨k.toNat, by omega⟩
  obtain ⟨R, rfl⟩ : ∃ R : Nat, r = (R : Int) := ⟨r.toNat, by omega⟩
  have hgeo := okD_geo hd
  obtain ⟨c1, c2, h1, h2, p1, p2, s1, s2⟩ := geoB_yes hgeo.1
  obtain ⟨m1, m2⟩ := prod2 c1 c2 h1 h2
  obtain ⟨P, rfl⟩ : ∃ P : Nat, p = (P : Int) := ⟨p.toNat, by omega⟩
  obtain ⟨T, hT⟩ : ∃ T : Nat, c * h = (T : Int) := ⟨(c * h).toNat, by omega⟩
  have hNT : l.length = T * P := by
    have := hgeo.2.1
    rw [hT] at this
    omega
  obtain ⟨m, hm⟩ : ∃ m : Nat, m = l.length - R := ⟨_, rfl⟩
  have hmpos : 0 < m := by omega
  have hml : m ≤ l.length := by omega
  have hRl : R ≤ l.length := by omega
  have hsub : IntKind.i64.wrap ((l.length : Int) - (R : Int)) = (m : Int) := (IntWalk.i64_in _ (by omega)).trans (by omega)
  have HM := Lib.hid (show nvM true c h (P : Int) (K : Int) (R : Int) l.length = (ordT P K T).take m by
    unfold nvM
    rw [if_pos rfl, hT, Int.toNat_natCast, Int.toNat_natCast, Int.toNat_natCast, show ((l.length : Int) - (R : Int)).toNat = m by omega])
  have HOL := Lib.hid (show (ordT P K T).length = l.length by rw [ordT_len, hNT])
  have HTL := Lib.hid (show ((ordT P K T).take m).length = m by rw [List.length_take, HOL.out]; omega)
  have hord := fun (W : World) => sectorOrder_any c h s A l.length cp T P K W hT (by omega) (by omega) (by omega) (by omega)
  have hpos : 0 < l.length := by omega
  clear hd hgeo hT hNT hm c1 c2 h1 h2 m1 m2 s1 s2 k0 g1 g2
  go_enter Try.func11, Try.ntmps11
  go_wp2_with (first
        | (go_at_call 64; have := mk1; refine (hin2 _).mono ?_; rintro e w9 ⟨rfl, rfl⟩)
        | (go_at_call 64; refine (hin1 _).mono ?_; rintro e w9 ⟨rfl, rfl⟩; have mk1 := True.intro)
        | (go_at_call 63; refine (size_sector_any A l.length cp _).mono ?_; rintro e w9 ⟨rfl, rfl⟩)
        | (go_at_call 62; rw [← HW.out]; refine hq.mono ?_; rintro e w2 ⟨rfl, hx⟩; replace F3 := F3.below hx F3.lt; replace F6 := F6.below hx F6.lt; have hB : Below w.heap.size w w2 := hb0.trans (hx.mono (by omega)); have e0 : (_ : Option Value) = some (.int .i64 c) := F3.cell 0 (by simp); have e1 : (_ : Option Value) = some (.int .i64 h) := F3.cell 1 (by simp); have e2 : (_ : Option Value) = some (.int .i64 (P : Int)) := F3.cell 2 (by simp); have e3 : (_ : Option Value) = some (.int .i64 s) := F3.cell 3 (by simp); have e4 : (_ : Option Value) = some (.slice A l.length cp) := F3.cell 4 (by simp); have z0 : (_ : Option Value) = some (.int .i64 0) := F6.cell 0 (by simp); have z1 : (_ : Option Value) = some (.int .i64 0) := F6.cell 1 (by simp); have z2 : (_ : Option Value) = some (.int .i64 0) := F6.cell 2 (by simp); have z3 : (_ : Option Value) = some (.int .i64 0) := F6.cell 3 (by simp); have z4 : (_ : Option Value) = some (.slice none 0 0) := F6.cell 4 (by simp); have z5 : (_ : Option Value) = some (.int .i64 0) := F6.cell 5 (by simp); have z6 : (_ : Option Value) = some (.int .i64 0) := F6.cell 6 (by simp); have z7 : (_ : Option Value) = some (.slice none 0 0) := F6.cell 7 (by simp); have hfz := fun j => F6.free j; have hs2 := F6.lt))
  have hdr : w2.drew.heap.size = w2.heap.size := rfl
  have HDR := Lib.hid hdr
  clear hdr
  have X3 : BX w2.drew w.heap.size 26 [.int .i64 c, .int .i64 h, .int .i64 (P : Int), .int .i64 s, .slice A l.length cp] := F3
  have x0 : (_ : Option Value) = some (.int .i64 c) := X3.cell 0 (by simp)
  have x1 : (_ : Option Value) = some (.int .i64 h) := X3.cell 1 (by simp)
  have x2 : (_ : Option Value) = some (.int .i64 (P : Int)) := X3.cell 2 (by simp)
  have x3 : (_ : Option Value) = some (.int .i64 s) := X3.cell 3 (by simp)
  have x4 : (_ : Option Value) = some (.slice A l.length cp) := X3.cell 4 (by simp)
  go_region_held3 (fun W => W.cell? ⟨w.heap.size, 0, none⟩ = some (.int .i64 c) ∧ W.cell? ⟨w.heap.size, 1, none⟩ = some (.int .i64 h) ∧ W.cell? ⟨w.heap.size, 2, none⟩ = some (.int .i64 (P : Int)) ∧ W.cell? ⟨w.heap.size, 3, none⟩ = some (.int .i64 s) ∧ W.cell? ⟨w.heap.size, 4, none⟩ = some (.slice A l.length cp)) (first | with_reducible exact ⟨y0, y1, y2, y3, y4⟩ | with_reducible exact ⟨f0, f1, f2, f3, f4⟩ | with_reducible exact ⟨e0, e1, e2, e3, e4⟩ | with_reducible exact ⟨x0, x1, x2, x3, x4⟩) (first
    | (go_at_call 65; refine (cloneDisc_any c h (P : Int) s A cp l _ ((hr.below (Below.drew hB)).more (Below.drew hB).size) hn).mono ?_; rintro e w4 ⟨v4, rfl, hown4, hx4⟩; obtain ⟨g4, c4, hv⟩ := Go.Joins.ownsRow_form hown4 hpos; cases hv; have hlt4 := World.ownsRow.lt hown4 g4 rfl; clear e0 e1 e2 e3 e4 z0 z1 z2 z3 z4 z5 z6 z7 hfz; replace F3 := (show BX w2.drew _ _ _ from F3).below hx4 F3.lt; replace F6 := (show BX w2.drew _ _ _ from F6).below hx4 F6.lt; replace hB := below_step (Below.drew hB) hx4; have f0 : (_ : Option Value) = some (.int .i64 c) := F3.cell 0 (by simp); have f1 : (_ : Option Value) = some (.int .i64 h) := F3.cell 1 (by simp); have f2 : (_ : Option Value) = some (.int .i64 (P : Int)) := F3.cell 2 (by simp); have f3 : (_ : Option Value) = some (.int .i64 s) := F3.cell 3 (by simp); have f4 : (_ : Option Value) = some (.slice A l.length cp) := F3.cell 4 (by simp); have z0 : (_ : Option Value) = some (.int .i64 0) := F6.cell 0 (by simp); have z1 : (_ : Option Value) = some (.int .i64 0) := F6.cell 1 (by simp); have z2 : (_ : Option Value) = some (.int .i64 0) := F6.cell 2 (by simp); have z3 : (_ : Option Value) = some (.int .i64 0) := F6.cell 3 (by simp); have z4 : (_ : Option Value) = some (.slice none 0 0) := F6.cell 4 (by simp); have z5 : (_ : Option Value) = some (.int .i64 0) := F6.cell 5 (by simp); have z6 : (_ : Option Value) = some (.int .i64 0) := F6.cell 6 (by simp); have z7 : (_ : Option Value) = some (.slice none 0 0) := F6.cell 7 (by simp); have hfz := fun j => F6.free j; have ho4 := hown4)
    | (go_at_call 66; refine (hord _).mono ?_; rintro e w5 ⟨v5, rfl, hown5, hx5⟩; obtain ⟨g5, c5, hv⟩ := Go.Joins.ownsRow_form hown5 (by rw [HOL.out]; exact hpos); cases hv; have hlt5 := World.ownsRow.lt hown5 g5 rfl; have hcap := own_capN hown5; clear z0 z1 z2 z3 z4 z5 z6 z7 hfz; replace F3 := F3.below hx5 F3.lt; replace F6 := F6.below hx5 F6.lt; replace hB := below_step hB hx5; have e0 : (_ : Option Value) = some (.int .i64 c) := F3.cell 0 (by simp); have e1 : (_ : Option Value) = some (.int .i64 h) := F3.cell 1 (by simp); have e2 : (_ : Option Value) = some (.int .i64 (P : Int)) := F3.cell 2 (by simp); have e3 : (_ : Option Value) = some (.int .i64 s) := F3.cell 3 (by simp); have e4 : (_ : Option Value) = some (.slice A l.length cp) := F3.cell 4 (by simp); have Y3 := ((((((((F3.far (a := ⟨w.heap.size + 1, 0, none⟩) (by simp) (.int .i64 c)).far (a := ⟨w.heap.size + 1, 1, none⟩) (by simp) (.int .i64 h)).far (a := ⟨w.heap.size + 1, 2, none⟩) (by simp) (.int .i64 (P : Int))).far (a := ⟨w.heap.size + 1, 3, none⟩) (by simp) (.int .i64 s)).far (a := ⟨w.heap.size + 1, 4, none⟩) (by simp) (.slice (some ⟨g4, 0, none⟩) l.length c4)).far (a := ⟨w.heap.size + 1, 5, none⟩) (by simp) (.int .i64 (K : Int))).far (a := ⟨w.heap.size + 1, 6, none⟩) (by simp) (.int .i64 (R : Int))).far (a := ⟨w.heap.size + 1, 7, none⟩) (by simp) (.slice (some ⟨g5, 0, none⟩) m m)); have y0 : (_ : Option Value) = some (.int .i64 c) := Y3.cell 0 (by simp); have y1 : (_ : Option Value) = some (.int .i64 h) := Y3.cell 1 (by simp); have y2 : (_ : Option Value) = some (.int .i64 (P : Int)) := Y3.cell 2 (by simp); have y3 : (_ : Option Value) = some (.int .i64 s) := Y3.cell 3 (by simp); have y4 : (_ : Option Value) = some (.slice A l.length cp) := Y3.cell 4 (by simp); replace ho4 := own_later ho4 hx5 (Nat.le_refl _); have z0 : (_ : Option Value) = some (.int .i64 0) := F6.cell 0 (by simp); have z1 : (_ : Option Value) = some (.int .i64 0) := F6.cell 1 (by simp); have z2 : (_ : Option Value) = some (.int .i64 0) := F6.cell 2 (by simp); have z3 : (_ : Option Value) = some (.int .i64 0) := F6.cell 3 (by simp); have z4 : (_ : Option Value) = some (.slice none 0 0) := F6.cell 4 (by simp); have z5 : (_ : Option Value) = some (.int .i64 0) := F6.cell 5 (by simp); have z6 : (_ : Option Value) = some (.int .i64 0) := F6.cell 6 (by simp); have z7 : (_ : Option Value) = some (.slice none 0 0) := F6.cell 7 (by simp); have hfz := fun j => F6.free j; have hq1 : m ≤ c5 := (by have := HOL.out; omega); have hq2 : ¬ c5 = 0 := (by omega); have hq3 : ¬ m = 0 := (by omega)))
  go_wp2
  have hdr := HDR.out
  refine bodyPost_ret (v := .tuple #[.agg #[.int .i64 c, .int .i64 h, .int .i64 (P : Int), .int .i64 s, .slice (some ⟨g4, 0, none⟩) l.length c4, .int .i64 (K : Int), .int .i64 (R : Int), .slice (some ⟨g5, 0, none⟩) m m], .int .i64 0]) (by simp [results, Try.results11, go_sem, World.cell?_setCell_other, z0, z1, z2, z3, z4, z5, z6, z7]) rfl ⟨_, some ⟨g5, 0, none⟩, m, c5, by rw [HR.out.1, HR.out.2, HM.out, HTL.out]; rfl, ?_, ?_, ?_, ?_⟩
  · rw [HR.out.1, show nvL true l = l from rfl]
    have ho := own_base (base' := w.heap.size + 1 + 1) ho4 (by omega)
    refine own_base (base := w.heap.size + 1 + 1) ?_ (by omega)
    with_reducible repeat (first | exact ho | refine ownsRow_setCell_below ?_ (by simp; try omega) _)
  · rw [HR.out.1, HM.out, HTL.out, ← flatI_take]
    have hoo : World.ownsRow _ _ _ _ (.slice (some ⟨g5, 0, none⟩) m c5) m _ := own_take (k := m) (by have h9 := hown5; rw [HOL.out] at h9; exact h9) hml
    have ho := own_base (base' := w.heap.size + 1 + 1) hoo (by omega)
    refine own_base (base := w.heap.size + 1 + 1) ?_ (by omega)
    with_reducible repeat (first | exact ho | refine ownsRow_setCell_below ?_ (by simp; try omega) _)
  · right
    intro e
    injection e with e
    have : g4 = g5 := e
    omega
  · exact (by with_reducible repeat (first | exact Below.refl _ _ | assumption | refine below_step ?_ (by assumption) | refine Below.drew ?_ | refine below_drewN ?_ _ | refine below_alloc ?_ _ | refine Below.setCell ?_ (by simp; try omega) _))
end Go.Proofs.Yticnmljahnnhcaa
