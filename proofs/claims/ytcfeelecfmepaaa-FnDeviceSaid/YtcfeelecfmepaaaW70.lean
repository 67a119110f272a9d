/- Walks: valid devices (spec). -/
import Derived.Test.YtcfeelecfmepaaaMapM
import Derived.Test.YtcfeelecfmepaaaQB
import Derived.Test.YtcfeelecfmepaaaSDevice
namespace Go.Proofs.Ytcfeelecfmepaaa
open Go.RowKit
set_option linter.unusedVariables false

theorem CP.disc8 {w : World} {g : Nat} {c h p s : Int} {v : Value} {r : List Value} (d : CP w g (.int .i64 c :: .int .i64 h :: .int .i64 p :: .int .i64 s :: v :: r)) : DP w g c h p s v :=
  ⟨d 0 (by simp), d 1 (by simp), d 2 (by simp), d 3 (by simp), d 4 (by simp)⟩
theorem eltBool : Elt Try.prog 76 4 1 1 (.bool false) := Elt.mk' Try.underlying76 (by kernel_rfl) rfl (by omega)
theorem madeSeen (n : Nat) : madeCells (Value.bool false).cells (n * 1) = (seenL n []).toArray := by
  apply Array.ext'
  rw [Nat.mul_one]
  exact madeCells_false n
theorem BX.dn {w : World} {g : Nat} {t : TypeId} {vs : List Value} (h : BX w g t vs) (k : Nat) : BX (w.drewN k) g t vs := h
theorem BX.dr {w : World} {g : Nat} {t : TypeId} {vs : List Value} (h : BX w g t vs) : BX w.drew g t vs := h

set_option maxRecDepth 100000 in
set_option maxHeartbeats 1000000 in
theorem l15Ok_any (g : Nat) (c h p s : Int) (A : Option Addr) (cp : Nat) (l : List DSector) (k r : Int) (N : Option Addr) (q : Nat) (m : List Int) (w : World)
    (hd : CP w g [.int .i64 c, .int .i64 h, .int .i64 p, .int .i64 s, .slice A l.length cp, .int .i64 k, .int .i64 r, .slice N m.length q])
    (hr : Rd w w.heap.size 2 A l.length (flat fSector l)) (hn : l.length ≤ 1048576) (hok : ∀ x ∈ l, okSector x) (kr : Rd w w.heap.size 1 N m.length (flat fI m)) (kn : m.length ≤ 1048576) :
    Calls Try.prog 26 #[.pointer (some ⟨g, 0, none⟩)] w fun e w' => e = .returned (.bool (okV (okD c h p s l) l.length k r m)) ∧ Below w.heap.size w w' := by
  have hq := fun (p' : Regrown) => qb_below p' (l12Ok_any g c h p s A cp l (Sort.grow (redrawn w p'.d) p'.os) ((hd.gw p').disc8) (hr.gw p') hn hok)
  have hg := (cell_spot (hd 4 (by simp))).2
  have d4 : (_ : Option Value) = some (.slice A l.length cp) := hd 4 (by simp)
  have d5 : (_ : Option Value) = some (.int .i64 k) := hd 5 (by simp)
  have d6 : (_ : Option Value) = some (.int .i64 r) := hd 6 (by simp)
  have d7 : (_ : Option Value) = some (.slice N m.length q) := hd 7 (by simp)
  have k4 := gw_cell d4
  have k5 := gw_cell d5
  have k6 := gw_cell d6
  have k7 := gw_cell d7
  have hk1q := fun (p' : Regrown) => qb_same p' (l00In_any k 0 7 (Sort.grow (redrawn w p'.d) p'.os))
  have hk2q := fun (p' : Regrown) => qb_same p' (l00In_any r 0 ((l.length : Int) - 1) (Sort.grow (redrawn w p'.d) p'.os))
  generalize okD c h p s l = d at hq ⊢
  generalize l.length = n at *
  cases d
  · have HR := Lib.hid (okV_1 (N := n) (k := k) (r := r) (m := m))
    go_enter Try.func26, Try.ntmps26
    go_wp2_with fail
    refine wp_region_quiet_below (by kernel_rfl) (by kernel_rfl) ?_
    repeat (go_big_quiet_step ((first | with_reducible exact hq _ | with_reducible exact hk1q _ | with_reducible exact hk2q _)))
    refine wpQuiet_nil ?_
    intro _ hw'
    obtain ⟨pq, hw''⟩ := hw'
    subst hw''
    have hb := gw_below w pq
    generalize Sort.grow (redrawn w pq.d) pq.os = w2 at hb ⊢
    go_wp2
    go_ret
    exact ⟨ret_bool HR.out.symm, hb⟩
  cases g1 : inB k 0 7
  · rw [g1] at hk1q
    have HR := Lib.hid (okV_2 (d := true) (N := n) (r := r) (m := m) g1)
    go_enter Try.func26, Try.ntmps26
    go_wp2_with fail
    refine wp_region_quiet_below (by kernel_rfl) (by kernel_rfl) ?_
    repeat (go_big_quiet_step ((first | with_reducible exact hq _ | with_reducible exact hk1q _ | with_reducible exact hk2q _)))
    refine wpQuiet_nil ?_
    intro _ hw'
    obtain ⟨pq, hw''⟩ := hw'
    subst hw''
    have hb := gw_below w pq
    generalize Sort.grow (redrawn w pq.d) pq.os = w2 at hb ⊢
    go_wp2
    go_ret
    exact ⟨ret_bool HR.out.symm, hb⟩
  rw [g1] at hk1q
  cases g2 : inB r 0 ((n : Int) - 1)
  · rw [g2] at hk2q
    have HR := Lib.hid (okV_3 (d := true) (k := k) (m := m) g2)
    go_enter Try.func26, Try.ntmps26
    go_wp2_with fail
    refine wp_region_quiet_below (by kernel_rfl) (by kernel_rfl) ?_
    repeat (go_big_quiet_step ((first | with_reducible exact hq _ | with_reducible exact hk1q _ | with_reducible exact hk2q _)))
    refine wpQuiet_nil ?_
    intro _ hw'
    obtain ⟨pq, hw''⟩ := hw'
    subst hw''
    have hb := gw_below w pq
    generalize Sort.grow (redrawn w pq.d) pq.os = w2 at hb ⊢
    go_wp2
    go_ret
    exact ⟨ret_bool HR.out.symm, hb⟩
  rw [g2] at hk2q
  obtain ⟨r0, r1⟩ := inB_yes g2
  have hsub : IntKind.i64.wrap ((n : Int) - r) = (n : Int) - r := IntWalk.i64_in _ (by omega)
  by_cases g3 : ((m.length : Nat) : Int) = (n : Int) - r
  case neg =>
    have g4 : (((m.length : Nat) : Int) != (n : Int) - r) = true := by simp [g3]
    have HR := Lib.hid (okV_4 (d := true) (k := k) g3)
    go_enter Try.func26, Try.ntmps26
    go_wp2_with fail
    refine wp_region_quiet_below (by kernel_rfl) (by kernel_rfl) ?_
    repeat (go_big_quiet_step ((first | with_reducible exact hq _ | with_reducible exact hk1q _ | with_reducible exact hk2q _)))
    refine wpQuiet_nil ?_
    intro _ hw'
    obtain ⟨pq, hw''⟩ := hw'
    subst hw''
    have hb := gw_below w pq
    generalize Sort.grow (redrawn w pq.d) pq.os = w2 at hb ⊢
    go_wp2
    go_ret
    exact ⟨ret_bool HR.out.symm, hb⟩
  have HR := Lib.hid (okV_5 g1 g2 g3)
  have g4 : (((m.length : Nat) : Int) != (n : Int) - r) = false := by simp [g3]
  clear g3
  have hmk : ∀ W, (Instr.makeSlice 76 (.int .i64 (n : Int)) (.int .i64 (n : Int))).run Try.prog W = .ok (.slice (some ⟨W.heap.size, 0, none⟩) n n) (W.alloc (.cells (seenL n []).toArray 4)) := fun W => by
    have := eltBool.make n (by omega) (by omega) W
    rwa [madeSeen] at this
  go_enter Try.func26, Try.ntmps26
  go_wp2_with fail
  refine wp_region_quiet_below (by kernel_rfl) (by kernel_rfl) ?_
  repeat (go_big_quiet_step ((first | with_reducible exact hq _ | with_reducible exact hk1q _ | with_reducible exact hk2q _)))
  refine wpQuiet_nil ?_
  intro _ hw'
  obtain ⟨pq, hw''⟩ := hw'
  subst hw''
  have hb := gw_below w pq
  replace hd := hd.next hb
  replace kr := (kr.below hb).more hb.size
  have hs0 := hb.size
  generalize Sort.grow (redrawn w pq.d) pq.os = w2 at hb hd kr hs0 ⊢
  clear d4 d5 d6 d7 k4 k5 k6 k7 hq hk1q hk2q
  go_wp2_with fail
  have F0 := BX.made w2 4 (seenL n [])
  go_loopw [5] (fun i wr => ∃ k : Nat, k ≤ m.length ∧ i = .int .i64 k ∧ BX wr w2.heap.size 4 (seenL n (m.take k)) ∧ Below w2.heap.size w2 wr ∧ Hid (mapB n (m.take 0) (m.drop 0) = mapB n (m.take k) (m.drop k))) (fun i _ => m.length - (intOf i).toNat)
  case atStart => exact ⟨0, Nat.zero_le _, rfl, F0, (by with_reducible repeat (first | exact Below.refl _ _ | assumption | refine below_step ?_ (by assumption) | refine Below.drew ?_ | refine below_drewN ?_ _ | refine below_alloc ?_ _ | refine Below.setCell ?_ (by simp; try omega) _)), Lib.hid rfl⟩
  case round =>
    obtain ⟨k, hk, rfl, F, hb2, HI⟩ := hrel
    have e7 : (_ : Option Value) = some (.slice N m.length q) := hd.next hb2 7 (by simp)
    by_cases hlt : k < m.length
    · obtain ⟨b, off, rfl, hbb, hc⟩ := kr.at_ fI_len rfl k hlt
      have hc0 := (hb2.cell (p := ⟨b, off + (k * 1 + 0), none⟩) hbb).trans (hc 0 _ (by omega) rfl)
      clear hc
      simp only [Nat.mul_one, Nat.add_zero] at hc0
      have hkm : (k : Int) < (m.length : Int) := by omega
      have hk3 := fun W => l00In_any m[k] 0 ((n : Int) - 1) W
      have HM := Lib.hid (mapB_3 (n := n) k hlt)
      have HB1 := Lib.hid (mapB_1 (n := n) k hlt)
      have HB2 := Lib.hid (mapB_2 (n := n) k hlt)
      have HT := Lib.hid (List.take_succ_eq_append_getElem hlt)
      generalize m[k] = x at hc0 hk3 HM HB1 HB2 HT
      cases g5 : inB x 0 ((n : Int) - 1)
      · have HS := Lib.hid (HR.out.trans (HI.out.trans (HB1.out g5)))
        rw [g5] at hk3
        go_wp2_with (go_at_call 15; refine (hk3 _).mono ?_; rintro e w3 ⟨rfl, rfl⟩)
        go_ret
        exact ⟨ret_bool HS.out.symm, hb.trans (hb2.mono hs0)⟩
      rw [g5] at hk3
      obtain ⟨x0, x1⟩ := inB_yes g5
      obtain ⟨X, rfl⟩ : ∃ X : Nat, x = (X : Int) := ⟨x.toNat, by omega⟩
      have hX : X < (seenL n (m.take k)).length := by rw [seenL_len]; omega
      have hXn : (X : Int) < (n : Int) := by omega
      have hcx := F.cell X hX
      rw [seenL_get] at hcx
      have hfx := F.free X
      have HP := Lib.hid (F.put X (.bool true))
      cases g6 : (m.take k).contains (X : Int)
      · rw [g6] at hcx
        have HN := Lib.hid (HI.out.trans (HM.out g5 g6))
        go_wp2_with (go_at_call 15; refine (hk3 _).mono ?_; rintro e w3 ⟨rfl, rfl⟩)
        go_roundw
        case rel => exact ⟨k + 1, by omega, by go_num, (by rw [HT.out, ← seenL_set]; exact HP.out), Below.setCell hb2 (Nat.le_refl _) _, HN⟩
        case measure => (simp [intOf] <;> omega)
      · rw [g6] at hcx
        have HS := Lib.hid (HR.out.trans (HI.out.trans (HB2.out g6)))
        go_wp2_with (go_at_call 15; refine (hk3 _).mono ?_; rintro e w3 ⟨rfl, rfl⟩)
        go_ret
        exact ⟨ret_bool HS.out.symm, hb.trans (hb2.mono hs0)⟩
    · have HS := Lib.hid (HR.out.trans (HI.out.trans (mapB_end (n := n) k (by omega))))
      go_wp2
      go_ret
      exact ⟨ret_bool HS.out.symm, hb.trans (hb2.mono hs0)⟩

set_option maxRecDepth 100000 in
set_option maxHeartbeats 400000 in
theorem spec_ValidDevice_any (c h p s : Int) (A : Option Addr) (cp : Nat) (l : List DSector) (k r : Int) (N : Option Addr) (q : Nat) (m : List Int) (w : World)
    (hr : Rd w w.heap.size 2 A l.length (flat fSector l)) (hn : l.length ≤ 1048576) (hok : ∀ x ∈ l, okSector x) (kr : Rd w w.heap.size 1 N m.length (flat fI m)) (kn : m.length ≤ 1048576) :
    Calls Try.prog 9 #[.agg #[.int .i64 c, .int .i64 h, .int .i64 p, .int .i64 s, .slice A l.length cp, .int .i64 k, .int .i64 r, .slice N m.length q]] w fun e w' => e = .returned (.bool (okV (okD c h p s l) l.length k r m)) ∧ Below w.heap.size w w' := by
  go_enter Try.func9, Try.ntmps9
  go_wp2_with (go_at_call 26; refine (l15Ok_any w.heap.size c h p s A cp l k r N q m _ (CP.made w [.int .i64 c, .int .i64 h, .int .i64 p, .int .i64 s, .slice A l.length cp, .int .i64 k, .int .i64 r, .slice N m.length q] _) ((hr.below (by with_reducible repeat (first | exact Below.refl _ _ | assumption | refine below_step ?_ (by assumption) | refine Below.drew ?_ | refine below_drewN ?_ _ | refine below_alloc ?_ _ | refine Below.setCell ?_ (by simp; try omega) _))).more (by simp)) hn hok ((kr.below (by with_reducible repeat (first | exact Below.refl _ _ | assumption | refine below_step ?_ (by assumption) | refine Below.drew ?_ | refine below_drewN ?_ _ | refine below_alloc ?_ _ | refine Below.setCell ?_ (by simp; try omega) _))).more (by simp)) kn).mono ?_; rintro e w1 ⟨rfl, hx⟩)
  go_ret
  exact ⟨rfl, (by with_reducible repeat (first | exact Below.refl _ _ | assumption | refine below_step ?_ (by assumption) | refine Below.drew ?_ | refine below_drewN ?_ _ | refine below_alloc ?_ _ | refine Below.setCell ?_ (by simp; try omega) _))⟩
end Go.Proofs.Ytcfeelecfmepaaa
