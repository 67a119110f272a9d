/- Walks: FillTrack (spec). -/
import Derived.Test.YticnmljahnnhcaaFtM
import Derived.Test.YticnmljahnnhcaaW152
import Derived.Test.YticnmljahnnhcaaTkG
import Derived.Test.YticnmljahnnhcaaW77
import Derived.Test.YticnmljahnnhcaaW150
namespace Go.Proofs.Yticnmljahnnhcaa
open Go.RowKit
set_option linter.unusedVariables false

theorem own_capK {w : World} {base : Nat} {e : TypeId} {size n c : Nat} {A : Option Addr} {xs : List Value} (h : w.ownsRow base e size (.slice A n c) n xs) : n ≤ c := by
  rcases h.2 with ⟨hv, h0⟩ | ⟨g, cap, cur, hv, _, _, hnc, _⟩
  · omega
  · injection hv with _ _ h3
    omega
theorem below_gr0 {a w w' : World} {B b : Nat} (h : Below B a w) (hg : w.grownBy w' (some b)) (hb : B ≤ b ∧ B ≤ w.heap.size) : Below B a w' := h.grown hg hb.2 (fun k hk => by injection hk with hk; omega)

set_option maxRecDepth 100000 in
set_option maxHeartbeats 8000000 in
set_option linter.unusedSimpArgs false in
theorem spec_FillTrack_any (c h p s t : Int) (A : Option Addr) (cp : Nat) (l : List DSector) (Ax : Option Addr) (cx : Nat) (xs : List DFound) (w : World) (hr : Rd w w.heap.size 2 A l.length (flat fSector l)) (hn : l.length ≤ 1048576) (hok : ∀ x ∈ l, okSector x) (hx : Rd w w.heap.size 8 Ax xs.length (flat fFound xs)) (hxn : xs.length ≤ 1048576) :
    Calls Try.prog 52 #[.agg #[.int .i64 c, .int .i64 h, .int .i64 p, .int .i64 s, .slice A l.length cp], .int .i64 t, .slice Ax xs.length cx] w fun e w' => ∃ v, e = .returned (.tuple #[.agg #[.int .i64 (ptN (ftOk (okD c h p s l) xs c h t) c), .int .i64 (ptN (ftOk (okD c h p s l) xs c h t) h), .int .i64 (ptN (ftOk (okD c h p s l) xs c h t) p), .int .i64 (ptN (ftOk (okD c h p s l) xs c h t) s), v], .int .i64 (ftC (okD c h p s l) xs c h t)]) ∧ w'.ownsRow w.heap.size 39 2 v (ftL (ftOk (okD c h p s l) xs c h t) h p s t l xs).length (flat fSector (ftL (ftOk (okD c h p s l) xs c h t) h p s t l xs)) ∧ Below w.heap.size w w' := by
  have F3 := (BX.made w 26 [.int .i64 c, .int .i64 h, .int .i64 p, .int .i64 s, .slice A l.length cp]).al (.cells #[.int .i64 0, .int .i64 0, .int .i64 0, .int .i64 0, .slice none 0 0] 26)
  have F6 := BX.made1 w (.cells #[.int .i64 c, .int .i64 h, .int .i64 p, .int .i64 s, .slice A l.length cp] 26) 26 [.int .i64 0, .int .i64 0, .int .i64 0, .int .i64 0, .slice none 0 0]
  obtain ⟨wb, hwb⟩ : ∃ wb, wb = (w.alloc (.cells #[.int .i64 c, .int .i64 h, .int .i64 p, .int .i64 s, .slice A l.length cp] 26)).alloc (.cells #[.int .i64 0, .int .i64 0, .int .i64 0, .int .i64 0, .slice none 0 0] 26) := ⟨_, rfl⟩
  rw [← hwb] at F3 F6
  have hb0 : Below w.heap.size w wb := by rw [hwb]; exact (by with_reducible repeat (first | exact Below.refl _ _ | assumption | refine below_step ?_ (by assumption) | refine Below.drew ?_ | refine below_drewN ?_ _ | refine below_alloc ?_ _ | refine Below.setCell ?_ (by simp; try omega) _))
  have hs0 : w.heap.size + 1 < wb.heap.size := F6.lt
  have hrb := (hr.below hb0).more hb0.size
  have HW := Lib.hid hwb
  clear hwb
  have DP3 : DP wb w.heap.size c h p s (.slice A l.length cp) := ⟨F3.cell 0 (by simp), F3.cell 1 (by simp), F3.cell 2 (by simp), F3.cell 3 (by simp), F3.cell 4 (by simp)⟩
  have hq := l12Ok_any w.heap.size c h p s A cp l wb DP3 hrb hn hok
  cases hd : okD c h p s l
  · rw [hd] at hq
    have HR := Lib.hid (ft_1 (xs := xs) (c := c) (h := h) (t := t))
    go_enter Try.func52, Try.ntmps52
    go_wp2_with (go_at_call 76; rw [← HW.out]; refine hq.mono ?_; rintro e w2 ⟨rfl, hx2⟩; replace F3 := F3.below hx2 F3.lt; replace F6 := F6.below hx2 F6.lt; have hB : Below w.heap.size w w2 := hb0.trans (hx2.mono (by omega)); have e0 : (_ : Option Value) = some (.int .i64 c) := F3.cell 0 (by simp); have e1 : (_ : Option Value) = some (.int .i64 h) := F3.cell 1 (by simp); have e2 : (_ : Option Value) = some (.int .i64 p) := F3.cell 2 (by simp); have e3 : (_ : Option Value) = some (.int .i64 s) := F3.cell 3 (by simp); have e4 : (_ : Option Value) = some (.slice A l.length cp) := F3.cell 4 (by simp); have z0 : (_ : Option Value) = some (.int .i64 0) := F6.cell 0 (by simp); have z1 : (_ : Option Value) = some (.int .i64 0) := F6.cell 1 (by simp); have z2 : (_ : Option Value) = some (.int .i64 0) := F6.cell 2 (by simp); have z3 : (_ : Option Value) = some (.int .i64 0) := F6.cell 3 (by simp); have z4 : (_ : Option Value) = some (.slice none 0 0) := F6.cell 4 (by simp); have hfz := fun j => F6.free j)
    refine bodyPost_ret (v := .tuple #[.agg #[.int .i64 0, .int .i64 0, .int .i64 0, .int .i64 0, .slice none 0 0], .int .i64 1]) (by simp [results, Try.results52, go_sem, World.cell?_setCell_other, z0, z1, z2, z3, z4]) rfl ⟨.slice none 0 0, by rw [HR.out.1, HR.out.2]; rfl, ?_, ?_⟩
    · rw [HR.out.1]; exact World.ownsRow_nil _ _ _ _
    · exact (by with_reducible repeat (first | exact Below.refl _ _ | assumption | refine below_step ?_ (by assumption) | refine Below.drew ?_ | refine below_drewN ?_ _ | refine below_alloc ?_ _ | refine Below.setCell ?_ (by simp; try omega) _))
  rw [hd] at hq
  obtain ⟨T, P, hT, rfl, hT16, hP1, hP8, hlT, hl128, hh1, hh2, hs1, hs2⟩ := tk_geo hd
  have HLT := Lib.hid hlT
  clear hlT
  have HT := Lib.hid hT
  clear hT
  go_enter Try.func52, Try.ntmps52
  go_wp2_with (go_at_call 76; rw [← HW.out]; refine hq.mono ?_; rintro e w2 ⟨rfl, hx2⟩; replace F3 := F3.below hx2 F3.lt; replace F6 := F6.below hx2 F6.lt; have hB : Below w.heap.size w w2 := hb0.trans (hx2.mono (by omega)); have e0 : (_ : Option Value) = some (.int .i64 c) := F3.cell 0 (by simp); have e1 : (_ : Option Value) = some (.int .i64 h) := F3.cell 1 (by simp); have e2 : (_ : Option Value) = some (.int .i64 (P : Int)) := F3.cell 2 (by simp); have e3 : (_ : Option Value) = some (.int .i64 s) := F3.cell 3 (by simp); have e4 : (_ : Option Value) = some (.slice A l.length cp) := F3.cell 4 (by simp); have z0 : (_ : Option Value) = some (.int .i64 0) := F6.cell 0 (by simp); have z1 : (_ : Option Value) = some (.int .i64 0) := F6.cell 1 (by simp); have z2 : (_ : Option Value) = some (.int .i64 0) := F6.cell 2 (by simp); have z3 : (_ : Option Value) = some (.int .i64 0) := F6.cell 3 (by simp); have z4 : (_ : Option Value) = some (.slice none 0 0) := F6.cell 4 (by simp); have hfz := fun j => F6.free j)
  have hw2s : w.heap.size + 1 < w2.heap.size := F6.lt
  have hxg : ∀ W : World, Below w2.heap.size w2 W → Rd W w.heap.size 8 Ax xs.length (flat fFound xs) := fun W hb => hx.below (hB.trans (hb.mono hB.size))
  clear hq hrb DP3 hx2 hs0
  go_loopw [8] (fun i wr => ∃ k : Nat, k ≤ xs.length ∧ i = .int .i64 k ∧ Below w2.heap.size w2 wr ∧ Hid ((xs.drop k).all foB = xs.all foB)) (fun i _ => xs.length - (intOf i).toNat)
  case atStart => exact ⟨0, Nat.zero_le _, rfl, Below.refl _ _, Lib.hid rfl⟩
  case round =>
    obtain ⟨k, hk, rfl, hb, HI⟩ := hrel
    clear e0 e1 e2 e3 e4 z0 z1 z2 z3 z4 hfz
    have F3r := F3.below hb F3.lt
    have F6r := F6.below hb F6.lt
    have hBr : Below w.heap.size w wr := hB.trans (hb.mono hB.size)
    have hwrs := hb.size
    have e0 : (_ : Option Value) = some (.int .i64 c) := F3r.cell 0 (by simp)
    have e1 : (_ : Option Value) = some (.int .i64 h) := F3r.cell 1 (by simp)
    have e2 : (_ : Option Value) = some (.int .i64 (P : Int)) := F3r.cell 2 (by simp)
    have e3 : (_ : Option Value) = some (.int .i64 s) := F3r.cell 3 (by simp)
    have e4 : (_ : Option Value) = some (.slice A l.length cp) := F3r.cell 4 (by simp)
    by_cases hlt : k < xs.length
    · have hlti : (k : Int) < (xs.length : Int) := by omega
      obtain ⟨bx, ox, rfl, hbx, hc⟩ := (hxg wr hb).at_ fFound_len rfl k hlt
      have x0 := hc 0 _ (by omega) rfl
      have x1 := hc 1 _ (by omega) rfl
      have x2 := hc 2 _ (by omega) rfl
      have x3 := hc 3 _ (by omega) rfl
      have x4 := hc 4 _ (by omega) rfl
      have x5 := hc 5 _ (by omega) rfl
      have x6 := hc 6 _ (by omega) rfl
      have x7 := hc 7 _ (by omega) rfl
      clear hc
      simp only [← Nat.add_assoc, Nat.add_zero] at x0 x1 x2 x3 x4 x5 x6 x7
      obtain ⟨a0, ha0⟩ : ∃ x, xs[k].f0 = x := ⟨_, rfl⟩
      rw [ha0] at x0
      obtain ⟨a1, ha1⟩ : ∃ x, xs[k].f1 = x := ⟨_, rfl⟩
      rw [ha1] at x1
      obtain ⟨a2, ha2⟩ : ∃ x, xs[k].f2 = x := ⟨_, rfl⟩
      rw [ha2] at x2
      obtain ⟨a3, ha3⟩ : ∃ x, xs[k].f3 = x := ⟨_, rfl⟩
      rw [ha3] at x3
      obtain ⟨a4, ha4⟩ : ∃ x, xs[k].f4 = x := ⟨_, rfl⟩
      rw [ha4] at x4
      obtain ⟨a5, ha5⟩ : ∃ x, xs[k].f5 = x := ⟨_, rfl⟩
      rw [ha5] at x5
      obtain ⟨a6, ha6⟩ : ∃ x, xs[k].f6 = x := ⟨_, rfl⟩
      rw [ha6] at x6
      obtain ⟨a7, ha7⟩ : ∃ x, xs[k].f7 = x := ⟨_, rfl⟩
      rw [ha7] at x7
      have hfe : foB ⟨a0, a1, a2, a3, a4, a5, a6, a7⟩ = foB xs[k] := by rw [← ha0, ← ha1, ← ha2, ← ha3, ← ha4, ← ha5, ← ha6, ← ha7]
      have hv := fun W => spec_ValidFound_any a0 a1 a2 a3 a4 a5 a6 a7 W
      rw [hfe] at hv
      clear hfe ha0 ha1 ha2 ha3 ha4 ha5 ha6 ha7
      cases hfo : foB xs[k]
      · rw [hfo] at hv
        have HR := Lib.hid (ft_2 (d := true) (c := c) (h := h) (t := t) (fa_no hlt hfo HI.out))
        go_wp2_with (go_at_call 105; refine (hv _).mono ?_; rintro e w3 ⟨rfl, hx3⟩; have hb3 : Below wr.heap.size wr w3 := hx3; replace F6r := F6r.below hb3 F6r.lt; replace hBr := hBr.trans (hb3.mono hBr.size); have z0 : (_ : Option Value) = some (.int .i64 0) := F6r.cell 0 (by simp); have z1 : (_ : Option Value) = some (.int .i64 0) := F6r.cell 1 (by simp); have z2 : (_ : Option Value) = some (.int .i64 0) := F6r.cell 2 (by simp); have z3 : (_ : Option Value) = some (.int .i64 0) := F6r.cell 3 (by simp); have z4 : (_ : Option Value) = some (.slice none 0 0) := F6r.cell 4 (by simp); have hfz := fun j => F6r.free j)
        refine bodyPost_ret (v := .tuple #[.agg #[.int .i64 0, .int .i64 0, .int .i64 0, .int .i64 0, .slice none 0 0], .int .i64 1]) (by simp [results, Try.results52, go_sem, World.cell?_setCell_other, z0, z1, z2, z3, z4]) rfl ⟨.slice none 0 0, by rw [HR.out.1, HR.out.2]; rfl, ?_, ?_⟩
        · rw [HR.out.1]; exact World.ownsRow_nil _ _ _ _
        · exact (by with_reducible repeat (first | exact Below.refl _ _ | assumption | refine below_step ?_ (by assumption) | refine Below.drew ?_ | refine below_drewN ?_ _ | refine below_alloc ?_ _ | refine Below.setCell ?_ (by simp; try omega) _))
      rw [hfo] at hv
      have HN := Lib.hid (fa_yes hlt hfo HI.out)
      go_wp2_with (go_at_call 105; refine (hv _).mono ?_; rintro e w3 ⟨rfl, hx3⟩; have hb3 : Below wr.heap.size wr w3 := hx3)
      go_roundw
      case rel => exact ⟨k + 1, by omega, by go_num, hb.trans (hb3.mono hb.size), HN⟩
      case measure => (simp [intOf] <;> omega)
    obtain rfl : k = xs.length := by omega
    have hall := fa_end (Nat.le_refl _) HI.out
    have z0 : (_ : Option Value) = some (.int .i64 0) := F6r.cell 0 (by simp)
    have z1 : (_ : Option Value) = some (.int .i64 0) := F6r.cell 1 (by simp)
    have z2 : (_ : Option Value) = some (.int .i64 0) := F6r.cell 2 (by simp)
    have z3 : (_ : Option Value) = some (.int .i64 0) := F6r.cell 3 (by simp)
    have z4 : (_ : Option Value) = some (.slice none 0 0) := F6r.cell 4 (by simp)
    have hfz := fun j => F6r.free j
    have hw1 : IntKind.i64.wrap (c * h) = (T : Int) := by rw [HT.out]; exact IntWalk.i64_in _ (by omega)
    have hw2 : IntKind.i64.wrap ((T : Int) - 1) = (T : Int) - 1 := IntWalk.i64_in _ (by omega)
    have hin := fun W => l00In_any t 0 ((T : Int) - 1) W
    cases g1 : inB t 0 ((T : Int) - 1)
    · rw [g1] at hin
      have g1' := g1
      rw [← HT.out] at g1'
      have HR := Lib.hid (ft_3 hall g1')
      go_wp2_with (go_at_call 71; refine (hin _).mono ?_; rintro e w9 ⟨rfl, rfl⟩)
      refine bodyPost_ret (v := .tuple #[.agg #[.int .i64 0, .int .i64 0, .int .i64 0, .int .i64 0, .slice none 0 0], .int .i64 2]) (by simp [results, Try.results52, go_sem, World.cell?_setCell_other, z0, z1, z2, z3, z4]) rfl ⟨.slice none 0 0, by rw [HR.out.1, HR.out.2]; rfl, ?_, ?_⟩
      · rw [HR.out.1]; exact World.ownsRow_nil _ _ _ _
      · exact (by with_reducible repeat (first | exact Below.refl _ _ | assumption | refine below_step ?_ (by assumption) | refine Below.drew ?_ | refine below_drewN ?_ _ | refine below_alloc ?_ _ | refine Below.setCell ?_ (by simp; try omega) _))
    rw [g1] at hin
    obtain ⟨t0, t1⟩ := inB_yes g1
    obtain ⟨t', rfl⟩ : ∃ t' : Nat, t = (t' : Int) := ⟨t.toNat, by omega⟩
    rw [← HT.out] at g1
    have HR := Lib.hid (ft_4 hall g1)
    have htP := tk_in HLT.out (show t' < T by omega)
    have hlpos : 0 < l.length := by omega
    have HL := Lib.hid (show ftL true h (P : Int) s (t' : Int) l xs = enL (t' * P) P ((t' : Int).tdiv h) ((t' : Int).tmod h) s l xs by unfold ftL; rw [if_pos rfl, Int.toNat_natCast, Int.toNat_natCast])
    clear hin g1 hall
    have hin := fun W => l00In_any (t' : Int) 0 ((T : Int) - 1) W
    rw [show inB (t' : Int) 0 ((T : Int) - 1) = true by simp only [inB, Bool.and_eq_true, decide_eq_true_eq]; omega] at hin
    have DPr : DP wr w.heap.size c h (P : Int) s (.slice A l.length cp) := ⟨F3r.cell 0 (by simp), F3r.cell 1 (by simp), F3r.cell 2 (by simp), F3r.cell 3 (by simp), F3r.cell 4 (by simp)⟩
    have hcl := l12Own_any w.heap.size c h (P : Int) s A cp l wr DPr ((hr.below hBr).more hBr.size) hn
    have F6r0 : w.heap.size + 1 < wr.heap.size := F6r.lt
    go_wp2_with (first
      | (go_at_call 107; (with_reducible refine en.mono ?_); rintro e w5 ⟨ve, rfl, O6, hg5⟩; clear q0 q1 q2 q3 q4; have F9e := BX.grown F9 hg5 (by intro e; have := Option.some.inj e; omega); have F6e := BX.grown F6r hg5 (by intro e; have := Option.some.inj e; omega); have hB5 : Below w.heap.size w w5 := below_gr0 hB4a hg5 ⟨by omega, by rw [World.size_alloc]; have := hB4.size; omega⟩; clear z0 z1 z2 z3 z4 hfz; have q0 : (_ : Option Value) = some (.int .i64 c) := F9e.cell 0 (by simp); have q1 : (_ : Option Value) = some (.int .i64 h) := F9e.cell 1 (by simp); have q2 : (_ : Option Value) = some (.int .i64 (P : Int)) := F9e.cell 2 (by simp); have q3 : (_ : Option Value) = some (.int .i64 s) := F9e.cell 3 (by simp); have q4 : (_ : Option Value) = some (.slice (some ⟨b, 0, none⟩) l.length c4) := F9e.cell 4 (by simp); have z0 : (_ : Option Value) = some (.int .i64 0) := F6e.cell 0 (by simp); have z1 : (_ : Option Value) = some (.int .i64 0) := F6e.cell 1 (by simp); have z2 : (_ : Option Value) = some (.int .i64 0) := F6e.cell 2 (by simp); have z3 : (_ : Option Value) = some (.int .i64 0) := F6e.cell 3 (by simp); have z4 : (_ : Option Value) = some (.slice none 0 0) := F6e.cell 4 (by simp); have hfz := fun j => F6e.free j)
      | (go_at_call 106; (with_reducible refine hcl.mono ?_); rintro e w4 ⟨v4, rfl, O4, hx4⟩; obtain ⟨b, c4, rfl, hb0, hb1⟩ := World.ownsRow.form O4 hlpos; replace F6r := (F6r.below hx4 F6r.lt).al (.cells #[.int .i64 c, .int .i64 h, .int .i64 (P : Int), .int .i64 s, .slice (some ⟨b, 0, none⟩) l.length c4] 26); have hB4 : Below w.heap.size w w4 := hBr.trans (hx4.mono hBr.size); have hB4a : Below w.heap.size w (w4.alloc (.cells #[.int .i64 c, .int .i64 h, .int .i64 (P : Int), .int .i64 s, .slice (some ⟨b, 0, none⟩) l.length c4] 26)) := hB4.alloc hB4.size _; have hbc : w.heap.size + 1 < b := (by have h1 := hBr.size; have h2 := F6r0; omega); have F9 := BX.made w4 26 [.int .i64 c, .int .i64 h, .int .i64 (P : Int), .int .i64 s, .slice (some ⟨b, 0, none⟩) l.length c4]; have O5 := OO.al O4 (.cells #[.int .i64 c, .int .i64 h, .int .i64 (P : Int), .int .i64 s, .slice (some ⟨b, 0, none⟩) l.length c4] 26); have hx5 := (hx.below hB4a); have hl4 := own_capK O4; have q0 : (_ : Option Value) = some (.int .i64 c) := F9.cell 0 (by simp); have q1 : (_ : Option Value) = some (.int .i64 h) := F9.cell 1 (by simp); have q2 : (_ : Option Value) = some (.int .i64 (P : Int)) := F9.cell 2 (by simp); have q3 : (_ : Option Value) = some (.int .i64 s) := F9.cell 3 (by simp); have q4 : (_ : Option Value) = some (.slice (some ⟨b, 0, none⟩) l.length c4) := F9.cell 4 (by simp); have en := l12Enter_any w4.heap.size c h s P t' b c4 w.heap.size l xs Ax cx (w4.alloc (.cells #[.int .i64 c, .int .i64 h, .int .i64 (P : Int), .int .i64 s, .slice (some ⟨b, 0, none⟩) l.length c4] 26)) _ F9 (by omega) O5 hx5 (by omega) (by rw [World.size_alloc]; omega) htP hl128 hP1 hP8 hh1 hh2 (by omega) hxn)
      | (go_at_call 71; refine (hin _).mono ?_; rintro e w9 ⟨rfl, rfl⟩))
    refine bodyPost_ret (v := .tuple #[.agg #[.int .i64 c, .int .i64 h, .int .i64 (P : Int), .int .i64 s, .slice (some ⟨b, 0, none⟩) l.length c4], .int .i64 0]) (by simp [results, Try.results52, go_sem, World.cell?_setCell_other, z0, z1, z2, z3, z4]) rfl ⟨_, by rw [HR.out.1, HR.out.2]; rfl, ?_, (by with_reducible repeat (first | exact Below.refl _ _ | assumption | refine below_step ?_ (by assumption) | refine Below.drew ?_ | refine below_drewN ?_ _ | refine below_alloc ?_ _ | refine Below.setCell ?_ (by simp; try omega) _))⟩
    rw [HR.out.1, HL.out, enL_len]
    refine own_base (base := wr.heap.size) ?_ (by omega)
    have hz1 : w.heap.size + 1 < wr.heap.size := by omega
    exact OO.put (OO.put (OO.put (OO.put (OO.put O6 hz1 _) hz1 _) hz1 _) hz1 _) hz1 _
end Go.Proofs.Yticnmljahnnhcaa
