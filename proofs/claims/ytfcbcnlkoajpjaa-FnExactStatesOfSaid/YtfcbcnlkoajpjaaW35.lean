/- Walks: StatesOf. -/
import Derived.Test.YtfcbcnlkoajpjaaW32
import Derived.Test.YtfcbcnlkoajpjaaSInt64
namespace Go.Proofs.Ytfcbcnlkoajpjaa
open Go.RowKit
set_option linter.unusedVariables false

def bump (acc : List Int) (j : Nat) : List Int := acc.set j (acc.getD j 0 + 1)
def stG : List DSector → List Int → List Int
  | [], acc => acc
  | x :: r, acc => stG r (bump acc (x.f1 - 1).toNat)
def stO (c h p s : Int) (l : List DSector) : List Int := if okD c h p s l = true then stG l [0, 0, 0, 0] else []
theorem stO_yes {c h p s : Int} {l : List DSector} (g : okD c h p s l = true) : stO c h p s l = stG l [0, 0, 0, 0] := if_pos g
theorem stO_no {c h p s : Int} {l : List DSector} (g : okD c h p s l = false) : stO c h p s l = [] := if_neg (by simp [g])
theorem bump_len (acc : List Int) (j : Nat) : (bump acc j).length = acc.length := by simp [bump]
theorem stG_len : ∀ (l : List DSector) (acc : List Int), (stG l acc).length = acc.length
  | [], _ => rfl
  | x :: r, acc => by rw [stG, stG_len r, bump_len]
theorem stO_len (c h p s : Int) (l : List DSector) : (stO c h p s l).length ≤ 4 := by
  unfold stO
  split
  · rw [stG_len]; simp
  · simp
theorem stG_step (l : List DSector) (k j : Nat) (acc R : List Int) (hk : k < l.length) (hj : l[k].f1 = (j : Int) + 1) (h : stG (l.drop k) acc = R) : stG (l.drop (k + 1)) (bump acc j) = R := by
  rw [List.drop_eq_getElem_cons hk, stG, hj, show ((j : Int) + 1 - 1).toNat = j by omega] at h
  exact h
theorem stG_end (l : List DSector) (k : Nat) (acc R : List Int) (hk : ¬ k < l.length) (h : stG (l.drop k) acc = R) : acc = R := by
  rw [List.drop_eq_nil_of_le (by omega)] at h
  exact h
theorem flatI_set : ∀ (l : List Int) (j : Nat) (v : Int), (flat fI l).set j (.int .i64 v) = flat fI (l.set j v)
  | [], j, v => by simp [flat]
  | x :: l, 0, v => by simp [flat, fI]
  | x :: l, j + 1, v => by
    have := flatI_set l j v
    simp only [flat, List.map_cons, List.flatten_cons, fI, List.cons_append, List.nil_append, List.set_cons_succ] at this ⊢
    rw [this]
theorem flatI_get (l : List Int) (j : Nat) (h : j < l.length) : (flat fI l)[j]? = some (.int .i64 l[j]) := by
  have := flat_get fI 1 fI_len l j 0 h (by omega)
  simpa [fI] using this
theorem secB_st {d : ByteArray} {st : Int} {n : Nat} (h : secB d st n = true) : 1 ≤ st ∧ st ≤ 4 := by
  unfold secB inB at h
  simp only [Bool.and_eq_true, decide_eq_true_eq] at h
  omega

theorem made4 : madeCells (Value.int .i64 0).cells (4 * 1) = #[.int .i64 0, .int .i64 0, .int .i64 0, .int .i64 0] := by kernel_rfl
theorem DP.put {w : World} {g : Nat} {c h p s : Int} {v : Value} (d : DP w g c h p s v) {a : Addr} (ha : g ≠ a.block) (u : Value) : DP (w.setCell a u) g c h p s v :=
  ⟨(World.cell?_setCell_other _ _ _ _ (by intro e; exact ha (by rw [e]))).trans d.1, (World.cell?_setCell_other _ _ _ _ (by intro e; exact ha (by rw [e]))).trans d.2.1, (World.cell?_setCell_other _ _ _ _ (by intro e; exact ha (by rw [e]))).trans d.2.2.1, (World.cell?_setCell_other _ _ _ _ (by intro e; exact ha (by rw [e]))).trans d.2.2.2.1, (World.cell?_setCell_other _ _ _ _ (by intro e; exact ha (by rw [e]))).trans d.2.2.2.2⟩
/-- The counts so far lie in a row of the call's own. -/
def CntR (W : World) (base g : Nat) (acc : List Int) (k : Nat) : Prop := W.ownsRow base 2 1 (.slice (some ⟨g, 0, none⟩) 4 4) 4 (flat fI acc) ∧ acc.length = 4 ∧ ∀ x ∈ acc, 0 ≤ x ∧ x ≤ (k : Int)
theorem CntR.put {W : World} {base g k j : Nat} {acc : List Int} (h : CntR W base g acc k) (hj : j < 4) : CntR (W.setCell ⟨g, j, none⟩ (.int .i64 (acc.getD j 0 + 1))) base g (bump acc j) (k + 1) := by
  obtain ⟨h1, h2, h3⟩ := h
  refine ⟨?_, by rw [bump_len, h2], ?_⟩
  · have := (World.ownsRow.stored h1 j (.int .i64 (acc.getD j 0 + 1))).1
    rw [flatI_set] at this
    exact this
  · intro x hx
    unfold bump at hx
    rcases List.mem_or_eq_of_mem_set hx with h | rfl
    · have := h3 x h; omega
    · have := h3 acc[j] (List.getElem_mem (by omega))
      rw [List.getD_eq_getElem?_getD, List.getElem?_eq_getElem (by omega)]
      simp only [Option.getD_some]
      omega
theorem CntR.get {W : World} {base g k j : Nat} {acc : List Int} (h : CntR W base g acc k) (hj : j < 4) : W.cell? ⟨g, j, none⟩ = some (.int .i64 (acc.getD j 0)) ∧ W.frozen? ⟨g, j, none⟩ = false ∧ 0 ≤ acc.getD j 0 ∧ acc.getD j 0 ≤ (k : Int) := by
  obtain ⟨h1, h2, h3⟩ := h
  have e : acc.getD j 0 = acc[j] := by rw [List.getD_eq_getElem?_getD, List.getElem?_eq_getElem (by omega)]; rfl
  refine ⟨?_, World.ownsRow.frozenAt h1 j, ?_⟩
  · rw [World.ownsRow.cellAt h1 j (by omega), flatI_get acc j (by omega), e]
  · rw [e]
    exact h3 _ (List.getElem_mem _)
theorem CntR.alloc {W : World} {base g k : Nat} {acc : List Int} (h : CntR W base g acc k) (o : Obj) : CntR (W.alloc o) base g acc k := ⟨World.ownsRow.alloc h.1 o, h.2⟩
theorem CntR.made (w : World) (base : Nat) (hb : base ≤ w.heap.size) : CntR (w.alloc (.cells #[.int .i64 0, .int .i64 0, .int .i64 0, .int .i64 0] 2)) base w.heap.size [0, 0, 0, 0] 0 :=
  ⟨World.ownsRow_lit w #[.int .i64 0, .int .i64 0, .int .i64 0, .int .i64 0] 4 hb (by first | rfl | decide) (by decide), rfl, by simp⟩

set_option maxRecDepth 100000 in
set_option maxHeartbeats 1000000 in
theorem spec_StatesOf_any (c h p s : Int) (A : Option Addr) (cp : Nat) (l : List DSector) (w : World) (hr : Rd w w.heap.size 2 A l.length (flat fSector l)) (hn : l.length ≤ 1048576) (hok : ∀ x ∈ l, okSector x) :
    Calls Try.prog 55 #[.agg #[.int .i64 c, .int .i64 h, .int .i64 p, .int .i64 s, .slice A l.length cp]] w fun e w' => ∃ v, e = .returned v ∧ w'.ownsRow w.heap.size 2 1 v (stO c h p s l).length (flat fI (stO c h p s l)) ∧ Below w.heap.size w w' := by
  have him := fun W hr hd => l12Ok_any w.heap.size c h p s A cp l W hd hr hn hok
  cases hk : okD c h p s l
  · have HR := Lib.hid (stO_no hk)
    have HK := Lib.hid hk
    clear hk
    go_enter Try.func55, Try.ntmps55
    go_wp2_with (go_at_call 85; refine (him _ ((hr.below (by with_reducible repeat (first | exact Below.refl _ _ | assumption | refine below_step ?_ (by assumption) | refine Below.drew ?_ | refine below_drewN ?_ _ | refine below_alloc ?_ _ | refine Below.setCell ?_ (by simp; try omega) _))).more (by simp; try omega)) (DP.made w c h p s _ _)).mono ?_; rintro e w1 ⟨rfl, hx⟩; rw [HK.out]; have hB1 : Below w.heap.size w w1 := (by with_reducible repeat (first | exact Below.refl _ _ | assumption | refine below_step ?_ (by assumption) | refine Below.drew ?_ | refine below_drewN ?_ _ | refine below_alloc ?_ _ | refine Below.setCell ?_ (by simp; try omega) _)); have hs1 := hB1.size)
    go_ret
    exact ⟨_, rfl, by rw [HR.out]; exact own_lit0 _ _, (by with_reducible repeat (first | exact Below.refl _ _ | assumption | refine below_step ?_ (by assumption) | refine Below.drew ?_ | refine below_drewN ?_ _ | refine below_alloc ?_ _ | refine Below.setCell ?_ (by simp; try omega) _))⟩
  · obtain ⟨hg, hl, hall⟩ := okD_geo hk
    have hst := fun (k : Nat) (hk : k < l.length) => secB_st (hall k hk)
    have HR := Lib.hid (stO_yes hk)
    have HK := Lib.hid hk
    clear hk hl hg
    have hmk : ∀ W, (Instr.makeSlice 35 (.int .i64 4) (.int .i64 4)).run Try.prog W = .ok (.slice (some ⟨W.heap.size, 0, none⟩) 4 4) (W.alloc (.cells #[.int .i64 0, .int .i64 0, .int .i64 0, .int .i64 0] 2)) := fun W => by
      have := eltI.make 4 (by omega) (by omega) W
      rw [made4] at this
      exact this
    go_enter Try.func55, Try.ntmps55
    go_wp2_with (go_at_call 85; refine (him _ ((hr.below (by with_reducible repeat (first | exact Below.refl _ _ | assumption | refine below_step ?_ (by assumption) | refine Below.drew ?_ | refine below_drewN ?_ _ | refine below_alloc ?_ _ | refine Below.setCell ?_ (by simp; try omega) _))).more (by simp; try omega)) (DP.made w c h p s _ _)).mono ?_; rintro e w1 ⟨rfl, hx⟩; rw [HK.out]; have hB1 : Below w.heap.size w w1 := (by with_reducible repeat (first | exact Below.refl _ _ | assumption | refine below_step ?_ (by assumption) | refine Below.drew ?_ | refine below_drewN ?_ _ | refine below_alloc ?_ _ | refine Below.setCell ?_ (by simp; try omega) _)); have D0 := ((DP.made w c h p s (.slice A l.length cp) 29)).next hx; obtain ⟨p0, p1, p2, p3, p4⟩ := id D0; have hs1 : w.heap.size + 1 ≤ w1.heap.size := (by have := hx.size; simp at this; omega))
    have hS := CntR.made w1 w.heap.size hB1.size
    have hB2 : Below w.heap.size w (w1.alloc (.cells #[.int .i64 0, .int .i64 0, .int .i64 0, .int .i64 0] 2)) := below_alloc hB1 _
    go_wp2_with fail
    go_loopw [4] (fun i wr => ∃ (k : Nat) (acc : List Int), k ≤ l.length ∧ i = .int .i64 k ∧ CntR wr w.heap.size w1.heap.size acc k ∧ Below w.heap.size w wr ∧ DP wr w.heap.size c h p s (.slice A l.length cp) ∧ w1.heap.size < wr.heap.size ∧ Hid (stG (l.drop k) acc = stG l [0, 0, 0, 0])) (fun i _ => l.length - (intOf i).toNat)
    case atStart => exact ⟨0, _, Nat.zero_le _, rfl, hS, hB2, D0.alloc _, by simp, Lib.hid rfl⟩
    case round =>
      obtain ⟨k, acc, hk, rfl, hC, hb, D, hlt1, HI⟩ := hrel
      obtain ⟨e0, e1, e2, e3, e4⟩ := id D
      by_cases hlt : k < l.length
      · obtain ⟨j, hj, hj4⟩ : ∃ j : Nat, l[k].f1 = (j : Int) + 1 ∧ j < 4 := ⟨(l[k].f1 - 1).toNat, by have := hst k hlt; omega, by have := hst k hlt; omega⟩
        have HN := Lib.hid (stG_step l k j acc _ hlt hj HI.out)
        obtain ⟨b, off, rfl, hbb, hc⟩ := (hr.below hb).at_ fSector_len rfl k hlt
        have hc0 := hc 0 _ (by omega) rfl
        have hc1 := hc 1 _ (by omega) rfl
        clear hc
        rw [hj] at hc1
        simp only [← Nat.add_assoc, Nat.add_zero] at hc0 hc1
        clear hj
        obtain ⟨a0, a1, a2, a3⟩ := hC.get hj4
        have hP := hC.put hj4
        generalize acc.getD j 0 = q at a0 a2 a3 hP
        go_wp2
        go_roundw
        case rel => exact ⟨k + 1, _, by omega, by go_num, hP, Below.setCell hb hB1.size _, D.put (show w.heap.size ≠ w1.heap.size by omega) _, by simpa using hlt1, HN⟩
        case measure => (simp [intOf] <;> omega)
      · have HE := Lib.hid (stG_end l k acc _ hlt HI.out)
        go_wp2
        go_ret
        exact ⟨_, rfl, by rw [HR.out, ← HE.out, hC.2.1]; exact hC.1, hb⟩

set_option maxRecDepth 100000 in
set_option maxHeartbeats 1000000 in
theorem impl_StatesOf_any (c h p s : Int) (A : Option Addr) (cp : Nat) (l : List DSector) (w : World) (hr : Rd w w.heap.size 2 A l.length (flat fSector l)) (hn : l.length ≤ 1048576) (hok : ∀ x ∈ l, okSector x) :
    Calls Try.prog 56 #[.agg #[.int .i64 c, .int .i64 h, .int .i64 p, .int .i64 s, .slice A l.length cp]] w fun e w' => ∃ v, e = .returned v ∧ w'.ownsRow w.heap.size 2 1 v (stO c h p s l).length (flat fI (stO c h p s l)) ∧ Below w.heap.size w w' := by
  have him := fun W hr => impl_ValidDisc_any c h p s A cp l W hr hn hok
  cases hk : okD c h p s l
  · have HR := Lib.hid (stO_no hk)
    have HK := Lib.hid hk
    clear hk
    go_enter Try.func56, Try.ntmps56
    go_wp2_with (go_at_call 47; refine (him _ ((hr.below (by with_reducible repeat (first | exact Below.refl _ _ | assumption | refine below_step ?_ (by assumption) | refine Below.drew ?_ | refine below_drewN ?_ _ | refine below_alloc ?_ _ | refine Below.setCell ?_ (by simp; try omega) _))).more (by simp; try omega))).mono ?_; rintro e w1 ⟨rfl, hx⟩; rw [HK.out]; have hB1 : Below w.heap.size w w1 := (by with_reducible repeat (first | exact Below.refl _ _ | assumption | refine below_step ?_ (by assumption) | refine Below.drew ?_ | refine below_drewN ?_ _ | refine below_alloc ?_ _ | refine Below.setCell ?_ (by simp; try omega) _)); have hs1 := hB1.size)
    go_ret
    exact ⟨_, rfl, by rw [HR.out]; exact World.ownsRow_nil _ _ _ _, (by with_reducible repeat (first | exact Below.refl _ _ | assumption | refine below_step ?_ (by assumption) | refine Below.drew ?_ | refine below_drewN ?_ _ | refine below_alloc ?_ _ | refine Below.setCell ?_ (by simp; try omega) _))⟩
  · obtain ⟨hg, hl, hall⟩ := okD_geo hk
    have hst := fun (k : Nat) (hk : k < l.length) => secB_st (hall k hk)
    have HR := Lib.hid (stO_yes hk)
    have HK := Lib.hid hk
    clear hk hl hg
    have hmk : ∀ W, (Instr.makeSlice 35 (.int .i64 4) (.int .i64 4)).run Try.prog W = .ok (.slice (some ⟨W.heap.size, 0, none⟩) 4 4) (W.alloc (.cells #[.int .i64 0, .int .i64 0, .int .i64 0, .int .i64 0] 2)) := fun W => by
      have := eltI.make 4 (by omega) (by omega) W
      rw [made4] at this
      exact this
    go_enter Try.func56, Try.ntmps56
    go_wp2_with (go_at_call 47; refine (him _ ((hr.below (by with_reducible repeat (first | exact Below.refl _ _ | assumption | refine below_step ?_ (by assumption) | refine Below.drew ?_ | refine below_drewN ?_ _ | refine below_alloc ?_ _ | refine Below.setCell ?_ (by simp; try omega) _))).more (by simp; try omega))).mono ?_; rintro e w1 ⟨rfl, hx⟩; rw [HK.out]; have hB1 : Below w.heap.size w w1 := (by with_reducible repeat (first | exact Below.refl _ _ | assumption | refine below_step ?_ (by assumption) | refine Below.drew ?_ | refine below_drewN ?_ _ | refine below_alloc ?_ _ | refine Below.setCell ?_ (by simp; try omega) _)); have D0 := ((DP.made w c h p s (.slice A l.length cp) 29)).next hx; obtain ⟨p0, p1, p2, p3, p4⟩ := id D0; have p5 : ∀ o, (w1.alloc o).cell? ⟨w.heap.size, 4, none⟩ = some (.slice A l.length cp) := fun o => (D0.alloc o).2.2.2.2; have hs1 : w.heap.size + 1 ≤ w1.heap.size := (by have := hx.size; simp at this; omega))
    have hS := CntR.made w1 w.heap.size hB1.size
    have hB2 : Below w.heap.size w (w1.alloc (.cells #[.int .i64 0, .int .i64 0, .int .i64 0, .int .i64 0] 2)) := below_alloc hB1 _
    go_wp2_with fail
    go_loopw [5, 13] (fun _ i wr => ∃ (k : Nat) (acc : List Int), k ≤ l.length ∧ i = .int .i64 k ∧ CntR wr w.heap.size w1.heap.size acc k ∧ Below w.heap.size w wr ∧ DP wr w.heap.size c h p s (.slice A l.length cp) ∧ w1.heap.size < wr.heap.size ∧ Hid (stG (l.drop k) acc = stG l [0, 0, 0, 0])) (fun _ i _ => l.length - (intOf i).toNat)
    case atStart => exact ⟨0, _, Nat.zero_le _, rfl, hS, hB2, D0.alloc _, by simp, Lib.hid rfl⟩
    case round =>
      obtain ⟨k, acc, hk, rfl, hC, hb, D, hlt1, HI⟩ := hrel
      obtain ⟨e0, e1, e2, e3, e4⟩ := id D
      by_cases hlt : k < l.length
      · obtain ⟨j, hj, hj4⟩ : ∃ j : Nat, l[k].f1 = (j : Int) + 1 ∧ j < 4 := ⟨(l[k].f1 - 1).toNat, by have := hst k hlt; omega, by have := hst k hlt; omega⟩
        have HN := Lib.hid (stG_step l k j acc _ hlt hj HI.out)
        obtain ⟨b, off, rfl, hbb, hc⟩ := (hr.below hb).at_ fSector_len rfl k hlt
        have hc0 := hc 0 _ (by omega) rfl
        have hc1 := hc 1 _ (by omega) rfl
        clear hc
        rw [hj] at hc1
        simp only [← Nat.add_assoc, Nat.add_zero] at hc0 hc1
        clear hj
        obtain ⟨a0, a1, a2, a3⟩ := hC.get hj4
        have hP := hC.put hj4
        have f0 := fun o => ((hC.alloc o).get hj4).1
        have f1 := fun o => ((hC.alloc o).get hj4).2.1
        generalize acc.getD j 0 = q at a0 a2 a3 hP f0
        go_wp2
        go_roundw
        case rel => exact ⟨k + 1, _, by omega, by go_num, hP.alloc _, below_alloc (Below.setCell hb hB1.size _) _, (D.put (show w.heap.size ≠ w1.heap.size by omega) _).alloc _, by simp; omega, HN⟩
        case measure => (simp [intOf] <;> omega)
      · have HE := Lib.hid (stG_end l k acc _ hlt HI.out)
        go_wp2
        go_ret
        exact ⟨_, rfl, by rw [HR.out, ← HE.out, hC.2.1]; exact hC.1, hb⟩
end Go.Proofs.Ytfcbcnlkoajpjaa
