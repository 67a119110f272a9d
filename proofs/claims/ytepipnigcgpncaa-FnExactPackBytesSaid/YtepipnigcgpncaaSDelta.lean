/- Walks of the helpers in laws: Delta. Printed by mk_leaf.py. -/
import Derived.Test.YtepipnigcgpncaaMem4
import Derived.Test.YtepipnigcgpncaaW2
import Derived.Deep.DeepMust
import Derived.StillTailTactics
import Derived.OpenShut
import Derived.Test.YtepipnigcgpncaaMark
import Derived.Lib.SmallJoins
namespace Go.Proofs.Ytepipnigcgpncaa
open Go.RowKit Go.ChangeShapes Go.WideShapes Go.Deep

structure DDelta where
  f0 : Int
  f1 : ByteArray
def fDelta (x : DDelta) : List Value := [.int .i64 x.f0, .string x.f1]
theorem fDelta_len (x : DDelta) : (fDelta x).length = 2 := rfl
def vDelta (x : DDelta) : Value := .agg #[.int .i64 x.f0, .string x.f1]
def zDelta (x : DDelta) : List Nat := [x.f1.size]
def okDelta (x : DDelta) : Prop := x.f1.size ≤ maxLen ∧ (-9223372036854775808 ≤ x.f0 ∧ x.f0 ≤ 9223372036854775807)

set_option maxHeartbeats 1000000 in
theorem toDelta_any (a0 : Int) (a1 : ByteArray) (w : World) :
    Calls Try.prog 70 #[.agg #[.int .i64 a0, .string a1]] w fun e w' => e = .returned (.agg #[.int .i64 a0, .string a1]) ∧ Below w.heap.size w w' := by
  go_enter Try.func70, Try.ntmps70
  go_wp2
  exact bodyPost_ret (v := .agg #[.int .i64 a0, .string a1]) (by simp [results, Try.results70, go_sem]) rfl ⟨rfl, (by repeat (first | exact Below.refl _ _ | refine below_step ?_ (by assumption) | assumption | refine Below.drew ?_ | refine below_drewN ?_ _ | refine below_alloc ?_ _ | refine Below.setCell ?_ (by simp; try omega) _))⟩

theorem eltDelta : Elt Try.prog 45 72 2 24 (.agg #[.int .i64 0, .string ByteArray.empty]) := Elt.mk' Try.underlying45 (by kernel_rfl) rfl (by decide)

set_option maxHeartbeats 1000000 in
theorem toDeltaS_any (A : Option Addr) (c : Nat) (l : List DDelta) (w : World) (h : Rd w w.heap.size 2 A l.length (flat fDelta l)) (hn : l.length ≤ 1048576) :
    Calls Try.prog 37 #[.slice A l.length c] w fun e w' => ∃ v, e = .returned v ∧ w'.ownsRow w.heap.size 72 2 v l.length (flat fDelta l) ∧ Below w.heap.size w w' := by
  have hmk := fun W => eltDelta.make l.length (by omega) (by omega) W
  have hfl := flat_length fDelta 2 fDelta_len l
  go_enter Try.func37, Try.ntmps37
  go_wp2
  go_loopw [4] (fun i wr => ∃ k : Nat, k ≤ l.length ∧ i = .int .i64 k ∧ FillC wr w.heap.size 72 (l.length * 2) (flat fDelta l) (k * 2) ∧ Below w.heap.size w wr) (fun i _ => l.length - (intOf i).toNat)
  case atStart => exact ⟨0, Nat.zero_le _, rfl, FillC.made w _ _ _ _, below_alloc (Below.refl _ _) _⟩
  case round =>
    obtain ⟨k, hk, rfl, hf, hb⟩ := hrel
    by_cases hlt : k < l.length
    · obtain ⟨b, off, rfl, hbb, hc⟩ := (h.below hb).at_ fDelta_len rfl k hlt
      have hc0 := hc 0 _ (by omega) rfl
      have hc1 := hc 1 _ (by omega) rfl
      clear hc
      simp only [← Nat.add_assoc, Nat.add_zero] at hc0 hc1
      go_wp2_with (go_at_call 70; go_must (refine (toDelta_any l[k].f0 l[k].f1 _).mono ?_); rintro e w1 ⟨rfl, hx⟩; replace hf := hf.below hx hf.lt; replace hb := below_step hb hx; obtain ⟨u0, hu0⟩ := hf.some_ (k * 2 + 0) (by omega); have hfz0 := hf.free (k * 2 + 0); obtain ⟨u1, hu1⟩ := hf.some_ (k * 2 + 1) (by omega); have hfz1 := hf.free (k * 2 + 1); simp only [Nat.add_zero] at hu0 hfz0)
      have hx0 : (flat fDelta l)[k * 2 + 0]? = some (.int .i64 l[k].f0) := flat_get fDelta 2 fDelta_len l k 0 hlt (by omega)
      have hx1 : (flat fDelta l)[k * 2 + 1]? = some (.string l[k].f1) := flat_get fDelta 2 fDelta_len l k 1 hlt (by omega)
      have hp0 := hf.put _ (by omega) (by simpa using hx0)
      have hp1 := hp0.put _ (by omega) hx1
      go_roundw
      case rel => exact ⟨k + 1, by omega, by go_num, by rw [show (k + 1) * 2 = k * 2 + 2 by omega]; exact hp1, (by repeat (first | exact Below.refl _ _ | refine below_step ?_ (by assumption) | assumption | refine Below.drew ?_ | refine below_drewN ?_ _ | refine below_alloc ?_ _ | refine Below.setCell ?_ (by simp; try omega) _))⟩
      case measure => (simp [intOf] <;> omega)
    · obtain rfl : k = l.length := by omega
      have hown := hf.own (base := w.heap.size) (size := 2) (n := l.length) (by omega) (by omega) (Nat.le_refl _) (by simp only [maxLen]; omega)
      go_wp2
      go_ret
      exact ⟨_, rfl, hown, hb⟩

set_option maxHeartbeats 1000000 in
theorem szDelta_any (a0 : Int) (a1 : ByteArray) (left : Int) (w : World) (h0 : 0 ≤ left) (h1 : left ≤ 1048576) (hs1 : a1.size ≤ maxLen) :
    Calls Try.prog 69 #[.agg #[.int .i64 a0, .string a1], .int .i64 left] w fun e w' => e = .returned (.int .i64 (subs left [a1.size])) ∧ Below w.heap.size w w' := by
  unfold maxLen at *
  go_enter Try.func69, Try.ntmps69
  go_wp2
  all_goals go_ret
  all_goals exact ⟨ret_int (by simp only [subs]; repeat' (first | omega | split)), (by repeat (first | exact Below.refl _ _ | refine below_step ?_ (by assumption) | assumption | refine Below.drew ?_ | refine below_drewN ?_ _ | refine below_alloc ?_ _ | refine Below.setCell ?_ (by simp; try omega) _))⟩

def tzDelta (l : List DDelta) : List Nat := l.length :: (l.map zDelta).flatten
theorem zDelta_drop (l : List DDelta) (k : Nat) (hk : k < l.length) : ((l.drop k).map zDelta).flatten = zDelta l[k] ++ ((l.drop (k + 1)).map zDelta).flatten := by
  rw [List.drop_eq_getElem_cons hk, List.map_cons, List.flatten_cons]
set_option maxHeartbeats 1000000 in
theorem szDeltaS_any (A : Option Addr) (c : Nat) (l : List DDelta) (left : Int) (w : World) (h : Rd w w.heap.size 2 A l.length (flat fDelta l)) (hn : l.length ≤ maxLen) (h0 : 0 ≤ left) (h1 : left ≤ 1048576) (hok : ∀ x ∈ l, okDelta x) :
    Calls Try.prog 35 #[.slice A l.length c, .int .i64 left] w fun e w' => e = .returned (.int .i64 (subs left (tzDelta l))) ∧ Below w.heap.size w w' := by
  unfold maxLen at hn
  by_cases hneg : left - l.length < 0
  · have HR := Lib.hid (show subs left (tzDelta l) = -1 from by simp only [tzDelta, subs, if_pos hneg])
    go_enter Try.func35, Try.ntmps35
    go_wp2
    go_ret
    exact ⟨ret_int (by rw [HR.out]), Below.refl _ _⟩
  have HS := Lib.hid (show subs (left - l.length) ((l.drop 0).map zDelta).flatten = subs left (tzDelta l) from by simp only [tzDelta, subs, if_neg hneg, List.drop_zero])
  go_enter Try.func35, Try.ntmps35
  go_wp2
  go_loopw [1, 5] (fun m i wr => ∃ (k : Nat) (x : Int), k ≤ l.length ∧ i = .int .i64 k ∧ m = .int .i64 x ∧ 0 ≤ x ∧ x ≤ 1048576 ∧ Below w.heap.size w wr ∧ Hid (subs x ((l.drop k).map zDelta).flatten = subs left (tzDelta l))) (fun _ i _ => l.length - (intOf i).toNat)
  case atStart => exact ⟨0, left - l.length, Nat.zero_le _, rfl, rfl, by omega, by omega, Below.refl _ _, HS⟩
  case round =>
    obtain ⟨k, x, hk, rfl, rfl, hx0, hx1, hb, HI⟩ := hrel
    by_cases hlt : k < l.length
    · obtain ⟨b, off, rfl, hbb, hc⟩ := (h.below hb).at_ fDelta_len rfl k hlt
      have hokk := hok l[k] (List.getElem_mem hlt)
      have hs1 : l[k].f1.size ≤ maxLen := hokk.1
      have hc0 := hc 0 _ (by omega) rfl
      have hc1 := hc 1 _ (by omega) rfl
      clear hc
      simp only [← Nat.add_assoc, Nat.add_zero] at hc0 hc1
      have HA := Lib.hid (show (if subs x (zDelta l[k]) < 0 then -1 else subs (subs x (zDelta l[k])) ((l.drop (k + 1)).map zDelta).flatten) = subs left (tzDelta l) from by rw [← HI.out, zDelta_drop l k hlt, subs_append _ _ _ hx0])
      rcases subs_cases (zDelta l[k]) x hx0 with hq | ⟨hq, hq0⟩
      · have HQ := Lib.hid hq
        have HR := Lib.hid (show -1 = subs left (tzDelta l) from by rw [← HA.out, hq]; rfl)
        clear hq
        go_wp2_with (go_at_call 69; refine (szDelta_any l[k].f0 l[k].f1 x _ hx0 hx1 hs1).mono ?_; rintro e w1 ⟨rfl, hx⟩; rw [show subs x [l[k].f1.size] = -1 from HQ.out]; replace hb := below_step hb hx)
        go_ret
        exact ⟨ret_int HR.out, hb⟩
      · have HQ := Lib.hid hq
        have HR := Lib.hid (show subs (x - ((zDelta l[k]).sum : Nat)) ((l.drop (k + 1)).map zDelta).flatten = subs left (tzDelta l) from by rw [← HA.out, hq, if_neg (by omega)])
        clear hq
        generalize hsum : x - ((zDelta l[k]).sum : Nat) = y at *
        have hy : y ≤ 1048576 := by omega
        clear hsum
        go_wp2_with (go_at_call 69; refine (szDelta_any l[k].f0 l[k].f1 x _ hx0 hx1 hs1).mono ?_; rintro e w1 ⟨rfl, hx⟩; rw [show subs x [l[k].f1.size] = y from HQ.out]; replace hb := below_step hb hx)
        go_roundw
        case rel => exact ⟨k + 1, y, by omega, by go_num, rfl, hq0, hy, hb, HR⟩
        case measure => (simp [intOf] <;> omega)
    · have HR := Lib.hid (show x = subs left (tzDelta l) from by rw [← HI.out, List.drop_eq_nil_of_le (by omega)]; rfl)
      go_wp2
      go_ret
      exact ⟨ret_int HR.out, hb⟩

set_option maxHeartbeats 1000000 in
theorem eqDelta_any (a0 : Int) (a1 : ByteArray) (w : World) :
    Calls Try.prog 71 #[.agg #[.int .i64 a0, .string a1], .agg #[.int .i64 a0, .string a1]] w fun e w' => e = .returned (.bool true) ∧ Below w.heap.size w w' := by
  go_enter Try.func71, Try.ntmps71
  go_wp2
  go_ret
  exact ⟨rfl, (by repeat (first | exact Below.refl _ _ | refine below_step ?_ (by assumption) | assumption | refine Below.drew ?_ | refine below_drewN ?_ _ | refine below_alloc ?_ _ | refine Below.setCell ?_ (by simp; try omega) _))⟩

set_option maxHeartbeats 1000000 in
theorem eqDeltaS_any (A A' : Option Addr) (c c' : Nat) (l : List DDelta) (w : World) (h : Rd w w.heap.size 2 A l.length (flat fDelta l)) (h' : Rd w w.heap.size 2 A' l.length (flat fDelta l)) (hn : l.length ≤ 1048576) :
    Calls Try.prog 39 #[.slice A l.length c, .slice A' l.length c'] w fun e w' => e = .returned (.bool true) ∧ Below w.heap.size w w' := by
  go_enter Try.func39, Try.ntmps39
  go_wp2
  go_loopw [5] (fun i wr => ∃ k : Nat, k ≤ l.length ∧ i = .int .i64 k ∧ Below w.heap.size w wr) (fun i _ => l.length - (intOf i).toNat)
  case atStart => exact ⟨0, Nat.zero_le _, rfl, Below.refl _ _⟩
  case round =>
    obtain ⟨k, hk, rfl, hb⟩ := hrel
    by_cases hlt : k < l.length
    · obtain ⟨b, off, rfl, hbb, hc⟩ := (h.below hb).at_ fDelta_len rfl k hlt
      obtain ⟨b', off', rfl, hbb', hd⟩ := (h'.below hb).at_ fDelta_len rfl k hlt
      have hc0 := hc 0 _ (by omega) rfl
      have hd0 := hd 0 _ (by omega) rfl
      have hc1 := hc 1 _ (by omega) rfl
      have hd1 := hd 1 _ (by omega) rfl
      clear hc hd
      simp only [← Nat.add_assoc, Nat.add_zero] at hc0 hd0 hc1 hd1
      go_wp2_with fail
      go_still_tail 8, (by kernel_rfl)
      change wpList _ _ _ _ _ wr.drew
      replace hb := Below.drew hb
      generalize wr.drew = w2 at hb ⊢
      go_wp2_with (go_at_call 71; refine (eqDelta_any l[k].f0 l[k].f1 _).mono ?_; rintro e w1 ⟨rfl, hx⟩; replace hb := below_step hb hx)
      go_roundw
      case rel => exact ⟨k + 1, by omega, by go_num, hb⟩
      case measure => (simp [intOf] <;> omega)
    · go_wp2
      go_ret
      exact ⟨rfl, hb⟩

theorem openDelta {H : Type} {enc : TypeId × Value → H} {w : World} {fuel : Nat} {cs : List Value} {x : DataW H × List MemPlace} (h : DataW.trod enc Try.prog w 0 (fun _ => true) true fuel 71 cs = some x) :
    ∃ a : DDelta, cs = fDelta a ∧ okDelta a := by
  obtain ⟨xs, m, rfl, rfl, hl, hxl, hf⟩ := DataW.trod_struct Try.underlying71 h
  rw [show Try.prog.cellsOf 71 = 2 from by kernel_rfl] at hl
  replace hxl : xs.length = 2 := hxl
  obtain ⟨c0, c1, rfl⟩ : ∃ c0 c1, cs = [c0, c1] := by
    match cs, hl with | [c0, c1], _ => exact ⟨c0, c1, rfl⟩
  have g0 : DataW.trod enc Try.prog w 0 (fun _ => true) true m 2 [c0] = xs[0]? := by
    have := hf 0 _ rfl
    rw [show Try.prog.cellsOf _ = 1 from by kernel_rfl] at this
    exact this
  rw [List.getElem?_eq_getElem (by omega)] at g0
  obtain ⟨a0, e0, _, w0⟩ := DataW.trod_int Try.underlying2 g0
  simp only [List.cons.injEq, and_true] at e0
  subst e0
  have r0 : -9223372036854775808 ≤ a0 ∧ a0 ≤ 9223372036854775807 := by
    simp only [Lit.wf, Bool.and_eq_true, decide_eq_true_eq] at w0
    exact w0
  have g1 : DataW.trod enc Try.prog w 0 (fun _ => true) true m 9 [c1] = xs[1]? := by
    have := hf 1 _ rfl
    rw [show Try.prog.cellsOf _ = 1 from by kernel_rfl] at this
    exact this
  rw [List.getElem?_eq_getElem (by omega)] at g1
  obtain ⟨a1, e1, _, w1⟩ := DataW.trod_string Try.underlying9 g1
  simp only [List.cons.injEq, and_true] at e1
  subst e1
  exact ⟨⟨a0, a1⟩, rfl, w1, r0⟩

def mqDelta (q : Nat) : DDelta := ⟨(q : Int), mtxt (q + 1)⟩
def mksDelta (k m : Nat) : List DDelta := (List.range m).map fun i => mqDelta (k + 2 * i)
theorem mksDelta_len (k m : Nat) : (mksDelta k m).length = m := by simp [mksDelta]
theorem mksDelta_succ (k m : Nat) : mksDelta k (m + 1) = mksDelta k m ++ [mqDelta (k + 2 * m)] := by simp [mksDelta, List.range_succ]
theorem mksDelta_get (k m i : Nat) (h : i < (mksDelta k m).length) : (mksDelta k m)[i] = mqDelta (k + 2 * i) := by simp [mksDelta]
theorem mksDelta_put (k m : Nat) (l : List DDelta) (h : m < l.length) : putV (flat fDelta (mksDelta k m ++ l.drop m)) (m * 2) (fDelta (mqDelta (k + 2 * m))) = flat fDelta (mksDelta k (m + 1) ++ l.drop (m + 1)) := by
  have := flat_put fDelta 2 fDelta_len (mksDelta k m) (l.drop (m + 1)) l[m] (mqDelta (k + 2 * m))
  rw [mksDelta_len] at this
  rw [List.drop_eq_getElem_cons h, this, mksDelta_succ, List.append_assoc]
  rfl

set_option maxHeartbeats 1000000 in
theorem markDeltaS_any (A : Option Addr) (c k : Nat) (l : List DDelta) (w : World) (base : Nat) (h : w.ownsRow base 72 2 (.slice A l.length c) l.length (flat fDelta l)) (hk1 : 1 ≤ k) (hk2 : k ≤ 10000000000) (hl : l.length ≤ 10000000000) :
    Calls Try.prog 42 #[.slice A l.length c, .int .i64 (k : Int)] w fun e w' => e = .returned (.int .i64 ((k + 2 * l.length : Nat) : Int)) ∧ w'.ownsRow base 72 2 (.slice A l.length c) l.length (flat fDelta (mksDelta k l.length)) ∧ w.grownBy w' (Value.slice A l.length c).ownBlock := by
  go_enter Try.func42, Try.ntmps42
  go_wp2
  go_loopw [1, 5] (fun kk i wr => ∃ m q : Nat, m ≤ l.length ∧ k + 2 * m = q ∧ i = .int .i64 m ∧ kk = .int .i64 q ∧ wr.ownsRow base 72 2 (.slice A l.length c) l.length (flat fDelta (mksDelta k m ++ l.drop m)) ∧ w.grownBy wr (Value.slice A l.length c).ownBlock) (fun _ i _ => l.length - (intOf i).toNat)
  case atStart => exact ⟨0, k, Nat.zero_le _, by omega, rfl, rfl, h, World.grownBy.refl _ _⟩
  case round =>
    obtain ⟨m, q, hm, hq, rfl, rfl, ho, hg⟩ := hrel
    by_cases hlt : m < l.length
    · obtain ⟨g, cap, hv⟩ := Go.Joins.ownsRow_form ho (by omega)
      cases hv
      have hput := mksDelta_put k m l hlt
      rw [hq] at hput
      have hm1 := fun W => markText_any (q + 1) W (by omega) (by omega)
      simp only [show ((q + 1 : Nat) : Int) = (q : Int) + 1 from by omega] at hm1
      obtain ⟨u0, hu0⟩ := own_some ho (m * 2 + 0) (by omega)
      have hz0 := World.ownsRow.frozenAt ho (m * 2 + 0)
      simp only [Nat.add_zero] at hu0 hz0
      go_wp2_with (first
        | (go_at_call 73; refine (hm1 _).mono ?_; rintro e w11 ⟨rfl, hx⟩; replace hg := (hg.trans (World.ownsRow.stored ho _ _).2).trans (only_of_below hx _); replace ho := own_later (World.ownsRow.stored ho _ _).1 hx (Nat.le_refl _); obtain ⟨u1, hu1⟩ := own_some ho (m * 2 + 1) (by omega); have hz1 := World.ownsRow.frozenAt ho (m * 2 + 1); have mark1 := True.intro))
      go_roundw
      case rel =>
        refine ⟨m + 1, q + 2, by omega, by omega, by go_num, by go_num, ?_, (hg.trans (World.ownsRow.stored ho _ _).2)⟩
        rw [← hput]
        exact (World.ownsRow.stored ho _ _).1
      case measure => (simp [intOf] <;> omega)
    · obtain rfl : m = l.length := by omega
      rw [List.drop_length, List.append_nil] at ho
      go_wp2
      go_ret
      exact ⟨ret_int (by omega), ho, hg⟩

set_option maxHeartbeats 1000000 in
theorem heldDeltaS_any (A : Option Addr) (c k n : Nat) (w : World) (h : Rd w w.heap.size 2 A n (flat fDelta (mksDelta k n))) (hk1 : 1 ≤ k) (hk2 : k ≤ 10000000000) (hl : n ≤ 10000000000) :
    Calls Try.prog 43 #[.slice A n c, .int .i64 (k : Int)] w fun e w' => e = .returned (.int .i64 ((k + 2 * n : Nat) : Int)) ∧ Below w.heap.size w w' := by
  go_enter Try.func43, Try.ntmps43
  go_wp2
  go_loopw [1, 5] (fun kk i wr => ∃ i' q : Nat, i' ≤ n ∧ k + 2 * i' = q ∧ i = .int .i64 i' ∧ kk = .int .i64 q ∧ Below w.heap.size w wr) (fun _ i _ => n - (intOf i).toNat)
  case atStart => exact ⟨0, k, Nat.zero_le _, by omega, rfl, rfl, Below.refl _ _⟩
  case round =>
    obtain ⟨i, q, hi, hq, rfl, rfl, hb⟩ := hrel
    by_cases hlt : i < n
    · obtain ⟨b, off, rfl, hbb, hc⟩ := h.at_ fDelta_len (mksDelta_len k n).symm i hlt
      have hc0 := hc 0 (.int .i64 ((q : Int))) (by omega) (by rw [mksDelta_get, hq]; rfl)
      have hc1 := hc 1 (.string (mtxt (q + 1))) (by omega) (by rw [mksDelta_get, hq]; rfl)
      clear hc
      simp only [← Nat.add_assoc, Nat.add_zero] at hc0 hc1
      have hm1 := fun W => markText_any (q + 1) W (by omega) (by omega)
      simp only [show ((q + 1 : Nat) : Int) = (q : Int) + 1 from by omega] at hm1
      obtain ⟨hcb, hfb⟩ := bcell hb
      have hr1 := (hb.cell (p := ⟨b, off + i * 2 + 1, none⟩) hbb).trans hc1
      go_wp2_with fail
      go_region_held3 (fun W => Below w.heap.size w W ∧ W.cell? ⟨b, off + i * 2 + 1, none⟩ = some (.string (mtxt (q + 1)))) (first | exact keepS hc1 hbb (Below.drew hb) | exact keepS hc1 hbb (below_step (Below.drew hb) hx)) (first | (go_at_call 73; refine (hm1 _).mono ?_; rintro e w1 ⟨rfl, hx⟩))
      replace hb := below_step (Below.drew hb) hx
      go_wp2
      go_roundw
      case rel => exact ⟨i + 1, q + 2, by omega, by omega, by go_num, by go_num, hb⟩
      case measure => (simp [intOf] <;> omega)
    · obtain rfl : i = n := by omega
      go_wp2
      go_ret
      exact ⟨ret_int (by omega), hb⟩
end Go.Proofs.Ytepipnigcgpncaa
