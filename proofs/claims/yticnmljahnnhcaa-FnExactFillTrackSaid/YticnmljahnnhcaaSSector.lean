/- Walks of the helpers in laws: Sector. Printed by mk_leaf.py. -/
import Derived.Test.YticnmljahnnhcaaMem4
import Derived.Test.YticnmljahnnhcaaW2
import Derived.Deep.DeepMust
import Derived.StillTailTactics
import Derived.OpenShut
import Derived.Test.YticnmljahnnhcaaMark
import Derived.Lib.SmallJoins
namespace Go.Proofs.Yticnmljahnnhcaa
open Go.RowKit Go.ChangeShapes Go.WideShapes Go.Deep

structure DSector where
  f0 : ByteArray
  f1 : Int
def fSector (x : DSector) : List Value := [.string x.f0, .int .i64 x.f1]
theorem fSector_len (x : DSector) : (fSector x).length = 2 := rfl
def vSector (x : DSector) : Value := .agg #[.string x.f0, .int .i64 x.f1]
def zSector (x : DSector) : List Nat := [x.f0.size]
def okSector (x : DSector) : Prop := x.f0.size ≤ maxLen ∧ (-9223372036854775808 ≤ x.f1 ∧ x.f1 ≤ 9223372036854775807)

set_option maxRecDepth 100000 in
set_option maxHeartbeats 1000000 in
theorem toSector_any (a0 : ByteArray) (a1 : Int) (w : World) :
    Calls Try.prog 136 #[.agg #[.string a0, .int .i64 a1]] w fun e w' => e = .returned (.agg #[.string a0, .int .i64 a1]) ∧ Below w.heap.size w w' := by
  go_enter Try.func136, Try.ntmps136
  go_wp2
  exact bodyPost_ret (v := .agg #[.string a0, .int .i64 a1]) (by simp [results, Try.results136, go_sem]) rfl ⟨rfl, (by repeat (first | exact Below.refl _ _ | refine below_step ?_ (by assumption) | assumption | refine Below.drew ?_ | refine below_drewN ?_ _ | refine below_alloc ?_ _ | refine Below.setCell ?_ (by simp; try omega) _))⟩

theorem eltSector : Elt Try.prog 24 39 2 24 (.agg #[.string ByteArray.empty, .int .i64 0]) := Elt.mk' Try.underlying24 (by kernel_rfl) rfl (by decide)

set_option maxRecDepth 100000 in
set_option maxHeartbeats 1000000 in
theorem toSectorS_any (A : Option Addr) (c : Nat) (l : List DSector) (w : World) (h : Rd w w.heap.size 2 A l.length (flat fSector l)) (hn : l.length ≤ 1048576) :
    Calls Try.prog 96 #[.slice A l.length c] w fun e w' => ∃ v, e = .returned v ∧ w'.ownsRow w.heap.size 39 2 v l.length (flat fSector l) ∧ Below w.heap.size w w' := by
  have hmk := fun W => eltSector.make l.length (by omega) (by omega) W
  have hfl := flat_length fSector 2 fSector_len l
  go_enter Try.func96, Try.ntmps96
  go_wp2
  go_loopw [4] (fun i wr => ∃ k : Nat, k ≤ l.length ∧ i = .int .i64 k ∧ FillC wr w.heap.size 39 (l.length * 2) (flat fSector l) (k * 2) ∧ Below w.heap.size w wr) (fun i _ => l.length - (intOf i).toNat)
  case atStart => exact ⟨0, Nat.zero_le _, rfl, FillC.made w _ _ _ _, below_alloc (Below.refl _ _) _⟩
  case round =>
    obtain ⟨k, hk, rfl, hf, hb⟩ := hrel
    by_cases hlt : k < l.length
    · obtain ⟨b, off, rfl, hbb, hc⟩ := (h.below hb).at_ fSector_len rfl k hlt
      have hc0 := hc 0 _ (by omega) rfl
      have hc1 := hc 1 _ (by omega) rfl
      clear hc
      simp only [← Nat.add_assoc, Nat.add_zero] at hc0 hc1
      go_wp2_with (go_at_call 136; go_must (refine (toSector_any l[k].f0 l[k].f1 _).mono ?_); rintro e w1 ⟨rfl, hx⟩; replace hf := hf.below hx hf.lt; replace hb := below_step hb hx; obtain ⟨u0, hu0⟩ := hf.some_ (k * 2 + 0) (by omega); have hfz0 := hf.free (k * 2 + 0); obtain ⟨u1, hu1⟩ := hf.some_ (k * 2 + 1) (by omega); have hfz1 := hf.free (k * 2 + 1); simp only [Nat.add_zero] at hu0 hfz0)
      have hx0 : (flat fSector l)[k * 2 + 0]? = some (.string l[k].f0) := flat_get fSector 2 fSector_len l k 0 hlt (by omega)
      have hx1 : (flat fSector l)[k * 2 + 1]? = some (.int .i64 l[k].f1) := flat_get fSector 2 fSector_len l k 1 hlt (by omega)
      have hp0 := hf.put _ (by omega) (by simpa using hx0)
      have hp1 := hp0.put _ (by omega) hx1
      go_roundw
      case rel => exact ⟨k + 1, by omega, by go_num, by rw [show (k + 1) * 2 = k * 2 + 2 by omega]; exact hp1, (by repeat (first | exact Below.refl _ _ | refine below_step ?_ (by assumption) | assumption | refine Below.drew ?_ | refine below_drewN ?_ _ | refine below_alloc ?_ _ | refine Below.setCell ?_ (by simp; try omega) _))⟩
      case measure => (simp [intOf] <;> omega)
    · obtain rfl : k = l.length := by omega
      have hown := hf.own (base := w.heap.size) (size := 2) (n := l.length) (by omega) (by omega) (Nat.le_refl _) (by simp only [maxLen]; omega)
      go_wp2
      go_ret
      exact ⟨_, rfl, hown, hb⟩

set_option maxRecDepth 100000 in
set_option maxHeartbeats 1000000 in
theorem szSector_any (a0 : ByteArray) (a1 : Int) (left : Int) (w : World) (h0 : 0 ≤ left) (h1 : left ≤ 1048576) (hs0 : a0.size ≤ maxLen) :
    Calls Try.prog 135 #[.agg #[.string a0, .int .i64 a1], .int .i64 left] w fun e w' => e = .returned (.int .i64 (subs left [a0.size])) ∧ Below w.heap.size w w' := by
  unfold maxLen at *
  go_enter Try.func135, Try.ntmps135
  go_wp2
  all_goals go_ret
  all_goals exact ⟨ret_int (by simp only [subs]; repeat' (first | omega | split)), (by repeat (first | exact Below.refl _ _ | refine below_step ?_ (by assumption) | assumption | refine Below.drew ?_ | refine below_drewN ?_ _ | refine below_alloc ?_ _ | refine Below.setCell ?_ (by simp; try omega) _))⟩

def tzSector (l : List DSector) : List Nat := l.length :: (l.map zSector).flatten
theorem zSector_drop (l : List DSector) (k : Nat) (hk : k < l.length) : ((l.drop k).map zSector).flatten = zSector l[k] ++ ((l.drop (k + 1)).map zSector).flatten := by
  rw [List.drop_eq_getElem_cons hk, List.map_cons, List.flatten_cons]
set_option maxRecDepth 100000 in
set_option maxHeartbeats 1000000 in
theorem szSectorS_any (A : Option Addr) (c : Nat) (l : List DSector) (left : Int) (w : World) (h : Rd w w.heap.size 2 A l.length (flat fSector l)) (hn : l.length ≤ maxLen) (h0 : 0 ≤ left) (h1 : left ≤ 1048576) (hok : ∀ x ∈ l, okSector x) :
    Calls Try.prog 94 #[.slice A l.length c, .int .i64 left] w fun e w' => e = .returned (.int .i64 (subs left (tzSector l))) ∧ Below w.heap.size w w' := by
  unfold maxLen at hn
  by_cases hneg : left - l.length < 0
  · have HR := Lib.hid (show subs left (tzSector l) = -1 from by simp only [tzSector, subs, if_pos hneg])
    go_enter Try.func94, Try.ntmps94
    go_wp2
    go_ret
    exact ⟨ret_int (by rw [HR.out]), Below.refl _ _⟩
  have HS := Lib.hid (show subs (left - l.length) ((l.drop 0).map zSector).flatten = subs left (tzSector l) from by simp only [tzSector, subs, if_neg hneg, List.drop_zero])
  go_enter Try.func94, Try.ntmps94
  go_wp2
  go_loopw [1, 5] (fun m i wr => ∃ (k : Nat) (x : Int), k ≤ l.length ∧ i = .int .i64 k ∧ m = .int .i64 x ∧ 0 ≤ x ∧ x ≤ 1048576 ∧ Below w.heap.size w wr ∧ Hid (subs x ((l.drop k).map zSector).flatten = subs left (tzSector l))) (fun _ i _ => l.length - (intOf i).toNat)
  case atStart => exact ⟨0, left - l.length, Nat.zero_le _, rfl, rfl, by omega, by omega, Below.refl _ _, HS⟩
  case round =>
    obtain ⟨k, x, hk, rfl, rfl, hx0, hx1, hb, HI⟩ := hrel
    by_cases hlt : k < l.length
    · obtain ⟨b, off, rfl, hbb, hc⟩ := (h.below hb).at_ fSector_len rfl k hlt
      have hokk := hok l[k] (List.getElem_mem hlt)
      have hs0 : l[k].f0.size ≤ maxLen := hokk.1
      have hc0 := hc 0 _ (by omega) rfl
      have hc1 := hc 1 _ (by omega) rfl
      clear hc
      simp only [← Nat.add_assoc, Nat.add_zero] at hc0 hc1
      have HA := Lib.hid (show (if subs x (zSector l[k]) < 0 then -1 else subs (subs x (zSector l[k])) ((l.drop (k + 1)).map zSector).flatten) = subs left (tzSector l) from by rw [← HI.out, zSector_drop l k hlt, subs_append _ _ _ hx0])
      rcases subs_cases (zSector l[k]) x hx0 with hq | ⟨hq, hq0⟩
      · have HQ := Lib.hid hq
        have HR := Lib.hid (show -1 = subs left (tzSector l) from by rw [← HA.out, hq]; rfl)
        clear hq
        go_wp2_with (go_at_call 135; refine (szSector_any l[k].f0 l[k].f1 x _ hx0 hx1 hs0).mono ?_; rintro e w1 ⟨rfl, hx⟩; rw [show subs x [l[k].f0.size] = -1 from HQ.out]; replace hb := below_step hb hx)
        go_ret
        exact ⟨ret_int HR.out, hb⟩
      · have HQ := Lib.hid hq
        have HR := Lib.hid (show subs (x - ((zSector l[k]).sum : Nat)) ((l.drop (k + 1)).map zSector).flatten = subs left (tzSector l) from by rw [← HA.out, hq, if_neg (by omega)])
        clear hq
        generalize hsum : x - ((zSector l[k]).sum : Nat) = y at *
        have hy : y ≤ 1048576 := by omega
        clear hsum
        go_wp2_with (go_at_call 135; refine (szSector_any l[k].f0 l[k].f1 x _ hx0 hx1 hs0).mono ?_; rintro e w1 ⟨rfl, hx⟩; rw [show subs x [l[k].f0.size] = y from HQ.out]; replace hb := below_step hb hx)
        go_roundw
        case rel => exact ⟨k + 1, y, by omega, by go_num, rfl, hq0, hy, hb, HR⟩
        case measure => (simp [intOf] <;> omega)
    · have HR := Lib.hid (show x = subs left (tzSector l) from by rw [← HI.out, List.drop_eq_nil_of_le (by omega)]; rfl)
      go_wp2
      go_ret
      exact ⟨ret_int HR.out, hb⟩

set_option maxRecDepth 100000 in
set_option maxHeartbeats 1000000 in
theorem eqSector_any (a0 : ByteArray) (a1 : Int) (w : World) :
    Calls Try.prog 138 #[.agg #[.string a0, .int .i64 a1], .agg #[.string a0, .int .i64 a1]] w fun e w' => e = .returned (.bool true) ∧ Below w.heap.size w w' := by
  go_enter Try.func138, Try.ntmps138
  go_wp2
  go_ret
  exact ⟨rfl, (by repeat (first | exact Below.refl _ _ | refine below_step ?_ (by assumption) | assumption | refine Below.drew ?_ | refine below_drewN ?_ _ | refine below_alloc ?_ _ | refine Below.setCell ?_ (by simp; try omega) _))⟩

set_option maxRecDepth 100000 in
set_option maxHeartbeats 1000000 in
theorem eqSectorS_any (A A' : Option Addr) (c c' : Nat) (l : List DSector) (w : World) (h : Rd w w.heap.size 2 A l.length (flat fSector l)) (h' : Rd w w.heap.size 2 A' l.length (flat fSector l)) (hn : l.length ≤ 1048576) :
    Calls Try.prog 100 #[.slice A l.length c, .slice A' l.length c'] w fun e w' => e = .returned (.bool true) ∧ Below w.heap.size w w' := by
  go_enter Try.func100, Try.ntmps100
  go_wp2
  go_loopw [5] (fun i wr => ∃ k : Nat, k ≤ l.length ∧ i = .int .i64 k ∧ Below w.heap.size w wr) (fun i _ => l.length - (intOf i).toNat)
  case atStart => exact ⟨0, Nat.zero_le _, rfl, Below.refl _ _⟩
  case round =>
    obtain ⟨k, hk, rfl, hb⟩ := hrel
    by_cases hlt : k < l.length
    · obtain ⟨b, off, rfl, hbb, hc⟩ := (h.below hb).at_ fSector_len rfl k hlt
      obtain ⟨b', off', rfl, hbb', hd⟩ := (h'.below hb).at_ fSector_len rfl k hlt
      have hc0 := hc 0 _ (by omega) rfl
      have hd0 := hd 0 _ (by omega) rfl
      have hc1 := hc 1 _ (by omega) rfl
      have hd1 := hd 1 _ (by omega) rfl
      clear hc hd
      simp only [← Nat.add_assoc, Nat.add_zero] at hc0 hd0 hc1 hd1
      go_wp2_with fail
      go_still_tail 8, (by kernel_rfl)
      change wpList _ _ _ _ _ wr.drew
      replace hb := Below.drew hb
      generalize wr.drew = w2 at hb ⊢
      go_wp2_with (go_at_call 138; refine (eqSector_any l[k].f0 l[k].f1 _).mono ?_; rintro e w1 ⟨rfl, hx⟩; replace hb := below_step hb hx)
      go_roundw
      case rel => exact ⟨k + 1, by omega, by go_num, hb⟩
      case measure => (simp [intOf] <;> omega)
    · go_wp2
      go_ret
      exact ⟨rfl, hb⟩

set_option maxRecDepth 100000 in
theorem openSector {H : Type} {enc : TypeId × Value → H} {w : World} {fuel : Nat} {cs : List Value} {x : DataW H × List MemPlace} (h : DataW.trod enc Try.prog w 0 (fun _ => true) true fuel 187 cs = some x) :
    ∃ a : DSector, cs = fSector a ∧ okSector a := by
  obtain ⟨xs, m, rfl, rfl, hl, hxl, hf⟩ := DataW.trod_struct Try.underlying187 h
  rw [show Try.prog.cellsOf 187 = 2 from by kernel_rfl] at hl
  replace hxl : xs.length = 2 := hxl
  obtain ⟨c0, c1, rfl⟩ : ∃ c0 c1, cs = [c0, c1] := by
    match cs, hl with | [c0, c1], _ => exact ⟨c0, c1, rfl⟩
  have g0 : DataW.trod enc Try.prog w 0 (fun _ => true) true m 9 [c0] = xs[0]? := by
    have := hf 0 _ rfl
    rw [show Try.prog.cellsOf _ = 1 from by kernel_rfl] at this
    exact this
  rw [List.getElem?_eq_getElem (by omega)] at g0
  obtain ⟨a0, e0, _, w0⟩ := DataW.trod_string Try.underlying9 g0
  simp only [List.cons.injEq, and_true] at e0
  subst e0
  have g1 : DataW.trod enc Try.prog w 0 (fun _ => true) true m 2 [c1] = xs[1]? := by
    have := hf 1 _ rfl
    rw [show Try.prog.cellsOf _ = 1 from by kernel_rfl] at this
    exact this
  rw [List.getElem?_eq_getElem (by omega)] at g1
  obtain ⟨a1, e1, _, w1⟩ := DataW.trod_int Try.underlying2 g1
  simp only [List.cons.injEq, and_true] at e1
  subst e1
  have r1 : -9223372036854775808 ≤ a1 ∧ a1 ≤ 9223372036854775807 := by
    simp only [Lit.wf, Bool.and_eq_true, decide_eq_true_eq] at w1
    exact w1
  exact ⟨⟨a0, a1⟩, rfl, w0, r1⟩

def mqSector (q : Nat) : DSector := ⟨mtxt (q), (q : Int) + 1⟩
def mksSector (k m : Nat) : List DSector := (List.range m).map fun i => mqSector (k + 2 * i)
theorem mksSector_len (k m : Nat) : (mksSector k m).length = m := by simp [mksSector]
theorem mksSector_succ (k m : Nat) : mksSector k (m + 1) = mksSector k m ++ [mqSector (k + 2 * m)] := by simp [mksSector, List.range_succ]
theorem mksSector_get (k m i : Nat) (h : i < (mksSector k m).length) : (mksSector k m)[i] = mqSector (k + 2 * i) := by simp [mksSector]
theorem mksSector_put (k m : Nat) (l : List DSector) (h : m < l.length) : putV (flat fSector (mksSector k m ++ l.drop m)) (m * 2) (fSector (mqSector (k + 2 * m))) = flat fSector (mksSector k (m + 1) ++ l.drop (m + 1)) := by
  have := flat_put fSector 2 fSector_len (mksSector k m) (l.drop (m + 1)) l[m] (mqSector (k + 2 * m))
  rw [mksSector_len] at this
  rw [List.drop_eq_getElem_cons h, this, mksSector_succ, List.append_assoc]
  rfl

set_option maxRecDepth 100000 in
set_option maxHeartbeats 1000000 in
theorem markSectorS_any (A : Option Addr) (c k : Nat) (l : List DSector) (w : World) (base : Nat) (h : w.ownsRow base 39 2 (.slice A l.length c) l.length (flat fSector l)) (hk1 : 1 ≤ k) (hk2 : k ≤ 10000000000) (hl : l.length ≤ 10000000000) :
    Calls Try.prog 101 #[.slice A l.length c, .int .i64 (k : Int)] w fun e w' => e = .returned (.int .i64 ((k + 2 * l.length : Nat) : Int)) ∧ w'.ownsRow base 39 2 (.slice A l.length c) l.length (flat fSector (mksSector k l.length)) ∧ w.grownBy w' (Value.slice A l.length c).ownBlock := by
  go_enter Try.func101, Try.ntmps101
  go_wp2
  go_loopw [1, 5] (fun kk i wr => ∃ m q : Nat, m ≤ l.length ∧ k + 2 * m = q ∧ i = .int .i64 m ∧ kk = .int .i64 q ∧ wr.ownsRow base 39 2 (.slice A l.length c) l.length (flat fSector (mksSector k m ++ l.drop m)) ∧ w.grownBy wr (Value.slice A l.length c).ownBlock) (fun _ i _ => l.length - (intOf i).toNat)
  case atStart => exact ⟨0, k, Nat.zero_le _, by omega, rfl, rfl, h, World.grownBy.refl _ _⟩
  case round =>
    obtain ⟨m, q, hm, hq, rfl, rfl, ho, hg⟩ := hrel
    by_cases hlt : m < l.length
    · obtain ⟨g, cap, hv⟩ := Go.Joins.ownsRow_form ho (by omega)
      cases hv
      have hput := mksSector_put k m l hlt
      rw [hq] at hput
      have hm0 := fun W => markText_any q W (by omega) (by omega)

      go_wp2_with (first
        | (go_at_call 112; refine (hm0 _).mono ?_; rintro e w10 ⟨rfl, hx⟩; replace hg := hg.trans (only_of_below hx _); replace ho := own_later ho hx (Nat.le_refl _); obtain ⟨u0, hu0⟩ := own_some ho (m * 2 + 0) (by omega); have hz0 := World.ownsRow.frozenAt ho (m * 2 + 0); obtain ⟨u1, hu1⟩ := own_some ho (m * 2 + 1) (by omega); have hz1 := World.ownsRow.frozenAt ho (m * 2 + 1); simp only [Nat.add_zero] at hu0 hz0; have mark1 := True.intro))
      go_roundw
      case rel =>
        refine ⟨m + 1, q + 2, by omega, by omega, by go_num, by go_num, ?_, ((hg.trans (World.ownsRow.stored ho _ _).2).trans (World.ownsRow.stored (World.ownsRow.stored ho _ _).1 _ _).2)⟩
        rw [← hput]
        exact (World.ownsRow.stored (World.ownsRow.stored ho _ _).1 _ _).1
      case measure => (simp [intOf] <;> omega)
    · obtain rfl : m = l.length := by omega
      rw [List.drop_length, List.append_nil] at ho
      go_wp2
      go_ret
      exact ⟨ret_int (by omega), ho, hg⟩

set_option maxRecDepth 100000 in
set_option maxHeartbeats 1000000 in
theorem heldSectorS_any (A : Option Addr) (c k n : Nat) (w : World) (h : Rd w w.heap.size 2 A n (flat fSector (mksSector k n))) (hk1 : 1 ≤ k) (hk2 : k ≤ 10000000000) (hl : n ≤ 10000000000) :
    Calls Try.prog 113 #[.slice A n c, .int .i64 (k : Int)] w fun e w' => e = .returned (.int .i64 ((k + 2 * n : Nat) : Int)) ∧ Below w.heap.size w w' := by
  go_enter Try.func113, Try.ntmps113
  go_wp2
  go_loopw [1, 5] (fun kk i wr => ∃ i' q : Nat, i' ≤ n ∧ k + 2 * i' = q ∧ i = .int .i64 i' ∧ kk = .int .i64 q ∧ Below w.heap.size w wr) (fun _ i _ => n - (intOf i).toNat)
  case atStart => exact ⟨0, k, Nat.zero_le _, by omega, rfl, rfl, Below.refl _ _⟩
  case round =>
    obtain ⟨i, q, hi, hq, rfl, rfl, hb⟩ := hrel
    by_cases hlt : i < n
    · obtain ⟨b, off, rfl, hbb, hc⟩ := h.at_ fSector_len (mksSector_len k n).symm i hlt
      have hc0 := hc 0 (.string (mtxt (q))) (by omega) (by rw [mksSector_get, hq]; rfl)
      have hc1 := hc 1 (.int .i64 ((q : Int) + 1)) (by omega) (by rw [mksSector_get, hq]; rfl)
      clear hc
      simp only [← Nat.add_assoc, Nat.add_zero] at hc0 hc1
      have hm0 := fun W => markText_any q W (by omega) (by omega)
      obtain ⟨hcb, hfb⟩ := bcell hb
      have hr0 := (hb.cell (p := ⟨b, off + i * 2, none⟩) hbb).trans hc0
      go_wp2_with fail
      go_region_held3 (fun W => Below w.heap.size w W ∧ W.cell? ⟨b, off + i * 2, none⟩ = some (.string (mtxt (q)))) (first | exact keepS hc0 hbb (Below.drew hb) | exact keepS hc0 hbb (below_step (Below.drew hb) hx)) (first | (go_at_call 112; refine (hm0 _).mono ?_; rintro e w0 ⟨rfl, hx⟩))
      replace hb := below_step (Below.drew hb) hx
      clear hcb hfb
      obtain ⟨hcb, hfb⟩ := bcell hb
      go_wp2
      go_roundw
      case rel => exact ⟨i + 1, q + 2, by omega, by omega, by go_num, by go_num, hb⟩
      case measure => (simp [intOf] <;> omega)
    · obtain rfl : i = n := by omega
      go_wp2
      go_ret
      exact ⟨ret_int (by omega), hb⟩
end Go.Proofs.Yticnmljahnnhcaa
