/- Walks of the helpers in laws: SectorSpec. Printed by mk_leaf.py. -/
import Derived.Test.YtkhmchifejfinaaMem4
import Derived.Test.YtkhmchifejfinaaW2
import Derived.Deep.DeepMust
import Derived.StillTailTactics
import Derived.OpenShut
import Derived.Test.YtkhmchifejfinaaMark
import Derived.Lib.SmallJoins
namespace Go.Proofs.Ytkhmchifejfinaa
open Go.RowKit Go.ChangeShapes Go.WideShapes Go.Deep

structure DSectorSpec where
  f0 : Int
  f1 : Int
  f2 : Int
  f3 : Int
  f4 : ByteArray
  f5 : Bool
  f6 : Bool
  f7 : Bool
def fSectorSpec (x : DSectorSpec) : List Value := [.int .i64 x.f0, .int .i64 x.f1, .int .i64 x.f2, .int .i64 x.f3, .string x.f4, .bool x.f5, .bool x.f6, .bool x.f7]
theorem fSectorSpec_len (x : DSectorSpec) : (fSectorSpec x).length = 8 := rfl
def vSectorSpec (x : DSectorSpec) : Value := .agg #[.int .i64 x.f0, .int .i64 x.f1, .int .i64 x.f2, .int .i64 x.f3, .string x.f4, .bool x.f5, .bool x.f6, .bool x.f7]
def zSectorSpec (x : DSectorSpec) : List Nat := [x.f4.size]
def okSectorSpec (x : DSectorSpec) : Prop := x.f4.size ≤ maxLen ∧ (-9223372036854775808 ≤ x.f0 ∧ x.f0 ≤ 9223372036854775807) ∧ (-9223372036854775808 ≤ x.f1 ∧ x.f1 ≤ 9223372036854775807) ∧ (-9223372036854775808 ≤ x.f2 ∧ x.f2 ≤ 9223372036854775807) ∧ (-9223372036854775808 ≤ x.f3 ∧ x.f3 ≤ 9223372036854775807)

set_option maxRecDepth 100000 in
set_option maxHeartbeats 1000000 in
theorem toSectorSpec_any (a0 : Int) (a1 : Int) (a2 : Int) (a3 : Int) (a4 : ByteArray) (a5 : Bool) (a6 : Bool) (a7 : Bool) (w : World) :
    Calls Try.prog 30 #[.agg #[.int .i64 a0, .int .i64 a1, .int .i64 a2, .int .i64 a3, .string a4, .bool a5, .bool a6, .bool a7]] w fun e w' => e = .returned (.agg #[.int .i64 a0, .int .i64 a1, .int .i64 a2, .int .i64 a3, .string a4, .bool a5, .bool a6, .bool a7]) ∧ Below w.heap.size w w' := by
  go_enter Try.func30, Try.ntmps30
  go_wp2
  exact bodyPost_ret (v := .agg #[.int .i64 a0, .int .i64 a1, .int .i64 a2, .int .i64 a3, .string a4, .bool a5, .bool a6, .bool a7]) (by simp [results, Try.results30, go_sem]) rfl ⟨rfl, (by repeat (first | exact Below.refl _ _ | refine below_step ?_ (by assumption) | assumption | refine Below.drew ?_ | refine below_drewN ?_ _ | refine below_alloc ?_ _ | refine Below.setCell ?_ (by simp; try omega) _))⟩

theorem eltSectorSpec : Elt Try.prog 28 45 8 56 (.agg #[.int .i64 0, .int .i64 0, .int .i64 0, .int .i64 0, .string ByteArray.empty, .bool false, .bool false, .bool false]) := Elt.mk' Try.underlying28 (by kernel_rfl) rfl (by decide)

set_option maxRecDepth 100000 in
set_option maxHeartbeats 8000000 in
theorem toSectorSpecS_any (A : Option Addr) (c : Nat) (l : List DSectorSpec) (w : World) (h : Rd w w.heap.size 8 A l.length (flat fSectorSpec l)) (hn : l.length ≤ 1048576) :
    Calls Try.prog 18 #[.slice A l.length c] w fun e w' => ∃ v, e = .returned v ∧ w'.ownsRow w.heap.size 45 8 v l.length (flat fSectorSpec l) ∧ Below w.heap.size w w' := by
  have hmk := fun W => eltSectorSpec.make l.length (by omega) (by omega) W
  have hfl := flat_length fSectorSpec 8 fSectorSpec_len l
  go_enter Try.func18, Try.ntmps18
  go_wp2
  go_loopw [4] (fun i wr => ∃ k : Nat, k ≤ l.length ∧ i = .int .i64 k ∧ FillC wr w.heap.size 45 (l.length * 8) (flat fSectorSpec l) (k * 8) ∧ Below w.heap.size w wr) (fun i _ => l.length - (intOf i).toNat)
  case atStart => exact ⟨0, Nat.zero_le _, rfl, FillC.made w _ _ _ _, below_alloc (Below.refl _ _) _⟩
  case round =>
    obtain ⟨k, hk, rfl, hf, hb⟩ := hrel
    by_cases hlt : k < l.length
    · obtain ⟨b, off, rfl, hbb, hc⟩ := (h.below hb).at_ fSectorSpec_len rfl k hlt
      have hc0 := hc 0 _ (by omega) rfl
      have hc1 := hc 1 _ (by omega) rfl
      have hc2 := hc 2 _ (by omega) rfl
      have hc3 := hc 3 _ (by omega) rfl
      have hc4 := hc 4 _ (by omega) rfl
      have hc5 := hc 5 _ (by omega) rfl
      have hc6 := hc 6 _ (by omega) rfl
      have hc7 := hc 7 _ (by omega) rfl
      clear hc
      simp only [← Nat.add_assoc, Nat.add_zero] at hc0 hc1 hc2 hc3 hc4 hc5 hc6 hc7
      go_wp2_with (go_at_call 30; go_must (refine (toSectorSpec_any l[k].f0 l[k].f1 l[k].f2 l[k].f3 l[k].f4 l[k].f5 l[k].f6 l[k].f7 _).mono ?_); rintro e w1 ⟨rfl, hx⟩; replace hf := hf.below hx hf.lt; replace hb := below_step hb hx; obtain ⟨u0, hu0⟩ := hf.some_ (k * 8 + 0) (by omega); have hfz0 := hf.free (k * 8 + 0); obtain ⟨u1, hu1⟩ := hf.some_ (k * 8 + 1) (by omega); have hfz1 := hf.free (k * 8 + 1); obtain ⟨u2, hu2⟩ := hf.some_ (k * 8 + 2) (by omega); have hfz2 := hf.free (k * 8 + 2); obtain ⟨u3, hu3⟩ := hf.some_ (k * 8 + 3) (by omega); have hfz3 := hf.free (k * 8 + 3); obtain ⟨u4, hu4⟩ := hf.some_ (k * 8 + 4) (by omega); have hfz4 := hf.free (k * 8 + 4); obtain ⟨u5, hu5⟩ := hf.some_ (k * 8 + 5) (by omega); have hfz5 := hf.free (k * 8 + 5); obtain ⟨u6, hu6⟩ := hf.some_ (k * 8 + 6) (by omega); have hfz6 := hf.free (k * 8 + 6); obtain ⟨u7, hu7⟩ := hf.some_ (k * 8 + 7) (by omega); have hfz7 := hf.free (k * 8 + 7); simp only [Nat.add_zero] at hu0 hfz0)
      have hx0 : (flat fSectorSpec l)[k * 8 + 0]? = some (.int .i64 l[k].f0) := flat_get fSectorSpec 8 fSectorSpec_len l k 0 hlt (by omega)
      have hx1 : (flat fSectorSpec l)[k * 8 + 1]? = some (.int .i64 l[k].f1) := flat_get fSectorSpec 8 fSectorSpec_len l k 1 hlt (by omega)
      have hx2 : (flat fSectorSpec l)[k * 8 + 2]? = some (.int .i64 l[k].f2) := flat_get fSectorSpec 8 fSectorSpec_len l k 2 hlt (by omega)
      have hx3 : (flat fSectorSpec l)[k * 8 + 3]? = some (.int .i64 l[k].f3) := flat_get fSectorSpec 8 fSectorSpec_len l k 3 hlt (by omega)
      have hx4 : (flat fSectorSpec l)[k * 8 + 4]? = some (.string l[k].f4) := flat_get fSectorSpec 8 fSectorSpec_len l k 4 hlt (by omega)
      have hx5 : (flat fSectorSpec l)[k * 8 + 5]? = some (.bool l[k].f5) := flat_get fSectorSpec 8 fSectorSpec_len l k 5 hlt (by omega)
      have hx6 : (flat fSectorSpec l)[k * 8 + 6]? = some (.bool l[k].f6) := flat_get fSectorSpec 8 fSectorSpec_len l k 6 hlt (by omega)
      have hx7 : (flat fSectorSpec l)[k * 8 + 7]? = some (.bool l[k].f7) := flat_get fSectorSpec 8 fSectorSpec_len l k 7 hlt (by omega)
      have hp0 := hf.put _ (by omega) (by simpa using hx0)
      have hp1 : FillC _ _ _ _ _ (k * 8 + 2) := hp0.put _ (by omega) hx1
      have hp2 : FillC _ _ _ _ _ (k * 8 + 3) := hp1.put _ (by omega) hx2
      have hp3 : FillC _ _ _ _ _ (k * 8 + 4) := hp2.put _ (by omega) hx3
      have hp4 : FillC _ _ _ _ _ (k * 8 + 5) := hp3.put _ (by omega) hx4
      have hp5 : FillC _ _ _ _ _ (k * 8 + 6) := hp4.put _ (by omega) hx5
      have hp6 : FillC _ _ _ _ _ (k * 8 + 7) := hp5.put _ (by omega) hx6
      have hp7 : FillC _ _ _ _ _ (k * 8 + 8) := hp6.put _ (by omega) hx7
      go_roundw
      case rel => exact ⟨k + 1, by omega, by go_num, by rw [show (k + 1) * 8 = k * 8 + 8 by omega]; exact hp7, (by with_reducible repeat (first | exact Below.refl _ _ | assumption | refine below_step ?_ (by assumption) | refine Below.drew ?_ | refine below_drewN ?_ _ | refine below_alloc ?_ _ | refine Below.setCell ?_ (by simp; try omega) _))⟩
      case measure => (simp [intOf] <;> omega)
    · obtain rfl : k = l.length := by omega
      have hown := hf.own (base := w.heap.size) (size := 8) (n := l.length) (by omega) (by omega) (Nat.le_refl _) (by simp only [maxLen]; omega)
      go_wp2
      go_ret
      exact ⟨_, rfl, hown, hb⟩

set_option maxRecDepth 100000 in
set_option maxHeartbeats 1000000 in
theorem szSectorSpec_any (a0 : Int) (a1 : Int) (a2 : Int) (a3 : Int) (a4 : ByteArray) (a5 : Bool) (a6 : Bool) (a7 : Bool) (left : Int) (w : World) (h0 : 0 ≤ left) (h1 : left ≤ 1048576) (hs4 : a4.size ≤ maxLen) :
    Calls Try.prog 27 #[.agg #[.int .i64 a0, .int .i64 a1, .int .i64 a2, .int .i64 a3, .string a4, .bool a5, .bool a6, .bool a7], .int .i64 left] w fun e w' => e = .returned (.int .i64 (subs left [a4.size])) ∧ Below w.heap.size w w' := by
  unfold maxLen at *
  go_enter Try.func27, Try.ntmps27
  go_wp2
  all_goals go_ret
  all_goals exact ⟨ret_int (by simp only [subs]; repeat' (first | omega | split)), (by repeat (first | exact Below.refl _ _ | refine below_step ?_ (by assumption) | assumption | refine Below.drew ?_ | refine below_drewN ?_ _ | refine below_alloc ?_ _ | refine Below.setCell ?_ (by simp; try omega) _))⟩

def tzSectorSpec (l : List DSectorSpec) : List Nat := l.length :: (l.map zSectorSpec).flatten
theorem zSectorSpec_drop (l : List DSectorSpec) (k : Nat) (hk : k < l.length) : ((l.drop k).map zSectorSpec).flatten = zSectorSpec l[k] ++ ((l.drop (k + 1)).map zSectorSpec).flatten := by
  rw [List.drop_eq_getElem_cons hk, List.map_cons, List.flatten_cons]
set_option maxRecDepth 100000 in
set_option maxHeartbeats 1000000 in
theorem szSectorSpecS_any (A : Option Addr) (c : Nat) (l : List DSectorSpec) (left : Int) (w : World) (h : Rd w w.heap.size 8 A l.length (flat fSectorSpec l)) (hn : l.length ≤ maxLen) (h0 : 0 ≤ left) (h1 : left ≤ 1048576) (hok : ∀ x ∈ l, okSectorSpec x) :
    Calls Try.prog 12 #[.slice A l.length c, .int .i64 left] w fun e w' => e = .returned (.int .i64 (subs left (tzSectorSpec l))) ∧ Below w.heap.size w w' := by
  unfold maxLen at hn
  by_cases hneg : left - l.length < 0
  · have HR := Lib.hid (show subs left (tzSectorSpec l) = -1 from by simp only [tzSectorSpec, subs, if_pos hneg])
    go_enter Try.func12, Try.ntmps12
    go_wp2
    go_ret
    exact ⟨ret_int (by rw [HR.out]), Below.refl _ _⟩
  have HS := Lib.hid (show subs (left - l.length) ((l.drop 0).map zSectorSpec).flatten = subs left (tzSectorSpec l) from by simp only [tzSectorSpec, subs, if_neg hneg, List.drop_zero])
  go_enter Try.func12, Try.ntmps12
  go_wp2
  go_loopw [1, 5] (fun m i wr => ∃ (k : Nat) (x : Int), k ≤ l.length ∧ i = .int .i64 k ∧ m = .int .i64 x ∧ 0 ≤ x ∧ x ≤ 1048576 ∧ Below w.heap.size w wr ∧ Hid (subs x ((l.drop k).map zSectorSpec).flatten = subs left (tzSectorSpec l))) (fun _ i _ => l.length - (intOf i).toNat)
  case atStart => exact ⟨0, left - l.length, Nat.zero_le _, rfl, rfl, by omega, by omega, Below.refl _ _, HS⟩
  case round =>
    obtain ⟨k, x, hk, rfl, rfl, hx0, hx1, hb, HI⟩ := hrel
    by_cases hlt : k < l.length
    · obtain ⟨b, off, rfl, hbb, hc⟩ := (h.below hb).at_ fSectorSpec_len rfl k hlt
      have hokk := hok l[k] (List.getElem_mem hlt)
      have hs4 : l[k].f4.size ≤ maxLen := hokk.1
      have hc0 := hc 0 _ (by omega) rfl
      have hc1 := hc 1 _ (by omega) rfl
      have hc2 := hc 2 _ (by omega) rfl
      have hc3 := hc 3 _ (by omega) rfl
      have hc4 := hc 4 _ (by omega) rfl
      have hc5 := hc 5 _ (by omega) rfl
      have hc6 := hc 6 _ (by omega) rfl
      have hc7 := hc 7 _ (by omega) rfl
      clear hc
      simp only [← Nat.add_assoc, Nat.add_zero] at hc0 hc1 hc2 hc3 hc4 hc5 hc6 hc7
      have HA := Lib.hid (show (if subs x (zSectorSpec l[k]) < 0 then -1 else subs (subs x (zSectorSpec l[k])) ((l.drop (k + 1)).map zSectorSpec).flatten) = subs left (tzSectorSpec l) from by rw [← HI.out, zSectorSpec_drop l k hlt, subs_append _ _ _ hx0])
      rcases subs_cases (zSectorSpec l[k]) x hx0 with hq | ⟨hq, hq0⟩
      · have HQ := Lib.hid hq
        have HR := Lib.hid (show -1 = subs left (tzSectorSpec l) from by rw [← HA.out, hq]; rfl)
        clear hq
        go_wp2_with (go_at_call 27; refine (szSectorSpec_any l[k].f0 l[k].f1 l[k].f2 l[k].f3 l[k].f4 l[k].f5 l[k].f6 l[k].f7 x _ hx0 hx1 hs4).mono ?_; rintro e w1 ⟨rfl, hx⟩; rw [show subs x [l[k].f4.size] = -1 from HQ.out]; replace hb := below_step hb hx)
        go_ret
        exact ⟨ret_int HR.out, hb⟩
      · have HQ := Lib.hid hq
        have HR := Lib.hid (show subs (x - ((zSectorSpec l[k]).sum : Nat)) ((l.drop (k + 1)).map zSectorSpec).flatten = subs left (tzSectorSpec l) from by rw [← HA.out, hq, if_neg (by omega)])
        clear hq
        generalize hsum : x - ((zSectorSpec l[k]).sum : Nat) = y at *
        have hy : y ≤ 1048576 := by omega
        clear hsum
        go_wp2_with (go_at_call 27; refine (szSectorSpec_any l[k].f0 l[k].f1 l[k].f2 l[k].f3 l[k].f4 l[k].f5 l[k].f6 l[k].f7 x _ hx0 hx1 hs4).mono ?_; rintro e w1 ⟨rfl, hx⟩; rw [show subs x [l[k].f4.size] = y from HQ.out]; replace hb := below_step hb hx)
        go_roundw
        case rel => exact ⟨k + 1, y, by omega, by go_num, rfl, hq0, hy, hb, HR⟩
        case measure => (simp [intOf] <;> omega)
    · have HR := Lib.hid (show x = subs left (tzSectorSpec l) from by rw [← HI.out, List.drop_eq_nil_of_le (by omega)]; rfl)
      go_wp2
      go_ret
      exact ⟨ret_int HR.out, hb⟩

set_option maxRecDepth 100000 in
set_option maxHeartbeats 1000000 in
theorem eqSectorSpec_any (a0 : Int) (a1 : Int) (a2 : Int) (a3 : Int) (a4 : ByteArray) (a5 : Bool) (a6 : Bool) (a7 : Bool) (w : World) :
    Calls Try.prog 35 #[.agg #[.int .i64 a0, .int .i64 a1, .int .i64 a2, .int .i64 a3, .string a4, .bool a5, .bool a6, .bool a7], .agg #[.int .i64 a0, .int .i64 a1, .int .i64 a2, .int .i64 a3, .string a4, .bool a5, .bool a6, .bool a7]] w fun e w' => e = .returned (.bool true) ∧ Below w.heap.size w w' := by
  go_enter Try.func35, Try.ntmps35
  go_wp2
  go_ret
  exact ⟨rfl, (by repeat (first | exact Below.refl _ _ | refine below_step ?_ (by assumption) | assumption | refine Below.drew ?_ | refine below_drewN ?_ _ | refine below_alloc ?_ _ | refine Below.setCell ?_ (by simp; try omega) _))⟩

set_option maxRecDepth 100000 in
set_option maxHeartbeats 1000000 in
theorem eqSectorSpecS_any (A A' : Option Addr) (c c' : Nat) (l : List DSectorSpec) (w : World) (h : Rd w w.heap.size 8 A l.length (flat fSectorSpec l)) (h' : Rd w w.heap.size 8 A' l.length (flat fSectorSpec l)) (hn : l.length ≤ 1048576) :
    Calls Try.prog 24 #[.slice A l.length c, .slice A' l.length c'] w fun e w' => e = .returned (.bool true) ∧ Below w.heap.size w w' := by
  go_enter Try.func24, Try.ntmps24
  go_wp2
  go_loopw [5] (fun i wr => ∃ k : Nat, k ≤ l.length ∧ i = .int .i64 k ∧ Below w.heap.size w wr) (fun i _ => l.length - (intOf i).toNat)
  case atStart => exact ⟨0, Nat.zero_le _, rfl, Below.refl _ _⟩
  case round =>
    obtain ⟨k, hk, rfl, hb⟩ := hrel
    by_cases hlt : k < l.length
    · obtain ⟨b, off, rfl, hbb, hc⟩ := (h.below hb).at_ fSectorSpec_len rfl k hlt
      obtain ⟨b', off', rfl, hbb', hd⟩ := (h'.below hb).at_ fSectorSpec_len rfl k hlt
      have hc0 := hc 0 _ (by omega) rfl
      have hd0 := hd 0 _ (by omega) rfl
      have hc1 := hc 1 _ (by omega) rfl
      have hd1 := hd 1 _ (by omega) rfl
      have hc2 := hc 2 _ (by omega) rfl
      have hd2 := hd 2 _ (by omega) rfl
      have hc3 := hc 3 _ (by omega) rfl
      have hd3 := hd 3 _ (by omega) rfl
      have hc4 := hc 4 _ (by omega) rfl
      have hd4 := hd 4 _ (by omega) rfl
      have hc5 := hc 5 _ (by omega) rfl
      have hd5 := hd 5 _ (by omega) rfl
      have hc6 := hc 6 _ (by omega) rfl
      have hd6 := hd 6 _ (by omega) rfl
      have hc7 := hc 7 _ (by omega) rfl
      have hd7 := hd 7 _ (by omega) rfl
      clear hc hd
      simp only [← Nat.add_assoc, Nat.add_zero] at hc0 hd0 hc1 hd1 hc2 hd2 hc3 hd3 hc4 hd4 hc5 hd5 hc6 hd6 hc7 hd7
      go_wp2_with fail
      go_still_tail 8, (by kernel_rfl)
      change wpList _ _ _ _ _ wr.drew
      replace hb := Below.drew hb
      generalize wr.drew = w2 at hb ⊢
      go_wp2_with (go_at_call 35; refine (eqSectorSpec_any l[k].f0 l[k].f1 l[k].f2 l[k].f3 l[k].f4 l[k].f5 l[k].f6 l[k].f7 _).mono ?_; rintro e w1 ⟨rfl, hx⟩; replace hb := below_step hb hx)
      go_roundw
      case rel => exact ⟨k + 1, by omega, by go_num, hb⟩
      case measure => (simp [intOf] <;> omega)
    · go_wp2
      go_ret
      exact ⟨rfl, hb⟩

set_option maxRecDepth 100000 in
theorem openSectorSpec {H : Type} {enc : TypeId × Value → H} {w : World} {fuel : Nat} {cs : List Value} {x : DataW H × List MemPlace} (h : DataW.trod enc Try.prog w 0 (fun _ => true) true fuel 55 cs = some x) :
    ∃ a : DSectorSpec, cs = fSectorSpec a ∧ okSectorSpec a := by
  obtain ⟨xs, m, rfl, rfl, hl, hxl, hf⟩ := DataW.trod_struct Try.underlying55 h
  rw [show Try.prog.cellsOf 55 = 8 from by kernel_rfl] at hl
  replace hxl : xs.length = 8 := hxl
  obtain ⟨c0, c1, c2, c3, c4, c5, c6, c7, rfl⟩ : ∃ c0 c1 c2 c3 c4 c5 c6 c7, cs = [c0, c1, c2, c3, c4, c5, c6, c7] := by
    match cs, hl with | [c0, c1, c2, c3, c4, c5, c6, c7], _ => exact ⟨c0, c1, c2, c3, c4, c5, c6, c7, rfl⟩
  have g0 : DataW.trod enc Try.prog w 0 (fun _ => true) true m 2 [c0] = xs[0]? := by
    have := hf 0 _ rfl
    rw [show Try.prog.cellsOf _ = 1 from by kernel_rfl] at this
    exact this
  rw [List.getElem?_eq_getElem (by omega)] at g0
  obtain ⟨a0, e0, _, w0⟩ := DataW.trod_int Try.underlying2 g0
  simp only [List.cons.injEq, and_true] at e0
  subst e0
  have r0 : -9223372036854775808 ≤ a0 ∧ a0 ≤ 9223372036854775807 := by
    simp only [Lit.wf, Bool.and_eq_true, decide_eq_true_eq] at w0
    exact w0
  have g1 : DataW.trod enc Try.prog w 0 (fun _ => true) true m 2 [c1] = xs[1]? := by
    have := hf 1 _ rfl
    rw [show Try.prog.cellsOf _ = 1 from by kernel_rfl] at this
    exact this
  rw [List.getElem?_eq_getElem (by omega)] at g1
  obtain ⟨a1, e1, _, w1⟩ := DataW.trod_int Try.underlying2 g1
  simp only [List.cons.injEq, and_true] at e1
  subst e1
  have r1 : -9223372036854775808 ≤ a1 ∧ a1 ≤ 9223372036854775807 := by
    simp only [Lit.wf, Bool.and_eq_true, decide_eq_true_eq] at w1
    exact w1
  have g2 : DataW.trod enc Try.prog w 0 (fun _ => true) true m 2 [c2] = xs[2]? := by
    have := hf 2 _ rfl
    rw [show Try.prog.cellsOf _ = 1 from by kernel_rfl] at this
    exact this
  rw [List.getElem?_eq_getElem (by omega)] at g2
  obtain ⟨a2, e2, _, w2⟩ := DataW.trod_int Try.underlying2 g2
  simp only [List.cons.injEq, and_true] at e2
  subst e2
  have r2 : -9223372036854775808 ≤ a2 ∧ a2 ≤ 9223372036854775807 := by
    simp only [Lit.wf, Bool.and_eq_true, decide_eq_true_eq] at w2
    exact w2
  have g3 : DataW.trod enc Try.prog w 0 (fun _ => true) true m 2 [c3] = xs[3]? := by
    have := hf 3 _ rfl
    rw [show Try.prog.cellsOf _ = 1 from by kernel_rfl] at this
    exact this
  rw [List.getElem?_eq_getElem (by omega)] at g3
  obtain ⟨a3, e3, _, w3⟩ := DataW.trod_int Try.underlying2 g3
  simp only [List.cons.injEq, and_true] at e3
  subst e3
  have r3 : -9223372036854775808 ≤ a3 ∧ a3 ≤ 9223372036854775807 := by
    simp only [Lit.wf, Bool.and_eq_true, decide_eq_true_eq] at w3
    exact w3
  have g4 : DataW.trod enc Try.prog w 0 (fun _ => true) true m 9 [c4] = xs[4]? := by
    have := hf 4 _ rfl
    rw [show Try.prog.cellsOf _ = 1 from by kernel_rfl] at this
    exact this
  rw [List.getElem?_eq_getElem (by omega)] at g4
  obtain ⟨a4, e4, _, w4⟩ := DataW.trod_string Try.underlying9 g4
  simp only [List.cons.injEq, and_true] at e4
  subst e4
  have g5 : DataW.trod enc Try.prog w 0 (fun _ => true) true m 4 [c5] = xs[5]? := by
    have := hf 5 _ rfl
    rw [show Try.prog.cellsOf _ = 1 from by kernel_rfl] at this
    exact this
  rw [List.getElem?_eq_getElem (by omega)] at g5
  obtain ⟨a5, e5, _⟩ := DataW.trod_bool Try.underlying4 g5
  simp only [List.cons.injEq, and_true] at e5
  subst e5
  have g6 : DataW.trod enc Try.prog w 0 (fun _ => true) true m 4 [c6] = xs[6]? := by
    have := hf 6 _ rfl
    rw [show Try.prog.cellsOf _ = 1 from by kernel_rfl] at this
    exact this
  rw [List.getElem?_eq_getElem (by omega)] at g6
  obtain ⟨a6, e6, _⟩ := DataW.trod_bool Try.underlying4 g6
  simp only [List.cons.injEq, and_true] at e6
  subst e6
  have g7 : DataW.trod enc Try.prog w 0 (fun _ => true) true m 4 [c7] = xs[7]? := by
    have := hf 7 _ rfl
    rw [show Try.prog.cellsOf _ = 1 from by kernel_rfl] at this
    exact this
  rw [List.getElem?_eq_getElem (by omega)] at g7
  obtain ⟨a7, e7, _⟩ := DataW.trod_bool Try.underlying4 g7
  simp only [List.cons.injEq, and_true] at e7
  subst e7
  exact ⟨⟨a0, a1, a2, a3, a4, a5, a6, a7⟩, rfl, w4, r0, r1, r2, r3⟩

def mqSectorSpec (q : Nat) : DSectorSpec := ⟨(q : Int), (q : Int) + 1, (q : Int) + 2, (q : Int) + 3, mtxt (q + 4), decide (((q : Int) + 5).tmod 3 = 0), decide (((q : Int) + 6).tmod 3 = 0), decide (((q : Int) + 7).tmod 3 = 0)⟩
def mksSectorSpec (k m : Nat) : List DSectorSpec := (List.range m).map fun i => mqSectorSpec (k + 8 * i)
theorem mksSectorSpec_len (k m : Nat) : (mksSectorSpec k m).length = m := by simp [mksSectorSpec]
theorem mksSectorSpec_succ (k m : Nat) : mksSectorSpec k (m + 1) = mksSectorSpec k m ++ [mqSectorSpec (k + 8 * m)] := by simp [mksSectorSpec, List.range_succ]
theorem mksSectorSpec_get (k m i : Nat) (h : i < (mksSectorSpec k m).length) : (mksSectorSpec k m)[i] = mqSectorSpec (k + 8 * i) := by simp [mksSectorSpec]
theorem mksSectorSpec_put (k m : Nat) (l : List DSectorSpec) (h : m < l.length) : putV (flat fSectorSpec (mksSectorSpec k m ++ l.drop m)) (m * 8) (fSectorSpec (mqSectorSpec (k + 8 * m))) = flat fSectorSpec (mksSectorSpec k (m + 1) ++ l.drop (m + 1)) := by
  have := flat_put fSectorSpec 8 fSectorSpec_len (mksSectorSpec k m) (l.drop (m + 1)) l[m] (mqSectorSpec (k + 8 * m))
  rw [mksSectorSpec_len] at this
  rw [List.drop_eq_getElem_cons h, this, mksSectorSpec_succ, List.append_assoc]
  rfl

set_option maxRecDepth 100000 in
set_option maxHeartbeats 1000000 in
theorem markSectorSpecS_any (A : Option Addr) (c k : Nat) (l : List DSectorSpec) (w : World) (base : Nat) (h : w.ownsRow base 45 8 (.slice A l.length c) l.length (flat fSectorSpec l)) (hk1 : 1 ≤ k) (hk2 : k ≤ 10000000000) (hl : l.length ≤ 10000000000) :
    Calls Try.prog 25 #[.slice A l.length c, .int .i64 (k : Int)] w fun e w' => e = .returned (.int .i64 ((k + 8 * l.length : Nat) : Int)) ∧ w'.ownsRow base 45 8 (.slice A l.length c) l.length (flat fSectorSpec (mksSectorSpec k l.length)) ∧ w.grownBy w' (Value.slice A l.length c).ownBlock := by
  go_enter Try.func25, Try.ntmps25
  go_wp2
  go_loopw [1, 5] (fun kk i wr => ∃ m q : Nat, m ≤ l.length ∧ k + 8 * m = q ∧ i = .int .i64 m ∧ kk = .int .i64 q ∧ wr.ownsRow base 45 8 (.slice A l.length c) l.length (flat fSectorSpec (mksSectorSpec k m ++ l.drop m)) ∧ w.grownBy wr (Value.slice A l.length c).ownBlock) (fun _ i _ => l.length - (intOf i).toNat)
  case atStart => exact ⟨0, k, Nat.zero_le _, by omega, rfl, rfl, h, World.grownBy.refl _ _⟩
  case round =>
    obtain ⟨m, q, hm, hq, rfl, rfl, ho, hg⟩ := hrel
    by_cases hlt : m < l.length
    · obtain ⟨g, cap, hv⟩ := Go.Joins.ownsRow_form ho (by omega)
      cases hv
      have hput := mksSectorSpec_put k m l hlt
      rw [hq] at hput
      have hbf5 : (((q : Int) + 1 + 1 + 1 + 1 + 1) % 3 == 0) = decide (((q : Int) + 5) % 3 = 0) := (by rw [show (q : Int) + 1 + 1 + 1 + 1 + 1 = (q : Int) + 5 from by omega]; rfl)
      have hbf6 : (((q : Int) + 1 + 1 + 1 + 1 + 1 + 1) % 3 == 0) = decide (((q : Int) + 6) % 3 = 0) := (by rw [show (q : Int) + 1 + 1 + 1 + 1 + 1 + 1 = (q : Int) + 6 from by omega]; rfl)
      have hbf7 : (((q : Int) + 1 + 1 + 1 + 1 + 1 + 1 + 1) % 3 == 0) = decide (((q : Int) + 7) % 3 = 0) := (by rw [show (q : Int) + 1 + 1 + 1 + 1 + 1 + 1 + 1 = (q : Int) + 7 from by omega]; rfl)
      have hm4 := fun W => markText_any (q + 4) W (by omega) (by omega)
      simp only [show ((q + 4 : Nat) : Int) = (q : Int) + 4 from by omega] at hm4
      obtain ⟨u0, hu0⟩ := own_some ho (m * 8 + 0) (by omega)
      have hz0 := World.ownsRow.frozenAt ho (m * 8 + 0)
      obtain ⟨u1, hu1⟩ := own_some ho (m * 8 + 1) (by omega)
      have hz1 := World.ownsRow.frozenAt ho (m * 8 + 1)
      obtain ⟨u2, hu2⟩ := own_some ho (m * 8 + 2) (by omega)
      have hz2 := World.ownsRow.frozenAt ho (m * 8 + 2)
      obtain ⟨u3, hu3⟩ := own_some ho (m * 8 + 3) (by omega)
      have hz3 := World.ownsRow.frozenAt ho (m * 8 + 3)
      simp only [Nat.add_zero] at hu0 hz0
      go_wp2_with (first
        | (go_at_call 36; refine (hm4 _).mono ?_; rintro e w14 ⟨rfl, hx⟩; replace hg := ((((hg.trans (World.ownsRow.stored ho _ _).2).trans (World.ownsRow.stored (World.ownsRow.stored ho _ _).1 _ _).2).trans (World.ownsRow.stored (World.ownsRow.stored (World.ownsRow.stored ho _ _).1 _ _).1 _ _).2).trans (World.ownsRow.stored (World.ownsRow.stored (World.ownsRow.stored (World.ownsRow.stored ho _ _).1 _ _).1 _ _).1 _ _).2).trans (only_of_below hx _); replace ho := own_later (World.ownsRow.stored (World.ownsRow.stored (World.ownsRow.stored (World.ownsRow.stored ho _ _).1 _ _).1 _ _).1 _ _).1 hx (Nat.le_refl _); obtain ⟨u4, hu4⟩ := own_some ho (m * 8 + 4) (by omega); have hz4 := World.ownsRow.frozenAt ho (m * 8 + 4); obtain ⟨u5, hu5⟩ := own_some ho (m * 8 + 5) (by omega); have hz5 := World.ownsRow.frozenAt ho (m * 8 + 5); obtain ⟨u6, hu6⟩ := own_some ho (m * 8 + 6) (by omega); have hz6 := World.ownsRow.frozenAt ho (m * 8 + 6); obtain ⟨u7, hu7⟩ := own_some ho (m * 8 + 7) (by omega); have hz7 := World.ownsRow.frozenAt ho (m * 8 + 7); have mark1 := True.intro))
      go_roundw
      case rel =>
        refine ⟨m + 1, q + 8, by omega, by omega, by go_num, by go_num, ?_, ((((hg.trans (World.ownsRow.stored ho _ _).2).trans (World.ownsRow.stored (World.ownsRow.stored ho _ _).1 _ _).2).trans (World.ownsRow.stored (World.ownsRow.stored (World.ownsRow.stored ho _ _).1 _ _).1 _ _).2).trans (World.ownsRow.stored (World.ownsRow.stored (World.ownsRow.stored (World.ownsRow.stored ho _ _).1 _ _).1 _ _).1 _ _).2)⟩
        rw [← hput]
        exact (World.ownsRow.stored (World.ownsRow.stored (World.ownsRow.stored (World.ownsRow.stored ho _ _).1 _ _).1 _ _).1 _ _).1
      case measure => (simp [intOf] <;> omega)
    · obtain rfl : m = l.length := by omega
      rw [List.drop_length, List.append_nil] at ho
      go_wp2
      go_ret
      exact ⟨ret_int (by omega), ho, hg⟩

set_option maxRecDepth 100000 in
set_option maxHeartbeats 1000000 in
theorem heldSectorSpecS_any (A : Option Addr) (c k n : Nat) (w : World) (h : Rd w w.heap.size 8 A n (flat fSectorSpec (mksSectorSpec k n))) (hk1 : 1 ≤ k) (hk2 : k ≤ 10000000000) (hl : n ≤ 10000000000) :
    Calls Try.prog 26 #[.slice A n c, .int .i64 (k : Int)] w fun e w' => e = .returned (.int .i64 ((k + 8 * n : Nat) : Int)) ∧ Below w.heap.size w w' := by
  go_enter Try.func26, Try.ntmps26
  go_wp2
  go_loopw [1, 5] (fun kk i wr => ∃ i' q : Nat, i' ≤ n ∧ k + 8 * i' = q ∧ i = .int .i64 i' ∧ kk = .int .i64 q ∧ Below w.heap.size w wr) (fun _ i _ => n - (intOf i).toNat)
  case atStart => exact ⟨0, k, Nat.zero_le _, by omega, rfl, rfl, Below.refl _ _⟩
  case round =>
    obtain ⟨i, q, hi, hq, rfl, rfl, hb⟩ := hrel
    by_cases hlt : i < n
    · obtain ⟨b, off, rfl, hbb, hc⟩ := h.at_ fSectorSpec_len (mksSectorSpec_len k n).symm i hlt
      have hc0 := hc 0 (.int .i64 ((q : Int))) (by omega) (by rw [mksSectorSpec_get, hq]; rfl)
      have hc1 := hc 1 (.int .i64 ((q : Int) + 1)) (by omega) (by rw [mksSectorSpec_get, hq]; rfl)
      have hc2 := hc 2 (.int .i64 ((q : Int) + 2)) (by omega) (by rw [mksSectorSpec_get, hq]; rfl)
      have hc3 := hc 3 (.int .i64 ((q : Int) + 3)) (by omega) (by rw [mksSectorSpec_get, hq]; rfl)
      have hc4 := hc 4 (.string (mtxt (q + 4))) (by omega) (by rw [mksSectorSpec_get, hq]; rfl)
      have hc5 := hc 5 (.bool (decide (((q : Int) + 5).tmod 3 = 0))) (by omega) (by rw [mksSectorSpec_get, hq]; rfl)
      have hc6 := hc 6 (.bool (decide (((q : Int) + 6).tmod 3 = 0))) (by omega) (by rw [mksSectorSpec_get, hq]; rfl)
      have hc7 := hc 7 (.bool (decide (((q : Int) + 7).tmod 3 = 0))) (by omega) (by rw [mksSectorSpec_get, hq]; rfl)
      clear hc
      simp only [← Nat.add_assoc, Nat.add_zero] at hc0 hc1 hc2 hc3 hc4 hc5 hc6 hc7
      have hbf5 : (((q : Int) + 1 + 1 + 1 + 1 + 1) % 3 == 0) = decide (((q : Int) + 5) % 3 = 0) := (by rw [show (q : Int) + 1 + 1 + 1 + 1 + 1 = (q : Int) + 5 from by omega]; rfl)
      have hbf6 : (((q : Int) + 1 + 1 + 1 + 1 + 1 + 1) % 3 == 0) = decide (((q : Int) + 6) % 3 = 0) := (by rw [show (q : Int) + 1 + 1 + 1 + 1 + 1 + 1 = (q : Int) + 6 from by omega]; rfl)
      have hbf7 : (((q : Int) + 1 + 1 + 1 + 1 + 1 + 1 + 1) % 3 == 0) = decide (((q : Int) + 7) % 3 = 0) := (by rw [show (q : Int) + 1 + 1 + 1 + 1 + 1 + 1 + 1 = (q : Int) + 7 from by omega]; rfl)
      have hm4 := fun W => markText_any (q + 4) W (by omega) (by omega)
      simp only [show ((q + 4 : Nat) : Int) = (q : Int) + 4 from by omega] at hm4
      obtain ⟨hcb, hfb⟩ := bcell hb
      have hr4 := (hb.cell (p := ⟨b, off + i * 8 + 4, none⟩) hbb).trans hc4
      go_wp2_with fail
      go_region_held3 (fun W => Below w.heap.size w W ∧ W.cell? ⟨b, off + i * 8 + 4, none⟩ = some (.string (mtxt (q + 4)))) (first | exact keepS hc4 hbb (Below.drew hb) | exact keepS hc4 hbb (below_step (Below.drew hb) hx)) (first | (go_at_call 36; refine (hm4 _).mono ?_; rintro e w4 ⟨rfl, hx⟩))
      replace hb := below_step (Below.drew hb) hx
      clear hcb hfb
      obtain ⟨hcb, hfb⟩ := bcell hb
      go_wp2
      go_roundw
      case rel => exact ⟨i + 1, q + 8, by omega, by omega, by go_num, by go_num, hb⟩
      case measure => (simp [intOf] <;> omega)
    · obtain rfl : i = n := by omega
      go_wp2
      go_ret
      exact ⟨ret_int (by omega), hb⟩
end Go.Proofs.Ytkhmchifejfinaa
