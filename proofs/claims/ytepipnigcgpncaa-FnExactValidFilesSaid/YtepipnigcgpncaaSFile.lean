/- Walks of the helpers in laws: File. Printed by mk_leaf.py. -/
import Derived.Test.YtepipnigcgpncaaMem4
import Derived.Test.YtepipnigcgpncaaW2
import Derived.Deep.DeepMust
import Derived.StillTailTactics
import Derived.OpenShut
import Derived.Test.YtepipnigcgpncaaMark
import Derived.Lib.SmallJoins
namespace Go.Proofs.Ytepipnigcgpncaa
open Go.RowKit Go.ChangeShapes Go.WideShapes Go.Deep

structure DFile where
  f0 : ByteArray
  f1 : ByteArray
def fFile (x : DFile) : List Value := [.string x.f0, .string x.f1]
theorem fFile_len (x : DFile) : (fFile x).length = 2 := rfl
def vFile (x : DFile) : Value := .agg #[.string x.f0, .string x.f1]
def zFile (x : DFile) : List Nat := [x.f0.size, x.f1.size]
def okFile (x : DFile) : Prop := x.f0.size ≤ maxLen ∧ x.f1.size ≤ maxLen

set_option maxHeartbeats 1000000 in
theorem toFile_any (a0 : ByteArray) (a1 : ByteArray) (w : World) :
    Calls Try.prog 78 #[.agg #[.string a0, .string a1]] w fun e w' => e = .returned (.agg #[.string a0, .string a1]) ∧ Below w.heap.size w w' := by
  go_enter Try.func78, Try.ntmps78
  go_wp2
  exact bodyPost_ret (v := .agg #[.string a0, .string a1]) (by simp [results, Try.results78, go_sem]) rfl ⟨rfl, (by repeat (first | exact Below.refl _ _ | refine below_step ?_ (by assumption) | assumption | refine Below.drew ?_ | refine below_drewN ?_ _ | refine below_alloc ?_ _ | refine Below.setCell ?_ (by simp; try omega) _))⟩

theorem eltFile : Elt Try.prog 56 80 2 32 (.agg #[.string ByteArray.empty, .string ByteArray.empty]) := Elt.mk' Try.underlying56 (by kernel_rfl) rfl (by decide)

set_option maxHeartbeats 1000000 in
theorem toFileS_any (A : Option Addr) (c : Nat) (l : List DFile) (w : World) (h : Rd w w.heap.size 2 A l.length (flat fFile l)) (hn : l.length ≤ 1048576) :
    Calls Try.prog 48 #[.slice A l.length c] w fun e w' => ∃ v, e = .returned v ∧ w'.ownsRow w.heap.size 80 2 v l.length (flat fFile l) ∧ Below w.heap.size w w' := by
  have hmk := fun W => eltFile.make l.length (by omega) (by omega) W
  have hfl := flat_length fFile 2 fFile_len l
  go_enter Try.func48, Try.ntmps48
  go_wp2
  go_loopw [4] (fun i wr => ∃ k : Nat, k ≤ l.length ∧ i = .int .i64 k ∧ FillC wr w.heap.size 80 (l.length * 2) (flat fFile l) (k * 2) ∧ Below w.heap.size w wr) (fun i _ => l.length - (intOf i).toNat)
  case atStart => exact ⟨0, Nat.zero_le _, rfl, FillC.made w _ _ _ _, below_alloc (Below.refl _ _) _⟩
  case round =>
    obtain ⟨k, hk, rfl, hf, hb⟩ := hrel
    by_cases hlt : k < l.length
    · obtain ⟨b, off, rfl, hbb, hc⟩ := (h.below hb).at_ fFile_len rfl k hlt
      have hc0 := hc 0 _ (by omega) rfl
      have hc1 := hc 1 _ (by omega) rfl
      clear hc
      simp only [← Nat.add_assoc, Nat.add_zero] at hc0 hc1
      go_wp2_with (go_at_call 78; go_must (refine (toFile_any l[k].f0 l[k].f1 _).mono ?_); rintro e w1 ⟨rfl, hx⟩; replace hf := hf.below hx hf.lt; replace hb := below_step hb hx; obtain ⟨u0, hu0⟩ := hf.some_ (k * 2 + 0) (by omega); have hfz0 := hf.free (k * 2 + 0); obtain ⟨u1, hu1⟩ := hf.some_ (k * 2 + 1) (by omega); have hfz1 := hf.free (k * 2 + 1); simp only [Nat.add_zero] at hu0 hfz0)
      have hx0 : (flat fFile l)[k * 2 + 0]? = some (.string l[k].f0) := flat_get fFile 2 fFile_len l k 0 hlt (by omega)
      have hx1 : (flat fFile l)[k * 2 + 1]? = some (.string l[k].f1) := flat_get fFile 2 fFile_len l k 1 hlt (by omega)
      have hp0 := hf.put _ (by omega) (by simpa using hx0)
      have hp1 := hp0.put _ (by omega) hx1
      go_roundw
      case rel => exact ⟨k + 1, by omega, by go_num, by rw [show (k + 1) * 2 = k * 2 + 2 by omega]; exact hp1, (by repeat (first | exact Below.refl _ _ | refine below_step ?_ (by assumption) | assumption | refine Below.drew ?_ | refine below_drewN ?_ _ | refine below_alloc ?_ _ | refine Below.setCell ?_ (by simp; try omega) _))⟩
      case measure => (simp [intOf] <;> omega)
    · obtain rfl : k = l.length := by omega
      have hown := hf.own (base := w.heap.size) (size := 2) (n := l.length) (by omega) (by omega) (Nat.le_refl _) (by simp only [maxLen]; omega)
      go_wp2
      go_ret
      exact ⟨_, rfl, hown, hb⟩

set_option maxHeartbeats 1000000 in
theorem szFile_any (a0 : ByteArray) (a1 : ByteArray) (left : Int) (w : World) (h0 : 0 ≤ left) (h1 : left ≤ 1048576) (hs0 : a0.size ≤ maxLen) (hs1 : a1.size ≤ maxLen) :
    Calls Try.prog 76 #[.agg #[.string a0, .string a1], .int .i64 left] w fun e w' => e = .returned (.int .i64 (subs left [a0.size, a1.size])) ∧ Below w.heap.size w w' := by
  unfold maxLen at *
  go_enter Try.func76, Try.ntmps76
  go_wp2
  all_goals go_ret
  all_goals exact ⟨ret_int (by simp only [subs]; repeat' (first | omega | split)), (by repeat (first | exact Below.refl _ _ | refine below_step ?_ (by assumption) | assumption | refine Below.drew ?_ | refine below_drewN ?_ _ | refine below_alloc ?_ _ | refine Below.setCell ?_ (by simp; try omega) _))⟩

def tzFile (l : List DFile) : List Nat := l.length :: (l.map zFile).flatten
theorem zFile_drop (l : List DFile) (k : Nat) (hk : k < l.length) : ((l.drop k).map zFile).flatten = zFile l[k] ++ ((l.drop (k + 1)).map zFile).flatten := by
  rw [List.drop_eq_getElem_cons hk, List.map_cons, List.flatten_cons]
set_option maxHeartbeats 1000000 in
theorem szFileS_any (A : Option Addr) (c : Nat) (l : List DFile) (left : Int) (w : World) (h : Rd w w.heap.size 2 A l.length (flat fFile l)) (hn : l.length ≤ maxLen) (h0 : 0 ≤ left) (h1 : left ≤ 1048576) (hok : ∀ x ∈ l, okFile x) :
    Calls Try.prog 46 #[.slice A l.length c, .int .i64 left] w fun e w' => e = .returned (.int .i64 (subs left (tzFile l))) ∧ Below w.heap.size w w' := by
  unfold maxLen at hn
  by_cases hneg : left - l.length < 0
  · have HR := Lib.hid (show subs left (tzFile l) = -1 from by simp only [tzFile, subs, if_pos hneg])
    go_enter Try.func46, Try.ntmps46
    go_wp2
    go_ret
    exact ⟨ret_int (by rw [HR.out]), Below.refl _ _⟩
  have HS := Lib.hid (show subs (left - l.length) ((l.drop 0).map zFile).flatten = subs left (tzFile l) from by simp only [tzFile, subs, if_neg hneg, List.drop_zero])
  go_enter Try.func46, Try.ntmps46
  go_wp2
  go_loopw [1, 5] (fun m i wr => ∃ (k : Nat) (x : Int), k ≤ l.length ∧ i = .int .i64 k ∧ m = .int .i64 x ∧ 0 ≤ x ∧ x ≤ 1048576 ∧ Below w.heap.size w wr ∧ Hid (subs x ((l.drop k).map zFile).flatten = subs left (tzFile l))) (fun _ i _ => l.length - (intOf i).toNat)
  case atStart => exact ⟨0, left - l.length, Nat.zero_le _, rfl, rfl, by omega, by omega, Below.refl _ _, HS⟩
  case round =>
    obtain ⟨k, x, hk, rfl, rfl, hx0, hx1, hb, HI⟩ := hrel
    by_cases hlt : k < l.length
    · obtain ⟨b, off, rfl, hbb, hc⟩ := (h.below hb).at_ fFile_len rfl k hlt
      have hokk := hok l[k] (List.getElem_mem hlt)
      have hs0 : l[k].f0.size ≤ maxLen := hokk.1
      have hs1 : l[k].f1.size ≤ maxLen := hokk.2
      have hc0 := hc 0 _ (by omega) rfl
      have hc1 := hc 1 _ (by omega) rfl
      clear hc
      simp only [← Nat.add_assoc, Nat.add_zero] at hc0 hc1
      have HA := Lib.hid (show (if subs x (zFile l[k]) < 0 then -1 else subs (subs x (zFile l[k])) ((l.drop (k + 1)).map zFile).flatten) = subs left (tzFile l) from by rw [← HI.out, zFile_drop l k hlt, subs_append _ _ _ hx0])
      rcases subs_cases (zFile l[k]) x hx0 with hq | ⟨hq, hq0⟩
      · have HQ := Lib.hid hq
        have HR := Lib.hid (show -1 = subs left (tzFile l) from by rw [← HA.out, hq]; rfl)
        clear hq
        go_wp2_with (go_at_call 76; refine (szFile_any l[k].f0 l[k].f1 x _ hx0 hx1 hs0 hs1).mono ?_; rintro e w1 ⟨rfl, hx⟩; rw [show subs x [l[k].f0.size, l[k].f1.size] = -1 from HQ.out]; replace hb := below_step hb hx)
        go_ret
        exact ⟨ret_int HR.out, hb⟩
      · have HQ := Lib.hid hq
        have HR := Lib.hid (show subs (x - ((zFile l[k]).sum : Nat)) ((l.drop (k + 1)).map zFile).flatten = subs left (tzFile l) from by rw [← HA.out, hq, if_neg (by omega)])
        clear hq
        generalize hsum : x - ((zFile l[k]).sum : Nat) = y at *
        have hy : y ≤ 1048576 := by omega
        clear hsum
        go_wp2_with (go_at_call 76; refine (szFile_any l[k].f0 l[k].f1 x _ hx0 hx1 hs0 hs1).mono ?_; rintro e w1 ⟨rfl, hx⟩; rw [show subs x [l[k].f0.size, l[k].f1.size] = y from HQ.out]; replace hb := below_step hb hx)
        go_roundw
        case rel => exact ⟨k + 1, y, by omega, by go_num, rfl, hq0, hy, hb, HR⟩
        case measure => (simp [intOf] <;> omega)
    · have HR := Lib.hid (show x = subs left (tzFile l) from by rw [← HI.out, List.drop_eq_nil_of_le (by omega)]; rfl)
      go_wp2
      go_ret
      exact ⟨ret_int HR.out, hb⟩

set_option maxHeartbeats 1000000 in
theorem eqFile_any (a0 : ByteArray) (a1 : ByteArray) (w : World) :
    Calls Try.prog 79 #[.agg #[.string a0, .string a1], .agg #[.string a0, .string a1]] w fun e w' => e = .returned (.bool true) ∧ Below w.heap.size w w' := by
  go_enter Try.func79, Try.ntmps79
  go_wp2
  go_ret
  exact ⟨rfl, (by repeat (first | exact Below.refl _ _ | refine below_step ?_ (by assumption) | assumption | refine Below.drew ?_ | refine below_drewN ?_ _ | refine below_alloc ?_ _ | refine Below.setCell ?_ (by simp; try omega) _))⟩

set_option maxHeartbeats 1000000 in
theorem eqFileS_any (A A' : Option Addr) (c c' : Nat) (l : List DFile) (w : World) (h : Rd w w.heap.size 2 A l.length (flat fFile l)) (h' : Rd w w.heap.size 2 A' l.length (flat fFile l)) (hn : l.length ≤ 1048576) :
    Calls Try.prog 50 #[.slice A l.length c, .slice A' l.length c'] w fun e w' => e = .returned (.bool true) ∧ Below w.heap.size w w' := by
  go_enter Try.func50, Try.ntmps50
  go_wp2
  go_loopw [5] (fun i wr => ∃ k : Nat, k ≤ l.length ∧ i = .int .i64 k ∧ Below w.heap.size w wr) (fun i _ => l.length - (intOf i).toNat)
  case atStart => exact ⟨0, Nat.zero_le _, rfl, Below.refl _ _⟩
  case round =>
    obtain ⟨k, hk, rfl, hb⟩ := hrel
    by_cases hlt : k < l.length
    · obtain ⟨b, off, rfl, hbb, hc⟩ := (h.below hb).at_ fFile_len rfl k hlt
      obtain ⟨b', off', rfl, hbb', hd⟩ := (h'.below hb).at_ fFile_len rfl k hlt
      have hc0 := hc 0 _ (by omega) rfl
      have hd0 := hd 0 _ (by omega) rfl
      have hc1 := hc 1 _ (by omega) rfl
      have hd1 := hd 1 _ (by omega) rfl
      clear hc hd
      simp only [← Nat.add_assoc, Nat.add_zero] at hc0 hd0 hc1 hd1
      go_wp2_with fail
      go_still_tail 8, (by kernel_rfl)
      change wpList _ _ _ _ _ wr.drew
      replace hb := Below.drew hb
      generalize wr.drew = w2 at hb ⊢
      go_wp2_with (go_at_call 79; refine (eqFile_any l[k].f0 l[k].f1 _).mono ?_; rintro e w1 ⟨rfl, hx⟩; replace hb := below_step hb hx)
      go_roundw
      case rel => exact ⟨k + 1, by omega, by go_num, hb⟩
      case measure => (simp [intOf] <;> omega)
    · go_wp2
      go_ret
      exact ⟨rfl, hb⟩

theorem openFile {H : Type} {enc : TypeId × Value → H} {w : World} {fuel : Nat} {cs : List Value} {x : DataW H × List MemPlace} (h : DataW.trod enc Try.prog w 0 (fun _ => true) true fuel 79 cs = some x) :
    ∃ a : DFile, cs = fFile a ∧ okFile a := by
  obtain ⟨xs, m, rfl, rfl, hl, hxl, hf⟩ := DataW.trod_struct Try.underlying79 h
  rw [show Try.prog.cellsOf 79 = 2 from by kernel_rfl] at hl
  replace hxl : xs.length = 2 := hxl
  obtain ⟨c0, c1, rfl⟩ : ∃ c0 c1, cs = [c0, c1] := by
    match cs, hl with | [c0, c1], _ => exact ⟨c0, c1, rfl⟩
  have g0 : DataW.trod enc Try.prog w 0 (fun _ => true) true m 9 [c0] = xs[0]? := by
    have := hf 0 _ rfl
    rw [show Try.prog.cellsOf _ = 1 from by kernel_rfl] at this
    exact this
  rw [List.getElem?_eq_getElem (by omega)] at g0
  obtain ⟨a0, e0, _, w0⟩ := DataW.trod_string Try.underlying9 g0
  simp only [List.cons.injEq, and_true] at e0
  subst e0
  have g1 : DataW.trod enc Try.prog w 0 (fun _ => true) true m 9 [c1] = xs[1]? := by
    have := hf 1 _ rfl
    rw [show Try.prog.cellsOf _ = 1 from by kernel_rfl] at this
    exact this
  rw [List.getElem?_eq_getElem (by omega)] at g1
  obtain ⟨a1, e1, _, w1⟩ := DataW.trod_string Try.underlying9 g1
  simp only [List.cons.injEq, and_true] at e1
  subst e1
  exact ⟨⟨a0, a1⟩, rfl, w0, w1⟩
end Go.Proofs.Ytepipnigcgpncaa
