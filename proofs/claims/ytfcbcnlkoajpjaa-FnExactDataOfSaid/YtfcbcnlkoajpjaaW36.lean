/- Walks: DataOf. -/
import Derived.Test.YtfcbcnlkoajpjaaW32
import Derived.Test.YtfcbcnlkoajpjaaBld
import Derived.Test.YtfcbcnlkoajpjaaStep
namespace Go.Proofs.Ytfcbcnlkoajpjaa
open Go.RowKit
set_option linter.unusedVariables false

def dataL : List DSector → List UInt8
  | [] => []
  | x :: r => x.f0.data.toList ++ dataL r
def datO (c h p s : Int) (l : List DSector) : ByteArray := if okD c h p s l = true then ⟨(dataL l).toArray⟩ else ⟨#[]⟩
theorem datO_yes {c h p s : Int} {l : List DSector} (g : okD c h p s l = true) : datO c h p s l = ⟨(dataL l).toArray⟩ := if_pos g
theorem datO_no {c h p s : Int} {l : List DSector} (g : okD c h p s l = false) : datO c h p s l = ⟨#[]⟩ := if_neg (by simp [g])
theorem data_step (l : List DSector) (k : Nat) (out R : List UInt8) (hk : k < l.length) (h : out ++ dataL (l.drop k) = R) : (out ++ l[k].f0.data.toList) ++ dataL (l.drop (k + 1)) = R := by
  rw [List.drop_eq_getElem_cons hk, dataL] at h
  rw [List.append_assoc]
  exact h
theorem data_end (l : List DSector) (k : Nat) (out R : List UInt8) (hk : ¬ k < l.length) (h : out ++ dataL (l.drop k) = R) : out = R := by
  rw [List.drop_eq_nil_of_le (by omega)] at h
  simpa [dataL] using h
theorem secB_len {d : ByteArray} {st : Int} {n : Nat} (h : secB d st n = true) : d.size = n := by
  unfold secB at h
  simp only [Bool.and_eq_true, decide_eq_true_eq] at h
  exact h.1.1
theorem okD_len {c h p s : Int} {l : List DSector} (g : okD c h p s l = true) : l.length ≤ 128 ∧ ∀ k, (hk : k < l.length) → l[k].f0.size ≤ 32 := by
  obtain ⟨hg, hl, hall⟩ := okD_geo g
  obtain ⟨c1, c2, h1, h2, p1, p2, s1, s2⟩ := geoB_yes hg
  obtain ⟨m1, m2⟩ := prod2 c1 c2 h1 h2
  obtain ⟨q1, q2⟩ := prod3 m1 m2 p1 p2
  obtain ⟨nb, z1, z2, z3, z4⟩ := szB_nat s1 s2
  refine ⟨by omega, fun k hk => ?_⟩
  have := secB_len (hall k hk)
  omega

set_option maxRecDepth 100000 in
set_option maxHeartbeats 1000000 in
theorem l12Data_any (g : Nat) (c h p s : Int) (A : Option Addr) (cp : Nat) (l : List DSector) (w : World) (hd : DP w g c h p s (.slice A l.length cp)) (hr : Rd w w.heap.size 2 A l.length (flat fSector l)) (hn : l.length ≤ 128) (hsz : ∀ k, (hk : k < l.length) → l[k].f0.size ≤ 32) :
    Calls Try.prog 92 #[.pointer (some ⟨g, 0, none⟩)] w fun e w' => e = .returned (.string ⟨(dataL l).toArray⟩) ∧ Below w.heap.size w w' := by
  obtain ⟨d0, d1, d2, d3, d4⟩ := id hd
  go_enter Try.func92, Try.ntmps92
  go_wp2
  go_loopw [3, 4] (fun v i wr => ∃ (k : Nat) (out : List UInt8), k ≤ l.length ∧ i = .int .i64 k ∧ out.length ≤ 32 * k ∧ OwnB wr w.heap.size 5 v out ∧ Below w.heap.size w wr ∧ Hid (out ++ dataL (l.drop k) = dataL l)) (fun _ i _ => l.length - (intOf i).toNat)
  case atStart => exact ⟨0, [], Nat.zero_le _, rfl, by simp, OwnB.lit w [] #[] rfl (Nat.le_refl _) (by simp), below_alloc (Below.refl _ _) _, Lib.hid rfl⟩
  case round =>
    obtain ⟨k, out, hk, rfl, hol, hown, hb, HI⟩ := hrel
    obtain ⟨e0, e1, e2, e3, e4⟩ := hd.below hb hd.lt
    have hs1 := hb.size
    by_cases hlt : k < l.length
    · obtain ⟨b, off, rfl, hbb, hc⟩ := (hr.below hb).at_ fSector_len rfl k hlt
      have hc0 := hc 0 _ (by omega) rfl
      clear hc
      simp only [Nat.add_zero] at hc0
      have HN := Lib.hid (data_step l k out _ hlt HI.out)
      have hz := hsz k hlt
      have hzl : l[k].f0.data.toList.length ≤ 32 := by rw [Array.length_toList]; exact hz
      go_wp2_with (at_builtin; go_must (refine wpList_appS rfl _ _ 83 9 rfl eltB Try.underlying9 _ out rfl hown _ rfl (by omega) hs1 ?_); intro v' w' hown' hg hat' hbl)
      go_roundw
      case rel => exact ⟨k + 1, _, by omega, by go_num, by rw [List.length_append]; omega, hown', hb.trans hbl, HN⟩
      case measure => (simp [intOf] <;> omega)
    · have HE := Lib.hid (data_end l k out _ hlt HI.out)
      have hcv := run_b2s (P := Try.prog) (dst := 9) Try.underlying83 Try.underlying5 Try.underlying9 hown
      go_wp2
      go_ret
      exact ⟨congrArg (fun o : List UInt8 => Ending.returned (.string ⟨o.toArray⟩)) HE.out, hb⟩

set_option maxRecDepth 100000 in
set_option maxHeartbeats 400000 in
theorem spec_DataOf_any (c h p s : Int) (A : Option Addr) (cp : Nat) (l : List DSector) (w : World) (hr : Rd w w.heap.size 2 A l.length (flat fSector l)) (hn : l.length ≤ 1048576) (hok : ∀ x ∈ l, okSector x) :
    Calls Try.prog 53 #[.agg #[.int .i64 c, .int .i64 h, .int .i64 p, .int .i64 s, .slice A l.length cp]] w fun e w' => e = .returned (.string (datO c h p s l)) ∧ Below w.heap.size w w' := by
  have him := fun W hr hd => l12Ok_any w.heap.size c h p s A cp l W hd hr hn hok
  cases hk : okD c h p s l
  · have HR := Lib.hid (datO_no hk)
    have HK := Lib.hid hk
    clear hk
    go_enter Try.func53, Try.ntmps53
    go_wp2_with (go_at_call 85; refine (him _ ((hr.below (by with_reducible repeat (first | exact Below.refl _ _ | assumption | refine below_step ?_ (by assumption) | refine Below.drew ?_ | refine below_drewN ?_ _ | refine below_alloc ?_ _ | refine Below.setCell ?_ (by simp; try omega) _))).more (by simp; try omega)) (DP.made w c h p s _ _)).mono ?_; rintro e w1 ⟨rfl, hx⟩; rw [HK.out])
    go_ret
    exact ⟨by rw [HR.out]; rfl, (by with_reducible repeat (first | exact Below.refl _ _ | assumption | refine below_step ?_ (by assumption) | refine Below.drew ?_ | refine below_drewN ?_ _ | refine below_alloc ?_ _ | refine Below.setCell ?_ (by simp; try omega) _))⟩
  · obtain ⟨hl1, hl2⟩ := okD_len hk
    have HR := Lib.hid (datO_yes hk)
    have HK := Lib.hid hk
    clear hk
    go_enter Try.func53, Try.ntmps53
    go_wp2_with (first
      | (go_at_call 85; refine (him _ ((hr.below (by with_reducible repeat (first | exact Below.refl _ _ | assumption | refine below_step ?_ (by assumption) | refine Below.drew ?_ | refine below_drewN ?_ _ | refine below_alloc ?_ _ | refine Below.setCell ?_ (by simp; try omega) _))).more (by simp; try omega)) (DP.made w c h p s _ _)).mono ?_; rintro e w1 ⟨rfl, hx⟩; rw [HK.out]; have hB1 : Below w.heap.size w w1 := (by with_reducible repeat (first | exact Below.refl _ _ | assumption | refine below_step ?_ (by assumption) | refine Below.drew ?_ | refine below_drewN ?_ _ | refine below_alloc ?_ _ | refine Below.setCell ?_ (by simp; try omega) _)); have D0 := ((DP.made w c h p s (.slice A l.length cp) 29)).next hx)
      | (go_at_call 92; refine (l12Data_any w.heap.size c h p s A cp l _ D0 ((hr.below hB1).more hB1.size) hl1 hl2).mono ?_; rintro e w2 ⟨rfl, hx2⟩))
    go_ret
    exact ⟨by rw [HR.out]; rfl, (by with_reducible repeat (first | exact Below.refl _ _ | assumption | refine below_step ?_ (by assumption) | refine Below.drew ?_ | refine below_drewN ?_ _ | refine below_alloc ?_ _ | refine Below.setCell ?_ (by simp; try omega) _))⟩

theorem BuilderAt_alloc {T e : TypeId} {B b : Nat} {p : Value} {bs : List Value} {w : World} (h : Lib.BuilderAt T e B b p bs w) (o : Obj) : Lib.BuilderAt T e B b p bs (w.alloc o) := by
  have hlt := h.lt
  obtain ⟨h1, v, h2, h3, h4⟩ := h
  exact ⟨h1, v, (Lib.alloc_old w o b hlt).trans h2, World.ownsRow.alloc h3 o, h4⟩
theorem IsBuilder_alloc {T e : TypeId} {B b : Nat} {bs : List Value} {w : World} (h : Lib.IsBuilder T e B b bs w) (o : Obj) : Lib.IsBuilder T e B b bs (w.alloc o) := h.imp (fun h => BuilderAt_alloc h o) (fun h => BuilderAt_alloc h o)

set_option maxRecDepth 100000 in
set_option maxHeartbeats 1000000 in
theorem impl_DataOf_any (c h p s : Int) (A : Option Addr) (cp : Nat) (l : List DSector) (w : World) (hr : Rd w w.heap.size 2 A l.length (flat fSector l)) (hn : l.length ≤ 1048576) (hok : ∀ x ∈ l, okSector x) :
    Calls Try.prog 54 #[.agg #[.int .i64 c, .int .i64 h, .int .i64 p, .int .i64 s, .slice A l.length cp]] w fun e w' => e = .returned (.string (datO c h p s l)) ∧ Below w.heap.size w w' := by
  have him := fun W hr => impl_ValidDisc_any c h p s A cp l W hr hn hok
  cases hk : okD c h p s l
  · have HR := Lib.hid (datO_no hk)
    have HK := Lib.hid hk
    clear hk
    go_enter Try.func54, Try.ntmps54
    go_wp2_with (go_at_call 47; refine (him _ ((hr.below (by with_reducible repeat (first | exact Below.refl _ _ | assumption | refine below_step ?_ (by assumption) | refine Below.drew ?_ | refine below_drewN ?_ _ | refine below_alloc ?_ _ | refine Below.setCell ?_ (by simp; try omega) _))).more (by simp; try omega))).mono ?_; rintro e w1 ⟨rfl, hx⟩; rw [HK.out])
    go_ret
    exact ⟨by rw [HR.out]; rfl, (by with_reducible repeat (first | exact Below.refl _ _ | assumption | refine below_step ?_ (by assumption) | refine Below.drew ?_ | refine below_drewN ?_ _ | refine below_alloc ?_ _ | refine Below.setCell ?_ (by simp; try omega) _))⟩
  · obtain ⟨hl1, hl2⟩ := okD_len hk
    have HR := Lib.hid (datO_yes hk)
    have HK := Lib.hid hk
    clear hk
    go_enter Try.func54, Try.ntmps54
    go_wp2_with (go_at_call 47; refine (him _ ((hr.below (by with_reducible repeat (first | exact Below.refl _ _ | assumption | refine below_step ?_ (by assumption) | refine Below.drew ?_ | refine below_drewN ?_ _ | refine below_alloc ?_ _ | refine Below.setCell ?_ (by simp; try omega) _))).more (by simp; try omega))).mono ?_; rintro e w1 ⟨rfl, hx⟩; rw [HK.out]; have hB1 : Below w.heap.size w w1 := (by with_reducible repeat (first | exact Below.refl _ _ | assumption | refine below_step ?_ (by assumption) | refine Below.drew ?_ | refine below_drewN ?_ _ | refine below_alloc ?_ _ | refine Below.setCell ?_ (by simp; try omega) _)); have D0 := ((DP.made w c h p s (.slice A l.length cp) 29)).next hx; obtain ⟨p0, p1, p2, p3, p4⟩ := id D0; have p5 : ∀ o, (w1.alloc o).cell? ⟨w.heap.size, 4, none⟩ = some (.slice A l.length cp) := fun o => (D0.alloc o).2.2.2.2; have hs1 : w.heap.size + 1 ≤ w1.heap.size := (by have := hx.size; simp at this; omega))
    have hI := Lib.fresh_isBuilder 111 5 w1
    replace hr := (hr.below hB1).more hB1.size
    go_loopw [5, 12] (fun _ i wr => ∃ (k : Nat) (out : List UInt8), k ≤ l.length ∧ i = .int .i64 k ∧ out.length ≤ 32 * k ∧ Lib.IsBuilder 111 5 w1.heap.size w1.heap.size (Lib.byteCells out) wr ∧ Below w1.heap.size w1 wr ∧ Hid (out ++ dataL (l.drop k) = dataL l)) (fun _ i _ => l.length - (intOf i).toNat)
    case atStart => exact ⟨0, [], Nat.zero_le _, rfl, by simp, hI, below_alloc (Below.refl _ _) _, Lib.hid rfl⟩
    case round =>
      obtain ⟨k, out, hk, rfl, hol, hown, hb, HI⟩ := hrel
      have hs2 := hb.size
      by_cases hlt : k < l.length
      · obtain ⟨b, off, rfl, hbb, hc⟩ := (hr.below hb).at_ fSector_len rfl k hlt
        have hc0 := hc 0 _ (by omega) rfl
        have hc1 := hc 1 _ (by omega) rfl
        clear hc
        simp only [← Nat.add_assoc, Nat.add_zero] at hc0 hc1
        have HN := Lib.hid (data_step l k out _ hlt HI.out)
        have hz := hl2 k hlt
        have hzl : l[k].f0.data.toList.length ≤ 32 := by rw [Array.length_toList]; exact hz
        have hbl : (Lib.byteCells out).length + l[k].f0.size ≤ 140737488355328 := by simp [Lib.byteCells]; omega
        go_wp2_with (go_at_call 93; go_must (refine (WriteString_any w1.heap.size w1.heap.size _ l[k].f0 _ (IsBuilder_alloc hown _) hbl (by simp; omega)).mono ?_); rintro e w2 ⟨rfl, hw2, hx2⟩)
        go_roundw
        case rel => exact ⟨k + 1, out ++ l[k].f0.data.toList, by omega, by go_num, by rw [List.length_append]; omega, .inr (by rw [Lib.byteCells_append]; exact hw2), (below_alloc hb _).trans hx2, HN⟩
        case measure => (simp [intOf] <;> omega)
      · have HE := Lib.hid (data_end l k out _ hlt HI.out)
        go_wp2_with (go_at_call 94; go_must (refine (Try.Builder_String_any w1.heap.size w1.heap.size out _ hown hs2).mono ?_); rintro e w2 ⟨rfl, hx2⟩)
        go_ret
        exact ⟨by rw [HR.out, ← HE.out]; rfl, hB1.trans ((hb.trans hx2).mono hB1.size)⟩
end Go.Proofs.Ytfcbcnlkoajpjaa
