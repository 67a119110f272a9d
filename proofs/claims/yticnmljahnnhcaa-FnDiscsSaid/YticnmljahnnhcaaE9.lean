/- Walks: the texts W34 Bld W36 W62 W63 W64 W65 SInt64 W35 W40 W41 W42 W75 DscM D8 as one text. -/
import Derived.Test.YticnmljahnnhcaaW33
import Derived.Shelf.Strings.Builder1
import Derived.Test.YticnmljahnnhcaaShelf
import Derived.Test.YticnmljahnnhcaaW32
import Derived.Test.YticnmljahnnhcaaStep
import Derived.Test.YticnmljahnnhcaaW61
import Derived.Test.YticnmljahnnhcaaMark
import Derived.Test.YticnmljahnnhcaaW15
import Derived.StillTailTactics
import Derived.Lib.SmallJoins
import Derived.Test.YticnmljahnnhcaaSDisc
import Derived.Test.YticnmljahnnhcaaSString
import Derived.Test.YticnmljahnnhcaaW31
import Derived.Test.YticnmljahnnhcaaW81
namespace Go.Proofs.Yticnmljahnnhcaa
open Go.RowKit
set_option linter.unusedVariables false

set_option maxRecDepth 100000 in
set_option maxHeartbeats 1000000 in
theorem impl_SectorAt_any (c h p s cy hd nu : Int) (A : Option Addr) (cp : Nat) (l : List DSector) (w : World) (hr : Rd w w.heap.size 2 A l.length (flat fSector l)) (hn : l.length ≤ 1048576) (hok : ∀ x ∈ l, okSector x) :
    Calls Try.prog 19 #[.agg #[.int .i64 c, .int .i64 h, .int .i64 p, .int .i64 s, .slice A l.length cp], .int .i64 cy, .int .i64 hd, .int .i64 nu] w fun e w' => e = rAt (sAt c h p s l cy hd nu) ∧ Below w.heap.size w w' := by
  have him := fun W hr => impl_ValidDisc_any c h p s A cp l W hr hn hok
  cases hk : okD c h p s l
  · have HR := Lib.hid (sAt_1 cy hd nu hk)
    have HK := Lib.hid hk
    clear hk
    go_enter Try.func19, Try.ntmps19
    go_wp2_with (go_at_call 62; refine (him _ ((hr.below (by with_reducible repeat (first | exact Below.refl _ _ | assumption | refine below_step ?_ (by assumption) | refine Below.drew ?_ | refine below_drewN ?_ _ | refine below_alloc ?_ _ | refine Below.setCell ?_ (by simp; try omega) _))).more (by simp; try omega))).mono ?_; rintro e w1 ⟨rfl, hx⟩; rw [HK.out]; obtain ⟨hc, hf⟩ := bcell hx; have hs1 : w.heap.size + 2 ≤ w1.heap.size := (by have := hx.size; simp at this; omega); have z0 : w1.cell? ⟨w.heap.size + 1, 0, none⟩ = some (.string ⟨#[]⟩) := (by rw [hc _ _ (by simp; try omega)]; simp [go_sem]); have z1 : w1.cell? ⟨w.heap.size + 1, 1, none⟩ = some (.int .i64 0) := (by rw [hc _ _ (by simp; try omega)]; simp [go_sem]); have D0 := ((DP.made w c h p s (.slice A l.length cp) 26).alloc _).next hx; obtain ⟨p0, p1', p2', p3, p4⟩ := id D0)
    exact bodyPost_ret (v := .tuple #[.agg #[.string ⟨#[]⟩, .int .i64 0], .int .i64 1]) (by simp [results, Try.results19, go_sem, World.cell?_setCell_other, z0, z1]) rfl ⟨by rw [HR.out]; rfl, (by with_reducible repeat (first | exact Below.refl _ _ | assumption | refine below_step ?_ (by assumption) | refine Below.drew ?_ | refine below_drewN ?_ _ | refine below_alloc ?_ _ | refine Below.setCell ?_ (by simp; try omega) _))⟩
  · obtain ⟨hg, hl, -⟩ := okD_geo hk
    obtain ⟨c1, c2, h1, h2, p1, p2, s1, s2⟩ := geoB_yes hg
    have HK := Lib.hid hk
    have HL := Lib.hid hl
    clear hl hg
    have h00 := fun (x a b : Int) (W : World) => within_any x a b W
    cases g1 : inB cy 0 (c - 1)
    · have HR := Lib.hid (sAt_2 (cy := cy) (hd := hd) (nu := nu) hk (inD_1 g1))
      clear hk
      go_enter Try.func19, Try.ntmps19
      go_wp2_with (first | (go_at_call 62; refine (him _ ((hr.below (by with_reducible repeat (first | exact Below.refl _ _ | assumption | refine below_step ?_ (by assumption) | refine Below.drew ?_ | refine below_drewN ?_ _ | refine below_alloc ?_ _ | refine Below.setCell ?_ (by simp; try omega) _))).more (by simp; try omega))).mono ?_; rintro e w1 ⟨rfl, hx⟩; rw [HK.out]; obtain ⟨hc, hf⟩ := bcell hx; have hs1 : w.heap.size + 2 ≤ w1.heap.size := (by have := hx.size; simp at this; omega); have z0 : w1.cell? ⟨w.heap.size + 1, 0, none⟩ = some (.string ⟨#[]⟩) := (by rw [hc _ _ (by simp; try omega)]; simp [go_sem]); have z1 : w1.cell? ⟨w.heap.size + 1, 1, none⟩ = some (.int .i64 0) := (by rw [hc _ _ (by simp; try omega)]; simp [go_sem]); have D0 := ((DP.made w c h p s (.slice A l.length cp) 26).alloc _).next hx; obtain ⟨p0, p1', p2', p3, p4⟩ := id D0) | (go_at_call 64; refine (h00 _ _ _ _).mono ?_; rintro e w2 ⟨rfl, rfl⟩; rw [g1]))
      exact bodyPost_ret (v := .tuple #[.agg #[.string ⟨#[]⟩, .int .i64 0], .int .i64 2]) (by simp [results, Try.results19, go_sem, World.cell?_setCell_other, z0, z1]) rfl ⟨by rw [HR.out]; rfl, (by with_reducible repeat (first | exact Below.refl _ _ | assumption | refine below_step ?_ (by assumption) | refine Below.drew ?_ | refine below_drewN ?_ _ | refine below_alloc ?_ _ | refine Below.setCell ?_ (by simp; try omega) _))⟩
    cases g2 : inB hd 0 (h - 1)
    · have HR := Lib.hid (sAt_2 (cy := cy) (hd := hd) (nu := nu) hk (inD_2 g2))
      clear hk
      go_enter Try.func19, Try.ntmps19
      go_wp2_with (first | (go_at_call 62; refine (him _ ((hr.below (by with_reducible repeat (first | exact Below.refl _ _ | assumption | refine below_step ?_ (by assumption) | refine Below.drew ?_ | refine below_drewN ?_ _ | refine below_alloc ?_ _ | refine Below.setCell ?_ (by simp; try omega) _))).more (by simp; try omega))).mono ?_; rintro e w1 ⟨rfl, hx⟩; rw [HK.out]; obtain ⟨hc, hf⟩ := bcell hx; have hs1 : w.heap.size + 2 ≤ w1.heap.size := (by have := hx.size; simp at this; omega); have z0 : w1.cell? ⟨w.heap.size + 1, 0, none⟩ = some (.string ⟨#[]⟩) := (by rw [hc _ _ (by simp; try omega)]; simp [go_sem]); have z1 : w1.cell? ⟨w.heap.size + 1, 1, none⟩ = some (.int .i64 0) := (by rw [hc _ _ (by simp; try omega)]; simp [go_sem]); have D0 := ((DP.made w c h p s (.slice A l.length cp) 26).alloc _).next hx; obtain ⟨p0, p1', p2', p3, p4⟩ := id D0) | (go_at_call 64; refine (h00 _ _ _ _).mono ?_; rintro e w2 ⟨rfl, rfl⟩; first | rw [g1] | rw [g2]))
      exact bodyPost_ret (v := .tuple #[.agg #[.string ⟨#[]⟩, .int .i64 0], .int .i64 2]) (by simp [results, Try.results19, go_sem, World.cell?_setCell_other, z0, z1]) rfl ⟨by rw [HR.out]; rfl, (by with_reducible repeat (first | exact Below.refl _ _ | assumption | refine below_step ?_ (by assumption) | refine Below.drew ?_ | refine below_drewN ?_ _ | refine below_alloc ?_ _ | refine Below.setCell ?_ (by simp; try omega) _))⟩
    cases g3 : inB nu 0 (p - 1)
    · have HR := Lib.hid (sAt_2 (cy := cy) (hd := hd) (nu := nu) hk (inD_3 g3))
      clear hk
      go_enter Try.func19, Try.ntmps19
      go_wp2_with (first | (go_at_call 62; refine (him _ ((hr.below (by with_reducible repeat (first | exact Below.refl _ _ | assumption | refine below_step ?_ (by assumption) | refine Below.drew ?_ | refine below_drewN ?_ _ | refine below_alloc ?_ _ | refine Below.setCell ?_ (by simp; try omega) _))).more (by simp; try omega))).mono ?_; rintro e w1 ⟨rfl, hx⟩; rw [HK.out]; obtain ⟨hc, hf⟩ := bcell hx; have hs1 : w.heap.size + 2 ≤ w1.heap.size := (by have := hx.size; simp at this; omega); have z0 : w1.cell? ⟨w.heap.size + 1, 0, none⟩ = some (.string ⟨#[]⟩) := (by rw [hc _ _ (by simp; try omega)]; simp [go_sem]); have z1 : w1.cell? ⟨w.heap.size + 1, 1, none⟩ = some (.int .i64 0) := (by rw [hc _ _ (by simp; try omega)]; simp [go_sem]); have D0 := ((DP.made w c h p s (.slice A l.length cp) 26).alloc _).next hx; obtain ⟨p0, p1', p2', p3, p4⟩ := id D0) | (go_at_call 64; refine (h00 _ _ _ _).mono ?_; rintro e w2 ⟨rfl, rfl⟩; first | rw [g1] | rw [g2] | rw [g3]))
      exact bodyPost_ret (v := .tuple #[.agg #[.string ⟨#[]⟩, .int .i64 0], .int .i64 2]) (by simp [results, Try.results19, go_sem, World.cell?_setCell_other, z0, z1]) rfl ⟨by rw [HR.out]; rfl, (by with_reducible repeat (first | exact Below.refl _ _ | assumption | refine below_step ?_ (by assumption) | refine Below.drew ?_ | refine below_drewN ?_ _ | refine below_alloc ?_ _ | refine Below.setCell ?_ (by simp; try omega) _))⟩
    obtain ⟨y0, y1⟩ := inB_yes g1
    obtain ⟨d0, d1⟩ := inB_yes g2
    obtain ⟨u0, u1⟩ := inB_yes g3
    obtain ⟨m1, m2, q1, q2, k1, k2⟩ := ix_bounds c1 c2 h1 h2 p1 p2 HL.out y0 y1 d0 d1 u0 u1
    have HR := Lib.hid (sAt_3 hk (inD_4 g1 g2 g3) _ k1 rfl)
    generalize secIx cy hd nu h p = k at *
    clear hk
    have e1 : wrap64 (cy * h) = cy * h := IntWalk.wrap64_in _ ⟨by omega, by omega⟩
    have e2 : wrap64 (cy * h + hd) = cy * h + hd := IntWalk.wrap64_in _ ⟨by omega, by omega⟩
    have e3 : wrap64 ((cy * h + hd) * p) = (cy * h + hd) * p := IntWalk.wrap64_in _ ⟨by omega, by omega⟩
    have e4 : wrap64 ((cy * h + hd) * p + nu) = (k : Int) := by rw [k2]; exact IntWalk.wrap64_in _ ⟨by omega, by omega⟩
    have e5 : ((cy * h + hd) * p + nu).toNat = k := by omega
    have e6 : 0 ≤ (cy * h + hd) * p + nu ∧ (cy * h + hd) * p + nu < (l.length : Int) := by omega
    clear k2
    obtain ⟨b, off, rfl, hbb, hcc⟩ := hr.at_ fSector_len rfl k k1
    have hc0 := hcc 0 _ (by omega) rfl
    have hc1 := hcc 1 _ (by omega) rfl
    clear hcc
    simp only [← Nat.add_assoc, Nat.add_zero] at hc0 hc1
    go_enter Try.func19, Try.ntmps19
    go_wp2_with (first | (go_at_call 62; refine (him _ ((hr.below (by with_reducible repeat (first | exact Below.refl _ _ | assumption | refine below_step ?_ (by assumption) | refine Below.drew ?_ | refine below_drewN ?_ _ | refine below_alloc ?_ _ | refine Below.setCell ?_ (by simp; try omega) _))).more (by simp; try omega))).mono ?_; rintro e w1 ⟨rfl, hx⟩; rw [HK.out]; obtain ⟨hc, hf⟩ := bcell hx; have hs1 : w.heap.size + 2 ≤ w1.heap.size := (by have := hx.size; simp at this; omega); have z0 : w1.cell? ⟨w.heap.size + 1, 0, none⟩ = some (.string ⟨#[]⟩) := (by rw [hc _ _ (by simp; try omega)]; simp [go_sem]); have z1 : w1.cell? ⟨w.heap.size + 1, 1, none⟩ = some (.int .i64 0) := (by rw [hc _ _ (by simp; try omega)]; simp [go_sem]); have D0 := ((DP.made w c h p s (.slice (some ⟨b, off, none⟩) l.length cp) 26).alloc _).next hx; obtain ⟨p0, p1', p2', p3, p4⟩ := id D0; have hB1 : Below w.heap.size w w1 := (by with_reducible repeat (first | exact Below.refl _ _ | assumption | refine below_step ?_ (by assumption) | refine Below.drew ?_ | refine below_drewN ?_ _ | refine below_alloc ?_ _ | refine Below.setCell ?_ (by simp; try omega) _)); have r0 := (hB1.cell (p := ⟨b, off + k * 2, none⟩) hbb).trans hc0; have r1 := (hB1.cell (p := ⟨b, off + k * 2 + 1, none⟩) hbb).trans hc1) | (go_at_call 64; refine (h00 _ _ _ _).mono ?_; rintro e w2 ⟨rfl, rfl⟩; first | rw [g1] | rw [g2] | rw [g3]))
    exact bodyPost_ret (v := .tuple #[.agg #[.string l[k].f0, .int .i64 l[k].f1], .int .i64 0]) (by simp [results, Try.results19, go_sem, World.cell?_setCell_other, z0, z1]) rfl ⟨by rw [HR.out]; rfl, (by with_reducible repeat (first | exact Below.refl _ _ | assumption | refine below_step ?_ (by assumption) | refine Below.drew ?_ | refine below_drewN ?_ _ | refine below_alloc ?_ _ | refine Below.setCell ?_ (by simp; try omega) _))⟩
end Go.Proofs.Yticnmljahnnhcaa
namespace Go.Proofs.Yticnmljahnnhcaa
open Go.Shelf
def wsRen : Go.Shelf.Ren := ⟨fun | 166 => 81 | 240 => 120 | 276 => 142 | n => n, fun | 0 => 0 | 3 => 3 | 4 => 4 | 5 => 5 | 9 => 9 | 20 => 20 | 37 => 22 | 70 => 120 | 72 => 122 | 75 => 124 | 80 => 127 | 164 => 194 | n => n, fun | n => n⟩
theorem wsLays : Go.Proofs.Lays.n166 Try.prog wsRen := {
  mixed := by kernel_rfl
  f166 := Try.func81.trans (congrArg some (by kernel_rfl))
  f240 := Try.func120.trans (congrArg some (by kernel_rfl))
  f276 := Try.func142.trans (congrArg some (by kernel_rfl))
  t0 := Try.underlying0
  a0 := Try.isAgg0
  z0 := Try.sizeOf0
  v0 := Try.zeroValue0
  t3 := Try.underlying3
  a3 := Try.isAgg3
  z3 := Try.sizeOf3
  v3 := Try.zeroValue3
  t4 := Try.underlying4
  a4 := Try.isAgg4
  z4 := Try.sizeOf4
  v4 := Try.zeroValue4
  t9 := Try.underlying9
  a9 := Try.isAgg9
  z9 := Try.sizeOf9
  v9 := Try.zeroValue9
  t20 := Try.underlying20
  a20 := Try.isAgg20
  z20 := Try.sizeOf20
  v20 := Try.zeroValue20
  t37 := Try.underlying22
  a37 := Try.isAgg22
  z37 := Try.sizeOf22
  v37 := Try.zeroValue22
  t70 := Try.underlying120
  a70 := Try.isAgg120
  z70 := Try.sizeOf120
  v70 := Try.zeroValue120
  t72 := Try.underlying122
  a72 := Try.isAgg122
  z72 := Try.sizeOf122
  v72 := Try.zeroValue122
  t75 := Try.underlying124
  a75 := Try.isAgg124
  z75 := Try.sizeOf124
  v75 := Try.zeroValue124
  t164 := Try.underlying194
  a164 := Try.isAgg194
  z164 := Try.sizeOf194
  v164 := Try.zeroValue194 }
theorem wsExtra : Builder.Extra Try.prog wsRen := {
  sizeBuilder := by kernel_rfl
  liesBuilder := by kernel_rfl
  t5 := Try.underlying5
  a5 := Try.isAgg5
  z5 := Try.sizeOf5
  v5 := Try.zeroValue5
  infoByte := by kernel_rfl
  cellsByte := by kernel_rfl
  sizeByte := by kernel_rfl
  neB5 := by decide }
open Go.RowKit in
theorem WriteString_any (B b : Nat) (bs : List Value) (s : ByteArray) (w : World) (h : Lib.IsBuilder 122 5 B b bs w) (hlen : bs.length + s.size ≤ 140737488355328) (hBw : B ≤ w.heap.size) :
    Calls Try.prog 81 #[.pointer (some ⟨b, 0, none⟩), .string s] w fun e w' => e = .returned (.tuple #[.int .i64 s.size, .nilIface]) ∧ (Lib.BuilderAt 122 5 B b (.pointer (some ⟨b, 0, none⟩)) (bs ++ Lib.strCells s) w' ∧ Below B w w') :=
  Any.Builder_WriteString wsLays wsExtra B b bs s w h hlen hBw
end Go.Proofs.Yticnmljahnnhcaa
namespace Go.Proofs.Yticnmljahnnhcaa
open Go.RowKit
set_option linter.unusedVariables false

def dataL : List DSector → List UInt8
  | [] => []
  | x :: r => x.f0.data.toList ++ dataL r
def datO (c h p s : Int) (l : List DSector) : ByteArray := if okD c h p s l = true then ⟨(dataL l).toArray⟩ else ⟨#[]⟩
theorem datO_yes {c h p s : Int} {l : List DSector} (g : okD c h p s l = true) : datO c h p s l = ⟨(dataL l).toArray⟩ := if_pos g
theorem datO_no {c h p s : Int} {l : List DSector} (g : okD c h p s l = false) : datO c h p s l = ⟨#[]⟩ := if_neg (by simp [g])
theorem data_step (l : List DSector) (k : Nat) (out R : List UInt8) (hk : k < l.length) (h : out ++ dataL (l.drop k) = R) : (out ++ l[k].f0.data.toList) ++ dataL (l.drop (k + 1)) = R := by
  rw [List.drop_eq_getElem_cons hk, dataL] at h
  rw [List.append_assoc]
  exact h
theorem data_end (l : List DSector) (k : Nat) (out R : List UInt8) (hk : ¬ k < l.length) (h : out ++ dataL (l.drop k) = R) : out = R := by
  rw [List.drop_eq_nil_of_le (by omega)] at h
  simpa [dataL] using h
theorem secB_len {d : ByteArray} {st : Int} {n : Nat} (h : secB d st n = true) : d.size = n := by
  unfold secB at h
  simp only [Bool.and_eq_true, decide_eq_true_eq] at h
  exact h.1.1
theorem okD_len {c h p s : Int} {l : List DSector} (g : okD c h p s l = true) : l.length ≤ 128 ∧ ∀ k, (hk : k < l.length) → l[k].f0.size ≤ 32 := by
  obtain ⟨hg, hl, hall⟩ := okD_geo g
  obtain ⟨c1, c2, h1, h2, p1, p2, s1, s2⟩ := geoB_yes hg
  obtain ⟨m1, m2⟩ := prod2 c1 c2 h1 h2
  obtain ⟨q1, q2⟩ := prod3 m1 m2 p1 p2
  obtain ⟨nb, z1, z2, z3, z4⟩ := szB_nat s1 s2
  refine ⟨by omega, fun k hk => ?_⟩
  have := secB_len (hall k hk)
  omega

theorem BuilderAt_alloc {T e : TypeId} {B b : Nat} {p : Value} {bs : List Value} {w : World} (h : Lib.BuilderAt T e B b p bs w) (o : Obj) : Lib.BuilderAt T e B b p bs (w.alloc o) := by
  have hlt := h.lt
  obtain ⟨h1, v, h2, h3, h4⟩ := h
  exact ⟨h1, v, (Lib.alloc_old w o b hlt).trans h2, World.ownsRow.alloc h3 o, h4⟩
theorem IsBuilder_alloc {T e : TypeId} {B b : Nat} {bs : List Value} {w : World} (h : Lib.IsBuilder T e B b bs w) (o : Obj) : Lib.IsBuilder T e B b bs (w.alloc o) := h.imp (fun h => BuilderAt_alloc h o) (fun h => BuilderAt_alloc h o)

set_option maxRecDepth 100000 in
set_option maxHeartbeats 1000000 in
theorem impl_DataOf_any (c h p s : Int) (A : Option Addr) (cp : Nat) (l : List DSector) (w : World) (hr : Rd w w.heap.size 2 A l.length (flat fSector l)) (hn : l.length ≤ 1048576) (hok : ∀ x ∈ l, okSector x) :
    Calls Try.prog 21 #[.agg #[.int .i64 c, .int .i64 h, .int .i64 p, .int .i64 s, .slice A l.length cp]] w fun e w' => e = .returned (.string (datO c h p s l)) ∧ Below w.heap.size w w' := by
  have him := fun W hr => impl_ValidDisc_any c h p s A cp l W hr hn hok
  cases hk : okD c h p s l
  · have HR := Lib.hid (datO_no hk)
    have HK := Lib.hid hk
    clear hk
    go_enter Try.func21, Try.ntmps21
    go_wp2_with (go_at_call 62; refine (him _ ((hr.below (by with_reducible repeat (first | exact Below.refl _ _ | assumption | refine below_step ?_ (by assumption) | refine Below.drew ?_ | refine below_drewN ?_ _ | refine below_alloc ?_ _ | refine Below.setCell ?_ (by simp; try omega) _))).more (by simp; try omega))).mono ?_; rintro e w1 ⟨rfl, hx⟩; rw [HK.out])
    go_ret
    exact ⟨by rw [HR.out]; rfl, (by with_reducible repeat (first | exact Below.refl _ _ | assumption | refine below_step ?_ (by assumption) | refine Below.drew ?_ | refine below_drewN ?_ _ | refine below_alloc ?_ _ | refine Below.setCell ?_ (by simp; try omega) _))⟩
  · obtain ⟨hl1, hl2⟩ := okD_len hk
    have HR := Lib.hid (datO_yes hk)
    have HK := Lib.hid hk
    clear hk
    go_enter Try.func21, Try.ntmps21
    go_wp2_with (go_at_call 62; refine (him _ ((hr.below (by with_reducible repeat (first | exact Below.refl _ _ | assumption | refine below_step ?_ (by assumption) | refine Below.drew ?_ | refine below_drewN ?_ _ | refine below_alloc ?_ _ | refine Below.setCell ?_ (by simp; try omega) _))).more (by simp; try omega))).mono ?_; rintro e w1 ⟨rfl, hx⟩; rw [HK.out]; have hB1 : Below w.heap.size w w1 := (by with_reducible repeat (first | exact Below.refl _ _ | assumption | refine below_step ?_ (by assumption) | refine Below.drew ?_ | refine below_drewN ?_ _ | refine below_alloc ?_ _ | refine Below.setCell ?_ (by simp; try omega) _)); have D0 := ((DP.made w c h p s (.slice A l.length cp) 26)).next hx; obtain ⟨p0, p1, p2, p3, p4⟩ := id D0; have p5 : ∀ o, (w1.alloc o).cell? ⟨w.heap.size, 4, none⟩ = some (.slice A l.length cp) := fun o => (D0.alloc o).2.2.2.2; have hs1 : w.heap.size + 1 ≤ w1.heap.size := (by have := hx.size; simp at this; omega))
    have hI := Lib.fresh_isBuilder 122 5 w1
    replace hr := (hr.below hB1).more hB1.size
    go_loopw [5, 12] (fun _ i wr => ∃ (k : Nat) (out : List UInt8), k ≤ l.length ∧ i = .int .i64 k ∧ out.length ≤ 32 * k ∧ Lib.IsBuilder 122 5 w1.heap.size w1.heap.size (Lib.byteCells out) wr ∧ Below w1.heap.size w1 wr ∧ Hid (out ++ dataL (l.drop k) = dataL l)) (fun _ i _ => l.length - (intOf i).toNat)
    case atStart => exact ⟨0, [], Nat.zero_le _, rfl, by simp, hI, below_alloc (Below.refl _ _) _, Lib.hid rfl⟩
    case round =>
      obtain ⟨k, out, hk, rfl, hol, hown, hb, HI⟩ := hrel
      have hs2 := hb.size
      by_cases hlt : k < l.length
      · obtain ⟨b, off, rfl, hbb, hc⟩ := (hr.below hb).at_ fSector_len rfl k hlt
        have hc0 := hc 0 _ (by omega) rfl
        have hc1 := hc 1 _ (by omega) rfl
        clear hc
        simp only [← Nat.add_assoc, Nat.add_zero] at hc0 hc1
        have HN := Lib.hid (data_step l k out _ hlt HI.out)
        have hz := hl2 k hlt
        have hzl : l[k].f0.data.toList.length ≤ 32 := by rw [Array.length_toList]; exact hz
        have hbl : (Lib.byteCells out).length + l[k].f0.size ≤ 140737488355328 := by simp [Lib.byteCells]; omega
        go_wp2_with (go_at_call 81; go_must (refine (WriteString_any w1.heap.size w1.heap.size _ l[k].f0 _ (IsBuilder_alloc hown _) hbl (by simp; omega)).mono ?_); rintro e w2 ⟨rfl, hw2, hx2⟩)
        go_roundw
        case rel => exact ⟨k + 1, out ++ l[k].f0.data.toList, by omega, by go_num, by rw [List.length_append]; omega, .inr (by rw [Lib.byteCells_append]; exact hw2), (below_alloc hb _).trans hx2, HN⟩
        case measure => (simp [intOf] <;> omega)
      · have HE := Lib.hid (data_end l k out _ hlt HI.out)
        go_wp2_with (go_at_call 82; go_must (refine (Try.Builder_String_any w1.heap.size w1.heap.size out _ hown hs2).mono ?_); rintro e w2 ⟨rfl, hx2⟩)
        go_ret
        exact ⟨by rw [HR.out, ← HE.out]; rfl, hB1.trans ((hb.trans hx2).mono hB1.size)⟩
end Go.Proofs.Yticnmljahnnhcaa
namespace Go.Proofs.Yticnmljahnnhcaa
open Go.RowKit
set_option linter.unusedVariables false

/-- A part of a new disc; 0 where there is none. -/
def nd (c h p s x : Int) : Int := if geoB c h p s = true then x else 0
def ndC (c h p s : Int) : Int := if geoB c h p s = true then 0 else 2
def ndL (c h p s : Int) : List DSector := if geoB c h p s = true then newS c h p s else []
theorem ndL_len (c h p s : Int) : (ndL c h p s).length ≤ 128 := by
  unfold ndL
  split
  · rename_i hg
    obtain ⟨c1, c2, h1, h2, p1, p2, s1, s2⟩ := geoB_yes hg
    obtain ⟨m1, m2⟩ := prod2 c1 c2 h1 h2
    obtain ⟨q1, q2⟩ := prod3 m1 m2 p1 p2
    rw [newS_len]
    unfold secN
    omega
  · simp

end Go.Proofs.Yticnmljahnnhcaa
namespace Go.Proofs.Yticnmljahnnhcaa
open Go.RowKit
set_option linter.unusedVariables false

theorem BX.drw {w : World} {g : Nat} {t : TypeId} {vs : List Value} (h : BX w g t vs) : BX w.drew g t vs := h
def cutS (s : ByteArray) (n i : Nat) : List DSector := (List.range i).map fun j => ⟨s.extract (j * n) (j * n + n), 1⟩
def mixS (s : ByteArray) (n m i : Nat) : List DSector := cutS s n i ++ List.replicate (m - i) (miss n)
theorem cutS_len (s : ByteArray) (n i : Nat) : (cutS s n i).length = i := by simp [cutS]
theorem mixS_zero (s : ByteArray) (n m : Nat) : mixS s n m 0 = List.replicate m (miss n) := by simp [mixS, cutS]
theorem mixS_all (s : ByteArray) (n m : Nat) : mixS s n m m = cutS s n m := by simp [mixS]
theorem mixS_put (s : ByteArray) (n m i a e : Nat) (h : i < m) (ha : i * n = a) (he : a + n = e) : putV (flat fSector (mixS s n m i)) (i * 2) (fSector ⟨s.extract a e, 1⟩) = flat fSector (mixS s n m (i + 1)) := by
  subst ha he
  have := flat_put fSector 2 fSector_len (cutS s n i) (List.replicate (m - (i + 1)) (miss n)) (miss n) ⟨s.extract (i * n) (i * n + n), 1⟩
  rw [cutS_len] at this
  unfold mixS
  rw [show m - i = (m - (i + 1)) + 1 by omega, List.replicate_succ, this]
  simp [cutS, List.range_succ]

def doB (c h p s : Int) (t : ByteArray) : Bool := geoB c h p s && decide (t.size = (szB s).toNat * secN c h p)
/-- A part of the disc; 0 where there is none. -/
def doX (c h p s : Int) (t : ByteArray) (x : Int) : Int := if doB c h p s t = true then x else 0
def doC (c h p s : Int) (t : ByteArray) : Int := if geoB c h p s = true then (if doB c h p s t = true then 0 else 7) else 2
def doL (c h p s : Int) (t : ByteArray) : List DSector := if doB c h p s t = true then cutS t (szB s).toNat (secN c h p) else []
theorem doL_len (c h p s : Int) (t : ByteArray) : (doL c h p s t).length ≤ 128 := by
  unfold doL doB
  split
  · rename_i hg
    simp only [Bool.and_eq_true, decide_eq_true_eq] at hg
    obtain ⟨c1, c2, h1, h2, p1, p2, s1, s2⟩ := geoB_yes hg.1
    obtain ⟨m1, m2⟩ := prod2 c1 c2 h1 h2
    obtain ⟨q1, q2⟩ := prod3 m1 m2 p1 p2
    rw [cutS_len]
    unfold secN
    omega
  · simp
end Go.Proofs.Yticnmljahnnhcaa
namespace Go.Proofs.Yticnmljahnnhcaa
open Go.RowKit
set_option linter.unusedVariables false

end Go.Proofs.Yticnmljahnnhcaa
namespace Go.Proofs.Yticnmljahnnhcaa
open Go.RowKit
set_option linter.unusedVariables false

set_option maxRecDepth 100000 in
set_option maxHeartbeats 500000 in
theorem impl_DiscOfData_any (c h p s : Int) (t : ByteArray) (w : World) (ht : t.size ≤ 1048576) :
    Calls Try.prog 20 #[.int .i64 c, .int .i64 h, .int .i64 p, .int .i64 s, .string t] w fun e w' => ∃ v, e = .returned (.tuple #[.agg #[.int .i64 (doX c h p s t c), .int .i64 (doX c h p s t h), .int .i64 (doX c h p s t p), .int .i64 (doX c h p s t s), v], .int .i64 (doC c h p s t)]) ∧ w'.ownsRow w.heap.size 39 2 v (doL c h p s t).length (flat fSector (doL c h p s t)) ∧ Below w.heap.size w w' := by
  unfold doX doC doL doB
  cases hg : geoB c h p s
  · rw [if_neg (by simp), if_neg (by simp), if_neg (by simp), if_neg (by simp), if_neg (by simp), if_neg (by simp)]
    go_enter Try.func20, Try.ntmps20
    go_wp2_with (go_at_call 78; refine (isGeometry_any _ _ _ _ _).mono ?_; rintro e w1 ⟨rfl, rfl⟩; rw [hg])
    refine bodyPost_ret (v := .tuple #[.agg #[.int .i64 0, .int .i64 0, .int .i64 0, .int .i64 0, .slice none 0 0], .int .i64 2]) (by simp [results, Try.results20, go_sem]) rfl ⟨_, rfl, World.ownsRow_nil _ _ _ _, ?_⟩
    exact (by with_reducible repeat (first | exact Below.refl _ _ | assumption | refine below_step ?_ (by assumption) | refine Below.drew ?_ | refine below_drewN ?_ _ | refine below_alloc ?_ _ | refine Below.setCell ?_ (by simp; try omega) _))
  · have hnew := fun W => newDisc_any c h p s W hg
    obtain ⟨c1, c2, h1, h2, p1, p2, s1, s2⟩ := geoB_yes hg
    obtain ⟨m1, m2⟩ := prod2 c1 c2 h1 h2
    obtain ⟨q1, q2⟩ := prod3 m1 m2 p1 p2
    obtain ⟨n, z1, z2, z3, z4⟩ := szB_nat s1 s2
    have hsz := fun W => sizeBytes_any s s1 s2 W
    rw [z1] at hsz
    have hnS : newS c h p s = List.replicate (secN c h p) (miss n) := by unfold newS; rw [z4]
    rw [hnS, List.length_replicate] at hnew
    rw [z4]
    have hmm : 1 ≤ secN c h p ∧ secN c h p ≤ 128 := by unfold secN; omega
    generalize secN c h p = m at hnew hmm ⊢
    obtain ⟨hm0, hm2⟩ := hmm
    obtain ⟨N, hN⟩ : ∃ N : Nat, n * m = N := ⟨_, rfl⟩
    have hNb : N ≤ 32 * 128 := by rw [← hN]; exact Nat.mul_le_mul z2 hm2
    have hNi : (n : Int) * (m : Int) = (N : Int) := by rw [← hN]; omega
    have hw1 : IntKind.i64.wrap ((n : Int) * (m : Int)) = (N : Int) := by rw [hNi]; exact IntWalk.i64_in _ (by omega)
    have hw2 : wrap64 ((n : Int) * (m : Int)) = (N : Int) := by rw [hNi]; exact IntWalk.wrap64_in _ ⟨by omega, by omega⟩
    rw [hN]
    have HNi := Lib.hid hNi
    have HNN := Lib.hid hN
    clear hnS z1 z4 hNi hN m1 m2 q1 q2 c1 c2 h1 h2 p1 p2 s1 s2
    by_cases hsz1 : t.size = N
    · have hdB : (true && decide (t.size = N)) = true := by simp [hsz1]
      rw [if_pos hdB, if_pos hdB, if_pos hdB, if_pos hdB, if_pos rfl, if_pos hdB, if_pos hdB, cutS_len]
      clear hdB
      have g1 : (((t.size : Nat) : Int) != (N : Int)) = false := by simp [hsz1]
      have HT := Lib.hid hsz1
      clear hsz1
      go_enter Try.func20, Try.ntmps20
      have B0 := BX.made w 26 [.int .i64 0, .int .i64 0, .int .i64 0, .int .i64 0, .slice none 0 0]
      go_wp2_with (first
        | (go_at_call 78; refine (isGeometry_any _ _ _ _ _).mono ?_; rintro e w1 ⟨rfl, rfl⟩; rw [hg])
        | (go_at_call 79; refine (hnew _).mono ?_; rintro e w1 ⟨v, rfl, hown, hx⟩; obtain ⟨g, cp, hv⟩ := Go.Joins.ownsRow_form hown hm0; cases hv; have hlt1 := World.ownsRow.lt hown g rfl; replace B0 := B0.below hx B0.lt; have hB : Below w.heap.size w w1 := (by with_reducible repeat (first | exact Below.refl _ _ | assumption | refine below_step ?_ (by assumption) | refine Below.drew ?_ | refine below_drewN ?_ _ | refine below_alloc ?_ _ | refine Below.setCell ?_ (by simp; try omega) _)); replace hown := own_base (base' := w.heap.size + 1) hown (by simp); have D := BX.made w1 26 [.int .i64 c, .int .i64 h, .int .i64 p, .int .i64 s, .slice (some ⟨g, 0, none⟩) m cp]; replace B0 := B0.al (.cells #[.int .i64 c, .int .i64 h, .int .i64 p, .int .i64 s, .slice (some ⟨g, 0, none⟩) m cp] 26); have d4 : (_ : Option Value) = some (.slice (some ⟨g, 0, none⟩) m cp) := D.cell 4 (by simp))
        | (go_at_call 80; refine (hsz _).mono ?_; rintro e w2 ⟨rfl, rfl⟩))
      have hgG : w1.heap.size ≠ g := by omega
      have h0G : w.heap.size ≠ g := by have := hlt1.1; simp at this; omega
      have hgw : w.heap.size ≤ g := by have := hlt1.1; simp at this; omega
      have hGw : w.heap.size + 1 ≤ w1.heap.size := by have := hlt1.2; have := hlt1.1; simp at this; omega
      have hown0 := World.ownsRow.alloc hown (.cells #[.int .i64 c, .int .i64 h, .int .i64 p, .int .i64 s, .slice (some ⟨g, 0, none⟩) m cp] 26)
      go_loopw [14, 41] (fun _ i wr => ∃ k : Nat, k ≤ m ∧ i = .int .i64 k ∧ BX wr w.heap.size 26 [.int .i64 0, .int .i64 0, .int .i64 0, .int .i64 0, .slice none 0 0] ∧ BX wr w1.heap.size 26 [.int .i64 c, .int .i64 h, .int .i64 p, .int .i64 s, .slice (some ⟨g, 0, none⟩) m cp] ∧ wr.ownsRow (w.heap.size + 1) 39 2 (.slice (some ⟨g, 0, none⟩) m cp) m (flat fSector (mixS t n m k)) ∧ Below w.heap.size w wr) (fun _ i _ => m - (intOf i).toNat)
      case atStart => exact ⟨0, Nat.zero_le _, rfl, B0, D, (by rw [mixS_zero]; exact hown0), (by with_reducible repeat (first | exact Below.refl _ _ | assumption | refine below_step ?_ (by assumption) | refine Below.drew ?_ | refine below_drewN ?_ _ | refine below_alloc ?_ _ | refine Below.setCell ?_ (by simp; try omega) _))⟩
      case round =>
        obtain ⟨k, hk, rfl, F0, F1, ho, hb⟩ := hrel
        have d4' : (_ : Option Value) = some (.slice (some ⟨g, 0, none⟩) m cp) := F1.cell 4 (by simp)
        by_cases hlt : k < m
        · have kb0 : k * 2 < m * 2 := by omega
          have kb1 : k * 2 + 1 < m * 2 := by omega
          obtain ⟨a, ha⟩ : ∃ a : Nat, k * n = a := ⟨_, rfl⟩
          obtain ⟨b, hb1⟩ : ∃ b : Nat, a + n = b := ⟨_, rfl⟩
          have hab : a ≤ b := by omega
          have hkm : b ≤ N := by
            have := Nat.mul_le_mul_right n (show k + 1 ≤ m by omega)
            rw [Nat.succ_mul, Nat.mul_comm m n, HNN.out] at this
            omega
          have hbt : b ≤ t.size := by rw [HT.out]; exact hkm
          have hai : (k : Int) * (n : Int) = (a : Int) := by rw [← ha]; omega
          have hw3 : IntKind.i64.wrap ((k : Int) * (n : Int)) = (a : Int) := by rw [hai]; exact IntWalk.i64_in _ (by omega)
          have hw4 : wrap64 ((k : Int) * (n : Int)) = (a : Int) := by rw [hai]; exact IntWalk.wrap64_in _ ⟨by omega, by omega⟩
          have hbi : ((k : Int) + 1) * (n : Int) = (b : Int) := by rw [Int.add_mul, hai]; omega
          have hw5 : IntKind.i64.wrap (((k : Int) + 1) * (n : Int)) = (b : Int) := by rw [hbi]; exact IntWalk.i64_in _ (by omega)
          have hw6 : wrap64 (((k : Int) + 1) * (n : Int)) = (b : Int) := by rw [hbi]; exact IntWalk.wrap64_in _ ⟨by omega, by omega⟩
          have hw7 : IntKind.i64.wrap ((k : Int) + 1) = (k : Int) + 1 := IntWalk.i64_in _ (by omega)
          have hw8 : wrap64 ((k : Int) + 1) = (k : Int) + 1 := IntWalk.wrap64_in _ ⟨by omega, by omega⟩
          clear hbi
          have hput := mixS_put t n m k a b hlt ha hb1
          clear ha hb1 hai
          go_wp2_with fail
          refine wp_region_still_tail 13 (by kernel_rfl) (by kernel_rfl) ?_
          simp only [List.take_succ_cons, List.take_zero, List.drop_succ_cons, List.drop_zero]
          repeat still_step
          refine wpStill_nil ?_
          change wpList _ _ _ _ _ wr.drew
          replace hb := Below.drew hb
          replace F0 := F0.drw
          replace F1 := F1.drw
          replace ho : OO _ _ _ _ _ _ _ := OO.dr ho
          clear hw1 hw2 hw3 hw4 hw5 hw6 hw7 hw8
          generalize wr.drew = w3 at hb F0 F1 ho ⊢
          have ho1 := World.ownsRow.stored ho (k * 2) (.string (t.extract a b)) |>.1
          have ho2 := World.ownsRow.stored ho1 (k * 2 + 1) (.int .i64 1) |>.1
          obtain ⟨u0, hu0⟩ := own_some ho (k * 2) kb0
          have hz0 := World.ownsRow.frozenAt ho (k * 2)
          obtain ⟨u1, hu1⟩ := own_some ho1 (k * 2 + 1) kb1
          have hz1 := World.ownsRow.frozenAt ho1 (k * 2 + 1)
          obtain ⟨u2, hu2⟩ := own_some ho (k * 2 + 1) kb1
          have hz2 := World.ownsRow.frozenAt ho (k * 2 + 1)
          have d4s : (_ : Option Value) = some (.slice (some ⟨g, 0, none⟩) m cp) := (F1.far (a := ⟨g, k * 2, none⟩) hgG (.string (t.extract a b))).cell 4 (by simp)
          go_wp2
          go_roundw
          case rel =>
            refine ⟨k + 1, by omega, by go_num, (F0.far (a := ⟨g, k * 2, none⟩) h0G _).far (a := ⟨g, k * 2 + 1, none⟩) h0G _, (F1.far (a := ⟨g, k * 2, none⟩) hgG _).far (a := ⟨g, k * 2 + 1, none⟩) hgG _, ?_, Below.setCell (Below.setCell hb hgw _) hgw _⟩
            rw [← hput]
            exact ho2
          case measure => (simp [intOf] <;> omega)
        · obtain rfl : k = m := by omega
          rw [mixS_all] at ho
          have d0 : (_ : Option Value) = some (.int .i64 c) := F1.cell 0 (by simp)
          have d1 : (_ : Option Value) = some (.int .i64 h) := F1.cell 1 (by simp)
          have d2 : (_ : Option Value) = some (.int .i64 p) := F1.cell 2 (by simp)
          have d3 : (_ : Option Value) = some (.int .i64 s) := F1.cell 3 (by simp)
          have y0 : (_ : Option Value) = some (.int .i64 0) := F0.cell 0 (by simp)
          have y1 : (_ : Option Value) = some (.int .i64 0) := F0.cell 1 (by simp)
          have y2 : (_ : Option Value) = some (.int .i64 0) := F0.cell 2 (by simp)
          have y3 : (_ : Option Value) = some (.int .i64 0) := F0.cell 3 (by simp)
          have y4 : (_ : Option Value) = some (.slice none 0 0) := F0.cell 4 (by simp)
          have hfz := fun j => F0.free j
          go_wp2
          refine bodyPost_ret (v := .tuple #[.agg #[.int .i64 c, .int .i64 h, .int .i64 p, .int .i64 s, .slice (some ⟨g, 0, none⟩) k cp], .int .i64 0]) (by simp [results, Try.results20, go_sem, World.cell?_setCell_other, y0, y1, y2, y3, y4]) rfl ⟨_, rfl, ?_, ?_⟩
          · refine own_base (base := w.heap.size + 1) ?_ (by omega)
            exact ownsRow_setCell_below (ownsRow_setCell_below (ownsRow_setCell_below (ownsRow_setCell_below (ownsRow_setCell_below ho (by simp) _) (by simp) _) (by simp) _) (by simp) _) (by simp) _
          · exact (by with_reducible repeat (first | exact Below.refl _ _ | assumption | refine below_step ?_ (by assumption) | refine Below.drew ?_ | refine below_drewN ?_ _ | refine below_alloc ?_ _ | refine Below.setCell ?_ (by simp; try omega) _))
    · have hdB : ¬ (true && decide (t.size = N)) = true := by simp [hsz1]
      rw [if_neg hdB, if_neg hdB, if_neg hdB, if_neg hdB, if_pos rfl, if_neg hdB, if_neg hdB]
      clear hdB
      have g1 : (((t.size : Nat) : Int) != (N : Int)) = true := by simp; omega
      clear hsz1
      go_enter Try.func20, Try.ntmps20
      have B0 := BX.made w 26 [.int .i64 0, .int .i64 0, .int .i64 0, .int .i64 0, .slice none 0 0]
      go_wp2_with (first
        | (go_at_call 78; refine (isGeometry_any _ _ _ _ _).mono ?_; rintro e w1 ⟨rfl, rfl⟩; rw [hg])
        | (go_at_call 79; refine (hnew _).mono ?_; rintro e w1 ⟨v, rfl, hown, hx⟩; obtain ⟨g, cp, hv⟩ := Go.Joins.ownsRow_form hown hm0; cases hv; have hlt1 := World.ownsRow.lt hown g rfl; replace B0 := B0.below hx B0.lt; have hB : Below w.heap.size w w1 := (by with_reducible repeat (first | exact Below.refl _ _ | assumption | refine below_step ?_ (by assumption) | refine Below.drew ?_ | refine below_drewN ?_ _ | refine below_alloc ?_ _ | refine Below.setCell ?_ (by simp; try omega) _)); replace hown := own_base (base' := w.heap.size + 1) hown (by simp); have D := BX.made w1 26 [.int .i64 c, .int .i64 h, .int .i64 p, .int .i64 s, .slice (some ⟨g, 0, none⟩) m cp]; replace B0 := B0.al (.cells #[.int .i64 c, .int .i64 h, .int .i64 p, .int .i64 s, .slice (some ⟨g, 0, none⟩) m cp] 26); have d4 : (_ : Option Value) = some (.slice (some ⟨g, 0, none⟩) m cp) := D.cell 4 (by simp); have y0 : (_ : Option Value) = some (.int .i64 0) := B0.cell 0 (by simp); have y1 : (_ : Option Value) = some (.int .i64 0) := B0.cell 1 (by simp); have y2 : (_ : Option Value) = some (.int .i64 0) := B0.cell 2 (by simp); have y3 : (_ : Option Value) = some (.int .i64 0) := B0.cell 3 (by simp); have y4 : (_ : Option Value) = some (.slice none 0 0) := B0.cell 4 (by simp); have hfz := fun j => B0.free j)
        | (go_at_call 80; refine (hsz _).mono ?_; rintro e w2 ⟨rfl, rfl⟩))
      refine bodyPost_ret (v := .tuple #[.agg #[.int .i64 0, .int .i64 0, .int .i64 0, .int .i64 0, .slice none 0 0], .int .i64 7]) (by simp [results, Try.results20, go_sem, World.cell?_setCell_other, y0, y1, y2, y3, y4]) rfl ⟨_, rfl, World.ownsRow_nil _ _ _ _, ?_⟩
      exact (by with_reducible repeat (first | exact Below.refl _ _ | assumption | refine below_step ?_ (by assumption) | refine Below.drew ?_ | refine below_drewN ?_ _ | refine below_alloc ?_ _ | refine Below.setCell ?_ (by simp; try omega) _))
end Go.Proofs.Yticnmljahnnhcaa
namespace Go.Proofs.Yticnmljahnnhcaa
open Go.RowKit
set_option linter.unusedVariables false

def tzInt64 (l : List Int) : List Nat := [l.length]
def okInt64 (x : Int) : Prop := -9223372036854775808 ≤ x ∧ x ≤ 9223372036854775807
def mksInt64 (k m : Nat) : List Int := (List.range m).map fun i => ((k + i : Nat) : Int)
theorem mksInt64_len (k m : Nat) : (mksInt64 k m).length = m := by simp [mksInt64]
theorem mksInt64_succ (k m : Nat) : mksInt64 k (m + 1) = mksInt64 k m ++ [((k + m : Nat) : Int)] := by simp [mksInt64, List.range_succ]
theorem mksInt64_get (k m i : Nat) (h : i < (mksInt64 k m).length) : (mksInt64 k m)[i] = ((k + i : Nat) : Int) := by simp [mksInt64]
theorem mksInt64_put (k m : Nat) (l : List Int) (h : m < l.length) : (flat fI (mksInt64 k m ++ l.drop m)).set m (.int .i64 ((k + m : Nat) : Int)) = flat fI (mksInt64 k (m + 1) ++ l.drop (m + 1)) := by
  have := flat_put fI 1 fI_len (mksInt64 k m) (l.drop (m + 1)) l[m] ((k + m : Nat) : Int)
  rw [mksInt64_len, Nat.mul_one] at this
  rw [List.drop_eq_getElem_cons h, mksInt64_succ, List.append_assoc]
  exact this

end Go.Proofs.Yticnmljahnnhcaa
namespace Go.Proofs.Yticnmljahnnhcaa
open Go.RowKit
set_option linter.unusedVariables false

def bump (acc : List Int) (j : Nat) : List Int := acc.set j (acc.getD j 0 + 1)
def stG : List DSector → List Int → List Int
  | [], acc => acc
  | x :: r, acc => stG r (bump acc (x.f1 - 1).toNat)
def stO (c h p s : Int) (l : List DSector) : List Int := if okD c h p s l = true then stG l [0, 0, 0, 0] else []
theorem stO_yes {c h p s : Int} {l : List DSector} (g : okD c h p s l = true) : stO c h p s l = stG l [0, 0, 0, 0] := if_pos g
theorem stO_no {c h p s : Int} {l : List DSector} (g : okD c h p s l = false) : stO c h p s l = [] := if_neg (by simp [g])
theorem bump_len (acc : List Int) (j : Nat) : (bump acc j).length = acc.length := by simp [bump]
theorem stG_len : ∀ (l : List DSector) (acc : List Int), (stG l acc).length = acc.length
  | [], _ => rfl
  | x :: r, acc => by rw [stG, stG_len r, bump_len]
theorem stO_len (c h p s : Int) (l : List DSector) : (stO c h p s l).length ≤ 4 := by
  unfold stO
  split
  · rw [stG_len]; simp
  · simp
theorem stG_step (l : List DSector) (k j : Nat) (acc R : List Int) (hk : k < l.length) (hj : l[k].f1 = (j : Int) + 1) (h : stG (l.drop k) acc = R) : stG (l.drop (k + 1)) (bump acc j) = R := by
  rw [List.drop_eq_getElem_cons hk, stG, hj, show ((j : Int) + 1 - 1).toNat = j by omega] at h
  exact h
theorem stG_end (l : List DSector) (k : Nat) (acc R : List Int) (hk : ¬ k < l.length) (h : stG (l.drop k) acc = R) : acc = R := by
  rw [List.drop_eq_nil_of_le (by omega)] at h
  exact h
theorem flatI_set : ∀ (l : List Int) (j : Nat) (v : Int), (flat fI l).set j (.int .i64 v) = flat fI (l.set j v)
  | [], j, v => by simp [flat]
  | x :: l, 0, v => by simp [flat, fI]
  | x :: l, j + 1, v => by
    have := flatI_set l j v
    simp only [flat, List.map_cons, List.flatten_cons, fI, List.cons_append, List.nil_append, List.set_cons_succ] at this ⊢
    rw [this]
theorem flatI_get (l : List Int) (j : Nat) (h : j < l.length) : (flat fI l)[j]? = some (.int .i64 l[j]) := by
  have := flat_get fI 1 fI_len l j 0 h (by omega)
  simpa [fI] using this
theorem secB_st {d : ByteArray} {st : Int} {n : Nat} (h : secB d st n = true) : 1 ≤ st ∧ st ≤ 4 := by
  unfold secB inB at h
  simp only [Bool.and_eq_true, decide_eq_true_eq] at h
  omega

theorem made4 : madeCells (Value.int .i64 0).cells (4 * 1) = #[.int .i64 0, .int .i64 0, .int .i64 0, .int .i64 0] := by kernel_rfl
theorem DP.put {w : World} {g : Nat} {c h p s : Int} {v : Value} (d : DP w g c h p s v) {a : Addr} (ha : g ≠ a.block) (u : Value) : DP (w.setCell a u) g c h p s v :=
  ⟨(World.cell?_setCell_other _ _ _ _ (by intro e; exact ha (by rw [e]))).trans d.1, (World.cell?_setCell_other _ _ _ _ (by intro e; exact ha (by rw [e]))).trans d.2.1, (World.cell?_setCell_other _ _ _ _ (by intro e; exact ha (by rw [e]))).trans d.2.2.1, (World.cell?_setCell_other _ _ _ _ (by intro e; exact ha (by rw [e]))).trans d.2.2.2.1, (World.cell?_setCell_other _ _ _ _ (by intro e; exact ha (by rw [e]))).trans d.2.2.2.2⟩
/-- The counts so far lie in a row of the call's own. -/
def CntR (W : World) (base g : Nat) (acc : List Int) (k : Nat) : Prop := W.ownsRow base 2 1 (.slice (some ⟨g, 0, none⟩) 4 4) 4 (flat fI acc) ∧ acc.length = 4 ∧ ∀ x ∈ acc, 0 ≤ x ∧ x ≤ (k : Int)
theorem CntR.put {W : World} {base g k j : Nat} {acc : List Int} (h : CntR W base g acc k) (hj : j < 4) : CntR (W.setCell ⟨g, j, none⟩ (.int .i64 (acc.getD j 0 + 1))) base g (bump acc j) (k + 1) := by
  obtain ⟨h1, h2, h3⟩ := h
  refine ⟨?_, by rw [bump_len, h2], ?_⟩
  · have := (World.ownsRow.stored h1 j (.int .i64 (acc.getD j 0 + 1))).1
    rw [flatI_set] at this
    exact this
  · intro x hx
    unfold bump at hx
    rcases List.mem_or_eq_of_mem_set hx with h | rfl
    · have := h3 x h; omega
    · have := h3 acc[j] (List.getElem_mem (by omega))
      rw [List.getD_eq_getElem?_getD, List.getElem?_eq_getElem (by omega)]
      simp only [Option.getD_some]
      omega
theorem CntR.get {W : World} {base g k j : Nat} {acc : List Int} (h : CntR W base g acc k) (hj : j < 4) : W.cell? ⟨g, j, none⟩ = some (.int .i64 (acc.getD j 0)) ∧ W.frozen? ⟨g, j, none⟩ = false ∧ 0 ≤ acc.getD j 0 ∧ acc.getD j 0 ≤ (k : Int) := by
  obtain ⟨h1, h2, h3⟩ := h
  have e : acc.getD j 0 = acc[j] := by rw [List.getD_eq_getElem?_getD, List.getElem?_eq_getElem (by omega)]; rfl
  refine ⟨?_, World.ownsRow.frozenAt h1 j, ?_⟩
  · rw [World.ownsRow.cellAt h1 j (by omega), flatI_get acc j (by omega), e]
  · rw [e]
    exact h3 _ (List.getElem_mem _)
theorem CntR.alloc {W : World} {base g k : Nat} {acc : List Int} (h : CntR W base g acc k) (o : Obj) : CntR (W.alloc o) base g acc k := ⟨World.ownsRow.alloc h.1 o, h.2⟩
theorem CntR.made (w : World) (base : Nat) (hb : base ≤ w.heap.size) : CntR (w.alloc (.cells #[.int .i64 0, .int .i64 0, .int .i64 0, .int .i64 0] 2)) base w.heap.size [0, 0, 0, 0] 0 :=
  ⟨World.ownsRow_lit w #[.int .i64 0, .int .i64 0, .int .i64 0, .int .i64 0] 4 hb (by first | rfl | decide) (by decide), rfl, by simp⟩

set_option maxRecDepth 100000 in
set_option maxHeartbeats 1000000 in
theorem impl_StatesOf_any (c h p s : Int) (A : Option Addr) (cp : Nat) (l : List DSector) (w : World) (hr : Rd w w.heap.size 2 A l.length (flat fSector l)) (hn : l.length ≤ 1048576) (hok : ∀ x ∈ l, okSector x) :
    Calls Try.prog 23 #[.agg #[.int .i64 c, .int .i64 h, .int .i64 p, .int .i64 s, .slice A l.length cp]] w fun e w' => ∃ v, e = .returned v ∧ w'.ownsRow w.heap.size 2 1 v (stO c h p s l).length (flat fI (stO c h p s l)) ∧ Below w.heap.size w w' := by
  have him := fun W hr => impl_ValidDisc_any c h p s A cp l W hr hn hok
  cases hk : okD c h p s l
  · have HR := Lib.hid (stO_no hk)
    have HK := Lib.hid hk
    clear hk
    go_enter Try.func23, Try.ntmps23
    go_wp2_with (go_at_call 62; refine (him _ ((hr.below (by with_reducible repeat (first | exact Below.refl _ _ | assumption | refine below_step ?_ (by assumption) | refine Below.drew ?_ | refine below_drewN ?_ _ | refine below_alloc ?_ _ | refine Below.setCell ?_ (by simp; try omega) _))).more (by simp; try omega))).mono ?_; rintro e w1 ⟨rfl, hx⟩; rw [HK.out]; have hB1 : Below w.heap.size w w1 := (by with_reducible repeat (first | exact Below.refl _ _ | assumption | refine below_step ?_ (by assumption) | refine Below.drew ?_ | refine below_drewN ?_ _ | refine below_alloc ?_ _ | refine Below.setCell ?_ (by simp; try omega) _)); have hs1 := hB1.size)
    go_ret
    exact ⟨_, rfl, by rw [HR.out]; exact World.ownsRow_nil _ _ _ _, (by with_reducible repeat (first | exact Below.refl _ _ | assumption | refine below_step ?_ (by assumption) | refine Below.drew ?_ | refine below_drewN ?_ _ | refine below_alloc ?_ _ | refine Below.setCell ?_ (by simp; try omega) _))⟩
  · obtain ⟨hg, hl, hall⟩ := okD_geo hk
    have hst := fun (k : Nat) (hk : k < l.length) => secB_st (hall k hk)
    have HR := Lib.hid (stO_yes hk)
    have HK := Lib.hid hk
    clear hk hl hg
    have hmk : ∀ W, (Instr.makeSlice 29 (.int .i64 4) (.int .i64 4)).run Try.prog W = .ok (.slice (some ⟨W.heap.size, 0, none⟩) 4 4) (W.alloc (.cells #[.int .i64 0, .int .i64 0, .int .i64 0, .int .i64 0] 2)) := fun W => by
      have := eltI.make 4 (by omega) (by omega) W
      rw [made4] at this
      exact this
    go_enter Try.func23, Try.ntmps23
    go_wp2_with (go_at_call 62; refine (him _ ((hr.below (by with_reducible repeat (first | exact Below.refl _ _ | assumption | refine below_step ?_ (by assumption) | refine Below.drew ?_ | refine below_drewN ?_ _ | refine below_alloc ?_ _ | refine Below.setCell ?_ (by simp; try omega) _))).more (by simp; try omega))).mono ?_; rintro e w1 ⟨rfl, hx⟩; rw [HK.out]; have hB1 : Below w.heap.size w w1 := (by with_reducible repeat (first | exact Below.refl _ _ | assumption | refine below_step ?_ (by assumption) | refine Below.drew ?_ | refine below_drewN ?_ _ | refine below_alloc ?_ _ | refine Below.setCell ?_ (by simp; try omega) _)); have D0 := ((DP.made w c h p s (.slice A l.length cp) 26)).next hx; obtain ⟨p0, p1, p2, p3, p4⟩ := id D0; have p5 : ∀ o, (w1.alloc o).cell? ⟨w.heap.size, 4, none⟩ = some (.slice A l.length cp) := fun o => (D0.alloc o).2.2.2.2; have hs1 : w.heap.size + 1 ≤ w1.heap.size := (by have := hx.size; simp at this; omega))
    have hS := CntR.made w1 w.heap.size hB1.size
    have hB2 : Below w.heap.size w (w1.alloc (.cells #[.int .i64 0, .int .i64 0, .int .i64 0, .int .i64 0] 2)) := below_alloc hB1 _
    go_wp2_with fail
    go_loopw [5, 13] (fun _ i wr => ∃ (k : Nat) (acc : List Int), k ≤ l.length ∧ i = .int .i64 k ∧ CntR wr w.heap.size w1.heap.size acc k ∧ Below w.heap.size w wr ∧ DP wr w.heap.size c h p s (.slice A l.length cp) ∧ w1.heap.size < wr.heap.size ∧ Hid (stG (l.drop k) acc = stG l [0, 0, 0, 0])) (fun _ i _ => l.length - (intOf i).toNat)
    case atStart => exact ⟨0, _, Nat.zero_le _, rfl, hS, hB2, D0.alloc _, by simp, Lib.hid rfl⟩
    case round =>
      obtain ⟨k, acc, hk, rfl, hC, hb, D, hlt1, HI⟩ := hrel
      obtain ⟨e0, e1, e2, e3, e4⟩ := id D
      by_cases hlt : k < l.length
      · obtain ⟨j, hj, hj4⟩ : ∃ j : Nat, l[k].f1 = (j : Int) + 1 ∧ j < 4 := ⟨(l[k].f1 - 1).toNat, by have := hst k hlt; omega, by have := hst k hlt; omega⟩
        have HN := Lib.hid (stG_step l k j acc _ hlt hj HI.out)
        obtain ⟨b, off, rfl, hbb, hc⟩ := (hr.below hb).at_ fSector_len rfl k hlt
        have hc0 := hc 0 _ (by omega) rfl
        have hc1 := hc 1 _ (by omega) rfl
        clear hc
        rw [hj] at hc1
        simp only [← Nat.add_assoc, Nat.add_zero] at hc0 hc1
        clear hj
        obtain ⟨a0, a1, a2, a3⟩ := hC.get hj4
        have hP := hC.put hj4
        have f0 := fun o => ((hC.alloc o).get hj4).1
        have f1 := fun o => ((hC.alloc o).get hj4).2.1
        generalize acc.getD j 0 = q at a0 a2 a3 hP f0
        go_wp2
        go_roundw
        case rel => exact ⟨k + 1, _, by omega, by go_num, hP.alloc _, below_alloc (Below.setCell hb hB1.size _) _, (D.put (show w.heap.size ≠ w1.heap.size by omega) _).alloc _, by simp; omega, HN⟩
        case measure => (simp [intOf] <;> omega)
      · have HE := Lib.hid (stG_end l k acc _ hlt HI.out)
        go_wp2
        go_ret
        exact ⟨_, rfl, by rw [HR.out, ← HE.out, hC.2.1]; exact hC.1, hb⟩
end Go.Proofs.Yticnmljahnnhcaa
namespace Go.Proofs.Yticnmljahnnhcaa
open Go.RowKit
set_option linter.unusedVariables false

def sameL {α : Type} (q : α → α → Bool) : List α → List α → Bool
  | [], [] => true
  | x :: l, y :: m => q x y && sameL q l m
  | _, _ => false
section
variable {α : Type} {q : α → α → Bool}
theorem sameL_len : ∀ (l m : List α), ¬ l.length = m.length → sameL q l m = false
  | [], [], h => absurd rfl h
  | [], _ :: _, _ => rfl
  | _ :: _, [], _ => rfl
  | x :: l, y :: m, h => by
    have := sameL_len l m (fun e => h (by simp [e]))
    simp [sameL, this]
theorem sameL_bad : ∀ (l m : List α) (k : Nat) (h1 : k < l.length) (h2 : k < m.length), q l[k] m[k] = false → sameL q l m = false
  | [], _, k, h1, _, _ => absurd h1 (by simp)
  | _ :: _, [], k, _, h2, _ => absurd h2 (by simp)
  | x :: l, y :: m, 0, _, _, h => by
    have : q x y = false := h
    simp [sameL, this]
  | x :: l, y :: m, k + 1, h1, h2, h => by
    have := sameL_bad l m k (by simpa using h1) (by simpa using h2) h
    simp [sameL, this]
theorem sameL_all : ∀ (l m : List α), l.length = m.length → (∀ k (h1 : k < l.length) (h2 : k < m.length), q l[k] m[k] = true) → sameL q l m = true
  | [], [], _, _ => rfl
  | [], _ :: _, h, _ => by simp at h
  | _ :: _, [], h, _ => by simp at h
  | x :: l, y :: m, h, ha => by
    have h0 : q x y = true := ha 0 (by simp) (by simp)
    have := sameL_all l m (by simpa using h) (fun k h1 h2 => ha (k + 1) (by simpa using h1) (by simpa using h2))
    simp [sameL, h0, this]
end
theorem all_next {p : Nat → Prop} {k : Nat} (h : ∀ j, j < k → p j) (hk : p k) : ∀ j, j < k + 1 → p j := fun j hj => by
  rcases Nat.lt_or_ge j k with h1 | h1
  · exact h j h1
  · obtain rfl : j = k := by omega
    exact hk
theorem quiet_draw {P : Program} {f : FuncId} {args : Array Value} {w : World} {n : Nat} {v : Value}
    (h : Calls P f args (w.drewN n) fun e w' => e = .returned v ∧ ∃ k, w' = (w.drewN n).drewN k) : Calls P f args (w.drewN n) fun e w'' => e = .returned v ∧ ∃ m, w'' = w.drewN m :=
  h.mono fun _ _ ⟨he, k, hk⟩ => ⟨he, n + k, by rw [hk, World.drewN_drewN]⟩
def qStr (x y : ByteArray) : Bool := x.toList == y.toList
def qInt (x y : Int) : Bool := x == y
def qSec (x y : DSector) : Bool := (x.f0.toList == y.f0.toList) && x.f1 == y.f1

end Go.Proofs.Yticnmljahnnhcaa
namespace Go.Proofs.Yticnmljahnnhcaa
open Go.RowKit
set_option linter.unusedVariables false

def alikeB (c h p s c' h' p' s' : Int) : Bool := (c == c') && (h == h') && (p == p') && (s == s')
theorem alike_1 {c h p s c' h' p' s' : Int} (g : (c == c') = false) : alikeB c h p s c' h' p' s' = false := by simp only [alikeB, g, Bool.false_and]
theorem alike_2 {c h p s c' h' p' s' : Int} (g : (h == h') = false) : alikeB c h p s c' h' p' s' = false := by simp only [alikeB, g, Bool.false_and, Bool.and_false]
theorem alike_3 {c h p s c' h' p' s' : Int} (g : (p == p') = false) : alikeB c h p s c' h' p' s' = false := by simp only [alikeB, g, Bool.false_and, Bool.and_false]
theorem alike_4 {c h p s c' h' p' s' : Int} (g1 : (c == c') = true) (g2 : (h == h') = true) (g3 : (p == p') = true) : alikeB c h p s c' h' p' s' = (s == s') := by simp only [alikeB, g1, g2, g3, Bool.true_and]

set_option maxRecDepth 100000 in
set_option maxHeartbeats 1000000 in
theorem sameGeometry_any (c h p s c' h' p' s' : Int) (v v' : Value) (w : World) (hv : v.oneCell' = true) (hv' : v'.oneCell' = true) :
    Calls Try.prog 77 #[.agg #[.int .i64 c, .int .i64 h, .int .i64 p, .int .i64 s, v], .agg #[.int .i64 c', .int .i64 h', .int .i64 p', .int .i64 s', v']] w fun e w' => e = .returned (.bool (alikeB c h p s c' h' p' s')) ∧ Below w.heap.size w w' := by
  cases g1 : (c == c')
  · have HR := Lib.hid (alike_1 (h := h) (p := p) (s := s) (h' := h') (p' := p') (s' := s') g1)
    go_enter Try.func77, Try.ntmps77
    go_wp2
    go_ret
    exact ⟨ret_bool HR.out.symm, (by with_reducible repeat (first | exact Below.refl _ _ | assumption | refine below_step ?_ (by assumption) | refine Below.drew ?_ | refine below_drewN ?_ _ | refine below_alloc ?_ _ | refine Below.setCell ?_ (by simp; try omega) _))⟩
  cases g2 : (h == h')
  · have HR := Lib.hid (alike_2 (c := c) (p := p) (s := s) (c' := c') (p' := p') (s' := s') g2)
    go_enter Try.func77, Try.ntmps77
    go_wp2
    go_ret
    exact ⟨ret_bool HR.out.symm, (by with_reducible repeat (first | exact Below.refl _ _ | assumption | refine below_step ?_ (by assumption) | refine Below.drew ?_ | refine below_drewN ?_ _ | refine below_alloc ?_ _ | refine Below.setCell ?_ (by simp; try omega) _))⟩
  cases g3 : (p == p')
  · have HR := Lib.hid (alike_3 (c := c) (h := h) (s := s) (c' := c') (h' := h') (s' := s') g3)
    go_enter Try.func77, Try.ntmps77
    go_wp2
    go_ret
    exact ⟨ret_bool HR.out.symm, (by with_reducible repeat (first | exact Below.refl _ _ | assumption | refine below_step ?_ (by assumption) | refine Below.drew ?_ | refine below_drewN ?_ _ | refine below_alloc ?_ _ | refine Below.setCell ?_ (by simp; try omega) _))⟩
  have HR := Lib.hid (alike_4 (s := s) (s' := s') g1 g2 g3)
  cases g4 : (s == s')
  all_goals
    have HR2 := Lib.hid (HR.out.trans g4)
    go_enter Try.func77, Try.ntmps77
    go_wp2
    go_ret
    exact ⟨ret_bool HR2.out.symm, (by with_reducible repeat (first | exact Below.refl _ _ | assumption | refine below_step ?_ (by assumption) | refine Below.drew ?_ | refine below_drewN ?_ _ | refine below_alloc ?_ _ | refine Below.setCell ?_ (by simp; try omega) _))⟩
end Go.Proofs.Yticnmljahnnhcaa
namespace Go.Proofs.Yticnmljahnnhcaa
open Go.RowKit
set_option linter.unusedVariables false

theorem DP.made1 (w : World) (o : Obj) (c h p s : Int) (v : Value) (t : TypeId) : DP ((w.alloc o).alloc (.cells #[.int .i64 c, .int .i64 h, .int .i64 p, .int .i64 s, v] t)) (w.heap.size + 1) c h p s v := by
  have := DP.made (w.alloc o) c h p s v t
  rwa [World.size_alloc] at this
def sameD (c h p s : Int) (l : List DSector) (c' h' p' s' : Int) (m : List DSector) : Bool := alikeB c h p s c' h' p' s' && sameL qSec l m
theorem sameD_1 {c h p s : Int} {l : List DSector} {c' h' p' s' : Int} {m : List DSector} (g : alikeB c h p s c' h' p' s' = false) : sameD c h p s l c' h' p' s' m = false := by simp only [sameD, g, Bool.false_and]
theorem sameD_2 {c h p s : Int} {l : List DSector} {c' h' p' s' : Int} {m : List DSector} (g : alikeB c h p s c' h' p' s' = true) : sameD c h p s l c' h' p' s' m = sameL qSec l m := by simp only [sameD, g, Bool.true_and]

end Go.Proofs.Yticnmljahnnhcaa
namespace Go.Proofs.Yticnmljahnnhcaa
open Go.RowKit
set_option linter.unusedVariables false

def chG : Nat → List DSector → List DSector → List Int
  | i, x :: l, y :: m => if qSec x y then chG (i + 1) l m else (i : Int) :: chG (i + 1) l m
  | _, [], _ => []
  | _, _ :: _, [] => []
theorem chG_same {l m : List DSector} {k : Nat} (h1 : k < l.length) (h2 : k < m.length) (h : qSec l[k] m[k] = true) {out R : List Int} (e : out ++ chG k (l.drop k) (m.drop k) = R) : out ++ chG (k + 1) (l.drop (k + 1)) (m.drop (k + 1)) = R := by
  rw [List.drop_eq_getElem_cons h1, List.drop_eq_getElem_cons h2, chG, if_pos h] at e
  exact e
theorem chG_diff {l m : List DSector} {k : Nat} (h1 : k < l.length) (h2 : k < m.length) (h : qSec l[k] m[k] = false) {out R : List Int} (e : out ++ chG k (l.drop k) (m.drop k) = R) : (out ++ [(k : Int)]) ++ chG (k + 1) (l.drop (k + 1)) (m.drop (k + 1)) = R := by
  rw [List.drop_eq_getElem_cons h1, List.drop_eq_getElem_cons h2, chG, if_neg (by simp [h])] at e
  rw [List.append_assoc]
  exact e
theorem chG_end {l m : List DSector} {k : Nat} (h1 : ¬ k < l.length) {out R : List Int} (e : out ++ chG k (l.drop k) (m.drop k) = R) : out = R := by
  rw [List.drop_eq_nil_of_le (by omega), chG, List.append_nil] at e
  exact e
theorem chG_len : ∀ (l m : List DSector) (k : Nat), (chG k l m).length ≤ l.length
  | [], _, _ => by simp [chG]
  | _ :: _, [], _ => by simp [chG]
  | x :: l, y :: m, k => by
    have := chG_len l m (k + 1)
    rw [chG]
    split
    · simp only [List.length_cons]; omega
    · simp only [List.length_cons]; omega
theorem alike_eq {c h p s c' h' p' s' : Int} (g : alikeB c h p s c' h' p' s' = true) : c = c' ∧ h = h' ∧ p = p' ∧ s = s' := by
  simpa [alikeB, and_assoc] using g
/-- The list and the code of ChangedSectors: x, y say whether the discs are valid, z whether they are alike. -/
def chL (x y z : Bool) (l m : List DSector) : List Int := if x && y && z then chG 0 l m else []
def chC (x y z : Bool) : Int := if x && y then (if z then 0 else 6) else 1
theorem chL_len (x y z : Bool) (l m : List DSector) : (chL x y z l m).length ≤ l.length := by
  unfold chL
  split
  · exact chG_len l m 0
  · simp
theorem chL_1 {y z : Bool} {l m : List DSector} : chL false y z l m = [] := by simp [chL]
theorem chL_2 {z : Bool} {l m : List DSector} : chL true false z l m = [] := by simp [chL]
theorem chL_3 {l m : List DSector} : chL true true false l m = [] := by simp [chL]
theorem chL_4 {l m : List DSector} : chL true true true l m = chG 0 l m := by simp [chL]
theorem chC_1 {y z : Bool} : chC false y z = 1 := by simp [chC]
theorem chC_2 {z : Bool} : chC true false z = 1 := by simp [chC]
set_option maxRecDepth 100000 in
set_option maxHeartbeats 1000000 in
theorem impl_ChangedSectors_any (c h p s c' h' p' s' : Int) (A A' : Option Addr) (cp cp' : Nat) (l m : List DSector) (w : World)
    (hr : Rd w w.heap.size 2 A l.length (flat fSector l)) (hr' : Rd w w.heap.size 2 A' m.length (flat fSector m)) (hn : l.length ≤ 1048576) (hn' : m.length ≤ 1048576) (hok : ∀ x ∈ l, okSector x) (hok' : ∀ x ∈ m, okSector x) :
    Calls Try.prog 18 #[.agg #[.int .i64 c, .int .i64 h, .int .i64 p, .int .i64 s, .slice A l.length cp], .agg #[.int .i64 c', .int .i64 h', .int .i64 p', .int .i64 s', .slice A' m.length cp']] w fun e w' => ∃ v, e = .returned (.tuple #[v, .int .i64 (chC (okD c h p s l) (okD c' h' p' s' m) (alikeB c h p s c' h' p' s'))]) ∧ w'.ownsRow w.heap.size 2 1 v (chL (okD c h p s l) (okD c' h' p' s' m) (alikeB c h p s c' h' p' s') l m).length (flat fI (chL (okD c h p s l) (okD c' h' p' s' m) (alikeB c h p s c' h' p' s') l m)) ∧ Below w.heap.size w w' := by
  have hq1 := fun W hr => impl_ValidDisc_any c h p s A cp l W hr hn hok
  have hq2 := fun W hr => impl_ValidDisc_any c' h' p' s' A' cp' m W hr hn' hok'
  have E0 := (DP.made w c h p s (.slice A l.length cp) 26).alloc (.cells #[.int .i64 c', .int .i64 h', .int .i64 p', .int .i64 s', .slice A' m.length cp'] 26)
  have E1 := DP.made1 w (.cells #[.int .i64 c, .int .i64 h, .int .i64 p, .int .i64 s, .slice A l.length cp] 26) c' h' p' s' (.slice A' m.length cp') 26
  have hb0 : Below w.heap.size w ((w.alloc (.cells #[.int .i64 c, .int .i64 h, .int .i64 p, .int .i64 s, .slice A l.length cp] 26)).alloc (.cells #[.int .i64 c', .int .i64 h', .int .i64 p', .int .i64 s', .slice A' m.length cp'] 26)) := (by with_reducible repeat (first | exact Below.refl _ _ | assumption | refine below_step ?_ (by assumption) | refine Below.drew ?_ | refine below_drewN ?_ _ | refine below_alloc ?_ _ | refine Below.setCell ?_ (by simp; try omega) _))
  cases hx : okD c h p s l
  · rw [hx] at hq1
    have hL := Lib.hid (chL_1 (y := okD c' h' p' s' m) (z := alikeB c h p s c' h' p' s') (l := l) (m := m))
    have hC := Lib.hid (chC_1 (y := okD c' h' p' s' m) (z := alikeB c h p s c' h' p' s'))
    rw [hC.out]
    go_enter Try.func18, Try.ntmps18
    go_wp2_with (first
      | (go_at_call 62; refine (hq1 _ ((hr.below hb0).more hb0.size)).mono ?_; rintro e w1 ⟨rfl, hx1⟩; replace E0 := E0.next hx1; replace E1 := E1.next hx1; have hb1 := below_step hb0 hx1; obtain ⟨d0, d1, d2, d3, d4⟩ := id E0; obtain ⟨e0, e1, e2, e3, e4⟩ := id E1; have m1 := True.intro))
    (try simp only [Exit.inBlock, Exit.then]); refine bodyPost_ret (results_tmp2 rfl _ _ _) rfl ?_
    exact ⟨_, rfl, by rw [hL.out]; exact World.ownsRow_nil _ _ _ _, (by with_reducible repeat (first | exact Below.refl _ _ | assumption | refine below_step ?_ (by assumption) | refine Below.drew ?_ | refine below_drewN ?_ _ | refine below_alloc ?_ _ | refine Below.setCell ?_ (by simp; try omega) _))⟩
  rw [hx] at hq1
  cases hy : okD c' h' p' s' m
  · rw [hy] at hq2
    have hL := Lib.hid (chL_2 (z := alikeB c h p s c' h' p' s') (l := l) (m := m))
    have hC := Lib.hid (chC_2 (z := alikeB c h p s c' h' p' s'))
    rw [hC.out]
    go_enter Try.func18, Try.ntmps18
    go_wp2_with (first
      | (go_at_call 62; have := m1; refine (hq2 _ ((hr'.below hb1).more hb1.size)).mono ?_; rintro e w2 ⟨rfl, hx2⟩; replace E0 := E0.next hx2; replace E1 := E1.next hx2; have hb2 := below_step hb1 hx2; clear d0 d1 d2 d3 d4 e0 e1 e2 e3 e4; obtain ⟨d0, d1, d2, d3, d4⟩ := id E0; obtain ⟨e0, e1, e2, e3, e4⟩ := id E1; have m2 := True.intro)
      | (go_at_call 62; refine (hq1 _ ((hr.below hb0).more hb0.size)).mono ?_; rintro e w1 ⟨rfl, hx1⟩; replace E0 := E0.next hx1; replace E1 := E1.next hx1; have hb1 := below_step hb0 hx1; obtain ⟨d0, d1, d2, d3, d4⟩ := id E0; obtain ⟨e0, e1, e2, e3, e4⟩ := id E1; have m1 := True.intro))
    (try simp only [Exit.inBlock, Exit.then]); refine bodyPost_ret (results_tmp2 rfl _ _ _) rfl ?_
    exact ⟨_, rfl, by rw [hL.out]; exact World.ownsRow_nil _ _ _ _, (by with_reducible repeat (first | exact Below.refl _ _ | assumption | refine below_step ?_ (by assumption) | refine Below.drew ?_ | refine below_drewN ?_ _ | refine below_alloc ?_ _ | refine Below.setCell ?_ (by simp; try omega) _))⟩
  rw [hy] at hq2
  cases hz : alikeB c h p s c' h' p' s'
  · have hL := Lib.hid (chL_3 (l := l) (m := m))
    have hC := Lib.hid (show chC true true false = 6 from rfl)
    rw [hC.out]
    go_enter Try.func18, Try.ntmps18
    go_wp2_with (first
      | (go_at_call 77; have := m2; refine (sameGeometry_any c h p s c' h' p' s' _ _ _ rfl rfl).mono ?_; rintro e w3 ⟨rfl, hx3⟩; rw [hz]; replace E0 := E0.next hx3; replace E1 := E1.next hx3; have hb3 := below_step hb2 hx3; clear d0 d1 d2 d3 d4 e0 e1 e2 e3 e4; obtain ⟨d0, d1, d2, d3, d4⟩ := id E0; obtain ⟨e0, e1, e2, e3, e4⟩ := id E1)
      | (go_at_call 62; have := m1; refine (hq2 _ ((hr'.below hb1).more hb1.size)).mono ?_; rintro e w2 ⟨rfl, hx2⟩; replace E0 := E0.next hx2; replace E1 := E1.next hx2; have hb2 := below_step hb1 hx2; clear d0 d1 d2 d3 d4 e0 e1 e2 e3 e4; obtain ⟨d0, d1, d2, d3, d4⟩ := id E0; obtain ⟨e0, e1, e2, e3, e4⟩ := id E1; have m2 := True.intro)
      | (go_at_call 62; refine (hq1 _ ((hr.below hb0).more hb0.size)).mono ?_; rintro e w1 ⟨rfl, hx1⟩; replace E0 := E0.next hx1; replace E1 := E1.next hx1; have hb1 := below_step hb0 hx1; obtain ⟨d0, d1, d2, d3, d4⟩ := id E0; obtain ⟨e0, e1, e2, e3, e4⟩ := id E1; have m1 := True.intro))
    (try simp only [Exit.inBlock, Exit.then]); refine bodyPost_ret (results_tmp2 rfl _ _ _) rfl ?_
    exact ⟨_, rfl, by rw [hL.out]; exact World.ownsRow_nil _ _ _ _, (by with_reducible repeat (first | exact Below.refl _ _ | assumption | refine below_step ?_ (by assumption) | refine Below.drew ?_ | refine below_drewN ?_ _ | refine below_alloc ?_ _ | refine Below.setCell ?_ (by simp; try omega) _))⟩
  have hlm : Hid (l.length = m.length) := Lib.hid (by
    obtain ⟨_, h1, _⟩ := okD_geo hx
    obtain ⟨_, h2, _⟩ := okD_geo hy
    obtain ⟨e1, e2, e3, _⟩ := alike_eq hz
    rw [e1, e2, e3] at h1
    omega)
  have hL := Lib.hid (chL_4 (l := l) (m := m))
  have hC := Lib.hid (show chC true true true = 0 from rfl)
  have HLL := Lib.hid (chL_len true true true l m)
  rw [hC.out]
  have HZ := Lib.hid hz
  clear hx hy hz
  go_enter Try.func18, Try.ntmps18
  go_wp2_with (first
    | (go_at_call 77; have := m2; refine (sameGeometry_any c h p s c' h' p' s' _ _ _ rfl rfl).mono ?_; rintro e w3 ⟨rfl, hx3⟩; rw [HZ.out]; replace E0 := E0.next hx3; replace E1 := E1.next hx3; have hb3 := below_step hb2 hx3; clear d0 d1 d2 d3 d4 e0 e1 e2 e3 e4; obtain ⟨d0, d1, d2, d3, d4⟩ := id E0; obtain ⟨e0, e1, e2, e3, e4⟩ := id E1)
    | (go_at_call 62; have := m1; refine (hq2 _ ((hr'.below hb1).more hb1.size)).mono ?_; rintro e w2 ⟨rfl, hx2⟩; replace E0 := E0.next hx2; replace E1 := E1.next hx2; have hb2 := below_step hb1 hx2; clear d0 d1 d2 d3 d4 e0 e1 e2 e3 e4; obtain ⟨d0, d1, d2, d3, d4⟩ := id E0; obtain ⟨e0, e1, e2, e3, e4⟩ := id E1; have m2 := True.intro)
    | (go_at_call 62; refine (hq1 _ ((hr.below hb0).more hb0.size)).mono ?_; rintro e w1 ⟨rfl, hx1⟩; replace E0 := E0.next hx1; replace E1 := E1.next hx1; have hb1 := below_step hb0 hx1; obtain ⟨d0, d1, d2, d3, d4⟩ := id E0; obtain ⟨e0, e1, e2, e3, e4⟩ := id E1; have m1 := True.intro))
  have hs3 := hb3.size
  go_loopw [6, 7, 8, 24] (fun v _ _ i wr => ∃ (k : Nat) (out : List Int), k ≤ l.length ∧ i = .int .i64 k ∧ wr.ownsRow w3.heap.size 2 1 v out.length (flat fI out) ∧ Below w3.heap.size w3 wr ∧ out.length ≤ k ∧ Hid (out ++ chG k (l.drop k) (m.drop k) = chG 0 l m)) (fun _ _ _ i _ => l.length - (intOf i).toNat)
  case atStart => exact ⟨0, [], Nat.zero_le _, rfl, World.ownsRow_nil _ _ _ _, Below.refl _ _, Nat.zero_le _, Lib.hid rfl⟩
  case round =>
    obtain ⟨k, out, hk, rfl, hown, hb, hol, HI⟩ := hrel
    obtain ⟨d0, d1, d2, d3, d4⟩ := E0.next hb
    obtain ⟨e0, e1, e2, e3, e4⟩ := E1.next hb
    have hs4 := hb.size
    by_cases hlt : k < l.length
    · have hlt' : k < m.length := by have := hlm.out; omega
      obtain ⟨b, off, rfl, hbb, hc⟩ := hr.at_ fSector_len rfl k hlt
      obtain ⟨b', off', rfl, hbb', hd'⟩ := hr'.at_ fSector_len rfl k hlt'
      have hB := hb3.trans (hb.mono hs3)
      have hc0 := (hB.cell (p := ⟨b, off + (k * 2 + 0), none⟩) hbb).trans (hc 0 _ (by omega) rfl)
      have hd0 := (hB.cell (p := ⟨b', off' + (k * 2 + 0), none⟩) hbb').trans (hd' 0 _ (by omega) rfl)
      have hc1 := (hB.cell (p := ⟨b, off + (k * 2 + 1), none⟩) hbb).trans (hc 1 _ (by omega) rfl)
      have hd1 := (hB.cell (p := ⟨b', off' + (k * 2 + 1), none⟩) hbb').trans (hd' 1 _ (by omega) rfl)
      clear hc hd'
      simp only [← Nat.add_assoc, Nat.add_zero] at hc0 hd0 hc1 hd1
      have hkm : (k : Int) < (m.length : Int) := by omega
      have q1 : Try.prog.stoodInHeld 39 = false := by kernel_rfl
      have q2 : Try.prog.eqGuardType Try.prog.depth 39 = false := by kernel_rfl
      have HS := Lib.hid (fun g => chG_same hlt hlt' g HI.out)
      have HD := Lib.hid (fun g => chG_diff hlt hlt' g HI.out)
      have f4 := fun (o : Obj) => (E1.next hb).alloc o |>.2.2.2.2
      have g0 := fun (o : Obj) => (World.cell?_alloc_lt wr o ⟨b', off' + k * 2, none⟩ (cell_spot hd0).2).trans hd0
      have g1 := fun (o : Obj) => (World.cell?_alloc_lt wr o ⟨b', off' + k * 2 + 1, none⟩ (cell_spot hd1).2).trans hd1
      cases s0 : (l[k].f0.toList == m[k].f0.toList)
      · have HN := Lib.hid (HD.out (by unfold qSec; rw [s0]; rfl))
        go_wp2_with fail
        go_quiet (fail)
        replace hb := below_drewN (below_alloc hb (.cells #[.string l[k].f0, .int .i64 l[k].f1] 39)) nq
        replace hown : OO _ _ _ _ _ _ _ := OO.dn (OO.al hown (.cells #[.string l[k].f0, .int .i64 l[k].f1] 39)) nq
        have hsz := hb.size
        generalize (wr.alloc (.cells #[.string l[k].f0, .int .i64 l[k].f1] 39)).drewN nq = w4 at hb hown hsz ⊢
        go_wp2_with (at_builtin; go_must (refine wpList_appF (f := fI) rfl _ _ _ rfl eltI (by omega) _ out rfl (OOf hown) _ _ _ _ rfl rfl rfl (by intro u hu; simp only [fI, List.mem_cons, List.not_mem_nil, or_false] at hu; subst hu; rfl) (by omega) hsz ?_); intro v5 w5 hown5 hg5 hat5 hbl5)
        go_roundw
        case rel => exact ⟨k + 1, _, by omega, by go_num, hown5, hb.trans hbl5, by rw [List.length_append, List.length_singleton]; omega, HN⟩
        case measure => (simp [intOf] <;> omega)
      cases s1 : (l[k].f1 == m[k].f1)
      · have HN := Lib.hid (HD.out (by unfold qSec; rw [s0, s1]; rfl))
        go_wp2_with fail
        go_quiet (fail)
        replace hb := below_drewN (below_alloc hb (.cells #[.string l[k].f0, .int .i64 l[k].f1] 39)) nq
        replace hown : OO _ _ _ _ _ _ _ := OO.dn (OO.al hown (.cells #[.string l[k].f0, .int .i64 l[k].f1] 39)) nq
        have hsz := hb.size
        generalize (wr.alloc (.cells #[.string l[k].f0, .int .i64 l[k].f1] 39)).drewN nq = w4 at hb hown hsz ⊢
        go_wp2_with (at_builtin; go_must (refine wpList_appF (f := fI) rfl _ _ _ rfl eltI (by omega) _ out rfl (OOf hown) _ _ _ _ rfl rfl rfl (by intro u hu; simp only [fI, List.mem_cons, List.not_mem_nil, or_false] at hu; subst hu; rfl) (by omega) hsz ?_); intro v5 w5 hown5 hg5 hat5 hbl5)
        go_roundw
        case rel => exact ⟨k + 1, _, by omega, by go_num, hown5, hb.trans hbl5, by rw [List.length_append, List.length_singleton]; omega, HN⟩
        case measure => (simp [intOf] <;> omega)
      have HN := Lib.hid (HS.out (by unfold qSec; rw [s0, s1]; rfl))
      go_wp2_with fail
      go_quiet (fail)
      go_wp2
      go_roundw
      case rel => exact ⟨k + 1, _, by omega, by go_num, OO.dn (OO.al hown _) _, (by with_reducible repeat (first | exact Below.refl _ _ | assumption | refine below_step ?_ (by assumption) | refine Below.drew ?_ | refine below_drewN ?_ _ | refine below_alloc ?_ _ | refine Below.setCell ?_ (by simp; try omega) _)), by omega, HN⟩
      case measure => (simp [intOf] <;> omega)
    · have HE := Lib.hid (chG_end hlt HI.out)
      go_wp2
      (try simp only [Exit.inBlock, Exit.then]); refine bodyPost_ret (results_tmp2 rfl _ _ _) rfl ?_
      exact ⟨_, rfl, by rw [hL.out, ← HE.out]; exact own_base hown hs3, hb3.trans (hb.mono hs3)⟩
end Go.Proofs.Yticnmljahnnhcaa
namespace Go.Proofs.Yticnmljahnnhcaa
open Go.RowKit
set_option linter.unusedVariables false

theorem okD_set {c h p s : Int} {L : List DSector} {x : DSector} (K : Nat) (hd : okD c h p s L = true) (hx : secX s x = true) : okD c h p s (L.set K x) = true := by
  obtain ⟨g1, g2, g3⟩ := okD_geo hd
  refine okD_all g1 (by rw [List.length_set]; exact g2) (fun k hk => ?_)
  rw [List.getElem_set]
  split
  · exact hx
  · exact g3 k (by rw [List.length_set] at hk; exact hk)
theorem qSec_self (x : DSector) : qSec x x = true := by simp [qSec]
theorem chG_self : ∀ (l : List DSector) (i : Nat), chG i l l = []
  | [], _ => rfl
  | x :: l, i => by rw [chG, if_pos (qSec_self x), chG_self l]
theorem chG_set : ∀ (l : List DSector) (i K : Nat) (x : DSector) (hK : K < l.length), chG i l (l.set K x) = if qSec l[K] x = true then [] else [((i + K : Nat) : Int)]
  | [], _, _, _, hK => absurd hK (by simp)
  | y :: l, i, 0, x, hK => by
    rw [List.set_cons_zero, chG, chG_self]
    rfl
  | y :: l, i, K + 1, x, hK => by
    have hK' : K < l.length := by simpa using hK
    rw [List.set_cons_succ, chG, if_pos (qSec_self y), chG_set l (i + 1) K x hK', show i + 1 + K = i + (K + 1) by omega]
    rfl
theorem alike_self (c h p s : Int) : alikeB c h p s c h p s = true := by simp [alikeB]
theorem sAt_set {c h p s k : Int} {L : List DSector} {x : DSector} (hd : okD c h p s L = true) (hx : secX s x = true) (hk : inB k 0 ((L.length : Int) - 1) = true) :
    sAt c h p s (L.set k.toNat x) ((k.tdiv p).tdiv h) ((k.tdiv p).tmod h) (k.tmod p) = (x, 0) := by
  have hd' := okD_set k.toNat hd hx
  obtain ⟨g1, g2, g3⟩ := okD_geo hd
  obtain ⟨c1, c2, h1, h2, p1, p2, s1, s2⟩ := geoB_yes g1
  obtain ⟨k0, k1⟩ := inB_yes hk
  obtain ⟨m1, m2⟩ := prod2 c1 c2 h1 h2
  have hkN : k < c * h * p := by omega
  rw [Int.tdiv_eq_ediv_of_nonneg k0, Int.tmod_eq_emod_of_nonneg k0]
  have q0 : 0 ≤ k / p := Int.ediv_nonneg k0 (by omega)
  rw [Int.tdiv_eq_ediv_of_nonneg q0, Int.tmod_eq_emod_of_nonneg q0]
  have q1 : k / p < c * h := Int.ediv_lt_of_lt_mul (by omega) hkN
  have r0 : 0 ≤ k / p / h := Int.ediv_nonneg q0 (by omega)
  have r1 : k / p / h < c := Int.ediv_lt_of_lt_mul (by omega) q1
  have t0 := Int.emod_nonneg (k / p) (show h ≠ 0 by omega)
  have t1 := Int.emod_lt_of_pos (k / p) (show 0 < h by omega)
  have u0 := Int.emod_nonneg k (show p ≠ 0 by omega)
  have u1 := Int.emod_lt_of_pos k (show 0 < p by omega)
  have hix : (k / p / h * h + (k / p) % h) * p + k % p = k := by
    have e1 := Int.mul_ediv_add_emod (k / p) h
    have e2 := Int.mul_ediv_add_emod k p
    rw [Int.mul_comm (k / p / h) h, e1, Int.mul_comm (k / p) p]
    exact e2
  have hin : inD (k / p / h) ((k / p) % h) (k % p) c h p = true := by
    simp only [inD, inB, Bool.and_eq_true, decide_eq_true_eq]
    omega
  have hse : secIx (k / p / h) ((k / p) % h) (k % p) h p = k.toNat := by rw [secIx, hix]
  have hkl : k.toNat < (L.set k.toNat x).length := by rw [List.length_set]; omega
  rw [sAt_3 hd' hin k.toNat hkl hse, List.getElem_set_self]
theorem dataL_len : ∀ (L : List DSector) (n : Nat), (∀ x ∈ L, x.f0.size = n) → (dataL L).length = n * L.length
  | [], n, _ => by simp [dataL]
  | x :: L, n, h => by
    have h1 := h x (by simp)
    have h2 := dataL_len L n (fun y hy => h y (List.mem_cons_of_mem _ hy))
    rw [dataL, List.length_append, Array.length_toList, h2, List.length_cons, Nat.mul_succ]
    show x.f0.size + _ = _
    omega
theorem dataL_at : ∀ (L : List DSector) (n j : Nat) (h : ∀ x ∈ L, x.f0.size = n) (hj : j < L.length), ((dataL L).drop (j * n)).take n = L[j].f0.data.toList
  | [], _, _, _, hj => absurd hj (by simp)
  | x :: L, n, 0, h, _ => by
    have h1 : x.f0.data.toList.length = n := by rw [Array.length_toList]; exact h x (by simp)
    rw [dataL, Nat.zero_mul, List.drop_zero, List.take_append_of_le_length (by omega), List.take_of_length_le (by omega)]
    rfl
  | x :: L, n, j + 1, h, hj => by
    have h1 : x.f0.data.toList.length = n := by rw [Array.length_toList]; exact h x (by simp)
    have hj' : j < L.length := by simpa using hj
    rw [dataL, Nat.succ_mul, List.drop_append, List.drop_eq_nil_of_le (by omega), List.nil_append, h1, show j * n + n - n = j * n by omega, dataL_at L n j (fun y hy => h y (List.mem_cons_of_mem _ hy)) hj']
    rfl
theorem ext_list (l : List UInt8) (a n : Nat) : (⟨l.toArray⟩ : ByteArray).extract a (a + n) = ⟨((l.drop a).take n).toArray⟩ := by
  apply ByteArray.ext
  rw [ByteArray.data_extract]
  apply Array.ext'
  simp [List.extract]
theorem cut_data (L : List DSector) (n : Nat) (h : ∀ x ∈ L, x.f0.size = n) : cutS ⟨(dataL L).toArray⟩ n L.length = L.map (fun x => ⟨x.f0, 1⟩) := by
  apply List.ext_getElem
  · simp [cutS]
  · intro j h1 h2
    have hj : j < L.length := by simpa [cutS] using h1
    simp only [cutS, List.getElem_map, List.getElem_range]
    rw [ext_list, dataL_at L n j h hj]
theorem data_map : ∀ (L : List DSector), dataL (L.map (fun x => ⟨x.f0, 1⟩)) = dataL L
  | [] => rfl
  | x :: L => by
    rw [List.map_cons, dataL, dataL, data_map L]
theorem st_map : ∀ (L : List DSector) (a : Int), stG (L.map (fun x => ⟨x.f0, 1⟩)) [a, 0, 0, 0] = [a + (L.length : Int), 0, 0, 0]
  | [], a => by simp [stG]
  | x :: L, a => by
    rw [List.map_cons, stG]
    show stG _ [a + 1, 0, 0, 0] = _
    rw [st_map L (a + 1), List.length_cons]
    congr 1
    omega
/-- A disc of the data of a valid disc. -/
theorem disc_data {c h p s : Int} {L : List DSector} (hd : okD c h p s L = true) : ∃ D : ByteArray, datO c h p s L = D ∧ D.size ≤ 4096 ∧ doB c h p s D = true ∧ ∃ M : List DSector, doL c h p s D = M ∧ M.length = L.length ∧ (∀ x ∈ M, okSector x) ∧ datO c h p s M = D ∧ stO c h p s M = [(L.length : Int), 0, 0, 0] := by
  obtain ⟨g1, g2, g3⟩ := okD_geo hd
  obtain ⟨c1, c2, h1, h2, p1, p2, s1, s2⟩ := geoB_yes g1
  obtain ⟨m1, m2⟩ := prod2 c1 c2 h1 h2
  obtain ⟨q1, q2⟩ := prod3 m1 m2 p1 p2
  obtain ⟨n, hn, hn32, hn8, hn2⟩ := szB_nat s1 s2
  have hsec : ∀ x ∈ L, x.f0.size = n := fun x hx => by
    obtain ⟨k, hk, rfl⟩ := List.getElem_of_mem hx
    have := g3 k hk
    simp only [secX, secB, Bool.and_eq_true, decide_eq_true_eq, hn2] at this
    exact this.1.1
  have hNs : secN c h p = L.length := by unfold secN; omega
  have hDs : (⟨(dataL L).toArray⟩ : ByteArray).size = n * L.length := by
    show (dataL L).toArray.size = _
    rw [List.size_toArray, dataL_len L n hsec]
  have hL128 : L.length ≤ 128 := by omega
  have hmul : n * L.length ≤ 32 * 128 := Nat.mul_le_mul hn32 hL128
  have hB : doB c h p s ⟨(dataL L).toArray⟩ = true := by
    simp only [doB, g1, hn2, hNs, hDs, Bool.true_and, decide_true]
  have hM : doL c h p s ⟨(dataL L).toArray⟩ = L.map (fun x => ⟨x.f0, 1⟩) := by
    unfold doL
    rw [if_pos hB, hn2, hNs, cut_data L n hsec]
  have hokM : okD c h p s (L.map (fun x => (⟨x.f0, 1⟩ : DSector))) = true := by
    refine okD_all g1 (by rw [List.length_map]; exact g2) (fun k hk => ?_)
    have hk' : k < L.length := by simpa using hk
    rw [List.getElem_map]
    have := hsec _ (List.getElem_mem hk')
    simp only [secX, hn2]
    exact sec_3 this (by decide) (by decide)
  refine ⟨_, datO_yes hd, by rw [hDs]; omega, hB, _, hM, by rw [List.length_map], ?_, ?_, ?_⟩
  · intro x hx
    rw [List.mem_map] at hx
    obtain ⟨y, hy, rfl⟩ := hx
    have := hsec y hy
    refine ⟨?_, show (-9223372036854775808 : Int) ≤ 1 by decide, show (1 : Int) ≤ 9223372036854775807 by decide⟩
    show y.f0.size ≤ maxLen
    unfold maxLen
    omega
  · rw [datO_yes hokM, data_map]
  · rw [stO_yes hokM, st_map, Int.zero_add]
end Go.Proofs.Yticnmljahnnhcaa
namespace Go.Proofs.Yticnmljahnnhcaa
open Go.RowKit
set_option linter.unusedVariables false

set_option maxHeartbeats 1000000 in
theorem nums_any (A A' : Option Addr) (c c' : Nat) (l : List Int) (w : World) (B : Nat) (h : Rd w B 1 A l.length (flat fI l)) (h' : Rd w B 1 A' l.length (flat fI l)) (hn : l.length ≤ 1048576) :
    Calls Try.prog 22 #[.slice A l.length c, .slice A' l.length c'] w fun e w' => e = .returned (.bool true) ∧ ∃ n, w' = w.drewN n := by
  go_enter Try.func22, Try.ntmps22
  go_wp2
  go_loopw [5] (fun i wr => ∃ k n : Nat, k ≤ l.length ∧ i = .int .i64 k ∧ wr = w.drewN n) (fun i _ => l.length - (intOf i).toNat)
  case atStart => exact ⟨0, 0, Nat.zero_le _, rfl, rfl⟩
  case round =>
    obtain ⟨k, n, hk, rfl, rfl⟩ := hrel
    by_cases hlt : k < l.length
    · obtain ⟨b, off, rfl, hbb, hc⟩ := h.at_ fI_len rfl k hlt
      obtain ⟨b', off', rfl, hbb', hc'⟩ := h'.at_ fI_len rfl k hlt
      have hc0 := hc 0 _ (by omega) rfl
      have hc0' := hc' 0 _ (by omega) rfl
      simp only [Nat.mul_one, Nat.add_zero] at hc0 hc0'
      have g1 : (l[k] == l[k]) = true := by simp
      go_wp2_with fail
      go_quiet (fail)
      go_wp2
      go_roundw
      case rel => exact ⟨k + 1, _, by omega, by go_num, rfl⟩
      case measure => (simp [intOf] <;> omega)
    · go_wp2
      go_ret
      exact ⟨rfl, _, rfl⟩

theorem rd_of_cp {w : World} {g B : Nat} {L : List Int} (C : CP w g (L.map (Value.int .i64))) (hB : g < B) : Rd w B 1 (some ⟨g, 0, none⟩) L.length (flat fI L) := by
  refine ⟨flat_length fI 1 fI_len L, fun _ => ⟨g, 0, rfl, hB, fun j hj => ?_⟩⟩
  have hj' : j < L.length := by rw [flat_length fI 1 fI_len] at hj; omega
  have h1 := C j (by simpa using hj')
  rw [Nat.zero_add, h1]
  have h2 := flat_get fI 1 fI_len L j 0 hj' (by omega)
  simp only [Nat.mul_one, Nat.add_zero, fI, List.getElem?_cons_zero] at h2
  rw [List.getElem?_eq_getElem hj] at h2
  rw [List.getElem_map]
  exact h2.symm
theorem pt_bad {d x : Bool} {n : Nat} {i : Int} (h : ptOk d x n i = false) : ptC d x n i ≠ 0 := by
  simp only [ptOk] at h
  unfold ptC
  split
  · rename_i g
    rw [g, Bool.true_and] at h
    rw [if_neg (by rw [h]; decide)]
    decide
  · decide
theorem pt_good {d x : Bool} {n : Nat} {i : Int} (h : ptOk d x n i = true) : ptC d x n i = 0 ∧ d = true ∧ x = true ∧ inB i 0 ((n : Int) - 1) = true := by
  simp only [ptOk, Bool.and_eq_true] at h
  obtain ⟨⟨h1, h2⟩, h3⟩ := h
  refine ⟨?_, h1, h2, h3⟩
  simp [ptC, h1, h2, h3]
theorem putDisc_any (c h p s : Int) (A : Option Addr) (cp : Nat) (L : List DSector) (k : Int) (sd : ByteArray) (st : Int) (w : World) (hr : Rd w w.heap.size 2 A L.length (flat fSector L)) (hn : L.length ≤ 1048576) (hok : ∀ x ∈ L, okSector x) (hsd : sd.size ≤ maxLen) :
    Calls Try.prog 16 #[.agg #[.int .i64 c, .int .i64 h, .int .i64 p, .int .i64 s, .slice A L.length cp], .int .i64 k, .agg #[.string sd, .int .i64 st]] w fun e w' => ∃ (c' h' p' s' x : Int) (A4 : Option Addr) (n4 c4 : Nat), e = .returned (.tuple #[.agg #[.int .i64 c', .int .i64 h', .int .i64 p', .int .i64 s', .slice A4 n4 c4], .int .i64 x]) ∧ Below w.heap.size w w' ∧
      (x ≠ 0 ∨ x = 0 ∧ okD c h p s L = true ∧ secX s ⟨sd, st⟩ = true ∧ inB k 0 ((L.length : Int) - 1) = true ∧ c = c' ∧ h = h' ∧ p = p' ∧ s = s' ∧ n4 = L.length ∧ w'.ownsRow w.heap.size 39 2 (.slice A4 L.length c4) L.length (flat fSector (L.set k.toNat ⟨sd, st⟩))) := by
  have nd := impl_PutSector_any c h p s A cp L k sd st w hr hn hok hsd
  cases hv : ptOk (okD c h p s L) (secB sd st (szB s).toNat) L.length k
  · rw [hv] at nd
    refine nd.mono ?_
    rintro e w' ⟨v4, rfl, O4, hb⟩
    obtain ⟨A4, c4, rfl⟩ := own_form O4
    exact ⟨_, _, _, _, _, _, _, _, rfl, hb, .inl (pt_bad hv)⟩
  · rw [hv] at nd
    obtain ⟨h0, h1, h2, h3⟩ := pt_good hv
    refine nd.mono ?_
    rintro e w' ⟨v4, rfl, O4, hb⟩
    obtain ⟨A4, c4, rfl⟩ := own_form O4
    refine ⟨_, _, _, _, _, _, _, _, rfl, hb, .inr ⟨h0, h1, h2, h3, rfl, rfl, rfl, rfl, ?_, ?_⟩⟩
    · show (L.set k.toNat ⟨sd, st⟩).length = L.length
      exact List.length_set
    · have e1 : ptL true L k ⟨sd, st⟩ = L.set k.toNat ⟨sd, st⟩ := rfl
      rw [e1, List.length_set] at O4
      exact O4
end Go.Proofs.Yticnmljahnnhcaa
