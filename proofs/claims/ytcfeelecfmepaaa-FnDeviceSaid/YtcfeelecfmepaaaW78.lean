/- Walks: the order of a device's sectors. -/
import Derived.Test.YtcfeelecfmepaaaW61
import Derived.Test.YtcfeelecfmepaaaW15
import Derived.Test.YtcfeelecfmepaaaStep
namespace Go.Proofs.Ytcfeelecfmepaaa
open Go.RowKit
set_option linter.unusedVariables false

/-- The first sectors of a track: a is the first of the track, b the turn. -/
def rowO (P a b : Nat) : Nat → List Int
  | 0 => []
  | j + 1 => rowO P a b j ++ [((a + (j + b) % P : Nat) : Int)]
/-- The order of the first tracks. -/
def ordT (P K : Nat) : Nat → List Int
  | 0 => []
  | t + 1 => ordT P K t ++ rowO P (t * P) (t * K) P
theorem rowO_len (P a b : Nat) : ∀ j, (rowO P a b j).length = j
  | 0 => rfl
  | j + 1 => by rw [rowO, List.length_append, rowO_len P a b j]; rfl
theorem ordT_len (P K : Nat) : ∀ t, (ordT P K t).length = t * P
  | 0 => by simp [ordT]
  | t + 1 => by rw [ordT, List.length_append, ordT_len P K t, rowO_len, Nat.succ_mul]
theorem rowO_mem (P a b : Nat) (hP : 0 < P) : ∀ j, ∀ x ∈ rowO P a b j, (a : Int) ≤ x ∧ x < (a : Int) + (P : Int)
  | 0, x, hx => absurd hx (by simp [rowO])
  | j + 1, x, hx => by
    rw [rowO, List.mem_append, List.mem_singleton] at hx
    rcases hx with hx | rfl
    · exact rowO_mem P a b hP j x hx
    · have := Nat.mod_lt (j + b) hP
      omega

set_option maxRecDepth 100000 in
set_option maxHeartbeats 1000000 in
theorem l15Order_any (g : Nat) (c h s : Int) (v : Value) (T P K : Nat) (w : World) (hd : DP w g c h (P : Int) s v) (hT : c * h = (T : Int)) (hT2 : T ≤ 16) (hP1 : 1 ≤ P) (hP2 : P ≤ 8) (hK : K ≤ 7) :
    Calls Try.prog 46 #[.pointer (some ⟨g, 0, none⟩), .int .i64 (K : Int)] w fun e w' => ∃ v, e = .returned v ∧ w'.ownsRow w.heap.size 2 1 v (ordT P K T).length (flat fI (ordT P K T)) ∧ Below w.heap.size w w' := by
  have hg := hd.lt
  have hw1 : wrap64 (c * h) = (T : Int) := by rw [hT]; exact IntWalk.wrap64_in _ ⟨by omega, by omega⟩
  have hw2 : IntKind.i64.wrap (c * h) = (T : Int) := by rw [hT]; exact IntWalk.i64_in _ (by omega)
  have hp0 : ¬ ((P : Int) = 0) := by omega
  have hp00 : ¬ (P = 0) := by omega
  have hp01 : ((P : Int) == 0) = false := by simp; omega
  have hp02 : (P == 0) = false := by simp; omega
  clear hT
  obtain ⟨d0, d1, d2, d3, d4⟩ := id hd
  go_enter Try.func46, Try.ntmps46
  go_wp2
  go_loopw [5, 6, 7] (fun v i _ wr => ∃ t : Nat, t ≤ T ∧ i = .int .i64 t ∧ wr.ownsRow w.heap.size 2 1 v (ordT P K t).length (flat fI (ordT P K t)) ∧ Below w.heap.size w wr) (fun _ i _ _ => T - (intOf i).toNat)
  case atStart => exact ⟨0, Nat.zero_le _, rfl, own_lit0 _ _, (by with_reducible repeat (first | exact Below.refl _ _ | assumption | refine below_step ?_ (by assumption) | refine Below.drew ?_ | refine below_drewN ?_ _ | refine below_alloc ?_ _ | refine Below.setCell ?_ (by simp; try omega) _))⟩
  case round =>
    obtain ⟨t, ht, rfl, hown, hb⟩ := hrel
    have D := hd.below hb hg
    obtain ⟨A0, c0, rfl⟩ := own_form hown
    obtain ⟨e0, e1, e2, e3, e4⟩ := id D
    by_cases hlt : t < T
    · have hlti : (t : Int) < (T : Int) := by omega
      go_wp2_with fail
      go_quiet (fail)
      replace D := D.drewN nq
      replace hb := below_drewN hb nq
      replace hown : OO _ _ _ _ _ _ _ := OO.dn hown nq
      generalize wr.drewN nq = w2 at D hb hown ⊢
      clear e0 e1 e2 e3 e4
      obtain ⟨e0, e1, e2, e3, e4⟩ := id D
      have hol := ordT_len P K t
      obtain ⟨a, ha⟩ : ∃ a, t * P = a := ⟨_, rfl⟩
      obtain ⟨b, hbb⟩ : ∃ b, t * K = b := ⟨_, rfl⟩
      have ha2 : a ≤ 15 * 8 := by rw [← ha]; exact Nat.mul_le_mul (by omega) hP2
      have hb2 : b ≤ 15 * 7 := by rw [← hbb]; exact Nat.mul_le_mul (by omega) hK
      rw [ha] at hol
      have HST := Lib.hid (show ordT P K (t + 1) = ordT P K t ++ rowO P a b P by rw [ordT, ha, hbb])
      have hai : (t : Int) * (P : Int) = (a : Int) := by rw [← ha]; omega
      have hbi : (t : Int) * (K : Int) = (b : Int) := by rw [← hbb]; omega
      have hx1 : IntKind.i64.wrap ((t : Int) * (P : Int)) = (a : Int) := by rw [hai]; exact IntWalk.i64_in _ (by omega)
      have hx2 : wrap64 ((t : Int) * (P : Int)) = (a : Int) := by rw [hai]; exact IntWalk.wrap64_in _ ⟨by omega, by omega⟩
      have hx3 : IntKind.i64.wrap ((t : Int) * (K : Int)) = (b : Int) := by rw [hbi]; exact IntWalk.i64_in _ (by omega)
      have hx4 : wrap64 ((t : Int) * (K : Int)) = (b : Int) := by rw [hbi]; exact IntWalk.wrap64_in _ ⟨by omega, by omega⟩
      have H1 := Lib.hid hx1
      have H2 := Lib.hid hx2
      have H3 := Lib.hid hx3
      have H4 := Lib.hid hx4
      clear hx1 hx2 hx3 hx4 hai hbi ha hbb
      generalize ordT P K t = out0 at hown hol HST
      have HOL := Lib.hid hol
      clear hol
      go_wp2_with fail
      go_loopw [5, 7] (fun v j wq => ∃ jj : Nat, jj ≤ P ∧ j = .int .i64 jj ∧ wq.ownsRow w.heap.size 2 1 v (out0 ++ rowO P a b jj).length (flat fI (out0 ++ rowO P a b jj)) ∧ Below w.heap.size w wq) (fun _ j _ => P - (intOf j).toNat)
      case atStart => exact ⟨0, Nat.zero_le _, rfl, by rw [rowO, List.append_nil]; exact hown, hb⟩
      case round =>
        obtain ⟨j, hj, rfl, hown, hb⟩ := hrel
        have D := hd.below hb hg
        obtain ⟨outj, hoj⟩ : ∃ o, o = out0 ++ rowO P a b j := ⟨_, rfl⟩
        have HOL2 := Lib.hid (show outj.length = a + j by rw [hoj, List.length_append, HOL.out, rowO_len])
        rw [← hoj] at hown
        have HOJ := Lib.hid hoj
        clear hoj
        obtain ⟨A1, c1, rfl⟩ := own_form hown
        obtain ⟨e0, e1, e2, e3, e4⟩ := id D
        by_cases hlj : j < P
        · have hlji : (j : Int) < (P : Int) := by omega
          obtain ⟨x, hx⟩ : ∃ x, (j + b) % P = x := ⟨_, rfl⟩
          have hxl : x < P := by rw [← hx]; exact Nat.mod_lt _ (by omega)
          obtain ⟨y, hy⟩ : ∃ y, y = j + b := ⟨_, rfl⟩
          have hy1 : IntKind.i64.wrap ((j : Int) + (b : Int)) = (y : Int) := by rw [hy]; exact (IntWalk.i64_in _ (by omega)).trans (by omega)
          have hrem : (y : Int).tmod (P : Int) = (x : Int) := by rw [← hx, hy]; rfl
          obtain ⟨z, hz⟩ : ∃ z, z = a + x := ⟨_, rfl⟩
          have hz1 : IntKind.i64.wrap ((a : Int) + (x : Int)) = (z : Int) := by rw [hz]; exact (IntWalk.i64_in _ (by omega)).trans (by omega)
          have hx5 : IntKind.i64.wrap (x : Int) = (x : Int) := IntWalk.i64_in _ (by omega)
          have HZ := Lib.hid hz
          have HY := Lib.hid hy
          have HR := Lib.hid (show rowO P a b (j + 1) = rowO P a b j ++ [((a + x : Nat) : Int)] by rw [rowO, hx])
          have hoL : outj.length ≤ 100000000 := by rw [HOL2.out]; omega
          have hown1 : World.ownsRow wr.drew w.heap.size 2 1 (.slice A1 outj.length c1) outj.length (flat fI outj) := hown
          have hx1 := H1.out
          have hx2 := H2.out
          have hx3 := H3.out
          have hx4 := H4.out
          clear hx hz hy
          go_wp2_with fail
          have hsz1 := hb.size
          go_region_law (refine step_appF (f := fI) rfl (.tmp 30) (.tmp 48) 27 rfl eltI (by decide) _ outj outj.length rfl (by rfl) hown1 _ _ (z : Int) _ (by rfl) (by rfl) (by rfl) (by intro u hu; simp only [fI, List.mem_cons, List.not_mem_nil, or_false] at hu; subst hu; rfl) hoL hsz1 ?_; intro v5 w5 hown5 hbl5; replace hb := (Below.drew hb).trans hbl5)
          all_goals
            clear hx1 hx2 hx3 hx4 hx5 hrem hy1 hz1
            go_wp2
            go_roundw
            case rel => exact ⟨j + 1, by omega, by go_num, by rw [HR.out, ← List.append_assoc, ← HOJ.out, ← HZ.out, List.length_append]; exact hown5, hb⟩
            case measure => (simp [intOf] <;> omega)
        · obtain rfl : j = P := by omega
          go_wp2
          go_roundw
          case rel => exact ⟨t + 1, by omega, by go_num, by rw [HST.out, ← HOJ.out]; exact hown, hb⟩
          case measure => (simp [intOf] <;> omega)
    · obtain rfl : t = T := by omega
      go_wp2_with fail
      go_quiet (fail)
      go_wp2
      go_ret
      exact ⟨_, rfl, hown, below_drewN hb _⟩
set_option maxRecDepth 100000 in
set_option maxHeartbeats 1000000 in
theorem sectorOrder_any (c h s : Int) (A : Option Addr) (n cp : Nat) (T P K : Nat) (w : World)  (hT : c * h = (T : Int)) (hT2 : T ≤ 16) (hP1 : 1 ≤ P) (hP2 : P ≤ 8) (hK : K ≤ 7) :
    Calls Try.prog 27 #[.agg #[.int .i64 c, .int .i64 h, .int .i64 (P : Int), .int .i64 s, .slice A n cp], .int .i64 (K : Int)] w fun e w' => ∃ v, e = .returned v ∧ w'.ownsRow w.heap.size 2 1 v (ordT P K T).length (flat fI (ordT P K T)) ∧ Below w.heap.size w w' := by
  have hd := DP.made w c h (P : Int) s (.slice A n cp) 26
  obtain ⟨ws, hws⟩ : ∃ ws, ws = w.alloc (.cells #[.int .i64 c, .int .i64 h, .int .i64 (P : Int), .int .i64 s, .slice A n cp] 26) := ⟨_, rfl⟩
  have hb0 : Below w.heap.size w ws := by rw [hws]; exact (by with_reducible repeat (first | exact Below.refl _ _ | assumption | refine below_step ?_ (by assumption) | refine Below.drew ?_ | refine below_drewN ?_ _ | refine below_alloc ?_ _ | refine Below.setCell ?_ (by simp; try omega) _))
  have hBs : ws.heap.size = w.heap.size + 1 := by rw [hws, World.size_alloc]
  rw [← hws] at hd
  have hg : w.heap.size < ws.heap.size := by omega
  have HW := Lib.hid hws
  have HBs := Lib.hid hBs
  clear hws hBs
  have hw1 : wrap64 (c * h) = (T : Int) := by rw [hT]; exact IntWalk.wrap64_in _ ⟨by omega, by omega⟩
  have hw2 : IntKind.i64.wrap (c * h) = (T : Int) := by rw [hT]; exact IntWalk.i64_in _ (by omega)
  have hp0 : ¬ ((P : Int) = 0) := by omega
  have hp00 : ¬ (P = 0) := by omega
  have hp01 : ((P : Int) == 0) = false := by simp; omega
  have hp02 : (P == 0) = false := by simp; omega
  clear hT
  obtain ⟨d0, d1, d2, d3, d4⟩ := id hd
  go_enter Try.func27, Try.ntmps27
  go_upto_region 2 with fail
  rw [← HW.out]
  go_wp2_with fail
  go_loopw [5, 6, 7, 13] (fun v _ _ i wr => ∃ t : Nat, t ≤ T ∧ i = .int .i64 t ∧ wr.ownsRow ws.heap.size 2 1 v (ordT P K t).length (flat fI (ordT P K t)) ∧ Below ws.heap.size ws wr) (fun _ _ _ i _ => T - (intOf i).toNat)
  case atStart => exact ⟨0, Nat.zero_le _, rfl, World.ownsRow_nil _ _ _ _, Below.refl _ _⟩
  case round =>
    obtain ⟨t, ht, rfl, hown, hb⟩ := hrel
    have D := hd.below hb hg
    obtain ⟨A0, c0, rfl⟩ := own_form hown
    obtain ⟨e0, e1, e2, e3, e4⟩ := id D
    by_cases hlt : t < T
    · have hlti : (t : Int) < (T : Int) := by omega
      have hol := ordT_len P K t
      obtain ⟨a, ha⟩ : ∃ a, t * P = a := ⟨_, rfl⟩
      obtain ⟨b, hbb⟩ : ∃ b, t * K = b := ⟨_, rfl⟩
      have ha2 : a ≤ 15 * 8 := by rw [← ha]; exact Nat.mul_le_mul (by omega) hP2
      have hb2 : b ≤ 15 * 7 := by rw [← hbb]; exact Nat.mul_le_mul (by omega) hK
      rw [ha] at hol
      have HST := Lib.hid (show ordT P K (t + 1) = ordT P K t ++ rowO P a b P by rw [ordT, ha, hbb])
      have hai : (t : Int) * (P : Int) = (a : Int) := by rw [← ha]; omega
      have hbi : (t : Int) * (K : Int) = (b : Int) := by rw [← hbb]; omega
      have hx1 : IntKind.i64.wrap ((t : Int) * (P : Int)) = (a : Int) := by rw [hai]; exact IntWalk.i64_in _ (by omega)
      have hx2 : wrap64 ((t : Int) * (P : Int)) = (a : Int) := by rw [hai]; exact IntWalk.wrap64_in _ ⟨by omega, by omega⟩
      have hx3 : IntKind.i64.wrap ((t : Int) * (K : Int)) = (b : Int) := by rw [hbi]; exact IntWalk.i64_in _ (by omega)
      have hx4 : wrap64 ((t : Int) * (K : Int)) = (b : Int) := by rw [hbi]; exact IntWalk.wrap64_in _ ⟨by omega, by omega⟩
      have H1 := Lib.hid hx1
      have H2 := Lib.hid hx2
      have H3 := Lib.hid hx3
      have H4 := Lib.hid hx4
      clear hx1 hx2 hx3 hx4 hai hbi ha hbb
      generalize ordT P K t = out0 at hown hol HST
      have HOL := Lib.hid hol
      clear hol
      go_wp2_with fail
      go_loopw [5, 7, 18] (fun v _ j wq => ∃ jj : Nat, jj ≤ P ∧ j = .int .i64 jj ∧ wq.ownsRow ws.heap.size 2 1 v (out0 ++ rowO P a b jj).length (flat fI (out0 ++ rowO P a b jj)) ∧ Below ws.heap.size ws wq) (fun _ _ j _ => P - (intOf j).toNat)
      case atStart => exact ⟨0, Nat.zero_le _, rfl, by rw [rowO, List.append_nil]; exact hown, hb⟩
      case round =>
        obtain ⟨j, hj, rfl, hown, hb⟩ := hrel
        have D := hd.below hb hg
        obtain ⟨outj, hoj⟩ : ∃ o, o = out0 ++ rowO P a b j := ⟨_, rfl⟩
        have HOL2 := Lib.hid (show outj.length = a + j by rw [hoj, List.length_append, HOL.out, rowO_len])
        rw [← hoj] at hown
        have HOJ := Lib.hid hoj
        clear hoj
        obtain ⟨A1, c1, rfl⟩ := own_form hown
        obtain ⟨e0, e1, e2, e3, e4⟩ := id D
        by_cases hlj : j < P
        · have hlji : (j : Int) < (P : Int) := by omega
          obtain ⟨x, hx⟩ : ∃ x, (j + b) % P = x := ⟨_, rfl⟩
          have hxl : x < P := by rw [← hx]; exact Nat.mod_lt _ (by omega)
          obtain ⟨y, hy⟩ : ∃ y, y = j + b := ⟨_, rfl⟩
          have hy1 : IntKind.i64.wrap ((j : Int) + (b : Int)) = (y : Int) := by rw [hy]; exact (IntWalk.i64_in _ (by omega)).trans (by omega)
          have hrem : (y : Int).tmod (P : Int) = (x : Int) := by rw [← hx, hy]; rfl
          obtain ⟨z, hz⟩ : ∃ z, z = a + x := ⟨_, rfl⟩
          have hz1 : IntKind.i64.wrap ((a : Int) + (x : Int)) = (z : Int) := by rw [hz]; exact (IntWalk.i64_in _ (by omega)).trans (by omega)
          have hx5 : IntKind.i64.wrap (x : Int) = (x : Int) := IntWalk.i64_in _ (by omega)
          have HZ := Lib.hid hz
          have HY := Lib.hid hy
          have HR := Lib.hid (show rowO P a b (j + 1) = rowO P a b j ++ [((a + x : Nat) : Int)] by rw [rowO, hx])
          have hoL : outj.length ≤ 100000000 := by rw [HOL2.out]; omega
          have hown1 : World.ownsRow wr.drew ws.heap.size 2 1 (.slice A1 outj.length c1) outj.length (flat fI outj) := hown
          have hx1 := H1.out
          have hx2 := H2.out
          have hx3 := H3.out
          have hx4 := H4.out
          clear hx hz hy
          go_wp2_with fail
          have hsz1 := hb.size
          go_region_law (refine step_appF (f := fI) rfl (.tmp 21) (.tmp 35) 27 rfl eltI (by decide) _ outj outj.length rfl (by rfl) hown1 _ _ (z : Int) _ (by rfl) (by rfl) (by rfl) (by intro u hu; simp only [fI, List.mem_cons, List.not_mem_nil, or_false] at hu; subst hu; rfl) hoL hsz1 ?_; intro v5 w5 hown5 hbl5; replace hb := (Below.drew hb).trans hbl5)
          all_goals
            clear hx1 hx2 hx3 hx4 hx5 hrem hy1 hz1
            go_wp2
            go_roundw
            case rel => exact ⟨j + 1, by omega, by go_num, by rw [HR.out, ← List.append_assoc, ← HOJ.out, ← HZ.out, List.length_append]; exact hown5, hb⟩
            case measure => (simp [intOf] <;> omega)
        · obtain rfl : j = P := by omega
          go_wp2
          go_roundw
          case rel => exact ⟨t + 1, by omega, by go_num, by rw [HST.out, ← HOJ.out]; exact hown, hb⟩
          case measure => (simp [intOf] <;> omega)
    · obtain rfl : t = T := by omega
      go_wp2
      go_ret
      exact ⟨_, rfl, own_base hown (Nat.le_of_lt hg), hb0.trans (hb.mono (Nat.le_of_lt hg))⟩
end Go.Proofs.Ytcfeelecfmepaaa
