/- Walks: the texts W11 W80s W119 W120 W121 W122 DecV AppM W40 W41 W42 SImage W43 as one text. -/
import Derived.Test.YtemppogailpoiaaW10
import Derived.Test.YtemppogailpoiaaSSector
import Derived.Test.YtemppogailpoiaaMark
import Derived.Test.YtemppogailpoiaaK1
import Derived.Test.YtemppogailpoiaaW60
import Derived.Test.YtemppogailpoiaaQB
import Derived.Test.YtemppogailpoiaaW61
import Derived.Test.YtemppogailpoiaaSDisc
import Derived.Test.YtemppogailpoiaaSInt64
import Derived.Test.YtemppogailpoiaaSString
import Derived.Test.YtemppogailpoiaaStep
import Derived.Test.YtemppogailpoiaaW31
import Derived.Test.YtemppogailpoiaaOpen
namespace Go.Proofs.Ytemppogailpoiaa
open Go.RowKit
set_option linter.unusedVariables false

end Go.Proofs.Ytemppogailpoiaa
namespace Go.Proofs.Ytemppogailpoiaa
set_option linter.unusedVariables false
open Go.RowKit

theorem setS (l : List DSector) (k : Nat) (hk : k < l.length) (y : DSector) : putV (flat fSector l) (k * 2) (fSector y) = flat fSector (l.set k y) := by
  have := flat_put fSector 2 fSector_len (l.take k) (l.drop (k + 1)) l[k] y
  rw [List.length_take, Nat.min_eq_left (by omega), ← List.drop_eq_getElem_cons hk, List.take_append_drop] at this
  rw [this]
  congr 1
  exact (List.set_eq_take_append_cons_drop.trans (if_pos hk)).symm
end Go.Proofs.Ytemppogailpoiaa
namespace Go.Proofs.Ytemppogailpoiaa
set_option linter.unusedVariables false
open Go.RowKit

set_option maxHeartbeats 400000 in
theorem hasTrack_any (c h s : Int) (P T t : Nat) (A : Option Addr) (n cp : Nat) (w : World) (hT : c * h = (T : Int)) (hT16 : T ≤ 128) :
    Calls Try.prog 59 #[.agg #[.int .i64 c, .int .i64 h, .int .i64 (P : Int), .int .i64 s, .slice A n cp], .int .i64 (t : Int)] w fun e w' => e = .returned (.bool (decide (t < T))) ∧ Below w.heap.size w w' := by
  have hw : IntKind.i64.wrap (c * h) = (T : Int) := by rw [hT]; exact IntWalk.i64_in _ (by omega)
  have hw2 : IntKind.i64.wrap ((T : Int) - 1) = (T : Int) - 1 := IntWalk.i64_in _ (by omega)
  have hin : inB (t : Int) 0 ((T : Int) - 1) = decide (t < T) := by
    unfold inB
    rw [decide_eq_true (show (0 : Int) ≤ (t : Int) by omega), Bool.true_and]
    apply decide_eq_decide.2
    omega
  have HI := Lib.hid hin
  clear hT hin
  go_enter Try.func59, Try.ntmps59
  go_wp2_with (go_at_call 54; refine (within_any _ _ _ _).mono ?_; rintro e w1 ⟨rfl, rfl⟩)
  go_ret
  exact ⟨by rw [HI.out]; rfl, (by with_reducible repeat (first | exact Below.refl _ _ | assumption | refine below_step ?_ (by assumption) | refine Below.drew ?_ | refine below_drewN ?_ _ | refine below_alloc ?_ _ | refine Below.setCell ?_ (by simp; try omega) _))⟩

theorem oneSector (x : DSector) : ∀ u ∈ fSector x, u.oneCell' = true := by
  intro u hu
  simp only [fSector, List.mem_cons, List.not_mem_nil, or_false] at hu
  rcases hu with rfl | rfl <;> rfl
theorem str_empty {d : ByteArray} (h : d.size = 0) : d = ⟨#[]⟩ := by
  apply ByteArray.ext
  exact Array.eq_empty_of_size_eq_zero h
theorem str_some {d : ByteArray} (h : ¬ d.size = 0) : (d.toList == []) = false := by
  rw [beq_eq_false_iff_ne]
  intro e
  apply h
  rw [ByteArray.toList_eq] at e
  have := congrArg List.length e
  simpa using this
theorem FillC.at_ {w : World} {g N m : Nat} {e : TypeId} {xs : List Value} (h : FillC w g e N xs m) {j : Nat} {v : Value} (hj : j < m) (hx : xs[j]? = some v) : w.cell? ⟨g, j, none⟩ = some v := by
  obtain ⟨cs, hg, hs, hc⟩ := h
  rw [cell_of_row w g j cs e (0, 0) hg, hc j hj, hx]

set_option maxRecDepth 100000 in
set_option maxHeartbeats 4000000 in
theorem readTrackData_any (c h s : Int) (P T nb b cp : Nat) (l : List DSector) (d : ByteArray) (w : World) (base : Nat) (hd : d.size ≤ maxLen) (hT : c * h = (T : Int)) (hT16 : T ≤ 16) (hP0 : 0 < P) (hP8 : P ≤ 8) (hs0 : 0 ≤ s) (hs2 : s ≤ 2) (hnb : szB s = (nb : Int)) (hnb32 : nb ≤ 32) (hl : l.length = T * P) (hcp : l.length ≤ cp)
    (ho : w.ownsRow base 46 2 (.slice (some ⟨b, 0, none⟩) l.length cp) l.length (flat fSector l)) :
    Calls Try.prog 29 #[.agg #[.int .i64 c, .int .i64 h, .int .i64 (P : Int), .int .i64 s, .slice (some ⟨b, 0, none⟩) l.length cp], .string d] w fun e w' => e = .returned (.bool (trk T P nb s d).isSome) ∧ w'.ownsRow base 46 2 (.slice (some ⟨b, 0, none⟩) l.length cp) l.length (flat fSector (rtL T P nb s l d)) ∧ w.grownBy w' (some b) := by
  unfold maxLen at hd
  have hl128 : l.length ≤ 128 := by
    rw [hl]
    exact Nat.mul_le_mul hT16 hP8
  have fail : ∀ (w' : World), trk T P nb s d = none → BB w w' → (Ending.returned (.bool false) = .returned (.bool (trk T P nb s d).isSome) ∧ w'.ownsRow base 46 2 (.slice (some ⟨b, 0, none⟩) l.length cp) l.length (flat fSector (rtL T P nb s l d)) ∧ w.grownBy w' (some b)) := fun w' h0 hB => by
    rw [h0, rtL_no h0]
    exact ⟨rfl, own_later ho hB (Nat.le_refl _), only_of_below hB _⟩
  have FAIL := Lib.hid fail
  clear fail
  have HL := Lib.hid hl
  clear hl
  have C0 : CP (w.alloc (.cells #[.int .i64 c, .int .i64 h, .int .i64 (P : Int), .int .i64 s, .slice (some ⟨b, 0, none⟩) l.length cp] 26)) w.heap.size [.int .i64 c, .int .i64 h, .int .i64 (P : Int), .int .i64 s, .slice (some ⟨b, 0, none⟩) l.length cp] := CP.made w [.int .i64 c, .int .i64 h, .int .i64 (P : Int), .int .i64 s, .slice (some ⟨b, 0, none⟩) l.length cp] 26
  have hB : BB w (w.alloc (.cells #[.int .i64 c, .int .i64 h, .int .i64 (P : Int), .int .i64 s, .slice (some ⟨b, 0, none⟩) l.length cp] 26)) := (show Below w.heap.size w (w.alloc (.cells #[.int .i64 c, .int .i64 h, .int .i64 (P : Int), .int .i64 s, .slice (some ⟨b, 0, none⟩) l.length cp] 26)) from (by with_reducible repeat (first | exact Below.refl _ _ | assumption | refine below_step ?_ (by assumption) | refine Below.drew ?_ | refine below_drewN ?_ _ | refine below_alloc ?_ _ | refine Below.setCell ?_ (by simp; try omega) _)))
  by_cases h0 : d.size = 0
  · have HR := Lib.hid (trk_0 (T := T) (P := P) (nb := nb) (s := s) h0)
    obtain rfl := str_empty h0
    clear h0
    go_enter Try.func29, Try.ntmps29
    go_wp2
    generalize (w.alloc (.cells #[.int .i64 c, .int .i64 h, .int .i64 (P : Int), .int .i64 s, .slice (some ⟨b, 0, none⟩) l.length cp] 26)) = w2 at *
    go_quiet (fail)
    replace hB : BB w _ := BB.dn hB nq
    go_wp2
    go_ret
    exact FAIL.out _ HR.out hB
  have hse := str_some h0
  have hdpos : 0 < d.size := Nat.pos_of_ne_zero h0
  have e0 := bt_eq d 0 hdpos
  have b0 := bt_lt d 0
  obtain ⟨t, ht⟩ : ∃ t, bt d 0 = t := ⟨_, rfl⟩
  rw [ht] at e0 b0
  have HTB := Lib.hid ht
  have htr := fun W => hasTrack_any c h s P T t (some ⟨b, 0, none⟩) l.length cp W hT (by omega)
  have c0 : (_ : Option Value) = some (.int .i64 c) := C0 0 (by simp)
  have c1 : (_ : Option Value) = some (.int .i64 h) := C0 1 (by simp)
  have c2 : (_ : Option Value) = some (.int .i64 (P : Int)) := C0 2 (by simp)
  have c3 : (_ : Option Value) = some (.int .i64 s) := C0 3 (by simp)
  have c4 : (_ : Option Value) = some (.slice (some ⟨b, 0, none⟩) l.length cp) := C0 4 (by simp)
  have q0 := gw_cell c0
  have q1 := gw_cell c1
  have q2 := gw_cell c2
  have q3 := gw_cell c3
  have q4 := gw_cell c4
  by_cases htT : T ≤ t
  · have HR := Lib.hid (trk_1 (P := P) (nb := nb) (s := s) h0 (by rw [ht]; exact htT))
    rw [decide_eq_false (by omega : ¬ t < T)] at htr
    clear h0 htT
    have htq := fun (p' : Regrown) => qb_below p' (htr (Sort.grow (redrawn (w.alloc (.cells #[.int .i64 c, .int .i64 h, .int .i64 (P : Int), .int .i64 s, .slice (some ⟨b, 0, none⟩) l.length cp] 26)) p'.d) p'.os))
    go_enter Try.func29, Try.ntmps29
    go_wp2
    generalize (w.alloc (.cells #[.int .i64 c, .int .i64 h, .int .i64 (P : Int), .int .i64 s, .slice (some ⟨b, 0, none⟩) l.length cp] 26)) = w2 at *
    refine wp_region_quiet_below (by kernel_rfl) (by kernel_rfl) ?_
    repeat (go_big_quiet_step ((with_reducible exact htq _)))
    refine wpQuiet_nil ?_
    intro _ hw'
    obtain ⟨pq, hw''⟩ := hw'
    subst hw''
    have hx := gw_below w2 pq
    generalize Sort.grow (redrawn w2 pq.d) pq.os = w3 at hx ⊢
    replace hB : BB w _ := BB.next hB hx
    go_wp2
    go_ret
    exact FAIL.out _ HR.out hB
  have htlt : t < T := by omega
  have htlt2 : t + 1 ≤ T := htlt
  rw [decide_eq_true htlt] at htr
  have hwt : IntKind.i64.wrap (t : Int) = (t : Int) := IntWalk.i64_in _ (by omega)
  have htq := fun (p' : Regrown) => qb_below p' (htr (Sort.grow (redrawn (w.alloc (.cells #[.int .i64 c, .int .i64 h, .int .i64 (P : Int), .int .i64 s, .slice (some ⟨b, 0, none⟩) l.length cp] 26)) p'.d) p'.os))
  have hsz := fun W => sizeBytes_any s hs0 hs2 W
  rw [hnb] at hsz
  have hun := fun W => impl_UnpackBytes_any (d.extract 1 d.size) W (by rw [ByteArray.size_extract]; unfold maxLen; omega)
  have hd1 : (1 : Int) ≤ (d.size : Int) := by omega
  have hwn : IntKind.i64.wrap ((nb : Int) + 1) = ((nb + 1 : Nat) : Int) := IntWalk.i64_in _ (by omega)
  have hHT : ¬ T ≤ bt d 0 := by rw [ht]; exact htT
  have START : True := trivial
  cases hu : unp (d.extract 1 d.size) with
  | none =>
    have HR := Lib.hid (trk_2 (P := P) (nb := nb) (s := s) h0 hHT hu)
    rw [hu] at hun
    unfold resB at hun
    clear h0 htT hHT hu
    go_enter Try.func29, Try.ntmps29
    go_wp2
    generalize (w.alloc (.cells #[.int .i64 c, .int .i64 h, .int .i64 (P : Int), .int .i64 s, .slice (some ⟨b, 0, none⟩) l.length cp] 26)) = w2 at *
    refine wp_region_quiet_below (by kernel_rfl) (by kernel_rfl) ?_
    repeat (go_big_quiet_step ((with_reducible exact htq _)))
    refine wpQuiet_nil ?_
    intro _ hw'
    obtain ⟨pq, hw''⟩ := hw'
    subst hw''
    have hx := gw_below w2 pq
    generalize Sort.grow (redrawn w2 pq.d) pq.os = w3 at hx ⊢
    replace hB : BB w _ := BB.next hB hx
    replace C0 := C0.next hx
    clear q0 q1 q2 q3 q4 c0 c1 c2 c3 c4 htq
    have c3 : (_ : Option Value) = some (.int .i64 s) := C0 3 (by simp)
    have c2 : (_ : Option Value) = some (.int .i64 (P : Int)) := C0 2 (by simp)
    go_wp2_with (first
      | (go_at_call 61; refine (hsz _).mono ?_; rintro e w5 ⟨rfl, rfl⟩)
      | (go_at_call 60; refine (hun _).mono ?_; rintro e w4 ⟨rfl, hx4⟩; replace hB : BB w _ := BB.next hB hx4; replace C0 := C0.next hx4; replace c3 : (_ : Option Value) = some (.int .i64 s) := C0 3 (by simp)))
    go_ret
    exact FAIL.out _ HR.out hB
  | some Z =>
    have hZl := Lib.hid hu
    rw [hu] at hun
    replace hun : ∀ W, Calls Try.prog 60 #[.string (d.extract 1 d.size)] W fun e w' => e = .returned (.tuple #[.string ⟨Z.toArray⟩, .bool true]) ∧ Below W.heap.size W w' := hun
    by_cases hlen : Z.length = (nb + 1) * P
    rotate_left
    · have HR := Lib.hid (trk_3 (P := P) (nb := nb) (s := s) h0 hHT hu hlen)
      have hmm : (nb + 1) * P ≤ 264 := Nat.mul_le_mul (by omega : nb + 1 ≤ 33) hP8
      have hwm : IntKind.i64.wrap (((nb + 1 : Nat) : Int) * (P : Int)) = (((nb + 1) * P : Nat) : Int) := by rw [← Int.natCast_mul]; exact IntWalk.i64_in _ (by omega)
      have hzs : (⟨Z.toArray⟩ : ByteArray).size = Z.length := by show Z.toArray.size = Z.length; simp
      have hne : (((⟨Z.toArray⟩ : ByteArray).size : Int) != (((nb + 1) * P : Nat) : Int)) = true := by rw [hzs]; simpa using (by omega : ¬ (Z.length : Int) = (((nb + 1) * P : Nat) : Int))
      generalize (⟨Z.toArray⟩ : ByteArray) = ZB at *
      generalize (nb + 1) * P = m at *
      generalize nb + 1 = n1 at *
      clear h0 htT hHT hu hlen hzs
      go_enter Try.func29, Try.ntmps29
      go_wp2
      generalize (w.alloc (.cells #[.int .i64 c, .int .i64 h, .int .i64 (P : Int), .int .i64 s, .slice (some ⟨b, 0, none⟩) l.length cp] 26)) = w2 at *
      refine wp_region_quiet_below (by kernel_rfl) (by kernel_rfl) ?_
      repeat (go_big_quiet_step ((with_reducible exact htq _)))
      refine wpQuiet_nil ?_
      intro _ hw'
      obtain ⟨pq, hw''⟩ := hw'
      subst hw''
      have hx := gw_below w2 pq
      generalize Sort.grow (redrawn w2 pq.d) pq.os = w3 at hx ⊢
      replace hB : BB w _ := BB.next hB hx
      replace C0 := C0.next hx
      clear q0 q1 q2 q3 q4 c0 c1 c2 c3 c4 htq
      have c3 : (_ : Option Value) = some (.int .i64 s) := C0 3 (by simp)
      have c2 : (_ : Option Value) = some (.int .i64 (P : Int)) := C0 2 (by simp)
      go_wp2_with (first
        | (go_at_call 61; refine (hsz _).mono ?_; rintro e w5 ⟨rfl, rfl⟩)
        | (go_at_call 60; refine (hun _).mono ?_; rintro e w4 ⟨rfl, hx4⟩; replace hB : BB w _ := BB.next hB hx4; replace C0 := C0.next hx4; replace c3 : (_ : Option Value) = some (.int .i64 s) := C0 3 (by simp); replace c2 : (_ : Option Value) = some (.int .i64 (P : Int)) := C0 2 (by simp)))
      go_ret
      exact FAIL.out _ HR.out hB
    have hzs : (⟨Z.toArray⟩ : ByteArray).size = (nb + 1) * P := by rw [← hlen]; show Z.toArray.size = Z.length; simp
    have HT4 := Lib.hid (fun (k : Nat) (hk : k < P) (h3 : secX s (secAt ⟨Z.toArray⟩ nb k) = false) => trk_4 (T := T) h0 hHT hu hk h3)
    have HT5 := Lib.hid (fun (h4 : ∀ k, k < P → secX s (secAt ⟨Z.toArray⟩ nb k) = true) => trk_5 (T := T) h0 hHT hu hlen h4)
    have hmm : (nb + 1) * P ≤ 264 := Nat.mul_le_mul (by omega : nb + 1 ≤ 33) hP8
    have hwm : IntKind.i64.wrap (((nb + 1 : Nat) : Int) * (P : Int)) = (((nb + 1) * P : Nat) : Int) := by rw [← Int.natCast_mul]; exact IntWalk.i64_in _ (by omega)
    have hne : (((⟨Z.toArray⟩ : ByteArray).size : Int) != (((nb + 1) * P : Nat) : Int)) = false := by rw [hzs]; simp
    have hmk : ∀ W, (Instr.makeSlice 24 (.int .i64 (P : Int)) (.int .i64 (P : Int))).run Try.prog W = .ok (.slice (some ⟨W.heap.size, 0, none⟩) P P) (W.alloc (.cells (madeCells (Value.agg #[.string ByteArray.empty, .int .i64 0]).cells (P * 2)) 46)) := fun W => eltSector.make P (by omega) (by omega) W
    generalize (⟨Z.toArray⟩ : ByteArray) = ZB at *
    have HZS := Lib.hid hzs
    have HMM := Lib.hid hmm
    obtain ⟨m, hm⟩ : ∃ m, (nb + 1) * P = m := ⟨_, rfl⟩
    rw [hm] at hwm hne
    obtain ⟨n1, hn1⟩ : ∃ n1, nb + 1 = n1 := ⟨_, rfl⟩
    have HN1 := Lib.hid hn1
    rw [hn1] at hwm hwn
    clear h0 htT hHT hu hlen hzs hmm hm hn1
    go_enter Try.func29, Try.ntmps29
    go_wp2
    generalize (w.alloc (.cells #[.int .i64 c, .int .i64 h, .int .i64 (P : Int), .int .i64 s, .slice (some ⟨b, 0, none⟩) l.length cp] 26)) = w2 at *
    refine wp_region_quiet_below (by kernel_rfl) (by kernel_rfl) ?_
    repeat (go_big_quiet_step ((with_reducible exact htq _)))
    refine wpQuiet_nil ?_
    intro _ hw'
    obtain ⟨pq, hw''⟩ := hw'
    subst hw''
    have hx := gw_below w2 pq
    generalize Sort.grow (redrawn w2 pq.d) pq.os = w3 at hx ⊢
    replace hB : BB w _ := BB.next hB hx
    replace C0 := C0.next hx
    clear q0 q1 q2 q3 q4 c0 c1 c2 c3 c4 htq
    have c3 : (_ : Option Value) = some (.int .i64 s) := C0 3 (by simp)
    have c2 : (_ : Option Value) = some (.int .i64 (P : Int)) := C0 2 (by simp)
    go_wp2_with (first
      | (go_at_call 61; refine (hsz _).mono ?_; rintro e w5 ⟨rfl, rfl⟩)
      | (go_at_call 60; refine (hun _).mono ?_; rintro e w4 ⟨rfl, hx4⟩; replace hB : BB w _ := BB.next hB hx4; replace C0 := C0.next hx4; replace c3 : (_ : Option Value) = some (.int .i64 s) := C0 3 (by simp); replace c2 : (_ : Option Value) = some (.int .i64 (P : Int)) := C0 2 (by simp)))
    have hw4 := Below.size hB
    have hlt4 := (cell_spot c3).2
    replace hlt4 : w.heap.size < w4.heap.size := hlt4
    clear c2 c3 hun hwm hne hw4
    have G1 := FillC.made w4 46 (Value.agg #[.string ByteArray.empty, .int .i64 0]).cells (P * 2) (flat fSector (secs ZB nb P))
    have hB4 := BB.al hB (.cells (madeCells (Value.agg #[.string ByteArray.empty, .int .i64 0]).cells (P * 2)) 46)
    have C4 := C0.al (.cells (madeCells (Value.agg #[.string ByteArray.empty, .int .i64 0]).cells (P * 2)) 46)
    generalize w4.heap.size = gs at *
    go_loopw [9, 46] (fun _ i wr => ∃ k : Nat, k ≤ P ∧ i = .int .i64 k ∧ FillC wr gs 46 (P * 2) (flat fSector (secs ZB nb P)) (k * 2) ∧ CP wr w.heap.size [.int .i64 c, .int .i64 h, .int .i64 (P : Int), .int .i64 s, .slice (some ⟨b, 0, none⟩) l.length cp] ∧ BB w wr ∧ Hid (∀ j, j < k → secX s (secAt ZB nb j) = true)) (fun _ i _ => P - (intOf i).toNat)
    case atStart => exact ⟨0, Nat.zero_le _, rfl, G1, C4, hB4, Lib.hid (fun j hj => absurd hj (Nat.not_lt_zero j))⟩
    case round =>
      clear G1 hB4 C4 hB C0
      obtain ⟨k, hk, rfl, F1, D, hB, HK⟩ := hrel
      have hfl := flat_length fSector 2 fSector_len (secs ZB nb P)
      rw [secs_len] at hfl
      by_cases hlt : k < P
      · obtain ⟨q, hq⟩ : ∃ q, k * (nb + 1) = q := ⟨_, rfl⟩
        have hkn : (k + 1) * (nb + 1) = q + (nb + 1) := by rw [Nat.succ_mul, hq]
        have hqm : q + (nb + 1) ≤ ZB.size := by
          rw [HZS.out, ← hkn, Nat.mul_comm (nb + 1)]
          exact Nat.mul_le_mul_right _ hlt
        have hzz : ZB.size ≤ 264 := by rw [HZS.out]; exact HMM.out
        have hx0 : (flat fSector (secs ZB nb P))[k * 2 + 0]? = some (.string (ZB.extract (q + 1) (q + (nb + 1)))) := by
          have := flat_get fSector 2 fSector_len (secs ZB nb P) k 0 (by rw [secs_len]; exact hlt) (by omega)
          rw [this, secs_get, secAt, hq]; rfl
        have hx1 : (flat fSector (secs ZB nb P))[k * 2 + 1]? = some (.int .i64 (bt ZB q : Int)) := by
          have := flat_get fSector 2 fSector_len (secs ZB nb P) k 1 (by rw [secs_len]; exact hlt) (by omega)
          rw [this, secs_get, secAt, hq]; rfl
        have hsx : secX s (secAt ZB nb k) = secB (ZB.extract (q + 1) (q + (nb + 1))) (bt ZB q : Int) nb := by
          rw [secX, secAt, hq, hnb]; rfl
        have hvs := fun W => validSector_any (ZB.extract (q + 1) (q + (nb + 1))) (bt ZB q : Int) s nb W (by rw [ByteArray.size_extract]; unfold maxLen; omega) hs0 hs2 hnb (by omega)
        have hN1 := HN1.out
        rw [hN1] at hqm hkn hvs hx0 hsx hq
        have hqz : q < ZB.size := by omega
        have eZ := bt_eq ZB q hqz
        have bZ := bt_lt ZB q
        have hw1 : IntKind.i64.wrap ((k : Int) * (n1 : Int)) = (q : Int) := by rw [← Int.natCast_mul, hq]; exact IntWalk.i64_in _ (by omega)
        have hw2 : IntKind.i64.wrap ((q : Int) + 1) = ((q + 1 : Nat) : Int) := IntWalk.i64_in _ (by omega)
        have hw3 : IntKind.i64.wrap ((k : Int) + 1) = ((k + 1 : Nat) : Int) := IntWalk.i64_in _ (by omega)
        have hw4 : IntKind.i64.wrap (((k + 1 : Nat) : Int) * (n1 : Int)) = ((q + n1 : Nat) : Int) := by rw [← Int.natCast_mul, hkn]; exact IntWalk.i64_in _ (by omega)
        have HKS := Lib.hid (fun (h : secX s (secAt ZB nb k) = true) => (show ∀ j, j < k + 1 → secX s (secAt ZB nb j) = true from fun j hj => by
          rcases Nat.lt_succ_iff_lt_or_eq.1 hj with hj | rfl
          · exact HK.out j hj
          · exact h))
        have HSX := Lib.hid hsx
        have HQ := Lib.hid hq
        have HKN := Lib.hid hkn
        have hqn : q + 1 ≤ q + n1 := by omega
        have hqni : ((q + 1 : Nat) : Int) ≤ ((q + n1 : Nat) : Int) := by omega
        have hqmi : ((q + n1 : Nat) : Int) ≤ (ZB.size : Int) := by omega
        have hqzi : (q : Int) < (ZB.size : Int) := by omega
        clear hq hkn hsx hN1
        obtain ⟨r1, hr1⟩ : ∃ r1, q + 1 = r1 := ⟨_, rfl⟩
        obtain ⟨r2, hr2⟩ : ∃ r2, q + n1 = r2 := ⟨_, rfl⟩
        obtain ⟨k1, hk1⟩ : ∃ k1, k + 1 = k1 := ⟨_, rfl⟩
        rw [hr1, hr2] at hqn hqni HSX hvs hx0
        rw [hr2] at hqmi hw4 hqm
        rw [hr1] at hw2
        rw [hk1] at hw3 hw4 HKS
        have HK1 := Lib.hid hk1
        clear hr1 hr2 hk1
        obtain ⟨X, hX⟩ : ∃ X, ZB.extract r1 r2 = X := ⟨_, rfl⟩
        rw [hX] at hvs HSX hx0
        generalize hY : bt ZB q = Y at *
        go_wp2
        refine wp_region_still_tail 19 (by kernel_rfl) (by kernel_rfl) ?_
        simp only [List.take_succ_cons, List.take_zero, List.drop_succ_cons, List.drop_zero]
        repeat still_step
        refine wpStill_nil ?_
        change wpList _ _ _ _ _ wr.drew
        replace F1 : FillC wr.drew _ _ _ _ _ := F1
        replace D : CP wr.drew _ _ := D
        replace hB : BB w wr.drew := BB.dr hB
        generalize wr.drew = w6 at *
        obtain ⟨u0, hu0⟩ := F1.some_ (k * 2 + 0) (by omega)
        have hfz0 := F1.free (k * 2 + 0)
        obtain ⟨u1, hu1⟩ := F1.some_ (k * 2 + 1) (by omega)
        have hfz1 := F1.free (k * 2 + 1)
        simp only [Nat.add_zero] at hu0 hfz0
        have hp0 := F1.put (.string X) (by omega) (by simpa using hx0)
        have hp1 := hp0.put (.int .i64 (Y : Int)) (by omega) hx1
        have D2 := (D.put (a := ⟨gs, k * 2, none⟩) (show w.heap.size ≠ gs by omega) (.string X)).put (a := ⟨gs, k * 2 + 1, none⟩) (show w.heap.size ≠ gs by omega) (.int .i64 (Y : Int))
        have hB2 := BB.put (a := ⟨gs, k * 2 + 1, none⟩) (BB.put (a := ⟨gs, k * 2, none⟩) hB (show w.heap.size ≤ gs by omega) (.string X)) (show w.heap.size ≤ gs by omega) (.int .i64 (Y : Int))
        go_wp2
        clear u0 hu0 hfz0 u1 hu1 hfz1 hp0 F1 D hB
        generalize (w6.setCell ⟨gs, k * 2, none⟩ (.string X)).setCell ⟨gs, k * 2 + 1, none⟩ (.int .i64 (Y : Int)) = w7 at *
        have y0 : w7.cell? ⟨gs, k * 2, none⟩ = some (.string X) := hp1.at_ (by omega) (by simpa using hx0)
        have y1 : w7.cell? ⟨gs, k * 2 + 1, none⟩ = some (.int .i64 (Y : Int)) := hp1.at_ (by omega) hx1
        have y3 : (_ : Option Value) = some (.int .i64 s) := D2 3 (by simp)
        have k0 := gw_cell y0
        have k1 := gw_cell y1
        have k3 := gw_cell y3
        have hvq := fun (p' : Regrown) => qb_below p' (hvs (Sort.grow (redrawn w7 p'.d) p'.os))
        generalize hsec : secB X (Y : Int) nb = sb at *
        refine wp_region_quiet_below (by kernel_rfl) (by kernel_rfl) ?_
        repeat (go_big_quiet_step ((with_reducible exact hvq _)))
        refine wpQuiet_nil ?_
        intro _ hw'
        obtain ⟨pq, hw''⟩ := hw'
        subst hw''
        have hx := gw_below w7 pq
        generalize Sort.grow (redrawn w7 pq.d) pq.os = w8 at hx ⊢
        have F8 := hp1.below hx hp1.lt
        have D8 := D2.next hx
        have hB8 : BB w _ := BB.next hB2 hx
        clear k0 k1 k3 hvq y0 y1 y3 hp1 D2 hB2
        cases sb
        · go_wp2
          go_ret
          exact FAIL.out _ (HT4.out k hlt HSX.out) hB8
        · go_wp2
          go_roundw
          case rel => exact ⟨k1, by have := HK1.out; omega, rfl, by rw [show k1 * 2 = k * 2 + 1 + 1 by have := HK1.out; omega]; exact F8, D8, hB8, Lib.hid (HKS.out HSX.out)⟩
          case measure => (have := HK1.out; simp [intOf]; omega)
      · obtain rfl : k = P := by omega
        have HR := Lib.hid (HT5.out HK.out)
        have hssl := secs_len ZB nb k
        have hown := F1.own (base := gs) (size := 2) (n := k) (by omega) (by omega) (Nat.le_refl _) (by simp only [maxLen]; omega)
        generalize secs ZB nb k = ss at *
        have hts := fun W => trackSectors_any c h s k t b 0 cp l W (by rw [HL.out, ← Nat.succ_mul]; exact Nat.mul_le_mul_right k htlt2) hl128 hP8 hP0 hcp
        simp only [Nat.zero_add] at hts
        have c0 : (_ : Option Value) = some (.int .i64 c) := D 0 (by simp)
        have c1 : (_ : Option Value) = some (.int .i64 h) := D 1 (by simp)
        have c2 : (_ : Option Value) = some (.int .i64 (k : Int)) := D 2 (by simp)
        have c3 : (_ : Option Value) = some (.int .i64 s) := D 3 (by simp)
        have c4 : (_ : Option Value) = some (.slice (some ⟨b, 0, none⟩) l.length cp) := D 4 (by simp)
        replace hown : OO wr _ _ _ _ _ _ := hown
        have hq2 : t * k + k ≤ l.length := by rw [HL.out, ← Nat.succ_mul]; exact Nat.mul_le_mul_right k htlt2
        have HLEN := Lib.hid hssl
        clear hssl
        go_wp2
        go_region_law (first
          | (refine step_copyF (f := fSector) rfl _ _ _ rfl eltSector fSector_len oneSector l ss rfl HLEN.out.symm hP0 hq2 rfl rfl (own_later ho hB (Nat.le_refl _)) (Rd.of_own (OOf hown)) ?_; intro w9 ho9 hg9)
          | (go_simp; go_at_call 45; refine (hts _).mono ?_; rintro e w5 ⟨rfl, hx5⟩; replace hB : BB w _ := BB.next (BB.dr hB) hx5; replace hown := OO.next (OO.dr hown) hx5))
        all_goals
          go_wp2
          go_ret
          exact ⟨by rw [HR.out]; rfl, by rw [rtL_yes HR.out, HTB.out]; exact ho9, (only_of_below hB (some b)).trans hg9⟩
end Go.Proofs.Ytemppogailpoiaa
namespace Go.Proofs.Ytemppogailpoiaa
set_option linter.unusedVariables false
open Go.RowKit

section
variable {P : Program} {w : World} {base size bytes : Nat} {e : TypeId} {z v : Value} {α : Type} {f : α → List Value}
/-- append of one struct as a step of a region that draws its order; where the row may lie is told. -/
theorem step_appG {ops : Array Oper} {o : Oper} {a : Act} {K : Act → World → Prop} {Q : Exit → Act → World → Prop} {E0 : Prop} (hgd : o.guard = none) (s x : Operand) (t : TypeId)
    (ho : o.op = .call { callee := .builtin .append, args := #[s, x], argTypes := #[t, t] }) (E : Elt P t e size bytes z) (hby : bytes ≤ 1000)
    (v : Value) (l : List α) (n : Nat) (hln : n = l.length) (hsv : a.eval s = v) (hown : w.ownsRow base e size v n (flat f l)) (cs : Array Value) (te : TypeId) (y : α) (c : Nat) (hx : a.eval x = .slice (some ⟨w.heap.size, 0, none⟩) 1 c)
    (hcs : cs.toList = f y) (hlen : (f y).length = size) (h1 : ∀ u ∈ f y, u.oneCell' = true) (hsz : l.length ≤ 100000000) (hbase : base ≤ w.heap.size)
    (h : ∀ v' w', w'.ownsRow base e size v' (l ++ [y]).length (flat f (l ++ [y])) → (w.alloc (.cells cs te)).grownBy w' v.ownBlock → (v'.ownBlock = v.ownBlock ∨ v'.ownBlock = some (w.heap.size + 1)) → Below base w w' → K (a.put o.dst v') w') :
    if Region.wanted o (yielded ops a.tmps) = true then Oper.wp P o a (w.alloc (.cells cs te)) K Q else E0 := by
  subst hln
  have hw : Region.wanted o (yielded ops a.tmps) = true := by simp [Region.wanted, hgd]
  rw [if_pos hw]
  have hcl : cs.size = size := by rw [← Array.length_toList, hcs, hlen]
  have hbb : (l.length + 1) * bytes ≤ 140737488355328 := by
    have := Nat.mul_le_mul (show l.length + 1 ≤ 100000001 by omega) hby
    omega
  have hsrc : Src P size t (.slice (some ⟨w.heap.size, 0, none⟩) 1 c) 1 (f y) (w.alloc (.cells cs te)) := by
    rw [← hcs]
    refine Src.lit E.ht w cs te 1 c (by omega) ?_
    rw [hcs]
    exact h1
  obtain ⟨v', w', hr, h2, h3, h5⟩ := run_append_src (P := P) (w.alloc (.cells cs te)) base t t o.type e z size bytes E v l.length (flat f l) (World.ownsRow.alloc hown _) _ 1 (f y) hsrc (by unfold maxLen; omega) hbb (by rw [World.size_alloc]; omega)
  unfold Oper.wp execOp
  simp only [ho, resolve, invoke, builtin, Sem.run_bind, Sem.run_pure, Result.andThen_ok, List.map_toArray, List.map_cons, List.map_nil, hsv, hx, hr]
  refine h _ _ ?_ h3 (by simpa using h5) ((Below.refl base w).alloc hbase _ |>.trans (below_of_own (World.ownsRow.alloc hown _) (by rw [World.size_alloc]; omega) h3))
  rw [List.length_append, flat_snoc]
  exact h2
end
theorem BX.grown {w w' : World} {g : Nat} {t : TypeId} {vs : List Value} {row : Option Nat} (h : BX w g t vs) (hg : w.grownBy w' row) (hne : row ≠ some g) : BX w' g t vs := (hg.block g h.lt (fun e => hne e.symm)).trans h
theorem BX.drx {w : World} {g : Nat} {t : TypeId} {vs : List Value} (h : BX w g t vs) : BX w.drew g t vs := h
theorem CP.below {w w' : World} {g B : Nat} {vs : List Value} (p : CP w g vs) (hb : Below B w w') (hg : g < B) : CP w' g vs := fun j h => (hb.cell (p := ⟨g, j, none⟩) hg).trans (p j h)
theorem oneStr (x : ByteArray) : ∀ u ∈ fS x, u.oneCell' = true := by
  intro u hu
  simp only [fS, List.mem_cons, List.not_mem_nil, or_false] at hu
  subst hu
  rfl
section
variable {T P nb : Nat} {s : Int} {n : List ByteArray} {k : Int} {d : ByteArray}
theorem entB_note (hk : k = 3) {b1 : Bool} (h1 : noteB d = b1) : entB T P nb s n ⟨k, d⟩ = (b1 && decide (n.length < 8)) := by simp [entB, hk, h1]
theorem entB_no (h3 : ¬ k = 3) (h2 : ¬ k = 2) : entB T P nb s n ⟨k, d⟩ = false := by simp [entB, h3, h2]
theorem entB_trk (h2 : k = 2) : entB T P nb s n ⟨k, d⟩ = (trk T P nb s d).isSome := by subst h2; simp [entB]
end

end Go.Proofs.Ytemppogailpoiaa
namespace Go.Proofs.Ytemppogailpoiaa
set_option linter.unusedVariables false
open Go.RowKit

end Go.Proofs.Ytemppogailpoiaa
namespace Go.Proofs.Ytemppogailpoiaa
set_option linter.unusedVariables false
open Go.RowKit

set_option maxRecDepth 100000 in
set_option maxHeartbeats 4000000 in
theorem imageOf_any (v1 : Value) (base1 : Nat) (L : List DChunk) (w : World) (ho1 : w.ownsRow base1 41 2 v1 L.length (flat fChunk L)) (hL40 : L.length ≤ 40) (hLin2 : ∀ x ∈ L, x.f1.size ≤ 1048576) :
    Calls Try.prog 23 #[v1] w fun e w' => ∃ v u, e = .returned (.tuple #[.agg #[.int .i64 (imD (imgOf L)).c, .int .i64 (imD (imgOf L)).h, .int .i64 (imD (imgOf L)).p, .int .i64 (imD (imgOf L)).s, v, u], .bool (imgOf L).isSome]) ∧ w'.ownsRow w.heap.size 46 2 v (imD (imgOf L)).l.length (flat fSector (imD (imgOf L)).l) ∧ w'.ownsRow w.heap.size 9 1 u (imD (imgOf L)).n.length (flat fS (imD (imgOf L)).n) ∧ (v.ownBlock = none ∨ v.ownBlock ≠ u.ownBlock) ∧ Below w.heap.size w w' := by
  have Z0 : BX (w.alloc (.cells #[.int .i64 0, .int .i64 0, .int .i64 0, .int .i64 0, .slice none 0 0, .slice none 0 0] 29)) w.heap.size 29 [.int .i64 0, .int .i64 0, .int .i64 0, .int .i64 0, .slice none 0 0, .slice none 0 0] := BX.made w 29 [.int .i64 0, .int .i64 0, .int .i64 0, .int .i64 0, .slice none 0 0, .slice none 0 0]
  have hB0 : BB w (w.alloc (.cells #[.int .i64 0, .int .i64 0, .int .i64 0, .int .i64 0, .slice none 0 0, .slice none 0 0] 29)) := (show Below w.heap.size w (w.alloc (.cells #[.int .i64 0, .int .i64 0, .int .i64 0, .int .i64 0, .slice none 0 0, .slice none 0 0] 29)) from (by with_reducible repeat (first | exact Below.refl _ _ | assumption | refine below_step ?_ (by assumption) | refine Below.drew ?_ | refine below_drewN ?_ _ | refine below_alloc ?_ _ | refine Below.setCell ?_ (by simp; try omega) _)))
  have ho0 : OO (w.alloc (.cells #[.int .i64 0, .int .i64 0, .int .i64 0, .int .i64 0, .slice none 0 0, .slice none 0 0] 29)) _ _ _ _ _ _ := OO.al ho1 (.cells #[.int .i64 0, .int .i64 0, .int .i64 0, .int .i64 0, .slice none 0 0, .slice none 0 0] 29)
  obtain ⟨w1, hw1⟩ : ∃ w1, w1 = (w.alloc (.cells #[.int .i64 0, .int .i64 0, .int .i64 0, .int .i64 0, .slice none 0 0, .slice none 0 0] 29)) := ⟨_, rfl⟩
  have Z := Z0
  have hB := hB0
  have ho := ho0
  rw [← hw1] at Z hB ho
  have HW := Lib.hid hw1
  clear hw1
  have hb2 : Below w.heap.size w (w.alloc (.cells #[.int .i64 0, .int .i64 0, .int .i64 0, .int .i64 0, .slice none 0 0, .slice none 0 0] 29)) := hB0
  have z0 : (_ : Option Value) = some (.int .i64 0) := Z0.cell 0 (by simp)
  have z1 : (_ : Option Value) = some (.int .i64 0) := Z0.cell 1 (by simp)
  have z2 : (_ : Option Value) = some (.int .i64 0) := Z0.cell 2 (by simp)
  have z3 : (_ : Option Value) = some (.int .i64 0) := Z0.cell 3 (by simp)
  have z4 : (_ : Option Value) = some (.slice none 0 0) := Z0.cell 4 (by simp)
  have z5 : (_ : Option Value) = some (.slice none 0 0) := Z0.cell 5 (by simp)
  have hfz := fun j => Z0.free j
  by_cases h2 : 2 ≤ L.length
  rotate_left
  · have HD := Lib.hid (imgOf_1 h2)
    have hw : IntKind.i64.wrap ((L.length : Int) - 1) = (L.length : Int) - 1 := IntWalk.i64_in _ (by omega)
    have hlt : (L.length : Int) - 1 < 1 := by omega
    obtain ⟨A1, c1, rfl⟩ := own_form ho1
    clear ho1 ho0 ho
    go_enter Try.func23, Try.ntmps23
    go_wp2
    refine bodyPost_ret (v := .tuple #[.agg #[.int .i64 0, .int .i64 0, .int .i64 0, .int .i64 0, .slice none 0 0, .slice none 0 0], .bool false]) (by simp [results, Try.results23, go_sem, z0, z1, z2, z3, z4, z5]) rfl ⟨.slice none 0 0, .slice none 0 0, by rw [HD.out]; rfl, by rw [HD.out]; exact World.ownsRow_nil _ _ _ _, by rw [HD.out]; exact World.ownsRow_nil _ _ _ _, .inl rfl, (by with_reducible repeat (first | exact Below.refl _ _ | assumption | refine below_step ?_ (by assumption) | refine Below.drew ?_ | refine below_drewN ?_ _ | refine below_alloc ?_ _ | refine Below.setCell ?_ (by simp; try omega) _))⟩
  have hpos : 0 < L.length := by omega
  have hposi : (0 : Int) < (L.length : Int) := by omega
  obtain ⟨g1, c1, hv⟩ := Go.Joins.ownsRow_form ho1 hpos
  subst hv
  have hcc := own_capD ho1
  obtain ⟨m, hm⟩ : ∃ m, L.length - 1 = m := ⟨_, rfl⟩
  have hwm : IntKind.i64.wrap ((L.length : Int) - 1) = (m : Int) := by rw [show (L.length : Int) - 1 = (m : Int) by omega]; exact IntWalk.i64_in _ (by omega)
  have hlt : ¬ (m : Int) < 1 := by omega
  have hmL : m < L.length := by omega
  have hmLi : (m : Int) < (L.length : Int) := by omega
  have h3 := imgOf_3 h2
  have h22 := imgOf_2 h2
  have h4 := imgOf_4 h2
  have hkl := mid_len (L := L)
  have hmid := fun k h => mid_get (L := L) (k := k) h
  have hd0 := hLin2 L[0] (List.getElem_mem hpos)
  have HM := Lib.hid hm
  have e4 : L[L.length - 1] = L[m] := by congr 1
  rw [e4] at h3 h4
  obtain ⟨e0, e1⟩ := row_cells (OOf ho0) 0 hpos
  obtain ⟨a0, a1⟩ := row_cells (OOf ho0) m hmL
  obtain ⟨⟨k0, d0⟩, hx0⟩ : ∃ x, L[0] = x := ⟨_, rfl⟩
  obtain ⟨⟨km, dm⟩, hxm⟩ : ∃ x, L[m] = x := ⟨_, rfl⟩
  rw [hx0] at h22 h4 hd0 e0 e1
  rw [hxm] at h3 h4 a0 a1
  simp only [Nat.zero_mul, Nat.zero_add] at h22 h4 hd0 e0 e1 h3 a0 a1
  clear e4 hx0 hxm hm
  by_cases hk1 : k0 = 1
  rotate_left
  · have HD := Lib.hid (h22 (fun x => hk1 x.1))
    have hb1 : (k0 != 1) = true := by simpa using hk1
    clear hk1 h22 h3 h4 hmid
    go_enter Try.func23, Try.ntmps23
    go_wp2
    refine bodyPost_ret (v := .tuple #[.agg #[.int .i64 0, .int .i64 0, .int .i64 0, .int .i64 0, .slice none 0 0, .slice none 0 0], .bool false]) (by simp [results, Try.results23, go_sem, z0, z1, z2, z3, z4, z5]) rfl ⟨.slice none 0 0, .slice none 0 0, by rw [HD.out]; rfl, by rw [HD.out]; exact World.ownsRow_nil _ _ _ _, by rw [HD.out]; exact World.ownsRow_nil _ _ _ _, .inl rfl, (by with_reducible repeat (first | exact Below.refl _ _ | assumption | refine below_step ?_ (by assumption) | refine Below.drew ?_ | refine below_drewN ?_ _ | refine below_alloc ?_ _ | refine Below.setCell ?_ (by simp; try omega) _))⟩
  subst hk1
  by_cases hg3 : km = 4 ∧ dm.size = 0
  rotate_left
  · have HD := Lib.hid (h3 hg3)
    by_cases hk4 : km = 4
    · have hdm := str_some (fun h => hg3 ⟨hk4, h⟩)
      subst hk4
      clear hg3 h3 h22 h4 hmid
      go_enter Try.func23, Try.ntmps23
      go_wp2
      refine bodyPost_ret (v := .tuple #[.agg #[.int .i64 0, .int .i64 0, .int .i64 0, .int .i64 0, .slice none 0 0, .slice none 0 0], .bool false]) (by simp [results, Try.results23, go_sem, z0, z1, z2, z3, z4, z5]) rfl ⟨.slice none 0 0, .slice none 0 0, by rw [HD.out]; rfl, by rw [HD.out]; exact World.ownsRow_nil _ _ _ _, by rw [HD.out]; exact World.ownsRow_nil _ _ _ _, .inl rfl, (by with_reducible repeat (first | exact Below.refl _ _ | assumption | refine below_step ?_ (by assumption) | refine Below.drew ?_ | refine below_drewN ?_ _ | refine below_alloc ?_ _ | refine Below.setCell ?_ (by simp; try omega) _))⟩
    · have hb4 : (km == 4) = false := by simpa using hk4
      clear hg3 hk4 h3 h22 h4 hmid
      go_enter Try.func23, Try.ntmps23
      go_wp2
      refine bodyPost_ret (v := .tuple #[.agg #[.int .i64 0, .int .i64 0, .int .i64 0, .int .i64 0, .slice none 0 0, .slice none 0 0], .bool false]) (by simp [results, Try.results23, go_sem, z0, z1, z2, z3, z4, z5]) rfl ⟨.slice none 0 0, .slice none 0 0, by rw [HD.out]; rfl, by rw [HD.out]; exact World.ownsRow_nil _ _ _ _, by rw [HD.out]; exact World.ownsRow_nil _ _ _ _, .inl rfl, (by with_reducible repeat (first | exact Below.refl _ _ | assumption | refine below_step ?_ (by assumption) | refine Below.drew ?_ | refine below_drewN ?_ _ | refine below_alloc ?_ _ | refine Below.setCell ?_ (by simp; try omega) _))⟩
  obtain ⟨hk4, hdm0⟩ := hg3
  obtain rfl := str_empty hdm0
  subst hk4
  clear h3 hdm0
  cases hh : hdB d0
  · have HD := Lib.hid (h22 (fun x => by rw [hh] at x; cases x.2))
    have hrd := fun W => readHeader_no d0 W (by unfold maxLen; omega) hh
    clear hh h22 h4 hmid
    go_enter Try.func23, Try.ntmps23
    go_wp2_with (go_at_call 28; rw [← HW.out]; refine (hrd _).mono ?_; rintro e w2 ⟨rfl, hx2⟩; replace Z := Z.below hx2 Z.lt; replace hB : BB w _ := BB.next hB hx2; clear z0 z1 z2 z3 z4 z5 hfz hb2; have ZA := fun o : Obj => BX.al Z o; have hb2 : Below w.heap.size w _ := hB; have z0 := fun o : Obj => (ZA o).cell 0 (by simp); have z1 := fun o : Obj => (ZA o).cell 1 (by simp); have z2 := fun o : Obj => (ZA o).cell 2 (by simp); have z3 := fun o : Obj => (ZA o).cell 3 (by simp); have z4 := fun o : Obj => (ZA o).cell 4 (by simp); have z5 := fun o : Obj => (ZA o).cell 5 (by simp); have hfz := fun (o : Obj) j => (ZA o).free j)
    refine bodyPost_ret (v := .tuple #[.agg #[.int .i64 0, .int .i64 0, .int .i64 0, .int .i64 0, .slice none 0 0, .slice none 0 0], .bool false]) (by simp [results, Try.results23, go_sem, World.cell?_setCell_other, z0, z1, z2, z3, z4, z5]) rfl ⟨.slice none 0 0, .slice none 0 0, by rw [HD.out]; rfl, by rw [HD.out]; exact World.ownsRow_nil _ _ _ _, by rw [HD.out]; exact World.ownsRow_nil _ _ _ _, .inl rfl, (by with_reducible repeat (first | exact Below.refl _ _ | assumption | refine below_step ?_ (by assumption) | refine Below.drew ?_ | refine below_drewN ?_ _ | refine below_alloc ?_ _ | refine Below.setCell ?_ (by simp; try omega) _))⟩
  have himg := h4 rfl hh rfl rfl
  obtain ⟨n1, n2, n3, n4, n5, n6, n7, n8, n9, n10, n11, n12, n13, n14⟩ := hd_nums hh
  have hdisc := fun W => readHeader_yes d0 W hh
  rw [show newS (bt d0 3 : Int) (bt d0 4 : Int) (bt d0 5 : Int) (bt d0 6 : Int) = hdL d0 from rfl] at hdisc
  unfold bodyOf at himg
  rw [n10, n11] at hdisc himg
  generalize hdL d0 = l0 at *
  generalize (bt d0 3 : Int) = c at *
  generalize (bt d0 4 : Int) = h at *
  generalize hdT d0 = T at *
  generalize hdP d0 = P at *
  generalize hdS d0 = s at *
  generalize hdNb d0 = nb at *
  have hNpos : 0 < l0.length := by rw [n9]; exact Nat.mul_pos n14 n3
  obtain ⟨NL, hNL⟩ : ∃ NL, l0.length = NL := ⟨_, rfl⟩
  have HNL : Hid (NL = T * P) := Lib.hid (by rw [← hNL, n9])
  rw [hNL] at hdisc hNpos
  have HL0 := Lib.hid hNL
  have hm1 : 1 ≤ m := by omega
  have hm1i : (1 : Int) ≤ (m : Int) := by omega
  have hmc : m ≤ c1 := by omega
  have hmci : (m : Int) ≤ (c1 : Int) := by omega
  have hc1 : ¬ c1 = 1 := by omega
  have hc2 : ¬ 1 = c1 := by omega
  clear n9 n12 hNL hh h22 h4
  go_enter Try.func23, Try.ntmps23
  go_wp2_with (go_at_call 28; rw [← HW.out]; refine (hdisc _).mono ?_; rintro e w2 ⟨v2, rfl, hown2, hx2⟩; obtain ⟨b, cp, hv⟩ := Go.Joins.ownsRow_form hown2 hNpos; cases hv)
  have hbl := (World.ownsRow.lt hown2 b rfl).2
  have hbw1 := (World.ownsRow.lt hown2 b rfl).1
  have hcp := own_capD hown2
  have hx2s := hx2.size
  have FX : BX ((w2.alloc (.cells #[.int .i64 c, .int .i64 h, .int .i64 (P : Int), .int .i64 s, .slice (some ⟨b, 0, none⟩) NL cp] 26)).alloc (.cells #[.int .i64 c, .int .i64 h, .int .i64 (P : Int), .int .i64 s, .slice (some ⟨b, 0, none⟩) NL cp, .slice none 0 0] 29)) (w2.heap.size + 1) 29 [.int .i64 c, .int .i64 h, .int .i64 (P : Int), .int .i64 s, .slice (some ⟨b, 0, none⟩) NL cp, .slice none 0 0] := BX.made1 w2 (.cells #[.int .i64 c, .int .i64 h, .int .i64 (P : Int), .int .i64 s, .slice (some ⟨b, 0, none⟩) NL cp] 26) 29 [.int .i64 c, .int .i64 h, .int .i64 (P : Int), .int .i64 s, .slice (some ⟨b, 0, none⟩) NL cp, .slice none 0 0]
  have OX : OO ((w2.alloc (.cells #[.int .i64 c, .int .i64 h, .int .i64 (P : Int), .int .i64 s, .slice (some ⟨b, 0, none⟩) NL cp] 26)).alloc (.cells #[.int .i64 c, .int .i64 h, .int .i64 (P : Int), .int .i64 s, .slice (some ⟨b, 0, none⟩) NL cp, .slice none 0 0] 29)) w1.heap.size 46 2 (.slice (some ⟨b, 0, none⟩) NL cp) NL (flat fSector l0) := OO.al (OO.al hown2 (.cells #[.int .i64 c, .int .i64 h, .int .i64 (P : Int), .int .i64 s, .slice (some ⟨b, 0, none⟩) NL cp] 26)) (.cells #[.int .i64 c, .int .i64 h, .int .i64 (P : Int), .int .i64 s, .slice (some ⟨b, 0, none⟩) NL cp, .slice none 0 0] 29)
  have BX1 : Below w1.heap.size w1 ((w2.alloc (.cells #[.int .i64 c, .int .i64 h, .int .i64 (P : Int), .int .i64 s, .slice (some ⟨b, 0, none⟩) NL cp] 26)).alloc (.cells #[.int .i64 c, .int .i64 h, .int .i64 (P : Int), .int .i64 s, .slice (some ⟨b, 0, none⟩) NL cp, .slice none 0 0] 29)) := below_alloc (below_alloc hx2 _) _
  have hgb : w2.heap.size + 1 ≠ b := by omega
  have hbase : w1.heap.size ≤ w2.heap.size + 1 := by omega
  have hz1 : w.heap.size < w1.heap.size := Z.lt
  generalize w2.heap.size + 1 = gx at *
  generalize ((w2.alloc (.cells #[.int .i64 c, .int .i64 h, .int .i64 (P : Int), .int .i64 s, .slice (some ⟨b, 0, none⟩) NL cp] 26)).alloc (.cells #[.int .i64 c, .int .i64 h, .int .i64 (P : Int), .int .i64 s, .slice (some ⟨b, 0, none⟩) NL cp, .slice none 0 0] 29)) = w3 at *
  obtain ⟨R, hR⟩ : ∃ R, decG T P nb s (mid L) l0 [] = R := ⟨_, rfl⟩
  rw [hR] at himg
  have HI := Lib.hid himg
  have HR0 := Lib.hid hR
  have HKL := Lib.hid hkl
  clear himg hR hkl hown2 hx2 hx2s hbl a0 a1 e0 e1 z0 z1 z2 z3 z4 z5 hfz hb2 ho0 Z0 hB0
  obtain ⟨base, hbe⟩ : ∃ base, w1.heap.size = base := ⟨_, rfl⟩
  rw [hbe] at hz1 hbase hbw1 OX BX1
  have HBE := Lib.hid hbe
  clear hbe
  have hz1' := Nat.le_of_lt hz1
  obtain ⟨m2, hm2⟩ : ∃ m2, m - 1 = m2 := ⟨_, rfl⟩
  rw [hm2]
  have HM2 := Lib.hid hm2
  clear hm2
  go_loopw [48] (fun i wr => ∃ (k : Nat) (l : List DSector) (n : List ByteArray) (B : Option Addr) (q : Nat), k ≤ (mid L).length ∧ i = .int .i64 (k : Int) ∧ l.length = NL ∧ n.length ≤ 8 ∧ BX wr gx 29 [.int .i64 c, .int .i64 h, .int .i64 (P : Int), .int .i64 s, .slice (some ⟨b, 0, none⟩) NL cp, .slice B n.length q] ∧ wr.ownsRow base 46 2 (.slice (some ⟨b, 0, none⟩) NL cp) NL (flat fSector l) ∧ wr.ownsRow base 9 1 (.slice B n.length q) n.length (flat fS n) ∧ (Value.slice B n.length q).ownBlock ≠ some gx ∧ (Value.slice B n.length q).ownBlock ≠ some b ∧ Below base w1 wr ∧ Hid (decG T P nb s ((mid L).drop k) l n = R)) (fun i _ => L.length - (intOf i).toNat)
  case atStart => exact ⟨0, l0, [], none, 0, Nat.zero_le _, rfl, HL0.out, by simp, FX, OX, World.ownsRow_nil _ _ _ _, by simp [Value.ownBlock], by simp [Value.ownBlock], BX1, Lib.hid (by rw [List.drop_zero]; exact HR0.out)⟩
  case round =>
    clear FX OX BX1
    obtain ⟨k, l, n, B, q, hk, rfl, hl, hn8, F, O, K, hgB, hbB, hB1, HG⟩ := hrel
    have hBr : Below w.heap.size w wr := Below.trans hB (hB1.mono hz1')
    have Zr := Z.below hB1 hz1
    have hmk := HKL.out
    have hmm := HM.out
    have hmm2 := HM2.out
    by_cases hlt : k < (mid L).length
    · have hi1 : 1 + k < L.length := by omega
      have hkm2 : k < m2 := by omega
      have hmi : (k : Int) < (m2 : Int) := by omega
      have hkc1 : k < c1 - 1 := by omega
      have hw1 : IntKind.i64.wrap ((k : Int) + 1) = ((k + 1 : Nat) : Int) := IntWalk.i64_in _ (by omega)
      obtain ⟨a0, a1⟩ := row_cells (own_later (OOf ho) hB1 (Nat.le_of_eq HBE.out)) (1 + k) hi1
      rw [show (1 + k) * 2 = 2 + k * 2 by omega] at a0 a1
      have hmg := hmid k hlt hi1
      have hd := hLin2 L[1 + k] (List.getElem_mem hi1)
      obtain ⟨⟨kc, dc⟩, hx⟩ : ∃ x, L[1 + k] = x := ⟨_, rfl⟩
      rw [hx] at a0 a1 hmg hd
      have hd2 : dc.size ≤ maxLen := by
        have h9 : dc.size ≤ 1048576 := hd
        unfold maxLen
        omega
      have hbs : base ≤ wr.heap.size := by have := hB1.size; have := HBE.out; omega
      have Fq := F.al (.cells #[.int .i64 kc, .string dc] 41)
      have Zq := Zr.al (.cells #[.int .i64 kc, .string dc] 41)
      have Cq : CP (wr.alloc (.cells #[.int .i64 kc, .string dc] 41)) wr.heap.size [.int .i64 kc, .string dc] := CP.made wr [.int .i64 kc, .string dc] 41
      have Oq := OO.al O (.cells #[.int .i64 kc, .string dc] 41)
      have Kq := OO.al K (.cells #[.int .i64 kc, .string dc] 41)
      have Bq := Below.alloc hB1 hbs (.cells #[.int .i64 kc, .string dc] 41)
      have hbq : Below w.heap.size w (wr.alloc (.cells #[.int .i64 kc, .string dc] 41)) := below_alloc hBr _
      have hgc : wr.heap.size ≠ b := by have := (World.ownsRow.lt O b rfl).2; omega
      have HMG := Lib.hid hmg
      have HLT := Lib.hid hlt
      clear hmg hx hmm hmk hmm2 hd
      go_upto_region 12 with fail
      clear a0 a1 F Zr O K hB1 hBr
      generalize wr.heap.size = gc at *
      generalize wr.alloc (.cells #[.int .i64 kc, .string dc] 41) = w6 at *
      have c0 : (_ : Option Value) = some (.int .i64 kc) := Cq 0 (by simp)
      have cd : (_ : Option Value) = some (.string dc) := Cq 1 (by simp)
      have f0 : (_ : Option Value) = some (.int .i64 c) := Fq.cell 0 (by simp)
      have f1 : (_ : Option Value) = some (.int .i64 h) := Fq.cell 1 (by simp)
      have f2 : (_ : Option Value) = some (.int .i64 (P : Int)) := Fq.cell 2 (by simp)
      have f3 : (_ : Option Value) = some (.int .i64 s) := Fq.cell 3 (by simp)
      have f4 : (_ : Option Value) = some (.slice (some ⟨b, 0, none⟩) NL cp) := Fq.cell 4 (by simp)
      have f5 : (_ : Option Value) = some (.slice B n.length q) := Fq.cell 5 (by simp)
      by_cases hk2 : kc = 2
      · subst hk2
        have hcon := readTrackData_any c h s P T nb b cp l dc w6 base hd2 n1 n2 n3 n4 n5 n6 n7 n8 (by rw [hl]; exact HNL.out) (by rw [hl]; exact hcp) (by rw [hl]; exact Oq)
        rw [hl] at hcon
        have hbk3 : ((2 : Int) == 3) = false := rfl
        have hnz : some b ≠ some w.heap.size := by intro e; cases e; omega
        cases htk : trk T P nb s dc with
        | none =>
          have HD := Lib.hid (show imgOf L = none by rw [HI.out, decG_no HLT.out (by rw [HMG.out, entB_trk rfl, htk]; rfl) HG.out]; rfl)
          rw [htk] at hcon
          replace hcon : Calls Try.prog 29 _ w6 fun e w' => e = .returned (.bool false) ∧ _ := hcon
          clear htk
          go_wp2_with (go_at_call 29; refine hcon.mono ?_; clear hcon; rintro e w7 ⟨rfl, O7, hg7⟩; clear c0 cd; have Cf := CP.far Cq hg7 (by intro e; cases e; exact hgc rfl); have c0 : (_ : Option Value) = some (.int .i64 2) := Cf 0 (by simp); have Z := Zq.grown hg7 hnz; have hb2 : Below w.heap.size w w7 := hbq.grown hg7 hbq.size (fun y hy => by cases hy; omega); have z0 : (_ : Option Value) = some (.int .i64 0) := Z.cell 0 (by simp); have z1 : (_ : Option Value) = some (.int .i64 0) := Z.cell 1 (by simp); have z2 : (_ : Option Value) = some (.int .i64 0) := Z.cell 2 (by simp); have z3 : (_ : Option Value) = some (.int .i64 0) := Z.cell 3 (by simp); have z4 : (_ : Option Value) = some (.slice none 0 0) := Z.cell 4 (by simp); have z5 : (_ : Option Value) = some (.slice none 0 0) := Z.cell 5 (by simp); have hfz := fun j => Z.free j)
          refine bodyPost_ret (v := .tuple #[.agg #[.int .i64 0, .int .i64 0, .int .i64 0, .int .i64 0, .slice none 0 0, .slice none 0 0], .bool false]) (by simp [results, Try.results23, go_sem, World.cell?_setCell_other, z0, z1, z2, z3, z4, z5]) rfl ⟨.slice none 0 0, .slice none 0 0, by rw [HD.out]; rfl, by rw [HD.out]; exact World.ownsRow_nil _ _ _ _, by rw [HD.out]; exact World.ownsRow_nil _ _ _ _, .inl rfl, (by with_reducible repeat (first | exact Below.refl _ _ | assumption | refine below_step ?_ (by assumption) | refine Below.drew ?_ | refine below_drewN ?_ _ | refine below_alloc ?_ _ | refine Below.setCell ?_ (by simp; try omega) _))⟩
        | some ss =>
          have hN := decG_yes HLT.out (by rw [HMG.out, entB_trk rfl, htk]; rfl) HG.out
          rw [HMG.out, entL_yes rfl, entN_no (by decide)] at hN
          have HN := Lib.hid hN
          have hl' := rtL_len (T := T) (P := P) (nb := nb) (s := s) (l := l) (by rw [hl]; exact HNL.out) dc
          rw [← HNL.out] at hl'
          rw [htk] at hcon
          replace hcon : Calls Try.prog 29 _ w6 fun e w' => e = .returned (.bool true) ∧ _ := hcon
          generalize rtL T P nb s l dc = l' at *
          clear htk hN
          go_wp2_with (go_at_call 29; refine hcon.mono ?_; clear hcon; rintro e w7 ⟨rfl, O7, hg7⟩; have F7 := Fq.grown hg7 (by intro e; cases e; exact hgb rfl); have K7 := World.ownsRow.kept (OOf Kq) hg7 (.inr hbB); have B7 := Bq.grown hg7 (by have := Bq.size; have := HBE.out; omega) (fun y hy => by cases hy; exact hbw1))
          go_roundw
          case rel => exact ⟨k + 1, l', n, B, q, HLT.out, rfl, hl', hn8, F7, O7, K7, hgB, hbB, B7, HN⟩
          case measure => (have := HLT.out; have := HKL.out; simp [intOf]; omega)
      · have hbk2 : (kc == 2) = false := by simpa using hk2
        have hvn := fun W => validNote_any dc W hd2
        have Z := Zq
        have hb2 := hbq
        have z0 : (_ : Option Value) = some (.int .i64 0) := Z.cell 0 (by simp)
        have z1 : (_ : Option Value) = some (.int .i64 0) := Z.cell 1 (by simp)
        have z2 : (_ : Option Value) = some (.int .i64 0) := Z.cell 2 (by simp)
        have z3 : (_ : Option Value) = some (.int .i64 0) := Z.cell 3 (by simp)
        have z4 : (_ : Option Value) = some (.slice none 0 0) := Z.cell 4 (by simp)
        have z5 : (_ : Option Value) = some (.slice none 0 0) := Z.cell 5 (by simp)
        have hfz := fun j => Z.free j
        by_cases hk3 : kc = 3
        rotate_left
        · have hbk3 : (kc == 3) = false := by simpa using hk3
          have HD := Lib.hid (show imgOf L = none by rw [HI.out, decG_no HLT.out (by rw [HMG.out]; exact entB_no hk3 hk2) HG.out]; rfl)
          clear hk2 hk3
          go_wp2
          refine bodyPost_ret (v := .tuple #[.agg #[.int .i64 0, .int .i64 0, .int .i64 0, .int .i64 0, .slice none 0 0, .slice none 0 0], .bool false]) (by simp [results, Try.results23, go_sem, World.cell?_setCell_other, z0, z1, z2, z3, z4, z5]) rfl ⟨.slice none 0 0, .slice none 0 0, by rw [HD.out]; rfl, by rw [HD.out]; exact World.ownsRow_nil _ _ _ _, by rw [HD.out]; exact World.ownsRow_nil _ _ _ _, .inl rfl, (by with_reducible repeat (first | exact Below.refl _ _ | assumption | refine below_step ?_ (by assumption) | refine Below.drew ?_ | refine below_drewN ?_ _ | refine below_alloc ?_ _ | refine Below.setCell ?_ (by simp; try omega) _))⟩
        · subst hk3
          cases hnb1 : noteB dc
          · have HD := Lib.hid (show imgOf L = none by rw [HI.out, decG_no HLT.out (by rw [HMG.out, entB_note rfl hnb1]; rfl) HG.out]; rfl)
            rw [hnb1] at hvn
            clear hnb1
            go_wp2_with (go_at_call 30; refine (hvn _).mono ?_; rintro e w7 ⟨rfl, rfl⟩)
            refine bodyPost_ret (v := .tuple #[.agg #[.int .i64 0, .int .i64 0, .int .i64 0, .int .i64 0, .slice none 0 0, .slice none 0 0], .bool false]) (by simp [results, Try.results23, go_sem, World.cell?_setCell_other, z0, z1, z2, z3, z4, z5]) rfl ⟨.slice none 0 0, .slice none 0 0, by rw [HD.out]; rfl, by rw [HD.out]; exact World.ownsRow_nil _ _ _ _, by rw [HD.out]; exact World.ownsRow_nil _ _ _ _, .inl rfl, (by with_reducible repeat (first | exact Below.refl _ _ | assumption | refine below_step ?_ (by assumption) | refine Below.drew ?_ | refine below_drewN ?_ _ | refine below_alloc ?_ _ | refine Below.setCell ?_ (by simp; try omega) _))⟩
          · rw [hnb1] at hvn
            by_cases h8 : n.length < 8
            rotate_left
            · have HD := Lib.hid (show imgOf L = none by rw [HI.out, decG_no HLT.out (by rw [HMG.out, entB_note rfl hnb1, decide_eq_false h8]; rfl) HG.out]; rfl)
              have hge : ¬ (n.length : Int) < 8 := by omega
              clear hnb1 h8 hn8
              go_wp2_with (go_at_call 30; refine (hvn _).mono ?_; rintro e w7 ⟨rfl, rfl⟩)
              refine bodyPost_ret (v := .tuple #[.agg #[.int .i64 0, .int .i64 0, .int .i64 0, .int .i64 0, .slice none 0 0, .slice none 0 0], .bool false]) (by simp [results, Try.results23, go_sem, World.cell?_setCell_other, z0, z1, z2, z3, z4, z5]) rfl ⟨.slice none 0 0, .slice none 0 0, by rw [HD.out]; rfl, by rw [HD.out]; exact World.ownsRow_nil _ _ _ _, by rw [HD.out]; exact World.ownsRow_nil _ _ _ _, .inl rfl, (by with_reducible repeat (first | exact Below.refl _ _ | assumption | refine below_step ?_ (by assumption) | refine Below.drew ?_ | refine below_drewN ?_ _ | refine below_alloc ?_ _ | refine Below.setCell ?_ (by simp; try omega) _))⟩
            · have hN := decG_yes HLT.out (by rw [HMG.out, entB_note rfl hnb1, decide_eq_true h8]; rfl) HG.out
              rw [HMG.out, entL_no (by decide), entN_yes rfl hnb1 h8] at hN
              have HN := Lib.hid hN
              have hge : (n.length : Int) < 8 := by omega
              have hn9 : (n ++ [dc]).length ≤ 8 := by simp; omega
              have hby16 : 16 ≤ 1000 := by decide
              have hnbig : n.length ≤ 100000000 := by omega
              have hbs6 : base ≤ w6.heap.size := by have := Bq.size; have := HBE.out; omega
              have hgx6 := Fq.lt
              have hb6 := (World.ownsRow.lt (OOf Oq) b rfl).2
              have hlen1 : (n ++ [dc]).length = n.length + 1 := by simp
              have HL1 := Lib.hid hlen1
              clear hnb1 h8 hN hlen1 z0 z1 z2 z3 z4 z5 hfz
              go_wp2_with (first
                | (at_builtin; go_must (refine wpList_appF (f := fS) rfl _ _ 27 rfl eltStr hby16 (.slice B n.length q) n rfl (OOf Kq) _ _ dc _ rfl rfl rfl (oneStr dc) hnbig hbs6 ?_); intro v8 w8 K8 hg8 hat8 hbl8; obtain ⟨A5, c5, rfl⟩ := own_form K8; have F8 := (Fq.al (.cells #[.string dc] 9)).grown hg8 hgB; have O8 := World.ownsRow.kept (OO.al Oq (.cells #[.string dc] 9)) hg8 (.inr (fun e => hbB e.symm)); have g5 : (_ : Option Value) = some (.slice B n.length q) := F8.cell 5 (by simp); have hfz := fun j => F8.free j; have hg1 : (Value.slice A5 (n ++ [dc]).length c5).ownBlock ≠ some gx := (by rcases hat8 with h | h <;> rw [h] <;> first | exact hgB | (intro e; simp at e; omega)); have hb1 : (Value.slice A5 (n ++ [dc]).length c5).ownBlock ≠ some b := (by rcases hat8 with h | h <;> rw [h] <;> first | exact hbB | (intro e; simp at e; omega)); rw [HL1.out] at K8 hg1 hb1)
                | (go_at_call 30; refine (hvn _).mono ?_; rintro e w7 ⟨rfl, rfl⟩))
              go_roundw
              case rel => exact ⟨k + 1, l, n ++ [dc], A5, c5, HLT.out, rfl, hl, hn9, by rw [HL1.out]; exact F8.put 5 _, OO.putne O8 (a := ⟨gx, 5, none⟩) (by intro e; apply hgb; simpa [Value.ownBlock] using e.symm) _, by rw [HL1.out]; exact OO.putne K8 (a := ⟨gx, 5, none⟩) hg1 _, by rw [HL1.out]; exact hg1, by rw [HL1.out]; exact hb1, Below.setCell (Bq.trans hbl8) hbase _, HN⟩
              case measure => (have := HLT.out; have := HKL.out; simp [intOf]; omega)
    · have hkm : k = m2 := by omega
      subst hkm
      have hmi : ¬ (k : Int) < (k : Int) := by omega
      have HD := Lib.hid (show imgOf L = some ⟨c, h, P, s, l, n⟩ by rw [HI.out, decG_end hlt HG.out]; rfl)
      have f0 : (_ : Option Value) = some (.int .i64 c) := F.cell 0 (by simp)
      have f1 : (_ : Option Value) = some (.int .i64 h) := F.cell 1 (by simp)
      have f2 : (_ : Option Value) = some (.int .i64 (P : Int)) := F.cell 2 (by simp)
      have f3 : (_ : Option Value) = some (.int .i64 s) := F.cell 3 (by simp)
      have f4 : (_ : Option Value) = some (.slice (some ⟨b, 0, none⟩) NL cp) := F.cell 4 (by simp)
      have f5 : (_ : Option Value) = some (.slice B n.length q) := F.cell 5 (by simp)
      have Z := Zr
      have z0 : (_ : Option Value) = some (.int .i64 0) := Z.cell 0 (by simp)
      have z1 : (_ : Option Value) = some (.int .i64 0) := Z.cell 1 (by simp)
      have z2 : (_ : Option Value) = some (.int .i64 0) := Z.cell 2 (by simp)
      have z3 : (_ : Option Value) = some (.int .i64 0) := Z.cell 3 (by simp)
      have z4 : (_ : Option Value) = some (.slice none 0 0) := Z.cell 4 (by simp)
      have z5 : (_ : Option Value) = some (.slice none 0 0) := Z.cell 5 (by simp)
      have hfz := fun j => Z.free j
      have O' : World.ownsRow wr base 46 2 (.slice (some ⟨b, 0, none⟩) NL cp) l.length (flat fSector l) := by rw [hl]; exact O
      clear hmm hmk hlt hk hl hmm2
      go_wp2
      refine bodyPost_ret (v := .tuple #[.agg #[.int .i64 c, .int .i64 h, .int .i64 (P : Int), .int .i64 s, .slice (some ⟨b, 0, none⟩) NL cp, .slice B n.length q], .bool true]) (by simp [results, Try.results23, go_sem, World.cell?_setCell_other, z0, z1, z2, z3, z4, z5]) rfl ⟨.slice (some ⟨b, 0, none⟩) NL cp, .slice B n.length q, by rw [HD.out]; rfl, ?_, ?_, .inr (fun e => hbB e.symm), (by with_reducible repeat (first | exact Below.refl _ _ | assumption | refine below_step ?_ (by assumption) | refine Below.drew ?_ | refine below_drewN ?_ _ | refine below_alloc ?_ _ | refine Below.setCell ?_ (by simp; try omega) _))⟩
      · rw [HD.out]
        show World.ownsRow _ _ _ _ _ l.length (flat fSector l)
        exact own_base (ownsRow_setCell_below (ownsRow_setCell_below (ownsRow_setCell_below (ownsRow_setCell_below (ownsRow_setCell_below (ownsRow_setCell_below O' hz1 _) hz1 _) hz1 _) hz1 _) hz1 _) hz1 _) hz1'
      · rw [HD.out]
        show World.ownsRow _ _ _ _ _ n.length (flat fS n)
        exact own_base (ownsRow_setCell_below (ownsRow_setCell_below (ownsRow_setCell_below (ownsRow_setCell_below (ownsRow_setCell_below (ownsRow_setCell_below K hz1 _) hz1 _) hz1 _) hz1 _) hz1 _) hz1 _) hz1'

set_option maxRecDepth 100000 in
set_option maxHeartbeats 2000000 in
theorem impl_DecodeImage_any (t : ByteArray) (w : World) (ht : t.size ≤ 1048576) :
    Calls Try.prog 9 #[.string t] w fun e w' => ∃ v u, e = .returned (.tuple #[.agg #[.int .i64 (imD (decR t)).c, .int .i64 (imD (decR t)).h, .int .i64 (imD (decR t)).p, .int .i64 (imD (decR t)).s, v, u], .int .i64 (decC t)]) ∧ w'.ownsRow w.heap.size 46 2 v (imD (decR t)).l.length (flat fSector (imD (decR t)).l) ∧ w'.ownsRow w.heap.size 9 1 u (imD (decR t)).n.length (flat fS (imD (decR t)).n) ∧ (v.ownBlock = none ∨ v.ownBlock ≠ u.ownBlock) ∧ Below w.heap.size w w' := by
  have Z : BX (w.alloc (.cells #[.int .i64 0, .int .i64 0, .int .i64 0, .int .i64 0, .slice none 0 0, .slice none 0 0] 29)) w.heap.size 29 [.int .i64 0, .int .i64 0, .int .i64 0, .int .i64 0, .slice none 0 0, .slice none 0 0] := BX.made w 29 [.int .i64 0, .int .i64 0, .int .i64 0, .int .i64 0, .slice none 0 0, .slice none 0 0]
  have hB : BB w (w.alloc (.cells #[.int .i64 0, .int .i64 0, .int .i64 0, .int .i64 0, .slice none 0 0, .slice none 0 0] 29)) := (show Below w.heap.size w (w.alloc (.cells #[.int .i64 0, .int .i64 0, .int .i64 0, .int .i64 0, .slice none 0 0, .slice none 0 0] 29)) from (by with_reducible repeat (first | exact Below.refl _ _ | assumption | refine below_step ?_ (by assumption) | refine Below.drew ?_ | refine below_drewN ?_ _ | refine below_alloc ?_ _ | refine Below.setCell ?_ (by simp; try omega) _)))
  have hb2 : Below w.heap.size w (w.alloc (.cells #[.int .i64 0, .int .i64 0, .int .i64 0, .int .i64 0, .slice none 0 0, .slice none 0 0] 29)) := hB
  by_cases hbig : 8192 < t.size
  · have HD := Lib.hid (dec_1 hbig)
    have hbi : (8192 : Int) < (t.size : Int) := by omega
    have z0 : (_ : Option Value) = some (.int .i64 0) := Z.cell 0 (by simp)
    have z1 : (_ : Option Value) = some (.int .i64 0) := Z.cell 1 (by simp)
    have z2 : (_ : Option Value) = some (.int .i64 0) := Z.cell 2 (by simp)
    have z3 : (_ : Option Value) = some (.int .i64 0) := Z.cell 3 (by simp)
    have z4 : (_ : Option Value) = some (.slice none 0 0) := Z.cell 4 (by simp)
    have z5 : (_ : Option Value) = some (.slice none 0 0) := Z.cell 5 (by simp)
    have hfz := fun j => Z.free j
    clear hbig
    go_enter Try.func9, Try.ntmps9
    go_wp2
    refine bodyPost_ret (v := .tuple #[.agg #[.int .i64 0, .int .i64 0, .int .i64 0, .int .i64 0, .slice none 0 0, .slice none 0 0], .int .i64 5]) (by simp [results, Try.results9, go_sem, z0, z1, z2, z3, z4, z5]) rfl ⟨.slice none 0 0, .slice none 0 0, by rw [HD.out.1, HD.out.2]; rfl, by rw [HD.out.1]; exact World.ownsRow_nil _ _ _ _, by rw [HD.out.1]; exact World.ownsRow_nil _ _ _ _, .inl rfl, (by with_reducible repeat (first | exact Below.refl _ _ | assumption | refine below_step ?_ (by assumption) | refine Below.drew ?_ | refine below_drewN ?_ _ | refine below_alloc ?_ _ | refine Below.setCell ?_ (by simp; try omega) _))⟩
  have hbi : ¬ (8192 : Int) < (t.size : Int) := by omega
  have hdk := fun W => impl_DecodeChunks_any t W ht
  by_cases hn : dkN t = t.size
  rotate_left
  · have HD := Lib.hid (dec_2 hbig hn)
    have hne : (((dkN t : Nat) : Int) != (t.size : Int)) = true := by simpa using (by omega : ¬ ((dkN t : Nat) : Int) = (t.size : Int))
    generalize dkN t = N at hdk hne
    clear hbig hn hb2
    go_enter Try.func9, Try.ntmps9
    go_wp2_with (go_at_call 11; refine (hdk _).mono ?_; rintro e w1 ⟨v1, rfl, ho1, hx1⟩; replace Z := Z.below hx1 Z.lt; replace hB : BB w _ := BB.next hB hx1; have hb2 : Below w.heap.size w _ := hB; have z0 : (_ : Option Value) = some (.int .i64 0) := Z.cell 0 (by simp); have z1 : (_ : Option Value) = some (.int .i64 0) := Z.cell 1 (by simp); have z2 : (_ : Option Value) = some (.int .i64 0) := Z.cell 2 (by simp); have z3 : (_ : Option Value) = some (.int .i64 0) := Z.cell 3 (by simp); have z4 : (_ : Option Value) = some (.slice none 0 0) := Z.cell 4 (by simp); have z5 : (_ : Option Value) = some (.slice none 0 0) := Z.cell 5 (by simp); have hfz := fun j => Z.free j)
    refine bodyPost_ret (v := .tuple #[.agg #[.int .i64 0, .int .i64 0, .int .i64 0, .int .i64 0, .slice none 0 0, .slice none 0 0], .int .i64 8]) (by simp [results, Try.results9, go_sem, World.cell?_setCell_other, z0, z1, z2, z3, z4, z5]) rfl ⟨.slice none 0 0, .slice none 0 0, by rw [HD.out.1, HD.out.2]; rfl, by rw [HD.out.1]; exact World.ownsRow_nil _ _ _ _, by rw [HD.out.1]; exact World.ownsRow_nil _ _ _ _, .inl rfl, (by with_reducible repeat (first | exact Below.refl _ _ | assumption | refine below_step ?_ (by assumption) | refine Below.drew ?_ | refine below_drewN ?_ _ | refine below_alloc ?_ _ | refine Below.setCell ?_ (by simp; try omega) _))⟩
  have hneN : (((dkN t : Nat) : Int) != (t.size : Int)) = false := by simp [hn]
  have HD3 := Lib.hid (fun (i : imgOf (dkL t) = none) => dec_3 hbig hn i)
  have HD4 := Lib.hid (fun (x : Im) (i : imgOf (dkL t) = some x) => dec_4 hbig hn i)
  have hL40 := dkL_len t
  have hLin2 : ∀ x ∈ dkL t, x.f1.size ≤ 1048576 := fun x hx => Nat.le_trans (dkL_in t x hx) ht
  generalize dkL t = L at *
  generalize dkN t = N at hdk hneN
  have him := fun (v1 : Value) W (h : World.ownsRow W _ 41 2 v1 L.length (flat fChunk L)) => imageOf_any v1 (w.heap.size + 1) L W h hL40 hLin2
  clear hbig hn hb2
  cases hi : imgOf L with
  | none =>
    have HD := Lib.hid (HD3.out hi)
    rw [hi] at him
    clear hi
    go_enter Try.func9, Try.ntmps9
    go_wp2_with (first
      | (go_at_call 23; refine (him _ _ ho1).mono ?_; rintro e w2 ⟨v, u, rfl, O, K, ne, hx2⟩; obtain ⟨A2, c2, rfl⟩ := own_form O; obtain ⟨A3, c3, rfl⟩ := own_form K; replace Z := Z.below hx2 Z.lt; replace hB : BB w _ := BB.next hB hx2; have hb2 : Below w.heap.size w _ := hB; have ZA := fun o : Obj => BX.al Z o; have z0 := fun o : Obj => (ZA o).cell 0 (by simp); have z1 := fun o : Obj => (ZA o).cell 1 (by simp); have z2 := fun o : Obj => (ZA o).cell 2 (by simp); have z3 := fun o : Obj => (ZA o).cell 3 (by simp); have z4 := fun o : Obj => (ZA o).cell 4 (by simp); have z5 := fun o : Obj => (ZA o).cell 5 (by simp); have hfz := fun (o : Obj) j => (ZA o).free j)
      | (go_at_call 11; refine (hdk _).mono ?_; rintro e w1 ⟨v1, rfl, ho1, hx1⟩; replace ho1 := own_base (base' := w.heap.size + 1) ho1 (by simp); replace Z := Z.below hx1 Z.lt; replace hB : BB w _ := BB.next hB hx1))
    refine bodyPost_ret (v := .tuple #[.agg #[.int .i64 0, .int .i64 0, .int .i64 0, .int .i64 0, .slice none 0 0, .slice none 0 0], .int .i64 7]) (by simp [results, Try.results9, go_sem, World.cell?_setCell_other, z0, z1, z2, z3, z4, z5]) rfl ⟨.slice none 0 0, .slice none 0 0, by rw [HD.out.1, HD.out.2]; rfl, by rw [HD.out.1]; exact World.ownsRow_nil _ _ _ _, by rw [HD.out.1]; exact World.ownsRow_nil _ _ _ _, .inl rfl, (by with_reducible repeat (first | exact Below.refl _ _ | assumption | refine below_step ?_ (by assumption) | refine Below.drew ?_ | refine below_drewN ?_ _ | refine below_alloc ?_ _ | refine Below.setCell ?_ (by simp; try omega) _))⟩
  | some X =>
    have HD := Lib.hid (HD4.out X hi)
    rw [hi, show imD (some X) = X from rfl] at him
    clear hi
    go_enter Try.func9, Try.ntmps9
    go_wp2_with (first
      | (go_at_call 23; refine (him _ _ ho1).mono ?_; rintro e w2 ⟨v, u, rfl, O, K, ne, hx2⟩; have hz1 := Z.lt; obtain ⟨A2, c2, rfl⟩ := own_form O; obtain ⟨A3, c3, rfl⟩ := own_form K; replace Z := Z.below hx2 Z.lt; replace hB : BB w _ := BB.next hB hx2; have hb2 : Below w.heap.size w _ := hB; have ZA := fun o : Obj => BX.al Z o; have z0 := fun o : Obj => (ZA o).cell 0 (by simp); have z1 := fun o : Obj => (ZA o).cell 1 (by simp); have z2 := fun o : Obj => (ZA o).cell 2 (by simp); have z3 := fun o : Obj => (ZA o).cell 3 (by simp); have z4 := fun o : Obj => (ZA o).cell 4 (by simp); have z5 := fun o : Obj => (ZA o).cell 5 (by simp); have hfz := fun (o : Obj) j => (ZA o).free j)
      | (go_at_call 11; refine (hdk _).mono ?_; rintro e w1 ⟨v1, rfl, ho1, hx1⟩; replace ho1 := own_base (base' := w.heap.size + 1) ho1 (by simp); replace Z := Z.below hx1 Z.lt; replace hB : BB w _ := BB.next hB hx1))
    refine bodyPost_ret (v := .tuple #[.agg #[.int .i64 X.c, .int .i64 X.h, .int .i64 X.p, .int .i64 X.s, .slice A2 X.l.length c2, .slice A3 X.n.length c3], .int .i64 0]) (by simp [results, Try.results9, go_sem, World.cell?_setCell_other, z0, z1, z2, z3, z4, z5]) rfl ⟨.slice A2 X.l.length c2, .slice A3 X.n.length c3, by rw [HD.out.1, HD.out.2]; rfl, ?_, ?_, ne, (by with_reducible repeat (first | exact Below.refl _ _ | assumption | refine below_step ?_ (by assumption) | refine Below.drew ?_ | refine below_drewN ?_ _ | refine below_alloc ?_ _ | refine Below.setCell ?_ (by simp; try omega) _))⟩
    · rw [HD.out.1]
      exact own_base (ownsRow_setCell_below (ownsRow_setCell_below (ownsRow_setCell_below (ownsRow_setCell_below (ownsRow_setCell_below (ownsRow_setCell_below (OO.al O _) hz1 _) hz1 _) hz1 _) hz1 _) hz1 _) hz1 _) (Nat.le_of_lt hz1)
    · rw [HD.out.1]
      exact own_base (ownsRow_setCell_below (ownsRow_setCell_below (ownsRow_setCell_below (ownsRow_setCell_below (ownsRow_setCell_below (ownsRow_setCell_below (OO.al K _) hz1 _) hz1 _) hz1 _) hz1 _) hz1 _) hz1 _) (Nat.le_of_lt hz1)
end Go.Proofs.Ytemppogailpoiaa
namespace Go.Proofs.Ytemppogailpoiaa
set_option linter.unusedVariables false
open Go.RowKit

theorem miss_ok {s : Int} {nb : Nat} (h : szB s = (nb : Int)) : secX s (miss nb) = true := by
  have h1 : (szB s).toNat = nb := by rw [h]; exact Int.toNat_natCast nb
  rw [secX, h1, miss, sec_4 (zerosB_size nb) (by decide) rfl]
  simp
theorem img_ok {L : List DChunk} {X : Im} (h : imgOf L = some X) : okD X.c X.h X.p X.s X.l = true ∧ X.n.length ≤ 8 ∧ ∀ x ∈ X.n, noteB x = true := by
  unfold imgOf at h
  split at h
  · rename_i h2
    split at h
    · rename_i hg
      obtain ⟨⟨g1, g2⟩, g3, g4⟩ := hg
      obtain ⟨n1, n2, n3, n4, n5, n6, n7, n8, n9, n10, n11, n12, n13, n14⟩ := hd_nums g2
      unfold bodyOf at h
      cases hd : decG (hdT L[0].f1) (hdP L[0].f1) (hdNb L[0].f1) (hdS L[0].f1) (mid L) (hdL L[0].f1) [] with
      | none => rw [hd] at h; cases h
      | some r =>
        rw [hd] at h
        simp only [Option.map_some, Option.some.injEq] at h
        subst h
        have hn : ∀ x ∈ hdL L[0].f1, secX (hdS L[0].f1) x = true := by
          intro x hx
          unfold hdL newS at hx
          rw [(List.mem_replicate.1 hx).2]
          refine miss_ok (s := hdS L[0].f1) ?_
          rw [n11]
          rw [hdNb] at n7
          exact n7
        obtain ⟨k1, k2, k3, k4⟩ := decG_in _ _ _ r hd n9 hn (by simp) (by simp)
        refine ⟨okD_all ?_ ?_ ?_, k3, k4⟩
        · exact n12
        · show (r.1.length : Int) = (bt L[0].f1 3 : Int) * (bt L[0].f1 4 : Int) * (bt L[0].f1 5 : Int)
          rw [n1, n10, k1, Int.natCast_mul]
        · intro k hk
          exact k2 _ (List.getElem_mem hk)
    · cases h
  · cases h
theorem decR_img {t : ByteArray} {X : Im} (h : decR t = some X) : imgOf (dkL t) = some X ∧ decC t = 0 ∧ dkN t = t.size ∧ t.size ≤ 8192 := by
  unfold decR at h
  split at h
  · cases h
  · rename_i h1
    split at h
    · rename_i h2
      refine ⟨h, ?_, h2, by omega⟩
      unfold decC
      rw [if_neg h1, if_pos h2, h]
      rfl
    · cases h
theorem okD_len {c h p s : Int} {l : List DSector} (g : okD c h p s l = true) : l.length ≤ 128 := by
  obtain ⟨g1, g2, g3⟩ := okD_geo g
  obtain ⟨c1, c2, h1, h2, p1, p2, s1, s2⟩ := geoB_yes g1
  obtain ⟨m1, m2⟩ := prod2 c1 c2 h1 h2
  obtain ⟨q1, q2⟩ := prod3 m1 m2 p1 p2
  omega
theorem dec_lens (t : ByteArray) : (imD (decR t)).l.length ≤ 1048576 ∧ (imD (decR t)).n.length ≤ 1048576 := by
  cases h : decR t with
  | none => exact ⟨by show [].length ≤ _; simp, by show [].length ≤ _; simp⟩
  | some X =>
    obtain ⟨h1, h2, -⟩ := img_ok (decR_img h).1
    have := okD_len h1
    exact ⟨by show X.l.length ≤ _; omega, by show X.n.length ≤ _; omega⟩
theorem dec_none {t : ByteArray} (h : decR t = none) : decC t ≠ 0 := by
  unfold decR at h
  unfold decC
  split at h
  · rename_i h1; rw [if_pos h1]; decide
  · rename_i h1
    rw [if_neg h1]
    split at h
    · rename_i h2; rw [if_pos h2, h]; decide
    · rename_i h2; rw [if_neg h2]; decide
end Go.Proofs.Ytemppogailpoiaa
namespace Go.Proofs.Ytemppogailpoiaa
set_option linter.unusedVariables false
open Go.RowKit

theorem ba_ext {a b : ByteArray} (h : a.size = b.size) (g : ∀ k, k < a.size → bt a k = bt b k) : a = b := by
  apply ByteArray.ext
  apply Array.ext
  · exact h
  · intro i h1 h2
    have h3 : i < a.size := h1
    have h4 := g i h3
    rw [← bt_eq a i h3, ← bt_eq b i (by rw [← h]; exact h3)] at h4
    exact UInt8.toNat_inj.1 h4
theorem bt_ext (s : ByteArray) (a b k : Nat) (h : a + k < b) (hb : b ≤ s.size) : bt (s.extract a b) k = bt s (a + k) := by
  have h1 : k < (s.extract a b).size := by rw [ByteArray.size_extract]; omega
  rw [← bt_eq _ k h1, ← bt_eq s (a + k) (by omega)]
  exact congrArg UInt8.toNat (ByteArray.getElem_extract h1)
/-- A chunk's parts. -/
theorem dcAt_parts {s : ByteArray} {a k m : Nat} {d : ByteArray} (h : dcAt s a = some (k, d, m)) (ha : a ≤ s.size) : a + m ≤ s.size ∧ m = d.size + 5 ∧ bt s a = k ∧ wd s (a + 1) = d.size ∧ s.extract (a + 3) (a + 3 + d.size) = d ∧ crcOf (s.extract a (a + 3 + d.size)) 65535 = wd s (a + 3 + d.size) := by
  by_cases h5 : s.size < a + 5
  · rw [dcAt_1 h5] at h; cases h
  have h5 : a + 5 ≤ s.size := by omega
  obtain ⟨n, hn⟩ : ∃ n, wd s (a + 1) = n := ⟨_, rfl⟩
  by_cases h2 : n ≤ 8192 ∧ a + 3 + n + 2 ≤ s.size
  · by_cases h3 : okChunk (bt s a : Int) (s.extract (a + 3) (a + 3 + n)) = true ∧ crcOf (s.extract a (a + 3 + n)) 65535 = wd s (a + 3 + n)
    · rw [dcAt_4 h5 hn h2.1 h2.2 h3] at h
      simp only [Option.some.injEq, Prod.mk.injEq] at h
      obtain ⟨rfl, rfl, rfl⟩ := h
      have hsz : (s.extract (a + 3) (a + 3 + n)).size = n := by rw [ByteArray.size_extract]; omega
      rw [hsz]
      exact ⟨by omega, rfl, rfl, hn, rfl, h3.2⟩
    · rw [dcAt_3 h5 hn h2.2 h3] at h; cases h
  · rw [dcAt_2 h5 hn h2] at h; cases h
/-- The last chunk ends where the chunks end. -/
theorem dkG_last (s : ByteArray) : ∀ (f a : Nat), a ≤ s.size → (dkG s f a).1 ≠ [] → ∃ b k d m, a ≤ b ∧ b ≤ s.size ∧ dcAt s b = some (k, d, m) ∧ b + m = (dkG s f a).2 ∧ (dkG s f a).1.getLast? = some ⟨(k : Int), d⟩
  | 0, a, _, h => absurd rfl h
  | f + 1, a, ha, h => by
    cases hd : dcAt s a with
    | none => rw [dkG_no hd] at h; exact absurd rfl h
    | some y =>
      obtain ⟨k, d, m⟩ := y
      obtain ⟨h1, h2⟩ := dcAt_le hd ha
      by_cases hnil : (dkG s f (a + m)).1 = []
      · refine ⟨a, k, d, m, Nat.le_refl _, ha, hd, ?_, ?_⟩
        · rw [dkG_yes hd]
          show a + m = (dkG s f (a + m)).2
          cases f with
          | zero => rfl
          | succ f =>
            cases hd2 : dcAt s (a + m) with
            | none => rw [dkG_no hd2]
            | some y2 =>
              obtain ⟨k2, d2, m2⟩ := y2
              rw [dkG_yes hd2] at hnil
              cases hnil
        · rw [dkG_yes hd, hnil]
          rfl
      · obtain ⟨b, k', d', m', g1, g2, g3, g4, g5⟩ := dkG_last s f (a + m) h1 hnil
        refine ⟨b, k', d', m', by omega, g2, g3, ?_, ?_⟩
        · rw [dkG_yes hd]; exact g4
        · rw [dkG_yes hd, List.getLast?_cons, g5]; rfl
theorem str_empty2 {d : ByteArray} (h : d.size = 0) : d = ⟨#[]⟩ := by
  apply ByteArray.ext
  exact Array.eq_empty_of_size_eq_zero h
theorem headB_nil (k : Nat) : (headB k ⟨#[]⟩).size = 3 := by rw [headB_size]; rfl
theorem bt_app_l (a b : ByteArray) (k : Nat) (h : k < a.size) : bt (a ++ b) k = bt a k := by
  unfold bt
  rw [ByteArray.data_append, Array.toList_append]
  congr 1
  rw [List.getD_eq_getElem?_getD, List.getD_eq_getElem?_getD, List.getElem?_append_left (by rw [Array.length_toList]; exact h)]
theorem bt_app_r (a b : ByteArray) (k : Nat) : bt (a ++ b) (a.size + k) = bt b k := by
  have h : a.data.toList.length = a.size := by rw [Array.length_toList]; rfl
  unfold bt
  rw [ByteArray.data_append, Array.toList_append]
  congr 1
  rw [List.getD_eq_getElem?_getD, List.getD_eq_getElem?_getD, List.getElem?_append_right (by omega), h, Nat.add_sub_cancel_left]
theorem wordB_0 (x y : Nat) (hx : x < 256) (hy : y < 256) : bt (wordB (x * 256 + y)) 0 = x := by
  show (UInt8.ofNat ((x * 256 + y) / 256)).toNat = x
  rw [UInt8.toNat_ofNat']
  omega
theorem wordB_1 (x y : Nat) (hx : x < 256) (hy : y < 256) : bt (wordB (x * 256 + y)) 1 = y := by
  show (UInt8.ofNat ((x * 256 + y) % 256)).toNat = y
  rw [UInt8.toNat_ofNat']
  omega
theorem crc_nil (s : ByteArray) (a : Nat) (h : dcAt s a = some (4, ⟨#[]⟩, 5)) (ha : a + 5 = s.size) : s.extract a s.size = encB 4 ⟨#[]⟩ := by
  obtain ⟨h1, h2, h3, h4, h5, h6⟩ := dcAt_parts h (by omega)
  have hz : (⟨#[]⟩ : ByteArray).size = 0 := rfl
  rw [hz] at h4 h6
  have hw := wd_lt s (a + 3)
  have b1 := bt_lt s (a + 1)
  have b2 := bt_lt s (a + 2)
  have b3 := bt_lt s (a + 3)
  have b4 := bt_lt s (a + 4)
  unfold wd at h4 h6
  rw [show a + 1 + 1 = a + 2 by omega] at h4
  rw [Nat.add_zero, show a + 3 + 1 = a + 4 by omega] at h6
  have e1 : bt s (a + 1) = 0 := by omega
  have e2 : bt s (a + 2) = 0 := by omega
  have hhd : s.extract a (a + 3) = headB 4 ⟨#[]⟩ := by
    apply ba_ext
    · rw [headB_nil, ByteArray.size_extract]; omega
    · intro k hk
      rw [ByteArray.size_extract] at hk
      rw [bt_ext s a (a + 3) k (by omega) (by omega)]
      have hk3 : k = 0 ∨ k = 1 ∨ k = 2 := by omega
      rcases hk3 with rfl | rfl | rfl
      · rw [Nat.add_zero, h3]; rfl
      · rw [e1]; rfl
      · rw [e2]; rfl
  rw [hhd] at h6
  apply ba_ext
  · rw [encB_size, ByteArray.size_extract, hz]; omega
  · intro k hk
    rw [ByteArray.size_extract] at hk
    rw [bt_ext s a s.size k (by omega) (Nat.le_refl _)]
    by_cases hk3 : k < 3
    · rw [encB, bt_app_l _ _ _ (by rw [headB_nil]; exact hk3), ← hhd, bt_ext s a (a + 3) k (by omega) (by omega)]
    · obtain ⟨j, rfl⟩ : ∃ j, k = 3 + j := ⟨k - 3, by omega⟩
      have hr := bt_app_r (headB 4 ⟨#[]⟩) (wordB (crcOf (headB 4 ⟨#[]⟩) 65535)) j
      rw [headB_nil] at hr
      rw [encB, hr]
      have hc : crcOf (headB 4 ⟨#[]⟩) 65535 < 65536 := by rw [h6]; omega
      rw [h6] at hc ⊢
      have hj : j = 0 ∨ j = 1 := by omega
      rcases hj with rfl | rfl
      · rw [show a + (3 + 0) = a + 3 by omega]
        exact (wordB_0 (bt s (a + 3)) (bt s (a + 4)) b3 b4).symm
      · rw [show a + (3 + 1) = a + 4 by omega]
        exact (wordB_1 (bt s (a + 3)) (bt s (a + 4)) b3 b4).symm
theorem getLast_get {L : List DChunk} (h : 0 < L.length) : L.getLast? = some L[L.length - 1] := by
  rw [List.getLast?_eq_getElem?, List.getElem?_eq_getElem (by omega)]
/-- A container that has an image ends with its end. -/
theorem dec_end {t : ByteArray} {X : Im} (h : decR t = some X) : 5 ≤ t.size ∧ t.extract (t.size - 5) t.size = encB 4 ⟨#[]⟩ := by
  obtain ⟨hi, -, hn, hs⟩ := decR_img h
  unfold imgOf at hi
  split at hi
  · rename_i h2
    split at hi
    · rename_i hg
      obtain ⟨-, g3, g4⟩ := hg
      have hne : (dkG t 40 0).1 ≠ [] := by
        intro e
        have : (dkL t).length = 0 := by unfold dkL; rw [e]; rfl
        omega
      obtain ⟨b, k, d, m, -, h2b, h3, h4, h5⟩ := dkG_last t 40 0 (Nat.zero_le _) hne
      have h6 := getLast_get (L := dkL t) (by omega)
      rw [show (dkL t).getLast? = some ⟨(k : Int), d⟩ from h5] at h6
      injection h6 with h6
      rw [← h6] at g3 g4
      have hk : k = 4 := by have : (k : Int) = 4 := g3; omega
      have hd : d = ⟨#[]⟩ := str_empty2 g4
      subst hk hd
      obtain ⟨p1, p2, -⟩ := dcAt_parts h3 h2b
      have hm : m = 5 := p2
      subst hm
      have hb : b + 5 = t.size := by
        have : (dkG t 40 0).2 = t.size := hn
        omega
      refine ⟨by omega, ?_⟩
      rw [show t.size - 5 = b by omega]
      exact crc_nil t b h3 hb
    · cases hi
  · cases hi
theorem trim_end {t e : ByteArray} (h1 : e.size ≤ t.size) (h : t.extract (t.size - e.size) t.size = e) : (⟨(Lib.trimSuffix t.data.toList e.data.toList).toArray⟩ : ByteArray) = t.extract 0 (t.size - e.size) := by
  have hl : t.data.toList.length = t.size := by rw [Array.length_toList]; rfl
  have he : e.data.toList.length = e.size := by rw [Array.length_toList]; rfl
  have h2 : t.data.toList.drop (t.size - e.size) = e.data.toList := by
    have h3 := congrArg (fun x : ByteArray => x.data.toList) h
    simp only [ByteArray.data_extract, Array.toList_extract, List.extract_eq_drop_take'] at h3
    rw [← h3, List.take_of_length_le (by omega)]
  have h3 : Lib.hasSuffix t.data.toList e.data.toList = true := by
    rw [Lib.hasSuffix, List.isSuffixOf_iff_suffix, ← h2]
    exact List.drop_suffix _ _
  rw [Lib.trimSuffix, if_pos h3]
  apply ByteArray.ext
  apply Array.toList_inj.1
  simp only [ByteArray.data_extract, Array.toList_extract, List.extract_eq_drop_take', List.drop_zero]
  rw [hl, he]
end Go.Proofs.Ytemppogailpoiaa
namespace Go.Proofs.Ytemppogailpoiaa
set_option linter.unusedVariables false
open Go.RowKit

def sameL {α : Type} (q : α → α → Bool) : List α → List α → Bool
  | [], [] => true
  | x :: l, y :: m => q x y && sameL q l m
  | _, _ => false
section
variable {α : Type} {q : α → α → Bool}
theorem sameL_len : ∀ (l m : List α), ¬ l.length = m.length → sameL q l m = false
  | [], [], h => absurd rfl h
  | [], _ :: _, _ => rfl
  | _ :: _, [], _ => rfl
  | x :: l, y :: m, h => by
    have := sameL_len l m (fun e => h (by simp [e]))
    simp [sameL, this]
theorem sameL_bad : ∀ (l m : List α) (k : Nat) (h1 : k < l.length) (h2 : k < m.length), q l[k] m[k] = false → sameL q l m = false
  | [], _, k, h1, _, _ => absurd h1 (by simp)
  | _ :: _, [], k, _, h2, _ => absurd h2 (by simp)
  | x :: l, y :: m, 0, _, _, h => by
    have : q x y = false := h
    simp [sameL, this]
  | x :: l, y :: m, k + 1, h1, h2, h => by
    have := sameL_bad l m k (by simpa using h1) (by simpa using h2) h
    simp [sameL, this]
theorem sameL_all : ∀ (l m : List α), l.length = m.length → (∀ k (h1 : k < l.length) (h2 : k < m.length), q l[k] m[k] = true) → sameL q l m = true
  | [], [], _, _ => rfl
  | [], _ :: _, h, _ => by simp at h
  | _ :: _, [], h, _ => by simp at h
  | x :: l, y :: m, h, ha => by
    have h0 : q x y = true := ha 0 (by simp) (by simp)
    have := sameL_all l m (by simpa using h) (fun k h1 h2 => ha (k + 1) (by simpa using h1) (by simpa using h2))
    simp [sameL, h0, this]
end
theorem all_next {p : Nat → Prop} {k : Nat} (h : ∀ j, j < k → p j) (hk : p k) : ∀ j, j < k + 1 → p j := fun j hj => by
  rcases Nat.lt_or_ge j k with h1 | h1
  · exact h j h1
  · obtain rfl : j = k := by omega
    exact hk
theorem quiet_draw {P : Program} {f : FuncId} {args : Array Value} {w : World} {n : Nat} {v : Value}
    (h : Calls P f args (w.drewN n) fun e w' => e = .returned v ∧ ∃ k, w' = (w.drewN n).drewN k) : Calls P f args (w.drewN n) fun e w'' => e = .returned v ∧ ∃ m, w'' = w.drewN m :=
  h.mono fun _ _ ⟨he, k, hk⟩ => ⟨he, n + k, by rw [hk, World.drewN_drewN]⟩
def qStr (x y : ByteArray) : Bool := x.toList == y.toList
def qInt (x y : Int) : Bool := x == y
def qSec (x y : DSector) : Bool := (x.f0.toList == y.f0.toList) && x.f1 == y.f1

end Go.Proofs.Ytemppogailpoiaa
namespace Go.Proofs.Ytemppogailpoiaa
set_option linter.unusedVariables false
open Go.RowKit

def alikeB (c h p s c' h' p' s' : Int) : Bool := (c == c') && (h == h') && (p == p') && (s == s')
theorem alike_1 {c h p s c' h' p' s' : Int} (g : (c == c') = false) : alikeB c h p s c' h' p' s' = false := by simp only [alikeB, g, Bool.false_and]
theorem alike_2 {c h p s c' h' p' s' : Int} (g : (h == h') = false) : alikeB c h p s c' h' p' s' = false := by simp only [alikeB, g, Bool.false_and, Bool.and_false]
theorem alike_3 {c h p s c' h' p' s' : Int} (g : (p == p') = false) : alikeB c h p s c' h' p' s' = false := by simp only [alikeB, g, Bool.false_and, Bool.and_false]
theorem alike_4 {c h p s c' h' p' s' : Int} (g1 : (c == c') = true) (g2 : (h == h') = true) (g3 : (p == p') = true) : alikeB c h p s c' h' p' s' = (s == s') := by simp only [alikeB, g1, g2, g3, Bool.true_and]

set_option maxRecDepth 100000 in
set_option maxHeartbeats 1000000 in
theorem l12Alike_any (g g' : Nat) (c h p s c' h' p' s' : Int) (v v' : Value) (w : World) (hd : DP w g c h p s v) (hd' : DP w g' c' h' p' s' v') :
    Calls Try.prog 51 #[.pointer (some ⟨g, 0, none⟩), .pointer (some ⟨g', 0, none⟩)] w fun e w' => e = .returned (.bool (alikeB c h p s c' h' p' s')) ∧ ∃ n, w' = w.drewN n := by
  obtain ⟨d0, d1, d2, d3, d4⟩ := hd
  obtain ⟨e0, e1, e2, e3, e4⟩ := hd'
  cases g1 : (c == c')
  · have HR := Lib.hid (alike_1 (h := h) (p := p) (s := s) (h' := h') (p' := p') (s' := s') g1)
    go_enter Try.func51, Try.ntmps51
    go_wp2_with fail
    go_quiet (fail)
    go_wp2
    go_ret
    exact ⟨ret_bool HR.out.symm, _, rfl⟩
  cases g2 : (h == h')
  · have HR := Lib.hid (alike_2 (c := c) (p := p) (s := s) (c' := c') (p' := p') (s' := s') g2)
    go_enter Try.func51, Try.ntmps51
    go_wp2_with fail
    go_quiet (fail)
    go_wp2
    go_ret
    exact ⟨ret_bool HR.out.symm, _, rfl⟩
  cases g3 : (p == p')
  · have HR := Lib.hid (alike_3 (c := c) (h := h) (s := s) (c' := c') (h' := h') (s' := s') g3)
    go_enter Try.func51, Try.ntmps51
    go_wp2_with fail
    go_quiet (fail)
    go_wp2
    go_ret
    exact ⟨ret_bool HR.out.symm, _, rfl⟩
  have HR := Lib.hid (alike_4 (s := s) (s' := s') g1 g2 g3)
  cases g4 : (s == s')
  all_goals
    have HR2 := Lib.hid (HR.out.trans g4)
    go_enter Try.func51, Try.ntmps51
    go_wp2_with fail
    go_quiet (fail)
    go_wp2
    go_ret
    exact ⟨ret_bool HR2.out.symm, _, rfl⟩

end Go.Proofs.Ytemppogailpoiaa
namespace Go.Proofs.Ytemppogailpoiaa
set_option linter.unusedVariables false
open Go.RowKit

theorem DP.made1 (w : World) (o : Obj) (c h p s : Int) (v : Value) (t : TypeId) : DP ((w.alloc o).alloc (.cells #[.int .i64 c, .int .i64 h, .int .i64 p, .int .i64 s, v] t)) (w.heap.size + 1) c h p s v := by
  have := DP.made (w.alloc o) c h p s v t
  rwa [World.size_alloc] at this
def sameD (c h p s : Int) (l : List DSector) (c' h' p' s' : Int) (m : List DSector) : Bool := alikeB c h p s c' h' p' s' && sameL qSec l m
theorem sameD_1 {c h p s : Int} {l : List DSector} {c' h' p' s' : Int} {m : List DSector} (g : alikeB c h p s c' h' p' s' = false) : sameD c h p s l c' h' p' s' m = false := by simp only [sameD, g, Bool.false_and]
theorem sameD_2 {c h p s : Int} {l : List DSector} {c' h' p' s' : Int} {m : List DSector} (g : alikeB c h p s c' h' p' s' = true) : sameD c h p s l c' h' p' s' m = sameL qSec l m := by simp only [sameD, g, Bool.true_and]

set_option maxRecDepth 100000 in
set_option maxHeartbeats 1000000 in
theorem l12Same_any (g g' : Nat) (c h p s c' h' p' s' : Int) (A A' : Option Addr) (cp cp' : Nat) (l m : List DSector) (w : World) (hd : DP w g c h p s (.slice A l.length cp)) (hd' : DP w g' c' h' p' s' (.slice A' m.length cp'))
    (hr : Rd w w.heap.size 2 A l.length (flat fSector l)) (hr' : Rd w w.heap.size 2 A' m.length (flat fSector m)) (hn : l.length ≤ 1048576) (hn' : m.length ≤ 1048576) :
    Calls Try.prog 24 #[.pointer (some ⟨g, 0, none⟩), .pointer (some ⟨g', 0, none⟩)] w fun e w' => e = .returned (.bool (sameD c h p s l c' h' p' s' m)) ∧ ∃ n, w' = w.drewN n := by
  have hal := fun n => l12Alike_any g g' c h p s c' h' p' s' _ _ (w.drewN n) (hd.drewN n) (hd'.drewN n)
  obtain ⟨d0, d1, d2, d3, d4⟩ := id hd
  obtain ⟨e0, e1, e2, e3, e4⟩ := id hd'
  cases ha : alikeB c h p s c' h' p' s'
  · have HR := Lib.hid (sameD_1 (l := l) (m := m) ha)
    go_enter Try.func24, Try.ntmps24
    go_wp2_with fail
    go_quiet ((go_at_call 51; exact quiet_draw (hal _)))
    simp only [ha]
    go_wp2
    go_ret
    exact ⟨ret_bool HR.out.symm, _, rfl⟩
  have HR := Lib.hid (sameD_2 (l := l) (m := m) ha)
  by_cases hl : l.length = m.length
  · have HA := Lib.hid (sameL_all (q := qSec) l m hl)
    have HB := Lib.hid (sameL_bad (q := qSec) l m)
    have g1 : (((l.length : Nat) : Int) != ((m.length : Nat) : Int)) = false := by simp [hl]
    have g1' : (l.length != m.length) = false := by simp [hl]
    go_enter Try.func24, Try.ntmps24
    go_wp2_with fail
    go_quiet ((go_at_call 51; exact quiet_draw (hal _)))
    simp only [ha]
    go_wp2_with fail
    go_loopw [5] (fun i wr => ∃ k n : Nat, k ≤ l.length ∧ i = .int .i64 k ∧ wr = w.drewN n ∧ Hid (∀ j, j < k → ∀ (h1 : j < l.length) (h2 : j < m.length), qSec l[j] m[j] = true)) (fun i _ => l.length - (intOf i).toNat)
    case atStart => exact ⟨0, _, Nat.zero_le _, rfl, rfl, Lib.hid (fun j hj => absurd hj (by omega))⟩
    case round =>
      obtain ⟨k, n, hk, rfl, rfl, HI⟩ := hrel
      by_cases hlt : k < l.length
      · have hlt' : k < m.length := by omega
        obtain ⟨b, off, rfl, hbb, hc⟩ := hr.at_ fSector_len rfl k hlt
        obtain ⟨b', off', rfl, hbb', hd'⟩ := hr'.at_ fSector_len rfl k hlt'
        have hc0 := hc 0 _ (by omega) rfl
        have hd0 := hd' 0 _ (by omega) rfl
        have hc1 := hc 1 _ (by omega) rfl
        have hd1 := hd' 1 _ (by omega) rfl
        clear hc hd'
        simp only [← Nat.add_assoc, Nat.add_zero] at hc0 hd0 hc1 hd1
        have hkm : (k : Int) < (m.length : Int) := by omega
        have q1 : Try.prog.stoodInHeld 46 = false := by kernel_rfl
        have q2 : Try.prog.eqGuardType Try.prog.depth 46 = false := by kernel_rfl
        cases s0 : (l[k].f0.toList == m[k].f0.toList)
        · have HS := Lib.hid (HR.out.trans (HB.out k hlt hlt' (by unfold qSec; rw [s0]; rfl)))
          go_wp2_with fail
          go_quiet (fail)
          go_wp2
          go_ret
          exact ⟨ret_bool HS.out.symm, n + nq, by rw [World.drewN_drewN]⟩
        cases s1 : (l[k].f1 == m[k].f1)
        · have HS := Lib.hid (HR.out.trans (HB.out k hlt hlt' (by unfold qSec; rw [s0, s1]; rfl)))
          go_wp2_with fail
          go_quiet (fail)
          go_wp2
          go_ret
          exact ⟨ret_bool HS.out.symm, n + nq, by rw [World.drewN_drewN]⟩
        have HN := Lib.hid (all_next HI.out (fun _ _ => by unfold qSec; rw [s0, s1]; rfl))
        go_wp2_with fail
        go_quiet (fail)
        go_wp2
        go_roundw
        case rel => exact ⟨k + 1, _, by omega, by go_num, rfl, HN⟩
        case measure => (simp [intOf] <;> omega)
      · have HS := Lib.hid (HR.out.trans (HA.out (fun j h1 h2 => HI.out j (by omega) h1 h2)))
        go_wp2
        go_ret
        exact ⟨ret_bool HS.out.symm, _, rfl⟩
  · have HS := Lib.hid (HR.out.trans (sameL_len (q := qSec) l m hl))
    have g1 : (((l.length : Nat) : Int) != ((m.length : Nat) : Int)) = true := by simp; omega
    have g1' : (l.length != m.length) = true := by simp; omega
    clear hl
    go_enter Try.func24, Try.ntmps24
    go_wp2_with fail
    go_quiet ((go_at_call 51; exact quiet_draw (hal _)))
    simp only [ha]
    go_wp2
    go_ret
    exact ⟨ret_bool HS.out.symm, _, rfl⟩

end Go.Proofs.Ytemppogailpoiaa
namespace Go.Proofs.Ytemppogailpoiaa
set_option linter.unusedVariables false
open Go.RowKit Go.ChangeShapes Go.WideShapes Go.Deep

def tzImage (l4 : List DSector) (l5 : List ByteArray) : List Nat := tzDisc l4 ++ tzString l5
end Go.Proofs.Ytemppogailpoiaa
namespace Go.Proofs.Ytemppogailpoiaa
set_option linter.unusedVariables false
open Go.RowKit

theorem CP.disc {w : World} {g : Nat} {c h p s : Int} {v : Value} {r : List Value} (d : CP w g (.int .i64 c :: .int .i64 h :: .int .i64 p :: .int .i64 s :: v :: r)) : DP w g c h p s v :=
  ⟨d 0 (by simp), d 1 (by simp), d 2 (by simp), d 3 (by simp), d 4 (by simp)⟩
def sameI (x : Bool) (l m : List ByteArray) : Bool := x && sameL qStr l m
theorem sameI_1 {x : Bool} {l m : List ByteArray} (h : x = false) : sameI x l m = false := by simp only [sameI, h, Bool.false_and]
theorem sameI_2 {x : Bool} {l m : List ByteArray} (h : x = true) : sameI x l m = sameL qStr l m := by simp only [sameI, h, Bool.true_and]

set_option maxRecDepth 100000 in
set_option maxHeartbeats 1000000 in
theorem spec_SameImage_any (c h p s c' h' p' s' : Int) (A A' N N' : Option Addr) (cp cp' q q' : Nat) (l m : List DSector) (n n' : List ByteArray) (w : World)
    (hr : Rd w w.heap.size 2 A l.length (flat fSector l)) (hr' : Rd w w.heap.size 2 A' m.length (flat fSector m)) (hn : l.length ≤ 1048576) (hn' : m.length ≤ 1048576)
    (kr : Rd w w.heap.size 1 N n.length (flat fS n)) (kr' : Rd w w.heap.size 1 N' n'.length (flat fS n')) (kn : n.length ≤ 1048576) (kn' : n'.length ≤ 1048576) :
    Calls Try.prog 10 #[.agg #[.int .i64 c, .int .i64 h, .int .i64 p, .int .i64 s, .slice A l.length cp, .slice N n.length q], .agg #[.int .i64 c', .int .i64 h', .int .i64 p', .int .i64 s', .slice A' m.length cp', .slice N' n'.length q']] w fun e w' => e = .returned (.bool (sameI (sameD c h p s l c' h' p' s' m) n n')) ∧ Below w.heap.size w w' := by
  have hq := fun (W : World) h1 h2 h3 h4 => l12Same_any w.heap.size (w.heap.size + 1) c h p s c' h' p' s' A A' cp cp' l m W h1 h2 h3 h4 hn hn'
  have D0 := (CP.made w [.int .i64 c, .int .i64 h, .int .i64 p, .int .i64 s, .slice A l.length cp, .slice N n.length q] 29).al (.cells #[.int .i64 c', .int .i64 h', .int .i64 p', .int .i64 s', .slice A' m.length cp', .slice N' n'.length q'] 29)
  have D1 := CP.made1 w (.cells #[.int .i64 c, .int .i64 h, .int .i64 p, .int .i64 s, .slice A l.length cp, .slice N n.length q] 29) [.int .i64 c', .int .i64 h', .int .i64 p', .int .i64 s', .slice A' m.length cp', .slice N' n'.length q'] 29
  have hB : Below w.heap.size w ((w.alloc (.cells #[.int .i64 c, .int .i64 h, .int .i64 p, .int .i64 s, .slice A l.length cp, .slice N n.length q] 29)).alloc (.cells #[.int .i64 c', .int .i64 h', .int .i64 p', .int .i64 s', .slice A' m.length cp', .slice N' n'.length q'] 29)) := (by with_reducible repeat (first | exact Below.refl _ _ | assumption | refine below_step ?_ (by assumption) | refine Below.drew ?_ | refine below_drewN ?_ _ | refine below_alloc ?_ _ | refine Below.setCell ?_ (by simp; try omega) _))
  have e0 := D0.disc
  have e1 := D1.disc
  have i0 := D0 5 (by simp)
  have i1 := D1 5 (by simp)
  simp only [List.getElem_cons_succ, List.getElem_cons_zero] at i0 i1
  generalize sameD c h p s l c' h' p' s' m = x at hq ⊢
  cases x
  · have HR := Lib.hid (sameI_1 (x := false) (l := n) (m := n') rfl)
    clear D0 D1 i0 i1
    go_enter Try.func10, Try.ntmps10
    go_wp2_with (go_at_call 24; refine (hq _ e0 e1 ((hr.below hB).more hB.size) ((hr'.below hB).more hB.size)).mono ?_; rintro e w1 ⟨rfl, k, rfl⟩)
    go_ret
    exact ⟨ret_bool HR.out.symm, below_drewN hB _⟩
  have HR := Lib.hid (sameI_2 (x := true) (l := n) (m := n') rfl)
  by_cases hl : n.length = n'.length
  · have HA := Lib.hid (sameL_all (q := qStr) n n' hl)
    have HB := Lib.hid (sameL_bad (q := qStr) n n')
    have g1 : (((n.length : Nat) : Int) != ((n'.length : Nat) : Int)) = false := by simp [hl]
    have g1' : (n.length != n'.length) = false := by simp [hl]
    have HL := Lib.hid hl
    clear D0 D1 hl
    go_enter Try.func10, Try.ntmps10
    go_wp2_with (go_at_call 24; refine (hq _ e0 e1 ((hr.below hB).more hB.size) ((hr'.below hB).more hB.size)).mono ?_; rintro e w1 ⟨rfl, k, rfl⟩)
    clear hq e0 e1
    generalize ((w.alloc (.cells #[.int .i64 c, .int .i64 h, .int .i64 p, .int .i64 s, .slice A l.length cp, .slice N n.length q] 29)).alloc (.cells #[.int .i64 c', .int .i64 h', .int .i64 p', .int .i64 s', .slice A' m.length cp', .slice N' n'.length q'] 29)) = W0 at hB i0 i1 ⊢
    go_loopw [5] (fun i wr => ∃ k z : Nat, k ≤ n.length ∧ i = .int .i64 k ∧ wr = W0.drewN z ∧ Hid (∀ j, j < k → ∀ (h1 : j < n.length) (h2 : j < n'.length), qStr n[j] n'[j] = true)) (fun i _ => n.length - (intOf i).toNat)
    case atStart => exact ⟨0, _, Nat.zero_le _, rfl, rfl, Lib.hid (fun j hj => absurd hj (by omega))⟩
    case round =>
      obtain ⟨k, z, hk, rfl, rfl, HI⟩ := hrel
      by_cases hlt : k < n.length
      · have hlt' : k < n'.length := by have := HL.out; omega
        obtain ⟨b, off, rfl, hbb, hc⟩ := (kr.below hB).at_ fS_len rfl k hlt
        obtain ⟨b', off', rfl, hbb', hd⟩ := (kr'.below hB).at_ fS_len rfl k hlt'
        have hc0 := hc 0 _ (by omega) rfl
        have hd0 := hd 0 _ (by omega) rfl
        clear hc hd
        simp only [Nat.mul_one, Nat.add_zero] at hc0 hd0
        have hkm : (k : Int) < (n'.length : Int) := by omega
        cases s0 : (n[k].toList == n'[k].toList)
        · have HS := Lib.hid (HR.out.trans (HB.out k hlt hlt' s0))
          go_wp2_with fail
          go_quiet (fail)
          go_wp2
          go_ret
          exact ⟨ret_bool HS.out.symm, below_drewN (below_drewN hB _) _⟩
        have HN := Lib.hid (all_next HI.out (fun _ _ => s0))
        go_wp2_with fail
        go_quiet (fail)
        go_wp2
        go_roundw
        case rel => exact ⟨k + 1, _, by omega, by go_num, rfl, HN⟩
        case measure => (simp [intOf] <;> omega)
      · have HS := Lib.hid (HR.out.trans (HA.out (fun j h1 h2 => HI.out j (by omega) h1 h2)))
        go_wp2
        go_ret
        exact ⟨ret_bool HS.out.symm, below_drewN hB _⟩
  · have HS := Lib.hid (HR.out.trans (sameL_len (q := qStr) n n' hl))
    have g1 : (((n.length : Nat) : Int) != ((n'.length : Nat) : Int)) = true := by simp; omega
    have g1' : (n.length != n'.length) = true := by simp; omega
    clear hl D0 D1
    go_enter Try.func10, Try.ntmps10
    go_wp2_with (go_at_call 24; refine (hq _ e0 e1 ((hr.below hB).more hB.size) ((hr'.below hB).more hB.size)).mono ?_; rintro e w1 ⟨rfl, k, rfl⟩)
    go_ret
    exact ⟨ret_bool HS.out.symm, below_drewN hB _⟩

end Go.Proofs.Ytemppogailpoiaa
