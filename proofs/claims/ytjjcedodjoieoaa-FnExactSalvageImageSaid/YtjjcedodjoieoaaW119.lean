/- Walks: the data of a track enter a disc (impl). -/
import Derived.Test.YtjjcedodjoieoaaEntM
import Derived.Test.YtjjcedodjoieoaaW10
import Derived.Test.YtjjcedodjoieoaaW60
import Derived.Test.YtjjcedodjoieoaaTrS
import Derived.Test.YtjjcedodjoieoaaQB
import Derived.Test.YtjjcedodjoieoaaPut
namespace Go.Proofs.Ytjjcedodjoieoaa
open Go.RowKit
set_option linter.unusedVariables false

set_option maxHeartbeats 400000 in
theorem hasTrack_any (c h s : Int) (P T t : Nat) (A : Option Addr) (n cp : Nat) (w : World) (hT : c * h = (T : Int)) (hT16 : T ≤ 128) :
    Calls Try.prog 48 #[.agg #[.int .i64 c, .int .i64 h, .int .i64 (P : Int), .int .i64 s, .slice A n cp], .int .i64 (t : Int)] w fun e w' => e = .returned (.bool (decide (t < T))) ∧ Below w.heap.size w w' := by
  have hw : IntKind.i64.wrap (c * h) = (T : Int) := by rw [hT]; exact IntWalk.i64_in _ (by omega)
  have hw2 : IntKind.i64.wrap ((T : Int) - 1) = (T : Int) - 1 := IntWalk.i64_in _ (by omega)
  have hin : inB (t : Int) 0 ((T : Int) - 1) = decide (t < T) := by
    unfold inB
    rw [decide_eq_true (show (0 : Int) ≤ (t : Int) by omega), Bool.true_and]
    apply decide_eq_decide.2
    omega
  have HI := Lib.hid hin
  clear hT hin
  go_enter Try.func48, Try.ntmps48
  go_wp2_with (go_at_call 87; refine (within_any _ _ _ _).mono ?_; rintro e w1 ⟨rfl, rfl⟩)
  go_ret
  exact ⟨by rw [HI.out]; rfl, (by with_reducible repeat (first | exact Below.refl _ _ | assumption | refine below_step ?_ (by assumption) | refine Below.drew ?_ | refine below_drewN ?_ _ | refine below_alloc ?_ _ | refine Below.setCell ?_ (by simp; try omega) _))⟩

theorem oneSector (x : DSector) : ∀ u ∈ fSector x, u.oneCell' = true := by
  intro u hu
  simp only [fSector, List.mem_cons, List.not_mem_nil, or_false] at hu
  rcases hu with rfl | rfl <;> rfl
theorem str_empty {d : ByteArray} (h : d.size = 0) : d = ⟨#[]⟩ := by
  apply ByteArray.ext
  exact Array.eq_empty_of_size_eq_zero h
theorem str_some {d : ByteArray} (h : ¬ d.size = 0) : (d.toList == []) = false := by
  rw [beq_eq_false_iff_ne]
  intro e
  apply h
  rw [ByteArray.toList_eq] at e
  have := congrArg List.length e
  simpa using this
theorem FillC.at_ {w : World} {g N m : Nat} {e : TypeId} {xs : List Value} (h : FillC w g e N xs m) {j : Nat} {v : Value} (hj : j < m) (hx : xs[j]? = some v) : w.cell? ⟨g, j, none⟩ = some v := by
  obtain ⟨cs, hg, hs, hc⟩ := h
  rw [cell_of_row w g j cs e (0, 0) hg, hc j hj, hx]

set_option maxRecDepth 100000 in
set_option maxHeartbeats 4000000 in
theorem readTrackData_any (c h s : Int) (P T nb b cp : Nat) (l : List DSector) (d : ByteArray) (w : World) (base : Nat) (hd : d.size ≤ maxLen) (hT : c * h = (T : Int)) (hT16 : T ≤ 16) (hP0 : 0 < P) (hP8 : P ≤ 8) (hs0 : 0 ≤ s) (hs2 : s ≤ 2) (hnb : szB s = (nb : Int)) (hnb32 : nb ≤ 32) (hl : l.length = T * P) (hcp : l.length ≤ cp)
    (ho : w.ownsRow base 90 2 (.slice (some ⟨b, 0, none⟩) l.length cp) l.length (flat fSector l)) :
    Calls Try.prog 26 #[.agg #[.int .i64 c, .int .i64 h, .int .i64 (P : Int), .int .i64 s, .slice (some ⟨b, 0, none⟩) l.length cp], .string d] w fun e w' => e = .returned (.bool (trk T P nb s d).isSome) ∧ w'.ownsRow base 90 2 (.slice (some ⟨b, 0, none⟩) l.length cp) l.length (flat fSector (rtL T P nb s l d)) ∧ w.grownBy w' (some b) := by
  unfold maxLen at hd
  have hl128 : l.length ≤ 128 := by
    rw [hl]
    exact Nat.mul_le_mul hT16 hP8
  have fail : ∀ (w' : World), trk T P nb s d = none → BB w w' → (Ending.returned (.bool false) = .returned (.bool (trk T P nb s d).isSome) ∧ w'.ownsRow base 90 2 (.slice (some ⟨b, 0, none⟩) l.length cp) l.length (flat fSector (rtL T P nb s l d)) ∧ w.grownBy w' (some b)) := fun w' h0 hB => by
    rw [h0, rtL_no h0]
    exact ⟨rfl, own_later ho hB (Nat.le_refl _), only_of_below hB _⟩
  have FAIL := Lib.hid fail
  clear fail
  have HL := Lib.hid hl
  clear hl
  have C0 : CP (w.alloc (.cells #[.int .i64 c, .int .i64 h, .int .i64 (P : Int), .int .i64 s, .slice (some ⟨b, 0, none⟩) l.length cp] 24)) w.heap.size [.int .i64 c, .int .i64 h, .int .i64 (P : Int), .int .i64 s, .slice (some ⟨b, 0, none⟩) l.length cp] := CP.made w [.int .i64 c, .int .i64 h, .int .i64 (P : Int), .int .i64 s, .slice (some ⟨b, 0, none⟩) l.length cp] 24
  have hB : BB w (w.alloc (.cells #[.int .i64 c, .int .i64 h, .int .i64 (P : Int), .int .i64 s, .slice (some ⟨b, 0, none⟩) l.length cp] 24)) := (show Below w.heap.size w (w.alloc (.cells #[.int .i64 c, .int .i64 h, .int .i64 (P : Int), .int .i64 s, .slice (some ⟨b, 0, none⟩) l.length cp] 24)) from (by with_reducible repeat (first | exact Below.refl _ _ | assumption | refine below_step ?_ (by assumption) | refine Below.drew ?_ | refine below_drewN ?_ _ | refine below_alloc ?_ _ | refine Below.setCell ?_ (by simp; try omega) _)))
  by_cases h0 : d.size = 0
  · have HR := Lib.hid (trk_0 (T := T) (P := P) (nb := nb) (s := s) h0)
    obtain rfl := str_empty h0
    clear h0
    go_enter Try.func26, Try.ntmps26
    go_wp2
    generalize (w.alloc (.cells #[.int .i64 c, .int .i64 h, .int .i64 (P : Int), .int .i64 s, .slice (some ⟨b, 0, none⟩) l.length cp] 24)) = w2 at *
    go_quiet (fail)
    replace hB : BB w _ := BB.dn hB nq
    go_wp2
    go_ret
    exact FAIL.out _ HR.out hB
  have hse := str_some h0
  have hdpos : 0 < d.size := Nat.pos_of_ne_zero h0
  have e0 := bt_eq d 0 hdpos
  have b0 := bt_lt d 0
  obtain ⟨t, ht⟩ : ∃ t, bt d 0 = t := ⟨_, rfl⟩
  rw [ht] at e0 b0
  have HTB := Lib.hid ht
  have htr := fun W => hasTrack_any c h s P T t (some ⟨b, 0, none⟩) l.length cp W hT (by omega)
  have c0 : (_ : Option Value) = some (.int .i64 c) := C0 0 (by simp)
  have c1 : (_ : Option Value) = some (.int .i64 h) := C0 1 (by simp)
  have c2 : (_ : Option Value) = some (.int .i64 (P : Int)) := C0 2 (by simp)
  have c3 : (_ : Option Value) = some (.int .i64 s) := C0 3 (by simp)
  have c4 : (_ : Option Value) = some (.slice (some ⟨b, 0, none⟩) l.length cp) := C0 4 (by simp)
  have q0 := gw_cell c0
  have q1 := gw_cell c1
  have q2 := gw_cell c2
  have q3 := gw_cell c3
  have q4 := gw_cell c4
  by_cases htT : T ≤ t
  · have HR := Lib.hid (trk_1 (P := P) (nb := nb) (s := s) h0 (by rw [ht]; exact htT))
    rw [decide_eq_false (by omega : ¬ t < T)] at htr
    clear h0 htT
    have htq := fun (p' : Regrown) => qb_below p' (htr (Sort.grow (redrawn (w.alloc (.cells #[.int .i64 c, .int .i64 h, .int .i64 (P : Int), .int .i64 s, .slice (some ⟨b, 0, none⟩) l.length cp] 24)) p'.d) p'.os))
    go_enter Try.func26, Try.ntmps26
    go_wp2
    generalize (w.alloc (.cells #[.int .i64 c, .int .i64 h, .int .i64 (P : Int), .int .i64 s, .slice (some ⟨b, 0, none⟩) l.length cp] 24)) = w2 at *
    refine wp_region_quiet_below (by kernel_rfl) (by kernel_rfl) ?_
    repeat (go_big_quiet_step ((with_reducible exact htq _)))
    refine wpQuiet_nil ?_
    intro _ hw'
    obtain ⟨pq, hw''⟩ := hw'
    subst hw''
    have hx := gw_below w2 pq
    generalize Sort.grow (redrawn w2 pq.d) pq.os = w3 at hx ⊢
    replace hB : BB w _ := BB.next hB hx
    go_wp2
    go_ret
    exact FAIL.out _ HR.out hB
  have htlt : t < T := by omega
  have htlt2 : t + 1 ≤ T := htlt
  rw [decide_eq_true htlt] at htr
  have hwt : IntKind.i64.wrap (t : Int) = (t : Int) := IntWalk.i64_in _ (by omega)
  have htq := fun (p' : Regrown) => qb_below p' (htr (Sort.grow (redrawn (w.alloc (.cells #[.int .i64 c, .int .i64 h, .int .i64 (P : Int), .int .i64 s, .slice (some ⟨b, 0, none⟩) l.length cp] 24)) p'.d) p'.os))
  have hsz := fun W => sizeBytes_any s hs0 hs2 W
  rw [hnb] at hsz
  have hun := fun W => impl_UnpackBytes_any (d.extract 1 d.size) W (by rw [ByteArray.size_extract]; unfold maxLen; omega)
  have hd1 : (1 : Int) ≤ (d.size : Int) := by omega
  have hwn : IntKind.i64.wrap ((nb : Int) + 1) = ((nb + 1 : Nat) : Int) := IntWalk.i64_in _ (by omega)
  have hHT : ¬ T ≤ bt d 0 := by rw [ht]; exact htT
  have START : True := trivial
  cases hu : unp (d.extract 1 d.size) with
  | none =>
    have HR := Lib.hid (trk_2 (P := P) (nb := nb) (s := s) h0 hHT hu)
    rw [hu] at hun
    unfold resB at hun
    clear h0 htT hHT hu
    go_enter Try.func26, Try.ntmps26
    go_wp2
    generalize (w.alloc (.cells #[.int .i64 c, .int .i64 h, .int .i64 (P : Int), .int .i64 s, .slice (some ⟨b, 0, none⟩) l.length cp] 24)) = w2 at *
    refine wp_region_quiet_below (by kernel_rfl) (by kernel_rfl) ?_
    repeat (go_big_quiet_step ((with_reducible exact htq _)))
    refine wpQuiet_nil ?_
    intro _ hw'
    obtain ⟨pq, hw''⟩ := hw'
    subst hw''
    have hx := gw_below w2 pq
    generalize Sort.grow (redrawn w2 pq.d) pq.os = w3 at hx ⊢
    replace hB : BB w _ := BB.next hB hx
    replace C0 := C0.next hx
    clear q0 q1 q2 q3 q4 c0 c1 c2 c3 c4 htq
    have c3 : (_ : Option Value) = some (.int .i64 s) := C0 3 (by simp)
    have c2 : (_ : Option Value) = some (.int .i64 (P : Int)) := C0 2 (by simp)
    go_wp2_with (first
      | (go_at_call 69; refine (hsz _).mono ?_; rintro e w5 ⟨rfl, rfl⟩)
      | (go_at_call 68; refine (hun _).mono ?_; rintro e w4 ⟨rfl, hx4⟩; replace hB : BB w _ := BB.next hB hx4; replace C0 := C0.next hx4; replace c3 : (_ : Option Value) = some (.int .i64 s) := C0 3 (by simp)))
    go_ret
    exact FAIL.out _ HR.out hB
  | some Z =>
    have hZl := Lib.hid hu
    rw [hu] at hun
    replace hun : ∀ W, Calls Try.prog 68 #[.string (d.extract 1 d.size)] W fun e w' => e = .returned (.tuple #[.string ⟨Z.toArray⟩, .bool true]) ∧ Below W.heap.size W w' := hun
    by_cases hlen : Z.length = (nb + 1) * P
    rotate_left
    · have HR := Lib.hid (trk_3 (P := P) (nb := nb) (s := s) h0 hHT hu hlen)
      have hmm : (nb + 1) * P ≤ 264 := Nat.mul_le_mul (by omega : nb + 1 ≤ 33) hP8
      have hwm : IntKind.i64.wrap (((nb + 1 : Nat) : Int) * (P : Int)) = (((nb + 1) * P : Nat) : Int) := by rw [← Int.natCast_mul]; exact IntWalk.i64_in _ (by omega)
      have hzs : (⟨Z.toArray⟩ : ByteArray).size = Z.length := by show Z.toArray.size = Z.length; simp
      have hne : (((⟨Z.toArray⟩ : ByteArray).size : Int) != (((nb + 1) * P : Nat) : Int)) = true := by rw [hzs]; simpa using (by omega : ¬ (Z.length : Int) = (((nb + 1) * P : Nat) : Int))
      generalize (⟨Z.toArray⟩ : ByteArray) = ZB at *
      generalize (nb + 1) * P = m at *
      generalize nb + 1 = n1 at *
      clear h0 htT hHT hu hlen hzs
      go_enter Try.func26, Try.ntmps26
      go_wp2
      generalize (w.alloc (.cells #[.int .i64 c, .int .i64 h, .int .i64 (P : Int), .int .i64 s, .slice (some ⟨b, 0, none⟩) l.length cp] 24)) = w2 at *
      refine wp_region_quiet_below (by kernel_rfl) (by kernel_rfl) ?_
      repeat (go_big_quiet_step ((with_reducible exact htq _)))
      refine wpQuiet_nil ?_
      intro _ hw'
      obtain ⟨pq, hw''⟩ := hw'
      subst hw''
      have hx := gw_below w2 pq
      generalize Sort.grow (redrawn w2 pq.d) pq.os = w3 at hx ⊢
      replace hB : BB w _ := BB.next hB hx
      replace C0 := C0.next hx
      clear q0 q1 q2 q3 q4 c0 c1 c2 c3 c4 htq
      have c3 : (_ : Option Value) = some (.int .i64 s) := C0 3 (by simp)
      have c2 : (_ : Option Value) = some (.int .i64 (P : Int)) := C0 2 (by simp)
      go_wp2_with (first
        | (go_at_call 69; refine (hsz _).mono ?_; rintro e w5 ⟨rfl, rfl⟩)
        | (go_at_call 68; refine (hun _).mono ?_; rintro e w4 ⟨rfl, hx4⟩; replace hB : BB w _ := BB.next hB hx4; replace C0 := C0.next hx4; replace c3 : (_ : Option Value) = some (.int .i64 s) := C0 3 (by simp); replace c2 : (_ : Option Value) = some (.int .i64 (P : Int)) := C0 2 (by simp)))
      go_ret
      exact FAIL.out _ HR.out hB
    have hzs : (⟨Z.toArray⟩ : ByteArray).size = (nb + 1) * P := by rw [← hlen]; show Z.toArray.size = Z.length; simp
    have HT4 := Lib.hid (fun (k : Nat) (hk : k < P) (h3 : secX s (secAt ⟨Z.toArray⟩ nb k) = false) => trk_4 (T := T) h0 hHT hu hk h3)
    have HT5 := Lib.hid (fun (h4 : ∀ k, k < P → secX s (secAt ⟨Z.toArray⟩ nb k) = true) => trk_5 (T := T) h0 hHT hu hlen h4)
    have hmm : (nb + 1) * P ≤ 264 := Nat.mul_le_mul (by omega : nb + 1 ≤ 33) hP8
    have hwm : IntKind.i64.wrap (((nb + 1 : Nat) : Int) * (P : Int)) = (((nb + 1) * P : Nat) : Int) := by rw [← Int.natCast_mul]; exact IntWalk.i64_in _ (by omega)
    have hne : (((⟨Z.toArray⟩ : ByteArray).size : Int) != (((nb + 1) * P : Nat) : Int)) = false := by rw [hzs]; simp
    have hmk : ∀ W, (Instr.makeSlice 22 (.int .i64 (P : Int)) (.int .i64 (P : Int))).run Try.prog W = .ok (.slice (some ⟨W.heap.size, 0, none⟩) P P) (W.alloc (.cells (madeCells (Value.agg #[.string ByteArray.empty, .int .i64 0]).cells (P * 2)) 90)) := fun W => eltSector.make P (by omega) (by omega) W
    generalize (⟨Z.toArray⟩ : ByteArray) = ZB at *
    have HZS := Lib.hid hzs
    have HMM := Lib.hid hmm
    obtain ⟨m, hm⟩ : ∃ m, (nb + 1) * P = m := ⟨_, rfl⟩
    rw [hm] at hwm hne
    obtain ⟨n1, hn1⟩ : ∃ n1, nb + 1 = n1 := ⟨_, rfl⟩
    have HN1 := Lib.hid hn1
    rw [hn1] at hwm hwn
    clear h0 htT hHT hu hlen hzs hmm hm hn1
    go_enter Try.func26, Try.ntmps26
    go_wp2
    generalize (w.alloc (.cells #[.int .i64 c, .int .i64 h, .int .i64 (P : Int), .int .i64 s, .slice (some ⟨b, 0, none⟩) l.length cp] 24)) = w2 at *
    refine wp_region_quiet_below (by kernel_rfl) (by kernel_rfl) ?_
    repeat (go_big_quiet_step ((with_reducible exact htq _)))
    refine wpQuiet_nil ?_
    intro _ hw'
    obtain ⟨pq, hw''⟩ := hw'
    subst hw''
    have hx := gw_below w2 pq
    generalize Sort.grow (redrawn w2 pq.d) pq.os = w3 at hx ⊢
    replace hB : BB w _ := BB.next hB hx
    replace C0 := C0.next hx
    clear q0 q1 q2 q3 q4 c0 c1 c2 c3 c4 htq
    have c3 : (_ : Option Value) = some (.int .i64 s) := C0 3 (by simp)
    have c2 : (_ : Option Value) = some (.int .i64 (P : Int)) := C0 2 (by simp)
    go_wp2_with (first
      | (go_at_call 69; refine (hsz _).mono ?_; rintro e w5 ⟨rfl, rfl⟩)
      | (go_at_call 68; refine (hun _).mono ?_; rintro e w4 ⟨rfl, hx4⟩; replace hB : BB w _ := BB.next hB hx4; replace C0 := C0.next hx4; replace c3 : (_ : Option Value) = some (.int .i64 s) := C0 3 (by simp); replace c2 : (_ : Option Value) = some (.int .i64 (P : Int)) := C0 2 (by simp)))
    have hw4 := Below.size hB
    have hlt4 := (cell_spot c3).2
    replace hlt4 : w.heap.size < w4.heap.size := hlt4
    clear c2 c3 hun hwm hne hw4
    have G1 := FillC.made w4 90 (Value.agg #[.string ByteArray.empty, .int .i64 0]).cells (P * 2) (flat fSector (secs ZB nb P))
    have hB4 := BB.al hB (.cells (madeCells (Value.agg #[.string ByteArray.empty, .int .i64 0]).cells (P * 2)) 90)
    have C4 := C0.al (.cells (madeCells (Value.agg #[.string ByteArray.empty, .int .i64 0]).cells (P * 2)) 90)
    generalize w4.heap.size = gs at *
    go_loopw [9, 46] (fun _ i wr => ∃ k : Nat, k ≤ P ∧ i = .int .i64 k ∧ FillC wr gs 90 (P * 2) (flat fSector (secs ZB nb P)) (k * 2) ∧ CP wr w.heap.size [.int .i64 c, .int .i64 h, .int .i64 (P : Int), .int .i64 s, .slice (some ⟨b, 0, none⟩) l.length cp] ∧ BB w wr ∧ Hid (∀ j, j < k → secX s (secAt ZB nb j) = true)) (fun _ i _ => P - (intOf i).toNat)
    case atStart => exact ⟨0, Nat.zero_le _, rfl, G1, C4, hB4, Lib.hid (fun j hj => absurd hj (Nat.not_lt_zero j))⟩
    case round =>
      clear G1 hB4 C4 hB C0
      obtain ⟨k, hk, rfl, F1, D, hB, HK⟩ := hrel
      have hfl := flat_length fSector 2 fSector_len (secs ZB nb P)
      rw [secs_len] at hfl
      by_cases hlt : k < P
      · obtain ⟨q, hq⟩ : ∃ q, k * (nb + 1) = q := ⟨_, rfl⟩
        have hkn : (k + 1) * (nb + 1) = q + (nb + 1) := by rw [Nat.succ_mul, hq]
        have hqm : q + (nb + 1) ≤ ZB.size := by
          rw [HZS.out, ← hkn, Nat.mul_comm (nb + 1)]
          exact Nat.mul_le_mul_right _ hlt
        have hzz : ZB.size ≤ 264 := by rw [HZS.out]; exact HMM.out
        have hx0 : (flat fSector (secs ZB nb P))[k * 2 + 0]? = some (.string (ZB.extract (q + 1) (q + (nb + 1)))) := by
          have := flat_get fSector 2 fSector_len (secs ZB nb P) k 0 (by rw [secs_len]; exact hlt) (by omega)
          rw [this, secs_get, secAt, hq]; rfl
        have hx1 : (flat fSector (secs ZB nb P))[k * 2 + 1]? = some (.int .i64 (bt ZB q : Int)) := by
          have := flat_get fSector 2 fSector_len (secs ZB nb P) k 1 (by rw [secs_len]; exact hlt) (by omega)
          rw [this, secs_get, secAt, hq]; rfl
        have hsx : secX s (secAt ZB nb k) = secB (ZB.extract (q + 1) (q + (nb + 1))) (bt ZB q : Int) nb := by
          rw [secX, secAt, hq, hnb]; rfl
        have hvs := fun W => validSector_any (ZB.extract (q + 1) (q + (nb + 1))) (bt ZB q : Int) s nb W (by rw [ByteArray.size_extract]; unfold maxLen; omega) hs0 hs2 hnb (by omega)
        have hN1 := HN1.out
        rw [hN1] at hqm hkn hvs hx0 hsx hq
        have hqz : q < ZB.size := by omega
        have eZ := bt_eq ZB q hqz
        have bZ := bt_lt ZB q
        have hw1 : IntKind.i64.wrap ((k : Int) * (n1 : Int)) = (q : Int) := by rw [← Int.natCast_mul, hq]; exact IntWalk.i64_in _ (by omega)
        have hw2 : IntKind.i64.wrap ((q : Int) + 1) = ((q + 1 : Nat) : Int) := IntWalk.i64_in _ (by omega)
        have hw3 : IntKind.i64.wrap ((k : Int) + 1) = ((k + 1 : Nat) : Int) := IntWalk.i64_in _ (by omega)
        have hw4 : IntKind.i64.wrap (((k + 1 : Nat) : Int) * (n1 : Int)) = ((q + n1 : Nat) : Int) := by rw [← Int.natCast_mul, hkn]; exact IntWalk.i64_in _ (by omega)
        have HKS := Lib.hid (fun (h : secX s (secAt ZB nb k) = true) => (show ∀ j, j < k + 1 → secX s (secAt ZB nb j) = true from fun j hj => by
          rcases Nat.lt_succ_iff_lt_or_eq.1 hj with hj | rfl
          · exact HK.out j hj
          · exact h))
        have HSX := Lib.hid hsx
        have HQ := Lib.hid hq
        have HKN := Lib.hid hkn
        have hqn : q + 1 ≤ q + n1 := by omega
        have hqni : ((q + 1 : Nat) : Int) ≤ ((q + n1 : Nat) : Int) := by omega
        have hqmi : ((q + n1 : Nat) : Int) ≤ (ZB.size : Int) := by omega
        have hqzi : (q : Int) < (ZB.size : Int) := by omega
        clear hq hkn hsx hN1
        obtain ⟨r1, hr1⟩ : ∃ r1, q + 1 = r1 := ⟨_, rfl⟩
        obtain ⟨r2, hr2⟩ : ∃ r2, q + n1 = r2 := ⟨_, rfl⟩
        obtain ⟨k1, hk1⟩ : ∃ k1, k + 1 = k1 := ⟨_, rfl⟩
        rw [hr1, hr2] at hqn hqni HSX hvs hx0
        rw [hr2] at hqmi hw4 hqm
        rw [hr1] at hw2
        rw [hk1] at hw3 hw4 HKS
        have HK1 := Lib.hid hk1
        clear hr1 hr2 hk1
        obtain ⟨X, hX⟩ : ∃ X, ZB.extract r1 r2 = X := ⟨_, rfl⟩
        rw [hX] at hvs HSX hx0
        generalize hY : bt ZB q = Y at *
        go_wp2
        refine wp_region_still_tail 19 (by kernel_rfl) (by kernel_rfl) ?_
        simp only [List.take_succ_cons, List.take_zero, List.drop_succ_cons, List.drop_zero]
        repeat still_step
        refine wpStill_nil ?_
        change wpList _ _ _ _ _ wr.drew
        replace F1 : FillC wr.drew _ _ _ _ _ := F1
        replace D : CP wr.drew _ _ := D
        replace hB : BB w wr.drew := BB.dr hB
        generalize wr.drew = w6 at *
        obtain ⟨u0, hu0⟩ := F1.some_ (k * 2 + 0) (by omega)
        have hfz0 := F1.free (k * 2 + 0)
        obtain ⟨u1, hu1⟩ := F1.some_ (k * 2 + 1) (by omega)
        have hfz1 := F1.free (k * 2 + 1)
        simp only [Nat.add_zero] at hu0 hfz0
        have hp0 := F1.put (.string X) (by omega) (by simpa using hx0)
        have hp1 := hp0.put (.int .i64 (Y : Int)) (by omega) hx1
        have D2 := (D.put (a := ⟨gs, k * 2, none⟩) (show w.heap.size ≠ gs by omega) (.string X)).put (a := ⟨gs, k * 2 + 1, none⟩) (show w.heap.size ≠ gs by omega) (.int .i64 (Y : Int))
        have hB2 := BB.put (a := ⟨gs, k * 2 + 1, none⟩) (BB.put (a := ⟨gs, k * 2, none⟩) hB (show w.heap.size ≤ gs by omega) (.string X)) (show w.heap.size ≤ gs by omega) (.int .i64 (Y : Int))
        go_wp2
        clear u0 hu0 hfz0 u1 hu1 hfz1 hp0 F1 D hB
        generalize (w6.setCell ⟨gs, k * 2, none⟩ (.string X)).setCell ⟨gs, k * 2 + 1, none⟩ (.int .i64 (Y : Int)) = w7 at *
        have y0 : w7.cell? ⟨gs, k * 2, none⟩ = some (.string X) := hp1.at_ (by omega) (by simpa using hx0)
        have y1 : w7.cell? ⟨gs, k * 2 + 1, none⟩ = some (.int .i64 (Y : Int)) := hp1.at_ (by omega) hx1
        have y3 : (_ : Option Value) = some (.int .i64 s) := D2 3 (by simp)
        have k0 := gw_cell y0
        have k1 := gw_cell y1
        have k3 := gw_cell y3
        have hvq := fun (p' : Regrown) => qb_below p' (hvs (Sort.grow (redrawn w7 p'.d) p'.os))
        generalize hsec : secB X (Y : Int) nb = sb at *
        refine wp_region_quiet_below (by kernel_rfl) (by kernel_rfl) ?_
        repeat (go_big_quiet_step ((with_reducible exact hvq _)))
        refine wpQuiet_nil ?_
        intro _ hw'
        obtain ⟨pq, hw''⟩ := hw'
        subst hw''
        have hx := gw_below w7 pq
        generalize Sort.grow (redrawn w7 pq.d) pq.os = w8 at hx ⊢
        have F8 := hp1.below hx hp1.lt
        have D8 := D2.next hx
        have hB8 : BB w _ := BB.next hB2 hx
        clear k0 k1 k3 hvq y0 y1 y3 hp1 D2 hB2
        cases sb
        · go_wp2
          go_ret
          exact FAIL.out _ (HT4.out k hlt HSX.out) hB8
        · go_wp2
          go_roundw
          case rel => exact ⟨k1, by have := HK1.out; omega, rfl, by rw [show k1 * 2 = k * 2 + 1 + 1 by have := HK1.out; omega]; exact F8, D8, hB8, Lib.hid (HKS.out HSX.out)⟩
          case measure => (have := HK1.out; simp [intOf]; omega)
      · obtain rfl : k = P := by omega
        have HR := Lib.hid (HT5.out HK.out)
        have hssl := secs_len ZB nb k
        have hown := F1.own (base := gs) (size := 2) (n := k) (by omega) (by omega) (Nat.le_refl _) (by simp only [maxLen]; omega)
        generalize secs ZB nb k = ss at *
        have hts := fun W => trackSectors_any c h s k t b 0 cp l W (by rw [HL.out, ← Nat.succ_mul]; exact Nat.mul_le_mul_right k htlt2) hl128 hP8 hP0 hcp
        simp only [Nat.zero_add] at hts
        have c0 : (_ : Option Value) = some (.int .i64 c) := D 0 (by simp)
        have c1 : (_ : Option Value) = some (.int .i64 h) := D 1 (by simp)
        have c2 : (_ : Option Value) = some (.int .i64 (k : Int)) := D 2 (by simp)
        have c3 : (_ : Option Value) = some (.int .i64 s) := D 3 (by simp)
        have c4 : (_ : Option Value) = some (.slice (some ⟨b, 0, none⟩) l.length cp) := D 4 (by simp)
        replace hown : OO wr _ _ _ _ _ _ := hown
        have hq2 : t * k + k ≤ l.length := by rw [HL.out, ← Nat.succ_mul]; exact Nat.mul_le_mul_right k htlt2
        have HLEN := Lib.hid hssl
        clear hssl
        go_wp2
        go_region_law (first
          | (refine step_copyF (f := fSector) rfl _ _ _ rfl eltSector fSector_len oneSector l ss rfl HLEN.out.symm hP0 hq2 rfl rfl (own_later ho hB (Nat.le_refl _)) (Rd.of_own (OOf hown)) ?_; intro w9 ho9 hg9)
          | (go_simp; go_at_call 71; refine (hts _).mono ?_; rintro e w5 ⟨rfl, hx5⟩; replace hB : BB w _ := BB.next (BB.dr hB) hx5; replace hown := OO.next (OO.dr hown) hx5))
        all_goals
          go_wp2
          go_ret
          exact ⟨by rw [HR.out]; rfl, by rw [rtL_yes HR.out, HTB.out]; exact ho9, (only_of_below hB (some b)).trans hg9⟩
end Go.Proofs.Ytjjcedodjoieoaa
