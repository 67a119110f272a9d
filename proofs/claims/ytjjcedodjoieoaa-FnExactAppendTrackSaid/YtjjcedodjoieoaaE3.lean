/- Walks: the texts W11 W80s W119 W120 W121 W122 DecV W123 AppM W40 W41 W124 as one text. -/
import Derived.Test.YtjjcedodjoieoaaW10
import Derived.Test.YtjjcedodjoieoaaSSector
import Derived.Test.YtjjcedodjoieoaaMark
import Derived.Test.YtjjcedodjoieoaaE2
import Derived.Test.YtjjcedodjoieoaaW60
import Derived.Test.YtjjcedodjoieoaaQB
import Derived.Test.YtjjcedodjoieoaaW61
import Derived.Test.YtjjcedodjoieoaaSDisc
import Derived.Test.YtjjcedodjoieoaaSInt64
import Derived.Test.YtjjcedodjoieoaaSString
import Derived.Test.YtjjcedodjoieoaaStep
import Derived.Test.YtjjcedodjoieoaaW31
import Derived.Test.YtjjcedodjoieoaaShelf
namespace Go.Proofs.Ytjjcedodjoieoaa
open Go.RowKit
set_option linter.unusedVariables false

set_option maxRecDepth 100000 in
set_option maxHeartbeats 1000000 in
theorem l14Unpack_any (s : ByteArray) (w : World) (hs : s.size ≤ maxLen) :
    Calls Try.prog 60 #[.string s] w fun e w' => e = .returned (resB (unp s)) ∧ Below w.heap.size w w' := by
  unfold maxLen at hs
  by_cases hbig : 8192 < s.size
  · have HR := Lib.hid (unp_big s hbig)
    go_enter Try.func60, Try.ntmps60
    go_wp2
    go_ret2
    exact ⟨by rw [HR.out]; rfl, Below.refl _ _⟩
  · have HST := Lib.hid (unp_start s (by omega))
    go_enter Try.func60, Try.ntmps60
    go_wp2
    go_loopw [4, 5, 6, 7] (fun v i _ _ wr => ∃ (f at_ : Nat) (out : List UInt8), s.size + 1 ≤ f + at_ ∧ at_ ≤ s.size ∧ out.length ≤ 4096 ∧ i = .int .i64 at_ ∧ OwnB wr w.heap.size 5 v out ∧ Below w.heap.size w wr ∧ Hid (unpG s f at_ out = unp s))
      (fun _ i _ _ _ => s.size - (intOf i).toNat)
    case atStart => exact ⟨s.size + 1, 0, [], by omega, by omega, by simp, rfl, OwnB.lit w [] _ rfl (Nat.le_refl _) (by simp [maxLen]), below_alloc (Below.refl _ _) _, HST⟩
    case round =>
      obtain ⟨f, at_, out, hf, hat, hlen, rfl, hown, hbel, HI⟩ := hrel
      obtain ⟨A, c, rfl⟩ := hown.form
      have hsz := hbel.size
      by_cases hlt : at_ < s.size
      · obtain ⟨f, rfl⟩ : ∃ f', f = f' + 1 := ⟨f - 1, by omega⟩
        have eat := bt_eq s at_ hlt
        have hb := bt_lt s at_
        by_cases hlit : bt s at_ < 128
        · by_cases h2 : at_ + bt s at_ + 2 ≤ s.size
          · have HST1 := Lib.hid (unpStep_lit s at_ out hlit h2)
            have HSG := Lib.hid (seg_length s (at_ + 1) (at_ + bt s at_ + 2) h2)
            go_wp2_with (at_builtin; go_must (refine wpList_appS rfl (.tmp 32) (.tmp 40) 102 9 rfl eltB Try.underlying9 _ out rfl hown _ rfl (by rw [ByteArray.size_extract]; omega) hsz ?_); intro v' w' hown' hg hat' hbl; generalize hgo : out ++ (s.extract (at_ + 1) (at_ + bt s at_ + 2)).data.toList = o' at hown'; have HGO := Lib.hid hgo; clear hgo; obtain ⟨A', c', rfl⟩ := hown'.form)
            · have hl : 4096 < (o'.length : Int) := by assumption
              have hn := unpG_long s f at_ _ out o' hlt HI.out (HST1.out.trans (by rw [← HGO.out]; rfl)) (by omega)
              have HR := Lib.hid hn
              clear hn
              go_ret2
              exact ⟨by rw [HR.out]; rfl, hbel.trans hbl⟩
            · have hl : (o'.length : Int) ≤ 4096 := by assumption
              go_roundw
              case rel => exact ⟨f, at_ + bt s at_ + 2, o', by omega, h2, by omega, by go_num, hown', hbel.trans hbl, Lib.hid (unpG_go s f at_ _ out o' hlt HI.out (HST1.out.trans (by rw [← HGO.out]; rfl)) (by omega))⟩
              case measure => (simp [intOf] <;> omega)
          · have hn := unpG_none s f at_ out hlt HI.out (unpStep_lit_no s at_ out hlit h2)
            have HR := Lib.hid hn
            clear hn
            go_wp2
            go_ret2
            exact ⟨by rw [HR.out]; rfl, hbel⟩
        · by_cases h2 : at_ + 1 < s.size
          · have eat1 := bt_eq s (at_ + 1) h2
            have hb1 := bt_lt s (at_ + 1)
            by_cases h3 : 0 < bt s (at_ + 1)
            · by_cases h4 : bt s (at_ + 1) ≤ out.length
              · have d4 : decide (bt s (at_ + 1) ≤ out.length) = true := by simp; omega
                have d3 : decide (0 < bt s (at_ + 1)) = true := by simp; omega
                have HST1 := Lib.hid (unpStep_ref s at_ out hlit h2 h3 h4)
                go_wp2
                go_loopw [4, 7] (fun v i wr' => ∃ (m : Nat) (o : List UInt8), m ≤ bt s at_ - 125 ∧ i = .int .i64 m ∧ Hid (o.length + m = out.length + (bt s at_ - 125)) ∧ OwnB wr' w.heap.size 5 v o ∧ Below w.heap.size w wr' ∧ Hid (cpyBack (bt s (at_ + 1)) m o = cpyBack (bt s (at_ + 1)) (bt s at_ - 125) out))
                  (fun _ i _ => (intOf i).toNat)
                case atStart => exact ⟨bt s at_ - 125, out, Nat.le_refl _, congrArg (Value.int .i64) (by omega), Lib.hid rfl, hown, hbel, Lib.hid rfl⟩
                case round =>
                  obtain ⟨m, o, hm, rfl, HO, hown2, hbel2, HC⟩ := hrel
                  have hsz2 := hbel2.size
                  have ho1 : out.length ≤ o.length := by have := HO.out; omega
                  have ho2 : o.length ≤ out.length + 130 := by have := HO.out; omega
                  rcases m with _ | m
                  · have hE : o = cpyBack (bt s (at_ + 1)) (bt s at_ - 125) out := HC.out
                    have HE := Lib.hid hE
                    clear hE
                    obtain ⟨A', c', rfl⟩ := hown2.form
                    by_cases hl : 4096 < o.length
                    · have hn := unpG_long s f at_ _ out o hlt HI.out (HST1.out.trans (by rw [← HE.out])) hl
                      have HR := Lib.hid hn
                      clear hn
                      go_wp2
                      go_ret2
                      exact ⟨by rw [HR.out]; rfl, hbel2⟩
                    · have hn := unpG_go s f at_ _ out o hlt HI.out (HST1.out.trans (by rw [← HE.out])) hl
                      have HN := Lib.hid hn
                      clear hn
                      go_wp2
                      go_roundw
                      case rel => exact ⟨f, at_ + 2, o, by omega, by omega, by omega, by go_num, hown2, hbel2, HN⟩
                      case measure => (simp [intOf] <;> omega)
                  · have HC2 := Lib.hid (cpy_step _ _ _ _ HC.out h3 (by omega))
                    obtain ⟨g, cap, rfl, hbg, hglt, hcell⟩ := hown2.at_ (o.length - bt s (at_ + 1)) (by omega)
                    have hbb := (o[o.length - bt s (at_ + 1)]'(by omega)).toNat_lt
                    go_wp2_with (at_builtin; go_must (refine wpList_appL rfl (.tmp 79) (.tmp 91) 102 rfl eltB _ o rfl hown2 _ _ [o[o.length - bt s (at_ + 1)]'(by omega)] 1 1 rfl rfl rfl (by simp; omega) hsz2 ?_); intro v' w' hown' hg hat' hbl)
                    go_roundw
                    case rel => exact ⟨m, _, by omega, by go_num, Lib.hid (by have := HO.out; rw [List.length_append, List.length_singleton]; omega), hown', hbel2.trans hbl, HC2⟩
                    case measure => (simp [intOf] <;> omega)
              · have hn := unpG_none s f at_ out hlt HI.out (unpStep_ref_no s at_ out hlit (by omega))
                have HR := Lib.hid hn
                clear hn
                go_wp2
                go_ret2
                exact ⟨by rw [HR.out]; rfl, hbel⟩
            · have hn := unpG_none s f at_ out hlt HI.out (unpStep_ref_no s at_ out hlit (by omega))
              have HR := Lib.hid hn
              clear hn
              go_wp2
              go_ret2
              exact ⟨by rw [HR.out]; rfl, hbel⟩
          · have hn := unpG_none s f at_ out hlt HI.out (unpStep_ref_no s at_ out hlit (by omega))
            have HR := Lib.hid hn
            clear hn
            go_wp2
            go_ret2
            exact ⟨by rw [HR.out]; rfl, hbel⟩
      · have HR := Lib.hid (unpG_end s f at_ out hlt HI.out)
        have hcv := run_b2s (P := Try.prog) (dst := 9) Try.underlying102 Try.underlying5 Try.underlying9 hown
        go_wp2
        go_ret2
        exact ⟨by rw [HR.out]; rfl, hbel⟩

end Go.Proofs.Ytjjcedodjoieoaa
namespace Go.Proofs.Ytjjcedodjoieoaa
set_option linter.unusedVariables false
open Go.RowKit

theorem setS (l : List DSector) (k : Nat) (hk : k < l.length) (y : DSector) : putV (flat fSector l) (k * 2) (fSector y) = flat fSector (l.set k y) := by
  have := flat_put fSector 2 fSector_len (l.take k) (l.drop (k + 1)) l[k] y
  rw [List.length_take, Nat.min_eq_left (by omega), ← List.drop_eq_getElem_cons hk, List.take_append_drop] at this
  rw [this]
  congr 1
  exact (List.set_eq_take_append_cons_drop.trans (if_pos hk)).symm
end Go.Proofs.Ytjjcedodjoieoaa
namespace Go.Proofs.Ytjjcedodjoieoaa
set_option linter.unusedVariables false
open Go.RowKit

set_option maxHeartbeats 400000 in
theorem hasTrack_any (c h s : Int) (P T t : Nat) (A : Option Addr) (n cp : Nat) (w : World) (hT : c * h = (T : Int)) (hT16 : T ≤ 128) :
    Calls Try.prog 48 #[.agg #[.int .i64 c, .int .i64 h, .int .i64 (P : Int), .int .i64 s, .slice A n cp], .int .i64 (t : Int)] w fun e w' => e = .returned (.bool (decide (t < T))) ∧ Below w.heap.size w w' := by
  have hw : IntKind.i64.wrap (c * h) = (T : Int) := by rw [hT]; exact IntWalk.i64_in _ (by omega)
  have hw2 : IntKind.i64.wrap ((T : Int) - 1) = (T : Int) - 1 := IntWalk.i64_in _ (by omega)
  have hin : inB (t : Int) 0 ((T : Int) - 1) = decide (t < T) := by
    unfold inB
    rw [decide_eq_true (show (0 : Int) ≤ (t : Int) by omega), Bool.true_and]
    apply decide_eq_decide.2
    omega
  have HI := Lib.hid hin
  clear hT hin
  go_enter Try.func48, Try.ntmps48
  go_wp2_with (go_at_call 87; refine (within_any _ _ _ _).mono ?_; rintro e w1 ⟨rfl, rfl⟩)
  go_ret
  exact ⟨by rw [HI.out]; rfl, (by with_reducible repeat (first | exact Below.refl _ _ | assumption | refine below_step ?_ (by assumption) | refine Below.drew ?_ | refine below_drewN ?_ _ | refine below_alloc ?_ _ | refine Below.setCell ?_ (by simp; try omega) _))⟩

theorem oneSector (x : DSector) : ∀ u ∈ fSector x, u.oneCell' = true := by
  intro u hu
  simp only [fSector, List.mem_cons, List.not_mem_nil, or_false] at hu
  rcases hu with rfl | rfl <;> rfl
theorem str_empty {d : ByteArray} (h : d.size = 0) : d = ⟨#[]⟩ := by
  apply ByteArray.ext
  exact Array.eq_empty_of_size_eq_zero h
theorem str_some {d : ByteArray} (h : ¬ d.size = 0) : (d.toList == []) = false := by
  rw [beq_eq_false_iff_ne]
  intro e
  apply h
  rw [ByteArray.toList_eq] at e
  have := congrArg List.length e
  simpa using this
theorem FillC.at_ {w : World} {g N m : Nat} {e : TypeId} {xs : List Value} (h : FillC w g e N xs m) {j : Nat} {v : Value} (hj : j < m) (hx : xs[j]? = some v) : w.cell? ⟨g, j, none⟩ = some v := by
  obtain ⟨cs, hg, hs, hc⟩ := h
  rw [cell_of_row w g j cs e (0, 0) hg, hc j hj, hx]

set_option maxRecDepth 100000 in
set_option maxHeartbeats 4000000 in
theorem readTrackData_any (c h s : Int) (P T nb b cp : Nat) (l : List DSector) (d : ByteArray) (w : World) (base : Nat) (hd : d.size ≤ maxLen) (hT : c * h = (T : Int)) (hT16 : T ≤ 16) (hP0 : 0 < P) (hP8 : P ≤ 8) (hs0 : 0 ≤ s) (hs2 : s ≤ 2) (hnb : szB s = (nb : Int)) (hnb32 : nb ≤ 32) (hl : l.length = T * P) (hcp : l.length ≤ cp)
    (ho : w.ownsRow base 90 2 (.slice (some ⟨b, 0, none⟩) l.length cp) l.length (flat fSector l)) :
    Calls Try.prog 26 #[.agg #[.int .i64 c, .int .i64 h, .int .i64 (P : Int), .int .i64 s, .slice (some ⟨b, 0, none⟩) l.length cp], .string d] w fun e w' => e = .returned (.bool (trk T P nb s d).isSome) ∧ w'.ownsRow base 90 2 (.slice (some ⟨b, 0, none⟩) l.length cp) l.length (flat fSector (rtL T P nb s l d)) ∧ w.grownBy w' (some b) := by
  unfold maxLen at hd
  have hl128 : l.length ≤ 128 := by
    rw [hl]
    exact Nat.mul_le_mul hT16 hP8
  have fail : ∀ (w' : World), trk T P nb s d = none → BB w w' → (Ending.returned (.bool false) = .returned (.bool (trk T P nb s d).isSome) ∧ w'.ownsRow base 90 2 (.slice (some ⟨b, 0, none⟩) l.length cp) l.length (flat fSector (rtL T P nb s l d)) ∧ w.grownBy w' (some b)) := fun w' h0 hB => by
    rw [h0, rtL_no h0]
    exact ⟨rfl, own_later ho hB (Nat.le_refl _), only_of_below hB _⟩
  have FAIL := Lib.hid fail
  clear fail
  have HL := Lib.hid hl
  clear hl
  have C0 : CP (w.alloc (.cells #[.int .i64 c, .int .i64 h, .int .i64 (P : Int), .int .i64 s, .slice (some ⟨b, 0, none⟩) l.length cp] 24)) w.heap.size [.int .i64 c, .int .i64 h, .int .i64 (P : Int), .int .i64 s, .slice (some ⟨b, 0, none⟩) l.length cp] := CP.made w [.int .i64 c, .int .i64 h, .int .i64 (P : Int), .int .i64 s, .slice (some ⟨b, 0, none⟩) l.length cp] 24
  have hB : BB w (w.alloc (.cells #[.int .i64 c, .int .i64 h, .int .i64 (P : Int), .int .i64 s, .slice (some ⟨b, 0, none⟩) l.length cp] 24)) := (show Below w.heap.size w (w.alloc (.cells #[.int .i64 c, .int .i64 h, .int .i64 (P : Int), .int .i64 s, .slice (some ⟨b, 0, none⟩) l.length cp] 24)) from (by with_reducible repeat (first | exact Below.refl _ _ | assumption | refine below_step ?_ (by assumption) | refine Below.drew ?_ | refine below_drewN ?_ _ | refine below_alloc ?_ _ | refine Below.setCell ?_ (by simp; try omega) _)))
  by_cases h0 : d.size = 0
  · have HR := Lib.hid (trk_0 (T := T) (P := P) (nb := nb) (s := s) h0)
    obtain rfl := str_empty h0
    clear h0
    go_enter Try.func26, Try.ntmps26
    go_wp2
    generalize (w.alloc (.cells #[.int .i64 c, .int .i64 h, .int .i64 (P : Int), .int .i64 s, .slice (some ⟨b, 0, none⟩) l.length cp] 24)) = w2 at *
    go_quiet (fail)
    replace hB : BB w _ := BB.dn hB nq
    go_wp2
    go_ret
    exact FAIL.out _ HR.out hB
  have hse := str_some h0
  have hdpos : 0 < d.size := Nat.pos_of_ne_zero h0
  have e0 := bt_eq d 0 hdpos
  have b0 := bt_lt d 0
  obtain ⟨t, ht⟩ : ∃ t, bt d 0 = t := ⟨_, rfl⟩
  rw [ht] at e0 b0
  have HTB := Lib.hid ht
  have htr := fun W => hasTrack_any c h s P T t (some ⟨b, 0, none⟩) l.length cp W hT (by omega)
  have c0 : (_ : Option Value) = some (.int .i64 c) := C0 0 (by simp)
  have c1 : (_ : Option Value) = some (.int .i64 h) := C0 1 (by simp)
  have c2 : (_ : Option Value) = some (.int .i64 (P : Int)) := C0 2 (by simp)
  have c3 : (_ : Option Value) = some (.int .i64 s) := C0 3 (by simp)
  have c4 : (_ : Option Value) = some (.slice (some ⟨b, 0, none⟩) l.length cp) := C0 4 (by simp)
  have q0 := gw_cell c0
  have q1 := gw_cell c1
  have q2 := gw_cell c2
  have q3 := gw_cell c3
  have q4 := gw_cell c4
  by_cases htT : T ≤ t
  · have HR := Lib.hid (trk_1 (P := P) (nb := nb) (s := s) h0 (by rw [ht]; exact htT))
    rw [decide_eq_false (by omega : ¬ t < T)] at htr
    clear h0 htT
    have htq := fun (p' : Regrown) => qb_below p' (htr (Sort.grow (redrawn (w.alloc (.cells #[.int .i64 c, .int .i64 h, .int .i64 (P : Int), .int .i64 s, .slice (some ⟨b, 0, none⟩) l.length cp] 24)) p'.d) p'.os))
    go_enter Try.func26, Try.ntmps26
    go_wp2
    generalize (w.alloc (.cells #[.int .i64 c, .int .i64 h, .int .i64 (P : Int), .int .i64 s, .slice (some ⟨b, 0, none⟩) l.length cp] 24)) = w2 at *
    refine wp_region_quiet_below (by kernel_rfl) (by kernel_rfl) ?_
    repeat (go_big_quiet_step ((with_reducible exact htq _)))
    refine wpQuiet_nil ?_
    intro _ hw'
    obtain ⟨pq, hw''⟩ := hw'
    subst hw''
    have hx := gw_below w2 pq
    generalize Sort.grow (redrawn w2 pq.d) pq.os = w3 at hx ⊢
    replace hB : BB w _ := BB.next hB hx
    go_wp2
    go_ret
    exact FAIL.out _ HR.out hB
  have htlt : t < T := by omega
  have htlt2 : t + 1 ≤ T := htlt
  rw [decide_eq_true htlt] at htr
  have hwt : IntKind.i64.wrap (t : Int) = (t : Int) := IntWalk.i64_in _ (by omega)
  have htq := fun (p' : Regrown) => qb_below p' (htr (Sort.grow (redrawn (w.alloc (.cells #[.int .i64 c, .int .i64 h, .int .i64 (P : Int), .int .i64 s, .slice (some ⟨b, 0, none⟩) l.length cp] 24)) p'.d) p'.os))
  have hsz := fun W => sizeBytes_any s hs0 hs2 W
  rw [hnb] at hsz
  have hun := fun W => impl_UnpackBytes_any (d.extract 1 d.size) W (by rw [ByteArray.size_extract]; unfold maxLen; omega)
  have hd1 : (1 : Int) ≤ (d.size : Int) := by omega
  have hwn : IntKind.i64.wrap ((nb : Int) + 1) = ((nb + 1 : Nat) : Int) := IntWalk.i64_in _ (by omega)
  have hHT : ¬ T ≤ bt d 0 := by rw [ht]; exact htT
  have START : True := trivial
  cases hu : unp (d.extract 1 d.size) with
  | none =>
    have HR := Lib.hid (trk_2 (P := P) (nb := nb) (s := s) h0 hHT hu)
    rw [hu] at hun
    unfold resB at hun
    clear h0 htT hHT hu
    go_enter Try.func26, Try.ntmps26
    go_wp2
    generalize (w.alloc (.cells #[.int .i64 c, .int .i64 h, .int .i64 (P : Int), .int .i64 s, .slice (some ⟨b, 0, none⟩) l.length cp] 24)) = w2 at *
    refine wp_region_quiet_below (by kernel_rfl) (by kernel_rfl) ?_
    repeat (go_big_quiet_step ((with_reducible exact htq _)))
    refine wpQuiet_nil ?_
    intro _ hw'
    obtain ⟨pq, hw''⟩ := hw'
    subst hw''
    have hx := gw_below w2 pq
    generalize Sort.grow (redrawn w2 pq.d) pq.os = w3 at hx ⊢
    replace hB : BB w _ := BB.next hB hx
    replace C0 := C0.next hx
    clear q0 q1 q2 q3 q4 c0 c1 c2 c3 c4 htq
    have c3 : (_ : Option Value) = some (.int .i64 s) := C0 3 (by simp)
    have c2 : (_ : Option Value) = some (.int .i64 (P : Int)) := C0 2 (by simp)
    go_wp2_with (first
      | (go_at_call 69; refine (hsz _).mono ?_; rintro e w5 ⟨rfl, rfl⟩)
      | (go_at_call 68; refine (hun _).mono ?_; rintro e w4 ⟨rfl, hx4⟩; replace hB : BB w _ := BB.next hB hx4; replace C0 := C0.next hx4; replace c3 : (_ : Option Value) = some (.int .i64 s) := C0 3 (by simp)))
    go_ret
    exact FAIL.out _ HR.out hB
  | some Z =>
    have hZl := Lib.hid hu
    rw [hu] at hun
    replace hun : ∀ W, Calls Try.prog 68 #[.string (d.extract 1 d.size)] W fun e w' => e = .returned (.tuple #[.string ⟨Z.toArray⟩, .bool true]) ∧ Below W.heap.size W w' := hun
    by_cases hlen : Z.length = (nb + 1) * P
    rotate_left
    · have HR := Lib.hid (trk_3 (P := P) (nb := nb) (s := s) h0 hHT hu hlen)
      have hmm : (nb + 1) * P ≤ 264 := Nat.mul_le_mul (by omega : nb + 1 ≤ 33) hP8
      have hwm : IntKind.i64.wrap (((nb + 1 : Nat) : Int) * (P : Int)) = (((nb + 1) * P : Nat) : Int) := by rw [← Int.natCast_mul]; exact IntWalk.i64_in _ (by omega)
      have hzs : (⟨Z.toArray⟩ : ByteArray).size = Z.length := by show Z.toArray.size = Z.length; simp
      have hne : (((⟨Z.toArray⟩ : ByteArray).size : Int) != (((nb + 1) * P : Nat) : Int)) = true := by rw [hzs]; simpa using (by omega : ¬ (Z.length : Int) = (((nb + 1) * P : Nat) : Int))
      generalize (⟨Z.toArray⟩ : ByteArray) = ZB at *
      generalize (nb + 1) * P = m at *
      generalize nb + 1 = n1 at *
      clear h0 htT hHT hu hlen hzs
      go_enter Try.func26, Try.ntmps26
      go_wp2
      generalize (w.alloc (.cells #[.int .i64 c, .int .i64 h, .int .i64 (P : Int), .int .i64 s, .slice (some ⟨b, 0, none⟩) l.length cp] 24)) = w2 at *
      refine wp_region_quiet_below (by kernel_rfl) (by kernel_rfl) ?_
      repeat (go_big_quiet_step ((with_reducible exact htq _)))
      refine wpQuiet_nil ?_
      intro _ hw'
      obtain ⟨pq, hw''⟩ := hw'
      subst hw''
      have hx := gw_below w2 pq
      generalize Sort.grow (redrawn w2 pq.d) pq.os = w3 at hx ⊢
      replace hB : BB w _ := BB.next hB hx
      replace C0 := C0.next hx
      clear q0 q1 q2 q3 q4 c0 c1 c2 c3 c4 htq
      have c3 : (_ : Option Value) = some (.int .i64 s) := C0 3 (by simp)
      have c2 : (_ : Option Value) = some (.int .i64 (P : Int)) := C0 2 (by simp)
      go_wp2_with (first
        | (go_at_call 69; refine (hsz _).mono ?_; rintro e w5 ⟨rfl, rfl⟩)
        | (go_at_call 68; refine (hun _).mono ?_; rintro e w4 ⟨rfl, hx4⟩; replace hB : BB w _ := BB.next hB hx4; replace C0 := C0.next hx4; replace c3 : (_ : Option Value) = some (.int .i64 s) := C0 3 (by simp); replace c2 : (_ : Option Value) = some (.int .i64 (P : Int)) := C0 2 (by simp)))
      go_ret
      exact FAIL.out _ HR.out hB
    have hzs : (⟨Z.toArray⟩ : ByteArray).size = (nb + 1) * P := by rw [← hlen]; show Z.toArray.size = Z.length; simp
    have HT4 := Lib.hid (fun (k : Nat) (hk : k < P) (h3 : secX s (secAt ⟨Z.toArray⟩ nb k) = false) => trk_4 (T := T) h0 hHT hu hk h3)
    have HT5 := Lib.hid (fun (h4 : ∀ k, k < P → secX s (secAt ⟨Z.toArray⟩ nb k) = true) => trk_5 (T := T) h0 hHT hu hlen h4)
    have hmm : (nb + 1) * P ≤ 264 := Nat.mul_le_mul (by omega : nb + 1 ≤ 33) hP8
    have hwm : IntKind.i64.wrap (((nb + 1 : Nat) : Int) * (P : Int)) = (((nb + 1) * P : Nat) : Int) := by rw [← Int.natCast_mul]; exact IntWalk.i64_in _ (by omega)
    have hne : (((⟨Z.toArray⟩ : ByteArray).size : Int) != (((nb + 1) * P : Nat) : Int)) = false := by rw [hzs]; simp
    have hmk : ∀ W, (Instr.makeSlice 22 (.int .i64 (P : Int)) (.int .i64 (P : Int))).run Try.prog W = .ok (.slice (some ⟨W.heap.size, 0, none⟩) P P) (W.alloc (.cells (madeCells (Value.agg #[.string ByteArray.empty, .int .i64 0]).cells (P * 2)) 90)) := fun W => eltSector.make P (by omega) (by omega) W
    generalize (⟨Z.toArray⟩ : ByteArray) = ZB at *
    have HZS := Lib.hid hzs
    have HMM := Lib.hid hmm
    obtain ⟨m, hm⟩ : ∃ m, (nb + 1) * P = m := ⟨_, rfl⟩
    rw [hm] at hwm hne
    obtain ⟨n1, hn1⟩ : ∃ n1, nb + 1 = n1 := ⟨_, rfl⟩
    have HN1 := Lib.hid hn1
    rw [hn1] at hwm hwn
    clear h0 htT hHT hu hlen hzs hmm hm hn1
    go_enter Try.func26, Try.ntmps26
    go_wp2
    generalize (w.alloc (.cells #[.int .i64 c, .int .i64 h, .int .i64 (P : Int), .int .i64 s, .slice (some ⟨b, 0, none⟩) l.length cp] 24)) = w2 at *
    refine wp_region_quiet_below (by kernel_rfl) (by kernel_rfl) ?_
    repeat (go_big_quiet_step ((with_reducible exact htq _)))
    refine wpQuiet_nil ?_
    intro _ hw'
    obtain ⟨pq, hw''⟩ := hw'
    subst hw''
    have hx := gw_below w2 pq
    generalize Sort.grow (redrawn w2 pq.d) pq.os = w3 at hx ⊢
    replace hB : BB w _ := BB.next hB hx
    replace C0 := C0.next hx
    clear q0 q1 q2 q3 q4 c0 c1 c2 c3 c4 htq
    have c3 : (_ : Option Value) = some (.int .i64 s) := C0 3 (by simp)
    have c2 : (_ : Option Value) = some (.int .i64 (P : Int)) := C0 2 (by simp)
    go_wp2_with (first
      | (go_at_call 69; refine (hsz _).mono ?_; rintro e w5 ⟨rfl, rfl⟩)
      | (go_at_call 68; refine (hun _).mono ?_; rintro e w4 ⟨rfl, hx4⟩; replace hB : BB w _ := BB.next hB hx4; replace C0 := C0.next hx4; replace c3 : (_ : Option Value) = some (.int .i64 s) := C0 3 (by simp); replace c2 : (_ : Option Value) = some (.int .i64 (P : Int)) := C0 2 (by simp)))
    have hw4 := Below.size hB
    have hlt4 := (cell_spot c3).2
    replace hlt4 : w.heap.size < w4.heap.size := hlt4
    clear c2 c3 hun hwm hne hw4
    have G1 := FillC.made w4 90 (Value.agg #[.string ByteArray.empty, .int .i64 0]).cells (P * 2) (flat fSector (secs ZB nb P))
    have hB4 := BB.al hB (.cells (madeCells (Value.agg #[.string ByteArray.empty, .int .i64 0]).cells (P * 2)) 90)
    have C4 := C0.al (.cells (madeCells (Value.agg #[.string ByteArray.empty, .int .i64 0]).cells (P * 2)) 90)
    generalize w4.heap.size = gs at *
    go_loopw [9, 46] (fun _ i wr => ∃ k : Nat, k ≤ P ∧ i = .int .i64 k ∧ FillC wr gs 90 (P * 2) (flat fSector (secs ZB nb P)) (k * 2) ∧ CP wr w.heap.size [.int .i64 c, .int .i64 h, .int .i64 (P : Int), .int .i64 s, .slice (some ⟨b, 0, none⟩) l.length cp] ∧ BB w wr ∧ Hid (∀ j, j < k → secX s (secAt ZB nb j) = true)) (fun _ i _ => P - (intOf i).toNat)
    case atStart => exact ⟨0, Nat.zero_le _, rfl, G1, C4, hB4, Lib.hid (fun j hj => absurd hj (Nat.not_lt_zero j))⟩
    case round =>
      clear G1 hB4 C4 hB C0
      obtain ⟨k, hk, rfl, F1, D, hB, HK⟩ := hrel
      have hfl := flat_length fSector 2 fSector_len (secs ZB nb P)
      rw [secs_len] at hfl
      by_cases hlt : k < P
      · obtain ⟨q, hq⟩ : ∃ q, k * (nb + 1) = q := ⟨_, rfl⟩
        have hkn : (k + 1) * (nb + 1) = q + (nb + 1) := by rw [Nat.succ_mul, hq]
        have hqm : q + (nb + 1) ≤ ZB.size := by
          rw [HZS.out, ← hkn, Nat.mul_comm (nb + 1)]
          exact Nat.mul_le_mul_right _ hlt
        have hzz : ZB.size ≤ 264 := by rw [HZS.out]; exact HMM.out
        have hx0 : (flat fSector (secs ZB nb P))[k * 2 + 0]? = some (.string (ZB.extract (q + 1) (q + (nb + 1)))) := by
          have := flat_get fSector 2 fSector_len (secs ZB nb P) k 0 (by rw [secs_len]; exact hlt) (by omega)
          rw [this, secs_get, secAt, hq]; rfl
        have hx1 : (flat fSector (secs ZB nb P))[k * 2 + 1]? = some (.int .i64 (bt ZB q : Int)) := by
          have := flat_get fSector 2 fSector_len (secs ZB nb P) k 1 (by rw [secs_len]; exact hlt) (by omega)
          rw [this, secs_get, secAt, hq]; rfl
        have hsx : secX s (secAt ZB nb k) = secB (ZB.extract (q + 1) (q + (nb + 1))) (bt ZB q : Int) nb := by
          rw [secX, secAt, hq, hnb]; rfl
        have hvs := fun W => validSector_any (ZB.extract (q + 1) (q + (nb + 1))) (bt ZB q : Int) s nb W (by rw [ByteArray.size_extract]; unfold maxLen; omega) hs0 hs2 hnb (by omega)
        have hN1 := HN1.out
        rw [hN1] at hqm hkn hvs hx0 hsx hq
        have hqz : q < ZB.size := by omega
        have eZ := bt_eq ZB q hqz
        have bZ := bt_lt ZB q
        have hw1 : IntKind.i64.wrap ((k : Int) * (n1 : Int)) = (q : Int) := by rw [← Int.natCast_mul, hq]; exact IntWalk.i64_in _ (by omega)
        have hw2 : IntKind.i64.wrap ((q : Int) + 1) = ((q + 1 : Nat) : Int) := IntWalk.i64_in _ (by omega)
        have hw3 : IntKind.i64.wrap ((k : Int) + 1) = ((k + 1 : Nat) : Int) := IntWalk.i64_in _ (by omega)
        have hw4 : IntKind.i64.wrap (((k + 1 : Nat) : Int) * (n1 : Int)) = ((q + n1 : Nat) : Int) := by rw [← Int.natCast_mul, hkn]; exact IntWalk.i64_in _ (by omega)
        have HKS := Lib.hid (fun (h : secX s (secAt ZB nb k) = true) => (show ∀ j, j < k + 1 → secX s (secAt ZB nb j) = true from fun j hj => by
          rcases Nat.lt_succ_iff_lt_or_eq.1 hj with hj | rfl
          · exact HK.out j hj
          · exact h))
        have HSX := Lib.hid hsx
        have HQ := Lib.hid hq
        have HKN := Lib.hid hkn
        have hqn : q + 1 ≤ q + n1 := by omega
        have hqni : ((q + 1 : Nat) : Int) ≤ ((q + n1 : Nat) : Int) := by omega
        have hqmi : ((q + n1 : Nat) : Int) ≤ (ZB.size : Int) := by omega
        have hqzi : (q : Int) < (ZB.size : Int) := by omega
        clear hq hkn hsx hN1
        obtain ⟨r1, hr1⟩ : ∃ r1, q + 1 = r1 := ⟨_, rfl⟩
        obtain ⟨r2, hr2⟩ : ∃ r2, q + n1 = r2 := ⟨_, rfl⟩
        obtain ⟨k1, hk1⟩ : ∃ k1, k + 1 = k1 := ⟨_, rfl⟩
        rw [hr1, hr2] at hqn hqni HSX hvs hx0
        rw [hr2] at hqmi hw4 hqm
        rw [hr1] at hw2
        rw [hk1] at hw3 hw4 HKS
        have HK1 := Lib.hid hk1
        clear hr1 hr2 hk1
        obtain ⟨X, hX⟩ : ∃ X, ZB.extract r1 r2 = X := ⟨_, rfl⟩
        rw [hX] at hvs HSX hx0
        generalize hY : bt ZB q = Y at *
        go_wp2
        refine wp_region_still_tail 19 (by kernel_rfl) (by kernel_rfl) ?_
        simp only [List.take_succ_cons, List.take_zero, List.drop_succ_cons, List.drop_zero]
        repeat still_step
        refine wpStill_nil ?_
        change wpList _ _ _ _ _ wr.drew
        replace F1 : FillC wr.drew _ _ _ _ _ := F1
        replace D : CP wr.drew _ _ := D
        replace hB : BB w wr.drew := BB.dr hB
        generalize wr.drew = w6 at *
        obtain ⟨u0, hu0⟩ := F1.some_ (k * 2 + 0) (by omega)
        have hfz0 := F1.free (k * 2 + 0)
        obtain ⟨u1, hu1⟩ := F1.some_ (k * 2 + 1) (by omega)
        have hfz1 := F1.free (k * 2 + 1)
        simp only [Nat.add_zero] at hu0 hfz0
        have hp0 := F1.put (.string X) (by omega) (by simpa using hx0)
        have hp1 := hp0.put (.int .i64 (Y : Int)) (by omega) hx1
        have D2 := (D.put (a := ⟨gs, k * 2, none⟩) (show w.heap.size ≠ gs by omega) (.string X)).put (a := ⟨gs, k * 2 + 1, none⟩) (show w.heap.size ≠ gs by omega) (.int .i64 (Y : Int))
        have hB2 := BB.put (a := ⟨gs, k * 2 + 1, none⟩) (BB.put (a := ⟨gs, k * 2, none⟩) hB (show w.heap.size ≤ gs by omega) (.string X)) (show w.heap.size ≤ gs by omega) (.int .i64 (Y : Int))
        go_wp2
        clear u0 hu0 hfz0 u1 hu1 hfz1 hp0 F1 D hB
        generalize (w6.setCell ⟨gs, k * 2, none⟩ (.string X)).setCell ⟨gs, k * 2 + 1, none⟩ (.int .i64 (Y : Int)) = w7 at *
        have y0 : w7.cell? ⟨gs, k * 2, none⟩ = some (.string X) := hp1.at_ (by omega) (by simpa using hx0)
        have y1 : w7.cell? ⟨gs, k * 2 + 1, none⟩ = some (.int .i64 (Y : Int)) := hp1.at_ (by omega) hx1
        have y3 : (_ : Option Value) = some (.int .i64 s) := D2 3 (by simp)
        have k0 := gw_cell y0
        have k1 := gw_cell y1
        have k3 := gw_cell y3
        have hvq := fun (p' : Regrown) => qb_below p' (hvs (Sort.grow (redrawn w7 p'.d) p'.os))
        generalize hsec : secB X (Y : Int) nb = sb at *
        refine wp_region_quiet_below (by kernel_rfl) (by kernel_rfl) ?_
        repeat (go_big_quiet_step ((with_reducible exact hvq _)))
        refine wpQuiet_nil ?_
        intro _ hw'
        obtain ⟨pq, hw''⟩ := hw'
        subst hw''
        have hx := gw_below w7 pq
        generalize Sort.grow (redrawn w7 pq.d) pq.os = w8 at hx ⊢
        have F8 := hp1.below hx hp1.lt
        have D8 := D2.next hx
        have hB8 : BB w _ := BB.next hB2 hx
        clear k0 k1 k3 hvq y0 y1 y3 hp1 D2 hB2
        cases sb
        · go_wp2
          go_ret
          exact FAIL.out _ (HT4.out k hlt HSX.out) hB8
        · go_wp2
          go_roundw
          case rel => exact ⟨k1, by have := HK1.out; omega, rfl, by rw [show k1 * 2 = k * 2 + 1 + 1 by have := HK1.out; omega]; exact F8, D8, hB8, Lib.hid (HKS.out HSX.out)⟩
          case measure => (have := HK1.out; simp [intOf]; omega)
      · obtain rfl : k = P := by omega
        have HR := Lib.hid (HT5.out HK.out)
        have hssl := secs_len ZB nb k
        have hown := F1.own (base := gs) (size := 2) (n := k) (by omega) (by omega) (Nat.le_refl _) (by simp only [maxLen]; omega)
        generalize secs ZB nb k = ss at *
        have hts := fun W => trackSectors_any c h s k t b 0 cp l W (by rw [HL.out, ← Nat.succ_mul]; exact Nat.mul_le_mul_right k htlt2) hl128 hP8 hP0 hcp
        simp only [Nat.zero_add] at hts
        have c0 : (_ : Option Value) = some (.int .i64 c) := D 0 (by simp)
        have c1 : (_ : Option Value) = some (.int .i64 h) := D 1 (by simp)
        have c2 : (_ : Option Value) = some (.int .i64 (k : Int)) := D 2 (by simp)
        have c3 : (_ : Option Value) = some (.int .i64 s) := D 3 (by simp)
        have c4 : (_ : Option Value) = some (.slice (some ⟨b, 0, none⟩) l.length cp) := D 4 (by simp)
        replace hown : OO wr _ _ _ _ _ _ := hown
        have hq2 : t * k + k ≤ l.length := by rw [HL.out, ← Nat.succ_mul]; exact Nat.mul_le_mul_right k htlt2
        have HLEN := Lib.hid hssl
        clear hssl
        go_wp2
        go_region_law (first
          | (refine step_copyF (f := fSector) rfl _ _ _ rfl eltSector fSector_len oneSector l ss rfl HLEN.out.symm hP0 hq2 rfl rfl (own_later ho hB (Nat.le_refl _)) (Rd.of_own (OOf hown)) ?_; intro w9 ho9 hg9)
          | (go_simp; go_at_call 71; refine (hts _).mono ?_; rintro e w5 ⟨rfl, hx5⟩; replace hB : BB w _ := BB.next (BB.dr hB) hx5; replace hown := OO.next (OO.dr hown) hx5))
        all_goals
          go_wp2
          go_ret
          exact ⟨by rw [HR.out]; rfl, by rw [rtL_yes HR.out, HTB.out]; exact ho9, (only_of_below hB (some b)).trans hg9⟩
end Go.Proofs.Ytjjcedodjoieoaa
namespace Go.Proofs.Ytjjcedodjoieoaa
set_option linter.unusedVariables false
open Go.RowKit

section
variable {P : Program} {w : World} {base size bytes : Nat} {e : TypeId} {z v : Value} {α : Type} {f : α → List Value}
/-- append of one struct as a step of a region that draws its order; where the row may lie is told. -/
theorem step_appG {ops : Array Oper} {o : Oper} {a : Act} {K : Act → World → Prop} {Q : Exit → Act → World → Prop} {E0 : Prop} (hgd : o.guard = none) (s x : Operand) (t : TypeId)
    (ho : o.op = .call { callee := .builtin .append, args := #[s, x], argTypes := #[t, t] }) (E : Elt P t e size bytes z) (hby : bytes ≤ 1000)
    (v : Value) (l : List α) (n : Nat) (hln : n = l.length) (hsv : a.eval s = v) (hown : w.ownsRow base e size v n (flat f l)) (cs : Array Value) (te : TypeId) (y : α) (c : Nat) (hx : a.eval x = .slice (some ⟨w.heap.size, 0, none⟩) 1 c)
    (hcs : cs.toList = f y) (hlen : (f y).length = size) (h1 : ∀ u ∈ f y, u.oneCell' = true) (hsz : l.length ≤ 100000000) (hbase : base ≤ w.heap.size)
    (h : ∀ v' w', w'.ownsRow base e size v' (l ++ [y]).length (flat f (l ++ [y])) → (w.alloc (.cells cs te)).grownBy w' v.ownBlock → (v'.ownBlock = v.ownBlock ∨ v'.ownBlock = some (w.heap.size + 1)) → Below base w w' → K (a.put o.dst v') w') :
    if Region.wanted o (yielded ops a.tmps) = true then Oper.wp P o a (w.alloc (.cells cs te)) K Q else E0 := by
  subst hln
  have hw : Region.wanted o (yielded ops a.tmps) = true := by simp [Region.wanted, hgd]
  rw [if_pos hw]
  have hcl : cs.size = size := by rw [← Array.length_toList, hcs, hlen]
  have hbb : (l.length + 1) * bytes ≤ 140737488355328 := by
    have := Nat.mul_le_mul (show l.length + 1 ≤ 100000001 by omega) hby
    omega
  have hsrc : Src P size t (.slice (some ⟨w.heap.size, 0, none⟩) 1 c) 1 (f y) (w.alloc (.cells cs te)) := by
    rw [← hcs]
    refine Src.lit E.ht w cs te 1 c (by omega) ?_
    rw [hcs]
    exact h1
  obtain ⟨v', w', hr, h2, h3, h5⟩ := run_append_src (P := P) (w.alloc (.cells cs te)) base t t o.type e z size bytes E v l.length (flat f l) (World.ownsRow.alloc hown _) _ 1 (f y) hsrc (by unfold maxLen; omega) hbb (by rw [World.size_alloc]; omega)
  unfold Oper.wp execOp
  simp only [ho, resolve, invoke, builtin, Sem.run_bind, Sem.run_pure, Result.andThen_ok, List.map_toArray, List.map_cons, List.map_nil, hsv, hx, hr]
  refine h _ _ ?_ h3 (by simpa using h5) ((Below.refl base w).alloc hbase _ |>.trans (below_of_own (World.ownsRow.alloc hown _) (by rw [World.size_alloc]; omega) h3))
  rw [List.length_append, flat_snoc]
  exact h2
end
theorem BX.grown {w w' : World} {g : Nat} {t : TypeId} {vs : List Value} {row : Option Nat} (h : BX w g t vs) (hg : w.grownBy w' row) (hne : row ≠ some g) : BX w' g t vs := (hg.block g h.lt (fun e => hne e.symm)).trans h
theorem BX.drx {w : World} {g : Nat} {t : TypeId} {vs : List Value} (h : BX w g t vs) : BX w.drew g t vs := h
theorem CP.below {w w' : World} {g B : Nat} {vs : List Value} (p : CP w g vs) (hb : Below B w w') (hg : g < B) : CP w' g vs := fun j h => (hb.cell (p := ⟨g, j, none⟩) hg).trans (p j h)
theorem oneStr (x : ByteArray) : ∀ u ∈ fS x, u.oneCell' = true := by
  intro u hu
  simp only [fS, List.mem_cons, List.not_mem_nil, or_false] at hu
  subst hu
  rfl
section
variable {T P nb : Nat} {s : Int} {n : List ByteArray} {k : Int} {d : ByteArray}
theorem entB_note (hk : k = 3) {b1 : Bool} (h1 : noteB d = b1) : entB T P nb s n ⟨k, d⟩ = (b1 && decide (n.length < 8)) := by simp [entB, hk, h1]
theorem entB_no (h3 : ¬ k = 3) (h2 : ¬ k = 2) : entB T P nb s n ⟨k, d⟩ = false := by simp [entB, h3, h2]
theorem entB_trk (h2 : k = 2) : entB T P nb s n ⟨k, d⟩ = (trk T P nb s d).isSome := by subst h2; simp [entB]
end

set_option maxRecDepth 100000 in
set_option maxHeartbeats 4000000 in
theorem l13Enter_any (g : Nat) (c h s : Int) (P T nb b cp : Nat) (l : List DSector) (B : Option Addr) (q : Nat) (n : List ByteArray) (k : Int) (d : ByteArray) (w : World) (base : Nat) (hd : d.size ≤ maxLen) (hT : c * h = (T : Int)) (hT16 : T ≤ 16) (hP0 : 0 < P) (hP8 : P ≤ 8) (hs0 : 0 ≤ s) (hs2 : s ≤ 2) (hnb : szB s = (nb : Int)) (hnb32 : nb ≤ 32) (hl : l.length = T * P) (hn8 : n.length ≤ 8)
    (F : BX w g 27 [.int .i64 c, .int .i64 h, .int .i64 (P : Int), .int .i64 s, .slice (some ⟨b, 0, none⟩) l.length cp, .slice B n.length q])
    (ho : w.ownsRow base 90 2 (.slice (some ⟨b, 0, none⟩) l.length cp) l.length (flat fSector l)) (kr : w.ownsRow base 9 1 (.slice B n.length q) n.length (flat fS n))
    (hbg : base ≤ g) (hgb : g ≠ b) (hgB : (Value.slice B n.length q).ownBlock ≠ some g) (hbB : (Value.slice B n.length q).ownBlock ≠ some b) (hbs : base ≤ w.heap.size) (hbb : base ≤ b) :
    Calls Try.prog 23 #[.pointer (some ⟨g, 0, none⟩), .agg #[.int .i64 k, .string d]] w fun e w' => ∃ B' q', e = .returned (.bool (entB T P nb s n ⟨k, d⟩)) ∧ BX w' g 27 [.int .i64 c, .int .i64 h, .int .i64 (P : Int), .int .i64 s, .slice (some ⟨b, 0, none⟩) l.length cp, .slice B' (entN n ⟨k, d⟩).length q'] ∧ w'.ownsRow base 90 2 (.slice (some ⟨b, 0, none⟩) l.length cp) l.length (flat fSector (entL T P nb s l ⟨k, d⟩)) ∧ w'.ownsRow base 9 1 (.slice B' (entN n ⟨k, d⟩).length q') (entN n ⟨k, d⟩).length (flat fS (entN n ⟨k, d⟩)) ∧ (Value.slice B' (entN n ⟨k, d⟩).length q').ownBlock ≠ some g ∧ (Value.slice B' (entN n ⟨k, d⟩).length q').ownBlock ≠ some b ∧ Below base w w' := by
  unfold maxLen at hd
  have hl128 : l.length ≤ 128 := by
    rw [hl]
    exact Nat.mul_le_mul hT16 hP8
  have same : ∀ (w' : World) (bo : Bool), entB T P nb s n ⟨k, d⟩ = bo → entL T P nb s l ⟨k, d⟩ = l → entN n ⟨k, d⟩ = n → BB w w' → ∃ B' q', Ending.returned (.bool bo) = .returned (.bool (entB T P nb s n ⟨k, d⟩)) ∧ BX w' g 27 [.int .i64 c, .int .i64 h, .int .i64 (P : Int), .int .i64 s, .slice (some ⟨b, 0, none⟩) l.length cp, .slice B' (entN n ⟨k, d⟩).length q'] ∧ w'.ownsRow base 90 2 (.slice (some ⟨b, 0, none⟩) l.length cp) l.length (flat fSector (entL T P nb s l ⟨k, d⟩)) ∧ w'.ownsRow base 9 1 (.slice B' (entN n ⟨k, d⟩).length q') (entN n ⟨k, d⟩).length (flat fS (entN n ⟨k, d⟩)) ∧ (Value.slice B' (entN n ⟨k, d⟩).length q').ownBlock ≠ some g ∧ (Value.slice B' (entN n ⟨k, d⟩).length q').ownBlock ≠ some b ∧ Below base w w' := fun w' bo h1 h2 h3 hB => by
    refine ⟨B, q, by rw [h1], ?_, ?_, ?_, ?_, ?_, Below.mono hB hbs⟩
    · rw [h3]; exact F.below hB F.lt
    · rw [h2]; exact own_later ho hB (Nat.le_refl _)
    · rw [h3]; exact own_later kr hB (Nat.le_refl _)
    · rw [h3]; exact hgB
    · rw [h3]; exact hbB
  have SAME := Lib.hid same
  clear same
  have HL := Lib.hid hl
  clear hl
  have C0 : CP (w.alloc (.cells #[.int .i64 k, .string d] 47)) w.heap.size [.int .i64 k, .string d] := CP.made w [.int .i64 k, .string d] 47
  have hB : BB w (w.alloc (.cells #[.int .i64 k, .string d] 47)) := (show Below w.heap.size w (w.alloc (.cells #[.int .i64 k, .string d] 47)) from (by with_reducible repeat (first | exact Below.refl _ _ | assumption | refine below_step ?_ (by assumption) | refine Below.drew ?_ | refine below_drewN ?_ _ | refine below_alloc ?_ _ | refine Below.setCell ?_ (by simp; try omega) _)))
  have F0 : BX (w.alloc (.cells #[.int .i64 k, .string d] 47)) _ _ _ := BX.al F (.cells #[.int .i64 k, .string d] 47)
  have c0 : (_ : Option Value) = some (.int .i64 k) := C0 0 (by simp)
  have c1 : (_ : Option Value) = some (.string d) := C0 1 (by simp)
  by_cases hk3 : k = 3
  · have HK3 := Lib.hid hk3
    have hLk := Lib.hid (entL_no (T := T) (P := P) (nb := nb) (s := s) (l := l) (d := d) (show ¬ k = 2 by omega))
    have hbk : (k == 3) = true := by simpa using hk3
    have hnt := fun W => l13Note_any d W hd
    cases hnb1 : noteB d
    · rw [hnb1] at hnt
      have hE := Lib.hid ((entB_note (T := T) (P := P) (nb := nb) (s := s) (n := n) hk3 hnb1).trans (Bool.false_and _))
      have hN := Lib.hid (entN_bad (n := n) (k := k) hnb1)
      clear hk3 hnb1
      go_enter Try.func23, Try.ntmps23
      go_wp2_with (go_at_call 58; refine (hnt _).mono ?_; rintro e w1 ⟨rfl, rfl⟩)
      go_ret
      exact SAME.out _ _ hE.out hLk.out hN.out hB
    rw [hnb1] at hnt
    have f5 : (_ : Option Value) = some (.slice B n.length q) := F0.cell 5 (by simp)
    by_cases hfull : n.length < 8
    rotate_left
    · have hE := Lib.hid ((entB_note (T := T) (P := P) (nb := nb) (s := s) (n := n) hk3 hnb1).trans (by rw [decide_eq_false hfull, Bool.and_false]))
      have hN := Lib.hid (entN_full (n := n) (k := k) (d := d) hfull)
      have hge : (8 : Int) ≤ (n.length : Int) := by omega
      clear hk3 hnb1 hfull hn8
      go_enter Try.func23, Try.ntmps23
      go_wp2_with (go_at_call 58; refine (hnt _).mono ?_; rintro e w1 ⟨rfl, rfl⟩)
      go_ret
      exact SAME.out _ _ hE.out hLk.out hN.out hB
    have hE := Lib.hid ((entB_note (T := T) (P := P) (nb := nb) (s := s) (n := n) hk3 hnb1).trans (by rw [decide_eq_true hfull, Bool.and_true]))
    have hN := Lib.hid (entN_yes (n := n) hk3 hnb1 hfull)
    have hlt8 : ¬ (8 : Int) ≤ (n.length : Int) := by omega
    clear hk3 hnb1 hfull
    go_enter Try.func23, Try.ntmps23
    go_wp2_with (go_at_call 58; refine (hnt _).mono ?_; rintro e w1 ⟨rfl, rfl⟩)
    have kr0 : OO (w.alloc (.cells #[.int .i64 k, .string d] 47)) _ _ _ _ _ _ := OO.al kr (.cells #[.int .i64 k, .string d] 47)
    have ho0 : OO (w.alloc (.cells #[.int .i64 k, .string d] 47)) _ _ _ _ _ _ := OO.al ho (.cells #[.int .i64 k, .string d] 47)
    clear c0 c1 f5
    generalize (w.alloc (.cells #[.int .i64 k, .string d] 47)) = w2 at *
    have d1 : w2.drew.cell? _ = some (.string d) := C0 1 (by simp)
    have d5 : w2.drew.cell? _ = some (.slice B n.length q) := F0.cell 5 (by simp)
    have e5 : (w2.alloc (.cells #[.string d] 9)).drew.cell? _ = some (.slice B n.length q) := (F0.al (.cells #[.string d] 9)).cell 5 (by simp)
    have hlen1 : (n ++ [d]).length = n.length + 1 := by simp
    have hby16 : 16 ≤ 1000 := by decide
    have hnbig : n.length ≤ 100000000 := by omega
    have hbs2 : base ≤ w2.heap.size := Nat.le_trans hbs hB.size
    go_region_law (refine step_appG (w := w2.drew) (f := fS) rfl (.tmp 32) (.tmp 35) 25 rfl eltStr hby16 (.slice B n.length q) n n.length rfl rfl (OO.dr kr0) #[.string d] 9 d 1 rfl rfl rfl (oneStr d) hnbig hbs2 ?_; intro v5 w5 kr5 hg5 hat5 hbl5; obtain ⟨A5, c5, rfl⟩ := own_form kr5; have F5 := ((BX.drx F0).al (.cells #[.string d] 9)).grown hg5 hgB; have ho5 := World.ownsRow.kept (OO.al (OO.dr ho0) (.cells #[.string d] 9)) hg5 (.inr (fun e => hbB e.symm)); have g5 : (_ : Option Value) = some (.slice B n.length q) := F5.cell 5 (by simp); have hfz := fun j => F5.free j)
    all_goals
      go_wp2
      go_ret
      have hg1 : (Value.slice A5 (n ++ [d]).length c5).ownBlock ≠ some g := by
        rcases hat5 with h | h
        · rw [h]; exact hgB
        · rw [h]; intro e; have := F0.lt; simp at e; omega
      have hb1 : (Value.slice A5 (n ++ [d]).length c5).ownBlock ≠ some b := by
        rcases hat5 with h | h
        · rw [h]; exact hbB
        · rw [h]; intro e; have hlt := (World.ownsRow.lt ho0 b rfl).2; simp at e; omega
      refine ⟨A5, c5, by rw [hE.out]; rfl, ?_, ?_, ?_, ?_, ?_, ?_⟩
      · rw [hN.out, hlen1]; exact F5.put 5 _
      · rw [hLk.out]; exact OO.putne ho5 (a := ⟨g, 5, none⟩) (by intro e; apply hgb; simpa [Value.ownBlock] using e.symm) _
      · rw [hN.out]; rw [hlen1] at kr5 hg1 ⊢; exact OO.putne kr5 (a := ⟨g, 5, none⟩) hg1 _
      · rw [hN.out]; exact hg1
      · rw [hN.out]; exact hb1
      · exact Below.setCell ((Below.mono (BB.dr hB) hbs).trans hbl5) hbg _
  have hbk : (k == 3) = false := by simpa using hk3
  have hNk := Lib.hid (entN_no (n := n) (d := d) hk3)
  by_cases hk2 : k = 2
  rotate_left
  · have hE := Lib.hid (entB_no (T := T) (P := P) (nb := nb) (s := s) (n := n) (d := d) hk3 hk2)
    have hLk := Lib.hid (entL_no (T := T) (P := P) (nb := nb) (s := s) (l := l) (d := d) hk2)
    have hbk2 : (k != 2) = true := by simpa using hk2
    clear hk3 hk2
    go_enter Try.func23, Try.ntmps23
    go_wp2
    generalize (w.alloc (.cells #[.int .i64 k, .string d] 47)) = w2 at *
    go_quiet (fail)
    replace hB : BB w _ := BB.dn hB nq
    go_wp2
    go_ret
    exact SAME.out _ _ hE.out hLk.out hNk.out hB
  have hbk2 : (k != 2) = false := by simpa using hk2
  have hE := Lib.hid (entB_trk (T := T) (P := P) (nb := nb) (s := s) (n := n) (d := d) hk2)
  have hLk := Lib.hid (entL_yes (T := T) (P := P) (nb := nb) (s := s) (l := l) (d := d) hk2)
  have fail : ∀ (w' : World), trk T P nb s d = none → BB w w' → ∃ B' q', Ending.returned (.bool false) = .returned (.bool (entB T P nb s n ⟨k, d⟩)) ∧ BX w' g 27 [.int .i64 c, .int .i64 h, .int .i64 (P : Int), .int .i64 s, .slice (some ⟨b, 0, none⟩) l.length cp, .slice B' (entN n ⟨k, d⟩).length q'] ∧ w'.ownsRow base 90 2 (.slice (some ⟨b, 0, none⟩) l.length cp) l.length (flat fSector (entL T P nb s l ⟨k, d⟩)) ∧ w'.ownsRow base 9 1 (.slice B' (entN n ⟨k, d⟩).length q') (entN n ⟨k, d⟩).length (flat fS (entN n ⟨k, d⟩)) ∧ (Value.slice B' (entN n ⟨k, d⟩).length q').ownBlock ≠ some g ∧ (Value.slice B' (entN n ⟨k, d⟩).length q').ownBlock ≠ some b ∧ Below base w w' := fun w' h1 hB => SAME.out w' false (by rw [hE.out, h1]; rfl) (by rw [hLk.out, rtL_no h1]) hNk.out hB
  have FAIL := Lib.hid fail
  clear fail
  have f0 : (_ : Option Value) = some (.int .i64 c) := F0.cell 0 (by simp)
  have f1 : (_ : Option Value) = some (.int .i64 h) := F0.cell 1 (by simp)
  have f2 : (_ : Option Value) = some (.int .i64 (P : Int)) := F0.cell 2 (by simp)
  have f3 : (_ : Option Value) = some (.int .i64 s) := F0.cell 3 (by simp)
  have hwT : IntKind.i64.wrap (c * h) = (T : Int) := by rw [hT]; exact IntWalk.i64_in _ (by omega)
  clear hk3 hk2 hT
  by_cases h0 : d.size = 0
  · have HR := Lib.hid (trk_0 (T := T) (P := P) (nb := nb) (s := s) h0)
    obtain rfl := str_empty h0
    clear h0
    go_enter Try.func23, Try.ntmps23
    go_wp2
    generalize (w.alloc (.cells #[.int .i64 k, .string ⟨#[]⟩] 47)) = w2 at *
    go_quiet (fail)
    replace hB : BB w _ := BB.dn hB nq
    go_wp2
    go_ret
    exact FAIL.out _ HR.out hB
  have hse := str_some h0
  have hdpos : 0 < d.size := Nat.pos_of_ne_zero h0
  have e0 := bt_eq d 0 hdpos
  have b0 := bt_lt d 0
  obtain ⟨t, ht⟩ : ∃ t, bt d 0 = t := ⟨_, rfl⟩
  rw [ht] at e0 b0
  have HTB := Lib.hid ht
  have hwt : IntKind.i64.wrap (t : Int) = (t : Int) := IntWalk.i64_in _ (by omega)
  by_cases htT : T ≤ t
  · have HR := Lib.hid (trk_1 (P := P) (nb := nb) (s := s) h0 (by rw [ht]; exact htT))
    have hcmp : (T : Int) ≤ (t : Int) := by omega
    clear h0 htT ht
    go_enter Try.func23, Try.ntmps23
    go_wp2
    generalize (w.alloc (.cells #[.int .i64 k, .string d] 47)) = w2 at *
    go_quiet (fail)
    replace hB : BB w _ := BB.dn hB nq
    go_wp2
    go_ret
    exact FAIL.out _ HR.out hB
  have hcmp : ¬ (T : Int) ≤ (t : Int) := by omega
  have htlt2 : t + 1 ≤ T := by omega
  have hsz := fun W => l12Bytes_any s hs0 hs2 W
  rw [hnb] at hsz
  have hun := fun W => l14Unpack_any (d.extract 1 d.size) W (by rw [ByteArray.size_extract]; unfold maxLen; omega)
  have hd1 : (1 : Int) ≤ (d.size : Int) := by omega
  have hwn : IntKind.i64.wrap ((nb : Int) + 1) = ((nb + 1 : Nat) : Int) := IntWalk.i64_in _ (by omega)
  have hHT : ¬ T ≤ bt d 0 := by rw [ht]; exact htT
  cases hu : unp (d.extract 1 d.size) with
  | none =>
    have HR := Lib.hid (trk_2 (P := P) (nb := nb) (s := s) h0 hHT hu)
    rw [hu] at hun
    replace hun : ∀ W, Calls Try.prog 60 #[.string (d.extract 1 d.size)] W fun e w' => e = .returned (.tuple #[.string ByteArray.empty, .bool false]) ∧ Below W.heap.size W w' := hun
    clear h0 htT hHT hu ht
    go_enter Try.func23, Try.ntmps23
    go_wp2
    generalize (w.alloc (.cells #[.int .i64 k, .string d] 47)) = w2 at *
    go_quiet (fail)
    replace hB : BB w (w2.drewN nq) := BB.dn hB nq
    replace C0 : CP (w2.drewN nq) _ _ := C0
    replace F0 : BX (w2.drewN nq) _ _ _ := F0
    clear c0 c1 f0 f1 f2 f3
    generalize w2.drewN nq = w3 at *
    have c1 : (_ : Option Value) = some (.string d) := C0 1 (by simp)
    have f3 : (_ : Option Value) = some (.int .i64 s) := F0.cell 3 (by simp)
    have f2 : (_ : Option Value) = some (.int .i64 (P : Int)) := F0.cell 2 (by simp)
    go_wp2_with (first
      | (go_at_call 59; refine (hsz _).mono ?_; rintro e w5 ⟨rfl, rfl⟩)
      | (go_at_call 60; refine (hun _).mono ?_; rintro e w4 ⟨rfl, hx4⟩; replace hB : BB w _ := BB.next hB hx4; replace F0 := F0.below hx4 F0.lt; replace f2 : (_ : Option Value) = some (.int .i64 (P : Int)) := F0.cell 2 (by simp)))
    go_ret
    exact FAIL.out _ HR.out hB
  | some Z =>
    rw [hu] at hun
    replace hun : ∀ W, Calls Try.prog 60 #[.string (d.extract 1 d.size)] W fun e w' => e = .returned (.tuple #[.string ⟨Z.toArray⟩, .bool true]) ∧ Below W.heap.size W w' := hun
    have hzs : (⟨Z.toArray⟩ : ByteArray).size = Z.length := by show Z.toArray.size = Z.length; simp
    have hmm : (nb + 1) * P ≤ 264 := Nat.mul_le_mul (by omega : nb + 1 ≤ 33) hP8
    have hwm : IntKind.i64.wrap (((nb + 1 : Nat) : Int) * (P : Int)) = (((nb + 1) * P : Nat) : Int) := by rw [← Int.natCast_mul]; exact IntWalk.i64_in _ (by omega)
    by_cases hlen : Z.length = (nb + 1) * P
    rotate_left
    · have HR := Lib.hid (trk_3 (P := P) (nb := nb) (s := s) h0 hHT hu hlen)
      have hne : (((⟨Z.toArray⟩ : ByteArray).size : Int) != (((nb + 1) * P : Nat) : Int)) = true := by rw [hzs]; simpa using (by omega : ¬ (Z.length : Int) = (((nb + 1) * P : Nat) : Int))
      have hzb : (⟨Z.toArray⟩ : ByteArray).size ≤ 1000000 ∨ True := .inr trivial
      generalize (⟨Z.toArray⟩ : ByteArray) = ZB at *
      generalize (nb + 1) * P = m at *
      generalize nb + 1 = n1 at *
      clear h0 htT hHT hu hlen hzs hzb ht
      go_enter Try.func23, Try.ntmps23
      go_wp2
      generalize (w.alloc (.cells #[.int .i64 k, .string d] 47)) = w2 at *
      go_quiet (fail)
      replace hB : BB w (w2.drewN nq) := BB.dn hB nq
      replace C0 : CP (w2.drewN nq) _ _ := C0
      replace F0 : BX (w2.drewN nq) _ _ _ := F0
      clear c0 c1 f0 f1 f2 f3
      generalize w2.drewN nq = w3 at *
      have c1 : (_ : Option Value) = some (.string d) := C0 1 (by simp)
      have f3 : (_ : Option Value) = some (.int .i64 s) := F0.cell 3 (by simp)
      have f2 : (_ : Option Value) = some (.int .i64 (P : Int)) := F0.cell 2 (by simp)
      go_wp2_with (first
        | (go_at_call 59; refine (hsz _).mono ?_; rintro e w5 ⟨rfl, rfl⟩)
        | (go_at_call 60; refine (hun _).mono ?_; rintro e w4 ⟨rfl, hx4⟩; replace hB : BB w _ := BB.next hB hx4; replace F0 := F0.below hx4 F0.lt; replace f2 : (_ : Option Value) = some (.int .i64 (P : Int)) := F0.cell 2 (by simp)))
      go_ret
      exact FAIL.out _ HR.out hB
    rw [hlen] at hzs
    have HT4 := Lib.hid (fun (j : Nat) (hj : j < P) (h3 : secX s (secAt ⟨Z.toArray⟩ nb j) = false) => trk_4 (T := T) h0 hHT hu hj h3)
    have HT5 := Lib.hid (fun (h4 : ∀ j, j < P → secX s (secAt ⟨Z.toArray⟩ nb j) = true) => trk_5 (T := T) h0 hHT hu hlen h4)
    have hne : (((⟨Z.toArray⟩ : ByteArray).size : Int) != (((nb + 1) * P : Nat) : Int)) = false := by rw [hzs]; simp
    generalize (⟨Z.toArray⟩ : ByteArray) = ZB at *
    have HZS := Lib.hid hzs
    have HMM := Lib.hid hmm
    obtain ⟨m, hm⟩ : ∃ m, (nb + 1) * P = m := ⟨_, rfl⟩
    rw [hm] at hwm hne
    obtain ⟨n1, hn1⟩ : ∃ n1, nb + 1 = n1 := ⟨_, rfl⟩
    have HN1 := Lib.hid hn1
    rw [hn1] at hwm hwn
    clear h0 htT hHT hu hlen hzs hmm hm hn1 ht
    go_enter Try.func23, Try.ntmps23
    go_wp2
    generalize (w.alloc (.cells #[.int .i64 k, .string d] 47)) = w2 at *
    go_quiet (fail)
    replace hB : BB w (w2.drewN nq) := BB.dn hB nq
    replace C0 : CP (w2.drewN nq) _ _ := C0
    replace F0 : BX (w2.drewN nq) _ _ _ := F0
    clear c0 c1 f0 f1 f2 f3
    generalize w2.drewN nq = w3 at *
    have c1 : (_ : Option Value) = some (.string d) := C0 1 (by simp)
    have f3 : (_ : Option Value) = some (.int .i64 s) := F0.cell 3 (by simp)
    have f2 : (_ : Option Value) = some (.int .i64 (P : Int)) := F0.cell 2 (by simp)
    go_wp2_with (first
      | (go_at_call 59; refine (hsz _).mono ?_; rintro e w5 ⟨rfl, rfl⟩)
      | (go_at_call 60; refine (hun _).mono ?_; rintro e w4 ⟨rfl, hx4⟩; replace hB : BB w _ := BB.next hB hx4; replace F0 := F0.below hx4 F0.lt; replace C0 := C0.next hx4; replace f2 : (_ : Option Value) = some (.int .i64 (P : Int)) := F0.cell 2 (by simp)))
    have hlt4 : w.heap.size < w4.heap.size := (cell_spot (C0 0 (by simp))).2
    clear f2 hun hwm hne hwT hcmp
    have hby24 : 24 ≤ 1000 := by decide
    have hwn1 : IntKind.i64.wrap ((n1 : Int) - 1) = (nb : Int) := by have := HN1.out; rw [show (n1 : Int) - 1 = (nb : Int) by omega]; exact IntWalk.i64_in _ (by omega)
    have R4 : OO (w4.alloc (.cells #[] 90)) (w.heap.size + 1) 90 2 (.slice (some ⟨w4.heap.size, 0, none⟩) 0 0) 0 (flat fSector (secs ZB nb 0)) := own_lit0 w4 (w.heap.size + 1) hlt4
    have hB4 := BB.al hB (.cells #[] 90)
    have C4 := C0.al (.cells #[] 90)
    have F4 := F0.al (.cells #[] 90)
    generalize w4.heap.size = gs at *
    clear hB C0 F0
    go_loopw [9, 10, 11] (fun v i _ wr => ∃ j : Nat, j ≤ P ∧ i = .int .i64 j ∧ OO wr (w.heap.size + 1) 90 2 v j (flat fSector (secs ZB nb j)) ∧ BX wr g 27 [.int .i64 c, .int .i64 h, .int .i64 (P : Int), .int .i64 s, .slice (some ⟨b, 0, none⟩) l.length cp, .slice B n.length q] ∧ CP wr w.heap.size [.int .i64 k, .string d] ∧ BB w wr ∧ Hid (∀ y, y < j → secX s (secAt ZB nb y) = true)) (fun _ i _ _ => P - (intOf i).toNat)
    case atStart => exact ⟨0, Nat.zero_le _, rfl, R4, F4, C4, hB4, Lib.hid (fun j hj => absurd hj (Nat.not_lt_zero j))⟩
    case round =>
      clear R4 F4 C4 hB4
      obtain ⟨j, hj, rfl, R, F1, D, hB, HK⟩ := hrel
      have f2 : (_ : Option Value) = some (.int .i64 (P : Int)) := F1.cell 2 (by simp)
      by_cases hlt : j < P
      · obtain ⟨y, hy⟩ : ∃ y, j * (nb + 1) = y := ⟨_, rfl⟩
        have hkn : (j + 1) * (nb + 1) = y + (nb + 1) := by rw [Nat.succ_mul, hy]
        have hqm : y + (nb + 1) ≤ ZB.size := by
          rw [HZS.out, ← hkn, Nat.mul_comm (nb + 1)]
          exact Nat.mul_le_mul_right _ hlt
        have hzz : ZB.size ≤ 264 := by rw [HZS.out]; exact HMM.out
        have hsx : secX s (secAt ZB nb j) = secB (ZB.extract (y + 1) (y + (nb + 1))) (bt ZB y : Int) nb := by
          rw [secX, secAt, hy, hnb]; rfl
        have hse1 : secAt ZB nb j = ⟨ZB.extract (y + 1) (y + (nb + 1)), (bt ZB y : Int)⟩ := by rw [secAt, hy]
        have hvs := fun W => l12Sector_any (ZB.extract (y + 1) (y + (nb + 1))) (bt ZB y : Int) nb W (by rw [ByteArray.size_extract]; unfold maxLen; omega) (by omega)
        have hN1 := HN1.out
        rw [hN1] at hqm hvs hsx hy hse1
        have hqz : y < ZB.size := by omega
        have eZ := bt_eq ZB y hqz
        have bZ := bt_lt ZB y
        have hw1 : IntKind.i64.wrap ((j : Int) * (n1 : Int)) = (y : Int) := by rw [← Int.natCast_mul, hy]; exact IntWalk.i64_in _ (by omega)
        have hw2 : IntKind.i64.wrap ((y : Int) + 1) = ((y + 1 : Nat) : Int) := IntWalk.i64_in _ (by omega)
        have hw3 : IntKind.i64.wrap ((j : Int) + 1) = ((j + 1 : Nat) : Int) := IntWalk.i64_in _ (by omega)
        have hw4 : IntKind.i64.wrap ((y : Int) + (n1 : Int)) = ((y + n1 : Nat) : Int) := by rw [← Int.natCast_add]; exact IntWalk.i64_in _ (by omega)
        have HKS := Lib.hid (fun (h : secX s (secAt ZB nb j) = true) => (show ∀ z, z < j + 1 → secX s (secAt ZB nb z) = true from fun z hz => by
          rcases Nat.lt_succ_iff_lt_or_eq.1 hz with hz | rfl
          · exact HK.out z hz
          · exact h))
        have HSX := Lib.hid hsx
        have HSE := Lib.hid hse1
        have hqn : y + 1 ≤ y + n1 := by omega
        have hqni : ((y + 1 : Nat) : Int) ≤ ((y + n1 : Nat) : Int) := by omega
        have hqmi : ((y + n1 : Nat) : Int) ≤ (ZB.size : Int) := by omega
        have hqzi : (y : Int) < (ZB.size : Int) := by omega
        have hlti : (j : Int) < (P : Int) := by omega
        clear hy hkn hsx hN1 hse1
        obtain ⟨r1, hr1⟩ : ∃ r1, y + 1 = r1 := ⟨_, rfl⟩
        obtain ⟨r2, hr2⟩ : ∃ r2, y + n1 = r2 := ⟨_, rfl⟩
        obtain ⟨j1, hj1⟩ : ∃ j1, j + 1 = j1 := ⟨_, rfl⟩
        rw [hr1, hr2] at hqn hqni HSX hvs HSE
        rw [hr2] at hqmi hw4 hqm
        rw [hr1] at hw2
        rw [hj1] at hw3 HKS
        have HK1 := Lib.hid hj1
        clear hr1 hr2 hj1
        obtain ⟨X, hX⟩ : ∃ X, ZB.extract r1 r2 = X := ⟨_, rfl⟩
        rw [hX] at hvs HSX HSE
        generalize hY : bt ZB y = Y at *
        obtain ⟨A9, c9, rfl⟩ := own_form R
        go_wp2_with fail
        have hBb : Below w.heap.size w wr := hB
        have hwY : IntKind.i64.wrap (Y : Int) = (Y : Int) := IntWalk.i64_in _ (by omega)
        go_region_held3 (fun W => Below w.heap.size w W) (first | exact hBb | exact Below.drew hBb | exact below_alloc hBb _ | exact Below.drew (below_alloc hBb _)) (fail)
        all_goals
          have hneS : (Value.slice A9 j c9).ownBlock ≠ some wr.heap.size := OO.ne_box R
          have FS : BX (wr.alloc (.cells #[.string X, .int .i64 (Y : Int)] 90)).drew wr.heap.size 90 [.string X, .int .i64 (Y : Int)] := BX.made wr 90 [.string X, .int .i64 (Y : Int)]
          have F9 : BX (wr.alloc (.cells #[.string X, .int .i64 (Y : Int)] 90)).drew _ _ _ := BX.drx (F1.al (.cells #[.string X, .int .i64 (Y : Int)] 90))
          have D9 : CP (wr.alloc (.cells #[.string X, .int .i64 (Y : Int)] 90)).drew _ _ := CP.dr (D.al (.cells #[.string X, .int .i64 (Y : Int)] 90))
          have hB9 : BB w (wr.alloc (.cells #[.string X, .int .i64 (Y : Int)] 90)).drew := BB.dr (BB.al hB (.cells #[.string X, .int .i64 (Y : Int)] 90))
          have R9 : OO (wr.alloc (.cells #[.string X, .int .i64 (Y : Int)] 90)).drew _ _ _ _ _ _ := OO.dr (R.al (.cells #[.string X, .int .i64 (Y : Int)] 90))
          clear hBb hB F1 D R f2
          generalize wr.heap.size = GS at FS hneS ⊢
          generalize (wr.alloc (.cells #[.string X, .int .i64 (Y : Int)] 90)).drew = w6 at *
          have s0 : (_ : Option Value) = some (.string X) := FS.cell 0 (by simp)
          have s1 : (_ : Option Value) = some (.int .i64 (Y : Int)) := FS.cell 1 (by simp)
          generalize hsec : secB X (Y : Int) nb = sb at *
          cases sb
          · go_wp2_with (go_at_call 61; refine (hvs _).mono ?_; rintro e w7 ⟨rfl, hx7⟩; replace hB9 : BB w _ := BB.next hB9 hx7)
            go_ret
            exact FAIL.out _ (HT4.out j hlt HSX.out) hB9
          · have hcs : (#[.string X, .int .i64 (Y : Int)] : Array Value).toList = fSector (secAt ZB nb j) := by rw [HSE.out]; rfl
            have HCS := Lib.hid hcs
            clear hcs
            have hsl := secs_len ZB nb j
            have hsn := secs_snoc ZB nb j
            have hj1 := HK1.out
            rw [hj1] at hsn
            have hsl1 : (secs ZB nb j ++ [secAt ZB nb j]).length = j1 := by rw [← hsn, secs_len]
            have HSN := Lib.hid hsn
            have HSL1 := Lib.hid hsl1
            have hbig : (secs ZB nb j).length ≤ 100000000 := by rw [hsl]; omega
            have hwr : w.heap.size + 1 ≤ w6.heap.size := (cell_spot (D9 0 (by simp))).2
            have hglt : g < w.heap.size + 1 := by have := F.lt; omega
            replace R9 : World.ownsRow w6 (w.heap.size + 1) 90 2 (.slice A9 j c9) (secs ZB nb j).length (flat fSector (secs ZB nb j)) := by rw [hsl]; exact R9
            clear hsn hsl1 hsl hj1
            go_wp2_with (first
              | (at_builtin; have := mk1; go_must (refine wpList_appF (f := fSector) rfl _ _ 22 rfl eltSector hby24 _ (secs ZB nb j) rfl R9 _ _ (secAt ZB nb j) _ rfl HCS.out (fSector_len _) (oneSector _) hbig hwr ?_); intro v5 w8 R8 hg8 hat8 hbl8; rw [HSL1.out] at R8; obtain ⟨A5, c5, rfl⟩ := own_form R8; replace F9 := F9.below hbl8 hglt; replace D9 := D9.below hbl8 (Nat.lt_succ_self _); replace hB9 : BB w _ := Below.trans hB9 (hbl8.mono (Nat.le_succ _)))
              | (go_at_call 61; refine (hvs _).mono ?_; rintro e w7 ⟨rfl, hx7⟩; replace hB9 : BB w _ := BB.next hB9 hx7; replace F9 := F9.below hx7 F9.lt; replace D9 := D9.next hx7; replace R9 := own_later R9 hx7 (Nat.le_refl _); replace FS := FS.below hx7 FS.lt; clear s0 s1; have s0 : (_ : Option Value) = some (.string X) := FS.cell 0 (by simp); have s1 : (_ : Option Value) = some (.int .i64 (Y : Int)) := FS.cell 1 (by simp); replace hwr := Nat.le_trans hwr hx7.size; have mk1 := True.intro))
            go_roundw
            case rel => exact ⟨j1, by have := HK1.out; omega, rfl, by rw [HSN.out]; exact R8, F9, D9, hB9, Lib.hid (HKS.out HSX.out)⟩
            case measure => (have := HK1.out; simp [intOf]; omega)
      · obtain rfl : j = P := by omega
        have HR := Lib.hid (HT5.out HK.out)
        obtain ⟨g9, c9, hv⟩ := Go.Joins.ownsRow_form (OOf R) hP0
        cases hv
        have hssl := secs_len ZB nb j
        generalize secs ZB nb j = ss at *
        have hg9 := (World.ownsRow.lt (OOf R) g9 rfl).1
        have hbw := (World.ownsRow.lt ho b rfl).2
        have hbox : w.heap.size ≠ b := by omega
        have hrow : (Value.slice (some ⟨g9, 0, none⟩) j c9).ownBlock ≠ some b := by intro e; simp [Value.ownBlock] at e; omega
        have HSS := Lib.hid hssl
        clear hssl
        go_wp2
        go_loopw [12] (fun i wq => ∃ z : Nat, z ≤ j ∧ i = .int .i64 z ∧ wq.ownsRow base 90 2 (.slice (some ⟨b, 0, none⟩) l.length cp) l.length (flat fSector (putT l (t * j) (ss.take z))) ∧ CP wq w.heap.size [.int .i64 k, .string d] ∧ OO wq (w.heap.size + 1) 90 2 (.slice (some ⟨g9, 0, none⟩) j c9) j (flat fSector ss) ∧ w.grownBy wq (some b)) (fun i _ => j - (intOf i).toNat)
        case atStart => exact ⟨0, Nat.zero_le _, rfl, by rw [List.take_zero, putT_nil]; exact own_later ho hB (Nat.le_refl _), D, R, only_of_below hB _⟩
        case round =>
          clear F1 D R hB f2
          obtain ⟨z, hz, rfl, O, D2, R2, hg⟩ := hrel
          have F2 := F.grown hg (by intro e; cases e; exact hgb rfl)
          have f2 : (_ : Option Value) = some (.int .i64 (j : Int)) := F2.cell 2 (by simp)
          have f4 : (_ : Option Value) = some (.slice (some ⟨b, 0, none⟩) l.length cp) := F2.cell 4 (by simp)
          have d1 : (_ : Option Value) = some (.string d) := D2 1 (by simp)
          have htake : (ss.take z).length = z := by rw [List.length_take, HSS.out]; omega
          have hrs : t * j + j ≤ l.length := by rw [HL.out, ← Nat.succ_mul]; exact Nat.mul_le_mul_right j htlt2
          by_cases hlt : z < j
          · obtain ⟨⟨x, yv⟩, hsx⟩ : ∃ sx, ss[z]'(by rw [HSS.out]; exact hlt) = sx := ⟨_, rfl⟩
            have hzl : z < ss.length := by rw [HSS.out]; exact hlt
            have r0 : wr.cell? ⟨g9, z * 2, none⟩ = some (.string x) := by
              have h1 := World.ownsRow.cellAt (OOf R2) (z * 2) (by omega)
              have h2 := flat_get fSector 2 fSector_len ss z 0 hzl (by omega)
              rw [hsx] at h2
              rw [h1]
              simpa [fSector] using h2
            have r1 : wr.cell? ⟨g9, z * 2 + 1, none⟩ = some (.int .i64 yv) := by
              have h1 := World.ownsRow.cellAt (OOf R2) (z * 2 + 1) (by omega)
              have h2 := flat_get fSector 2 fSector_len ss z 1 hzl (by omega)
              rw [hsx] at h2
              rw [h1]
              simpa [fSector] using h2
            obtain ⟨v, hv⟩ : ∃ v, t * j = v := ⟨_, rfl⟩
            have HV := Lib.hid hv
            obtain ⟨u, hu⟩ : ∃ u, v + z = u := ⟨_, rfl⟩
            have hul : u < l.length := by omega
            have hvl : v ≤ 128 := by omega
            have hw1 : IntKind.i64.wrap ((t : Int) * (j : Int)) = (v : Int) := by rw [← Int.natCast_mul, hv]; exact IntWalk.i64_in _ (by omega)
            have hw2 : IntKind.i64.wrap ((v : Int) + (z : Int)) = (u : Int) := by rw [← Int.natCast_add, hu]; exact IntWalk.i64_in _ (by omega)
            obtain ⟨z1, hz1⟩ : ∃ z1, z + 1 = z1 := ⟨_, rfl⟩
            have hw3 : IntKind.i64.wrap ((z : Int) + 1) = (z1 : Int) := by rw [← hz1]; exact IntWalk.i64_in _ (by omega)
            have hlti : (z : Int) < (j : Int) := by omega
            have huli : (u : Int) < (l.length : Int) := by omega
            have hput := putT_snoc (l := l) (q := v) (ss := ss.take z) (⟨x, yv⟩ : DSector) (by rw [htake, hu]; exact hul)
            have hplen := putT_len (l := l) (q := v) (ss := ss.take z) (by rw [htake]; omega)
            rw [htake, hu, show ss.take z ++ [(⟨x, yv⟩ : DSector)] = ss.take z1 by rw [← hz1, ← hsx]; first | exact List.take_append_getElem hzl | exact (List.take_succ_eq_append_getElem hzl).symm | simp] at hput
            have hset := setS (putT l v (ss.take z)) u (by rw [hplen]; exact hul) ⟨x, yv⟩
            rw [hput] at hset
            rw [hv] at O
            have HPUT := Lib.hid hset
            have HZ1 := Lib.hid hz1
            have ku0 : u * 2 < l.length * 2 := by omega
            have ku1 : u * 2 + 1 < l.length * 2 := by omega
            clear hput hset hplen hu hz1 hsx htake hrs hv
            go_wp2
            refine wp_region_still_tail 19 (by kernel_rfl) (by kernel_rfl) ?_
            simp only [List.take_succ_cons, List.take_zero, List.drop_succ_cons, List.drop_zero]
            repeat still_step
            refine wpStill_nil ?_
            change wpList _ _ _ _ _ wr.drew
            replace D2 : CP wr.drew _ _ := D2
            replace R2 : OO wr.drew _ _ _ _ _ _ := OO.dr R2
            replace O : OO wr.drew _ _ _ _ _ _ := OO.dr O
            replace hg : w.grownBy wr.drew _ := only_drew hg
            clear r0 r1 f2 f4 d1 F2
            generalize wr.drew = w6 at *
            have o1 := (World.ownsRow.stored (OOf O) (u * 2) (.string x)).1
            have o2 := (World.ownsRow.stored o1 (u * 2 + 1) (.int .i64 yv)).1
            obtain ⟨u0, hu0⟩ := own_some (OOf O) (u * 2) ku0
            have hz0 := World.ownsRow.frozenAt (OOf O) (u * 2)
            obtain ⟨u2, hu2⟩ := own_some o1 (u * 2 + 1) ku1
            have hz2 := World.ownsRow.frozenAt o1 (u * 2 + 1)
            have D7 := (D2.put (a := ⟨b, u * 2, none⟩) hbox (.string x)).put (a := ⟨b, u * 2 + 1, none⟩) hbox (.int .i64 yv)
            have R7 := (R2.putne (a := ⟨b, u * 2, none⟩) hrow (.string x)).putne (a := ⟨b, u * 2 + 1, none⟩) hrow (.int .i64 yv)
            have hg7 := only_setCell (only_setCell hg (p := ⟨b, u * 2, none⟩) (.inl rfl) (.string x)) (p := ⟨b, u * 2 + 1, none⟩) (.inl rfl) (.int .i64 yv)
            go_wp2
            go_roundw
            case rel => exact ⟨z1, by have := HZ1.out; omega, rfl, by rw [HV.out, ← HPUT.out]; exact o2, D7, R7, hg7⟩
            case measure => (have := HZ1.out; simp [intOf]; omega)
          · obtain rfl : z = j := by omega
            rw [List.take_of_length_le (by rw [HSS.out]; exact Nat.le_refl _)] at O
            go_wp2
            go_ret
            refine ⟨B, q, by rw [hE.out, HR.out]; rfl, ?_, ?_, ?_, ?_, ?_, (Below.refl base w).grown hg hbs (fun y hy => by cases hy; exact hbb)⟩
            · rw [hNk.out]; exact F2
            · rw [hLk.out, rtL_yes HR.out, HTB.out]; exact O
            · rw [hNk.out]; exact World.ownsRow.kept kr hg (.inr hbB)
            · rw [hNk.out]; exact hgB
            · rw [hNk.out]; exact hbB
end Go.Proofs.Ytjjcedodjoieoaa
namespace Go.Proofs.Ytjjcedodjoieoaa
set_option linter.unusedVariables false
open Go.RowKit

set_option maxRecDepth 100000 in
set_option maxHeartbeats 4000000 in
theorem l13Decode_any (t : ByteArray) (w : World) (ht : t.size ≤ 1048576) :
    Calls Try.prog 33 #[.string t] w fun e w' => ∃ v u, e = .returned (.tuple #[.agg #[.int .i64 (imD (decR t)).c, .int .i64 (imD (decR t)).h, .int .i64 (imD (decR t)).p, .int .i64 (imD (decR t)).s, v, u], .int .i64 (decC t)]) ∧ w'.ownsRow w.heap.size 90 2 v (imD (decR t)).l.length (flat fSector (imD (decR t)).l) ∧ w'.ownsRow w.heap.size 9 1 u (imD (decR t)).n.length (flat fS (imD (decR t)).n) ∧ (v.ownBlock = none ∨ v.ownBlock ≠ u.ownBlock) ∧ Below w.heap.size w w' := by
  have Z : BX (w.alloc (.cells #[.int .i64 0, .int .i64 0, .int .i64 0, .int .i64 0, .slice none 0 0, .slice none 0 0] 27)) w.heap.size 27 [.int .i64 0, .int .i64 0, .int .i64 0, .int .i64 0, .slice none 0 0, .slice none 0 0] := BX.made w 27 [.int .i64 0, .int .i64 0, .int .i64 0, .int .i64 0, .slice none 0 0, .slice none 0 0]
  have hB : BB w (w.alloc (.cells #[.int .i64 0, .int .i64 0, .int .i64 0, .int .i64 0, .slice none 0 0, .slice none 0 0] 27)) := (show Below w.heap.size w (w.alloc (.cells #[.int .i64 0, .int .i64 0, .int .i64 0, .int .i64 0, .slice none 0 0, .slice none 0 0] 27)) from (by with_reducible repeat (first | exact Below.refl _ _ | assumption | refine below_step ?_ (by assumption) | refine Below.drew ?_ | refine below_drewN ?_ _ | refine below_alloc ?_ _ | refine Below.setCell ?_ (by simp; try omega) _)))
  by_cases hbig : 8192 < t.size
  · have HD := Lib.hid (dec_1 hbig)
    have hbi : (8192 : Int) < (t.size : Int) := by omega
    clear hbig
    go_enter Try.func33, Try.ntmps33
    go_wp2_with fail
    generalize (w.alloc (.cells #[.int .i64 0, .int .i64 0, .int .i64 0, .int .i64 0, .slice none 0 0, .slice none 0 0] 27)) = wz at *
    have hb2 : Below w.heap.size w _ := hB
    have z0 : (_ : Option Value) = some (.int .i64 0) := Z.cell 0 (by simp)
    have z1 : (_ : Option Value) = some (.int .i64 0) := Z.cell 1 (by simp)
    have z2 : (_ : Option Value) = some (.int .i64 0) := Z.cell 2 (by simp)
    have z3 : (_ : Option Value) = some (.int .i64 0) := Z.cell 3 (by simp)
    have z4 : (_ : Option Value) = some (.slice none 0 0) := Z.cell 4 (by simp)
    have z5 : (_ : Option Value) = some (.slice none 0 0) := Z.cell 5 (by simp)
    have hfz := fun j => Z.free j
    go_wp2
    refine bodyPost_ret (v := .tuple #[.agg #[.int .i64 0, .int .i64 0, .int .i64 0, .int .i64 0, .slice none 0 0, .slice none 0 0], .int .i64 5]) (by simp [results, Try.results33, go_sem, z0, z1, z2, z3, z4, z5]) rfl ⟨.slice none 0 0, .slice none 0 0, by rw [HD.out.1, HD.out.2]; rfl, by rw [HD.out.1]; exact World.ownsRow_nil _ _ _ _, by rw [HD.out.1]; exact World.ownsRow_nil _ _ _ _, .inl rfl, (by with_reducible repeat (first | exact Below.refl _ _ | assumption | refine below_step ?_ (by assumption) | refine Below.drew ?_ | refine below_drewN ?_ _ | refine below_alloc ?_ _ | refine Below.setCell ?_ (by simp; try omega) _))⟩
  have hbi : ¬ (8192 : Int) < (t.size : Int) := by omega
  have hdk := fun W => spec_DecodeChunks_any t W ht
  by_cases hn : dkN t = t.size
  rotate_left
  · have HD := Lib.hid (dec_2 hbig hn)
    have hne : (((dkN t : Nat) : Int) != (t.size : Int)) = true := by simpa using (by omega : ¬ ((dkN t : Nat) : Int) = (t.size : Int))
    generalize dkN t = N at hdk hne
    clear hbig hn
    go_enter Try.func33, Try.ntmps33
    go_wp2_with (go_at_call 42; refine (hdk _).mono ?_; rintro e w1 ⟨v1, rfl, ho1, hx1⟩; replace Z := Z.below hx1 Z.lt; replace hB : BB w _ := BB.next hB hx1; obtain ⟨A1, c1, rfl⟩ := own_form ho1; have hb2 : Below w.heap.size w _ := hB; have z0 : (_ : Option Value) = some (.int .i64 0) := Z.cell 0 (by simp); have z1 : (_ : Option Value) = some (.int .i64 0) := Z.cell 1 (by simp); have z2 : (_ : Option Value) = some (.int .i64 0) := Z.cell 2 (by simp); have z3 : (_ : Option Value) = some (.int .i64 0) := Z.cell 3 (by simp); have z4 : (_ : Option Value) = some (.slice none 0 0) := Z.cell 4 (by simp); have z5 : (_ : Option Value) = some (.slice none 0 0) := Z.cell 5 (by simp); have hfz := fun j => Z.free j)
    refine bodyPost_ret (v := .tuple #[.agg #[.int .i64 0, .int .i64 0, .int .i64 0, .int .i64 0, .slice none 0 0, .slice none 0 0], .int .i64 8]) (by simp [results, Try.results33, go_sem, World.cell?_setCell_other, z0, z1, z2, z3, z4, z5]) rfl ⟨.slice none 0 0, .slice none 0 0, by rw [HD.out.1, HD.out.2]; rfl, by rw [HD.out.1]; exact World.ownsRow_nil _ _ _ _, by rw [HD.out.1]; exact World.ownsRow_nil _ _ _ _, .inl rfl, (by with_reducible repeat (first | exact Below.refl _ _ | assumption | refine below_step ?_ (by assumption) | refine Below.drew ?_ | refine below_drewN ?_ _ | refine below_alloc ?_ _ | refine Below.setCell ?_ (by simp; try omega) _))⟩
  have hneN : (((dkN t : Nat) : Int) != (t.size : Int)) = false := by simp [hn]
  have HD3 := Lib.hid (fun (i : imgOf (dkL t) = none) => dec_3 hbig hn i)
  have HD4 := Lib.hid (fun (x : Im) (i : imgOf (dkL t) = some x) => dec_4 hbig hn i)
  have hL40 := dkL_len t
  have hLin := dkL_in t
  generalize dkL t = L at *
  generalize dkN t = N at hdk hneN
  clear hbig hn
  by_cases h2 : 2 ≤ L.length
  rotate_left
  · have HD := Lib.hid (HD3.out (imgOf_1 h2))
    have hlt : (L.length : Int) < 2 := by omega
    go_enter Try.func33, Try.ntmps33
    go_wp2_with (go_at_call 42; refine (hdk _).mono ?_; rintro e w1 ⟨v1, rfl, ho1, hx1⟩; replace Z := Z.below hx1 Z.lt; replace hB : BB w _ := BB.next hB hx1; obtain ⟨A1, c1, rfl⟩ := own_form ho1; have hb2 : Below w.heap.size w _ := hB; have z0 : (_ : Option Value) = some (.int .i64 0) := Z.cell 0 (by simp); have z1 : (_ : Option Value) = some (.int .i64 0) := Z.cell 1 (by simp); have z2 : (_ : Option Value) = some (.int .i64 0) := Z.cell 2 (by simp); have z3 : (_ : Option Value) = some (.int .i64 0) := Z.cell 3 (by simp); have z4 : (_ : Option Value) = some (.slice none 0 0) := Z.cell 4 (by simp); have z5 : (_ : Option Value) = some (.slice none 0 0) := Z.cell 5 (by simp); have hfz := fun j => Z.free j)
    refine bodyPost_ret (v := .tuple #[.agg #[.int .i64 0, .int .i64 0, .int .i64 0, .int .i64 0, .slice none 0 0, .slice none 0 0], .int .i64 7]) (by simp [results, Try.results33, go_sem, World.cell?_setCell_other, z0, z1, z2, z3, z4, z5]) rfl ⟨.slice none 0 0, .slice none 0 0, by rw [HD.out.1, HD.out.2]; rfl, by rw [HD.out.1]; exact World.ownsRow_nil _ _ _ _, by rw [HD.out.1]; exact World.ownsRow_nil _ _ _ _, .inl rfl, (by with_reducible repeat (first | exact Below.refl _ _ | assumption | refine below_step ?_ (by assumption) | refine Below.drew ?_ | refine below_drewN ?_ _ | refine below_alloc ?_ _ | refine Below.setCell ?_ (by simp; try omega) _))⟩
  have hlt : ¬ (L.length : Int) < 2 := by omega
  have hpos : 0 < L.length := by omega
  have hposi : (0 : Int) < (L.length : Int) := by omega
  obtain ⟨m, hm⟩ : ∃ m, L.length - 1 = m := ⟨_, rfl⟩
  have hwm : IntKind.i64.wrap ((L.length : Int) - 1) = (m : Int) := by rw [show (L.length : Int) - 1 = (m : Int) by omega]; exact IntWalk.i64_in _ (by omega)
  have hmL : m < L.length := by omega
  have hmLi : (m : Int) < (L.length : Int) := by omega
  have h3 := imgOf_3 h2
  have h22 := imgOf_2 h2
  have h4 := imgOf_4 h2
  have hkl := mid_len (L := L)
  have hmid := fun k h => mid_get (L := L) (k := k) h
  have hd0 := hLin L[0] (List.getElem_mem hpos)
  have HM := Lib.hid hm
  have e4 : L[L.length - 1] = L[m] := by congr 1
  rw [e4] at h3 h4
  have hr0 := fun {w1 : World} {base g1 c1 : Nat} (h : w1.ownsRow base 47 2 (.slice (some ⟨g1, 0, none⟩) L.length c1) L.length (flat fChunk L)) => row_cells h 0 hpos
  have hrm := fun {w1 : World} {base g1 c1 : Nat} (h : w1.ownsRow base 47 2 (.slice (some ⟨g1, 0, none⟩) L.length c1) L.length (flat fChunk L)) => row_cells h m hmL
  obtain ⟨⟨k0, d0⟩, hx0⟩ : ∃ x, L[0] = x := ⟨_, rfl⟩
  obtain ⟨⟨km, dm⟩, hxm⟩ : ∃ x, L[m] = x := ⟨_, rfl⟩
  rw [hx0] at h22 h4 hd0 hr0
  rw [hxm] at h3 h4 hrm
  simp only [Nat.zero_mul, Nat.zero_add] at h22 h4 hd0 hr0 h3 hrm
  have HXM := Lib.hid hxm
  have hLin2 : ∀ x ∈ L, x.f1.size ≤ 1048576 := fun x hx => Nat.le_trans (hLin x hx) ht
  clear e4 hx0 hxm hm hLin
  by_cases hg3 : km = 4 ∧ dm.size = 0
  rotate_left
  · have HD := Lib.hid (HD3.out (h3 hg3))
    by_cases hk4 : km = 4
    · have hb4 : (km != 4) = false := by simp [hk4]
      have hdm := str_some (fun h => hg3 ⟨hk4, h⟩)
      clear hg3 hk4 h3 h22 h4 hmid
      go_enter Try.func33, Try.ntmps33
      go_wp2_with (go_at_call 42; refine (hdk _).mono ?_; rintro e w1 ⟨v1, rfl, ho1, hx1⟩; replace Z := Z.below hx1 Z.lt; replace hB : BB w _ := BB.next hB hx1; obtain ⟨g1, c1, hv⟩ := Go.Joins.ownsRow_form ho1 hpos; cases hv; obtain ⟨a0, a1⟩ := hrm ho1; have hb2 : Below w.heap.size w _ := hB; have z0 : (_ : Option Value) = some (.int .i64 0) := Z.cell 0 (by simp); have z1 : (_ : Option Value) = some (.int .i64 0) := Z.cell 1 (by simp); have z2 : (_ : Option Value) = some (.int .i64 0) := Z.cell 2 (by simp); have z3 : (_ : Option Value) = some (.int .i64 0) := Z.cell 3 (by simp); have z4 : (_ : Option Value) = some (.slice none 0 0) := Z.cell 4 (by simp); have z5 : (_ : Option Value) = some (.slice none 0 0) := Z.cell 5 (by simp); have hfz := fun j => Z.free j)
      refine bodyPost_ret (v := .tuple #[.agg #[.int .i64 0, .int .i64 0, .int .i64 0, .int .i64 0, .slice none 0 0, .slice none 0 0], .int .i64 7]) (by simp [results, Try.results33, go_sem, World.cell?_setCell_other, z0, z1, z2, z3, z4, z5]) rfl ⟨.slice none 0 0, .slice none 0 0, by rw [HD.out.1, HD.out.2]; rfl, by rw [HD.out.1]; exact World.ownsRow_nil _ _ _ _, by rw [HD.out.1]; exact World.ownsRow_nil _ _ _ _, .inl rfl, (by with_reducible repeat (first | exact Below.refl _ _ | assumption | refine below_step ?_ (by assumption) | refine Below.drew ?_ | refine below_drewN ?_ _ | refine below_alloc ?_ _ | refine Below.setCell ?_ (by simp; try omega) _))⟩
    · have hb4 : (km != 4) = true := by simpa using hk4
      clear hg3 hk4 h3 h22 h4 hmid
      go_enter Try.func33, Try.ntmps33
      go_wp2_with (go_at_call 42; refine (hdk _).mono ?_; rintro e w1 ⟨v1, rfl, ho1, hx1⟩; replace Z := Z.below hx1 Z.lt; replace hB : BB w _ := BB.next hB hx1; obtain ⟨g1, c1, hv⟩ := Go.Joins.ownsRow_form ho1 hpos; cases hv; obtain ⟨a0, a1⟩ := hrm ho1; have hb2 : Below w.heap.size w _ := hB; have z0 : (_ : Option Value) = some (.int .i64 0) := Z.cell 0 (by simp); have z1 : (_ : Option Value) = some (.int .i64 0) := Z.cell 1 (by simp); have z2 : (_ : Option Value) = some (.int .i64 0) := Z.cell 2 (by simp); have z3 : (_ : Option Value) = some (.int .i64 0) := Z.cell 3 (by simp); have z4 : (_ : Option Value) = some (.slice none 0 0) := Z.cell 4 (by simp); have z5 : (_ : Option Value) = some (.slice none 0 0) := Z.cell 5 (by simp); have hfz := fun j => Z.free j)
      refine bodyPost_ret (v := .tuple #[.agg #[.int .i64 0, .int .i64 0, .int .i64 0, .int .i64 0, .slice none 0 0, .slice none 0 0], .int .i64 7]) (by simp [results, Try.results33, go_sem, World.cell?_setCell_other, z0, z1, z2, z3, z4, z5]) rfl ⟨.slice none 0 0, .slice none 0 0, by rw [HD.out.1, HD.out.2]; rfl, by rw [HD.out.1]; exact World.ownsRow_nil _ _ _ _, by rw [HD.out.1]; exact World.ownsRow_nil _ _ _ _, .inl rfl, (by with_reducible repeat (first | exact Below.refl _ _ | assumption | refine below_step ?_ (by assumption) | refine Below.drew ?_ | refine below_drewN ?_ _ | refine below_alloc ?_ _ | refine Below.setCell ?_ (by simp; try omega) _))⟩
  obtain ⟨hk4, hdm0⟩ := hg3
  obtain rfl := str_empty hdm0
  subst hk4
  clear h3 hdm0
  by_cases hg2 : k0 = 1 ∧ hdB d0 = true
  rotate_left
  · have HD := Lib.hid (HD3.out (h22 hg2))
    have hdisc := fun W => l13Disc_no k0 d0 W (by unfold maxLen; omega) hg2
    clear hg2 h22 h4 hmid
    go_enter Try.func33, Try.ntmps33
    go_wp2_with (first
      | (go_at_call 22; refine (hdisc _).mono ?_; rintro e w2 ⟨rfl, hx2⟩; replace Z := Z.below hx2 Z.lt; replace hB : BB w _ := BB.next hB hx2; clear z0 z1 z2 z3 z4 z5 hfz hb2; have ZZ := Z; replace Z := fun o : Obj => BX.al ZZ o; have hb2 : Below w.heap.size w _ := hB; have z0 := fun o : Obj => (Z o).cell 0 (by simp); have z1 := fun o : Obj => (Z o).cell 1 (by simp); have z2 := fun o : Obj => (Z o).cell 2 (by simp); have z3 := fun o : Obj => (Z o).cell 3 (by simp); have z4 := fun o : Obj => (Z o).cell 4 (by simp); have z5 := fun o : Obj => (Z o).cell 5 (by simp); have hfz := fun (o : Obj) j => (Z o).free j)
      | (go_at_call 42; refine (hdk _).mono ?_; rintro e w1 ⟨v1, rfl, ho1, hx1⟩; replace Z := Z.below hx1 Z.lt; replace hB : BB w _ := BB.next hB hx1; obtain ⟨g1, c1, hv⟩ := Go.Joins.ownsRow_form ho1 hpos; cases hv; obtain ⟨a0, a1⟩ := hrm ho1; obtain ⟨e0, e1⟩ := hr0 ho1; have hb2 : Below w.heap.size w _ := hB; have z0 : (_ : Option Value) = some (.int .i64 0) := Z.cell 0 (by simp); have z1 : (_ : Option Value) = some (.int .i64 0) := Z.cell 1 (by simp); have z2 : (_ : Option Value) = some (.int .i64 0) := Z.cell 2 (by simp); have z3 : (_ : Option Value) = some (.int .i64 0) := Z.cell 3 (by simp); have z4 : (_ : Option Value) = some (.slice none 0 0) := Z.cell 4 (by simp); have z5 : (_ : Option Value) = some (.slice none 0 0) := Z.cell 5 (by simp); have hfz := fun j => Z.free j))
    refine bodyPost_ret (v := .tuple #[.agg #[.int .i64 0, .int .i64 0, .int .i64 0, .int .i64 0, .slice none 0 0, .slice none 0 0], .int .i64 7]) (by simp [results, Try.results33, go_sem, World.cell?_setCell_other, z0, z1, z2, z3, z4, z5]) rfl ⟨.slice none 0 0, .slice none 0 0, by rw [HD.out.1, HD.out.2]; rfl, by rw [HD.out.1]; exact World.ownsRow_nil _ _ _ _, by rw [HD.out.1]; exact World.ownsRow_nil _ _ _ _, .inl rfl, (by with_reducible repeat (first | exact Below.refl _ _ | assumption | refine below_step ?_ (by assumption) | refine Below.drew ?_ | refine below_drewN ?_ _ | refine below_alloc ?_ _ | refine Below.setCell ?_ (by simp; try omega) _))⟩
  obtain ⟨hk1, hh⟩ := hg2
  subst hk1
  have himg := h4 rfl hh rfl rfl
  obtain ⟨n1, n2, n3, n4, n5, n6, n7, n8, n9, n10, n11, n12, n13, n14⟩ := hd_nums hh
  have hdisc := fun W => l13Disc_yes d0 W hh
  rw [show newS (bt d0 3 : Int) (bt d0 4 : Int) (bt d0 5 : Int) (bt d0 6 : Int) = hdL d0 from rfl] at hdisc
  unfold bodyOf at himg
  have hsec : ∀ x ∈ hdL d0, True := fun _ _ => trivial
  rw [n10, n11] at hdisc himg
  generalize hdL d0 = l0 at *
  generalize (bt d0 3 : Int) = c at *
  generalize (bt d0 4 : Int) = h at *
  generalize hdT d0 = T at *
  generalize hdP d0 = P at *
  generalize hdS d0 = s at *
  generalize hdNb d0 = nb at *
  have hNpos : 0 < l0.length := by rw [n9]; exact Nat.mul_pos n14 n3
  obtain ⟨NL, hNL⟩ : ∃ NL, l0.length = NL := ⟨_, rfl⟩
  have HNL : Hid (NL = T * P) := Lib.hid (by rw [← hNL, n9])
  rw [hNL] at hdisc hNpos
  have HL0 := Lib.hid hNL
  clear n9 n12 hNL hh h22 h4 hsec
  go_enter Try.func33, Try.ntmps33
  go_wp2_with (first
    | (go_at_call 22; refine (hdisc _).mono ?_; rintro e w2 ⟨v2, rfl, hown2, hx2⟩; obtain ⟨b, cp, hv⟩ := Go.Joins.ownsRow_form hown2 hNpos; cases hv; replace Z := Z.below hx2 Z.lt; replace hB : BB w _ := BB.next hB hx2; replace OL := OO.next OL hx2)
    | (go_at_call 42; refine (hdk _).mono ?_; rintro e w1 ⟨v1, rfl, ho1, hx1⟩; replace Z := Z.below hx1 Z.lt; replace hB : BB w _ := BB.next hB hx1; obtain ⟨g1, c1, hv⟩ := Go.Joins.ownsRow_form ho1 hpos; cases hv; obtain ⟨a0, a1⟩ := hrm ho1; obtain ⟨e0, e1⟩ := hr0 ho1; have OL : OO w1 _ _ _ _ _ _ := ho1; have hz01 := Z.lt; have Z01 := Z; have hB01 := hB))
  have hgZ := Z.lt
  have hbl := (World.ownsRow.lt hown2 b rfl).2
  have hbw1 := (World.ownsRow.lt hown2 b rfl).1
  have hx2s := hx2.size
  have hNLp := hNpos
  have FX : BX ((w2.alloc (.cells #[.int .i64 c, .int .i64 h, .int .i64 (P : Int), .int .i64 s, .slice (some ⟨b, 0, none⟩) NL cp] 24)).alloc (.cells #[.int .i64 c, .int .i64 h, .int .i64 (P : Int), .int .i64 s, .slice (some ⟨b, 0, none⟩) NL cp, .slice none 0 0] 27)) (w2.heap.size + 1) 27 [.int .i64 c, .int .i64 h, .int .i64 (P : Int), .int .i64 s, .slice (some ⟨b, 0, none⟩) NL cp, .slice none 0 0] := BX.made1 w2 (.cells #[.int .i64 c, .int .i64 h, .int .i64 (P : Int), .int .i64 s, .slice (some ⟨b, 0, none⟩) NL cp] 24) 27 [.int .i64 c, .int .i64 h, .int .i64 (P : Int), .int .i64 s, .slice (some ⟨b, 0, none⟩) NL cp, .slice none 0 0]
  have OX : OO ((w2.alloc (.cells #[.int .i64 c, .int .i64 h, .int .i64 (P : Int), .int .i64 s, .slice (some ⟨b, 0, none⟩) NL cp] 24)).alloc (.cells #[.int .i64 c, .int .i64 h, .int .i64 (P : Int), .int .i64 s, .slice (some ⟨b, 0, none⟩) NL cp, .slice none 0 0] 27)) w1.heap.size 90 2 (.slice (some ⟨b, 0, none⟩) NL cp) NL (flat fSector l0) := OO.al (OO.al hown2 (.cells #[.int .i64 c, .int .i64 h, .int .i64 (P : Int), .int .i64 s, .slice (some ⟨b, 0, none⟩) NL cp] 24)) (.cells #[.int .i64 c, .int .i64 h, .int .i64 (P : Int), .int .i64 s, .slice (some ⟨b, 0, none⟩) NL cp, .slice none 0 0] 27)
  have BX1 : Below w1.heap.size w1 ((w2.alloc (.cells #[.int .i64 c, .int .i64 h, .int .i64 (P : Int), .int .i64 s, .slice (some ⟨b, 0, none⟩) NL cp] 24)).alloc (.cells #[.int .i64 c, .int .i64 h, .int .i64 (P : Int), .int .i64 s, .slice (some ⟨b, 0, none⟩) NL cp, .slice none 0 0] 27)) := below_alloc (below_alloc hx2 _) _
  have hgb : w2.heap.size + 1 ≠ b := by omega
  have hbase : w1.heap.size ≤ w2.heap.size + 1 := by omega
  have hz1 : w.heap.size < w1.heap.size := hz01
  generalize w2.heap.size + 1 = gx at *
  generalize ((w2.alloc (.cells #[.int .i64 c, .int .i64 h, .int .i64 (P : Int), .int .i64 s, .slice (some ⟨b, 0, none⟩) NL cp] 24)).alloc (.cells #[.int .i64 c, .int .i64 h, .int .i64 (P : Int), .int .i64 s, .slice (some ⟨b, 0, none⟩) NL cp, .slice none 0 0] 27)) = w3 at *
  obtain ⟨R, hR⟩ : ∃ R, decG T P nb s (mid L) l0 [] = R := ⟨_, rfl⟩
  rw [hR] at himg
  have HI := Lib.hid himg
  have HR0 := Lib.hid hR
  have HKL := Lib.hid hkl
  clear himg hR hkl hown2 OL Z hB hx2 hx2s hbl hgZ a0 a1 e0 e1
  obtain ⟨base, hbe⟩ : ∃ base, w1.heap.size = base := ⟨_, rfl⟩
  rw [hbe] at hz1 hbase hbw1 OX BX1
  have HBE := Lib.hid hbe
  clear hbe hz01
  go_loopw [10] (fun i wr => ∃ (k : Nat) (l : List DSector) (n : List ByteArray) (B : Option Addr) (q : Nat), k ≤ (mid L).length ∧ i = .int .i64 ((1 + k : Nat) : Int) ∧ l.length = NL ∧ n.length ≤ 8 ∧ BX wr gx 27 [.int .i64 c, .int .i64 h, .int .i64 (P : Int), .int .i64 s, .slice (some ⟨b, 0, none⟩) NL cp, .slice B n.length q] ∧ wr.ownsRow base 90 2 (.slice (some ⟨b, 0, none⟩) NL cp) NL (flat fSector l) ∧ wr.ownsRow base 9 1 (.slice B n.length q) n.length (flat fS n) ∧ (Value.slice B n.length q).ownBlock ≠ some gx ∧ (Value.slice B n.length q).ownBlock ≠ some b ∧ Below base w1 wr ∧ Hid (decG T P nb s ((mid L).drop k) l n = R)) (fun i _ => L.length - (intOf i).toNat)
  case atStart => exact ⟨0, l0, [], none, 0, Nat.zero_le _, rfl, HL0.out, by simp, FX, OX, World.ownsRow_nil _ _ _ _, by simp [Value.ownBlock], by simp [Value.ownBlock], BX1, Lib.hid (by rw [List.drop_zero]; exact HR0.out)⟩
  case round =>
    clear FX OX BX1
    obtain ⟨k, l, n, B, q, hk, rfl, hl, hn8, F, O, K, hgB, hbB, hB1, HG⟩ := hrel
    have hBr : Below w.heap.size w wr := Below.trans hB01 (hB1.mono (Nat.le_of_lt hz1))
    have Zr := Z01.below hB1 hz1
    have hmk := HKL.out
    have hmm := HM.out
    by_cases hlt : k < (mid L).length
    · have hi1 : 1 + k < L.length := by omega
      have hmi : ((1 + k : Nat) : Int) < (m : Int) := by omega
      have hi1i : ((1 + k : Nat) : Int) < (L.length : Int) := by omega
      have hw1 : IntKind.i64.wrap (((1 + k : Nat) : Int) + 1) = ((1 + (k + 1) : Nat) : Int) := IntWalk.i64_in _ (by omega)
      obtain ⟨a0, a1⟩ := row_cells (own_later ho1 hB1 (Nat.le_of_eq HBE.out)) (1 + k) hi1
      have hmg := hmid k hlt hi1
      have hd := hLin2 L[1 + k] (List.getElem_mem hi1)
      obtain ⟨⟨kc, dc⟩, hx⟩ : ∃ x, L[1 + k] = x := ⟨_, rfl⟩
      rw [hx] at a0 a1 hmg hd
      have hd2 : dc.size ≤ maxLen := by
        have h9 : dc.size ≤ 1048576 := hd
        unfold maxLen
        omega
      have con := l13Enter_any gx c h s P T nb b cp l B q n kc dc wr base hd2 n1 n2 n3 n4 n5 n6 n7 n8 (by rw [hl]; exact HNL.out) hn8 (by rw [hl]; exact F) (by rw [hl]; exact O) K hbase hgb hgB hbB (by have := hB1.size; have := HBE.out; omega) hbw1
      rw [hl] at con
      cases hb : entB T P nb s n ⟨kc, dc⟩
      · rw [hb] at con
        have HD := Lib.hid (HD3.out (by rw [HI.out, decG_no hlt (by rw [hmg]; exact hb) HG.out]; rfl))
        generalize hi : 1 + k = i1 at *
        clear hb hmg hx hmm hmk hlt hk
        go_wp2_with (go_at_call 23; refine con.mono ?_; clear con; rintro e w5 ⟨B', q', rfl, F5, O5, K5, hg5, hb5, hx5⟩; have Z := Zr.below hx5 hz1; have hb2 : Below w.heap.size w w5 := hBr.trans (hx5.mono (Nat.le_of_lt hz1)); have z0 : (_ : Option Value) = some (.int .i64 0) := Z.cell 0 (by simp); have z1 : (_ : Option Value) = some (.int .i64 0) := Z.cell 1 (by simp); have z2 : (_ : Option Value) = some (.int .i64 0) := Z.cell 2 (by simp); have z3 : (_ : Option Value) = some (.int .i64 0) := Z.cell 3 (by simp); have z4 : (_ : Option Value) = some (.slice none 0 0) := Z.cell 4 (by simp); have z5 : (_ : Option Value) = some (.slice none 0 0) := Z.cell 5 (by simp); have hfz := fun j => Z.free j)
        refine bodyPost_ret (v := .tuple #[.agg #[.int .i64 0, .int .i64 0, .int .i64 0, .int .i64 0, .slice none 0 0, .slice none 0 0], .int .i64 7]) (by simp [results, Try.results33, go_sem, World.cell?_setCell_other, z0, z1, z2, z3, z4, z5]) rfl ⟨.slice none 0 0, .slice none 0 0, by rw [HD.out.1, HD.out.2]; rfl, by rw [HD.out.1]; exact World.ownsRow_nil _ _ _ _, by rw [HD.out.1]; exact World.ownsRow_nil _ _ _ _, .inl rfl, (by with_reducible repeat (first | exact Below.refl _ _ | assumption | refine below_step ?_ (by assumption) | refine Below.drew ?_ | refine below_drewN ?_ _ | refine below_alloc ?_ _ | refine Below.setCell ?_ (by simp; try omega) _))⟩
      · rw [hb] at con
        have HN := Lib.hid (decG_yes hlt (by rw [hmg]; exact hb) HG.out)
        rw [hmg] at HN
        have hl' := entL_len (T := T) (P := P) (nb := nb) (s := s) (l := l) (by rw [hl]; exact HNL.out) ⟨kc, dc⟩
        rw [← HNL.out] at hl'
        have hn' := entN_len hn8 ⟨kc, dc⟩
        have HLT := Lib.hid hlt
        have HW1 := Lib.hid (show 1 + (k + 1) = 1 + k + 1 from rfl)
        generalize entL T P nb s l ⟨kc, dc⟩ = l' at *
        generalize entN n ⟨kc, dc⟩ = n' at *
        generalize hi : 1 + k = i1 at *
        generalize hi2 : 1 + (k + 1) = i2 at *
        have HI1 := Lib.hid hi
        have HI2 := Lib.hid hi2
        clear hb hmg hx hmm hmk hlt hk hi hi2
        go_wp2_with (go_at_call 23; refine con.mono ?_; clear con; rintro e w5 ⟨B', q', rfl, F5, O5, K5, hg5, hb5, hx5⟩)
        go_roundw
        case rel => exact ⟨k + 1, l', n', B', q', HLT.out, by rw [HI2.out], hl', hn', F5, O5, K5, hg5, hb5, hB1.trans hx5, HN⟩
        case measure => (have := HI1.out; have := HI2.out; have := HLT.out; have := HKL.out; simp [intOf]; omega)
    · have hkm : 1 + k = m := by omega
      rw [hkm]
      have hmi : ¬ (m : Int) < (m : Int) := by omega
      have HD := Lib.hid (HD4.out _ (by rw [HI.out, decG_end hlt HG.out]; rfl))
      have f0 : (_ : Option Value) = some (.int .i64 c) := F.cell 0 (by simp)
      have f1 : (_ : Option Value) = some (.int .i64 h) := F.cell 1 (by simp)
      have f2 : (_ : Option Value) = some (.int .i64 (P : Int)) := F.cell 2 (by simp)
      have f3 : (_ : Option Value) = some (.int .i64 s) := F.cell 3 (by simp)
      have f4 : (_ : Option Value) = some (.slice (some ⟨b, 0, none⟩) NL cp) := F.cell 4 (by simp)
      have f5 : (_ : Option Value) = some (.slice B n.length q) := F.cell 5 (by simp)
      have Z := Zr
      have z0 : (_ : Option Value) = some (.int .i64 0) := Z.cell 0 (by simp)
      have z1 : (_ : Option Value) = some (.int .i64 0) := Z.cell 1 (by simp)
      have z2 : (_ : Option Value) = some (.int .i64 0) := Z.cell 2 (by simp)
      have z3 : (_ : Option Value) = some (.int .i64 0) := Z.cell 3 (by simp)
      have z4 : (_ : Option Value) = some (.slice none 0 0) := Z.cell 4 (by simp)
      have z5 : (_ : Option Value) = some (.slice none 0 0) := Z.cell 5 (by simp)
      have hfz := fun j => Z.free j
      have O' : World.ownsRow wr base 90 2 (.slice (some ⟨b, 0, none⟩) NL cp) l.length (flat fSector l) := by rw [hl]; exact O
      have HLL := Lib.hid hl
      clear hmm hmk hlt hk hkm hl
      go_wp2
      refine bodyPost_ret (v := .tuple #[.agg #[.int .i64 c, .int .i64 h, .int .i64 (P : Int), .int .i64 s, .slice (some ⟨b, 0, none⟩) NL cp, .slice B n.length q], .int .i64 0]) (by simp [results, Try.results33, go_sem, World.cell?_setCell_other, z0, z1, z2, z3, z4, z5]) rfl ⟨.slice (some ⟨b, 0, none⟩) NL cp, .slice B n.length q, by rw [HD.out.1, HD.out.2]; rfl, ?_, ?_, .inr (fun e => hbB e.symm), (by with_reducible repeat (first | exact Below.refl _ _ | assumption | refine below_step ?_ (by assumption) | refine Below.drew ?_ | refine below_drewN ?_ _ | refine below_alloc ?_ _ | refine Below.setCell ?_ (by simp; try omega) _))⟩
      · rw [HD.out.1]
        show World.ownsRow _ _ _ _ _ l.length (flat fSector l)
        exact own_base (ownsRow_setCell_below (ownsRow_setCell_below (ownsRow_setCell_below (ownsRow_setCell_below (ownsRow_setCell_below (ownsRow_setCell_below O' hz1 _) hz1 _) hz1 _) hz1 _) hz1 _) hz1 _) (Nat.le_of_lt hz1)
      · rw [HD.out.1]
        show World.ownsRow _ _ _ _ _ n.length (flat fS n)
        exact own_base (ownsRow_setCell_below (ownsRow_setCell_below (ownsRow_setCell_below (ownsRow_setCell_below (ownsRow_setCell_below (ownsRow_setCell_below K hz1 _) hz1 _) hz1 _) hz1 _) hz1 _) hz1 _) (Nat.le_of_lt hz1)

set_option maxRecDepth 100000 in
set_option maxHeartbeats 2000000 in
theorem spec_DecodeImage_any (t : ByteArray) (w : World) (ht : t.size ≤ 1048576) :
    Calls Try.prog 12 #[.string t] w fun e w' => ∃ v u, e = .returned (.tuple #[.agg #[.int .i64 (imD (decR t)).c, .int .i64 (imD (decR t)).h, .int .i64 (imD (decR t)).p, .int .i64 (imD (decR t)).s, v, u], .int .i64 (decC t)]) ∧ w'.ownsRow w.heap.size 90 2 v (imD (decR t)).l.length (flat fSector (imD (decR t)).l) ∧ w'.ownsRow w.heap.size 9 1 u (imD (decR t)).n.length (flat fS (imD (decR t)).n) ∧ (v.ownBlock = none ∨ v.ownBlock ≠ u.ownBlock) ∧ Below w.heap.size w w' := by
  have Z : BX (w.alloc (.cells #[.int .i64 0, .int .i64 0, .int .i64 0, .int .i64 0, .slice none 0 0, .slice none 0 0] 27)) w.heap.size 27 [.int .i64 0, .int .i64 0, .int .i64 0, .int .i64 0, .slice none 0 0, .slice none 0 0] := BX.made w 27 [.int .i64 0, .int .i64 0, .int .i64 0, .int .i64 0, .slice none 0 0, .slice none 0 0]
  have hB : BB w (w.alloc (.cells #[.int .i64 0, .int .i64 0, .int .i64 0, .int .i64 0, .slice none 0 0, .slice none 0 0] 27)) := (show Below w.heap.size w (w.alloc (.cells #[.int .i64 0, .int .i64 0, .int .i64 0, .int .i64 0, .slice none 0 0, .slice none 0 0] 27)) from (by with_reducible repeat (first | exact Below.refl _ _ | assumption | refine below_step ?_ (by assumption) | refine Below.drew ?_ | refine below_drewN ?_ _ | refine below_alloc ?_ _ | refine Below.setCell ?_ (by simp; try omega) _)))
  have hq := fun W => l13Decode_any t W ht
  generalize imD (decR t) = X at *
  generalize decC t = code at *
  go_enter Try.func12, Try.ntmps12
  go_wp2_with (go_at_call 33; refine (hq _).mono ?_; rintro e w2 ⟨v, u, rfl, O, K, ne, hx2⟩; have hz1 := Z.lt; obtain ⟨A2, c2, rfl⟩ := own_form O; obtain ⟨A3, c3, rfl⟩ := own_form K; replace Z := Z.below hx2 Z.lt; have hb2 : Below w.heap.size w w2 := BB.next hB hx2; have z0 : (_ : Option Value) = some (.int .i64 0) := Z.cell 0 (by simp); have z1 : (_ : Option Value) = some (.int .i64 0) := Z.cell 1 (by simp); have z2 : (_ : Option Value) = some (.int .i64 0) := Z.cell 2 (by simp); have z3 : (_ : Option Value) = some (.int .i64 0) := Z.cell 3 (by simp); have z4 : (_ : Option Value) = some (.slice none 0 0) := Z.cell 4 (by simp); have z5 : (_ : Option Value) = some (.slice none 0 0) := Z.cell 5 (by simp); have hfz := fun j => Z.free j)
  refine bodyPost_ret (v := .tuple #[.agg #[.int .i64 X.c, .int .i64 X.h, .int .i64 X.p, .int .i64 X.s, .slice A2 X.l.length c2, .slice A3 X.n.length c3], .int .i64 code]) (by simp [results, Try.results12, go_sem, World.cell?_setCell_other, z0, z1, z2, z3, z4, z5]) rfl ⟨_, _, rfl, ?_, ?_, ne, (by with_reducible repeat (first | exact Below.refl _ _ | assumption | refine below_step ?_ (by assumption) | refine Below.drew ?_ | refine below_drewN ?_ _ | refine below_alloc ?_ _ | refine Below.setCell ?_ (by simp; try omega) _))⟩
  · exact own_base (ownsRow_setCell_below (ownsRow_setCell_below (ownsRow_setCell_below (ownsRow_setCell_below (ownsRow_setCell_below (ownsRow_setCell_below O hz1 _) hz1 _) hz1 _) hz1 _) hz1 _) hz1 _) (Nat.le_of_lt hz1)
  · exact own_base (ownsRow_setCell_below (ownsRow_setCell_below (ownsRow_setCell_below (ownsRow_setCell_below (ownsRow_setCell_below (ownsRow_setCell_below K hz1 _) hz1 _) hz1 _) hz1 _) hz1 _) hz1 _) (Nat.le_of_lt hz1)
end Go.Proofs.Ytjjcedodjoieoaa
namespace Go.Proofs.Ytjjcedodjoieoaa
set_option linter.unusedVariables false
open Go.RowKit

set_option maxRecDepth 100000 in
set_option maxHeartbeats 4000000 in
theorem imageOf_any (v1 : Value) (base1 : Nat) (L : List DChunk) (w : World) (ho1 : w.ownsRow base1 47 2 v1 L.length (flat fChunk L)) (hL40 : L.length ≤ 40) (hLin2 : ∀ x ∈ L, x.f1.size ≤ 1048576) :
    Calls Try.prog 35 #[v1] w fun e w' => ∃ v u, e = .returned (.tuple #[.agg #[.int .i64 (imD (imgOf L)).c, .int .i64 (imD (imgOf L)).h, .int .i64 (imD (imgOf L)).p, .int .i64 (imD (imgOf L)).s, v, u], .bool (imgOf L).isSome]) ∧ w'.ownsRow w.heap.size 90 2 v (imD (imgOf L)).l.length (flat fSector (imD (imgOf L)).l) ∧ w'.ownsRow w.heap.size 9 1 u (imD (imgOf L)).n.length (flat fS (imD (imgOf L)).n) ∧ (v.ownBlock = none ∨ v.ownBlock ≠ u.ownBlock) ∧ Below w.heap.size w w' := by
  have Z0 : BX (w.alloc (.cells #[.int .i64 0, .int .i64 0, .int .i64 0, .int .i64 0, .slice none 0 0, .slice none 0 0] 27)) w.heap.size 27 [.int .i64 0, .int .i64 0, .int .i64 0, .int .i64 0, .slice none 0 0, .slice none 0 0] := BX.made w 27 [.int .i64 0, .int .i64 0, .int .i64 0, .int .i64 0, .slice none 0 0, .slice none 0 0]
  have hB0 : BB w (w.alloc (.cells #[.int .i64 0, .int .i64 0, .int .i64 0, .int .i64 0, .slice none 0 0, .slice none 0 0] 27)) := (show Below w.heap.size w (w.alloc (.cells #[.int .i64 0, .int .i64 0, .int .i64 0, .int .i64 0, .slice none 0 0, .slice none 0 0] 27)) from (by with_reducible repeat (first | exact Below.refl _ _ | assumption | refine below_step ?_ (by assumption) | refine Below.drew ?_ | refine below_drewN ?_ _ | refine below_alloc ?_ _ | refine Below.setCell ?_ (by simp; try omega) _)))
  have ho0 : OO (w.alloc (.cells #[.int .i64 0, .int .i64 0, .int .i64 0, .int .i64 0, .slice none 0 0, .slice none 0 0] 27)) _ _ _ _ _ _ := OO.al ho1 (.cells #[.int .i64 0, .int .i64 0, .int .i64 0, .int .i64 0, .slice none 0 0, .slice none 0 0] 27)
  obtain ⟨w1, hw1⟩ : ∃ w1, w1 = (w.alloc (.cells #[.int .i64 0, .int .i64 0, .int .i64 0, .int .i64 0, .slice none 0 0, .slice none 0 0] 27)) := ⟨_, rfl⟩
  have Z := Z0
  have hB := hB0
  have ho := ho0
  rw [← hw1] at Z hB ho
  have HW := Lib.hid hw1
  clear hw1
  have hb2 : Below w.heap.size w (w.alloc (.cells #[.int .i64 0, .int .i64 0, .int .i64 0, .int .i64 0, .slice none 0 0, .slice none 0 0] 27)) := hB0
  have z0 : (_ : Option Value) = some (.int .i64 0) := Z0.cell 0 (by simp)
  have z1 : (_ : Option Value) = some (.int .i64 0) := Z0.cell 1 (by simp)
  have z2 : (_ : Option Value) = some (.int .i64 0) := Z0.cell 2 (by simp)
  have z3 : (_ : Option Value) = some (.int .i64 0) := Z0.cell 3 (by simp)
  have z4 : (_ : Option Value) = some (.slice none 0 0) := Z0.cell 4 (by simp)
  have z5 : (_ : Option Value) = some (.slice none 0 0) := Z0.cell 5 (by simp)
  have hfz := fun j => Z0.free j
  by_cases h2 : 2 ≤ L.length
  rotate_left
  · have HD := Lib.hid (imgOf_1 h2)
    have hw : IntKind.i64.wrap ((L.length : Int) - 1) = (L.length : Int) - 1 := IntWalk.i64_in _ (by omega)
    have hlt : (L.length : Int) - 1 < 1 := by omega
    obtain ⟨A1, c1, rfl⟩ := own_form ho1
    clear ho1 ho0 ho
    go_enter Try.func35, Try.ntmps35
    go_wp2
    refine bodyPost_ret (v := .tuple #[.agg #[.int .i64 0, .int .i64 0, .int .i64 0, .int .i64 0, .slice none 0 0, .slice none 0 0], .bool false]) (by simp [results, Try.results35, go_sem, z0, z1, z2, z3, z4, z5]) rfl ⟨.slice none 0 0, .slice none 0 0, by rw [HD.out]; rfl, by rw [HD.out]; exact World.ownsRow_nil _ _ _ _, by rw [HD.out]; exact World.ownsRow_nil _ _ _ _, .inl rfl, (by with_reducible repeat (first | exact Below.refl _ _ | assumption | refine below_step ?_ (by assumption) | refine Below.drew ?_ | refine below_drewN ?_ _ | refine below_alloc ?_ _ | refine Below.setCell ?_ (by simp; try omega) _))⟩
  have hpos : 0 < L.length := by omega
  have hposi : (0 : Int) < (L.length : Int) := by omega
  obtain ⟨g1, c1, hv⟩ := Go.Joins.ownsRow_form ho1 hpos
  subst hv
  have hcc := own_capD ho1
  obtain ⟨m, hm⟩ : ∃ m, L.length - 1 = m := ⟨_, rfl⟩
  have hwm : IntKind.i64.wrap ((L.length : Int) - 1) = (m : Int) := by rw [show (L.length : Int) - 1 = (m : Int) by omega]; exact IntWalk.i64_in _ (by omega)
  have hlt : ¬ (m : Int) < 1 := by omega
  have hmL : m < L.length := by omega
  have hmLi : (m : Int) < (L.length : Int) := by omega
  have h3 := imgOf_3 h2
  have h22 := imgOf_2 h2
  have h4 := imgOf_4 h2
  have hkl := mid_len (L := L)
  have hmid := fun k h => mid_get (L := L) (k := k) h
  have hd0 := hLin2 L[0] (List.getElem_mem hpos)
  have HM := Lib.hid hm
  have e4 : L[L.length - 1] = L[m] := by congr 1
  rw [e4] at h3 h4
  obtain ⟨e0, e1⟩ := row_cells (OOf ho0) 0 hpos
  obtain ⟨a0, a1⟩ := row_cells (OOf ho0) m hmL
  obtain ⟨⟨k0, d0⟩, hx0⟩ : ∃ x, L[0] = x := ⟨_, rfl⟩
  obtain ⟨⟨km, dm⟩, hxm⟩ : ∃ x, L[m] = x := ⟨_, rfl⟩
  rw [hx0] at h22 h4 hd0 e0 e1
  rw [hxm] at h3 h4 a0 a1
  simp only [Nat.zero_mul, Nat.zero_add] at h22 h4 hd0 e0 e1 h3 a0 a1
  clear e4 hx0 hxm hm
  by_cases hk1 : k0 = 1
  rotate_left
  · have HD := Lib.hid (h22 (fun x => hk1 x.1))
    have hb1 : (k0 != 1) = true := by simpa using hk1
    clear hk1 h22 h3 h4 hmid
    go_enter Try.func35, Try.ntmps35
    go_wp2
    refine bodyPost_ret (v := .tuple #[.agg #[.int .i64 0, .int .i64 0, .int .i64 0, .int .i64 0, .slice none 0 0, .slice none 0 0], .bool false]) (by simp [results, Try.results35, go_sem, z0, z1, z2, z3, z4, z5]) rfl ⟨.slice none 0 0, .slice none 0 0, by rw [HD.out]; rfl, by rw [HD.out]; exact World.ownsRow_nil _ _ _ _, by rw [HD.out]; exact World.ownsRow_nil _ _ _ _, .inl rfl, (by with_reducible repeat (first | exact Below.refl _ _ | assumption | refine below_step ?_ (by assumption) | refine Below.drew ?_ | refine below_drewN ?_ _ | refine below_alloc ?_ _ | refine Below.setCell ?_ (by simp; try omega) _))⟩
  subst hk1
  by_cases hg3 : km = 4 ∧ dm.size = 0
  rotate_left
  · have HD := Lib.hid (h3 hg3)
    by_cases hk4 : km = 4
    · have hdm := str_some (fun h => hg3 ⟨hk4, h⟩)
      subst hk4
      clear hg3 h3 h22 h4 hmid
      go_enter Try.func35, Try.ntmps35
      go_wp2
      refine bodyPost_ret (v := .tuple #[.agg #[.int .i64 0, .int .i64 0, .int .i64 0, .int .i64 0, .slice none 0 0, .slice none 0 0], .bool false]) (by simp [results, Try.results35, go_sem, z0, z1, z2, z3, z4, z5]) rfl ⟨.slice none 0 0, .slice none 0 0, by rw [HD.out]; rfl, by rw [HD.out]; exact World.ownsRow_nil _ _ _ _, by rw [HD.out]; exact World.ownsRow_nil _ _ _ _, .inl rfl, (by with_reducible repeat (first | exact Below.refl _ _ | assumption | refine below_step ?_ (by assumption) | refine Below.drew ?_ | refine below_drewN ?_ _ | refine below_alloc ?_ _ | refine Below.setCell ?_ (by simp; try omega) _))⟩
    · have hb4 : (km == 4) = false := by simpa using hk4
      clear hg3 hk4 h3 h22 h4 hmid
      go_enter Try.func35, Try.ntmps35
      go_wp2
      refine bodyPost_ret (v := .tuple #[.agg #[.int .i64 0, .int .i64 0, .int .i64 0, .int .i64 0, .slice none 0 0, .slice none 0 0], .bool false]) (by simp [results, Try.results35, go_sem, z0, z1, z2, z3, z4, z5]) rfl ⟨.slice none 0 0, .slice none 0 0, by rw [HD.out]; rfl, by rw [HD.out]; exact World.ownsRow_nil _ _ _ _, by rw [HD.out]; exact World.ownsRow_nil _ _ _ _, .inl rfl, (by with_reducible repeat (first | exact Below.refl _ _ | assumption | refine below_step ?_ (by assumption) | refine Below.drew ?_ | refine below_drewN ?_ _ | refine below_alloc ?_ _ | refine Below.setCell ?_ (by simp; try omega) _))⟩
  obtain ⟨hk4, hdm0⟩ := hg3
  obtain rfl := str_empty hdm0
  subst hk4
  clear h3 hdm0
  cases hh : hdB d0
  · have HD := Lib.hid (h22 (fun x => by rw [hh] at x; cases x.2))
    have hrd := fun W => readHeader_no d0 W (by unfold maxLen; omega) hh
    clear hh h22 h4 hmid
    go_enter Try.func35, Try.ntmps35
    go_wp2_with (go_at_call 25; rw [← HW.out]; refine (hrd _).mono ?_; rintro e w2 ⟨rfl, hx2⟩; replace Z := Z.below hx2 Z.lt; replace hB : BB w _ := BB.next hB hx2; clear z0 z1 z2 z3 z4 z5 hfz hb2; have ZA := fun o : Obj => BX.al Z o; have hb2 : Below w.heap.size w _ := hB; have z0 := fun o : Obj => (ZA o).cell 0 (by simp); have z1 := fun o : Obj => (ZA o).cell 1 (by simp); have z2 := fun o : Obj => (ZA o).cell 2 (by simp); have z3 := fun o : Obj => (ZA o).cell 3 (by simp); have z4 := fun o : Obj => (ZA o).cell 4 (by simp); have z5 := fun o : Obj => (ZA o).cell 5 (by simp); have hfz := fun (o : Obj) j => (ZA o).free j)
    refine bodyPost_ret (v := .tuple #[.agg #[.int .i64 0, .int .i64 0, .int .i64 0, .int .i64 0, .slice none 0 0, .slice none 0 0], .bool false]) (by simp [results, Try.results35, go_sem, World.cell?_setCell_other, z0, z1, z2, z3, z4, z5]) rfl ⟨.slice none 0 0, .slice none 0 0, by rw [HD.out]; rfl, by rw [HD.out]; exact World.ownsRow_nil _ _ _ _, by rw [HD.out]; exact World.ownsRow_nil _ _ _ _, .inl rfl, (by with_reducible repeat (first | exact Below.refl _ _ | assumption | refine below_step ?_ (by assumption) | refine Below.drew ?_ | refine below_drewN ?_ _ | refine below_alloc ?_ _ | refine Below.setCell ?_ (by simp; try omega) _))⟩
  have himg := h4 rfl hh rfl rfl
  obtain ⟨n1, n2, n3, n4, n5, n6, n7, n8, n9, n10, n11, n12, n13, n14⟩ := hd_nums hh
  have hdisc := fun W => readHeader_yes d0 W hh
  rw [show newS (bt d0 3 : Int) (bt d0 4 : Int) (bt d0 5 : Int) (bt d0 6 : Int) = hdL d0 from rfl] at hdisc
  unfold bodyOf at himg
  rw [n10, n11] at hdisc himg
  generalize hdL d0 = l0 at *
  generalize (bt d0 3 : Int) = c at *
  generalize (bt d0 4 : Int) = h at *
  generalize hdT d0 = T at *
  generalize hdP d0 = P at *
  generalize hdS d0 = s at *
  generalize hdNb d0 = nb at *
  have hNpos : 0 < l0.length := by rw [n9]; exact Nat.mul_pos n14 n3
  obtain ⟨NL, hNL⟩ : ∃ NL, l0.length = NL := ⟨_, rfl⟩
  have HNL : Hid (NL = T * P) := Lib.hid (by rw [← hNL, n9])
  rw [hNL] at hdisc hNpos
  have HL0 := Lib.hid hNL
  have hm1 : 1 ≤ m := by omega
  have hm1i : (1 : Int) ≤ (m : Int) := by omega
  have hmc : m ≤ c1 := by omega
  have hmci : (m : Int) ≤ (c1 : Int) := by omega
  have hc1 : ¬ c1 = 1 := by omega
  have hc2 : ¬ 1 = c1 := by omega
  clear n9 n12 hNL hh h22 h4
  go_enter Try.func35, Try.ntmps35
  go_wp2_with (go_at_call 25; rw [← HW.out]; refine (hdisc _).mono ?_; rintro e w2 ⟨v2, rfl, hown2, hx2⟩; obtain ⟨b, cp, hv⟩ := Go.Joins.ownsRow_form hown2 hNpos; cases hv)
  have hbl := (World.ownsRow.lt hown2 b rfl).2
  have hbw1 := (World.ownsRow.lt hown2 b rfl).1
  have hcp := own_capD hown2
  have hx2s := hx2.size
  have FX : BX ((w2.alloc (.cells #[.int .i64 c, .int .i64 h, .int .i64 (P : Int), .int .i64 s, .slice (some ⟨b, 0, none⟩) NL cp] 24)).alloc (.cells #[.int .i64 c, .int .i64 h, .int .i64 (P : Int), .int .i64 s, .slice (some ⟨b, 0, none⟩) NL cp, .slice none 0 0] 27)) (w2.heap.size + 1) 27 [.int .i64 c, .int .i64 h, .int .i64 (P : Int), .int .i64 s, .slice (some ⟨b, 0, none⟩) NL cp, .slice none 0 0] := BX.made1 w2 (.cells #[.int .i64 c, .int .i64 h, .int .i64 (P : Int), .int .i64 s, .slice (some ⟨b, 0, none⟩) NL cp] 24) 27 [.int .i64 c, .int .i64 h, .int .i64 (P : Int), .int .i64 s, .slice (some ⟨b, 0, none⟩) NL cp, .slice none 0 0]
  have OX : OO ((w2.alloc (.cells #[.int .i64 c, .int .i64 h, .int .i64 (P : Int), .int .i64 s, .slice (some ⟨b, 0, none⟩) NL cp] 24)).alloc (.cells #[.int .i64 c, .int .i64 h, .int .i64 (P : Int), .int .i64 s, .slice (some ⟨b, 0, none⟩) NL cp, .slice none 0 0] 27)) w1.heap.size 90 2 (.slice (some ⟨b, 0, none⟩) NL cp) NL (flat fSector l0) := OO.al (OO.al hown2 (.cells #[.int .i64 c, .int .i64 h, .int .i64 (P : Int), .int .i64 s, .slice (some ⟨b, 0, none⟩) NL cp] 24)) (.cells #[.int .i64 c, .int .i64 h, .int .i64 (P : Int), .int .i64 s, .slice (some ⟨b, 0, none⟩) NL cp, .slice none 0 0] 27)
  have BX1 : Below w1.heap.size w1 ((w2.alloc (.cells #[.int .i64 c, .int .i64 h, .int .i64 (P : Int), .int .i64 s, .slice (some ⟨b, 0, none⟩) NL cp] 24)).alloc (.cells #[.int .i64 c, .int .i64 h, .int .i64 (P : Int), .int .i64 s, .slice (some ⟨b, 0, none⟩) NL cp, .slice none 0 0] 27)) := below_alloc (below_alloc hx2 _) _
  have hgb : w2.heap.size + 1 ≠ b := by omega
  have hbase : w1.heap.size ≤ w2.heap.size + 1 := by omega
  have hz1 : w.heap.size < w1.heap.size := Z.lt
  generalize w2.heap.size + 1 = gx at *
  generalize ((w2.alloc (.cells #[.int .i64 c, .int .i64 h, .int .i64 (P : Int), .int .i64 s, .slice (some ⟨b, 0, none⟩) NL cp] 24)).alloc (.cells #[.int .i64 c, .int .i64 h, .int .i64 (P : Int), .int .i64 s, .slice (some ⟨b, 0, none⟩) NL cp, .slice none 0 0] 27)) = w3 at *
  obtain ⟨R, hR⟩ : ∃ R, decG T P nb s (mid L) l0 [] = R := ⟨_, rfl⟩
  rw [hR] at himg
  have HI := Lib.hid himg
  have HR0 := Lib.hid hR
  have HKL := Lib.hid hkl
  clear himg hR hkl hown2 hx2 hx2s hbl a0 a1 e0 e1 z0 z1 z2 z3 z4 z5 hfz hb2 ho0 Z0 hB0
  obtain ⟨base, hbe⟩ : ∃ base, w1.heap.size = base := ⟨_, rfl⟩
  rw [hbe] at hz1 hbase hbw1 OX BX1
  have HBE := Lib.hid hbe
  clear hbe
  have hz1' := Nat.le_of_lt hz1
  obtain ⟨m2, hm2⟩ : ∃ m2, m - 1 = m2 := ⟨_, rfl⟩
  rw [hm2]
  have HM2 := Lib.hid hm2
  clear hm2
  go_loopw [48] (fun i wr => ∃ (k : Nat) (l : List DSector) (n : List ByteArray) (B : Option Addr) (q : Nat), k ≤ (mid L).length ∧ i = .int .i64 (k : Int) ∧ l.length = NL ∧ n.length ≤ 8 ∧ BX wr gx 27 [.int .i64 c, .int .i64 h, .int .i64 (P : Int), .int .i64 s, .slice (some ⟨b, 0, none⟩) NL cp, .slice B n.length q] ∧ wr.ownsRow base 90 2 (.slice (some ⟨b, 0, none⟩) NL cp) NL (flat fSector l) ∧ wr.ownsRow base 9 1 (.slice B n.length q) n.length (flat fS n) ∧ (Value.slice B n.length q).ownBlock ≠ some gx ∧ (Value.slice B n.length q).ownBlock ≠ some b ∧ Below base w1 wr ∧ Hid (decG T P nb s ((mid L).drop k) l n = R)) (fun i _ => L.length - (intOf i).toNat)
  case atStart => exact ⟨0, l0, [], none, 0, Nat.zero_le _, rfl, HL0.out, by simp, FX, OX, World.ownsRow_nil _ _ _ _, by simp [Value.ownBlock], by simp [Value.ownBlock], BX1, Lib.hid (by rw [List.drop_zero]; exact HR0.out)⟩
  case round =>
    clear FX OX BX1
    obtain ⟨k, l, n, B, q, hk, rfl, hl, hn8, F, O, K, hgB, hbB, hB1, HG⟩ := hrel
    have hBr : Below w.heap.size w wr := Below.trans hB (hB1.mono hz1')
    have Zr := Z.below hB1 hz1
    have hmk := HKL.out
    have hmm := HM.out
    have hmm2 := HM2.out
    by_cases hlt : k < (mid L).length
    · have hi1 : 1 + k < L.length := by omega
      have hkm2 : k < m2 := by omega
      have hmi : (k : Int) < (m2 : Int) := by omega
      have hkc1 : k < c1 - 1 := by omega
      have hw1 : IntKind.i64.wrap ((k : Int) + 1) = ((k + 1 : Nat) : Int) := IntWalk.i64_in _ (by omega)
      obtain ⟨a0, a1⟩ := row_cells (own_later (OOf ho) hB1 (Nat.le_of_eq HBE.out)) (1 + k) hi1
      rw [show (1 + k) * 2 = 2 + k * 2 by omega] at a0 a1
      have hmg := hmid k hlt hi1
      have hd := hLin2 L[1 + k] (List.getElem_mem hi1)
      obtain ⟨⟨kc, dc⟩, hx⟩ : ∃ x, L[1 + k] = x := ⟨_, rfl⟩
      rw [hx] at a0 a1 hmg hd
      have hd2 : dc.size ≤ maxLen := by
        have h9 : dc.size ≤ 1048576 := hd
        unfold maxLen
        omega
      have hbs : base ≤ wr.heap.size := by have := hB1.size; have := HBE.out; omega
      have Fq := F.al (.cells #[.int .i64 kc, .string dc] 47)
      have Zq := Zr.al (.cells #[.int .i64 kc, .string dc] 47)
      have Cq : CP (wr.alloc (.cells #[.int .i64 kc, .string dc] 47)) wr.heap.size [.int .i64 kc, .string dc] := CP.made wr [.int .i64 kc, .string dc] 47
      have Oq := OO.al O (.cells #[.int .i64 kc, .string dc] 47)
      have Kq := OO.al K (.cells #[.int .i64 kc, .string dc] 47)
      have Bq := Below.alloc hB1 hbs (.cells #[.int .i64 kc, .string dc] 47)
      have hbq : Below w.heap.size w (wr.alloc (.cells #[.int .i64 kc, .string dc] 47)) := below_alloc hBr _
      have hgc : wr.heap.size ≠ b := by have := (World.ownsRow.lt O b rfl).2; omega
      have HMG := Lib.hid hmg
      have HLT := Lib.hid hlt
      clear hmg hx hmm hmk hmm2 hd
      go_upto_region 12 with fail
      clear a0 a1 F Zr O K hB1 hBr
      generalize wr.heap.size = gc at *
      generalize wr.alloc (.cells #[.int .i64 kc, .string dc] 47) = w6 at *
      have c0 : (_ : Option Value) = some (.int .i64 kc) := Cq 0 (by simp)
      have cd : (_ : Option Value) = some (.string dc) := Cq 1 (by simp)
      have f0 : (_ : Option Value) = some (.int .i64 c) := Fq.cell 0 (by simp)
      have f1 : (_ : Option Value) = some (.int .i64 h) := Fq.cell 1 (by simp)
      have f2 : (_ : Option Value) = some (.int .i64 (P : Int)) := Fq.cell 2 (by simp)
      have f3 : (_ : Option Value) = some (.int .i64 s) := Fq.cell 3 (by simp)
      have f4 : (_ : Option Value) = some (.slice (some ⟨b, 0, none⟩) NL cp) := Fq.cell 4 (by simp)
      have f5 : (_ : Option Value) = some (.slice B n.length q) := Fq.cell 5 (by simp)
      by_cases hk2 : kc = 2
      · subst hk2
        have hcon := readTrackData_any c h s P T nb b cp l dc w6 base hd2 n1 n2 n3 n4 n5 n6 n7 n8 (by rw [hl]; exact HNL.out) (by rw [hl]; exact hcp) (by rw [hl]; exact Oq)
        rw [hl] at hcon
        have hbk3 : ((2 : Int) == 3) = false := rfl
        have hnz : some b ≠ some w.heap.size := by intro e; cases e; omega
        cases htk : trk T P nb s dc with
        | none =>
          have HD := Lib.hid (show imgOf L = none by rw [HI.out, decG_no HLT.out (by rw [HMG.out, entB_trk rfl, htk]; rfl) HG.out]; rfl)
          rw [htk] at hcon
          replace hcon : Calls Try.prog 26 _ w6 fun e w' => e = .returned (.bool false) ∧ _ := hcon
          clear htk
          go_wp2_with (go_at_call 26; refine hcon.mono ?_; clear hcon; rintro e w7 ⟨rfl, O7, hg7⟩; clear c0 cd; have Cf := CP.far Cq hg7 (by intro e; cases e; exact hgc rfl); have c0 : (_ : Option Value) = some (.int .i64 2) := Cf 0 (by simp); have Z := Zq.grown hg7 hnz; have hb2 : Below w.heap.size w w7 := hbq.grown hg7 hbq.size (fun y hy => by cases hy; omega); have z0 : (_ : Option Value) = some (.int .i64 0) := Z.cell 0 (by simp); have z1 : (_ : Option Value) = some (.int .i64 0) := Z.cell 1 (by simp); have z2 : (_ : Option Value) = some (.int .i64 0) := Z.cell 2 (by simp); have z3 : (_ : Option Value) = some (.int .i64 0) := Z.cell 3 (by simp); have z4 : (_ : Option Value) = some (.slice none 0 0) := Z.cell 4 (by simp); have z5 : (_ : Option Value) = some (.slice none 0 0) := Z.cell 5 (by simp); have hfz := fun j => Z.free j)
          refine bodyPost_ret (v := .tuple #[.agg #[.int .i64 0, .int .i64 0, .int .i64 0, .int .i64 0, .slice none 0 0, .slice none 0 0], .bool false]) (by simp [results, Try.results35, go_sem, World.cell?_setCell_other, z0, z1, z2, z3, z4, z5]) rfl ⟨.slice none 0 0, .slice none 0 0, by rw [HD.out]; rfl, by rw [HD.out]; exact World.ownsRow_nil _ _ _ _, by rw [HD.out]; exact World.ownsRow_nil _ _ _ _, .inl rfl, (by with_reducible repeat (first | exact Below.refl _ _ | assumption | refine below_step ?_ (by assumption) | refine Below.drew ?_ | refine below_drewN ?_ _ | refine below_alloc ?_ _ | refine Below.setCell ?_ (by simp; try omega) _))⟩
        | some ss =>
          have hN := decG_yes HLT.out (by rw [HMG.out, entB_trk rfl, htk]; rfl) HG.out
          rw [HMG.out, entL_yes rfl, entN_no (by decide)] at hN
          have HN := Lib.hid hN
          have hl' := rtL_len (T := T) (P := P) (nb := nb) (s := s) (l := l) (by rw [hl]; exact HNL.out) dc
          rw [← HNL.out] at hl'
          rw [htk] at hcon
          replace hcon : Calls Try.prog 26 _ w6 fun e w' => e = .returned (.bool true) ∧ _ := hcon
          generalize rtL T P nb s l dc = l' at *
          clear htk hN
          go_wp2_with (go_at_call 26; refine hcon.mono ?_; clear hcon; rintro e w7 ⟨rfl, O7, hg7⟩; have F7 := Fq.grown hg7 (by intro e; cases e; exact hgb rfl); have K7 := World.ownsRow.kept (OOf Kq) hg7 (.inr hbB); have B7 := Bq.grown hg7 (by have := Bq.size; have := HBE.out; omega) (fun y hy => by cases hy; exact hbw1))
          go_roundw
          case rel => exact ⟨k + 1, l', n, B, q, HLT.out, rfl, hl', hn8, F7, O7, K7, hgB, hbB, B7, HN⟩
          case measure => (have := HLT.out; have := HKL.out; simp [intOf]; omega)
      · have hbk2 : (kc == 2) = false := by simpa using hk2
        have hvn := fun W => validNote_any dc W hd2
        have Z := Zq
        have hb2 := hbq
        have z0 : (_ : Option Value) = some (.int .i64 0) := Z.cell 0 (by simp)
        have z1 : (_ : Option Value) = some (.int .i64 0) := Z.cell 1 (by simp)
        have z2 : (_ : Option Value) = some (.int .i64 0) := Z.cell 2 (by simp)
        have z3 : (_ : Option Value) = some (.int .i64 0) := Z.cell 3 (by simp)
        have z4 : (_ : Option Value) = some (.slice none 0 0) := Z.cell 4 (by simp)
        have z5 : (_ : Option Value) = some (.slice none 0 0) := Z.cell 5 (by simp)
        have hfz := fun j => Z.free j
        by_cases hk3 : kc = 3
        rotate_left
        · have hbk3 : (kc == 3) = false := by simpa using hk3
          have HD := Lib.hid (show imgOf L = none by rw [HI.out, decG_no HLT.out (by rw [HMG.out]; exact entB_no hk3 hk2) HG.out]; rfl)
          clear hk2 hk3
          go_wp2
          refine bodyPost_ret (v := .tuple #[.agg #[.int .i64 0, .int .i64 0, .int .i64 0, .int .i64 0, .slice none 0 0, .slice none 0 0], .bool false]) (by simp [results, Try.results35, go_sem, World.cell?_setCell_other, z0, z1, z2, z3, z4, z5]) rfl ⟨.slice none 0 0, .slice none 0 0, by rw [HD.out]; rfl, by rw [HD.out]; exact World.ownsRow_nil _ _ _ _, by rw [HD.out]; exact World.ownsRow_nil _ _ _ _, .inl rfl, (by with_reducible repeat (first | exact Below.refl _ _ | assumption | refine below_step ?_ (by assumption) | refine Below.drew ?_ | refine below_drewN ?_ _ | refine below_alloc ?_ _ | refine Below.setCell ?_ (by simp; try omega) _))⟩
        · subst hk3
          cases hnb1 : noteB dc
          · have HD := Lib.hid (show imgOf L = none by rw [HI.out, decG_no HLT.out (by rw [HMG.out, entB_note rfl hnb1]; rfl) HG.out]; rfl)
            rw [hnb1] at hvn
            clear hnb1
            go_wp2_with (go_at_call 27; refine (hvn _).mono ?_; rintro e w7 ⟨rfl, rfl⟩)
            refine bodyPost_ret (v := .tuple #[.agg #[.int .i64 0, .int .i64 0, .int .i64 0, .int .i64 0, .slice none 0 0, .slice none 0 0], .bool false]) (by simp [results, Try.results35, go_sem, World.cell?_setCell_other, z0, z1, z2, z3, z4, z5]) rfl ⟨.slice none 0 0, .slice none 0 0, by rw [HD.out]; rfl, by rw [HD.out]; exact World.ownsRow_nil _ _ _ _, by rw [HD.out]; exact World.ownsRow_nil _ _ _ _, .inl rfl, (by with_reducible repeat (first | exact Below.refl _ _ | assumption | refine below_step ?_ (by assumption) | refine Below.drew ?_ | refine below_drewN ?_ _ | refine below_alloc ?_ _ | refine Below.setCell ?_ (by simp; try omega) _))⟩
          · rw [hnb1] at hvn
            by_cases h8 : n.length < 8
            rotate_left
            · have HD := Lib.hid (show imgOf L = none by rw [HI.out, decG_no HLT.out (by rw [HMG.out, entB_note rfl hnb1, decide_eq_false h8]; rfl) HG.out]; rfl)
              have hge : ¬ (n.length : Int) < 8 := by omega
              clear hnb1 h8 hn8
              go_wp2_with (go_at_call 27; refine (hvn _).mono ?_; rintro e w7 ⟨rfl, rfl⟩)
              refine bodyPost_ret (v := .tuple #[.agg #[.int .i64 0, .int .i64 0, .int .i64 0, .int .i64 0, .slice none 0 0, .slice none 0 0], .bool false]) (by simp [results, Try.results35, go_sem, World.cell?_setCell_other, z0, z1, z2, z3, z4, z5]) rfl ⟨.slice none 0 0, .slice none 0 0, by rw [HD.out]; rfl, by rw [HD.out]; exact World.ownsRow_nil _ _ _ _, by rw [HD.out]; exact World.ownsRow_nil _ _ _ _, .inl rfl, (by with_reducible repeat (first | exact Below.refl _ _ | assumption | refine below_step ?_ (by assumption) | refine Below.drew ?_ | refine below_drewN ?_ _ | refine below_alloc ?_ _ | refine Below.setCell ?_ (by simp; try omega) _))⟩
            · have hN := decG_yes HLT.out (by rw [HMG.out, entB_note rfl hnb1, decide_eq_true h8]; rfl) HG.out
              rw [HMG.out, entL_no (by decide), entN_yes rfl hnb1 h8] at hN
              have HN := Lib.hid hN
              have hge : (n.length : Int) < 8 := by omega
              have hn9 : (n ++ [dc]).length ≤ 8 := by simp; omega
              have hby16 : 16 ≤ 1000 := by decide
              have hnbig : n.length ≤ 100000000 := by omega
              have hbs6 : base ≤ w6.heap.size := by have := Bq.size; have := HBE.out; omega
              have hgx6 := Fq.lt
              have hb6 := (World.ownsRow.lt (OOf Oq) b rfl).2
              have hlen1 : (n ++ [dc]).length = n.length + 1 := by simp
              have HL1 := Lib.hid hlen1
              clear hnb1 h8 hN hlen1 z0 z1 z2 z3 z4 z5 hfz
              go_wp2_with (first
                | (at_builtin; go_must (refine wpList_appF (f := fS) rfl _ _ 25 rfl eltStr hby16 (.slice B n.length q) n rfl (OOf Kq) _ _ dc _ rfl rfl rfl (oneStr dc) hnbig hbs6 ?_); intro v8 w8 K8 hg8 hat8 hbl8; obtain ⟨A5, c5, rfl⟩ := own_form K8; have F8 := (Fq.al (.cells #[.string dc] 9)).grown hg8 hgB; have O8 := World.ownsRow.kept (OO.al Oq (.cells #[.string dc] 9)) hg8 (.inr (fun e => hbB e.symm)); have g5 : (_ : Option Value) = some (.slice B n.length q) := F8.cell 5 (by simp); have hfz := fun j => F8.free j; have hg1 : (Value.slice A5 (n ++ [dc]).length c5).ownBlock ≠ some gx := (by rcases hat8 with h | h <;> rw [h] <;> first | exact hgB | (intro e; simp at e; omega)); have hb1 : (Value.slice A5 (n ++ [dc]).length c5).ownBlock ≠ some b := (by rcases hat8 with h | h <;> rw [h] <;> first | exact hbB | (intro e; simp at e; omega)); rw [HL1.out] at K8 hg1 hb1)
                | (go_at_call 27; refine (hvn _).mono ?_; rintro e w7 ⟨rfl, rfl⟩))
              go_roundw
              case rel => exact ⟨k + 1, l, n ++ [dc], A5, c5, HLT.out, rfl, hl, hn9, by rw [HL1.out]; exact F8.put 5 _, OO.putne O8 (a := ⟨gx, 5, none⟩) (by intro e; apply hgb; simpa [Value.ownBlock] using e.symm) _, by rw [HL1.out]; exact OO.putne K8 (a := ⟨gx, 5, none⟩) hg1 _, by rw [HL1.out]; exact hg1, by rw [HL1.out]; exact hb1, Below.setCell (Bq.trans hbl8) hbase _, HN⟩
              case measure => (have := HLT.out; have := HKL.out; simp [intOf]; omega)
    · have hkm : k = m2 := by omega
      subst hkm
      have hmi : ¬ (k : Int) < (k : Int) := by omega
      have HD := Lib.hid (show imgOf L = some ⟨c, h, P, s, l, n⟩ by rw [HI.out, decG_end hlt HG.out]; rfl)
      have f0 : (_ : Option Value) = some (.int .i64 c) := F.cell 0 (by simp)
      have f1 : (_ : Option Value) = some (.int .i64 h) := F.cell 1 (by simp)
      have f2 : (_ : Option Value) = some (.int .i64 (P : Int)) := F.cell 2 (by simp)
      have f3 : (_ : Option Value) = some (.int .i64 s) := F.cell 3 (by simp)
      have f4 : (_ : Option Value) = some (.slice (some ⟨b, 0, none⟩) NL cp) := F.cell 4 (by simp)
      have f5 : (_ : Option Value) = some (.slice B n.length q) := F.cell 5 (by simp)
      have Z := Zr
      have z0 : (_ : Option Value) = some (.int .i64 0) := Z.cell 0 (by simp)
      have z1 : (_ : Option Value) = some (.int .i64 0) := Z.cell 1 (by simp)
      have z2 : (_ : Option Value) = some (.int .i64 0) := Z.cell 2 (by simp)
      have z3 : (_ : Option Value) = some (.int .i64 0) := Z.cell 3 (by simp)
      have z4 : (_ : Option Value) = some (.slice none 0 0) := Z.cell 4 (by simp)
      have z5 : (_ : Option Value) = some (.slice none 0 0) := Z.cell 5 (by simp)
      have hfz := fun j => Z.free j
      have O' : World.ownsRow wr base 90 2 (.slice (some ⟨b, 0, none⟩) NL cp) l.length (flat fSector l) := by rw [hl]; exact O
      clear hmm hmk hlt hk hl hmm2
      go_wp2
      refine bodyPost_ret (v := .tuple #[.agg #[.int .i64 c, .int .i64 h, .int .i64 (P : Int), .int .i64 s, .slice (some ⟨b, 0, none⟩) NL cp, .slice B n.length q], .bool true]) (by simp [results, Try.results35, go_sem, World.cell?_setCell_other, z0, z1, z2, z3, z4, z5]) rfl ⟨.slice (some ⟨b, 0, none⟩) NL cp, .slice B n.length q, by rw [HD.out]; rfl, ?_, ?_, .inr (fun e => hbB e.symm), (by with_reducible repeat (first | exact Below.refl _ _ | assumption | refine below_step ?_ (by assumption) | refine Below.drew ?_ | refine below_drewN ?_ _ | refine below_alloc ?_ _ | refine Below.setCell ?_ (by simp; try omega) _))⟩
      · rw [HD.out]
        show World.ownsRow _ _ _ _ _ l.length (flat fSector l)
        exact own_base (ownsRow_setCell_below (ownsRow_setCell_below (ownsRow_setCell_below (ownsRow_setCell_below (ownsRow_setCell_below (ownsRow_setCell_below O' hz1 _) hz1 _) hz1 _) hz1 _) hz1 _) hz1 _) hz1'
      · rw [HD.out]
        show World.ownsRow _ _ _ _ _ n.length (flat fS n)
        exact own_base (ownsRow_setCell_below (ownsRow_setCell_below (ownsRow_setCell_below (ownsRow_setCell_below (ownsRow_setCell_below (ownsRow_setCell_below K hz1 _) hz1 _) hz1 _) hz1 _) hz1 _) hz1 _) hz1'

set_option maxRecDepth 100000 in
set_option maxHeartbeats 2000000 in
theorem impl_DecodeImage_any (t : ByteArray) (w : World) (ht : t.size ≤ 1048576) :
    Calls Try.prog 13 #[.string t] w fun e w' => ∃ v u, e = .returned (.tuple #[.agg #[.int .i64 (imD (decR t)).c, .int .i64 (imD (decR t)).h, .int .i64 (imD (decR t)).p, .int .i64 (imD (decR t)).s, v, u], .int .i64 (decC t)]) ∧ w'.ownsRow w.heap.size 90 2 v (imD (decR t)).l.length (flat fSector (imD (decR t)).l) ∧ w'.ownsRow w.heap.size 9 1 u (imD (decR t)).n.length (flat fS (imD (decR t)).n) ∧ (v.ownBlock = none ∨ v.ownBlock ≠ u.ownBlock) ∧ Below w.heap.size w w' := by
  have Z : BX (w.alloc (.cells #[.int .i64 0, .int .i64 0, .int .i64 0, .int .i64 0, .slice none 0 0, .slice none 0 0] 27)) w.heap.size 27 [.int .i64 0, .int .i64 0, .int .i64 0, .int .i64 0, .slice none 0 0, .slice none 0 0] := BX.made w 27 [.int .i64 0, .int .i64 0, .int .i64 0, .int .i64 0, .slice none 0 0, .slice none 0 0]
  have hB : BB w (w.alloc (.cells #[.int .i64 0, .int .i64 0, .int .i64 0, .int .i64 0, .slice none 0 0, .slice none 0 0] 27)) := (show Below w.heap.size w (w.alloc (.cells #[.int .i64 0, .int .i64 0, .int .i64 0, .int .i64 0, .slice none 0 0, .slice none 0 0] 27)) from (by with_reducible repeat (first | exact Below.refl _ _ | assumption | refine below_step ?_ (by assumption) | refine Below.drew ?_ | refine below_drewN ?_ _ | refine below_alloc ?_ _ | refine Below.setCell ?_ (by simp; try omega) _)))
  have hb2 : Below w.heap.size w (w.alloc (.cells #[.int .i64 0, .int .i64 0, .int .i64 0, .int .i64 0, .slice none 0 0, .slice none 0 0] 27)) := hB
  by_cases hbig : 8192 < t.size
  · have HD := Lib.hid (dec_1 hbig)
    have hbi : (8192 : Int) < (t.size : Int) := by omega
    have z0 : (_ : Option Value) = some (.int .i64 0) := Z.cell 0 (by simp)
    have z1 : (_ : Option Value) = some (.int .i64 0) := Z.cell 1 (by simp)
    have z2 : (_ : Option Value) = some (.int .i64 0) := Z.cell 2 (by simp)
    have z3 : (_ : Option Value) = some (.int .i64 0) := Z.cell 3 (by simp)
    have z4 : (_ : Option Value) = some (.slice none 0 0) := Z.cell 4 (by simp)
    have z5 : (_ : Option Value) = some (.slice none 0 0) := Z.cell 5 (by simp)
    have hfz := fun j => Z.free j
    clear hbig
    go_enter Try.func13, Try.ntmps13
    go_wp2
    refine bodyPost_ret (v := .tuple #[.agg #[.int .i64 0, .int .i64 0, .int .i64 0, .int .i64 0, .slice none 0 0, .slice none 0 0], .int .i64 5]) (by simp [results, Try.results13, go_sem, z0, z1, z2, z3, z4, z5]) rfl ⟨.slice none 0 0, .slice none 0 0, by rw [HD.out.1, HD.out.2]; rfl, by rw [HD.out.1]; exact World.ownsRow_nil _ _ _ _, by rw [HD.out.1]; exact World.ownsRow_nil _ _ _ _, .inl rfl, (by with_reducible repeat (first | exact Below.refl _ _ | assumption | refine below_step ?_ (by assumption) | refine Below.drew ?_ | refine below_drewN ?_ _ | refine below_alloc ?_ _ | refine Below.setCell ?_ (by simp; try omega) _))⟩
  have hbi : ¬ (8192 : Int) < (t.size : Int) := by omega
  have hdk := fun W => impl_DecodeChunks_any t W ht
  by_cases hn : dkN t = t.size
  rotate_left
  · have HD := Lib.hid (dec_2 hbig hn)
    have hne : (((dkN t : Nat) : Int) != (t.size : Int)) = true := by simpa using (by omega : ¬ ((dkN t : Nat) : Int) = (t.size : Int))
    generalize dkN t = N at hdk hne
    clear hbig hn hb2
    go_enter Try.func13, Try.ntmps13
    go_wp2_with (go_at_call 34; refine (hdk _).mono ?_; rintro e w1 ⟨v1, rfl, ho1, hx1⟩; replace Z := Z.below hx1 Z.lt; replace hB : BB w _ := BB.next hB hx1; have hb2 : Below w.heap.size w _ := hB; have z0 : (_ : Option Value) = some (.int .i64 0) := Z.cell 0 (by simp); have z1 : (_ : Option Value) = some (.int .i64 0) := Z.cell 1 (by simp); have z2 : (_ : Option Value) = some (.int .i64 0) := Z.cell 2 (by simp); have z3 : (_ : Option Value) = some (.int .i64 0) := Z.cell 3 (by simp); have z4 : (_ : Option Value) = some (.slice none 0 0) := Z.cell 4 (by simp); have z5 : (_ : Option Value) = some (.slice none 0 0) := Z.cell 5 (by simp); have hfz := fun j => Z.free j)
    refine bodyPost_ret (v := .tuple #[.agg #[.int .i64 0, .int .i64 0, .int .i64 0, .int .i64 0, .slice none 0 0, .slice none 0 0], .int .i64 8]) (by simp [results, Try.results13, go_sem, World.cell?_setCell_other, z0, z1, z2, z3, z4, z5]) rfl ⟨.slice none 0 0, .slice none 0 0, by rw [HD.out.1, HD.out.2]; rfl, by rw [HD.out.1]; exact World.ownsRow_nil _ _ _ _, by rw [HD.out.1]; exact World.ownsRow_nil _ _ _ _, .inl rfl, (by with_reducible repeat (first | exact Below.refl _ _ | assumption | refine below_step ?_ (by assumption) | refine Below.drew ?_ | refine below_drewN ?_ _ | refine below_alloc ?_ _ | refine Below.setCell ?_ (by simp; try omega) _))⟩
  have hneN : (((dkN t : Nat) : Int) != (t.size : Int)) = false := by simp [hn]
  have HD3 := Lib.hid (fun (i : imgOf (dkL t) = none) => dec_3 hbig hn i)
  have HD4 := Lib.hid (fun (x : Im) (i : imgOf (dkL t) = some x) => dec_4 hbig hn i)
  have hL40 := dkL_len t
  have hLin2 : ∀ x ∈ dkL t, x.f1.size ≤ 1048576 := fun x hx => Nat.le_trans (dkL_in t x hx) ht
  generalize dkL t = L at *
  generalize dkN t = N at hdk hneN
  have him := fun (v1 : Value) W (h : World.ownsRow W _ 47 2 v1 L.length (flat fChunk L)) => imageOf_any v1 (w.heap.size + 1) L W h hL40 hLin2
  clear hbig hn hb2
  cases hi : imgOf L with
  | none =>
    have HD := Lib.hid (HD3.out hi)
    rw [hi] at him
    clear hi
    go_enter Try.func13, Try.ntmps13
    go_wp2_with (first
      | (go_at_call 35; refine (him _ _ ho1).mono ?_; rintro e w2 ⟨v, u, rfl, O, K, ne, hx2⟩; obtain ⟨A2, c2, rfl⟩ := own_form O; obtain ⟨A3, c3, rfl⟩ := own_form K; replace Z := Z.below hx2 Z.lt; replace hB : BB w _ := BB.next hB hx2; have hb2 : Below w.heap.size w _ := hB; have ZA := fun o : Obj => BX.al Z o; have z0 := fun o : Obj => (ZA o).cell 0 (by simp); have z1 := fun o : Obj => (ZA o).cell 1 (by simp); have z2 := fun o : Obj => (ZA o).cell 2 (by simp); have z3 := fun o : Obj => (ZA o).cell 3 (by simp); have z4 := fun o : Obj => (ZA o).cell 4 (by simp); have z5 := fun o : Obj => (ZA o).cell 5 (by simp); have hfz := fun (o : Obj) j => (ZA o).free j)
      | (go_at_call 34; refine (hdk _).mono ?_; rintro e w1 ⟨v1, rfl, ho1, hx1⟩; replace ho1 := own_base (base' := w.heap.size + 1) ho1 (by simp); replace Z := Z.below hx1 Z.lt; replace hB : BB w _ := BB.next hB hx1))
    refine bodyPost_ret (v := .tuple #[.agg #[.int .i64 0, .int .i64 0, .int .i64 0, .int .i64 0, .slice none 0 0, .slice none 0 0], .int .i64 7]) (by simp [results, Try.results13, go_sem, World.cell?_setCell_other, z0, z1, z2, z3, z4, z5]) rfl ⟨.slice none 0 0, .slice none 0 0, by rw [HD.out.1, HD.out.2]; rfl, by rw [HD.out.1]; exact World.ownsRow_nil _ _ _ _, by rw [HD.out.1]; exact World.ownsRow_nil _ _ _ _, .inl rfl, (by with_reducible repeat (first | exact Below.refl _ _ | assumption | refine below_step ?_ (by assumption) | refine Below.drew ?_ | refine below_drewN ?_ _ | refine below_alloc ?_ _ | refine Below.setCell ?_ (by simp; try omega) _))⟩
  | some X =>
    have HD := Lib.hid (HD4.out X hi)
    rw [hi, show imD (some X) = X from rfl] at him
    clear hi
    go_enter Try.func13, Try.ntmps13
    go_wp2_with (first
      | (go_at_call 35; refine (him _ _ ho1).mono ?_; rintro e w2 ⟨v, u, rfl, O, K, ne, hx2⟩; have hz1 := Z.lt; obtain ⟨A2, c2, rfl⟩ := own_form O; obtain ⟨A3, c3, rfl⟩ := own_form K; replace Z := Z.below hx2 Z.lt; replace hB : BB w _ := BB.next hB hx2; have hb2 : Below w.heap.size w _ := hB; have ZA := fun o : Obj => BX.al Z o; have z0 := fun o : Obj => (ZA o).cell 0 (by simp); have z1 := fun o : Obj => (ZA o).cell 1 (by simp); have z2 := fun o : Obj => (ZA o).cell 2 (by simp); have z3 := fun o : Obj => (ZA o).cell 3 (by simp); have z4 := fun o : Obj => (ZA o).cell 4 (by simp); have z5 := fun o : Obj => (ZA o).cell 5 (by simp); have hfz := fun (o : Obj) j => (ZA o).free j)
      | (go_at_call 34; refine (hdk _).mono ?_; rintro e w1 ⟨v1, rfl, ho1, hx1⟩; replace ho1 := own_base (base' := w.heap.size + 1) ho1 (by simp); replace Z := Z.below hx1 Z.lt; replace hB : BB w _ := BB.next hB hx1))
    refine bodyPost_ret (v := .tuple #[.agg #[.int .i64 X.c, .int .i64 X.h, .int .i64 X.p, .int .i64 X.s, .slice A2 X.l.length c2, .slice A3 X.n.length c3], .int .i64 0]) (by simp [results, Try.results13, go_sem, World.cell?_setCell_other, z0, z1, z2, z3, z4, z5]) rfl ⟨.slice A2 X.l.length c2, .slice A3 X.n.length c3, by rw [HD.out.1, HD.out.2]; rfl, ?_, ?_, ne, (by with_reducible repeat (first | exact Below.refl _ _ | assumption | refine below_step ?_ (by assumption) | refine Below.drew ?_ | refine below_drewN ?_ _ | refine below_alloc ?_ _ | refine Below.setCell ?_ (by simp; try omega) _))⟩
    · rw [HD.out.1]
      exact own_base (ownsRow_setCell_below (ownsRow_setCell_below (ownsRow_setCell_below (ownsRow_setCell_below (ownsRow_setCell_below (ownsRow_setCell_below (OO.al O _) hz1 _) hz1 _) hz1 _) hz1 _) hz1 _) hz1 _) (Nat.le_of_lt hz1)
    · rw [HD.out.1]
      exact own_base (ownsRow_setCell_below (ownsRow_setCell_below (ownsRow_setCell_below (ownsRow_setCell_below (ownsRow_setCell_below (ownsRow_setCell_below (OO.al K _) hz1 _) hz1 _) hz1 _) hz1 _) hz1 _) hz1 _) (Nat.le_of_lt hz1)
end Go.Proofs.Ytjjcedodjoieoaa
namespace Go.Proofs.Ytjjcedodjoieoaa
set_option linter.unusedVariables false
open Go.RowKit

theorem miss_ok {s : Int} {nb : Nat} (h : szB s = (nb : Int)) : secX s (miss nb) = true := by
  have h1 : (szB s).toNat = nb := by rw [h]; exact Int.toNat_natCast nb
  rw [secX, h1, miss, sec_4 (zerosB_size nb) (by decide) rfl]
  simp
theorem img_ok {L : List DChunk} {X : Im} (h : imgOf L = some X) : okD X.c X.h X.p X.s X.l = true ∧ X.n.length ≤ 8 ∧ ∀ x ∈ X.n, noteB x = true := by
  unfold imgOf at h
  split at h
  · rename_i h2
    split at h
    · rename_i hg
      obtain ⟨⟨g1, g2⟩, g3, g4⟩ := hg
      obtain ⟨n1, n2, n3, n4, n5, n6, n7, n8, n9, n10, n11, n12, n13, n14⟩ := hd_nums g2
      unfold bodyOf at h
      cases hd : decG (hdT L[0].f1) (hdP L[0].f1) (hdNb L[0].f1) (hdS L[0].f1) (mid L) (hdL L[0].f1) [] with
      | none => rw [hd] at h; cases h
      | some r =>
        rw [hd] at h
        simp only [Option.map_some, Option.some.injEq] at h
        subst h
        have hn : ∀ x ∈ hdL L[0].f1, secX (hdS L[0].f1) x = true := by
          intro x hx
          unfold hdL newS at hx
          rw [(List.mem_replicate.1 hx).2]
          refine miss_ok (s := hdS L[0].f1) ?_
          rw [n11]
          rw [hdNb] at n7
          exact n7
        obtain ⟨k1, k2, k3, k4⟩ := decG_in _ _ _ r hd n9 hn (by simp) (by simp)
        refine ⟨okD_all ?_ ?_ ?_, k3, k4⟩
        · exact n12
        · show (r.1.length : Int) = (bt L[0].f1 3 : Int) * (bt L[0].f1 4 : Int) * (bt L[0].f1 5 : Int)
          rw [n1, n10, k1, Int.natCast_mul]
        · intro k hk
          exact k2 _ (List.getElem_mem hk)
    · cases h
  · cases h
theorem decR_img {t : ByteArray} {X : Im} (h : decR t = some X) : imgOf (dkL t) = some X ∧ decC t = 0 ∧ dkN t = t.size ∧ t.size ≤ 8192 := by
  unfold decR at h
  split at h
  · cases h
  · rename_i h1
    split at h
    · rename_i h2
      refine ⟨h, ?_, h2, by omega⟩
      unfold decC
      rw [if_neg h1, if_pos h2, h]
      rfl
    · cases h
theorem okD_len {c h p s : Int} {l : List DSector} (g : okD c h p s l = true) : l.length ≤ 128 := by
  obtain ⟨g1, g2, g3⟩ := okD_geo g
  obtain ⟨c1, c2, h1, h2, p1, p2, s1, s2⟩ := geoB_yes g1
  obtain ⟨m1, m2⟩ := prod2 c1 c2 h1 h2
  obtain ⟨q1, q2⟩ := prod3 m1 m2 p1 p2
  omega
theorem dec_lens (t : ByteArray) : (imD (decR t)).l.length ≤ 1048576 ∧ (imD (decR t)).n.length ≤ 1048576 := by
  cases h : decR t with
  | none => exact ⟨by show [].length ≤ _; simp, by show [].length ≤ _; simp⟩
  | some X =>
    obtain ⟨h1, h2, -⟩ := img_ok (decR_img h).1
    have := okD_len h1
    exact ⟨by show X.l.length ≤ _; omega, by show X.n.length ≤ _; omega⟩
theorem dec_none {t : ByteArray} (h : decR t = none) : decC t ≠ 0 := by
  unfold decR at h
  unfold decC
  split at h
  · rename_i h1; rw [if_pos h1]; decide
  · rename_i h1
    rw [if_neg h1]
    split at h
    · rename_i h2; rw [if_pos h2, h]; decide
    · rename_i h2; rw [if_neg h2]; decide
end Go.Proofs.Ytjjcedodjoieoaa
namespace Go.Proofs.Ytjjcedodjoieoaa
set_option linter.unusedVariables false
open Go.RowKit

/-- The container of the image of a container. -/
def cpS (t : ByteArray) : ByteArray := match decR t with | some X => imG X.c X.h X.p X.s X.l X.n | none => ⟨#[]⟩
theorem cpS_no {t : ByteArray} (h : decR t = none) : cpS t = ⟨#[]⟩ := by simp [cpS, h]
theorem cpS_yes {t : ByteArray} {X : Im} (h : decR t = some X) : cpS t = imG X.c X.h X.p X.s X.l X.n := by simp [cpS, h]
set_option maxRecDepth 100000 in
set_option maxHeartbeats 2000000 in
theorem spec_CompactContainer_any (t : ByteArray) (w : World) (ht : t.size ≤ 1048576) :
    Calls Try.prog 14 #[.string t] w fun e w' => e = .returned (.tuple #[.string (cpS t), .int .i64 (decC t)]) ∧ Below w.heap.size w w' := by
  have hq := fun W => l13Decode_any t W ht
  cases hr : decR t with
  | none =>
    have hne : (decC t != 0) = true := by simpa using dec_none hr
    have HR := Lib.hid (cpS_no hr)
    generalize imD (decR t) = X at *
    generalize decC t = code at *
    clear hr
    go_enter Try.func14, Try.ntmps14
    go_wp2_with (go_at_call 33; refine (hq _).mono ?_; rintro e w2 ⟨v, u, rfl, O, K, ne, hx2⟩; obtain ⟨A2, c2, rfl⟩ := own_form O; obtain ⟨A3, c3, rfl⟩ := own_form K)
    (try simp only [Exit.inBlock, Exit.then]); refine bodyPost_ret (results_tmp2 rfl _ _ _) rfl ?_
    exact ⟨by rw [HR.out]; rfl, (by with_reducible repeat (first | exact Below.refl _ _ | assumption | refine below_step ?_ (by assumption) | refine Below.drew ?_ | refine below_drewN ?_ _ | refine below_alloc ?_ _ | refine Below.setCell ?_ (by simp; try omega) _))⟩
  | some X =>
    obtain ⟨hi, hc, -, -⟩ := decR_img hr
    obtain ⟨hok, hn8, hnb⟩ := img_ok hi
    have HR := Lib.hid (cpS_yes hr)
    have HC := Lib.hid hc
    rw [hr, hc] at hq
    have hst := okD_st hok
    have hn40 : ∀ x ∈ X.n, x.size ≤ 40 := fun x hx => (noteB_size (hnb x hx)).2
    rw [show imD (some X) = X from rfl] at hq
    clear hr hi hc
    go_enter Try.func14, Try.ntmps14
    go_wp2_with (first
      | (go_at_call 36; have con := l13Image_any w2.heap.size X.c X.h X.p X.s A2 c2 X.l A3 c3 X.n (w2.alloc (.cells #[.int .i64 X.c, .int .i64 X.h, .int .i64 X.p, .int .i64 X.s, .slice A2 X.l.length c2, .slice A3 X.n.length c3] 27)) (CP.made w2 [.int .i64 X.c, .int .i64 X.h, .int .i64 X.p, .int .i64 X.s, .slice A2 X.l.length c2, .slice A3 X.n.length c3] 27) (Rd.of_own (OOf (OO.al O _))) (Rd.of_own (OOf (OO.al K _))) hok hst hn8 hn40; (with_reducible refine con.mono ?_); rintro e w3 ⟨rfl, hx3⟩)
      | (go_at_call 33; refine (hq _).mono ?_; rintro e w2 ⟨v, u, rfl, O, K, ne, hx2⟩; obtain ⟨A2, c2, rfl⟩ := own_form O; obtain ⟨A3, c3, rfl⟩ := own_form K))
    (try simp only [Exit.inBlock, Exit.then]); refine bodyPost_ret (results_tmp2 rfl _ _ _) rfl ?_
    exact ⟨by rw [HR.out, HC.out]; rfl, (by with_reducible repeat (first | exact Below.refl _ _ | assumption | refine below_step ?_ (by assumption) | refine Below.drew ?_ | refine below_drewN ?_ _ | refine below_alloc ?_ _ | refine Below.setCell ?_ (by simp; try omega) _))⟩
set_option maxRecDepth 100000 in
set_option maxHeartbeats 2000000 in
theorem impl_CompactContainer_any (t : ByteArray) (w : World) (ht : t.size ≤ 1048576) :
    Calls Try.prog 15 #[.string t] w fun e w' => e = .returned (.tuple #[.string (cpS t), .int .i64 (decC t)]) ∧ Below w.heap.size w w' := by
  have hq := fun W => impl_DecodeImage_any t W ht
  cases hr : decR t with
  | none =>
    have hne : (decC t != 0) = true := by simpa using dec_none hr
    have HR := Lib.hid (cpS_no hr)
    generalize imD (decR t) = X at *
    generalize decC t = code at *
    clear hr
    go_enter Try.func15, Try.ntmps15
    go_wp2_with (go_at_call 13; refine (hq _).mono ?_; rintro e w2 ⟨v, u, rfl, O, K, ne, hx2⟩; obtain ⟨A2, c2, rfl⟩ := own_form O; obtain ⟨A3, c3, rfl⟩ := own_form K)
    (try simp only [Exit.inBlock, Exit.then]); refine bodyPost_ret (results_tmp2 rfl _ _ _) rfl ?_
    exact ⟨by rw [HR.out]; rfl, (by with_reducible repeat (first | exact Below.refl _ _ | assumption | refine below_step ?_ (by assumption) | refine Below.drew ?_ | refine below_drewN ?_ _ | refine below_alloc ?_ _ | refine Below.setCell ?_ (by simp; try omega) _))⟩
  | some X =>
    obtain ⟨hi, hc, -, -⟩ := decR_img hr
    obtain ⟨hok, hn8, hnb⟩ := img_ok hi
    have HR := Lib.hid (cpS_yes hr)
    have HC := Lib.hid hc
    rw [hr, hc] at hq
    have hn40 : ∀ x ∈ X.n, x.size ≤ 40 := fun x hx => (noteB_size (hnb x hx)).2
    rw [show imD (some X) = X from rfl] at hq
    clear hr hi hc
    go_enter Try.func15, Try.ntmps15
    go_wp2_with (first
      | (go_at_call 37; have con := encodeImage_any X.c X.h X.p X.s A2 c2 X.l A3 c3 X.n (w2.alloc (.cells #[.int .i64 X.c, .int .i64 X.h, .int .i64 X.p, .int .i64 X.s, .slice A2 X.l.length c2, .slice A3 X.n.length c3] 27)) (RR.own (OOf (OO.al O _))) (RR.own (OOf (OO.al K _))) hok (own_cap O) hn8 hn40; (with_reducible refine con.mono ?_); rintro e w3 ⟨rfl, hx3⟩)
      | (go_at_call 13; refine (hq _).mono ?_; rintro e w2 ⟨v, u, rfl, O, K, ne, hx2⟩; obtain ⟨A2, c2, rfl⟩ := own_form O; obtain ⟨A3, c3, rfl⟩ := own_form K))
    (try simp only [Exit.inBlock, Exit.then]); refine bodyPost_ret (results_tmp2 rfl _ _ _) rfl ?_
    exact ⟨by rw [HR.out, HC.out]; rfl, (by with_reducible repeat (first | exact Below.refl _ _ | assumption | refine below_step ?_ (by assumption) | refine Below.drew ?_ | refine below_drewN ?_ _ | refine below_alloc ?_ _ | refine Below.setCell ?_ (by simp; try omega) _))⟩
end Go.Proofs.Ytjjcedodjoieoaa
namespace Go.Proofs.Ytjjcedodjoieoaa
set_option linter.unusedVariables false
open Go.RowKit

theorem ba_ext {a b : ByteArray} (h : a.size = b.size) (g : ∀ k, k < a.size → bt a k = bt b k) : a = b := by
  apply ByteArray.ext
  apply Array.ext
  · exact h
  · intro i h1 h2
    have h3 : i < a.size := h1
    have h4 := g i h3
    rw [← bt_eq a i h3, ← bt_eq b i (by rw [← h]; exact h3)] at h4
    exact UInt8.toNat_inj.1 h4
theorem bt_ext (s : ByteArray) (a b k : Nat) (h : a + k < b) (hb : b ≤ s.size) : bt (s.extract a b) k = bt s (a + k) := by
  have h1 : k < (s.extract a b).size := by rw [ByteArray.size_extract]; omega
  rw [← bt_eq _ k h1, ← bt_eq s (a + k) (by omega)]
  exact congrArg UInt8.toNat (ByteArray.getElem_extract h1)
/-- A chunk's parts. -/
theorem dcAt_parts {s : ByteArray} {a k m : Nat} {d : ByteArray} (h : dcAt s a = some (k, d, m)) (ha : a ≤ s.size) : a + m ≤ s.size ∧ m = d.size + 5 ∧ bt s a = k ∧ wd s (a + 1) = d.size ∧ s.extract (a + 3) (a + 3 + d.size) = d ∧ crcOf (s.extract a (a + 3 + d.size)) 65535 = wd s (a + 3 + d.size) := by
  by_cases h5 : s.size < a + 5
  · rw [dcAt_1 h5] at h; cases h
  have h5 : a + 5 ≤ s.size := by omega
  obtain ⟨n, hn⟩ : ∃ n, wd s (a + 1) = n := ⟨_, rfl⟩
  by_cases h2 : n ≤ 8192 ∧ a + 3 + n + 2 ≤ s.size
  · by_cases h3 : okChunk (bt s a : Int) (s.extract (a + 3) (a + 3 + n)) = true ∧ crcOf (s.extract a (a + 3 + n)) 65535 = wd s (a + 3 + n)
    · rw [dcAt_4 h5 hn h2.1 h2.2 h3] at h
      simp only [Option.some.injEq, Prod.mk.injEq] at h
      obtain ⟨rfl, rfl, rfl⟩ := h
      have hsz : (s.extract (a + 3) (a + 3 + n)).size = n := by rw [ByteArray.size_extract]; omega
      rw [hsz]
      exact ⟨by omega, rfl, rfl, hn, rfl, h3.2⟩
    · rw [dcAt_3 h5 hn h2.2 h3] at h; cases h
  · rw [dcAt_2 h5 hn h2] at h; cases h
/-- The last chunk ends where the chunks end. -/
theorem dkG_last (s : ByteArray) : ∀ (f a : Nat), a ≤ s.size → (dkG s f a).1 ≠ [] → ∃ b k d m, a ≤ b ∧ b ≤ s.size ∧ dcAt s b = some (k, d, m) ∧ b + m = (dkG s f a).2 ∧ (dkG s f a).1.getLast? = some ⟨(k : Int), d⟩
  | 0, a, _, h => absurd rfl h
  | f + 1, a, ha, h => by
    cases hd : dcAt s a with
    | none => rw [dkG_no hd] at h; exact absurd rfl h
    | some y =>
      obtain ⟨k, d, m⟩ := y
      obtain ⟨h1, h2⟩ := dcAt_le hd ha
      by_cases hnil : (dkG s f (a + m)).1 = []
      · refine ⟨a, k, d, m, Nat.le_refl _, ha, hd, ?_, ?_⟩
        · rw [dkG_yes hd]
          show a + m = (dkG s f (a + m)).2
          cases f with
          | zero => rfl
          | succ f =>
            cases hd2 : dcAt s (a + m) with
            | none => rw [dkG_no hd2]
            | some y2 =>
              obtain ⟨k2, d2, m2⟩ := y2
              rw [dkG_yes hd2] at hnil
              cases hnil
        · rw [dkG_yes hd, hnil]
          rfl
      · obtain ⟨b, k', d', m', g1, g2, g3, g4, g5⟩ := dkG_last s f (a + m) h1 hnil
        refine ⟨b, k', d', m', by omega, g2, g3, ?_, ?_⟩
        · rw [dkG_yes hd]; exact g4
        · rw [dkG_yes hd, List.getLast?_cons, g5]; rfl
theorem str_empty2 {d : ByteArray} (h : d.size = 0) : d = ⟨#[]⟩ := by
  apply ByteArray.ext
  exact Array.eq_empty_of_size_eq_zero h
theorem headB_nil (k : Nat) : (headB k ⟨#[]⟩).size = 3 := by rw [headB_size]; rfl
theorem bt_app_l (a b : ByteArray) (k : Nat) (h : k < a.size) : bt (a ++ b) k = bt a k := by
  unfold bt
  rw [ByteArray.data_append, Array.toList_append]
  congr 1
  rw [List.getD_eq_getElem?_getD, List.getD_eq_getElem?_getD, List.getElem?_append_left (by rw [Array.length_toList]; exact h)]
theorem bt_app_r (a b : ByteArray) (k : Nat) : bt (a ++ b) (a.size + k) = bt b k := by
  have h : a.data.toList.length = a.size := by rw [Array.length_toList]; rfl
  unfold bt
  rw [ByteArray.data_append, Array.toList_append]
  congr 1
  rw [List.getD_eq_getElem?_getD, List.getD_eq_getElem?_getD, List.getElem?_append_right (by omega), h, Nat.add_sub_cancel_left]
theorem wordB_0 (x y : Nat) (hx : x < 256) (hy : y < 256) : bt (wordB (x * 256 + y)) 0 = x := by
  show (UInt8.ofNat ((x * 256 + y) / 256)).toNat = x
  rw [UInt8.toNat_ofNat']
  omega
theorem wordB_1 (x y : Nat) (hx : x < 256) (hy : y < 256) : bt (wordB (x * 256 + y)) 1 = y := by
  show (UInt8.ofNat ((x * 256 + y) % 256)).toNat = y
  rw [UInt8.toNat_ofNat']
  omega
theorem crc_nil (s : ByteArray) (a : Nat) (h : dcAt s a = some (4, ⟨#[]⟩, 5)) (ha : a + 5 = s.size) : s.extract a s.size = encB 4 ⟨#[]⟩ := by
  obtain ⟨h1, h2, h3, h4, h5, h6⟩ := dcAt_parts h (by omega)
  have hz : (⟨#[]⟩ : ByteArray).size = 0 := rfl
  rw [hz] at h4 h6
  have hw := wd_lt s (a + 3)
  have b1 := bt_lt s (a + 1)
  have b2 := bt_lt s (a + 2)
  have b3 := bt_lt s (a + 3)
  have b4 := bt_lt s (a + 4)
  unfold wd at h4 h6
  rw [show a + 1 + 1 = a + 2 by omega] at h4
  rw [Nat.add_zero, show a + 3 + 1 = a + 4 by omega] at h6
  have e1 : bt s (a + 1) = 0 := by omega
  have e2 : bt s (a + 2) = 0 := by omega
  have hhd : s.extract a (a + 3) = headB 4 ⟨#[]⟩ := by
    apply ba_ext
    · rw [headB_nil, ByteArray.size_extract]; omega
    · intro k hk
      rw [ByteArray.size_extract] at hk
      rw [bt_ext s a (a + 3) k (by omega) (by omega)]
      have hk3 : k = 0 ∨ k = 1 ∨ k = 2 := by omega
      rcases hk3 with rfl | rfl | rfl
      · rw [Nat.add_zero, h3]; rfl
      · rw [e1]; rfl
      · rw [e2]; rfl
  rw [hhd] at h6
  apply ba_ext
  · rw [encB_size, ByteArray.size_extract, hz]; omega
  · intro k hk
    rw [ByteArray.size_extract] at hk
    rw [bt_ext s a s.size k (by omega) (Nat.le_refl _)]
    by_cases hk3 : k < 3
    · rw [encB, bt_app_l _ _ _ (by rw [headB_nil]; exact hk3), ← hhd, bt_ext s a (a + 3) k (by omega) (by omega)]
    · obtain ⟨j, rfl⟩ : ∃ j, k = 3 + j := ⟨k - 3, by omega⟩
      have hr := bt_app_r (headB 4 ⟨#[]⟩) (wordB (crcOf (headB 4 ⟨#[]⟩) 65535)) j
      rw [headB_nil] at hr
      rw [encB, hr]
      have hc : crcOf (headB 4 ⟨#[]⟩) 65535 < 65536 := by rw [h6]; omega
      rw [h6] at hc ⊢
      have hj : j = 0 ∨ j = 1 := by omega
      rcases hj with rfl | rfl
      · rw [show a + (3 + 0) = a + 3 by omega]
        exact (wordB_0 (bt s (a + 3)) (bt s (a + 4)) b3 b4).symm
      · rw [show a + (3 + 1) = a + 4 by omega]
        exact (wordB_1 (bt s (a + 3)) (bt s (a + 4)) b3 b4).symm
theorem getLast_get {L : List DChunk} (h : 0 < L.length) : L.getLast? = some L[L.length - 1] := by
  rw [List.getLast?_eq_getElem?, List.getElem?_eq_getElem (by omega)]
/-- A container that has an image ends with its end. -/
theorem dec_end {t : ByteArray} {X : Im} (h : decR t = some X) : 5 ≤ t.size ∧ t.extract (t.size - 5) t.size = encB 4 ⟨#[]⟩ := by
  obtain ⟨hi, -, hn, hs⟩ := decR_img h
  unfold imgOf at hi
  split at hi
  · rename_i h2
    split at hi
    · rename_i hg
      obtain ⟨-, g3, g4⟩ := hg
      have hne : (dkG t 40 0).1 ≠ [] := by
        intro e
        have : (dkL t).length = 0 := by unfold dkL; rw [e]; rfl
        omega
      obtain ⟨b, k, d, m, -, h2b, h3, h4, h5⟩ := dkG_last t 40 0 (Nat.zero_le _) hne
      have h6 := getLast_get (L := dkL t) (by omega)
      rw [show (dkL t).getLast? = some ⟨(k : Int), d⟩ from h5] at h6
      injection h6 with h6
      rw [← h6] at g3 g4
      have hk : k = 4 := by have : (k : Int) = 4 := g3; omega
      have hd : d = ⟨#[]⟩ := str_empty2 g4
      subst hk hd
      obtain ⟨p1, p2, -⟩ := dcAt_parts h3 h2b
      have hm : m = 5 := p2
      subst hm
      have hb : b + 5 = t.size := by
        have : (dkG t 40 0).2 = t.size := hn
        omega
      refine ⟨by omega, ?_⟩
      rw [show t.size - 5 = b by omega]
      exact crc_nil t b h3 hb
    · cases hi
  · cases hi
theorem trim_end {t e : ByteArray} (h1 : e.size ≤ t.size) (h : t.extract (t.size - e.size) t.size = e) : (⟨(Lib.trimSuffix t.data.toList e.data.toList).toArray⟩ : ByteArray) = t.extract 0 (t.size - e.size) := by
  have hl : t.data.toList.length = t.size := by rw [Array.length_toList]; rfl
  have he : e.data.toList.length = e.size := by rw [Array.length_toList]; rfl
  have h2 : t.data.toList.drop (t.size - e.size) = e.data.toList := by
    have h3 := congrArg (fun x : ByteArray => x.data.toList) h
    simp only [ByteArray.data_extract, Array.toList_extract, List.extract_eq_drop_take'] at h3
    rw [← h3, List.take_of_length_le (by omega)]
  have h3 : Lib.hasSuffix t.data.toList e.data.toList = true := by
    rw [Lib.hasSuffix, List.isSuffixOf_iff_suffix, ← h2]
    exact List.drop_suffix _ _
  rw [Lib.trimSuffix, if_pos h3]
  apply ByteArray.ext
  apply Array.toList_inj.1
  simp only [ByteArray.data_extract, Array.toList_extract, List.extract_eq_drop_take', List.drop_zero]
  rw [hl, he]
end Go.Proofs.Ytjjcedodjoieoaa
namespace Go.Proofs.Ytjjcedodjoieoaa
set_option linter.unusedVariables false
open Go.RowKit

def sameL {α : Type} (q : α → α → Bool) : List α → List α → Bool
  | [], [] => true
  | x :: l, y :: m => q x y && sameL q l m
  | _, _ => false
section
variable {α : Type} {q : α → α → Bool}
theorem sameL_len : ∀ (l m : List α), ¬ l.length = m.length → sameL q l m = false
  | [], [], h => absurd rfl h
  | [], _ :: _, _ => rfl
  | _ :: _, [], _ => rfl
  | x :: l, y :: m, h => by
    have := sameL_len l m (fun e => h (by simp [e]))
    simp [sameL, this]
theorem sameL_bad : ∀ (l m : List α) (k : Nat) (h1 : k < l.length) (h2 : k < m.length), q l[k] m[k] = false → sameL q l m = false
  | [], _, k, h1, _, _ => absurd h1 (by simp)
  | _ :: _, [], k, _, h2, _ => absurd h2 (by simp)
  | x :: l, y :: m, 0, _, _, h => by
    have : q x y = false := h
    simp [sameL, this]
  | x :: l, y :: m, k + 1, h1, h2, h => by
    have := sameL_bad l m k (by simpa using h1) (by simpa using h2) h
    simp [sameL, this]
theorem sameL_all : ∀ (l m : List α), l.length = m.length → (∀ k (h1 : k < l.length) (h2 : k < m.length), q l[k] m[k] = true) → sameL q l m = true
  | [], [], _, _ => rfl
  | [], _ :: _, h, _ => by simp at h
  | _ :: _, [], h, _ => by simp at h
  | x :: l, y :: m, h, ha => by
    have h0 : q x y = true := ha 0 (by simp) (by simp)
    have := sameL_all l m (by simpa using h) (fun k h1 h2 => ha (k + 1) (by simpa using h1) (by simpa using h2))
    simp [sameL, h0, this]
end
theorem all_next {p : Nat → Prop} {k : Nat} (h : ∀ j, j < k → p j) (hk : p k) : ∀ j, j < k + 1 → p j := fun j hj => by
  rcases Nat.lt_or_ge j k with h1 | h1
  · exact h j h1
  · obtain rfl : j = k := by omega
    exact hk
theorem quiet_draw {P : Program} {f : FuncId} {args : Array Value} {w : World} {n : Nat} {v : Value}
    (h : Calls P f args (w.drewN n) fun e w' => e = .returned v ∧ ∃ k, w' = (w.drewN n).drewN k) : Calls P f args (w.drewN n) fun e w'' => e = .returned v ∧ ∃ m, w'' = w.drewN m :=
  h.mono fun _ _ ⟨he, k, hk⟩ => ⟨he, n + k, by rw [hk, World.drewN_drewN]⟩
def qStr (x y : ByteArray) : Bool := x.toList == y.toList
def qInt (x y : Int) : Bool := x == y
def qSec (x y : DSector) : Bool := (x.f0.toList == y.f0.toList) && x.f1 == y.f1

end Go.Proofs.Ytjjcedodjoieoaa
namespace Go.Proofs.Ytjjcedodjoieoaa
set_option linter.unusedVariables false
open Go.RowKit

def alikeB (c h p s c' h' p' s' : Int) : Bool := (c == c') && (h == h') && (p == p') && (s == s')
theorem alike_1 {c h p s c' h' p' s' : Int} (g : (c == c') = false) : alikeB c h p s c' h' p' s' = false := by simp only [alikeB, g, Bool.false_and]
theorem alike_2 {c h p s c' h' p' s' : Int} (g : (h == h') = false) : alikeB c h p s c' h' p' s' = false := by simp only [alikeB, g, Bool.false_and, Bool.and_false]
theorem alike_3 {c h p s c' h' p' s' : Int} (g : (p == p') = false) : alikeB c h p s c' h' p' s' = false := by simp only [alikeB, g, Bool.false_and, Bool.and_false]
theorem alike_4 {c h p s c' h' p' s' : Int} (g1 : (c == c') = true) (g2 : (h == h') = true) (g3 : (p == p') = true) : alikeB c h p s c' h' p' s' = (s == s') := by simp only [alikeB, g1, g2, g3, Bool.true_and]

set_option maxRecDepth 100000 in
set_option maxHeartbeats 1000000 in
theorem l12Alike_any (g g' : Nat) (c h p s c' h' p' s' : Int) (v v' : Value) (w : World) (hd : DP w g c h p s v) (hd' : DP w g' c' h' p' s' v') :
    Calls Try.prog 40 #[.pointer (some ⟨g, 0, none⟩), .pointer (some ⟨g', 0, none⟩)] w fun e w' => e = .returned (.bool (alikeB c h p s c' h' p' s')) ∧ ∃ n, w' = w.drewN n := by
  obtain ⟨d0, d1, d2, d3, d4⟩ := hd
  obtain ⟨e0, e1, e2, e3, e4⟩ := hd'
  cases g1 : (c == c')
  · have HR := Lib.hid (alike_1 (h := h) (p := p) (s := s) (h' := h') (p' := p') (s' := s') g1)
    go_enter Try.func40, Try.ntmps40
    go_wp2_with fail
    go_quiet (fail)
    go_wp2
    go_ret
    exact ⟨ret_bool HR.out.symm, _, rfl⟩
  cases g2 : (h == h')
  · have HR := Lib.hid (alike_2 (c := c) (p := p) (s := s) (c' := c') (p' := p') (s' := s') g2)
    go_enter Try.func40, Try.ntmps40
    go_wp2_with fail
    go_quiet (fail)
    go_wp2
    go_ret
    exact ⟨ret_bool HR.out.symm, _, rfl⟩
  cases g3 : (p == p')
  · have HR := Lib.hid (alike_3 (c := c) (h := h) (s := s) (c' := c') (h' := h') (s' := s') g3)
    go_enter Try.func40, Try.ntmps40
    go_wp2_with fail
    go_quiet (fail)
    go_wp2
    go_ret
    exact ⟨ret_bool HR.out.symm, _, rfl⟩
  have HR := Lib.hid (alike_4 (s := s) (s' := s') g1 g2 g3)
  cases g4 : (s == s')
  all_goals
    have HR2 := Lib.hid (HR.out.trans g4)
    go_enter Try.func40, Try.ntmps40
    go_wp2_with fail
    go_quiet (fail)
    go_wp2
    go_ret
    exact ⟨ret_bool HR2.out.symm, _, rfl⟩

set_option maxRecDepth 100000 in
set_option maxHeartbeats 1000000 in
theorem sameGeometry_any (c h p s c' h' p' s' : Int) (v v' : Value) (w : World) (hv : v.oneCell' = true) (hv' : v'.oneCell' = true) :
    Calls Try.prog 47 #[.agg #[.int .i64 c, .int .i64 h, .int .i64 p, .int .i64 s, v], .agg #[.int .i64 c', .int .i64 h', .int .i64 p', .int .i64 s', v']] w fun e w' => e = .returned (.bool (alikeB c h p s c' h' p' s')) ∧ Below w.heap.size w w' := by
  cases g1 : (c == c')
  · have HR := Lib.hid (alike_1 (h := h) (p := p) (s := s) (h' := h') (p' := p') (s' := s') g1)
    go_enter Try.func47, Try.ntmps47
    go_wp2
    go_ret
    exact ⟨ret_bool HR.out.symm, (by with_reducible repeat (first | exact Below.refl _ _ | assumption | refine below_step ?_ (by assumption) | refine Below.drew ?_ | refine below_drewN ?_ _ | refine below_alloc ?_ _ | refine Below.setCell ?_ (by simp; try omega) _))⟩
  cases g2 : (h == h')
  · have HR := Lib.hid (alike_2 (c := c) (p := p) (s := s) (c' := c') (p' := p') (s' := s') g2)
    go_enter Try.func47, Try.ntmps47
    go_wp2
    go_ret
    exact ⟨ret_bool HR.out.symm, (by with_reducible repeat (first | exact Below.refl _ _ | assumption | refine below_step ?_ (by assumption) | refine Below.drew ?_ | refine below_drewN ?_ _ | refine below_alloc ?_ _ | refine Below.setCell ?_ (by simp; try omega) _))⟩
  cases g3 : (p == p')
  · have HR := Lib.hid (alike_3 (c := c) (h := h) (s := s) (c' := c') (h' := h') (s' := s') g3)
    go_enter Try.func47, Try.ntmps47
    go_wp2
    go_ret
    exact ⟨ret_bool HR.out.symm, (by with_reducible repeat (first | exact Below.refl _ _ | assumption | refine below_step ?_ (by assumption) | refine Below.drew ?_ | refine below_drewN ?_ _ | refine below_alloc ?_ _ | refine Below.setCell ?_ (by simp; try omega) _))⟩
  have HR := Lib.hid (alike_4 (s := s) (s' := s') g1 g2 g3)
  cases g4 : (s == s')
  all_goals
    have HR2 := Lib.hid (HR.out.trans g4)
    go_enter Try.func47, Try.ntmps47
    go_wp2
    go_ret
    exact ⟨ret_bool HR2.out.symm, (by with_reducible repeat (first | exact Below.refl _ _ | assumption | refine below_step ?_ (by assumption) | refine Below.drew ?_ | refine below_drewN ?_ _ | refine below_alloc ?_ _ | refine Below.setCell ?_ (by simp; try omega) _))⟩
end Go.Proofs.Ytjjcedodjoieoaa
namespace Go.Proofs.Ytjjcedodjoieoaa
set_option linter.unusedVariables false
open Go.RowKit

set_option maxHeartbeats 400000 in
theorem hasTrack_int (c h s : Int) (P T : Nat) (t : Int) (A : Option Addr) (n cp : Nat) (w : World) (hT : c * h = (T : Int)) (hT16 : T ≤ 128) :
    Calls Try.prog 48 #[.agg #[.int .i64 c, .int .i64 h, .int .i64 (P : Int), .int .i64 s, .slice A n cp], .int .i64 t] w fun e w' => e = .returned (.bool (inB t 0 ((T : Int) - 1))) ∧ Below w.heap.size w w' := by
  have hw : IntKind.i64.wrap (c * h) = (T : Int) := by rw [hT]; exact IntWalk.i64_in _ (by omega)
  have hw2 : IntKind.i64.wrap ((T : Int) - 1) = (T : Int) - 1 := IntWalk.i64_in _ (by omega)
  clear hT
  go_enter Try.func48, Try.ntmps48
  go_wp2_with (go_at_call 87; refine (within_any _ _ _ _).mono ?_; rintro e w1 ⟨rfl, rfl⟩)
  go_ret
  exact ⟨rfl, (by with_reducible repeat (first | exact Below.refl _ _ | assumption | refine below_step ?_ (by assumption) | refine Below.drew ?_ | refine below_drewN ?_ _ | refine below_alloc ?_ _ | refine Below.setCell ?_ (by simp; try omega) _))⟩

/-- The container with a track before its end. -/
def atB (t : ByteArray) (l : List DSector) (P k : Nat) : ByteArray := (t.extract 0 (t.size - 5) ++ encB 2 (tkB k (trS l P k))) ++ encB 4 ⟨#[]⟩
/-- The answer of AppendTrack. -/
def atR (t : ByteArray) (c h p s : Int) (l : List DSector) (k : Int) : ByteArray × Int :=
  if okD c h p s l = true then
    match decR t with
    | none => (⟨#[]⟩, decC t)
    | some X =>
      if alikeB X.c X.h X.p X.s c h p s = true then
        if inB k 0 (c * h - 1) = true then
          if 40 ≤ (dkL t).length then (⟨#[]⟩, 5) else if 8192 < (atB t l p.toNat k.toNat).size then (⟨#[]⟩, 5) else (atB t l p.toNat k.toNat, 0)
        else (⟨#[]⟩, 2)
      else (⟨#[]⟩, 6)
  else (⟨#[]⟩, 1)
section
variable {t : ByteArray} {c h p s : Int} {l : List DSector} {k : Int} {X : Im}
theorem at_1 (g : okD c h p s l = false) : atR t c h p s l k = (⟨#[]⟩, 1) := by unfold atR; rw [if_neg (by rw [g]; decide)]
theorem at_2 (g : okD c h p s l = true) (d : decR t = none) : atR t c h p s l k = (⟨#[]⟩, decC t) := by unfold atR; rw [if_pos g, d]
theorem at_3 (g : okD c h p s l = true) (d : decR t = some X) (a : alikeB X.c X.h X.p X.s c h p s = false) : atR t c h p s l k = (⟨#[]⟩, 6) := by
  unfold atR; rw [if_pos g, d]; simp only; rw [if_neg (by rw [a]; decide)]
theorem at_4 (g : okD c h p s l = true) (d : decR t = some X) (a : alikeB X.c X.h X.p X.s c h p s = true) (i : inB k 0 (c * h - 1) = false) : atR t c h p s l k = (⟨#[]⟩, 2) := by
  unfold atR; rw [if_pos g, d]; simp only; rw [if_pos a, if_neg (by rw [i]; decide)]
theorem at_5 (g : okD c h p s l = true) (d : decR t = some X) (a : alikeB X.c X.h X.p X.s c h p s = true) (i : inB k 0 (c * h - 1) = true) (f : 40 ≤ (dkL t).length) : atR t c h p s l k = (⟨#[]⟩, 5) := by
  unfold atR; rw [if_pos g, d]; simp only; rw [if_pos a, if_pos i, if_pos f]
theorem at_6 (g : okD c h p s l = true) (d : decR t = some X) (a : alikeB X.c X.h X.p X.s c h p s = true) (i : inB k 0 (c * h - 1) = true) (f : ¬ 40 ≤ (dkL t).length) (z : 8192 < (atB t l p.toNat k.toNat).size) : atR t c h p s l k = (⟨#[]⟩, 5) := by
  unfold atR; rw [if_pos g, d]; simp only; rw [if_pos a, if_pos i, if_neg f, if_pos z]
theorem at_7 (g : okD c h p s l = true) (d : decR t = some X) (a : alikeB X.c X.h X.p X.s c h p s = true) (i : inB k 0 (c * h - 1) = true) (f : ¬ 40 ≤ (dkL t).length) (z : ¬ 8192 < (atB t l p.toNat k.toNat).size) : atR t c h p s l k = (atB t l p.toNat k.toNat, 0) := by
  unfold atR; rw [if_pos g, d]; simp only; rw [if_pos a, if_pos i, if_neg f, if_neg z]
end
theorem okD_z32 {c h p s : Int} {l : List DSector} (hok : okD c h p s l = true) : ∀ k, (hk : k < l.length) → l[k].f0.size ≤ 32 ∧ 0 ≤ l[k].f1 ∧ l[k].f1 ≤ 255 := by
  obtain ⟨hg, hl, hall⟩ := okD_geo hok
  obtain ⟨c1, c2, h1, h2, p1, p2, s1, s2⟩ := geoB_yes hg
  obtain ⟨nb, y1, y2, y3, y4⟩ := szB_nat s1 s2
  intro k hk
  have h9 := okD_st hok l[k] (List.getElem_mem hk)
  have h5 := hall k hk
  have h6 : l[k].f0.size = (szB s).toNat := by
    unfold secX secB at h5
    simp only [Bool.and_eq_true, decide_eq_true_eq] at h5
    first | exact h5.1.1 | exact h5.1 | exact h5.1.1.1
  exact ⟨by omega, h9.1, h9.2⟩

set_option maxRecDepth 100000 in
set_option maxHeartbeats 4000000 in
theorem spec_AppendTrack_any (t : ByteArray) (c h p s : Int) (A : Option Addr) (cp : Nat) (l : List DSector) (k : Int) (w : World) (ht : t.size ≤ 1048576) (hr : RR w 2 A l.length (flat fSector l)) (hn : l.length ≤ 1048576) (hok : ∀ x ∈ l, okSector x) (hcp : l.length ≤ cp) :
    Calls Try.prog 17 #[.string t, .agg #[.int .i64 c, .int .i64 h, .int .i64 p, .int .i64 s, .slice A l.length cp], .int .i64 k] w fun e w' => e = .returned (.tuple #[.string (atR t c h p s l k).1, .int .i64 (atR t c h p s l k).2]) ∧ Below w.heap.size w w' := by
  have D0 : DP (w.alloc (.cells #[.int .i64 c, .int .i64 h, .int .i64 p, .int .i64 s, .slice A l.length cp] 24)) w.heap.size c h p s (.slice A l.length cp) := DP.made w c h p s _ 24
  have hB : BB w (w.alloc (.cells #[.int .i64 c, .int .i64 h, .int .i64 p, .int .i64 s, .slice A l.length cp] 24)) := (show Below w.heap.size w (w.alloc (.cells #[.int .i64 c, .int .i64 h, .int .i64 p, .int .i64 s, .slice A l.length cp] 24)) from (by with_reducible repeat (first | exact Below.refl _ _ | assumption | refine below_step ?_ (by assumption) | refine Below.drew ?_ | refine below_drewN ?_ _ | refine below_alloc ?_ _ | refine Below.setCell ?_ (by simp; try omega) _)))
  have hr0 : Rd (w.alloc (.cells #[.int .i64 c, .int .i64 h, .int .i64 p, .int .i64 s, .slice A l.length cp] 24)) (w.alloc (.cells #[.int .i64 c, .int .i64 h, .int .i64 p, .int .i64 s, .slice A l.length cp] 24)).heap.size 2 A l.length (flat fSector l) := RR.al hr (.cells #[.int .i64 c, .int .i64 h, .int .i64 p, .int .i64 s, .slice A l.length cp] 24)
  obtain ⟨d0, d1, d2, d3, d4⟩ := id D0
  have hdec := fun W => l13Decode_any t W ht
  cases hv : okD c h p s l
  · have HOK := Lib.hid hv
    have HR := Lib.hid (at_1 (t := t) (k := k) hv)
    clear hv
    go_enter Try.func17, Try.ntmps17
    go_wp2_with (first
      | (go_at_call 39; refine (l12Ok_any w.heap.size _ _ _ _ _ _ l _ D0 hr0 hn hok).mono ?_; rintro e w1 ⟨rfl, hx1⟩; rw [HOK.out]; replace D0 := D0.next hx1; replace hB : BB w _ := BB.next hB hx1; clear d0 d1 d2 d3 d4; obtain ⟨d0, d1, d2, d3, d4⟩ := id D0; have m1 := True.intro))
    (try simp only [Exit.inBlock, Exit.then]); refine bodyPost_ret (results_tmp2 rfl _ _ _) rfl ?_
    exact ⟨by rw [HR.out]; rfl, by exact hB⟩
  have HOK := Lib.hid hv
  cases hd : decR t with
  | none =>
    have HR := Lib.hid (at_2 (k := k) hv hd)
    have hne : (decC t != 0) = true := by simpa using dec_none hd
    generalize imD (decR t) = X at *
    generalize decC t = code at *
    clear hv hd
    go_enter Try.func17, Try.ntmps17
    go_wp2_with (first
      | (go_at_call 33; have := m1; refine (hdec _).mono ?_; rintro e w2 ⟨v, u, rfl, O, K, ne, hx2⟩; obtain ⟨A2, c2, rfl⟩ := own_form O; obtain ⟨A3, c3, rfl⟩ := own_form K; replace D0 := D0.next hx2; replace hB : BB w _ := BB.next hB hx2; have CI := CP.made w2 [.int .i64 X.c, .int .i64 X.h, .int .i64 X.p, .int .i64 X.s, .slice A2 X.l.length c2, .slice A3 X.n.length c3] 27; have DI : DP (w2.alloc (.cells #[.int .i64 X.c, .int .i64 X.h, .int .i64 X.p, .int .i64 X.s, .slice A2 X.l.length c2, .slice A3 X.n.length c3] 27)) w2.heap.size X.c X.h X.p X.s (.slice A2 X.l.length c2) := ⟨CI 0 (by simp), CI 1 (by simp), CI 2 (by simp), CI 3 (by simp), CI 4 (by simp)⟩; replace D0 := D0.alloc (.cells #[.int .i64 X.c, .int .i64 X.h, .int .i64 X.p, .int .i64 X.s, .slice A2 X.l.length c2, .slice A3 X.n.length c3] 27); replace hB : BB w _ := BB.al hB (.cells #[.int .i64 X.c, .int .i64 X.h, .int .i64 X.p, .int .i64 X.s, .slice A2 X.l.length c2, .slice A3 X.n.length c3] 27); obtain ⟨i0, i1, i2, i3, i4⟩ := id DI; clear d0 d1 d2 d3 d4; obtain ⟨d0, d1, d2, d3, d4⟩ := id D0; have m2 := True.intro)
      | (go_at_call 39; refine (l12Ok_any w.heap.size _ _ _ _ _ _ l _ D0 hr0 hn hok).mono ?_; rintro e w1 ⟨rfl, hx1⟩; rw [HOK.out]; replace D0 := D0.next hx1; replace hB : BB w _ := BB.next hB hx1; clear d0 d1 d2 d3 d4; obtain ⟨d0, d1, d2, d3, d4⟩ := id D0; have m1 := True.intro))
    (try simp only [Exit.inBlock, Exit.then]); refine bodyPost_ret (results_tmp2 rfl _ _ _) rfl ?_
    exact ⟨by rw [HR.out]; rfl, by exact hB⟩
  | some X =>
    obtain ⟨-, hc0, -, hs8⟩ := decR_img hd
    obtain ⟨he1, he2⟩ := dec_end hd
    have hdd := hdec
    rw [hd, hc0, show imD (some X) = X from rfl] at hdec
    cases ha : alikeB X.c X.h X.p X.s c h p s
    · have HAL := Lib.hid ha
      have HR := Lib.hid (at_3 (k := k) hv hd ha)
      clear hv hd ha hdd
      go_enter Try.func17, Try.ntmps17
      go_wp2_with (first
        | (go_at_call 40; have := m2; refine (l12Alike_any w2.heap.size w.heap.size X.c X.h X.p X.s _ _ _ _ _ _ _ DI D0).mono ?_; rintro e w3 ⟨rfl, n3, rfl⟩; rw [HAL.out]; replace D0 := DP.drewN D0 n3; replace hB : BB w _ := BB.dn hB n3; clear d0 d1 d2 d3 d4; obtain ⟨d0, d1, d2, d3, d4⟩ := id D0; have m3 := True.intro)
        | (go_at_call 33; have := m1; refine (hdec _).mono ?_; rintro e w2 ⟨v, u, rfl, O, K, ne, hx2⟩; obtain ⟨A2, c2, rfl⟩ := own_form O; obtain ⟨A3, c3, rfl⟩ := own_form K; replace D0 := D0.next hx2; replace hB : BB w _ := BB.next hB hx2; have CI := CP.made w2 [.int .i64 X.c, .int .i64 X.h, .int .i64 X.p, .int .i64 X.s, .slice A2 X.l.length c2, .slice A3 X.n.length c3] 27; have DI : DP (w2.alloc (.cells #[.int .i64 X.c, .int .i64 X.h, .int .i64 X.p, .int .i64 X.s, .slice A2 X.l.length c2, .slice A3 X.n.length c3] 27)) w2.heap.size X.c X.h X.p X.s (.slice A2 X.l.length c2) := ⟨CI 0 (by simp), CI 1 (by simp), CI 2 (by simp), CI 3 (by simp), CI 4 (by simp)⟩; replace D0 := D0.alloc (.cells #[.int .i64 X.c, .int .i64 X.h, .int .i64 X.p, .int .i64 X.s, .slice A2 X.l.length c2, .slice A3 X.n.length c3] 27); replace hB : BB w _ := BB.al hB (.cells #[.int .i64 X.c, .int .i64 X.h, .int .i64 X.p, .int .i64 X.s, .slice A2 X.l.length c2, .slice A3 X.n.length c3] 27); obtain ⟨i0, i1, i2, i3, i4⟩ := id DI; clear d0 d1 d2 d3 d4; obtain ⟨d0, d1, d2, d3, d4⟩ := id D0; have m2 := True.intro)
        | (go_at_call 39; refine (l12Ok_any w.heap.size _ _ _ _ _ _ l _ D0 hr0 hn hok).mono ?_; rintro e w1 ⟨rfl, hx1⟩; rw [HOK.out]; replace D0 := D0.next hx1; replace hB : BB w _ := BB.next hB hx1; clear d0 d1 d2 d3 d4; obtain ⟨d0, d1, d2, d3, d4⟩ := id D0; have m1 := True.intro))
      (try simp only [Exit.inBlock, Exit.then]); refine bodyPost_ret (results_tmp2 rfl _ _ _) rfl ?_
      exact ⟨by rw [HR.out]; rfl, by exact hB⟩
    have HAL := Lib.hid ha
    obtain ⟨hg, hl, hall⟩ := okD_geo hv
    obtain ⟨q1, q2, q3, q4, q5, q6, q7, q8⟩ := geoB_yes hg
    obtain ⟨m1', m2'⟩ := prod2 q1 q2 q3 q4
    obtain ⟨T, hT⟩ : ∃ T : Nat, c * h = (T : Int) := ⟨(c * h).toNat, by omega⟩
    have hwT : IntKind.i64.wrap (c * h) = (T : Int) := by rw [hT]; exact IntWalk.i64_in _ (by omega)
    have hwT1 : IntKind.i64.wrap ((T : Int) - 1) = (T : Int) - 1 := IntWalk.i64_in _ (by omega)
    have h4 := at_4 (t := t) (k := k) hv hd ha
    have h5 := at_5 (t := t) (k := k) hv hd ha
    have h6 := at_6 (t := t) (k := k) hv hd ha
    have h7 := at_7 (t := t) (k := k) hv hd ha
    rw [hT] at h4 h5 h6 h7
    have hz := okD_z32 hv
    have hl128 := okD_len hv
    obtain ⟨P, rfl⟩ : ∃ P : Nat, p = (P : Int) := ⟨p.toNat, by omega⟩
    cases hi : inB k 0 ((T : Int) - 1)
    · have HIN := Lib.hid hi
      have HR := Lib.hid (h4 hi)
      clear hv hd ha hdd h4 h5 h6 h7 hi hT hl hg hall
      go_enter Try.func17, Try.ntmps17
      go_wp2_with (first
        | (go_at_call 41; have := m3; refine (l00In_any _ _ _ _).mono ?_; rintro e w4 ⟨rfl, rfl⟩; rw [HIN.out]; have m4 := True.intro)
        | (go_at_call 40; have := m2; refine (l12Alike_any w2.heap.size w.heap.size X.c X.h X.p X.s _ _ _ _ _ _ _ DI D0).mono ?_; rintro e w3 ⟨rfl, n3, rfl⟩; rw [HAL.out]; replace D0 := DP.drewN D0 n3; replace hB : BB w _ := BB.dn hB n3; clear d0 d1 d2 d3 d4; obtain ⟨d0, d1, d2, d3, d4⟩ := id D0; have m3 := True.intro)
        | (go_at_call 33; have := m1; refine (hdec _).mono ?_; rintro e w2 ⟨v, u, rfl, O, K, ne, hx2⟩; obtain ⟨A2, c2, rfl⟩ := own_form O; obtain ⟨A3, c3, rfl⟩ := own_form K; replace D0 := D0.next hx2; replace hB : BB w _ := BB.next hB hx2; have CI := CP.made w2 [.int .i64 X.c, .int .i64 X.h, .int .i64 X.p, .int .i64 X.s, .slice A2 X.l.length c2, .slice A3 X.n.length c3] 27; have DI : DP (w2.alloc (.cells #[.int .i64 X.c, .int .i64 X.h, .int .i64 X.p, .int .i64 X.s, .slice A2 X.l.length c2, .slice A3 X.n.length c3] 27)) w2.heap.size X.c X.h X.p X.s (.slice A2 X.l.length c2) := ⟨CI 0 (by simp), CI 1 (by simp), CI 2 (by simp), CI 3 (by simp), CI 4 (by simp)⟩; replace D0 := D0.alloc (.cells #[.int .i64 X.c, .int .i64 X.h, .int .i64 X.p, .int .i64 X.s, .slice A2 X.l.length c2, .slice A3 X.n.length c3] 27); replace hB : BB w _ := BB.al hB (.cells #[.int .i64 X.c, .int .i64 X.h, .int .i64 X.p, .int .i64 X.s, .slice A2 X.l.length c2, .slice A3 X.n.length c3] 27); obtain ⟨i0, i1, i2, i3, i4⟩ := id DI; clear d0 d1 d2 d3 d4; obtain ⟨d0, d1, d2, d3, d4⟩ := id D0; have m2 := True.intro)
        | (go_at_call 39; refine (l12Ok_any w.heap.size _ _ _ _ _ _ l _ D0 hr0 hn hok).mono ?_; rintro e w1 ⟨rfl, hx1⟩; rw [HOK.out]; replace D0 := D0.next hx1; replace hB : BB w _ := BB.next hB hx1; clear d0 d1 d2 d3 d4; obtain ⟨d0, d1, d2, d3, d4⟩ := id D0; have m1 := True.intro))
      (try simp only [Exit.inBlock, Exit.then]); refine bodyPost_ret (results_tmp2 rfl _ _ _) rfl ?_
      exact ⟨by rw [HR.out]; rfl, by exact hB⟩
    have HIN := Lib.hid hi
    obtain ⟨k1, k2⟩ := inB_yes hi
    obtain ⟨K9, rfl⟩ : ∃ K9 : Nat, k = (K9 : Int) := ⟨k.toNat, by omega⟩
    have hKT : K9 + 1 ≤ T := by omega
    have hNT : l.length = T * P := by rw [hT, ← Int.natCast_mul] at hl; omega
    have hKP : K9 * P + P ≤ l.length := by
      rw [hNT, ← Nat.succ_mul]
      exact Nat.mul_le_mul_right P hKT
    have hP0 : 0 < P := by omega
    have hP8 : P ≤ 8 := by omega
    have hN0 : 0 < l.length := by omega
    obtain ⟨b, off, hA, -⟩ := hr.2 hN0
    subst hA
    have hdk := fun W => spec_DecodeChunks_any t W ht
    have hend := fun W => l13Encode_any 4 ⟨#[]⟩ W (by omega) (by decide)
    have h55 := encB_size 4 ⟨#[]⟩
    have hs1 := trS_in (l := l) (P := P) (t := K9) hP8 (fun x hx => by
      obtain ⟨j, hj, rfl⟩ := List.getElem_of_mem hx
      exact (hz j hj).1)
    have htk := tkB_size K9 hs1.1 hs1.2
    have h22 := encB_size 2 (tkB K9 (trS l P K9))
    have hLL := dkL_len t
    rw [Int.toNat_natCast, Int.toNat_natCast] at h6 h7
    have h5' := h5 hi
    have h6' := h6 hi
    have h7' := h7 hi
    have hatz : (atB t l P K9).size = (t.size - 5) + ((tkB K9 (trS l P K9)).size + 5) + 5 := by
      rw [atB, ByteArray.size_append, ByteArray.size_append, h22, h55, ByteArray.size_extract, show (⟨#[]⟩ : ByteArray).size = 0 from rfl]
      omega
    have HATB := Lib.hid (show atB t l P K9 = (t.extract 0 (t.size - 5) ++ encB 2 (tkB K9 (trS l P K9))) ++ encB 4 ⟨#[]⟩ from rfl)
    have HDI := hd
    have hT16 : T ≤ 16 := by omega
    clear h4 h5 h6 h7 hv hd ha hi hdd hT hl hg hall hNT hs1
    generalize (dkL t) = LD at *
    generalize dkN t = ND at *
    generalize atB t l P K9 = OUT at *
    have hte := fun (W : World) hd' hr' => l13Track_any w.heap.size c h s P K9 (some ⟨b, off, none⟩) cp l W hd' hr' hKP hl128 hP8 (by omega) hz
    have hen : ∀ W, Calls Try.prog 43 #[.agg #[.int .i64 2, .string (tkB K9 (trS l P K9))]] W fun e w' => e = .returned (.string (encB 2 (tkB K9 (trS l P K9)))) ∧ Below W.heap.size W w' := fun W => l13Encode_any 2 (tkB K9 (trS l P K9)) W (by omega) (by omega)
    have hw5 : IntKind.i64.wrap ((t.size : Int) - 5) = ((t.size - 5 : Nat) : Int) := by rw [show (t.size : Int) - 5 = ((t.size - 5 : Nat) : Int) by omega]; exact IntWalk.i64_in _ (by omega)
    have hs5 : ((t.size - 5 : Nat) : Int) ≤ (t.size : Int) := by omega
    have hs5n : t.size - 5 ≤ t.size := Nat.sub_le _ _
    have h55i : (((encB 4 ⟨#[]⟩).size : Nat) : Int) = 5 := by rw [h55]; rfl
    generalize encB 2 (tkB K9 (trS l P K9)) = X2 at *
    generalize tkB K9 (trS l P K9) = TK at *
    generalize encB 4 ⟨#[]⟩ = X4 at *
    clear he2 h55
    generalize t.size - 5 = t5 at *
    go_enter Try.func17, Try.ntmps17
    go_wp2_with (first
      | (go_at_call 43; have := m5; refine (hend _).mono ?_; rintro e w6 ⟨rfl, hx6⟩; replace D0 := D0.next hx6; replace hB : BB w _ := BB.next hB hx6; clear d0 d1 d2 d3 d4; obtain ⟨d0, d1, d2, d3, d4⟩ := id D0; have m6 := True.intro)
      | (go_at_call 42; have := m4; refine (hdk _).mono ?_; rintro e w5 ⟨v5, rfl, ho5, hx5⟩; obtain ⟨A5, c5, rfl⟩ := own_form ho5; replace D0 := D0.next hx5; replace hB : BB w _ := BB.next hB hx5; clear d0 d1 d2 d3 d4; obtain ⟨d0, d1, d2, d3, d4⟩ := id D0; have m5 := True.intro)
      | (go_at_call 41; have := m3; refine (l00In_any _ _ _ _).mono ?_; rintro e w4 ⟨rfl, rfl⟩; rw [HIN.out]; have m4 := True.intro)
      | (go_at_call 40; have := m2; refine (l12Alike_any w2.heap.size w.heap.size X.c X.h X.p X.s _ _ _ _ _ _ _ DI D0).mono ?_; rintro e w3 ⟨rfl, n3, rfl⟩; rw [HAL.out]; replace D0 := DP.drewN D0 n3; replace hB : BB w _ := BB.dn hB n3; clear d0 d1 d2 d3 d4; obtain ⟨d0, d1, d2, d3, d4⟩ := id D0; have m3 := True.intro)
      | (go_at_call 33; have := m1; refine (hdec _).mono ?_; rintro e w2 ⟨v, u, rfl, O, K, ne, hx2⟩; obtain ⟨A2, c2, rfl⟩ := own_form O; obtain ⟨A3, c3, rfl⟩ := own_form K; replace D0 := D0.next hx2; replace hB : BB w _ := BB.next hB hx2; have CI := CP.made w2 [.int .i64 X.c, .int .i64 X.h, .int .i64 X.p, .int .i64 X.s, .slice A2 X.l.length c2, .slice A3 X.n.length c3] 27; have DI : DP (w2.alloc (.cells #[.int .i64 X.c, .int .i64 X.h, .int .i64 X.p, .int .i64 X.s, .slice A2 X.l.length c2, .slice A3 X.n.length c3] 27)) w2.heap.size X.c X.h X.p X.s (.slice A2 X.l.length c2) := ⟨CI 0 (by simp), CI 1 (by simp), CI 2 (by simp), CI 3 (by simp), CI 4 (by simp)⟩; replace D0 := D0.alloc (.cells #[.int .i64 X.c, .int .i64 X.h, .int .i64 X.p, .int .i64 X.s, .slice A2 X.l.length c2, .slice A3 X.n.length c3] 27); replace hB : BB w _ := BB.al hB (.cells #[.int .i64 X.c, .int .i64 X.h, .int .i64 X.p, .int .i64 X.s, .slice A2 X.l.length c2, .slice A3 X.n.length c3] 27); obtain ⟨i0, i1, i2, i3, i4⟩ := id DI; clear d0 d1 d2 d3 d4; obtain ⟨d0, d1, d2, d3, d4⟩ := id D0; have m2 := True.intro)
      | (go_at_call 39; refine (l12Ok_any w.heap.size _ _ _ _ _ _ l _ D0 hr0 hn hok).mono ?_; rintro e w1 ⟨rfl, hx1⟩; rw [HOK.out]; replace D0 := D0.next hx1; replace hB : BB w _ := BB.next hB hx1; clear d0 d1 d2 d3 d4; obtain ⟨d0, d1, d2, d3, d4⟩ := id D0; have m1 := True.intro))
    have hrb : Rd w6 w6.heap.size 2 (some ⟨b, off, none⟩) l.length (flat fSector l) := (Rd.below hr hB).more (Below.size hB)
    have htq := fun (p' : Regrown) => qb_below p' (hte (Sort.grow (redrawn w6 p'.d) p'.os) (D0.gw p') (Rd.gw hrb p'))
    have heq := fun (p' : Regrown) => qb_below p' (hen (Sort.grow (redrawn w6 p'.d) p'.os))
    refine wp_region_quiet_below (by kernel_rfl) (by kernel_rfl) ?_
    repeat (go_big_quiet_step (first | with_reducible exact htq _ | with_reducible exact heq _))
    refine wpQuiet_nil ?_
    intro _ hw'
    obtain ⟨pq, hw''⟩ := hw'
    subst hw''
    have hx := gw_below w6 pq
    generalize Sort.grow (redrawn w6 pq.d) pq.os = w8 at hx ⊢
    replace hB : BB w _ := BB.next hB hx
    rw [← HATB.out]
    clear htq heq hrb hte hen
    by_cases h40 : 40 ≤ LD.length
    · have HR := Lib.hid (h5' h40)
      have hge : (40 : Int) ≤ (LD.length : Int) := by omega
      have he40 : ((LD.length : Int) == 40) = true := by simp; omega
      clear h5' h6' h7'
      go_wp2
      (try simp only [Exit.inBlock, Exit.then]); refine bodyPost_ret (results_tmp2 rfl _ _ _) rfl ?_
      exact ⟨by rw [HR.out]; rfl, by exact hB⟩
    have hge : ¬ (40 : Int) ≤ (LD.length : Int) := by omega
    have he40 : ((LD.length : Int) == 40) = false := by simp; omega
    by_cases hbig : 8192 < OUT.size
    · have HR := Lib.hid (h6' h40 hbig)
      have hbi : (8192 : Int) < (OUT.size : Int) := by omega
      clear h5' h6' h7'
      go_wp2
      (try simp only [Exit.inBlock, Exit.then]); refine bodyPost_ret (results_tmp2 rfl _ _ _) rfl ?_
      exact ⟨by rw [HR.out]; rfl, by exact hB⟩
    · have HR := Lib.hid (h7' h40 hbig)
      have hbi : ¬ (8192 : Int) < (OUT.size : Int) := by omega
      clear h5' h6' h7'
      go_wp2
      (try simp only [Exit.inBlock, Exit.then]); refine bodyPost_ret (results_tmp2 rfl _ _ _) rfl ?_
      exact ⟨by rw [HR.out]; rfl, by exact hB⟩

set_option maxRecDepth 100000 in
set_option maxHeartbeats 4000000 in
theorem impl_AppendTrack_any (t : ByteArray) (c h p s : Int) (A : Option Addr) (cp : Nat) (l : List DSector) (k : Int) (w : World) (ht : t.size ≤ 1048576) (hr : RR w 2 A l.length (flat fSector l)) (hn : l.length ≤ 1048576) (hok : ∀ x ∈ l, okSector x) (hcp : l.length ≤ cp) :
    Calls Try.prog 19 #[.string t, .agg #[.int .i64 c, .int .i64 h, .int .i64 p, .int .i64 s, .slice A l.length cp], .int .i64 k] w fun e w' => e = .returned (.tuple #[.string (atR t c h p s l k).1, .int .i64 (atR t c h p s l k).2]) ∧ Below w.heap.size w w' := by
  have D0 : DP (w.alloc (.cells #[.int .i64 c, .int .i64 h, .int .i64 p, .int .i64 s, .slice A l.length cp] 24)) w.heap.size c h p s (.slice A l.length cp) := DP.made w c h p s _ 24
  have hB : BB w (w.alloc (.cells #[.int .i64 c, .int .i64 h, .int .i64 p, .int .i64 s, .slice A l.length cp] 24)) := (show Below w.heap.size w (w.alloc (.cells #[.int .i64 c, .int .i64 h, .int .i64 p, .int .i64 s, .slice A l.length cp] 24)) from (by with_reducible repeat (first | exact Below.refl _ _ | assumption | refine below_step ?_ (by assumption) | refine Below.drew ?_ | refine below_drewN ?_ _ | refine below_alloc ?_ _ | refine Below.setCell ?_ (by simp; try omega) _)))
  have hr0 : Rd (w.alloc (.cells #[.int .i64 c, .int .i64 h, .int .i64 p, .int .i64 s, .slice A l.length cp] 24)) (w.alloc (.cells #[.int .i64 c, .int .i64 h, .int .i64 p, .int .i64 s, .slice A l.length cp] 24)).heap.size 2 A l.length (flat fSector l) := RR.al hr (.cells #[.int .i64 c, .int .i64 h, .int .i64 p, .int .i64 s, .slice A l.length cp] 24)
  obtain ⟨d0, d1, d2, d3, d4⟩ := id D0
  have hdec := fun W => impl_DecodeImage_any t W ht
  cases hv : okD c h p s l
  · have HOK := Lib.hid hv
    have HR := Lib.hid (at_1 (t := t) (k := k) hv)
    clear hv
    go_enter Try.func19, Try.ntmps19
    go_wp2_with (first
      | (go_at_call 46; refine (impl_ValidDisc_any _ _ _ _ _ _ l _ hr0 hn hok).mono ?_; rintro e w1 ⟨rfl, hx1⟩; rw [HOK.out]; replace D0 := D0.next hx1; replace hB : BB w _ := BB.next hB hx1; clear d0 d1 d2 d3 d4; obtain ⟨d0, d1, d2, d3, d4⟩ := id D0; have m1 := True.intro))
    (try simp only [Exit.inBlock, Exit.then]); refine bodyPost_ret (results_tmp2 rfl _ _ _) rfl ?_
    exact ⟨by rw [HR.out]; rfl, by exact hB⟩
  have HOK := Lib.hid hv
  cases hd : decR t with
  | none =>
    have HR := Lib.hid (at_2 (k := k) hv hd)
    have hne : (decC t != 0) = true := by simpa using dec_none hd
    generalize imD (decR t) = X at *
    generalize decC t = code at *
    clear hv hd
    go_enter Try.func19, Try.ntmps19
    go_wp2_with (first
      | (go_at_call 13; have := m1; refine (hdec _).mono ?_; rintro e w2 ⟨v, u, rfl, O, K, ne, hx2⟩; obtain ⟨A2, c2, rfl⟩ := own_form O; obtain ⟨A3, c3, rfl⟩ := own_form K; replace D0 := D0.next hx2; replace hB : BB w _ := BB.next hB hx2; have CI := CP.made w2 [.int .i64 X.c, .int .i64 X.h, .int .i64 X.p, .int .i64 X.s, .slice A2 X.l.length c2, .slice A3 X.n.length c3] 27; have DI : DP (w2.alloc (.cells #[.int .i64 X.c, .int .i64 X.h, .int .i64 X.p, .int .i64 X.s, .slice A2 X.l.length c2, .slice A3 X.n.length c3] 27)) w2.heap.size X.c X.h X.p X.s (.slice A2 X.l.length c2) := ⟨CI 0 (by simp), CI 1 (by simp), CI 2 (by simp), CI 3 (by simp), CI 4 (by simp)⟩; replace D0 := D0.alloc (.cells #[.int .i64 X.c, .int .i64 X.h, .int .i64 X.p, .int .i64 X.s, .slice A2 X.l.length c2, .slice A3 X.n.length c3] 27); replace hB : BB w _ := BB.al hB (.cells #[.int .i64 X.c, .int .i64 X.h, .int .i64 X.p, .int .i64 X.s, .slice A2 X.l.length c2, .slice A3 X.n.length c3] 27); obtain ⟨i0, i1, i2, i3, i4⟩ := id DI; clear d0 d1 d2 d3 d4; obtain ⟨d0, d1, d2, d3, d4⟩ := id D0; have m2 := True.intro)
      | (go_at_call 46; refine (impl_ValidDisc_any _ _ _ _ _ _ l _ hr0 hn hok).mono ?_; rintro e w1 ⟨rfl, hx1⟩; rw [HOK.out]; replace D0 := D0.next hx1; replace hB : BB w _ := BB.next hB hx1; clear d0 d1 d2 d3 d4; obtain ⟨d0, d1, d2, d3, d4⟩ := id D0; have m1 := True.intro))
    (try simp only [Exit.inBlock, Exit.then]); refine bodyPost_ret (results_tmp2 rfl _ _ _) rfl ?_
    exact ⟨by rw [HR.out]; rfl, by exact hB⟩
  | some X =>
    obtain ⟨-, hc0, -, hs8⟩ := decR_img hd
    obtain ⟨he1, he2⟩ := dec_end hd
    have hdd := hdec
    rw [hd, hc0, show imD (some X) = X from rfl] at hdec
    cases ha : alikeB X.c X.h X.p X.s c h p s
    · have HAL := Lib.hid ha
      have HR := Lib.hid (at_3 (k := k) hv hd ha)
      clear hv hd ha hdd
      go_enter Try.func19, Try.ntmps19
      go_wp2_with (first
        | (go_at_call 47; have := m2; refine (sameGeometry_any X.c X.h X.p X.s _ _ _ _ _ _ _ rfl rfl).mono ?_; rintro e w3 ⟨rfl, hx3⟩; rw [HAL.out]; replace D0 := D0.next hx3; replace hB : BB w _ := BB.next hB hx3; clear d0 d1 d2 d3 d4; obtain ⟨d0, d1, d2, d3, d4⟩ := id D0; have m3 := True.intro)
        | (go_at_call 13; have := m1; refine (hdec _).mono ?_; rintro e w2 ⟨v, u, rfl, O, K, ne, hx2⟩; obtain ⟨A2, c2, rfl⟩ := own_form O; obtain ⟨A3, c3, rfl⟩ := own_form K; replace D0 := D0.next hx2; replace hB : BB w _ := BB.next hB hx2; have CI := CP.made w2 [.int .i64 X.c, .int .i64 X.h, .int .i64 X.p, .int .i64 X.s, .slice A2 X.l.length c2, .slice A3 X.n.length c3] 27; have DI : DP (w2.alloc (.cells #[.int .i64 X.c, .int .i64 X.h, .int .i64 X.p, .int .i64 X.s, .slice A2 X.l.length c2, .slice A3 X.n.length c3] 27)) w2.heap.size X.c X.h X.p X.s (.slice A2 X.l.length c2) := ⟨CI 0 (by simp), CI 1 (by simp), CI 2 (by simp), CI 3 (by simp), CI 4 (by simp)⟩; replace D0 := D0.alloc (.cells #[.int .i64 X.c, .int .i64 X.h, .int .i64 X.p, .int .i64 X.s, .slice A2 X.l.length c2, .slice A3 X.n.length c3] 27); replace hB : BB w _ := BB.al hB (.cells #[.int .i64 X.c, .int .i64 X.h, .int .i64 X.p, .int .i64 X.s, .slice A2 X.l.length c2, .slice A3 X.n.length c3] 27); obtain ⟨i0, i1, i2, i3, i4⟩ := id DI; clear d0 d1 d2 d3 d4; obtain ⟨d0, d1, d2, d3, d4⟩ := id D0; have m2 := True.intro)
        | (go_at_call 46; refine (impl_ValidDisc_any _ _ _ _ _ _ l _ hr0 hn hok).mono ?_; rintro e w1 ⟨rfl, hx1⟩; rw [HOK.out]; replace D0 := D0.next hx1; replace hB : BB w _ := BB.next hB hx1; clear d0 d1 d2 d3 d4; obtain ⟨d0, d1, d2, d3, d4⟩ := id D0; have m1 := True.intro))
      (try simp only [Exit.inBlock, Exit.then]); refine bodyPost_ret (results_tmp2 rfl _ _ _) rfl ?_
      exact ⟨by rw [HR.out]; rfl, by exact hB⟩
    have HAL := Lib.hid ha
    obtain ⟨hg, hl, hall⟩ := okD_geo hv
    obtain ⟨q1, q2, q3, q4, q5, q6, q7, q8⟩ := geoB_yes hg
    obtain ⟨m1', m2'⟩ := prod2 q1 q2 q3 q4
    obtain ⟨T, hT⟩ : ∃ T : Nat, c * h = (T : Int) := ⟨(c * h).toNat, by omega⟩
    have hwT : IntKind.i64.wrap (c * h) = (T : Int) := by rw [hT]; exact IntWalk.i64_in _ (by omega)
    have hwT1 : IntKind.i64.wrap ((T : Int) - 1) = (T : Int) - 1 := IntWalk.i64_in _ (by omega)
    have h4 := at_4 (t := t) (k := k) hv hd ha
    have h5 := at_5 (t := t) (k := k) hv hd ha
    have h6 := at_6 (t := t) (k := k) hv hd ha
    have h7 := at_7 (t := t) (k := k) hv hd ha
    rw [hT] at h4 h5 h6 h7
    have hz := okD_z32 hv
    have hl128 := okD_len hv
    obtain ⟨P, rfl⟩ : ∃ P : Nat, p = (P : Int) := ⟨p.toNat, by omega⟩
    have htr := fun W => hasTrack_int c h s P T k A l.length cp W hT (by omega)
    cases hi : inB k 0 ((T : Int) - 1)
    · have HIN := Lib.hid hi
      have HR := Lib.hid (h4 hi)
      rw [hi] at htr
      clear hv hd ha hdd h4 h5 h6 h7 hi hT hl hg hall
      go_enter Try.func19, Try.ntmps19
      go_wp2_with (first
        | (go_at_call 48; have := m3; refine (htr _).mono ?_; rintro e w4 ⟨rfl, hx4⟩; replace D0 := D0.next hx4; replace hB : BB w _ := BB.next hB hx4; clear d0 d1 d2 d3 d4; obtain ⟨d0, d1, d2, d3, d4⟩ := id D0; have m4 := True.intro)
        | (go_at_call 47; have := m2; refine (sameGeometry_any X.c X.h X.p X.s _ _ _ _ _ _ _ rfl rfl).mono ?_; rintro e w3 ⟨rfl, hx3⟩; rw [HAL.out]; replace D0 := D0.next hx3; replace hB : BB w _ := BB.next hB hx3; clear d0 d1 d2 d3 d4; obtain ⟨d0, d1, d2, d3, d4⟩ := id D0; have m3 := True.intro)
        | (go_at_call 13; have := m1; refine (hdec _).mono ?_; rintro e w2 ⟨v, u, rfl, O, K, ne, hx2⟩; obtain ⟨A2, c2, rfl⟩ := own_form O; obtain ⟨A3, c3, rfl⟩ := own_form K; replace D0 := D0.next hx2; replace hB : BB w _ := BB.next hB hx2; have CI := CP.made w2 [.int .i64 X.c, .int .i64 X.h, .int .i64 X.p, .int .i64 X.s, .slice A2 X.l.length c2, .slice A3 X.n.length c3] 27; have DI : DP (w2.alloc (.cells #[.int .i64 X.c, .int .i64 X.h, .int .i64 X.p, .int .i64 X.s, .slice A2 X.l.length c2, .slice A3 X.n.length c3] 27)) w2.heap.size X.c X.h X.p X.s (.slice A2 X.l.length c2) := ⟨CI 0 (by simp), CI 1 (by simp), CI 2 (by simp), CI 3 (by simp), CI 4 (by simp)⟩; replace D0 := D0.alloc (.cells #[.int .i64 X.c, .int .i64 X.h, .int .i64 X.p, .int .i64 X.s, .slice A2 X.l.length c2, .slice A3 X.n.length c3] 27); replace hB : BB w _ := BB.al hB (.cells #[.int .i64 X.c, .int .i64 X.h, .int .i64 X.p, .int .i64 X.s, .slice A2 X.l.length c2, .slice A3 X.n.length c3] 27); obtain ⟨i0, i1, i2, i3, i4⟩ := id DI; clear d0 d1 d2 d3 d4; obtain ⟨d0, d1, d2, d3, d4⟩ := id D0; have m2 := True.intro)
        | (go_at_call 46; refine (impl_ValidDisc_any _ _ _ _ _ _ l _ hr0 hn hok).mono ?_; rintro e w1 ⟨rfl, hx1⟩; rw [HOK.out]; replace D0 := D0.next hx1; replace hB : BB w _ := BB.next hB hx1; clear d0 d1 d2 d3 d4; obtain ⟨d0, d1, d2, d3, d4⟩ := id D0; have m1 := True.intro))
      (try simp only [Exit.inBlock, Exit.then]); refine bodyPost_ret (results_tmp2 rfl _ _ _) rfl ?_
      exact ⟨by rw [HR.out]; rfl, by exact hB⟩
    have HIN := Lib.hid hi
    rw [hi] at htr
    obtain ⟨k1, k2⟩ := inB_yes hi
    obtain ⟨K9, rfl⟩ : ∃ K9 : Nat, k = (K9 : Int) := ⟨k.toNat, by omega⟩
    have hKT : K9 + 1 ≤ T := by omega
    have hNT : l.length = T * P := by rw [hT, ← Int.natCast_mul] at hl; omega
    have hKP : K9 * P + P ≤ l.length := by
      rw [hNT, ← Nat.succ_mul]
      exact Nat.mul_le_mul_right P hKT
    have hP0 : 0 < P := by omega
    have hP8 : P ≤ 8 := by omega
    have hN0 : 0 < l.length := by omega
    obtain ⟨b, off, hA, -⟩ := hr.2 hN0
    subst hA
    have hdk := fun W => impl_DecodeChunks_any t W ht
    have hend := fun W => encodeChunk_any 4 ⟨#[]⟩ W (by omega) (by decide)
    have h55 := encB_size 4 ⟨#[]⟩
    have hs1 := trS_in (l := l) (P := P) (t := K9) hP8 (fun x hx => by
      obtain ⟨j, hj, rfl⟩ := List.getElem_of_mem hx
      exact (hz j hj).1)
    have htk := tkB_size K9 hs1.1 hs1.2
    have h22 := encB_size 2 (tkB K9 (trS l P K9))
    have hLL := dkL_len t
    rw [Int.toNat_natCast, Int.toNat_natCast] at h6 h7
    have h5' := h5 hi
    have h6' := h6 hi
    have h7' := h7 hi
    have hatz : (atB t l P K9).size = (t.size - 5) + ((tkB K9 (trS l P K9)).size + 5) + 5 := by
      rw [atB, ByteArray.size_append, ByteArray.size_append, h22, h55, ByteArray.size_extract, show (⟨#[]⟩ : ByteArray).size = 0 from rfl]
      omega
    have HATB := Lib.hid (show atB t l P K9 = (t.extract 0 (t.size - 5) ++ encB 2 (tkB K9 (trS l P K9))) ++ encB 4 ⟨#[]⟩ from rfl)
    have HDI := hd
    have hT16 : T ≤ 16 := by omega
    clear h4 h5 h6 h7 hv hd ha hi hdd hT hl hg hall hNT hs1
    generalize (dkL t) = LD at *
    generalize dkN t = ND at *
    generalize atB t l P K9 = OUT at *
    have hte := fun (W : World) hr' => trackData_any c h s P K9 b off cp l W hr' hKP hl128 hP8 hP0 hcp (by omega) hz
    have hen : ∀ W, Calls Try.prog 49 #[.int .i64 2, .string (tkB K9 (trS l P K9))] W fun e w' => e = .returned (.string (encB 2 (tkB K9 (trS l P K9)))) ∧ Below W.heap.size W w' := fun W => encodeChunk_any 2 (tkB K9 (trS l P K9)) W (by omega) (by omega)
    have htrim := fun W => Try.strings_TrimSuffix t (encB 4 ⟨#[]⟩) W (by omega)
    rw [trim_end (by rw [h55]; exact he1) (by rw [h55]; exact he2)] at htrim
    rw [h55, show (⟨#[]⟩ : ByteArray).size + 5 = 5 from rfl] at htrim
    have hw5 : IntKind.i64.wrap ((t.size : Int) - 5) = ((t.size - 5 : Nat) : Int) := by rw [show (t.size : Int) - 5 = ((t.size - 5 : Nat) : Int) by omega]; exact IntWalk.i64_in _ (by omega)
    have hs5 : ((t.size - 5 : Nat) : Int) ≤ (t.size : Int) := by omega
    have hs5n : t.size - 5 ≤ t.size := Nat.sub_le _ _
    have h55i : (((encB 4 ⟨#[]⟩).size : Nat) : Int) = 5 := by rw [h55]; rfl
    generalize encB 2 (tkB K9 (trS l P K9)) = X2 at *
    generalize tkB K9 (trS l P K9) = TK at *
    generalize encB 4 ⟨#[]⟩ = X4 at *
    clear he2 h55
    generalize t.size - 5 = t5 at *
    go_enter Try.func19, Try.ntmps19
    go_wp2_with (first
      | (go_at_call 49; have := m4; refine (hend _).mono ?_; rintro e w5 ⟨rfl, hx5⟩; replace D0 := D0.next hx5; replace hB : BB w _ := BB.next hB hx5; clear d0 d1 d2 d3 d4; obtain ⟨d0, d1, d2, d3, d4⟩ := id D0; have m5 := True.intro)
      | (go_at_call 48; have := m3; refine (htr _).mono ?_; rintro e w4 ⟨rfl, hx4⟩; replace D0 := D0.next hx4; replace hB : BB w _ := BB.next hB hx4; clear d0 d1 d2 d3 d4; obtain ⟨d0, d1, d2, d3, d4⟩ := id D0; have m4 := True.intro)
      | (go_at_call 47; have := m2; refine (sameGeometry_any X.c X.h X.p X.s _ _ _ _ _ _ _ rfl rfl).mono ?_; rintro e w3 ⟨rfl, hx3⟩; rw [HAL.out]; replace D0 := D0.next hx3; replace hB : BB w _ := BB.next hB hx3; clear d0 d1 d2 d3 d4; obtain ⟨d0, d1, d2, d3, d4⟩ := id D0; have m3 := True.intro)
      | (go_at_call 13; have := m1; refine (hdec _).mono ?_; rintro e w2 ⟨v, u, rfl, O, K, ne, hx2⟩; obtain ⟨A2, c2, rfl⟩ := own_form O; obtain ⟨A3, c3, rfl⟩ := own_form K; replace D0 := D0.next hx2; replace hB : BB w _ := BB.next hB hx2; have CI := CP.made w2 [.int .i64 X.c, .int .i64 X.h, .int .i64 X.p, .int .i64 X.s, .slice A2 X.l.length c2, .slice A3 X.n.length c3] 27; have DI : DP (w2.alloc (.cells #[.int .i64 X.c, .int .i64 X.h, .int .i64 X.p, .int .i64 X.s, .slice A2 X.l.length c2, .slice A3 X.n.length c3] 27)) w2.heap.size X.c X.h X.p X.s (.slice A2 X.l.length c2) := ⟨CI 0 (by simp), CI 1 (by simp), CI 2 (by simp), CI 3 (by simp), CI 4 (by simp)⟩; replace D0 := D0.alloc (.cells #[.int .i64 X.c, .int .i64 X.h, .int .i64 X.p, .int .i64 X.s, .slice A2 X.l.length c2, .slice A3 X.n.length c3] 27); replace hB : BB w _ := BB.al hB (.cells #[.int .i64 X.c, .int .i64 X.h, .int .i64 X.p, .int .i64 X.s, .slice A2 X.l.length c2, .slice A3 X.n.length c3] 27); obtain ⟨i0, i1, i2, i3, i4⟩ := id DI; clear d0 d1 d2 d3 d4; obtain ⟨d0, d1, d2, d3, d4⟩ := id D0; have m2 := True.intro)
      | (go_at_call 46; refine (impl_ValidDisc_any _ _ _ _ _ _ l _ hr0 hn hok).mono ?_; rintro e w1 ⟨rfl, hx1⟩; rw [HOK.out]; replace D0 := D0.next hx1; replace hB : BB w _ := BB.next hB hx1; clear d0 d1 d2 d3 d4; obtain ⟨d0, d1, d2, d3, d4⟩ := id D0; have m1 := True.intro))
    have hrb : Rd w5 w5.heap.size 2 (some ⟨b, off, none⟩) l.length (flat fSector l) := (Rd.below hr hB).more (Below.size hB)
    have htq := fun (p' : Regrown) => qb_below p' (hte (Sort.grow (redrawn w5 p'.d) p'.os) (Rd.gw hrb p'))
    have hsq := fun (p' : Regrown) => qb_same p' ((htrim (Sort.grow (redrawn w5 p'.d) p'.os)).mono fun _ _ ⟨a, b⟩ => ⟨a, b.symm⟩)
    have y0 := gw_cell d0
    have y1 := gw_cell d1
    have y2 := gw_cell d2
    have y3 := gw_cell d3
    have y4 := gw_cell d4
    have heq := fun (p' : Regrown) => qb_below p' (hen (Sort.grow (redrawn w5 p'.d) p'.os))
    refine wp_region_quiet_below (by kernel_rfl) (by kernel_rfl) ?_
    repeat (go_big_quiet_step (first | with_reducible exact htq _ | with_reducible exact heq _ | with_reducible exact hsq _))
    refine wpQuiet_nil ?_
    intro _ hw'
    obtain ⟨pq, hw''⟩ := hw'
    subst hw''
    have hx := gw_below w5 pq
    generalize Sort.grow (redrawn w5 pq.d) pq.os = w8 at hx ⊢
    replace hB : BB w _ := BB.next hB hx
    rw [← HATB.out]
    clear htq heq hrb hte hen
    by_cases h40 : 40 ≤ LD.length
    · have HR := Lib.hid (h5' h40)
      have hge : (40 : Int) ≤ (LD.length : Int) := by omega
      have he40 : ((LD.length : Int) == 40) = true := by simp; omega
      clear h5' h6' h7'
      go_wp2_with (go_at_call 34; refine (hdk _).mono ?_; rintro e w7 ⟨v7, rfl, ho7, hx7⟩; obtain ⟨A7, c7, rfl⟩ := own_form ho7; replace hB : BB w _ := BB.next hB hx7)
      (try simp only [Exit.inBlock, Exit.then]); refine bodyPost_ret (results_tmp2 rfl _ _ _) rfl ?_
      exact ⟨by rw [HR.out]; rfl, by exact hB⟩
    have hge : ¬ (40 : Int) ≤ (LD.length : Int) := by omega
    have he40 : ((LD.length : Int) == 40) = false := by simp; omega
    by_cases hbig : 8192 < OUT.size
    · have HR := Lib.hid (h6' h40 hbig)
      have hbi : (8192 : Int) < (OUT.size : Int) := by omega
      clear h5' h6' h7'
      go_wp2_with (go_at_call 34; refine (hdk _).mono ?_; rintro e w7 ⟨v7, rfl, ho7, hx7⟩; obtain ⟨A7, c7, rfl⟩ := own_form ho7; replace hB : BB w _ := BB.next hB hx7)
      (try simp only [Exit.inBlock, Exit.then]); refine bodyPost_ret (results_tmp2 rfl _ _ _) rfl ?_
      exact ⟨by rw [HR.out]; rfl, by exact hB⟩
    · have HR := Lib.hid (h7' h40 hbig)
      have hbi : ¬ (8192 : Int) < (OUT.size : Int) := by omega
      clear h5' h6' h7'
      go_wp2_with (go_at_call 34; refine (hdk _).mono ?_; rintro e w7 ⟨v7, rfl, ho7, hx7⟩; obtain ⟨A7, c7, rfl⟩ := own_form ho7; replace hB : BB w _ := BB.next hB hx7)
      (try simp only [Exit.inBlock, Exit.then]); refine bodyPost_ret (results_tmp2 rfl _ _ _) rfl ?_
      exact ⟨by rw [HR.out]; rfl, by exact hB⟩
end Go.Proofs.Ytjjcedodjoieoaa
