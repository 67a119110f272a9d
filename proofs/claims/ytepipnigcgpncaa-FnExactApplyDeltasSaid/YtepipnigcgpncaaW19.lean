/- Walks: ApplyDeltas of spec. -/
import Derived.Test.YtepipnigcgpncaaW18
namespace Go.Proofs.Ytepipnigcgpncaa
open Go.RowKit
set_option linter.unusedVariables false

theorem cat_list (a b : ByteArray) : (a ++ b).data.toList = a.data.toList ++ b.data.toList := by
  rw [ByteArray.data_append, Array.toList_append]
theorem mk_list (o : ByteArray) (l : List UInt8) (h : l = o.data.toList) : o = ⟨l.toArray⟩ := by
  subst h
  rfl
theorem size_list (o : ByteArray) : o.data.toList.length = o.size := by rw [Array.length_toList]; rfl
theorem ext_size (s : ByteArray) (a b : Nat) (h : b ≤ s.size) : (s.extract a b).size = b - a := by
  rw [ByteArray.size_extract]
  omega

set_option maxRecDepth 100000 in
set_option maxHeartbeats 1000000 in
theorem spec_ApplyDeltas_any (s : ByteArray) (A : Option Addr) (c : Nat) (l : List DDelta) (w : World) (h : Rd w w.heap.size 2 A l.length (flat fDelta l)) (hn : l.length ≤ 1048576) (hs : s.size ≤ 1048576) (hok : ∀ x ∈ l, okDelta x) :
    Calls Try.prog 36 #[.string s, .slice A l.length c] w fun e w' => e = .returned (resB (apD s l)) ∧ Below w.heap.size w w' := by
  by_cases hbig : 4096 < s.size
  · have HR := Lib.hid (apD_big s l hbig)
    go_enter Try.func36, Try.ntmps36
    go_wp2
    go_ret2
    exact ⟨by rw [HR.out]; rfl, Below.refl _ _⟩
  · have HI0 := Lib.hid (apD_small s l hbig)
    go_enter Try.func36, Try.ntmps36
    go_wp2
    go_loopw [6, 7, 8, 9] (fun ov en i _ wr => ∃ (k at_ q : Nat) (o : ByteArray), k ≤ l.length ∧ i = .int .i64 k ∧ en = .int .i64 at_ ∧ ov = .string o ∧ o.size = at_ ∧ at_ ≤ s.size ∧ wr = w.drewN q ∧ Hid (apG s (l.drop k) at_ o.data.toList = apD s l)) (fun _ _ i _ _ => l.length - (intOf i).toNat)
    case atStart => exact ⟨0, 0, 0, ByteArray.empty, Nat.zero_le _, rfl, rfl, rfl, rfl, Nat.zero_le _, rfl, HI0⟩
    case round =>
      obtain ⟨k, at_, q, o, hk, rfl, rfl, rfl, hol, hat, rfl, HI⟩ := hrel
      by_cases hlt : k < l.length
      · obtain ⟨b, off, rfl, hbb, hc⟩ := h.at_ fDelta_len rfl k hlt
        have hc0 := hc 0 _ (by omega) rfl
        have hc1 := hc 1 _ (by omega) rfl
        clear hc
        simp only [← Nat.add_assoc, Nat.add_zero] at hc0 hc1
        have hsz : l[k].f1.size ≤ maxLen := (hok l[k] (List.getElem_mem hlt)).1
        unfold maxLen at hsz
        by_cases h0 : l[k].f1.size = 0
        · have hR := Lib.hid (apG_bad s l k at_ _ hlt (.inl h0) HI.out)
          go_wp2_with fail
          go_ret2
          exact ⟨by rw [hR.out]; rfl, (by repeat (first | exact Below.refl _ _ | refine below_step ?_ (by assumption) | assumption | refine Below.drew ?_ | refine below_drewN ?_ _ | refine below_alloc ?_ _ | refine Below.setCell ?_ (by simp; try omega) _))⟩
        · by_cases hin : inB l[k].f0 at_ ((s.size : Int) - l[k].f1.size) = true
          · have hR := Lib.hid (apG_go s l k at_ _ hlt h0 hin HI.out)
            have hin2 := inB_in hin
            obtain ⟨p, hp⟩ : ∃ p : Nat, l[k].f0 = p := ⟨l[k].f0.toNat, by omega⟩
            obtain ⟨i1, i2⟩ := hin2
            rw [hp] at hc0 hin hR i1 i2
            rw [Int.toNat_natCast] at hR
            clear hp
            generalize hdd : l[k].f1 = d at *
            have j1 : (p : Int) ≤ s.size := by omega
            have j2 : p ≤ s.size := by omega
            have j4 : p + d.size ≤ s.size := by omega
            have j5 : at_ ≤ p := by omega
            have hdl := size_list d
            have he := ext_size s at_ p j2
            have hlen3 : (o ++ (s.extract at_ p ++ d)).size = p + d.size := by
              rw [ByteArray.size_append, ByteArray.size_append, he]
              omega
            have hR2 := Lib.hid (show apG s (l.drop (k + 1)) (p + d.size) (o ++ (s.extract at_ p ++ d)).data.toList = apD s l by rw [cat_list, cat_list, ← List.append_assoc]; exact hR.out)
            have n1 : ¬ 9223372036854775807 < (s.extract at_ p).size + d.size := by omega
            have n2 : ¬ 9223372036854775807 < o.size + (s.extract at_ p ++ d).size := by rw [ByteArray.size_append]; omega
            go_wp2_with (first | (go_at_call 51; go_must (refine (l00In_any (p : Int) at_ ((s.size : Int) - d.size) _).mono ?_; rintro e w1 ⟨rfl, rfl⟩; rw [hin])))
            go_quiet (fail)
            go_wp2
            go_roundw
            case rel => exact ⟨k + 1, p + d.size, _, _, by omega, by go_num, by go_num, rfl, hlen3, j4, rfl, hR2⟩
            case measure => (simp [intOf] <;> omega)
          · have hR := Lib.hid (apG_bad s l k at_ _ hlt (.inr (by simpa using hin)) HI.out)
            go_wp2_with (first | (go_at_call 51; go_must (refine (l00In_any l[k].f0 at_ ((s.size : Int) - l[k].f1.size) _).mono ?_; rintro e w1 ⟨rfl, rfl⟩; rw [show inB l[k].f0 at_ ((s.size : Int) - l[k].f1.size) = false from by simpa using hin])))
            go_ret2
            exact ⟨by rw [hR.out]; rfl, (by repeat (first | exact Below.refl _ _ | refine below_step ?_ (by assumption) | assumption | refine Below.drew ?_ | refine below_drewN ?_ _ | refine below_alloc ?_ _ | refine Below.setCell ?_ (by simp; try omega) _))⟩
      · have hR := Lib.hid (apG_end s l k at_ _ hlt HI.out)
        go_wp2
        go_ret2
        exact ⟨by rw [hR.out, mk_list (o ++ s.extract at_ s.size) (o.data.toList ++ seg s at_ s.size) (cat_list _ _).symm]; rfl, (by repeat (first | exact Below.refl _ _ | refine below_step ?_ (by assumption) | assumption | refine Below.drew ?_ | refine below_drewN ?_ _ | refine below_alloc ?_ _ | refine Below.setCell ?_ (by simp; try omega) _))⟩
end Go.Proofs.Ytepipnigcgpncaa
