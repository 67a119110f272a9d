/- Walks: ApplyDeltas. -/
import Derived.Test.YtepipnigcgpncaaDelM
import Derived.Test.YtepipnigcgpncaaW14
import Derived.StillTailTactics
import Derived.Deep.DeepMust
namespace Go.Proofs.Ytepipnigcgpncaa
open Go.RowKit
set_option linter.unusedVariables false

set_option maxRecDepth 100000 in
set_option maxHeartbeats 1000000 in
theorem impl_ApplyDeltas_any (s : ByteArray) (A : Option Addr) (c : Nat) (l : List DDelta) (w : World) (h : Rd w w.heap.size 2 A l.length (flat fDelta l)) (hn : l.length ≤ 1048576) (hs : s.size ≤ 1048576) (hok : ∀ x ∈ l, okDelta x) :
    Calls Try.prog 38 #[.string s, .slice A l.length c] w fun e w' => e = .returned (resB (apD s l)) ∧ Below w.heap.size w w' := by
  by_cases hbig : 4096 < s.size
  · have HR := Lib.hid (apD_big s l hbig)
    go_enter Try.func38, Try.ntmps38
    go_wp2
    go_ret2
    exact ⟨by rw [HR.out]; rfl, Below.refl _ _⟩
  · have HI0 := Lib.hid (apD_small s l hbig)
    have hsl : s.data.toList.length = s.size := by rw [Array.length_toList]; rfl
    have hcv := fun (W : World) => run_bytes_of_string (P := Try.prog) W 9 62 5 s Try.underlying9 Try.underlying62 Try.underlying5
    have hcap := grownCap_ge w s.size 0 5
    have hmk := MarkB.made (e := 5) w.drew s (grownCap w s.size 0 5)
    go_enter Try.func38, Try.ntmps38
    go_wp2
    generalize grownCap w s.size 0 5 = cap at hcap hmk ⊢
    go_loopw [7, 9, 17] (fun en _ i wr => ∃ (k at_ : Nat) (out : List UInt8), k ≤ l.length ∧ i = .int .i64 k ∧ en = .int .i64 at_ ∧ out.length = at_ ∧ at_ ≤ s.size ∧ MarkB wr w.heap.size 5 (out ++ seg s at_ s.size) ∧ Below w.heap.size w wr ∧ Hid (apG s (l.drop k) at_ out = apD s l)) (fun _ _ i _ => l.length - (intOf i).toNat)
    case atStart => exact ⟨0, 0, [], Nat.zero_le _, rfl, rfl, rfl, Nat.zero_le _, by rw [seg_all]; exact hmk, below_alloc (Below.refl _ w).drew _, HI0⟩
    case round =>
      obtain ⟨k, at_, out, hk, rfl, rfl, hol, hat, hm, hb, HI⟩ := hrel
      clear hmk hcv
      by_cases hlt : k < l.length
      · obtain ⟨b, off, rfl, hbb, hc⟩ := (h.below hb).at_ fDelta_len rfl k hlt
        have hc0 := hc 0 _ (by omega) rfl
        have hc1 := hc 1 _ (by omega) rfl
        clear hc
        simp only [← Nat.add_assoc, Nat.add_zero] at hc0 hc1
        by_cases h0 : l[k].f1.size = 0
        · have hR := Lib.hid (apG_bad s l k at_ out hlt (.inl h0) HI.out)
          obtain ⟨g1, g2⟩ := emp_yes _ h0
          go_wp2_with fail
          go_ret2
          exact ⟨by rw [hR.out]; rfl, (by repeat (first | exact Below.refl _ _ | refine below_step ?_ (by assumption) | assumption | refine Below.drew ?_ | refine below_drewN ?_ _ | refine below_alloc ?_ _ | refine Below.setCell ?_ (by simp; try omega) _))⟩
        · obtain ⟨g1, g2⟩ := emp_no _ h0
          have hsz : l[k].f1.size ≤ maxLen := (hok l[k] (List.getElem_mem hlt)).1
          unfold maxLen at hsz
          by_cases hin : inB l[k].f0 at_ ((s.size : Int) - l[k].f1.size) = true
          · have hR := Lib.hid (apG_go s l k at_ out hlt h0 hin HI.out)
            have hin2 := inB_in hin
            obtain ⟨p, hp⟩ : ∃ p : Nat, l[k].f0 = p := ⟨l[k].f0.toNat, by omega⟩
            obtain ⟨i1, i2⟩ := hin2
            rw [hp] at hc0 hin hR i1 i2
            rw [Int.toNat_natCast] at hR
            clear hp
            generalize hdd : l[k].f1 = d at *
            have hdl : d.data.toList.length = d.size := by rw [Array.length_toList]; rfl
            have hlen3 : (out ++ seg s at_ p ++ d.data.toList).length = p + d.size := by
              rw [List.length_append, List.length_append, seg_length s _ _ (by omega)]
              omega
            have j1 : (p : Int) < s.size := by omega
            have j2 : p < s.size := by omega
            have j5 : p ≤ s.size := by omega
            have j6 : s.size ≤ cap := by omega
            have j3 : ¬ cap = p := by omega
            have j4 : p + d.size ≤ s.size := by omega
            have hSP := apG_splice s d at_ p out hol (by omega) j4
            go_wp2_with (first | (go_at_call 53; go_must (refine (within_any (p : Int) at_ ((s.size : Int) - d.size) _).mono ?_; rintro e w1 ⟨rfl, rfl⟩; rw [hin])))
            have q0 : (wr.alloc (Obj.cells #[Value.int IntKind.i64 p, Value.string d] 72)).cell? ⟨wr.heap.size, 0, none⟩ = some (.int .i64 p) := by simp
            have q1 : (wr.alloc (Obj.cells #[Value.int IntKind.i64 p, Value.string d] 72)).cell? ⟨wr.heap.size, 1, none⟩ = some (.string d) := by simp
            have q2 : Below wr.heap.size wr (wr.alloc (Obj.cells #[Value.int IntKind.i64 p, Value.string d] 72)) := (Below.refl _ _).alloc (Nat.le_refl _) _
            have q3 := hm.lt
            generalize wr.alloc (Obj.cells #[Value.int IntKind.i64 p, Value.string d] 72) = wq at q0 q1 q2 ⊢
            replace hb := below_step hb q2
            replace hm := hm.below q2 q3
            generalize wr.heap.size = z at q0 q1 q2 q3 ⊢
            go_still_tail 6, (by kernel_rfl)
            change wpList _ _ _ _ _ wq.drew
            replace q0 : wq.drew.cell? ⟨z, 0, none⟩ = some (.int .i64 p) := q0
            replace q1 : wq.drew.cell? ⟨z, 1, none⟩ = some (.string d) := q1
            replace hm : MarkB wq.drew w.heap.size 5 (out ++ seg s at_ s.size) := hm
            replace hb := hb.drew
            generalize wq.drew = wd at q0 q1 hm hb ⊢
            refine wpList_copyM rfl _ _ _ _ rfl eltB hm p _ _ rfl d rfl (by rw [List.length_append, seg_length s _ _ (Nat.le_refl _)]; omega) (by omega) w.heap.size (Nat.le_refl _) ?_
            intro w3 hm3 hb3 hoth
            rw [hSP] at hm3
            replace hb := hb.trans hb3
            have c0 := (hoth ⟨z, 0, none⟩ (by show z ≠ _; omega)).trans q0
            have c1 := (hoth ⟨z, 1, none⟩ (by show z ≠ _; omega)).trans q1
            go_wp2
            go_roundw
            case rel => exact ⟨k + 1, p + d.size, out ++ seg s at_ p ++ d.data.toList, by omega, by go_num, by go_num, hlen3, j4, hm3, hb, hR⟩
            case measure => (simp [intOf] <;> omega)
          · have hR := Lib.hid (apG_bad s l k at_ out hlt (.inr (by simpa using hin)) HI.out)
            go_wp2_with (first | (go_at_call 53; go_must (refine (within_any l[k].f0 at_ ((s.size : Int) - l[k].f1.size) _).mono ?_; rintro e w1 ⟨rfl, rfl⟩; rw [show inB l[k].f0 at_ ((s.size : Int) - l[k].f1.size) = false from by simpa using hin])))
            go_ret2
            exact ⟨by rw [hR.out]; rfl, (by repeat (first | exact Below.refl _ _ | refine below_step ?_ (by assumption) | assumption | refine Below.drew ?_ | refine below_drewN ?_ _ | refine below_alloc ?_ _ | refine Below.setCell ?_ (by simp; try omega) _))⟩
      · have hR := Lib.hid (apG_end s l k at_ out hlt HI.out)
        have hcv := MarkB.b2s (P := Try.prog) (dst := 9) Try.underlying62 Try.underlying5 Try.underlying9 hm cap s.size (by rw [List.length_append, seg_length s _ _ (Nat.le_refl _)]; omega)
        go_wp2
        go_ret2
        exact ⟨by rw [hR.out]; rfl, hb⟩
end Go.Proofs.Ytepipnigcgpncaa
