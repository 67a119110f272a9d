/- Walks: PackBytes of impl, whole. -/
import Derived.Test.YtjjcedodjoieoaaW27
namespace Go.Proofs.Ytjjcedodjoieoaa
open Go.RowKit
set_option linter.unusedVariables false

set_option maxRecDepth 100000 in
set_option maxHeartbeats 1000000 in
theorem packBytes_any (s : ByteArray) (w : World) (hs : s.size ≤ 4096) :
    Calls Try.prog 91 #[.string s] w fun e w' => e = .returned (.string ⟨(pbG s 0 0 []).toArray⟩) ∧ Below w.heap.size w w' := by
  go_enter Try.func91, Try.ntmps91
  go_wp2
  go_loopw [6, 7, 8] (fun av _ _ wr => ∃ (at_ from_ : Nat) (out : List UInt8) (v : Value), from_ ≤ at_ ∧ at_ ≤ s.size ∧ out.length ≤ 2 * from_ ∧ av = .int .i64 at_ ∧ Shares wr w.heap.size (w.heap.size + 1) (w.heap.size + 2) s v from_ ∧ OwnB wr (w.heap.size + 3) 5 v out ∧ Below w.heap.size w wr ∧ w.heap.size + 3 ≤ wr.heap.size ∧ Hid (pbG s at_ from_ out = pbG s 0 0 []))
    (fun av _ _ _ => s.size - (intOf av).toNat)
  case atStart =>
    have k1 := ((Blk.new w 9 #[.string s]).alloc (Obj.cells #[Value.slice none 0 0] 102)).alloc (Obj.cells #[Value.int IntKind.i64 0] 3)
    have k2 := (Blk.new (w.alloc (Obj.cells #[Value.string s] 9)) 102 #[.slice none 0 0]).alloc (Obj.cells #[Value.int IntKind.i64 0] 3)
    have k3 := Blk.new ((w.alloc (Obj.cells #[Value.string s] 9)).alloc (Obj.cells #[Value.slice none 0 0] 102)) 3 #[.int .i64 0]
    simp only [World.size_alloc] at k2 k3
    exact ⟨0, 0, [], _, by omega, by omega, by simp, rfl, ⟨k1, k2, k3⟩, OwnB.nil _ _ _, below_alloc (below_alloc (below_alloc (Below.refl _ _) _) _) _, by simp only [World.size_alloc]; omega, Lib.hid rfl⟩
  case round =>
    obtain ⟨at_, from_, out, v, hfa, has, hol, rfl, hS, hown, hb, hbz, HI⟩ := hrel
    obtain ⟨hbs, hbo, hbf⟩ := id hS
    have cs := hbs.cell 0
    have co := hbo.cell 0
    have cf := hbf.cell 0
    simp only [List.getElem?_toArray, List.getElem?_cons_zero] at cs co cf
    have hpl := plL_len (at_ - from_) (seg s from_ at_) (by rw [seg_length s _ _ has]; exact Nat.le_refl _)
    rw [seg_length s _ _ has] at hpl
    by_cases hlt : at_ < s.size
    · have hrb := refer_bd s at_
      have hM : mostAt s at_ = min 130 (s.size - at_) := rfl
      have hF : farAt at_ = min 255 at_ := rfl
      have hcall := fun W => reference_any s at_ W (by omega) hlt
      obtain ⟨n, d, hr⟩ : ∃ n d, refer s at_ = (n, d) := ⟨_, _, rfl⟩
      have HRF := Lib.hid hr
      rw [hr] at hrb hcall
      simp only at hrb hcall
      clear hr
      by_cases h3 : n < 3
      · have HN := Lib.hid (pbG_skip s at_ from_ out _ hlt n d HRF.out h3 HI.out)
        have g1 : (n : Int) < 3 := by omega
        go_wp2_with (first | (go_at_call 102; refine (hcall _).mono ?_; rintro e w1 ⟨rfl, q1, rfl⟩))
        go_roundw
        case rel => exact ⟨at_ + 1, from_, out, v, by omega, by omega, hol, by go_num, ⟨hbs.drewN _, hbo.drewN _, hbf.drewN _⟩, hown.drewN _, below_drewN hb _, hbz, HN⟩
        case measure => (simp [intOf] <;> omega)
      · have HN := Lib.hid (pbG_ref s at_ from_ out _ hlt n d HRF.out h3 HI.out)
        go_wp2_with (first
          | (go_at_call 102; refine (hcall _).mono ?_; rintro e w1 ⟨rfl, q1, rfl⟩)
          | (go_at_call 101; go_must (refine (flush_any s w.heap.size (w.heap.size + 1) (w.heap.size + 2) from_ at_ out v _ (w.heap.size + 3) (by omega) (by omega) (by omega) (by exact hbz) ⟨hbs.drewN _, hbo.drewN _, hbf.drewN _⟩ (hown.drewN _) hs (by omega) hfa has).mono ?_); rintro e w2 ⟨rfl, v2, ⟨hbs2, hbo2, hbf2⟩, ho2, hb2, hz2⟩; have co2 := hbo2.cell 0; simp only [List.getElem?_toArray, List.getElem?_cons_zero] at co2)
          | (at_builtin; go_must (refine wpList_appL rfl _ _ _ rfl eltB _ (out ++ plL (seg s from_ at_)) rfl ho2 _ _ [UInt8.ofNat (n + 125), UInt8.ofNat d] 2 2 rfl (impl_cells2 (n + 125) d _ _ (by omega) (by omega) (by omega) (by omega)) rfl (by rw [List.length_append]; simp; omega) hz2 ?_); intro v3 w3 ho3 hg3 hat3 hbl3; obtain ⟨A3, m3, c3, rfl⟩ := own_slice ho3; have hbs3 := hbs2.below hbl3 (by omega); have hbo3 := hbo2.below hbl3 (by omega); have hbf3 := hbf2.below hbl3 (by omega); have co3 := hbo3.cell 0; have cf3 := hbf3.cell 0; simp only [List.getElem?_toArray, List.getElem?_cons_zero] at co3 cf3; have zo3 := hbo3.frozen 0; have zf3 := hbf3.frozen 0))
        have hz3 := hbl3.size
        have hbs4 := (hbs3.far (p := ⟨w.heap.size + 1, 0, none⟩) (by show w.heap.size ≠ w.heap.size + 1; omega) (.slice A3 m3 c3)).far (p := ⟨w.heap.size + 2, 0, none⟩) (by show w.heap.size ≠ w.heap.size + 2; omega) (.int .i64 ((at_ : Int) + n))
        have hbo4 := (hbo3.set_ 0 (.slice A3 m3 c3)).far (p := ⟨w.heap.size + 2, 0, none⟩) (by show w.heap.size + 1 ≠ w.heap.size + 2; omega) (.int .i64 ((at_ : Int) + n))
        have hbf4 := (hbf3.far (p := ⟨w.heap.size + 1, 0, none⟩) (by show w.heap.size + 2 ≠ w.heap.size + 1; omega) (.slice A3 m3 c3)).set_ 0 (.int .i64 ((at_ : Int) + n))
        simp only [List.setIfInBounds_toArray, List.set_cons_zero] at hbo4 hbf4
        have ho4 := ownsRow_setCell_below (a := ⟨w.heap.size + 2, 0, none⟩) (ownsRow_setCell_below (a := ⟨w.heap.size + 1, 0, none⟩) ho3 (by show w.heap.size + 1 < w.heap.size + 3; omega) (.slice A3 m3 c3)) (by show w.heap.size + 2 < w.heap.size + 3; omega) (.int .i64 ((at_ : Int) + n))
        have hb4 := (((((below_drewN hb q1).trans (hb2.mono (by omega))).trans (hbl3.mono (by omega))).setCell (p := ⟨w.heap.size + 1, 0, none⟩) (by show w.heap.size ≤ w.heap.size + 1; omega) (.slice A3 m3 c3)).setCell (p := ⟨w.heap.size + 2, 0, none⟩) (by show w.heap.size ≤ w.heap.size + 2; omega) (.int .i64 ((at_ : Int) + n)))
        have hz4 : w.heap.size + 3 ≤ ((w3.setCell ⟨w.heap.size + 1, 0, none⟩ (.slice A3 m3 c3)).setCell ⟨w.heap.size + 2, 0, none⟩ (.int .i64 ((at_ : Int) + n))).heap.size := by rw [World.size_setCell, World.size_setCell]; omega
        have hl4 : ((out ++ plL (seg s from_ at_)) ++ [UInt8.ofNat (n + 125), UInt8.ofNat d]).length ≤ 2 * (at_ + n) := by
          simp only [List.length_append, List.length_cons, List.length_nil]
          omega
        have hcast : ((at_ : Int) + n) = ((at_ + n : Nat) : Int) := by omega
        go_roundw
        case rel => exact ⟨at_ + n, at_ + n, _, _, by omega, by omega, hl4, by go_num, ⟨hbs4, hbo4, by rw [← hcast]; exact hbf4⟩, ho4, hb4, hz4, HN⟩
        case measure => (simp [intOf] <;> omega)
    · have hat : at_ = s.size := by omega
      have HR := Lib.hid (pbG_end s at_ from_ out _ hlt HI.out)
      have hpl2 := plL_len (s.size - from_) (seg s from_ s.size) (by rw [seg_length s _ _ (Nat.le_refl _)]; exact Nat.le_refl _)
      go_wp2_with (first
        | (go_at_call 101; go_must (refine (flush_any s w.heap.size (w.heap.size + 1) (w.heap.size + 2) from_ s.size out v _ (w.heap.size + 3) (by omega) (by omega) (by omega) hbz hS hown hs (by omega) (by omega) (Nat.le_refl _)).mono ?_); rintro e w2 ⟨rfl, v2, ⟨hbs2, hbo2, hbf2⟩, ho2, hb2, hz2⟩; obtain ⟨A2, m2, c2, rfl⟩ := own_slice ho2; have co2 := hbo2.cell 0; simp only [List.getElem?_toArray, List.getElem?_cons_zero] at co2; have hcv := run_b2s (P := Try.prog) (dst := 9) Try.underlying102 Try.underlying5 Try.underlying9 ho2))
      go_ret
      exact ⟨congrArg (fun o : List UInt8 => Ending.returned (.string ⟨o.toArray⟩)) HR.out.symm, hb.trans (hb2.mono (by omega))⟩

end Go.Proofs.Ytjjcedodjoieoaa
