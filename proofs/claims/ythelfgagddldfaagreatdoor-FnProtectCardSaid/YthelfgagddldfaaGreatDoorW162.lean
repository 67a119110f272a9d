/- Walks: tracks in new memory. -/
import Derived.Test.YthelfgagddldfaaGreatDoorW161
import Derived.Test.YthelfgagddldfaaGreatDoorMem5
namespace Go.Proofs.YthelfgagddldfaaGreatDoor
open Go.RowKit Go.Deep

theorem Src.rd {P : Program} {w : World} {size : Nat} {tx e' : TypeId} (hk : P.underlying tx = some (.slice e')) {B : Nat} {A : Option Addr} {n c : Nat} {xs : List Value} (h : Rd w B size A n xs) (h1 : ∀ u ∈ xs, u.oneCell' = true) (hA : A = none → n = 0) :
    Src P size tx (.slice A n c) n xs w := by
  rcases A with _ | ad
  · have hn := hA rfl
    subst hn
    have hx : xs = [] := List.eq_nil_of_length_eq_zero (by simpa using h.1)
    subst hx
    exact Src.ofNil _ hk c
  · refine Src.ofSlice _ hk ad n c xs h.1 ?_ h1
    intro j u hj
    have hp : 0 < n := by
      rcases Nat.eq_zero_or_pos n with h0 | h0
      · subst h0
        have hx : xs = [] := List.eq_nil_of_length_eq_zero (by simpa using h.1)
        subst hx
        simp at hj
      · exact h0
    obtain ⟨b, off, e, _, hc⟩ := h.2 hp
    injection e with e
    subst e
    have hjl := (List.getElem?_eq_some_iff.1 hj).1
    have := hc j hjl
    rw [List.getElem?_eq_getElem hjl] at hj
    injection hj with hj
    rw [← hj]
    have hadd : (⟨b, off, none⟩ : Addr).add j = ⟨b, off + j, none⟩ := by
      unfold Addr.add
      split
      · rename_i h0; subst h0; rfl
      · rfl
    rw [hadd]
    exact this
theorem Rd.none_len {w : World} {B size n : Nat} {xs : List Value} (h : Rd w B size none n xs) : n = 0 := by
  rcases Nat.eq_zero_or_pos n with h0 | h0
  · exact h0
  · obtain ⟨b, off, e, _⟩ := h.2 h0
    cases e
theorem Rd.nil_of {w : World} {B size n : Nat} {A : Option Addr} {xs : List Value} (h : Rd w B size A n xs) : A = none → n = 0 := fun e => by
  subst e
  exact h.none_len
theorem fSectorSpec_one {l : List DSectorSpec} : ∀ u ∈ flat fSectorSpec l, u.oneCell' = true := by
  intro u hu
  obtain ⟨x, _, hx⟩ := flat_list fSectorSpec l u hu
  simp only [fSectorSpec, List.mem_cons, List.not_mem_nil, or_false] at hx
  rcases hx with rfl | rfl | rfl | rfl | rfl | rfl | rfl | rfl <;> rfl

set_option maxRecDepth 100000 in
set_option maxHeartbeats 1000000 in
theorem cloneSS_any (A : Option Addr) (cp : Nat) (l : List DSectorSpec) (w : World) (hr : Rd w w.heap.size 8 A l.length (flat fSectorSpec l)) (hn : l.length ≤ 1048576) :
    Calls Tryz.prog 40 #[.slice A l.length cp] w fun e w' => ∃ v, e = .returned v ∧ w'.ownsRow w.heap.size 41 8 v l.length (flat fSectorSpec l) ∧ Below w.heap.size w w' := by
  have q22 : ∀ (w : World) (a : Option Addr) (n c n' c' : Nat), (binOp .eql 24 (.slice a n c) (.slice none n' c')).run Tryz.prog w = .ok (.bool a.isNone) w := fun w a n c n' c' => Lib.run_eql_slice_nil w _ _ a n c n' c' Tryz.underlying24
  rcases A with _ | ad
  · have h0 := hr.none_len
    have hl : l = [] := List.eq_nil_of_length_eq_zero h0
    subst hl
    clear h0
    go_enter Tryz.func40, Tryz.ntmps40
    go_wp2
    go_ret
    exact ⟨_, rfl, World.ownsRow_nil _ _ _ _, Below.refl _ _⟩
  · have hown0 := own_lit0 (e := 41) (size := 8) w w.heap.size (Nat.le_refl _)
    have hr0 := hr.alloc (Nat.le_refl _) (.cells #[] 41)
    go_enter Tryz.func40, Tryz.ntmps40
    go_wp2_with (at_builtin; go_must (refine wpList_app _ rfl _ _ _ _ rfl w.heap.size 41 _ 8 56 eltSectorSpec _ 0 [] rfl hown0 _ l.length (flat fSectorSpec l) rfl (Src.rd Tryz.underlying24 hr0 fSectorSpec_one (fun e => by cases e)) (by unfold maxLen; omega) (by omega) (by rw [World.size_alloc]; omega) ?_); intro v3 w3 hown3 hg3 hat3; rw [Nat.zero_add, List.nil_append] at hown3; have hb3 := below_of_own hown0 (by rw [World.size_alloc]; omega) hg3)
    go_ret
    exact ⟨_, rfl, hown3, (below_alloc (Below.refl _ _) _).trans hb3⟩

set_option maxRecDepth 100000 in
set_option maxHeartbeats 1000000 in
theorem cloneTrack_any (f gp : Int) (A : Option Addr) (cp : Nat) (l : List DSectorSpec) (w : World) (hr : Rd w w.heap.size 8 A l.length (flat fSectorSpec l)) (hn : l.length ≤ 1048576) :
    Calls Tryz.prog 22 #[.agg #[.int .i64 f, .int .i64 gp, .slice A l.length cp]] w fun e w' => ∃ v, e = .returned (.agg #[.int .i64 f, .int .i64 gp, v]) ∧ w'.ownsRow w.heap.size 41 8 v l.length (flat fSectorSpec l) ∧ Below w.heap.size w w' := by
  have F1 := (BX.made w 26 [.int .i64 f, .int .i64 gp, .slice A l.length cp]).al (.cells #[.int .i64 0, .int .i64 0, .slice none 0 0] 26)
  have F0 := BX.made1 w (.cells #[.int .i64 f, .int .i64 gp, .slice A l.length cp] 26) 26 [.int .i64 0, .int .i64 0, .slice none 0 0]
  have hb0 : Below w.heap.size w ((w.alloc (.cells #[.int .i64 f, .int .i64 gp, .slice A l.length cp] 26)).alloc (.cells #[.int .i64 0, .int .i64 0, .slice none 0 0] 26)) := (by with_reducible repeat (first | exact Below.refl _ _ | assumption | refine below_step ?_ (by assumption) | refine Below.drew ?_ | refine below_drewN ?_ _ | refine below_alloc ?_ _ | refine Below.setCell ?_ (by simp; try omega) _))
  have hq := cloneSS_any A cp l _ ((hr.below hb0).more hb0.size) hn
  go_enter Tryz.func22, Tryz.ntmps22
  go_wp2_with (go_at_call 40; refine hq.mono ?_; rintro e w3 ⟨v3, rfl, hown3, hx⟩; obtain ⟨A3, c3, rfl⟩ := own_form hown3; replace F0 := F0.below hx F0.lt; replace F1 := F1.below hx F1.lt; have hb5 : Below w.heap.size w w3 := (by with_reducible repeat (first | exact Below.refl _ _ | assumption | refine below_step ?_ (by assumption) | refine Below.drew ?_ | refine below_drewN ?_ _ | refine below_alloc ?_ _ | refine Below.setCell ?_ (by simp; try omega) _)); replace hown3 := own_base (base' := w.heap.size + 2) hown3 (by simp); have y4 : (_ : Option Value) = some (.slice A l.length cp) := F1.cell 2 (by simp); have z1 := F1.free 2; have P1 := F1.put 2 (.slice A3 l.length c3); have P0 := F0.far (a := ⟨w.heap.size, 2, none⟩) (by simp) (.slice A3 l.length c3); have q0 : (_ : Option Value) = some (.int .i64 f) := P1.cell 0 (by simp); have q1 : (_ : Option Value) = some (.int .i64 gp) := P1.cell 1 (by simp); have q2 : (_ : Option Value) = some (.slice A3 l.length c3) := P1.cell 2 (by simp); have r0 : (_ : Option Value) = some (.int .i64 0) := P0.cell 0 (by simp); have r1 : (_ : Option Value) = some (.int .i64 0) := P0.cell 1 (by simp); have r2 : (_ : Option Value) = some (.slice none 0 0) := P0.cell 2 (by simp); have hfz := fun j => P0.free j)
  refine bodyPost_ret (v := .agg #[.int .i64 f, .int .i64 gp, .slice A3 l.length c3]) (by simp [results, Tryz.results22, go_sem, World.cell?_setCell_other, r0, r1, r2]) rfl ⟨_, rfl, ?_, ?_⟩
  · refine own_base (base := w.heap.size + 2) ?_ (by omega)
    with_reducible repeat (first | exact hown3 | refine ownsRow_setCell_below ?_ (by simp) _)
  · exact (by with_reducible repeat (first | exact Below.refl _ _ | assumption | refine below_step ?_ (by assumption) | refine Below.drew ?_ | refine below_drewN ?_ _ | refine below_alloc ?_ _ | refine Below.setCell ?_ (by simp; try omega) _))
end Go.Proofs.YthelfgagddldfaaGreatDoor
