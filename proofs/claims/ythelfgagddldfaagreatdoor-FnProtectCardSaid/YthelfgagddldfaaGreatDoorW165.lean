/- Walks: a track of its own. -/
import Derived.Test.YthelfgagddldfaaGreatDoorW162
import Derived.Test.YthelfgagddldfaaGreatDoorW163
import Derived.Test.YthelfgagddldfaaGreatDoorW164
namespace Go.Proofs.YthelfgagddldfaaGreatDoor
open Go.RowKit Go.Deep

section
variable {P : Program} {w : World} {base size bytes : Nat} {e : TypeId} {z : Value}
theorem step_appS {ops : Array Oper} {o : Oper} {a : Act} {K : Act → World → Prop} {Q : Exit → Act → World → Prop} {E0 : Prop} (hgd : o.guard = none) (s x : Operand) (t tx : TypeId)
    (ho : o.op = .call { callee := .builtin .append, args := #[s, x], argTypes := #[t, tx] }) (E : Elt P t e size bytes z)
    {v : Value} {n : Nat} {xs : List Value} (hown : w.ownsRow base e size v n xs) (hsv : a.eval s = v) {y : Value} {m : Nat} {news : List Value} (hx : a.eval x = y) (hs : Src P size tx y m news w)
    (h63 : n + m ≤ maxLen) (hbytes : (n + m) * bytes ≤ 140737488355328) (hbase : base ≤ w.heap.size)
    (h : ∀ v' w', w'.ownsRow base e size v' (n + m) (xs ++ news) → w.grownBy w' v.ownBlock → (v'.ownBlock = v.ownBlock ∨ v'.ownBlock = some w.heap.size) → K (a.put o.dst v') w') :
    if Region.wanted o (yielded ops a.tmps) = true then Oper.wp P o a w K Q else E0 := by
  have hw : Region.wanted o (yielded ops a.tmps) = true := by simp [Region.wanted, hgd]
  rw [if_pos hw]
  obtain ⟨v', w', hr, h2, h3, h5⟩ := run_append_src (P := P) w base t tx o.type e z size bytes E v n xs hown y m news hs h63 hbytes hbase
  unfold Oper.wp execOp
  simp only [ho, resolve, invoke, builtin, Sem.run_bind, Sem.run_pure, Result.andThen_ok, List.map_toArray, List.map_cons, List.map_nil, hsv, hx, hr]
  exact h _ _ h2 h3 h5
end

set_option maxRecDepth 100000 in
set_option maxHeartbeats 8000000 in
set_option linter.unusedSimpArgs false in
theorem l11Own_any (g : Nat) (f gp : Int) (A : Option Addr) (cp : Nat) (l : List DSectorSpec) (w : World) (hd : BX w g 26 [.int .i64 f, .int .i64 gp, .slice A l.length cp]) (hr : Rd w w.heap.size 8 A l.length (flat fSectorSpec l)) (hn : l.length ≤ 1048576) :
    Calls Tryz.prog 50 #[.pointer (some ⟨g, 0, none⟩)] w fun e w' => ∃ v, e = .returned (.agg #[.int .i64 f, .int .i64 gp, v]) ∧ w'.ownsRow w.heap.size 41 8 v l.length (flat fSectorSpec l) ∧ Below w.heap.size w w' := by
  have hg := hd.lt
  have F0 := BX.made w 26 [.int .i64 0, .int .i64 0, .slice none 0 0]
  have FG := hd.al (.cells #[.int .i64 0, .int .i64 0, .slice none 0 0] 26)
  have hb1 : Below w.heap.size w (w.alloc (.cells #[.int .i64 0, .int .i64 0, .slice none 0 0] 26)) := (by repeat (first | exact Below.refl _ _ | refine below_step ?_ (by assumption) | assumption | refine Below.drew ?_ | refine below_drewN ?_ _ | refine below_alloc ?_ _ | refine Below.setCell ?_ (by simp; try omega) _))
  have hs1 : (w.alloc (.cells #[.int .i64 0, .int .i64 0, .slice none 0 0] 26)).heap.size = w.heap.size + 1 := by simp
  obtain ⟨w1, hw1⟩ : ∃ w1, w1 = w.alloc (.cells #[.int .i64 0, .int .i64 0, .slice none 0 0] 26) := ⟨_, rfl⟩
  rw [← hw1] at F0 FG hb1 hs1
  have HW := Lib.hid hw1
  have h01 : w.heap.size < w.heap.size + 1 := by omega
  have hg1 : g < w.heap.size + 1 := by omega
  have hgn : w.heap.size ≠ g := by omega
  have hown0 := own_lit0 (e := 41) (size := 8) w1.drew (w.heap.size + 1) (Nat.le_of_eq hs1.symm)
  have hrd : Rd w1.drew w.heap.size 8 A l.length (flat fSectorSpec l) := hr.below (Below.drew hb1)
  have hr0 := hrd.alloc hb1.size (.cells #[] 41)
  have hb12 : Below (w.heap.size + 1) w1.drew (w1.drew.alloc (.cells #[] 41)) := (Below.refl (w.heap.size + 1) w1.drew).alloc (Nat.le_of_eq hs1.symm) _
  have FG2 := (BX.dr0 FG).al (.cells #[] 41)
  have hbs2 : w.heap.size + 1 ≤ (w1.drew.alloc (.cells #[] 41)).heap.size := by rw [World.size_alloc]; show _ ≤ w1.heap.size + 1; omega
  obtain ⟨w2, hw0⟩ : ∃ w2, w2 = (w1.alloc (.cells #[] 41)).drew := ⟨_, rfl⟩
  have hw2 : w2 = w1.drew.alloc (.cells #[] 41) := hw0
  rw [← hw2] at hown0 hr0 hb12 FG2 hbs2
  have HV := Lib.hid hw0
  have hsrc : Src Tryz.prog 8 24 (.slice A l.length cp) l.length (flat fSectorSpec l) w2 := Src.rd Tryz.underlying24 hr0 fSectorSpec_one hr.nil_of
  have hmx : 0 + l.length ≤ maxLen := by unfold maxLen; omega
  have hby : (0 + l.length) * 56 ≤ 140737488355328 := by omega
  clear hw1 hw0 hw2 hs1
  go_enter Tryz.func50, Tryz.ntmps50
  go_wp2
  rw [← HW.out]
  refine wp_region_held_drew (S := (fun W => W.cell? ⟨g, 0, none⟩ = some (.int .i64 f) ∧ W.cell? ⟨g, 1, none⟩ = some (.int .i64 gp) ∧ W.cell? ⟨g, 2, none⟩ = some (.slice A l.length cp))) (by kernel_rfl) ?hS1 (fun hHeld => ?rest2)
  case hS1 => (exact ⟨FG.cell 0 (by simp), FG.cell 1 (by simp), FG.cell 2 (by simp)⟩)
  refine wpAnyH_take (i := 0) (oi := _) (v := ?v3) rfl (by kernel_rfl) (by kernel_rfl) (by kernel_rfl) (fun _ _ _ h => h) (Or.inl ⟨by rfl, ?hy4⟩) hHeld ?rest5
  case hy4 => (intro w hSw; (try dsimp only at hSw); go_simp; (try with_reducible rfl))
  try simp only [Act.put, List.setIfInBounds_toArray, List.set_cons_zero, List.set_cons_succ]
  refine wpAnyH_take (i := 1) (oi := _) (v := ?v6) rfl (by kernel_rfl) (by kernel_rfl) (by kernel_rfl) (fun _ _ _ h => h) (Or.inl ⟨by rfl, ?hy7⟩) hHeld ?rest8
  case hy7 => (intro w hSw; (try dsimp only at hSw); go_simp; (try with_reducible rfl))
  try simp only [Act.put, List.setIfInBounds_toArray, List.set_cons_zero, List.set_cons_succ]
  refine wpAnyH_take (i := 2) (oi := _) (v := ?v9) rfl (by kernel_rfl) (by kernel_rfl) (by kernel_rfl) (fun _ _ _ h => h) (Or.inl ⟨by rfl, ?hy10⟩) hHeld ?rest11
  case hy10 => (intro w hSw; (try dsimp only at hSw); go_simp; (try with_reducible rfl))
  try simp only [Act.put, List.setIfInBounds_toArray, List.set_cons_zero, List.set_cons_succ]
  refine wpAnyH_take (i := 3) (oi := _) (v := ?v12) rfl (by kernel_rfl) (by kernel_rfl) (by kernel_rfl) (fun _ _ _ h => h) (Or.inl ⟨by rfl, ?hy13⟩) hHeld ?rest14
  case hy13 => (intro w hSw; (try dsimp only at hSw); go_simp; (try with_reducible rfl))
  try simp only [Act.put, List.setIfInBounds_toArray, List.set_cons_zero, List.set_cons_succ]
  refine wpAnyH_take (i := 4) (oi := _) (v := ?v15) rfl (by kernel_rfl) (by kernel_rfl) (by kernel_rfl) (fun _ _ _ h => h) (Or.inl ⟨by rfl, ?hy16⟩) hHeld ?rest17
  case hy16 => (intro w hSw; (try dsimp only at hSw); go_simp; (try with_reducible rfl))
  try simp only [Act.put, List.setIfInBounds_toArray, List.set_cons_zero, List.set_cons_succ]
  refine wpAnyH_take (i := 5) (oi := _) (v := ?v18) rfl (by kernel_rfl) (by kernel_rfl) (by kernel_rfl) (fun _ _ _ h => h) (Or.inl ⟨by rfl, ?hy19⟩) hHeld ?rest20
  case hy19 => (intro w hSw; (try dsimp only at hSw); go_simp; (try with_reducible rfl))
  try simp only [Act.put, List.setIfInBounds_toArray, List.set_cons_zero, List.set_cons_succ]
  refine wpAnyH_take (i := 6) (oi := _) (v := ?v21) rfl (by kernel_rfl) (by kernel_rfl) (by kernel_rfl) (fun _ _ _ h => h) (Or.inl ⟨by rfl, ?hy22⟩) hHeld ?rest23
  case hy22 => (intro w hSw; (try dsimp only at hSw); go_simp; (try with_reducible rfl))
  try simp only [Act.put, List.setIfInBounds_toArray, List.set_cons_zero, List.set_cons_succ]
  refine wpAnyH_take (i := 7) (oi := _) (v := ?v24) rfl (by kernel_rfl) (by kernel_rfl) (by kernel_rfl) (fun _ _ _ h => h) (Or.inl ⟨by rfl, ?hy25⟩) hHeld ?rest26
  case hy25 => (intro w hSw; (try dsimp only at hSw); go_simp; (try with_reducible rfl))
  try simp only [Act.put, List.setIfInBounds_toArray, List.set_cons_zero, List.set_cons_succ]
  refine wpAnyH_take (i := 9) (oi := _) (v := ?v27) rfl (by kernel_rfl) (by kernel_rfl) (by kernel_rfl) (fun _ _ _ h => h) (Or.inl ⟨by rfl, ?hy28⟩) hHeld ?rest29
  case hy28 => (intro w hSw; (try dsimp only at hSw); go_simp; (try with_reducible rfl))
  try simp only [Act.put, List.setIfInBounds_toArray, List.set_cons_zero, List.set_cons_succ]
  refine wpAnyH_take (i := 10) (oi := _) (v := ?v30) rfl (by kernel_rfl) (by kernel_rfl) (by kernel_rfl) (fun _ _ _ h => h) (Or.inl ⟨by rfl, ?hy31⟩) hHeld ?rest32
  case hy31 => (intro w hSw; (try dsimp only at hSw); go_simp; (try with_reducible rfl))
  try simp only [Act.put, List.setIfInBounds_toArray, List.set_cons_zero, List.set_cons_succ]
  refine wpAnyH_take (i := 11) (oi := _) (v := ?v33) rfl (by kernel_rfl) (by kernel_rfl) (by kernel_rfl) (fun _ _ _ h => h) (Or.inl ⟨by rfl, ?hy34⟩) hHeld ?rest35
  case hy34 => (intro w hSw; (try dsimp only at hSw); go_simp; (try with_reducible rfl))
  try simp only [Act.put, List.setIfInBounds_toArray, List.set_cons_zero, List.set_cons_succ]
  refine wpAnyH_take (i := 12) (oi := _) (v := ?v36) rfl (by kernel_rfl) (by kernel_rfl) (by kernel_rfl) (fun _ _ _ h => h) (Or.inl ⟨by rfl, ?hy37⟩) hHeld ?rest38
  case hy37 => (intro w hSw; (try dsimp only at hSw); go_simp; (try with_reducible rfl))
  try simp only [Act.put, List.setIfInBounds_toArray, List.set_cons_zero, List.set_cons_succ]
  refine wpAnyH_ready (rs := [8]) (by kernel_rfl) (by simp) ?_
  refine AllReadyH.cons (o := _) rfl (fun K hK => ?stp50) ?more51
  case stp50 =>
    go_simp
    refine hK.out _ _ ?hS52 (fun hHeld2 => ?rest53)
    case hS52 => (rw [← HV.out]; exact ⟨FG2.cell 0 (by simp), FG2.cell 1 (by simp), FG2.cell 2 (by simp)⟩)
    clear hK K hHeld
    have hHeld := hHeld2
    clear hHeld2
    try simp only [Act.put, List.setIfInBounds_toArray, List.set_cons_zero, List.set_cons_succ]
    rw [← HV.out]
    refine wpAnyH_ready (rs := [13]) (by kernel_rfl) (by simp) ?_
    refine AllReadyH.cons (o := _) rfl (fun K hK => ?stp46) ?more47
    case stp46 =>
      refine step_appS (w := w2) rfl (.tmp 11) (.tmp 15) 24 24 rfl eltSectorSpec hown0 rfl rfl hsrc hmx hby hbs2 ?_
      intro v3 w3 R3 hg3 hat3
      rw [Nat.zero_add, List.nil_append] at R3
      obtain ⟨A3, c3, rfl⟩ := own_form R3
      have hb3 := below_of_own hown0 hbs2 hg3
      have hb4 : Below (w.heap.size + 1) w1.drew w3 := hb12.trans hb3
      have F03 := (BX.dr0 F0).below hb4 h01
      have FG3 := (BX.dr0 FG).below hb4 hg1
      have hfz := fun j => F03.free j
      have r0 : (_ : Option Value) = some (.int .i64 0) := F03.cell 0 (by simp)
      have r1 : (_ : Option Value) = some (.int .i64 0) := F03.cell 1 (by simp)
      have r2 : (_ : Option Value) = some (.slice none 0 0) := F03.cell 2 (by simp)
      refine hK.out _ _ ?hS48 (fun hHeld2 => ?rest49)
      case hS48 => (exact ⟨FG3.cell 0 (by simp), FG3.cell 1 (by simp), FG3.cell 2 (by simp)⟩)
      clear hK K hHeld
      have hHeld := hHeld2
      clear hHeld2
      try simp only [Act.put, List.setIfInBounds_toArray, List.set_cons_zero, List.set_cons_succ]
      refine wpAnyH_take (i := 14) (oi := _) (v := ?v39) rfl (by kernel_rfl) (by kernel_rfl) (by kernel_rfl) (fun _ _ _ h => h) (Or.inl ⟨by rfl, ?hy40⟩) hHeld ?rest41
      case hy40 => (intro w hSw; (try dsimp only at hSw); go_simp; (try with_reducible rfl))
      try simp only [Act.put, List.setIfInBounds_toArray, List.set_cons_zero, List.set_cons_succ]
      refine wpAnyH_ready (rs := [15]) (by kernel_rfl) (by simp) ?_
      refine AllReadyH.cons (o := _) rfl (fun K hK => ?stp42) ?more43
      case stp42 =>
        go_simp
        refine hK.out _ _ ?hS44 (fun hHeld2 => ?rest45)
        case hS44 => (exact ⟨((World.cell?_setCell_far _ _ _ _ hgn).trans ((World.cell?_setCell_far _ _ _ _ hgn).trans (World.cell?_setCell_far _ _ _ _ hgn))).trans hHeld.1, ((World.cell?_setCell_far _ _ _ _ hgn).trans ((World.cell?_setCell_far _ _ _ _ hgn).trans (World.cell?_setCell_far _ _ _ _ hgn))).trans hHeld.2.1, ((World.cell?_setCell_far _ _ _ _ hgn).trans ((World.cell?_setCell_far _ _ _ _ hgn).trans (World.cell?_setCell_far _ _ _ _ hgn))).trans hHeld.2.2⟩)
        clear hK K hHeld
        have hHeld := hHeld2
        clear hHeld2
        try simp only [Act.put, List.setIfInBounds_toArray, List.set_cons_zero, List.set_cons_succ]
        refine wpAnyH_done (by kernel_rfl) ?_ _
        go_wp2
        refine bodyPost_ret (v := .agg #[.int .i64 f, .int .i64 gp, .slice A3 l.length c3]) (by simp [results, Tryz.results50, go_sem, World.cell?_setCell_other, r0, r1, r2]) rfl ⟨_, rfl, ?_, ?_⟩
        · exact own_base (OO.put (OO.put (OO.put R3 h01 _) h01 _) h01 _) (Nat.le_of_lt h01)
        · exact Below.setCell (Below.setCell (Below.setCell (Below.trans (Below.drew hb1) (hb4.mono (Nat.le_of_lt h01))) (Nat.le_refl _) _) (Nat.le_refl _) _) (Nat.le_refl _) _
      exact AllReadyH.nil
    exact AllReadyH.nil
  exact AllReadyH.nil
end Go.Proofs.YthelfgagddldfaaGreatDoor
