/- Walks: the law ReadFeature. -/
import Derived.Test.YtjcghghhpmghhaaDoorR10
namespace Go.Proofs.YtjcghghhpmghhaaDoor
open Go.RowKit Go.Lib
set_option linter.unusedVariables false
set_option linter.unusedSimpArgs false

set_option maxRecDepth 100000 in
theorem eqFeature_same (a b c : Int) (w : World) : Calls Tryd.prog 6 #[.agg #[.int .i64 a, .int .i64 b, .int .i64 c], .agg #[.int .i64 a, .int .i64 b, .int .i64 c]] w fun e w' => e = .returned (.bool true) ∧ Below w.heap.size w w' := by
  have F0 := (BX.made w 23 [.int .i64 a, .int .i64 b, .int .i64 c]).al (.cells #[.int .i64 a, .int .i64 b, .int .i64 c] 23)
  have F1 := BX.made (w.alloc (.cells #[.int .i64 a, .int .i64 b, .int .i64 c] 23)) 23 [.int .i64 a, .int .i64 b, .int .i64 c]
  have p0 : (_ : Option Value) = some (.int .i64 a) := F0.cell 0 (by simp)
  have p1 : (_ : Option Value) = some (.int .i64 b) := F0.cell 1 (by simp)
  have p2 : (_ : Option Value) = some (.int .i64 c) := F0.cell 2 (by simp)
  have q0 : (_ : Option Value) = some (.int .i64 a) := F1.cell 0 (by simp)
  have q1 : (_ : Option Value) = some (.int .i64 b) := F1.cell 1 (by simp)
  have q2 : (_ : Option Value) = some (.int .i64 c) := F1.cell 2 (by simp)
  have ha : (a == a) = true := beq_self_eq_true a
  have hb : (b == b) = true := beq_self_eq_true b
  have hc : (c == c) = true := beq_self_eq_true c
  go_enter Tryd.func6, Tryd.ntmps6
  go_wp2
  go_ret
  exact ⟨rfl, by first | exact Below.refl _ _ | exact BB.al (BB.al (BB.start w) _) _⟩
set_option maxRecDepth 100000 in
set_option maxHeartbeats 4000000 in
theorem walk_ReadFeature (s : ByteArray) (w : World) (G : GW w) : Calls Tryd.prog 3 #[.string s] w fun e w' => e = .returned (.bool true) ∧ Below w.heap.size w w' := by
  by_cases h : s.size ≤ 1048576
  · have g : ¬ (1048576 < (s.size : Int)) := by omega
    have c1 := spec_ReadFeature_any s w h
    have GX := Lib.hid G
    have c2 := fun W (hB : BB w W) => impl_ReadFeature_any s W h (GX.out.bb hB)
    clear G
    generalize rfF s.data.toList = f at c1 c2
    obtain ⟨a, b, c⟩ := f
    dsimp only at c1 c2
    generalize rfOk s.data.toList = ok at c1 c2
    cases ok
    all_goals
      go_enter Tryd.func3, Tryd.ntmps3
      go_wp2_with (first
        | (go_at_call 4; (with_reducible refine c1.mono ?_); rintro e w1 ⟨rfl, hx1⟩; have F1 := BX.made w1 23 [.int .i64 a, .int .i64 b, .int .i64 c]; have hB1 : BB w (w1.alloc (.cells #[.int .i64 a, .int .i64 b, .int .i64 c] 23)) := BB.al (BB.next (BB.start w) hx1) (.cells #[.int .i64 a, .int .i64 b, .int .i64 c] 23))
        | (go_at_call 5; (with_reducible refine (c2 _ hB1).mono ?_); rintro e w2 ⟨rfl, hx2⟩; have F2 := (F1.below hx2 F1.lt).al (.cells #[.int .i64 a, .int .i64 b, .int .i64 c] 23); have F3 := BX.made w2 23 [.int .i64 a, .int .i64 b, .int .i64 c]; have hB2 : BB w (w2.alloc (.cells #[.int .i64 a, .int .i64 b, .int .i64 c] 23)) := BB.al (BB.next hB1 hx2) (.cells #[.int .i64 a, .int .i64 b, .int .i64 c] 23); have p0 : (_ : Option Value) = some (.int .i64 a) := F2.cell 0 (by simp); have p1 : (_ : Option Value) = some (.int .i64 b) := F2.cell 1 (by simp); have p2 : (_ : Option Value) = some (.int .i64 c) := F2.cell 2 (by simp); have q0 : (_ : Option Value) = some (.int .i64 a) := F3.cell 0 (by simp); have q1 : (_ : Option Value) = some (.int .i64 b) := F3.cell 1 (by simp); have q2 : (_ : Option Value) = some (.int .i64 c) := F3.cell 2 (by simp))
        | (go_at_call 6; (with_reducible refine (eqFeature_same a b c _).mono ?_); rintro e w3 ⟨rfl, hx3⟩; have hB3 : BB w w3 := BB.next hB2 hx3))
      go_ret
      exact ⟨rfl, hB3⟩
  · have g : 1048576 < (s.size : Int) := by omega
    clear G
    go_enter Tryd.func3, Tryd.ntmps3
    go_wp2
    go_ret
    exact ⟨rfl, Below.refl _ _⟩
end Go.Proofs.YtjcghghhpmghhaaDoor
