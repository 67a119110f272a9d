/- Walks: ValidFiles. -/
import Derived.Test.YtepipnigcgpncaaSFile
import Derived.Test.YtepipnigcgpncaaW3
import Derived.Deep.QuietTactic
import Derived.BigQuiet
namespace Go.Proofs.Ytepipnigcgpncaa
open Go.RowKit
set_option linter.unusedVariables false

def okFileAt (l : List DFile) (k : Nat) : Bool := match l[k]? with
  | none => false
  | some f => isName f.f0 && decide (f.f1.size ≤ 512) && (decide (k = 0) || (match l[k - 1]? with | none => false | some g => Op.bytesLess g.f0.toList f.f0.toList))
theorem okFileAt_eq (l : List DFile) (k : Nat) (hk : k < l.length) : okFileAt l k = (isName l[k].f0 && decide (l[k].f1.size ≤ 512) && (decide (k = 0) || Op.bytesLess (l[k - 1]'(by omega)).f0.toList l[k].f0.toList)) := by
  unfold okFileAt
  rw [List.getElem?_eq_getElem hk]
  simp only
  rw [List.getElem?_eq_getElem (show k - 1 < l.length by omega)]
def okFiles (l : List DFile) : Bool := decide (l.length ≤ 16) && (List.range l.length).all (okFileAt l)
theorem okFiles_bad (l : List DFile) (k : Nat) (hk : k < l.length) (h : okFileAt l k = false) : okFiles l = false := by
  unfold okFiles
  have : (List.range l.length).all (okFileAt l) = false := by
    rw [List.all_eq_false]
    exact ⟨k, List.mem_range.2 hk, by simp [h]⟩
  rw [this, Bool.and_false]
theorem okFiles_all (l : List DFile) (h : ∀ k, k < l.length → okFileAt l k = true) : okFiles l = decide (l.length ≤ 16) := by
  unfold okFiles
  have : (List.range l.length).all (okFileAt l) = true := by
    rw [List.all_eq_true]
    intro k hk
    exact h k (List.mem_range.1 hk)
  rw [this, Bool.and_true]
theorem okFiles_step {l : List DFile} {k : Nat} (h : ∀ j, j < k → okFileAt l j = true) (hk : okFileAt l k = true) : ∀ j, j < k + 1 → okFileAt l j = true := fun j hj => by
  rcases Nat.lt_or_ge j k with h1 | h1
  · exact h j h1
  · obtain rfl : j = k := by omega
    exact hk

set_option maxRecDepth 100000 in
set_option maxHeartbeats 1000000 in
theorem impl_ValidFiles_any (A : Option Addr) (c : Nat) (l : List DFile) (w : World) (h : Rd w w.heap.size 2 A l.length (flat fFile l)) (hn : l.length ≤ 1048576) (hs : ∀ x ∈ l, x.f0.size ≤ 1048576 ∧ x.f1.size ≤ 1048576) :
    Calls Try.prog 49 #[.slice A l.length c] w fun e w' => e = .returned (.bool (okFiles l)) ∧ Below w.heap.size w w' := by
  go_enter Try.func49, Try.ntmps49
  go_wp2
  go_loopw [3, 4, 7] (fun _ _ i wr => ∃ k : Nat, k ≤ l.length ∧ i = .int .i64 k ∧ Below w.heap.size w wr ∧ Hid (∀ j, j < k → okFileAt l j = true)) (fun _ _ i _ => l.length - (intOf i).toNat)
  case atStart => exact ⟨0, Nat.zero_le _, rfl, Below.refl _ _, Lib.hid (fun j hj => absurd hj (by omega))⟩
  case round =>
    obtain ⟨k, hk, rfl, hb, HA⟩ := hrel
    by_cases hlt : k < l.length
    · obtain ⟨b, off, rfl, hbb, hc⟩ := (h.below hb).at_ fFile_len rfl k hlt
      have hc0 := hc 0 _ (by omega) rfl
      have hc1 := hc 1 _ (by omega) rfl
      obtain ⟨hss, hss2⟩ := hs l[k] (List.getElem_mem hlt)
      clear hc
      simp only [← Nat.add_assoc, Nat.add_zero] at hc0 hc1
      have EQ := Lib.hid (okFileAt_eq l k hlt)
      cases hnm : isName l[k].f0
      · have HR := Lib.hid (okFiles_bad l k hlt (by rw [EQ.out, hnm]; rfl))
        go_wp2_with fail
        have q0 : (wr.alloc (Obj.cells #[Value.string l[k].f0, Value.string l[k].f1] 80)).cell? ⟨wr.heap.size, 0, none⟩ = some (.string l[k].f0) := by simp
        have q1 : (wr.alloc (Obj.cells #[Value.string l[k].f0, Value.string l[k].f1] 80)).cell? ⟨wr.heap.size, 1, none⟩ = some (.string l[k].f1) := by simp
        have q2 : Below wr.heap.size wr (wr.alloc (Obj.cells #[Value.string l[k].f0, Value.string l[k].f1] 80)) := (Below.refl _ _).alloc (Nat.le_refl _) _
        have hx := below_step hb q2
        generalize wr.alloc (Obj.cells #[Value.string l[k].f0, Value.string l[k].f1] 80) = wq at q0 q1 q2  hx ⊢
        go_quiet ((go_at_call 60; exact quiet_left (impl_IsName_any l[k].f0 _ hss)))
        go_wp2
        go_ret
        exact ⟨ret_bool (by rw [HR.out]), below_drewN hx _⟩
      · by_cases hd : l[k].f1.size ≤ 512
        · have g1 : ¬ ((512 : Int) < l[k].f1.size) := by omega
          have g2 : decide ((512 : Int) < l[k].f1.size) = false := by simp; omega
          by_cases h0 : 0 < k
          · obtain ⟨b', off', e', hbb', hcc⟩ := (h.below hb).at_ fFile_len rfl (k - 1) (by omega)
            cases e'
            have hc3 := hcc 0 _ (by omega) rfl
            have g4 : (0 : Int) < k := by omega
            have g5 : IntKind.i64.wrap ((k : Int) - 1) = (k : Int) - 1 := IntWalk.i64_in _ (by omega)
            have g6 : (0 : Int) ≤ (k : Int) - 1 := by omega
            have g7 : (k : Int) - 1 < l.length := by omega
            have g8 : ((k : Int) - 1).toNat = k - 1 := by omega
            simp only [Nat.add_zero] at hc3
            have g0 : decide (k = 0) = false := by simp; omega
            cases hls : Op.bytesLess (l[k - 1]'(by omega)).f0.toList l[k].f0.toList
            · have HR := Lib.hid (okFiles_bad l k hlt (by rw [EQ.out, hnm, hls, g0]; simp))
              go_wp2_with fail
              have q0 : (wr.alloc (Obj.cells #[Value.string l[k].f0, Value.string l[k].f1] 80)).cell? ⟨wr.heap.size, 0, none⟩ = some (.string l[k].f0) := by simp
              have q1 : (wr.alloc (Obj.cells #[Value.string l[k].f0, Value.string l[k].f1] 80)).cell? ⟨wr.heap.size, 1, none⟩ = some (.string l[k].f1) := by simp
              have q2 : Below wr.heap.size wr (wr.alloc (Obj.cells #[Value.string l[k].f0, Value.string l[k].f1] 80)) := (Below.refl _ _).alloc (Nat.le_refl _) _
              have hx := below_step hb q2
              have q3 := (q2.cell (p := ⟨b, off + (k - 1) * 2, none⟩) (by have := hb.size; show b < _; omega)).trans hc3
              generalize wr.alloc (Obj.cells #[Value.string l[k].f0, Value.string l[k].f1] 80) = wq at q0 q1 q2 q3 hx ⊢
              go_quiet ((go_at_call 60; exact quiet_left (impl_IsName_any l[k].f0 _ hss)))
              go_wp2
              go_ret
              exact ⟨ret_bool (by rw [HR.out]), below_drewN hx _⟩
            · have HN := Lib.hid (okFiles_step HA.out (by rw [EQ.out, hnm, hls]; simp [hd]))
              go_wp2_with fail
              have q0 : (wr.alloc (Obj.cells #[Value.string l[k].f0, Value.string l[k].f1] 80)).cell? ⟨wr.heap.size, 0, none⟩ = some (.string l[k].f0) := by simp
              have q1 : (wr.alloc (Obj.cells #[Value.string l[k].f0, Value.string l[k].f1] 80)).cell? ⟨wr.heap.size, 1, none⟩ = some (.string l[k].f1) := by simp
              have q2 : Below wr.heap.size wr (wr.alloc (Obj.cells #[Value.string l[k].f0, Value.string l[k].f1] 80)) := (Below.refl _ _).alloc (Nat.le_refl _) _
              have hx := below_step hb q2
              have q3 := (q2.cell (p := ⟨b, off + (k - 1) * 2, none⟩) (by have := hb.size; show b < _; omega)).trans hc3
              generalize wr.alloc (Obj.cells #[Value.string l[k].f0, Value.string l[k].f1] 80) = wq at q0 q1 q2 q3 hx ⊢
              go_quiet ((go_at_call 60; exact quiet_left (impl_IsName_any l[k].f0 _ hss)))
              go_wp2
              go_roundw
              case rel => exact ⟨k + 1, by omega, by go_num, below_drewN hx _, HN⟩
              case measure => (simp [intOf] <;> omega)
          · have HN := Lib.hid (okFiles_step HA.out (by rw [EQ.out, hnm]; simp [hd]; omega))
            have g3 : decide ((0 : Int) < k) = false := by simp; omega
            have g4 : decide (0 < k) = false := by simp; omega
            go_wp2_with fail
            have q0 : (wr.alloc (Obj.cells #[Value.string l[k].f0, Value.string l[k].f1] 80)).cell? ⟨wr.heap.size, 0, none⟩ = some (.string l[k].f0) := by simp
            have q1 : (wr.alloc (Obj.cells #[Value.string l[k].f0, Value.string l[k].f1] 80)).cell? ⟨wr.heap.size, 1, none⟩ = some (.string l[k].f1) := by simp
            have q2 : Below wr.heap.size wr (wr.alloc (Obj.cells #[Value.string l[k].f0, Value.string l[k].f1] 80)) := (Below.refl _ _).alloc (Nat.le_refl _) _
            have hx := below_step hb q2
            generalize wr.alloc (Obj.cells #[Value.string l[k].f0, Value.string l[k].f1] 80) = wq at q0 q1 q2  hx ⊢
            go_quiet ((go_at_call 60; exact quiet_left (impl_IsName_any l[k].f0 _ hss)))
            go_wp2
            go_roundw
            case rel => exact ⟨k + 1, by omega, by go_num, below_drewN hx _, HN⟩
            case measure => (simp [intOf] <;> omega)
        · have HR := Lib.hid (okFiles_bad l k hlt (by rw [EQ.out, hnm]; simp [hd]))
          have g1 : (512 : Int) < l[k].f1.size := by omega
          go_wp2_with fail
          have q0 : (wr.alloc (Obj.cells #[Value.string l[k].f0, Value.string l[k].f1] 80)).cell? ⟨wr.heap.size, 0, none⟩ = some (.string l[k].f0) := by simp
          have q1 : (wr.alloc (Obj.cells #[Value.string l[k].f0, Value.string l[k].f1] 80)).cell? ⟨wr.heap.size, 1, none⟩ = some (.string l[k].f1) := by simp
          have q2 : Below wr.heap.size wr (wr.alloc (Obj.cells #[Value.string l[k].f0, Value.string l[k].f1] 80)) := (Below.refl _ _).alloc (Nat.le_refl _) _
          have hx := below_step hb q2
          generalize wr.alloc (Obj.cells #[Value.string l[k].f0, Value.string l[k].f1] 80) = wq at q0 q1 q2  hx ⊢
          go_quiet ((go_at_call 60; exact quiet_left (impl_IsName_any l[k].f0 _ hss)))
          go_wp2
          go_ret
          exact ⟨ret_bool (by rw [HR.out]), below_drewN hx _⟩
    · have HR := Lib.hid (okFiles_all l (fun j hj => HA.out j (by omega)))
      go_wp2
      go_ret
      exact ⟨ret_bool (by rw [HR.out]; simp; omega), hb⟩
set_option maxRecDepth 100000 in
set_option maxHeartbeats 1000000 in
theorem l15Files_any (A : Option Addr) (c : Nat) (l : List DFile) (w : World) (h : Rd w w.heap.size 2 A l.length (flat fFile l)) (hn : l.length ≤ 1048576) (hs : ∀ x ∈ l, x.f0.size ≤ 1048576 ∧ x.f1.size ≤ 1048576) :
    Calls Try.prog 77 #[.slice A l.length c] w fun e w' => e = .returned (.bool (okFiles l)) ∧ Below w.heap.size w w' := by
  go_enter Try.func77, Try.ntmps77
  go_wp2
  go_loopw [3] (fun i wr => ∃ k : Nat, k ≤ l.length ∧ i = .int .i64 k ∧ Below w.heap.size w wr ∧ Hid (∀ j, j < k → okFileAt l j = true)) (fun i _ => l.length - (intOf i).toNat)
  case atStart => exact ⟨0, Nat.zero_le _, rfl, Below.refl _ _, Lib.hid (fun j hj => absurd hj (by omega))⟩
  case round =>
    obtain ⟨k, hk, rfl, hb, HA⟩ := hrel
    by_cases hlt : k < l.length
    · obtain ⟨b, off, rfl, hbb, hc⟩ := (h.below hb).at_ fFile_len rfl k hlt
      have hc0 := hc 0 _ (by omega) rfl
      have hc1 := hc 1 _ (by omega) rfl
      obtain ⟨hss, hss2⟩ := hs l[k] (List.getElem_mem hlt)
      clear hc
      simp only [← Nat.add_assoc, Nat.add_zero] at hc0 hc1
      have EQ := Lib.hid (okFileAt_eq l k hlt)
      cases hnm : isName l[k].f0
      · have HR := Lib.hid (okFiles_bad l k hlt (by rw [EQ.out, hnm]; rfl))
        go_wp2_with fail
        have hx := hb
        go_quiet ((go_at_call 58; exact quiet_left (spec_IsName_any l[k].f0 _ hss)))
        go_wp2
        go_ret
        exact ⟨ret_bool (by rw [HR.out]), below_drewN hx _⟩
      · by_cases hd : l[k].f1.size ≤ 512
        · have g1 : ¬ ((512 : Int) < l[k].f1.size) := by omega
          have g2 : decide ((512 : Int) < l[k].f1.size) = false := by simp; omega
          by_cases h0 : 0 < k
          · obtain ⟨b', off', e', hbb', hcc⟩ := (h.below hb).at_ fFile_len rfl (k - 1) (by omega)
            cases e'
            have hc3 := hcc 0 _ (by omega) rfl
            have g4 : (0 : Int) < k := by omega
            have g5 : IntKind.i64.wrap ((k : Int) - 1) = (k : Int) - 1 := IntWalk.i64_in _ (by omega)
            have g6 : (0 : Int) ≤ (k : Int) - 1 := by omega
            have g7 : (k : Int) - 1 < l.length := by omega
            have g8 : ((k : Int) - 1).toNat = k - 1 := by omega
            simp only [Nat.add_zero] at hc3
            have g0 : decide (k = 0) = false := by simp; omega
            cases hls : Op.bytesLess (l[k - 1]'(by omega)).f0.toList l[k].f0.toList
            · have HR := Lib.hid (okFiles_bad l k hlt (by rw [EQ.out, hnm, hls, g0]; simp))
              go_wp2_with fail
              have hx := hb
              go_quiet ((go_at_call 58; exact quiet_left (spec_IsName_any l[k].f0 _ hss)))
              go_wp2
              go_ret
              exact ⟨ret_bool (by rw [HR.out]), below_drewN hx _⟩
            · have HN := Lib.hid (okFiles_step HA.out (by rw [EQ.out, hnm, hls]; simp [hd]))
              go_wp2_with fail
              have hx := hb
              go_quiet ((go_at_call 58; exact quiet_left (spec_IsName_any l[k].f0 _ hss)))
              go_wp2
              go_roundw
              case rel => exact ⟨k + 1, by omega, by go_num, below_drewN hx _, HN⟩
              case measure => (simp [intOf] <;> omega)
          · have HN := Lib.hid (okFiles_step HA.out (by rw [EQ.out, hnm]; simp [hd]; omega))
            have g3 : decide ((0 : Int) < k) = false := by simp; omega
            have g4 : decide (0 < k) = false := by simp; omega
            go_wp2_with fail
            have hx := hb
            go_quiet ((go_at_call 58; exact quiet_left (spec_IsName_any l[k].f0 _ hss)))
            go_wp2
            go_roundw
            case rel => exact ⟨k + 1, by omega, by go_num, below_drewN hx _, HN⟩
            case measure => (simp [intOf] <;> omega)
        · have HR := Lib.hid (okFiles_bad l k hlt (by rw [EQ.out, hnm]; simp [hd]))
          have g1 : (512 : Int) < l[k].f1.size := by omega
          go_wp2_with fail
          have hx := hb
          go_quiet ((go_at_call 58; exact quiet_left (spec_IsName_any l[k].f0 _ hss)))
          go_wp2
          go_ret
          exact ⟨ret_bool (by rw [HR.out]), below_drewN hx _⟩
    · have HR := Lib.hid (okFiles_all l (fun j hj => HA.out j (by omega)))
      go_wp2
      go_ret
      exact ⟨ret_bool (by rw [HR.out]; simp; omega), hb⟩

set_option maxHeartbeats 1000000 in
theorem spec_ValidFiles_any (A : Option Addr) (c : Nat) (l : List DFile) (w : World) (h : Rd w w.heap.size 2 A l.length (flat fFile l)) (hn : l.length ≤ 1048576) (hs : ∀ x ∈ l, x.f0.size ≤ 1048576 ∧ x.f1.size ≤ 1048576) :
    Calls Try.prog 47 #[.slice A l.length c] w fun e w' => e = .returned (.bool (okFiles l)) ∧ Below w.heap.size w w' := by
  go_enter Try.func47, Try.ntmps47
  go_wp2_with (first | (go_at_call 77; refine (l15Files_any A c l _ h hn hs).mono ?_; rintro e w1 ⟨rfl, hx⟩))
  go_ret
  exact ⟨rfl, hx⟩
end Go.Proofs.Ytepipnigcgpncaa
