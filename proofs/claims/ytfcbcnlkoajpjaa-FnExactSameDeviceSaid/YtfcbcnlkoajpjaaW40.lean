/- Walks: equality of slices. -/
import Derived.Test.YtfcbcnlkoajpjaaSDisc
import Derived.Test.YtfcbcnlkoajpjaaSInt64
import Derived.Test.YtfcbcnlkoajpjaaSString
import Derived.Test.YtfcbcnlkoajpjaaStep
namespace Go.Proofs.Ytfcbcnlkoajpjaa
open Go.RowKit
set_option linter.unusedVariables false

def sameL {α : Type} (q : α → α → Bool) : List α → List α → Bool
  | [], [] => true
  | x :: l, y :: m => q x y && sameL q l m
  | _, _ => false
section
variable {α : Type} {q : α → α → Bool}
theorem sameL_len : ∀ (l m : List α), ¬ l.length = m.length → sameL q l m = false
  | [], [], h => absurd rfl h
  | [], _ :: _, _ => rfl
  | _ :: _, [], _ => rfl
  | x :: l, y :: m, h => by
    have := sameL_len l m (fun e => h (by simp [e]))
    simp [sameL, this]
theorem sameL_bad : ∀ (l m : List α) (k : Nat) (h1 : k < l.length) (h2 : k < m.length), q l[k] m[k] = false → sameL q l m = false
  | [], _, k, h1, _, _ => absurd h1 (by simp)
  | _ :: _, [], k, _, h2, _ => absurd h2 (by simp)
  | x :: l, y :: m, 0, _, _, h => by
    have : q x y = false := h
    simp [sameL, this]
  | x :: l, y :: m, k + 1, h1, h2, h => by
    have := sameL_bad l m k (by simpa using h1) (by simpa using h2) h
    simp [sameL, this]
theorem sameL_all : ∀ (l m : List α), l.length = m.length → (∀ k (h1 : k < l.length) (h2 : k < m.length), q l[k] m[k] = true) → sameL q l m = true
  | [], [], _, _ => rfl
  | [], _ :: _, h, _ => by simp at h
  | _ :: _, [], h, _ => by simp at h
  | x :: l, y :: m, h, ha => by
    have h0 : q x y = true := ha 0 (by simp) (by simp)
    have := sameL_all l m (by simpa using h) (fun k h1 h2 => ha (k + 1) (by simpa using h1) (by simpa using h2))
    simp [sameL, h0, this]
end
theorem all_next {p : Nat → Prop} {k : Nat} (h : ∀ j, j < k → p j) (hk : p k) : ∀ j, j < k + 1 → p j := fun j hj => by
  rcases Nat.lt_or_ge j k with h1 | h1
  · exact h j h1
  · obtain rfl : j = k := by omega
    exact hk
theorem quiet_draw {P : Program} {f : FuncId} {args : Array Value} {w : World} {n : Nat} {v : Value}
    (h : Calls P f args (w.drewN n) fun e w' => e = .returned v ∧ ∃ k, w' = (w.drewN n).drewN k) : Calls P f args (w.drewN n) fun e w'' => e = .returned v ∧ ∃ m, w'' = w.drewN m :=
  h.mono fun _ _ ⟨he, k, hk⟩ => ⟨he, n + k, by rw [hk, World.drewN_drewN]⟩
def qStr (x y : ByteArray) : Bool := x.toList == y.toList
def qInt (x y : Int) : Bool := x == y
def qSec (x y : DSector) : Bool := (x.f0.toList == y.f0.toList) && x.f1 == y.f1

set_option maxRecDepth 100000 in
set_option maxHeartbeats 1000000 in
theorem equalSec_any (A A' : Option Addr) (c c' : Nat) (l m : List DSector) (w : World) (B : Nat) (h : Rd w B 2 A l.length (flat fSector l)) (h' : Rd w B 2 A' m.length (flat fSector m)) (hn : l.length ≤ 1048576) (hn' : m.length ≤ 1048576) :
    Calls Try.prog 61 #[.slice A l.length c, .slice A' m.length c'] w fun e w' => e = .returned (.bool (sameL qSec l m)) ∧ ∃ n, w' = w.drewN n := by
  by_cases hl : l.length = m.length
  · have HA := Lib.hid (sameL_all (q := qSec) l m hl)
    have HB := Lib.hid (sameL_bad (q := qSec) l m)
    have g1 : (((l.length : Nat) : Int) != ((m.length : Nat) : Int)) = false := by simp [hl]
    have g1' : (l.length != m.length) = false := by simp [hl]
    have HL := Lib.hid hl
    go_enter Try.func61, Try.ntmps61
    go_wp2
    go_loopw [5, 13] (fun _ i wr => ∃ k n : Nat, k ≤ l.length ∧ i = .int .i64 k ∧ wr = w.drewN n ∧ Hid (∀ j, j < k → ∀ (h1 : j < l.length) (h2 : j < m.length), qSec l[j] m[j] = true)) (fun _ i _ => l.length - (intOf i).toNat)
    case atStart => exact ⟨0, 0, Nat.zero_le _, rfl, rfl, Lib.hid (fun j hj => absurd hj (by omega))⟩
    case round =>
      obtain ⟨k, n, hk, rfl, rfl, HI⟩ := hrel
      by_cases hlt : k < l.length
      · have hlt' : k < m.length := by omega
        obtain ⟨b, off, rfl, hbb, hc⟩ := h.at_ fSector_len rfl k hlt
        obtain ⟨b', off', rfl, hbb', hd⟩ := h'.at_ fSector_len rfl k hlt'
        have hc0 := hc 0 _ (by omega) rfl
        have hd0 := hd 0 _ (by omega) rfl
        have hc1 := hc 1 _ (by omega) rfl
        have hd1 := hd 1 _ (by omega) rfl
        clear hc hd
        simp only [← Nat.add_assoc, Nat.add_zero] at hc0 hd0 hc1 hd1
        have hkm : (k : Int) < (m.length : Int) := by omega
        have hkm2 : decide ((k : Int) < (m.length : Int)) = true := by simp; omega
        have q1 : Try.prog.stoodInHeld 71 = false := by kernel_rfl
        have q2 : Try.prog.eqGuardType Try.prog.depth 71 = false := by kernel_rfl
        cases s0 : (l[k].f0.toList == m[k].f0.toList)
        · have HR := Lib.hid (HB.out k hlt hlt' (by unfold qSec; rw [s0]; rfl))
          go_wp2_with fail
          go_quiet (fail)
          go_wp2
          go_ret
          exact ⟨ret_bool HR.out.symm, n + nq, by rw [World.drewN_drewN]⟩
        cases s1 : (l[k].f1 == m[k].f1)
        · have HR := Lib.hid (HB.out k hlt hlt' (by unfold qSec; rw [s0, s1]; rfl))
          go_wp2_with fail
          go_quiet (fail)
          go_wp2
          go_ret
          exact ⟨ret_bool HR.out.symm, n + nq, by rw [World.drewN_drewN]⟩
        have HN := Lib.hid (all_next HI.out (fun _ _ => by unfold qSec; rw [s0, s1]; rfl))
        go_wp2_with fail
        go_quiet (fail)
        go_wp2
        go_roundw
        case rel => exact ⟨k + 1, _, by omega, by go_num, rfl, HN⟩
        case measure => (simp [intOf] <;> omega)
      · have HR := Lib.hid (HA.out (fun j h1 h2 => HI.out j (by omega) h1 h2))
        go_wp2
        go_ret
        exact ⟨ret_bool HR.out.symm, _, rfl⟩
  · have HR := Lib.hid (sameL_len (q := qSec) l m hl)
    have g1 : (((l.length : Nat) : Int) != ((m.length : Nat) : Int)) = true := by simp; omega
    have g1' : (l.length != m.length) = true := by simp; omega
    clear hl
    go_enter Try.func61, Try.ntmps61
    go_wp2
    go_ret
    exact ⟨ret_bool HR.out.symm, 0, rfl⟩
set_option maxRecDepth 100000 in
set_option maxHeartbeats 1000000 in
theorem equalStr_any (A A' : Option Addr) (c c' : Nat) (l m : List ByteArray) (w : World) (B : Nat) (h : Rd w B 1 A l.length (flat fS l)) (h' : Rd w B 1 A' m.length (flat fS m)) (hn : l.length ≤ 1048576) (hn' : m.length ≤ 1048576) :
    Calls Try.prog 73 #[.slice A l.length c, .slice A' m.length c'] w fun e w' => e = .returned (.bool (sameL qStr l m)) ∧ ∃ n, w' = w.drewN n := by
  by_cases hl : l.length = m.length
  · have HA := Lib.hid (sameL_all (q := qStr) l m hl)
    have HB := Lib.hid (sameL_bad (q := qStr) l m)
    have g1 : (((l.length : Nat) : Int) != ((m.length : Nat) : Int)) = false := by simp [hl]
    have g1' : (l.length != m.length) = false := by simp [hl]
    have HL := Lib.hid hl
    go_enter Try.func73, Try.ntmps73
    go_wp2
    go_loopw [5, 13] (fun _ i wr => ∃ k n : Nat, k ≤ l.length ∧ i = .int .i64 k ∧ wr = w.drewN n ∧ Hid (∀ j, j < k → ∀ (h1 : j < l.length) (h2 : j < m.length), qStr l[j] m[j] = true)) (fun _ i _ => l.length - (intOf i).toNat)
    case atStart => exact ⟨0, 0, Nat.zero_le _, rfl, rfl, Lib.hid (fun j hj => absurd hj (by omega))⟩
    case round =>
      obtain ⟨k, n, hk, rfl, rfl, HI⟩ := hrel
      by_cases hlt : k < l.length
      · have hlt' : k < m.length := by omega
        obtain ⟨b, off, rfl, hbb, hc⟩ := h.at_ fS_len rfl k hlt
        obtain ⟨b', off', rfl, hbb', hd⟩ := h'.at_ fS_len rfl k hlt'
        have hc0 := hc 0 _ (by omega) rfl
        have hd0 := hd 0 _ (by omega) rfl
        clear hc hd
        simp only [Nat.mul_one, Nat.add_zero] at hc0 hd0
        have hkm : (k : Int) < (m.length : Int) := by omega
        have hkm2 : decide ((k : Int) < (m.length : Int)) = true := by simp; omega
        cases s0 : (l[k].toList == m[k].toList)
        · have HR := Lib.hid (HB.out k hlt hlt' s0)
          go_wp2_with fail
          go_quiet (fail)
          go_wp2
          go_ret
          exact ⟨ret_bool HR.out.symm, n + nq, by rw [World.drewN_drewN]⟩
        have HN := Lib.hid (all_next HI.out (fun _ _ => s0))
        go_wp2_with fail
        go_quiet (fail)
        go_wp2
        go_roundw
        case rel => exact ⟨k + 1, _, by omega, by go_num, rfl, HN⟩
        case measure => (simp [intOf] <;> omega)
      · have HR := Lib.hid (HA.out (fun j h1 h2 => HI.out j (by omega) h1 h2))
        go_wp2
        go_ret
        exact ⟨ret_bool HR.out.symm, _, rfl⟩
  · have HR := Lib.hid (sameL_len (q := qStr) l m hl)
    have g1 : (((l.length : Nat) : Int) != ((m.length : Nat) : Int)) = true := by simp; omega
    have g1' : (l.length != m.length) = true := by simp; omega
    clear hl
    go_enter Try.func73, Try.ntmps73
    go_wp2
    go_ret
    exact ⟨ret_bool HR.out.symm, 0, rfl⟩

set_option maxRecDepth 100000 in
set_option maxHeartbeats 1000000 in
theorem equalInt_any (A A' : Option Addr) (c c' : Nat) (l m : List Int) (w : World) (B : Nat) (h : Rd w B 1 A l.length (flat fI l)) (h' : Rd w B 1 A' m.length (flat fI m)) (hn : l.length ≤ 1048576) (hn' : m.length ≤ 1048576) :
    Calls Try.prog 78 #[.slice A l.length c, .slice A' m.length c'] w fun e w' => e = .returned (.bool (sameL qInt l m)) ∧ ∃ n, w' = w.drewN n := by
  by_cases hl : l.length = m.length
  · have HA := Lib.hid (sameL_all (q := qInt) l m hl)
    have HB := Lib.hid (sameL_bad (q := qInt) l m)
    have g1 : (((l.length : Nat) : Int) != ((m.length : Nat) : Int)) = false := by simp [hl]
    have g1' : (l.length != m.length) = false := by simp [hl]
    have HL := Lib.hid hl
    go_enter Try.func78, Try.ntmps78
    go_wp2
    go_loopw [5, 13] (fun _ i wr => ∃ k n : Nat, k ≤ l.length ∧ i = .int .i64 k ∧ wr = w.drewN n ∧ Hid (∀ j, j < k → ∀ (h1 : j < l.length) (h2 : j < m.length), qInt l[j] m[j] = true)) (fun _ i _ => l.length - (intOf i).toNat)
    case atStart => exact ⟨0, 0, Nat.zero_le _, rfl, rfl, Lib.hid (fun j hj => absurd hj (by omega))⟩
    case round =>
      obtain ⟨k, n, hk, rfl, rfl, HI⟩ := hrel
      by_cases hlt : k < l.length
      · have hlt' : k < m.length := by omega
        obtain ⟨b, off, rfl, hbb, hc⟩ := h.at_ fI_len rfl k hlt
        obtain ⟨b', off', rfl, hbb', hd⟩ := h'.at_ fI_len rfl k hlt'
        have hc0 := hc 0 _ (by omega) rfl
        have hd0 := hd 0 _ (by omega) rfl
        clear hc hd
        simp only [Nat.mul_one, Nat.add_zero] at hc0 hd0
        have hkm : (k : Int) < (m.length : Int) := by omega
        have hkm2 : decide ((k : Int) < (m.length : Int)) = true := by simp; omega
        cases s0 : (l[k] == m[k])
        · have HR := Lib.hid (HB.out k hlt hlt' s0)
          go_wp2_with fail
          go_quiet (fail)
          go_wp2
          go_ret
          exact ⟨ret_bool HR.out.symm, n + nq, by rw [World.drewN_drewN]⟩
        have HN := Lib.hid (all_next HI.out (fun _ _ => s0))
        go_wp2_with fail
        go_quiet (fail)
        go_wp2
        go_roundw
        case rel => exact ⟨k + 1, _, by omega, by go_num, rfl, HN⟩
        case measure => (simp [intOf] <;> omega)
      · have HR := Lib.hid (HA.out (fun j h1 h2 => HI.out j (by omega) h1 h2))
        go_wp2
        go_ret
        exact ⟨ret_bool HR.out.symm, _, rfl⟩
  · have HR := Lib.hid (sameL_len (q := qInt) l m hl)
    have g1 : (((l.length : Nat) : Int) != ((m.length : Nat) : Int)) = true := by simp; omega
    have g1' : (l.length != m.length) = true := by simp; omega
    clear hl
    go_enter Try.func78, Try.ntmps78
    go_wp2
    go_ret
    exact ⟨ret_bool HR.out.symm, 0, rfl⟩

set_option maxRecDepth 100000 in
set_option maxHeartbeats 1000000 in
theorem l00Same_any (A A' : Option Addr) (c c' : Nat) (l m : List Int) (w : World) (B : Nat) (h : Rd w B 1 A l.length (flat fI l)) (h' : Rd w B 1 A' m.length (flat fI m)) (hn : l.length ≤ 1048576) (hn' : m.length ≤ 1048576) :
    Calls Try.prog 76 #[.slice A l.length c, .slice A' m.length c'] w fun e w' => e = .returned (.bool (sameL qInt l m)) ∧ ∃ n, w' = w.drewN n := by
  by_cases hl : l.length = m.length
  · have HA := Lib.hid (sameL_all (q := qInt) l m hl)
    have HB := Lib.hid (sameL_bad (q := qInt) l m)
    have g1 : (((l.length : Nat) : Int) != ((m.length : Nat) : Int)) = false := by simp [hl]
    have g1' : (l.length != m.length) = false := by simp [hl]
    have HL := Lib.hid hl
    go_enter Try.func76, Try.ntmps76
    go_wp2
    go_loopw [5] (fun i wr => ∃ k n : Nat, k ≤ l.length ∧ i = .int .i64 k ∧ wr = w.drewN n ∧ Hid (∀ j, j < k → ∀ (h1 : j < l.length) (h2 : j < m.length), qInt l[j] m[j] = true)) (fun i _ => l.length - (intOf i).toNat)
    case atStart => exact ⟨0, 0, Nat.zero_le _, rfl, rfl, Lib.hid (fun j hj => absurd hj (by omega))⟩
    case round =>
      obtain ⟨k, n, hk, rfl, rfl, HI⟩ := hrel
      by_cases hlt : k < l.length
      · have hlt' : k < m.length := by omega
        obtain ⟨b, off, rfl, hbb, hc⟩ := h.at_ fI_len rfl k hlt
        obtain ⟨b', off', rfl, hbb', hd⟩ := h'.at_ fI_len rfl k hlt'
        have hc0 := hc 0 _ (by omega) rfl
        have hd0 := hd 0 _ (by omega) rfl
        clear hc hd
        simp only [Nat.mul_one, Nat.add_zero] at hc0 hd0
        have hkm : (k : Int) < (m.length : Int) := by omega
        have hkm2 : decide ((k : Int) < (m.length : Int)) = true := by simp; omega
        cases s0 : (l[k] == m[k])
        · have HR := Lib.hid (HB.out k hlt hlt' s0)
          go_wp2_with fail
          go_quiet (fail)
          go_wp2
          go_ret
          exact ⟨ret_bool HR.out.symm, n + nq, by rw [World.drewN_drewN]⟩
        have HN := Lib.hid (all_next HI.out (fun _ _ => s0))
        go_wp2_with fail
        go_quiet (fail)
        go_wp2
        go_roundw
        case rel => exact ⟨k + 1, _, by omega, by go_num, rfl, HN⟩
        case measure => (simp [intOf] <;> omega)
      · have HR := Lib.hid (HA.out (fun j h1 h2 => HI.out j (by omega) h1 h2))
        go_wp2
        go_ret
        exact ⟨ret_bool HR.out.symm, _, rfl⟩
  · have HR := Lib.hid (sameL_len (q := qInt) l m hl)
    have g1 : (((l.length : Nat) : Int) != ((m.length : Nat) : Int)) = true := by simp; omega
    have g1' : (l.length != m.length) = true := by simp; omega
    clear hl
    go_enter Try.func76, Try.ntmps76
    go_wp2
    go_ret
    exact ⟨ret_bool HR.out.symm, 0, rfl⟩

end Go.Proofs.Ytfcbcnlkoajpjaa
