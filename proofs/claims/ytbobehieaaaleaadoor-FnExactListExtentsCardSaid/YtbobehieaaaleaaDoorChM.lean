/- Disks of blocks: their layout and their header. -/
import Derived.Test.YtbobehieaaaleaaDoorW6
import Derived.Test.YtbobehieaaaleaaDoorW33
namespace Go.Proofs.YtbobehieaaaleaaDoor
open Go.RowKit
set_option linter.unusedVariables false

def jn (l : List ByteArray) : List UInt8 := (l.map (fun b => b.data.toList)).flatten
/-- The number of bytes of the first block. -/
def s0 (l : List ByteArray) : Nat := (l.headD ⟨#[]⟩).size
def oneOf (n : Nat) : Bool := decide (n = 8) || decide (n = 16) || decide (n = 32)
def blkB (l : List ByteArray) : Bool := inB (l.length : Int) 8 128 && oneOf (s0 l) && l.all (fun b => decide (b.size = s0 l))
def chE (b : Nat) : Nat := min 16 (b / 8)
def chD (b s : Nat) : Nat := 1 + (b + s - 1) / s
def chX (b s : Nat) : Nat := chD b s + (chE b * 12 + s - 1) / s
def hd4 (b : Nat) : ByteArray := ⟨#[67, 72]⟩ ++ ⟨[UInt8.ofNat b, UInt8.ofNat (chE b)].toArray⟩
def hd6 (b : Nat) : ByteArray := hd4 b ++ wordB (crcOf (hd4 b) 65535)
def hdS (b s : Nat) : ByteArray := hd6 b ++ zerosB (s - 6)
def hdB (l : List ByteArray) : Bool := decide (l.headD ⟨#[]⟩ = hdS l.length (s0 l))
def chC (l : List ByteArray) : Int := if blkB l then (if hdB l then 0 else 7) else 1
theorem hd4_size (b : Nat) : (hd4 b).size = 4 := rfl
theorem hd6_size (b : Nat) : (hd6 b).size = 6 := by rw [hd6, ByteArray.size_append, hd4_size]; rfl
theorem hdS_size (b s : Nat) (h : 6 ≤ s) : (hdS b s).size = s := by rw [hdS, ByteArray.size_append, hd6_size, zerosB_size]; omega
theorem oneOf_yes {n : Nat} (h : oneOf n = true) : n = 8 ∨ n = 16 ∨ n = 32 := by
  simp only [oneOf, Bool.or_eq_true, decide_eq_true_eq] at h
  omega
section
variable {l : List ByteArray}
theorem blk_yes (h : blkB l = true) : 8 ≤ l.length ∧ l.length ≤ 128 ∧ (s0 l = 8 ∨ s0 l = 16 ∨ s0 l = 32) ∧ ∀ b ∈ l, b.size = s0 l := by
  simp only [blkB, Bool.and_eq_true, List.all_eq_true, decide_eq_true_eq] at h
  obtain ⟨h1, h2⟩ := inB_yes h.1.1
  exact ⟨by omega, by omega, oneOf_yes h.1.2, h.2⟩
theorem blk_1 (h : inB (l.length : Int) 8 128 = false) : blkB l = false := by simp only [blkB, h, Bool.false_and]
theorem blk_2 (h : oneOf (s0 l) = false) : blkB l = false := by simp only [blkB, h, Bool.false_and, Bool.and_false]
theorem blk_3 {k : Nat} (hk : k < l.length) (h : ¬ l[k].size = s0 l) : blkB l = false := by
  have : l.all (fun b => decide (b.size = s0 l)) = false := by
    rw [List.all_eq_false]
    exact ⟨l[k], List.getElem_mem hk, by simpa using h⟩
  rw [blkB, this, Bool.and_false]
theorem blk_4 (h1 : inB (l.length : Int) 8 128 = true) (h3 : ∀ k, (hk : k < l.length) → l[k].size = s0 l) : blkB l = oneOf (s0 l) := by
  have : l.all (fun b => decide (b.size = s0 l)) = true := by
    rw [List.all_eq_true]
    intro x hx
    obtain ⟨k, hk, rfl⟩ := List.getElem_of_mem hx
    exact decide_eq_true (h3 k hk)
  rw [blkB, this, h1, Bool.and_true, Bool.true_and]
theorem s0_eq (h : 0 < l.length) : s0 l = l[0].size := by
  cases l with
  | nil => simp at h
  | cons a t => rfl
theorem head_eq (h : 0 < l.length) : l.headD ⟨#[]⟩ = l[0] := by
  cases l with
  | nil => simp at h
  | cons a t => rfl
theorem chC_1 (h : blkB l = false) : chC l = 1 := by simp [chC, h]
theorem chC_2 (h : blkB l = true) (g : hdB l = false) : chC l = 7 := by simp [chC, h, g]
theorem chC_3 (h : blkB l = true) (g : hdB l = true) : chC l = 0 := by simp [chC, h, g]
theorem chC_yes (h : chC l = 0) : blkB l = true ∧ hdB l = true := by
  unfold chC at h
  split at h
  · rename_i h1
    split at h
    · rename_i h2
      exact ⟨h1, h2⟩
    · omega
  · omega
end
theorem jn_snoc (l : List ByteArray) (k : Nat) (h : k < l.length) : jn (l.take (k + 1)) = jn (l.take k) ++ l[k].data.toList := by
  rw [List.take_succ_eq_append_getElem h, jn, List.map_append, List.flatten_append]
  simp [jn]
theorem jn_take_len (l : List ByteArray) (s : Nat) (h : ∀ b ∈ l, b.size = s) : ∀ k, k ≤ l.length → (jn (l.take k)).length = k * s
  | 0, _ => by simp [jn]
  | k + 1, hk => by
    have h1 := h l[k] (List.getElem_mem (by omega))
    have h2 : l[k].data.toList.length = s := by rw [Array.length_toList]; exact h1
    rw [jn_snoc l k (by omega), List.length_append, jn_take_len l s h k (by omega), h2, Nat.succ_mul]
theorem jn_len (l : List ByteArray) (s : Nat) (h : ∀ b ∈ l, b.size = s) : (jn l).length = l.length * s := by
  have := jn_take_len l s h l.length (Nat.le_refl _)
  rwa [List.take_length] at this
theorem jn_head (l : List ByteArray) (h : 0 < l.length) (k : Nat) (hk : k < l[0].size) : (jn l)[k]? = some l[0][k] := by
  cases l with
  | nil => simp at h
  | cons a t =>
    have hk' : k < a.size := hk
    have : jn (a :: t) = a.data.toList ++ jn t := by simp [jn]
    rw [this, List.getElem?_append_left (by rw [Array.length_toList]; exact hk')]
    show a.data.toList[k]? = some a[k]
    rw [Array.getElem?_toList]
    exact Array.getElem?_eq_getElem hk'
/-- How much of the header is still to be compared. -/
def eqF (a b : ByteArray) (k : Nat) : Bool := a.data.toList.drop k == b.data.toList.drop k
theorem eqF_0 (a b : ByteArray) : eqF a b 0 = decide (a = b) := by
  unfold eqF
  rw [List.drop_zero, List.drop_zero]
  by_cases h : a = b
  · subst h
    simp
  · rw [decide_eq_false h]
    apply beq_false_of_ne
    intro e
    exact h (by
      obtain ⟨⟨x⟩⟩ := a
      obtain ⟨⟨y⟩⟩ := b
      have : x = y := e
      rw [this])
theorem eqF_step {a b : ByteArray} {k : Nat} {R : Bool} (ha : k < a.size) (hb : k < b.size) (h : eqF a b k = R) (g : a[k] = b[k]) : eqF a b (k + 1) = R := by
  rw [← h]
  unfold eqF
  have e1 : a.data.toList.drop k = a[k] :: a.data.toList.drop (k + 1) := List.drop_eq_getElem_cons (by rw [Array.length_toList]; exact ha)
  have e2 : b.data.toList.drop k = b[k] :: b.data.toList.drop (k + 1) := List.drop_eq_getElem_cons (by rw [Array.length_toList]; exact hb)
  rw [e1, e2, List.cons_beq_cons, g, beq_self_eq_true, Bool.true_and]
theorem eqF_no {a b : ByteArray} {k : Nat} {R : Bool} (ha : k < a.size) (hb : k < b.size) (h : eqF a b k = R) (g : ¬ a[k] = b[k]) : R = false := by
  rw [← h]
  unfold eqF
  have e1 : a.data.toList.drop k = a[k] :: a.data.toList.drop (k + 1) := List.drop_eq_getElem_cons (by rw [Array.length_toList]; exact ha)
  have e2 : b.data.toList.drop k = b[k] :: b.data.toList.drop (k + 1) := List.drop_eq_getElem_cons (by rw [Array.length_toList]; exact hb)
  rw [e1, e2, List.cons_beq_cons, beq_false_of_ne g, Bool.false_and]
theorem eqF_end {a b : ByteArray} {k : Nat} {R : Bool} (ha : ¬ k < a.size) (hb : ¬ k < b.size) (h : eqF a b k = R) : R = true := by
  rw [← h]
  unfold eqF
  have h1 : a.data.toList.length ≤ k := by rw [Array.length_toList]; exact Nat.not_lt.1 ha
  have h2 : b.data.toList.length ≤ k := by rw [Array.length_toList]; exact Nat.not_lt.1 hb
  rw [List.drop_eq_nil_of_le h1, List.drop_eq_nil_of_le h2]
  rfl
theorem hdS_lo (b s k : Nat) (h6 : 6 ≤ s) (hk : k < 6) (h : k < (hdS b s).size) : (hdS b s)[k] = (hd6 b)[k]'(by rw [hd6_size]; exact hk) := by
  unfold hdS
  exact ByteArray.getElem_append_left (by rw [hd6_size]; exact hk)
theorem zeros_get (n k : Nat) (h : k < (zerosB n).size) : (zerosB n)[k] = 0 := by
  show ((List.replicate n (0 : UInt8)).toArray)[k]'_ = 0
  simp
theorem hdS_hi (b s k : Nat) (hk : ¬ k < 6) (h : k < (hdS b s).size) : (hdS b s)[k] = 0 := by
  have h2 : (hd6 b).size ≤ k := by rw [hd6_size]; omega
  have e := ByteArray.getElem_append_right (a := hd6 b) (b := zerosB (s - 6)) (i := k) (h := h) h2
  unfold hdS
  rw [e]
  exact zeros_get _ _ _
end Go.Proofs.YtbobehieaaaleaaDoor
