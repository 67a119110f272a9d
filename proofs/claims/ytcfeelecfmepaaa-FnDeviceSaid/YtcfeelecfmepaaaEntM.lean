/- Plain functions: the chunks of a container enter an image. -/
import Derived.Test.YtcfeelecfmepaaaW31
import Derived.Test.YtcfeelecfmepaaaW76
import Derived.Test.YtcfeelecfmepaaaSChunk
import Derived.Test.YtcfeelecfmepaaaUnpM
import Derived.Test.YtcfeelecfmepaaaCopyF
namespace Go.Proofs.Ytcfeelecfmepaaa
open Go.RowKit
set_option linter.unusedVariables false

/-- A sector of the plain bytes of a track. -/
def secAt (Z : ByteArray) (nb k : Nat) : DSector := ⟨Z.extract (k * (nb + 1) + 1) (k * (nb + 1) + (nb + 1)), (bt Z (k * (nb + 1)) : Int)⟩
def secs (Z : ByteArray) (nb P : Nat) : List DSector := (List.range P).map (secAt Z nb)
theorem secs_len (Z : ByteArray) (nb P : Nat) : (secs Z nb P).length = P := by simp [secs]
theorem secs_snoc (Z : ByteArray) (nb P : Nat) : secs Z nb (P + 1) = secs Z nb P ++ [secAt Z nb P] := by simp [secs, List.range_succ]
theorem secs_get (Z : ByteArray) (nb P k : Nat) (h : k < (secs Z nb P).length) : (secs Z nb P)[k] = secAt Z nb k := by simp [secs]
/-- The sectors of a track's data, if they are as described. -/
def trk (T P nb : Nat) (s : Int) (d : ByteArray) : Option (List DSector) :=
  if d.size = 0 then none else if T ≤ bt d 0 then none else
  match unp (d.extract 1 d.size) with
  | none => none
  | some l => if l.length = (nb + 1) * P ∧ (secs ⟨l.toArray⟩ nb P).all (secX s) = true then some (secs ⟨l.toArray⟩ nb P) else none
section
variable {T P nb : Nat} {s : Int} {d : ByteArray}
theorem trk_0 (h : d.size = 0) : trk T P nb s d = none := by simp [trk, h]
theorem trk_1 (h0 : ¬ d.size = 0) (h : T ≤ bt d 0) : trk T P nb s d = none := by simp [trk, h0, h]
theorem trk_2 (h0 : ¬ d.size = 0) (h : ¬ T ≤ bt d 0) (h2 : unp (d.extract 1 d.size) = none) : trk T P nb s d = none := by
  unfold trk
  rw [if_neg h0, if_neg h, h2]
theorem trk_3 (h0 : ¬ d.size = 0) (h : ¬ T ≤ bt d 0) {l : List UInt8} (h2 : unp (d.extract 1 d.size) = some l) (h3 : ¬ l.length = (nb + 1) * P) : trk T P nb s d = none := by
  unfold trk
  rw [if_neg h0, if_neg h, h2]
  simp only
  rw [if_neg (fun x => h3 x.1)]
theorem trk_4 (h0 : ¬ d.size = 0) (h : ¬ T ≤ bt d 0) {l : List UInt8} (h2 : unp (d.extract 1 d.size) = some l) {k : Nat} (hk : k < P) (h3 : secX s (secAt ⟨l.toArray⟩ nb k) = false) : trk T P nb s d = none := by
  unfold trk
  rw [if_neg h0, if_neg h, h2]
  simp only
  rw [if_neg]
  rintro ⟨_, x⟩
  rw [List.all_eq_true] at x
  have := x (secAt ⟨l.toArray⟩ nb k) (by simp only [secs, List.mem_map, List.mem_range]; exact ⟨k, hk, rfl⟩)
  rw [h3] at this
  cases this
theorem trk_5 (h0 : ¬ d.size = 0) (h : ¬ T ≤ bt d 0) {l : List UInt8} (h2 : unp (d.extract 1 d.size) = some l) (h3 : l.length = (nb + 1) * P) (h4 : ∀ k, k < P → secX s (secAt ⟨l.toArray⟩ nb k) = true) : trk T P nb s d = some (secs ⟨l.toArray⟩ nb P) := by
  unfold trk
  rw [if_neg h0, if_neg h, h2]
  simp only
  rw [if_pos]
  refine ⟨h3, ?_⟩
  rw [List.all_eq_true]
  intro x hx
  simp only [secs, List.mem_map, List.mem_range] at hx
  obtain ⟨k, hk, rfl⟩ := hx
  exact h4 k hk
theorem trk_in {ss : List DSector} (h : trk T P nb s d = some ss) : ss.length = P ∧ ¬ d.size = 0 ∧ bt d 0 < T ∧ ∀ x ∈ ss, secX s x = true := by
  unfold trk at h
  split at h
  · cases h
  · split at h
    · cases h
    · split at h
      · cases h
      · split at h
        · rename_i h0 h1 _ _ _ h2
          cases h
          refine ⟨secs_len _ _ _, h0, by omega, ?_⟩
          exact List.all_eq_true.1 h2.2
        · cases h
end
/-- What a track's data make of the sectors. -/
def rtL (T P nb : Nat) (s : Int) (l : List DSector) (d : ByteArray) : List DSector := match trk T P nb s d with | some ss => putT l (bt d 0 * P) ss | none => l
theorem rtL_no {T P nb : Nat} {s : Int} {l : List DSector} {d : ByteArray} (h : trk T P nb s d = none) : rtL T P nb s l d = l := by simp [rtL, h]
theorem rtL_yes {T P nb : Nat} {s : Int} {l ss : List DSector} {d : ByteArray} (h : trk T P nb s d = some ss) : rtL T P nb s l d = putT l (bt d 0 * P) ss := by simp [rtL, h]
/-- What a chunk makes of the sectors. -/
def entL (T P nb : Nat) (s : Int) (l : List DSector) (x : DChunk) : List DSector := if x.f0 = 2 then rtL T P nb s l x.f1 else l
/-- What a chunk makes of the notes. -/
def entN (n : List ByteArray) (x : DChunk) : List ByteArray := if x.f0 = 3 ∧ noteB x.f1 = true ∧ n.length < 8 then n ++ [x.f1] else n
/-- Whether a chunk may stand where it stands. -/
def entB (T P nb : Nat) (s : Int) (n : List ByteArray) (x : DChunk) : Bool :=
  if x.f0 = 3 then noteB x.f1 && decide (n.length < 8) else decide (x.f0 = 2) && (trk T P nb s x.f1).isSome
section
variable {T P nb : Nat} {s : Int} {l : List DSector} {n : List ByteArray} {k : Int} {d : ByteArray}
theorem entL_no (h : ¬ k = 2) : entL T P nb s l ⟨k, d⟩ = l := by simp [entL, h]
theorem entL_yes (hk : k = 2) : entL T P nb s l ⟨k, d⟩ = rtL T P nb s l d := by simp [entL, hk]
theorem entN_no (h : ¬ k = 3) : entN n ⟨k, d⟩ = n := by simp [entN, h]
theorem entN_bad (h : noteB d = false) : entN n ⟨k, d⟩ = n := by simp [entN, h]
theorem entN_full (h : ¬ n.length < 8) : entN n ⟨k, d⟩ = n := by simp [entN, h]
theorem entN_yes (hk : k = 3) (h : noteB d = true) (h8 : n.length < 8) : entN n ⟨k, d⟩ = n ++ [d] := by simp [entN, h, hk, h8]
theorem rtL_in (h : ∀ x ∈ l, secX s x = true) (d : ByteArray) : ∀ y ∈ rtL T P nb s l d, secX s y = true := by
  unfold rtL
  split
  · rename_i ss hs
    exact putT_in h (trk_in hs).2.2.2
  · exact h
theorem rtL_len (hl : l.length = T * P) (d : ByteArray) : (rtL T P nb s l d).length = T * P := by
  unfold rtL
  split
  · rename_i ss hs
    obtain ⟨h1, h2, h3, h4⟩ := trk_in hs
    rw [putT_len, hl]
    rw [h1, hl, ← Nat.succ_mul]
    exact Nat.mul_le_mul_right P h3
  · exact hl
theorem entL_in (h : ∀ x ∈ l, secX s x = true) (x : DChunk) : ∀ y ∈ entL T P nb s l x, secX s y = true := by
  unfold entL
  split
  · exact rtL_in h _
  · exact h
theorem entL_len (hl : l.length = T * P) (x : DChunk) : (entL T P nb s l x).length = T * P := by
  unfold entL
  split
  · exact rtL_len hl _
  · exact hl
theorem entN_len (h : n.length ≤ 8) (x : DChunk) : (entN n x).length ≤ 8 := by
  unfold entN
  split
  · rw [List.length_append]
    simp only [List.length_singleton]
    omega
  · exact h
theorem entN_in (h : ∀ x ∈ n, noteB x = true) (x : DChunk) : ∀ y ∈ entN n x, noteB y = true := by
  unfold entN
  split
  · rename_i h1
    intro y hy
    rcases List.mem_append.1 hy with hy | hy
    · exact h y hy
    · rw [List.mem_singleton] at hy
      rw [hy]
      exact h1.2.1
  · exact h
end
theorem noteB_size {s : ByteArray} (h : noteB s = true) : 1 ≤ s.size ∧ s.size ≤ 40 := by
  simp only [noteB, Bool.and_eq_true, decide_eq_true_eq] at h
  exact ⟨h.1.2, h.2⟩
end Go.Proofs.Ytcfeelecfmepaaa
