/- Plain functions: the cases of a further feature. -/
import Derived.Test.YthelfgagddldfaaGreatDoorW165
namespace Go.Proofs.YthelfgagddldfaaGreatDoor
open Go.RowKit
set_option linter.unusedVariables false

theorem pr_v {v : Bool} {g : Int} {n : Nat} {k s x : Int} (h : v = false) : prC v g n k s x = 1 := by simp [prC, h]
section
variable {g : Int} {n : Nat} {k s x : Int}
theorem pr_57 (h : k = 5 ∨ k = 7) : prC true g n k s x = 6 := by simp [prC, h]
theorem pr_8b (h : g + x > 20) : prC true g n 8 s x = 5 := by simp [prC, h]
theorem pr_8 (h : ¬ g + x > 20) : prC true g n 8 s x = 0 := by simp [prC, h]
theorem pr_1s (h : s ≠ (n : Int)) : prC true g n 1 s x = 2 := by simp [prC, h]
theorem pr_1n (h : s = (n : Int)) (h2 : 8 ≤ n) : prC true g n 1 s x = 5 := by
  have : (8 : Int) ≤ (n : Int) := by omega
  simp [prC, h, this]
theorem pr_1 (h : s = (n : Int)) (h2 : ¬ 8 ≤ n) : prC true g n 1 s x = 0 := by
  have : ¬ (8 : Int) ≤ (n : Int) := by omega
  simp [prC, h, this]
theorem pr_ob (h57 : ¬ (k = 5 ∨ k = 7)) (h8 : k ≠ 8) (h1 : k ≠ 1) (h : (n : Int) ≤ s) : prC true g n k s x = 2 := by simp [prC, h57, h8, h1, h]
theorem pr_o (h57 : ¬ (k = 5 ∨ k = 7)) (h8 : k ≠ 8) (h1 : k ≠ 1) (h : ¬ (n : Int) ≤ s) : prC true g n k s x = 0 := by simp [prC, h57, h8, h1, h]
theorem fe_s (h : feB k s x = true) : 0 ≤ s ∧ s ≤ 63 := by
  simp only [feB, Bool.and_eq_true] at h
  exact inB_yes h.1
theorem fe_1 (h : feB 1 s x = true) : 0 ≤ x ∧ x ≤ s - 1 := by
  simp only [feB, Bool.and_eq_true, if_true] at h
  exact inB_yes h.2
theorem fe_8 (h : feB 8 s x = true) : 1 ≤ x ∧ x ≤ 8000 := by
  have h2 : inB x 1 8000 = true := by
    simp [feB] at h
    exact h.2.2
  exact inB_yes h2
theorem fe_k (h : feB k s x = true) : 1 ≤ k ∧ k ≤ 8 := by
  by_cases h1 : k = 1
  · omega
  by_cases h7 : k = 7
  · omega
  by_cases h8 : k = 8
  · omega
  have h2 : inB k 1 8 = true := by
    simp [feB, h1, h7, h8] at h
    exact h.2.1
  exact inB_yes h2
theorem ts_g {f g : Int} {xs : List DSectorSpec} (h : tsB f g xs = true) : 1 ≤ g ∧ g ≤ 20 := by
  simp only [tsB, Bool.and_eq_true] at h
  exact inB_yes h.1.1.2
theorem ts_n {f g : Int} {xs : List DSectorSpec} (h : tsB f g xs = true) : xs.length ≤ 8 := by
  simp only [tsB, Bool.and_eq_true, decide_eq_true_eq] at h
  exact h.1.2
theorem ts_ss {f g : Int} {xs : List DSectorSpec} (h : tsB f g xs = true) {j : Nat} (hj : j < xs.length) : 0 ≤ (xs[j]).f0 ∧ (xs[j]).f0 ≤ 255 ∧ (xs[j]).f4.size ≤ 1048576 := by
  simp only [tsB, Bool.and_eq_true] at h
  have h2 := List.all_eq_true.1 h.2 xs[j] (List.getElem_mem hj)
  simp only [ssB, Bool.and_eq_true, decide_eq_true_eq] at h2
  have a := inB_yes h2.1.1.1.1
  have b := inB_yes h2.1.2
  refine ⟨a.1, a.2, ?_⟩
  have c := h2.2
  have : (xs[j]).f3 = 0 ∨ (xs[j]).f3 = 1 ∨ (xs[j]).f3 = 2 := by omega
  rcases this with e | e | e <;> (rw [e] at c; simp [szB] at c; omega)
end
theorem flat_setq {α : Type} (f : α → List Value) (size : Nat) (hf : ∀ x, (f x).length = size) : ∀ (L : List α) (k q : Nat) (u : Value) (y : α) (hk : k < L.length) (_ : q < size) (_ : (f L[k]).set q u = f y), (flat f L).set (k * size + q) u = flat f (L.set k y)
  | a :: L, 0, q, u, y, _, hq, hy => by
    rw [flat_cons, Nat.zero_mul, Nat.zero_add, List.set_append_left _ _ (by rw [hf]; exact hq)]
    show (f a).set q u ++ flat f L = flat f (y :: L)
    rw [flat_cons, ← hy]
    rfl
  | a :: L, k + 1, q, u, y, hk, hq, hy => by
    have e : (k + 1) * size + q = size + (k * size + q) := by rw [Nat.succ_mul]; omega
    rw [flat_cons, e, List.set_append_right _ _ (by rw [hf]; omega), hf, Nat.add_sub_cancel_left]
    show f a ++ _ = flat f (a :: L.set k y)
    rw [flat_cons, flat_setq f size hf L k q u y (by simpa using hk) hq (by simpa using hy)]
theorem own_get {α : Type} {f : α → List Value} {w : World} {base size g c : Nat} {e : TypeId} {l : List α} (h : w.ownsRow base e size (.slice (some ⟨g, 0, none⟩) l.length c) l.length (flat f l)) (hf : ∀ x, (f x).length = size) {j : Nat} (hj : j < l.length) {q : Nat} (hq : q < size) {u : Value} (hu : (f l[j])[q]? = some u) : w.cell? ⟨g, j * size + q, none⟩ = some u := by
  obtain ⟨b, off, he, _, hc⟩ := (Rd.of_own h).at_ hf rfl j hj
  simp only [Option.some.injEq, Addr.mk.injEq, and_true] at he
  obtain ⟨rfl, rfl⟩ := he
  have := hc q u hq hu
  simpa using this
theorem prL_k {xs : List DSectorSpec} {k x : Int} {I : Nat} (h8 : k ≠ 8) (h1 : k ≠ 1) (hI : I < xs.length) : prL 0 xs k (I : Int) x = xs.set I (prS k xs[I]) := by
  simp [prL, h8, h1, hI]
theorem prL_1 {xs : List DSectorSpec} {s : Int} {X : Nat} (hX : X < xs.length) : prL 0 xs 1 s (X : Int) = xs ++ [prA xs[X]] := by
  simp [prL, hX]
theorem oneSS (x : DSectorSpec) : ∀ u ∈ fSectorSpec x, u.oneCell' = true := by
  intro u hu
  simp only [fSectorSpec, List.mem_cons, List.not_mem_nil, or_false] at hu
  rcases hu with rfl | rfl | rfl | rfl | rfl | rfl | rfl | rfl <;> rfl
end Go.Proofs.YthelfgagddldfaaGreatDoor
