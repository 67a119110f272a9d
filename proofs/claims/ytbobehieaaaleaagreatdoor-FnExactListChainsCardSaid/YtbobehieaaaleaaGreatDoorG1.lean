/- Plain functions: names in order. -/
import Derived.Test.YtbobehieaaaleaaGreatDoorSString
import Derived.Sort.OwnSorted
import Derived.Sort.Walk0
import Derived.Deep.AppendSrc
import Derived.Deep.CutBlock
import Derived.Deep.DeepCutAuto
import Derived.Test.YtbobehieaaaleaaGreatDoorPut
namespace Go.Proofs.YtbobehieaaaleaaGreatDoor
open Go.RowKit
set_option linter.unusedVariables false

def kb (x : ByteArray) : List UInt8 := x.data.toList
def mkb (x : List UInt8) : ByteArray := ⟨x.toArray⟩
theorem mk_kb (x : ByteArray) : mkb (kb x) = x := rfl
theorem kb_inj {x y : ByteArray} (h : kb x = kb y) : x = y := by rw [← mk_kb x, h, mk_kb]
/-- The names in order. -/
def sortN (l : List ByteArray) : List ByteArray := ((l.map kb).mergeSort fun x y => decide (x ≤ y)).map mkb
def ltN (t x : ByteArray) : Bool := Op.bytesLess x.toList t.toList
def insN (l : List ByteArray) (t : ByteArray) : List ByteArray := l.takeWhile (ltN t) ++ t :: l.dropWhile (ltN t)
theorem ltN_eq (t x : ByteArray) : ltN t x = decide (kb x < kb t) := by
  rw [ltN, bytesLess_eq, ByteArray.toList_eq, ByteArray.toList_eq]
  rfl
theorem insN_nil (t : ByteArray) : insN [] t = [t] := rfl
theorem insN_lt {t x : ByteArray} {l : List ByteArray} (h : ltN t x = true) : insN (x :: l) t = x :: insN l t := by
  rw [insN, List.takeWhile_cons, List.dropWhile_cons, if_pos h, if_pos h]
  rfl
theorem insN_ge {t x : ByteArray} {l : List ByteArray} (h : ltN t x = false) : insN (x :: l) t = t :: x :: l := by
  rw [insN, List.takeWhile_cons, List.dropWhile_cons, if_neg (by rw [h]; decide), if_neg (by rw [h]; decide)]
  rfl
theorem insN_perm (t : ByteArray) : ∀ l : List ByteArray, (insN l t).Perm (t :: l)
  | [] => .refl _
  | x :: l => by
    cases h : ltN t x
    · rw [insN_ge h]
    · rw [insN_lt h]
      exact ((insN_perm t l).cons x).trans (.swap _ _ _)
def leN (x y : ByteArray) : Prop := kb x ≤ kb y
theorem leN_trans {a b c : ByteArray} (h : leN a b) (g : leN b c) : leN a c := List.le_trans h g
theorem insN_sorted (t : ByteArray) : ∀ l : List ByteArray, l.Pairwise leN → (insN l t).Pairwise leN
  | [], _ => by simp [insN_nil]
  | x :: l, h => by
    obtain ⟨h1, h2⟩ := List.pairwise_cons.1 h
    cases hx : ltN t x
    · rw [insN_ge hx]
      rw [ltN_eq, decide_eq_false_iff_not] at hx
      have hx' : leN t x := hx
      refine List.pairwise_cons.2 ⟨fun y hy => ?_, h⟩
      rcases List.mem_cons.1 hy with rfl | hy
      · exact hx'
      · exact leN_trans hx' (h1 y hy)
    · rw [insN_lt hx]
      rw [ltN_eq, decide_eq_true_eq] at hx
      refine List.pairwise_cons.2 ⟨fun y hy => ?_, insN_sorted t l h2⟩
      rcases List.mem_cons.1 ((insN_perm t l).mem_iff.1 hy) with rfl | hy
      · exact List.le_of_lt hx
      · exact h1 y hy
theorem fold_sorted : ∀ (ns a : List ByteArray), a.Pairwise leN → (ns.foldl insN a).Pairwise leN
  | [], _, h => h
  | t :: ns, a, h => fold_sorted ns _ (insN_sorted t a h)
theorem fold_perm : ∀ (ns a : List ByteArray), (ns.foldl insN a).Perm (ns ++ a)
  | [], _ => .refl _
  | t :: ns, a => (fold_perm ns (insN a t)).trans (((insN_perm t a).append_left ns).trans List.perm_middle)
theorem sortN_perm (l : List ByteArray) : (sortN l).Perm l := by
  have h := (List.mergeSort_perm (l.map kb) fun x y => decide (x ≤ y)).map mkb
  rw [List.map_map, show mkb ∘ kb = id from funext mk_kb, List.map_id] at h
  exact h
theorem sortN_sorted (l : List ByteArray) : (sortN l).Pairwise leN := by
  rw [sortN, List.pairwise_map]
  refine List.Pairwise.imp ?_ (List.pairwise_mergeSort (le := fun x y => decide (x ≤ y)) (fun a b c h g => ?_) (fun a b => ?_) (l.map kb))
  · intro a b h
    exact of_decide_eq_true (p := a ≤ b) h
  · exact decide_eq_true (List.le_trans (of_decide_eq_true h) (of_decide_eq_true g))
  · rcases List.le_total a b with h | h <;> simp [h]
theorem fold_sort (ns : List ByteArray) : ns.foldl insN [] = sortN ns := by
  refine List.Perm.eq_of_pairwise (le := leN) (fun a b _ _ h g => ?_) (fold_sorted ns [] List.Pairwise.nil) (sortN_sorted ns) ?_
  · exact kb_inj (Std.le_antisymm h g)
  · have h := fold_perm ns []
    rw [List.append_nil] at h
    exact h.trans (sortN_perm ns).symm
theorem tw_dw {p : ByteArray → Bool} : ∀ (l : List ByteArray) (k : Nat), (∀ j, (hj : j < l.length) → j < k → p l[j] = true) → (k = l.length ∨ ∃ hk : k < l.length, p l[k] = false) → l.takeWhile p = l.take k ∧ l.dropWhile p = l.drop k
  | [], k, _, _ => by simp
  | x :: l, 0, _, h => by
    rcases h with h | ⟨_, h⟩
    · cases h
    · rw [List.getElem_cons_zero] at h
      rw [List.takeWhile_cons, List.dropWhile_cons, if_neg (by rw [h]; decide), if_neg (by rw [h]; decide)]
      exact ⟨rfl, rfl⟩
  | x :: l, k + 1, hf, h => by
    have hx : p x = true := hf 0 (by simp) (by omega)
    rw [List.takeWhile_cons, List.dropWhile_cons, if_pos hx, if_pos hx, List.take_succ_cons, List.drop_succ_cons]
    obtain ⟨h1, h2⟩ := tw_dw l k (fun j hj hjn => hf (j + 1) (by simp; omega) (by omega)) (by
      rcases h with h | ⟨hk, h⟩
      · left; simp at h; omega
      · right
        refine ⟨by simp at hk; omega, ?_⟩
        rwa [List.getElem_cons_succ] at h)
    rw [h1, h2]
    exact ⟨rfl, rfl⟩
theorem insN_at {l : List ByteArray} {t : ByteArray} {k : Nat} (h : l.takeWhile (ltN t) = l.take k ∧ l.dropWhile (ltN t) = l.drop k) : insN l t = l.take k ++ t :: l.drop k := by rw [insN, h.1, h.2]
/-- Inserts a name in order, once. -/
def insU (l : List ByteArray) (t : ByteArray) : List ByteArray := if (l.dropWhile (ltN t)).head? = some t then l else insN l t
theorem insU_yes {l : List ByteArray} {t : ByteArray} {k : Nat} (h : l.takeWhile (ltN t) = l.take k ∧ l.dropWhile (ltN t) = l.drop k) (hk : k < l.length) (e : l[k] = t) : insU l t = l := by
  have : (l.dropWhile (ltN t)).head? = some t := by rw [h.2, List.head?_drop, List.getElem?_eq_getElem hk, e]
  rw [insU, if_pos this]
theorem insU_no {l : List ByteArray} {t : ByteArray} {k : Nat} (h : l.takeWhile (ltN t) = l.take k ∧ l.dropWhile (ltN t) = l.drop k) (e : ∀ hk : k < l.length, l[k] ≠ t) : insU l t = l.take k ++ t :: l.drop k := by
  have : ¬ (l.dropWhile (ltN t)).head? = some t := by
    rw [h.2, List.head?_drop]
    intro e2
    obtain ⟨hk, e3⟩ := List.getElem?_eq_some_iff.1 e2
    exact e hk e3
  rw [insU, if_neg this, insN_at h]
section
variable {P : Program}
theorem flat_fS (l : List ByteArray) : flat fS l = l.map Value.string := by
  induction l with
  | nil => rfl
  | cons x l ih =>
    rw [List.map_cons, ← ih]
    rfl
theorem flat_enc (l : List ByteArray) : flat fS l = (l.map kb).map encStr := by
  rw [flat_fS, List.map_map]
  rfl
theorem src_str {W : World} {g k : Nat} {t e' : TypeId} (hk : P.underlying t = some (.slice e')) {l : List ByteArray} (hc : ∀ j, (hj : j < l.length) → W.cell? ⟨g, j, none⟩ = some (.string l[j])) (M : List ByteArray) (m c : Nat) (hm : m = M.length) (hM : ∀ j u, M[j]? = some u → l[k + j]? = some u) :
    Src P 1 t (.slice (some ⟨g, k, none⟩) m c) m (flat fS M) W := by
  subst hm
  refine Src.ofSlice _ hk ⟨g, k, none⟩ M.length c (flat fS M) (by rw [flat_fS, List.length_map, Nat.mul_one]) ?_ ?_
  · intro j u hj
    rw [flat_fS, List.getElem?_map] at hj
    obtain ⟨x, hx, rfl⟩ := Option.map_eq_some_iff.1 hj
    obtain ⟨hl, rfl⟩ := List.getElem?_eq_some_iff.1 (hM j x hx)
    rw [show (⟨g, k, none⟩ : Addr).add j = ⟨g, k + j, none⟩ by
      unfold Addr.add
      split
      · rename_i h0; subst h0; rfl
      · rfl]
    exact hc (k + j) hl
  · intro u hu
    rw [flat_fS] at hu
    obtain ⟨x, _, rfl⟩ := List.mem_map.1 hu
    rfl
theorem str_cells {W : World} {B g : Nat} {l : List ByteArray} (h : Rd W B 1 (some ⟨g, 0, none⟩) l.length (flat fS l)) (j : Nat) (hj : j < l.length) : W.cell? ⟨g, j, none⟩ = some (.string l[j]) := by
  obtain ⟨b, off, e, _, hc⟩ := h.at_ fS_len rfl j hj
  cases e
  have := hc 0 _ (by omega) rfl
  simpa using this
end
end Go.Proofs.YtbobehieaaaleaaGreatDoor
