/- Slices that are read, slices of structs as rows of values, allowances. -/
import Derived.Test.YtlfmpgfobkmgfaaGreatDoorMem3
namespace Go.Proofs.YtlfmpgfobkmgfaaGreatDoor
open Go.RowKit
set_option linter.unusedVariables false

/-- The slice of address A and length n, of elements of 'size' cells each, holds the cells xs and lies below block B. -/
def Rd (w : World) (B size : Nat) (A : Option Addr) (n : Nat) (xs : List Value) : Prop :=
  xs.length = n * size ∧ (0 < n → ∃ b off, A = some ⟨b, off, none⟩ ∧ b < B ∧ ∀ j (h : j < xs.length), w.cell? ⟨b, off + j, none⟩ = some xs[j])

section
variable {w w' : World} {B B' size n : Nat} {A : Option Addr} {xs : List Value}
theorem Rd.keep (h : Rd w B size A n xs) (hk : ∀ p : Addr, p.block < B → w'.cell? p = w.cell? p) : Rd w' B size A n xs :=
  ⟨h.1, fun hn => by
    obtain ⟨b, off, e, hb, hc⟩ := h.2 hn
    exact ⟨b, off, e, hb, fun j hj => (hk ⟨b, off + j, none⟩ hb).trans (hc j hj)⟩⟩
theorem Rd.more (h : Rd w B size A n xs) (hB : B ≤ B') : Rd w B' size A n xs :=
  ⟨h.1, fun hn => by
    obtain ⟨b, off, e, hb, hc⟩ := h.2 hn
    exact ⟨b, off, e, Nat.lt_of_lt_of_le hb hB, hc⟩⟩
theorem Rd.below (h : Rd w B size A n xs) (hb : Below B w w') : Rd w' B size A n xs := h.keep fun _ hp => hb.cell hp
theorem Rd.drewN (h : Rd w B size A n xs) (k : Nat) : Rd (w.drewN k) B size A n xs := h
theorem Rd.alloc (h : Rd w B size A n xs) (hB : B ≤ w.heap.size) (o : Obj) : Rd (w.alloc o) B size A n xs := h.keep fun p hp => World.cell?_alloc_lt w o p (by omega)
theorem Rd.of_own {base : Nat} {e : TypeId} {c : Nat} (h : w.ownsRow base e size (.slice A n c) n xs) : Rd w w.heap.size size A n xs := by
  refine ⟨h.1, fun hn => ?_⟩
  obtain ⟨g, cap, hv, _, hlt⟩ := World.ownsRow.form h hn
  have hA : A = some ⟨g, 0, none⟩ := by injection hv
  have hc : c = cap := by injection hv
  subst hA hc
  refine ⟨g, 0, rfl, hlt, fun j hj => ?_⟩
  rw [Nat.zero_add, World.ownsRow.cellAt h j (by have := h.1; omega)]
  exact List.getElem?_eq_getElem hj
theorem Rd.nil (w : World) (B size : Nat) (A : Option Addr) : Rd w B size A 0 [] := ⟨by simp, fun h => absurd h (by omega)⟩
end

theorem own_form {w : World} {base : Nat} {e : TypeId} {size n : Nat} {v : Value} {xs : List Value} (h : w.ownsRow base e size v n xs) : ∃ A c, v = .slice A n c := by
  rcases h.2 with ⟨rfl, h0⟩ | ⟨g, cap, cur, rfl, _⟩
  · exact ⟨none, 0, by rw [h0]⟩
  · exact ⟨_, _, rfl⟩
theorem own_later {w w' : World} {base B : Nat} {e : TypeId} {size n : Nat} {v : Value} {xs : List Value} (h : w.ownsRow base e size v n xs) (hb : Below B w w') (hB : w.heap.size ≤ B) : w'.ownsRow base e size v n xs := by
  refine ⟨h.1, ?_⟩
  rcases h.2 with h | ⟨g, cap, cur, hv, h0, hh, hr⟩
  · exact .inl h
  · have := (Array.getElem?_eq_some_iff.1 hh).1
    exact .inr ⟨g, cap, cur, hv, h0, (hb.block g (by omega)).trans hh, hr⟩
theorem own_base {w : World} {base base' : Nat} {e : TypeId} {size n : Nat} {v : Value} {xs : List Value} (h : w.ownsRow base e size v n xs) (hb : base' ≤ base) : w.ownsRow base' e size v n xs := by
  refine ⟨h.1, ?_⟩
  rcases h.2 with h | ⟨g, cap, cur, hv, h0, hr⟩
  · exact .inl h
  · exact .inr ⟨g, cap, cur, hv, Nat.le_trans hb h0, hr⟩

/-- Whole numbers as cells. -/
def icells (l : List Int) : List Value := l.map (Value.int .i64)
theorem icells_length (l : List Int) : (icells l).length = l.length := by simp [icells]
theorem icells_get (l : List Int) (k : Nat) (h : k < l.length) : (icells l)[k]'(by rw [icells_length]; exact h) = .int .i64 l[k] := by simp [icells]
/-- Strings as cells. -/
def scells (l : List ByteArray) : List Value := l.map Value.string
theorem scells_length (l : List ByteArray) : (scells l).length = l.length := by simp [scells]
theorem scells_get (l : List ByteArray) (k : Nat) (h : k < l.length) : (scells l)[k]'(by rw [scells_length]; exact h) = .string l[k] := by simp [scells]

/-- Rows of one length, one behind the other. -/
def flat {α : Type} (f : α → List Value) (l : List α) : List Value := (l.map f).flatten
theorem flat_length {α : Type} (f : α → List Value) (size : Nat) (hf : ∀ x, (f x).length = size) : ∀ l : List α, (flat f l).length = l.length * size
  | [] => by simp [flat]
  | x :: l => by
    have := flat_length f size hf l
    simp only [flat, List.map_cons, List.flatten_cons, List.length_append, hf, List.length_cons] at *
    rw [this, Nat.add_mul]
    omega
theorem flat_append {α : Type} (f : α → List Value) (l m : List α) : flat f (l ++ m) = flat f l ++ flat f m := by simp [flat]
theorem flat_get {α : Type} (f : α → List Value) (size : Nat) (hf : ∀ x, (f x).length = size) : ∀ (l : List α) (i j : Nat) (hi : i < l.length) (hj : j < size), (flat f l)[i * size + j]? = (f l[i])[j]?
  | [], i, j, hi, _ => by simp at hi
  | x :: l, 0, j, hi, hj => by
    simp only [flat, List.map_cons, List.flatten_cons, Nat.zero_mul, Nat.zero_add, List.getElem_cons_zero]
    rw [List.getElem?_append_left (by rw [hf]; exact hj)]
  | x :: l, i + 1, j, hi, hj => by
    have ih := flat_get f size hf l i j (by simpa using hi) hj
    simp only [flat, List.map_cons, List.flatten_cons, List.getElem_cons_succ] at *
    rw [List.getElem?_append_right (by rw [hf, Nat.add_mul]; omega), hf, ← ih]
    congr 1
    rw [Nat.add_mul]
    omega
theorem Rd.at_ {α : Type} {f : α → List Value} {w : World} {B size n : Nat} {A : Option Addr} {l : List α} (h : Rd w B size A n (flat f l)) (hf : ∀ x, (f x).length = size) (hn : n = l.length) (k : Nat) (hk : k < n) :
    ∃ b off, A = some ⟨b, off, none⟩ ∧ b < B ∧ ∀ j v, j < size → (f (l[k]'(by omega)))[j]? = some v → w.cell? ⟨b, off + (k * size + j), none⟩ = some v := by
  obtain ⟨b, off, e, hb, hc⟩ := h.2 (by omega)
  refine ⟨b, off, e, hb, fun j v hj hv => ?_⟩
  have h1 := flat_get f size hf l k j (by omega) hj
  rw [hv] at h1
  have hlt : k * size + j < (flat f l).length := (List.getElem?_eq_some_iff.1 h1).1
  rw [hc _ hlt, ← h1]
  exact (List.getElem?_eq_getElem hlt).symm

/-- What is left of an allowance behind several amounts; -1 as soon as it is used up. -/
def subs : Int → List Nat → Int
  | a, [] => a
  | a, n :: r => if a - n < 0 then -1 else subs (a - n) r
theorem subs_cases : ∀ (ns : List Nat) (a : Int), 0 ≤ a → subs a ns = -1 ∨ (subs a ns = a - ns.sum ∧ 0 ≤ a - ns.sum)
  | [], a, h => .inr (by simp [subs]; exact h)
  | n :: r, a, h => by
    unfold subs
    split
    · exact .inl rfl
    · rename_i hn
      rcases subs_cases r (a - n) (by omega) with h1 | ⟨h1, h2⟩
      · exact .inl h1
      · refine .inr ⟨?_, ?_⟩
        · rw [h1, List.sum_cons]; push_cast; omega
        · rw [List.sum_cons]; push_cast; omega
theorem subs_append : ∀ (ns ms : List Nat) (a : Int), 0 ≤ a → subs a (ns ++ ms) = if subs a ns < 0 then -1 else subs (subs a ns) ms
  | [], ms, a, h => by
    rw [List.nil_append, show subs a [] = a from rfl, if_neg (by omega)]
  | n :: r, ms, a, h => by
    simp only [List.cons_append, subs]
    split
    · simp
    · exact subs_append r ms _ (by omega)
theorem mem_sum {n : Nat} {l : List Nat} (h : n ∈ l) : n ≤ l.sum := by
  induction l with
  | nil => cases h
  | cons m l ih =>
    rw [List.sum_cons]
    rcases List.mem_cons.1 h with rfl | h
    · omega
    · have := ih h; omega

/-- Block g holds N cells of element type e; the first m of them are those of xs. -/
def FillC (w : World) (g : Nat) (e : TypeId) (N : Nat) (xs : List Value) (m : Nat) : Prop :=
  ∃ cs : Array Value, w.heap[g]? = some (.cells cs e (0, 0)) ∧ cs.size = N ∧ ∀ j, j < m → cs[j]? = xs[j]?
section
variable {w w' : World} {g N m : Nat} {e : TypeId} {xs : List Value}
theorem FillC.made (w : World) (e : TypeId) (z : Array Value) (N : Nat) (xs : List Value) : FillC (w.alloc (.cells (madeCells z N) e)) w.heap.size e N xs 0 :=
  ⟨_, heap_alloc_new w _, size_madeCells _ _, fun j h => absurd h (by omega)⟩
theorem FillC.some_ (h : FillC w g e N xs m) (j : Nat) (hj : j < N) : ∃ u, w.cell? ⟨g, j, none⟩ = some u := by
  obtain ⟨cs, hg, hs, _⟩ := h
  exact ⟨cs[j], by rw [cell_of_row w g j cs e (0, 0) hg]; exact Array.getElem?_eq_getElem (by omega)⟩
theorem FillC.free (h : FillC w g e N xs m) (j : Nat) : w.frozen? ⟨g, j, none⟩ = false := by
  obtain ⟨cs, hg, _⟩ := h
  simp [World.frozen?, hg]
theorem FillC.put (h : FillC w g e N xs m) (v : Value) (hm : m < N) (hx : xs[m]? = some v) : FillC (w.setCell ⟨g, m, none⟩ v) g e N xs (m + 1) := by
  obtain ⟨cs, hg, hs, hc⟩ := h
  refine ⟨cs.setIfInBounds m v, ?_, by simpa using hs, fun j hj => ?_⟩
  · simp [World.setCell, Array.getElem?_modify, hg]
  · by_cases hjm : m = j
    · subst hjm
      have : m < cs.size := by omega
      simp [this, hx]
    · rw [Array.getElem?_setIfInBounds_ne hjm]
      exact hc j (by omega)
theorem FillC.below {B : Nat} (h : FillC w g e N xs m) (hb : Below B w w') (hg : g < B) : FillC w' g e N xs m := by
  obtain ⟨cs, hh, hr⟩ := h
  exact ⟨cs, (hb.block g hg).trans hh, hr⟩
theorem FillC.lt (h : FillC w g e N xs m) : g < w.heap.size := by
  obtain ⟨cs, hh, _⟩ := h
  exact (Array.getElem?_eq_some_iff.1 hh).1
theorem FillC.own {base size n : Nat} (h : FillC w g e N xs N) (hN : N = n * size) (hx : xs.length = N) (hb : base ≤ g) (hm : n ≤ maxLen) : w.ownsRow base e size (.slice (some ⟨g, 0, none⟩) n n) n xs := by
  obtain ⟨cs, hg, hs, hc⟩ := h
  refine ⟨by omega, .inr ⟨g, n, cs, rfl, hb, hg, Nat.le_refl _, hm, by omega, ?_⟩⟩
  rw [← hN]
  apply List.ext_getElem?
  intro j
  by_cases hj : j < N
  · rw [List.getElem?_take, if_pos hj, Array.getElem?_toList, hc j hj]
  · rw [List.getElem?_eq_none (by simp; omega), List.getElem?_eq_none (by omega)]
end
theorem Elt.make {P : Program} {t e : TypeId} {size bytes : Nat} {z : Value} (E : Elt P t e size bytes z) (n : Nat) (hb : bytes * n ≤ 281474976710656) (h63 : n ≤ 9223372036854775807) (W : World) :
    (Instr.makeSlice t (.int .i64 (n : Int)) (.int .i64 (n : Int))).run P W = .ok (.slice (some ⟨W.heap.size, 0, none⟩) n n) (W.alloc (.cells (madeCells z.cells (n * size)) e)) := by
  obtain ⟨ht, ⟨i, hi, hz, hsize, hby⟩, _, _⟩ := E
  subst hsize hby
  exact run_make_rowN t e i z ht hi hz _ _ n n (Nat.le_refl _) hb h63 W

def fI (x : Int) : List Value := [.int .i64 x]
def fS (s : ByteArray) : List Value := [.string s]
theorem fI_len (x : Int) : (fI x).length = 1 := rfl
theorem fS_len (s : ByteArray) : (fS s).length = 1 := rfl
end Go.Proofs.YtlfmpgfobkmgfaaGreatDoor
