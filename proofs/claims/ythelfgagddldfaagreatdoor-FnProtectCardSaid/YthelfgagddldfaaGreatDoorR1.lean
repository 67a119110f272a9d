/- Plain functions: decimals, texts cut at blanks, the texts of features. -/
import Derived.Test.YthelfgagddldfaaGreatDoorPrM
import Derived.Test.YthelfgagddldfaaGreatDoorW160
import Derived.Test.YthelfgagddldfaaGreatDoorSString
import Derived.Lib.ItoaNum
import Derived.Lib.ItoaMem
import Derived.Lib.ParseIntB
import Derived.Lib.Split
namespace Go.Proofs.YthelfgagddldfaaGreatDoor
open Go.RowKit Go.Lib

theorem dd_small {u : Nat} (h : u < 10) : decDigits u = [UInt8.ofNat (48 + u)] := by rw [decDigits, dif_pos h]
theorem dd_big {u : Nat} (h : ¬ u < 10) : decDigits u = decDigits (u / 10) ++ [UInt8.ofNat (48 + u % 10)] := by rw [decDigits, dif_neg h]
theorem u8_of {n : Nat} (h : n < 256) : (UInt8.ofNat n).toNat = n := by rw [UInt8.toNat_ofNat']; exact Nat.mod_eq_of_lt h
theorem dd_dig (u : Nat) : ∀ b ∈ decDigits u, 48 ≤ b.toNat ∧ b.toNat ≤ 57 := by
  induction u using Nat.strongRecOn with
  | _ u ih =>
    intro b hb
    by_cases h : u < 10
    · rw [dd_small h, List.mem_singleton] at hb
      subst hb
      rw [u8_of (by omega)]
      omega
    · rw [dd_big h, List.mem_append, List.mem_singleton] at hb
      rcases hb with hb | hb
      · exact ih (u / 10) (by omega) b hb
      · subst hb
        rw [u8_of (by omega)]
        omega
theorem dd_ne (u : Nat) : decDigits u ≠ [] := by
  by_cases h : u < 10
  · rw [dd_small h]; simp
  · rw [dd_big h]; simp
theorem dd_len (k : Nat) : ∀ u, u < 10 ^ (k + 1) → (decDigits u).length ≤ k + 1 := by
  induction k with
  | zero =>
    intro u h
    rw [dd_small (by simpa using h)]
    simp
  | succ k ih =>
    intro u h
    by_cases h10 : u < 10
    · rw [dd_small h10]; simp
    · rw [dd_big h10, List.length_append, List.length_singleton]
      have := ih (u / 10) (by rw [Nat.pow_succ] at h; omega)
      omega
theorem dd_head (u : Nat) : 1 ≤ u → (decDigits u).head? ≠ some 48 := by
  induction u using Nat.strongRecOn with
  | _ u ih =>
    intro h1
    by_cases h : u < 10
    · rw [dd_small h]
      intro e
      have e2 := congrArg UInt8.toNat (Option.some.inj e)
      rw [u8_of (by omega)] at e2
      have : (48 : UInt8).toNat = 48 := rfl
      omega
    · rw [dd_big h]
      have := ih (u / 10) (by omega) (by omega)
      cases hd : decDigits (u / 10) with
      | nil => exact absurd hd (dd_ne _)
      | cons x r =>
        rw [hd] at this
        exact this
/-- What digits spell. -/
def numD (l : List UInt8) (a : Nat) : Nat := l.foldl (fun a b => 10 * a + (b.toNat - 48)) a
theorem numD_dd (u : Nat) : numD (decDigits u) 0 = u := by
  induction u using Nat.strongRecOn with
  | _ u ih =>
    by_cases h : u < 10
    · rw [dd_small h]
      show 10 * 0 + ((UInt8.ofNat (48 + u)).toNat - 48) = u
      rw [u8_of (by omega)]
      omega
    · rw [dd_big h, numD, List.foldl_append]
      show 10 * numD (decDigits (u / 10)) 0 + ((UInt8.ofNat (48 + u % 10)).toNat - 48) = u
      rw [ih (u / 10) (by omega), u8_of (by omega)]
      omega
def digB (b : UInt8) : Bool := decide (48 ≤ b.toNat) && decide (b.toNat ≤ 57)
/-- The number of at most seven digits, or -1. -/
def numS (t : List UInt8) : Int := if t = [] ∨ 7 < t.length ∨ (t.head? = some 48 ∧ 1 < t.length) then -1 else if t.all digB then (numD t 0 : Int) else -1
theorem numS_dd {u : Nat} (h : u < 10000000) : numS (decDigits u) = (u : Int) := by
  have hl := dd_len 6 u (by simpa using h)
  rw [numS, if_neg, if_pos, numD_dd]
  · rw [List.all_eq_true]
    intro b hb
    have := dd_dig u b hb
    simp [digB, this]
  · rintro (e | e | ⟨e1, e2⟩)
    · exact dd_ne u e
    · omega
    · by_cases h1 : 1 ≤ u
      · exact dd_head u h1 e1
      · have : u = 0 := by omega
        subst this
        rw [dd_small (by omega)] at e2
        simp at e2
theorem pM_dig {M acc : Nat} {c : UInt8} {r : List UInt8} (h : 48 ≤ c.toNat ∧ c.toNat ≤ 57) : parseUintM M acc (c :: r) = if 1844674407370955162 ≤ acc then .range else if M < acc * 10 + (c.toNat - 48) then .range else parseUintM M (acc * 10 + (c.toNat - 48)) r := by
  conv => lhs; unfold parseUintM
  rw [if_pos h]
theorem pM_nod {M acc v : Nat} {c : UInt8} {r : List UInt8} (h : ¬ (48 ≤ c.toNat ∧ c.toNat ≤ 57)) (e : parseUintM M acc (c :: r) = .ok v) : False := by
  unfold parseUintM at e
  rw [if_neg h] at e
  cases e
theorem pM_app (M : Nat) : ∀ (l r : List UInt8) (acc v : Nat), parseUintM M acc l = .ok v → parseUintM M acc (l ++ r) = parseUintM M v r
  | [], r, acc, v, h => by
    simp only [parseUintM] at h
    injection h with h
    subst h
    rfl
  | c :: l, r, acc, v, h => by
    by_cases hc : 48 ≤ c.toNat ∧ c.toNat ≤ 57
    · rw [List.cons_append, pM_dig hc]
      rw [pM_dig hc] at h
      split
      · rename_i h2
        rw [if_pos h2] at h
        cases h
      · rename_i h2
        rw [if_neg h2] at h
        split
        · rename_i h3
          rw [if_pos h3] at h
          cases h
        · rename_i h3
          rw [if_neg h3] at h
          exact pM_app M l r _ v h
    · exact (pM_nod hc h).elim
theorem pM_dd (u : Nat) : u < 10000000 → parseUintM (2 ^ 64 - 1) 0 (decDigits u) = .ok u := by
  induction u using Nat.strongRecOn with
  | _ u ih =>
    intro hu
    by_cases h : u < 10
    · rw [dd_small h]
      unfold parseUintM
      rw [u8_of (by omega), if_pos (by omega), if_neg (by omega), if_neg (by omega)]
      show NumEnd.ok _ = _
      congr 1
      omega
    · rw [dd_big h, pM_app _ _ _ 0 (u / 10) (ih (u / 10) (by omega) (by omega))]
      unfold parseUintM
      rw [u8_of (by omega), if_pos (by omega), if_neg (by omega), if_neg (by omega)]
      show NumEnd.ok _ = _
      congr 1
      omega
theorem pI_dd {u : Nat} (h : u < 10000000) : parseIntB 64 (decDigits u) = .ok (u : Int) := by
  cases hd : decDigits u with
  | nil => exact absurd hd (dd_ne u)
  | cons c r =>
    have hc := dd_dig u c (by rw [hd]; simp)
    have h2 : parseUintB 64 (c :: r) = .ok u := by
      rw [parseUintB, if_neg (by simp), ← hd, pM_dd u h]
    unfold parseIntB
    simp only [show ¬ (c.toNat = 43 ∨ c.toNat = 45) by omega, if_false, h2]
    rw [if_neg (by omega), if_neg (by omega), if_neg (by omega)]
/-- What is read of a word as a number without superfluous zeros. -/
def readD (t : List UInt8) : Option Int := match parseIntB 64 t with
  | .ok x => if itoa x = t then some x else none
  | _ => none
theorem readD_dd {u : Nat} (h : u < 10000000) : readD (decDigits u) = some (u : Int) := by
  rw [readD, pI_dd h]
  show (if itoa (u : Int) = decDigits u then some (u : Int) else none) = some (u : Int)
  rw [itoa_nonneg, if_pos rfl]
theorem readD_nil : readD [] = none := rfl
/-- A text cut at its blanks. -/
def splL : List UInt8 → List (List UInt8)
  | [] => [[]]
  | b :: r => if b = 32 then [] :: splL r else match splL r with
    | [] => [[b]]
    | h :: t => (b :: h) :: t
theorem splL_ne : ∀ l, splL l ≠ []
  | [] => by simp [splL]
  | b :: r => by
    unfold splL
    split
    · simp
    · split <;> simp
theorem splL_no : ∀ l : List UInt8, (∀ b ∈ l, b ≠ 32) → splL l = [l]
  | [], _ => rfl
  | b :: r, h => by
    rw [splL, if_neg (h b (by simp)), splL_no r fun x hx => h x (by simp [hx])]
theorem splL_at : ∀ l r : List UInt8, (∀ b ∈ l, b ≠ 32) → splL (l ++ 32 :: r) = l :: splL r
  | [], r, _ => by rw [List.nil_append, splL, if_pos rfl]
  | b :: l, r, h => by
    rw [List.cons_append, splL, if_neg (h b (by simp)), splL_at l r fun x hx => h x (by simp [hx])]
/-- The words of the kinds. -/
def kwL : List (List UInt8) := [[], [100, 117, 112, 108, 105, 99, 97, 116, 101], [102, 111, 114, 101, 105, 103, 110], [98, 97, 100, 45, 105, 100], [98, 97, 100, 45, 100, 97, 116, 97], [110, 111, 45, 100, 97, 116, 97], [100, 101, 108, 101, 116, 101, 100], [119, 101, 97, 107], [108, 111, 110, 103]]
def kw (k : Nat) : List UInt8 := kwL.getD k []
/-- The kind that a word says: the last one of those whose word it is. -/
def kindN (w : List UInt8) : Nat → Nat → Nat
  | 0, a => a
  | n + 1, a => if kw (n + 1) = w then n + 1 else kindN w n a
def kindOf (w : List UInt8) : Nat := kindN w 8 0
theorem kindOf_kw : ∀ k : Nat, 1 ≤ k → k ≤ 8 → kindOf (kw k) = k := by
  have h : ∀ k : Fin 9, 1 ≤ k.val → kindOf (kw k.val) = k.val := by decide
  exact fun k h1 h2 => h ⟨k, by omega⟩ h1
theorem kw_no : ∀ k : Nat, ∀ b ∈ kw k, b ≠ 32 := by
  have h : ∀ k : Fin 9, ∀ b ∈ kw k.val, b ≠ 32 := by decide
  intro k
  by_cases hk : k < 9
  · exact h ⟨k, hk⟩
  · intro b hb
    have : kw k = [] := by
      unfold kw
      rw [List.getD_eq_getElem?_getD, List.getElem?_eq_none (by simp [kwL]; omega)]
      rfl
    rw [this] at hb
    cases hb
theorem dd_no (u : Nat) : ∀ b ∈ decDigits u, b ≠ 32 := fun b hb e => by
  have := dd_dig u b hb
  rw [e] at this
  have h32 : (32 : UInt8).toNat = 32 := rfl
  omega
/-- The text of a feature. -/
def txL (k s v : Nat) : List UInt8 := kw k ++ ((if k ≠ 8 then 32 :: decDigits s else []) ++ (if k = 1 ∨ k = 7 ∨ k = 8 then 32 :: decDigits v else []))
theorem txL_13 {k s v : Nat} (h : k = 1 ∨ k = 7) : txL k s v = kw k ++ 32 :: (decDigits s ++ 32 :: decDigits v) := by
  rw [txL, if_pos (by omega), if_pos (by omega), List.cons_append]
theorem txL_8 {s v : Nat} : txL 8 s v = kw 8 ++ 32 :: decDigits v := rfl
theorem txL_2 {k s v : Nat} (h : 2 ≤ k ∧ k ≤ 6) : txL k s v = kw k ++ 32 :: decDigits s := by
  rw [txL, if_pos (by omega), if_neg (by omega), List.append_nil]
/-- What a text says, as it stands. -/
def rfP (t : List UInt8) : Nat × Int × Int :=
  match splL t with
  | [w, a] => if kindOf w = 8 then (8, 0, numS a) else (kindOf w, numS a, 0)
  | [w, a, b] => (kindOf w, numS a, numS b)
  | w :: _ => (kindOf w, 0, 0)
  | [] => (0, 0, 0)
theorem rfP_13 {k s v : Nat} (h : k = 1 ∨ k = 7) (hs : s < 10000000) (hv : v < 10000000) : rfP (txL k s v) = (k, (s : Int), (v : Int)) := by
  rw [txL_13 h, rfP, splL_at _ _ (kw_no k), splL_at _ _ (dd_no s), splL_no _ (dd_no v)]
  show (kindOf (kw k), numS (decDigits s), numS (decDigits v)) = _
  rw [kindOf_kw k (by omega) (by omega), numS_dd hs, numS_dd hv]
theorem rfP_8 {s v : Nat} (hv : v < 10000000) : rfP (txL 8 s v) = (8, 0, (v : Int)) := by
  rw [txL_8, rfP, splL_at _ _ (kw_no 8), splL_no _ (dd_no v)]
  show (if kindOf (kw 8) = 8 then (8, (0 : Int), numS (decDigits v)) else _) = _
  rw [if_pos (kindOf_kw 8 (by omega) (by omega)), numS_dd hv]
theorem rfP_2 {k s v : Nat} (h : 2 ≤ k ∧ k ≤ 6) (hs : s < 10000000) : rfP (txL k s v) = (k, (s : Int), 0) := by
  rw [txL_2 h, rfP, splL_at _ _ (kw_no k), splL_no _ (dd_no s)]
  show (if kindOf (kw k) = 8 then (8, (0 : Int), numS (decDigits s)) else (kindOf (kw k), numS (decDigits s), 0)) = _
  rw [kindOf_kw k (by omega) (by omega), if_neg (by omega), numS_dd hs]
/-- Words with blanks between them. -/
def joL : List (List UInt8) → List UInt8
  | [] => []
  | [w] => w
  | w :: r => w ++ 32 :: joL r
/-- The numbers behind the first word. -/
def numsL (t : List UInt8) : Option (List Int) := (splL (joL (splL t).tail)).mapM readD
theorem numsL_13 {k s v : Nat} (h : k = 1 ∨ k = 7) (hs : s < 10000000) (hv : v < 10000000) : numsL (txL k s v) = some [(s : Int), (v : Int)] := by
  rw [txL_13 h, numsL, splL_at _ _ (kw_no k), splL_at _ _ (dd_no s), splL_no _ (dd_no v)]
  show (splL (decDigits s ++ 32 :: decDigits v)).mapM readD = _
  rw [splL_at _ _ (dd_no s), splL_no _ (dd_no v)]
  simp [readD_dd hs, readD_dd hv]
theorem numsL_8 {s v : Nat} (hv : v < 10000000) : numsL (txL 8 s v) = some [(v : Int)] := by
  rw [txL_8, numsL, splL_at _ _ (kw_no 8), splL_no _ (dd_no v)]
  show (splL (decDigits v)).mapM readD = _
  rw [splL_no _ (dd_no v)]
  simp [readD_dd hv]
theorem numsL_2 {k s v : Nat} (h : 2 ≤ k ∧ k ≤ 6) (hs : s < 10000000) : numsL (txL k s v) = some [(s : Int)] := by
  rw [txL_2 h, numsL, splL_at _ _ (kw_no k), splL_no _ (dd_no s)]
  show (splL (decDigits s)).mapM readD = _
  rw [splL_no _ (dd_no s)]
  simp [readD_dd hs]

/-- The text of a feature, none where it is wrong. -/
def ftx (f : Int × Int × Int) : List UInt8 := if feB f.1 f.2.1 f.2.2 then txL f.1.toNat f.2.1.toNat f.2.2.toNat else []
def rfZ (t : List UInt8) : Int × Int × Int := (((rfP t).1 : Int), (rfP t).2.1, (rfP t).2.2)
def rfOk (t : List UInt8) : Bool := decide (t ≠ []) && decide (ftx (rfZ t) = t)
def rfF (t : List UInt8) : Int × Int × Int := if rfOk t then rfZ t else (0, 0, 0)
theorem rfF_y {t : List UInt8} (h : rfOk t = true) : rfF t = rfZ t := by rw [rfF, h]; rfl
theorem rfF_n {t : List UInt8} (h : rfOk t = false) : rfF t = (0, 0, 0) := by rw [rfF, h]; rfl
theorem feB_cases {k s v : Int} (h : feB k s v = true) : ∃ a b c : Nat, k = (a : Int) ∧ s = (b : Int) ∧ v = (c : Int) ∧ b < 64 ∧ c ≤ 8000 ∧ ((a = 1 ∨ a = 7) ∨ ((2 ≤ a ∧ a ≤ 6) ∧ c = 0) ∨ (a = 8 ∧ b = 0)) := by
  unfold feB at h
  rw [Bool.and_eq_true] at h
  obtain ⟨s0, s1⟩ := inB_yes h.1
  have h2 := h.2
  split at h2
  · obtain ⟨v0, v1⟩ := inB_yes h2
    exact ⟨k.toNat, s.toNat, v.toNat, by omega, by omega, by omega, by omega, by omega, by omega⟩
  · split at h2
    · obtain ⟨v0, v1⟩ := inB_yes h2
      exact ⟨k.toNat, s.toNat, v.toNat, by omega, by omega, by omega, by omega, by omega, by omega⟩
    · split at h2
      · rw [Bool.and_eq_true, decide_eq_true_eq] at h2
        obtain ⟨v0, v1⟩ := inB_yes h2.2
        have := h2.1
        exact ⟨k.toNat, s.toNat, v.toNat, by omega, by omega, by omega, by omega, by omega, by omega⟩
      · rw [Bool.and_eq_true, decide_eq_true_eq] at h2
        obtain ⟨v0, v1⟩ := inB_yes h2.1
        have := h2.2
        exact ⟨k.toNat, s.toNat, v.toNat, by omega, by omega, by omega, by omega, by omega, by omega⟩
theorem ftx_yes {f : Int × Int × Int} (h : feB f.1 f.2.1 f.2.2 = true) : ftx f = txL f.1.toNat f.2.1.toNat f.2.2.toNat := by rw [ftx, h]; rfl
theorem ftx_no {f : Int × Int × Int} (h : feB f.1 f.2.1 f.2.2 = false) : ftx f = [] := by rw [ftx, h]; rfl
theorem rfZ_tx {f : Int × Int × Int} (h : feB f.1 f.2.1 f.2.2 = true) : rfZ (ftx f) = f := by
  obtain ⟨k, s, v⟩ := f
  rw [ftx_yes h]
  obtain ⟨a, b, c, rfl, rfl, rfl, hb, hc, hh⟩ := feB_cases h
  simp only [Int.toNat_natCast]
  unfold rfZ
  rcases hh with hh | ⟨hh, rfl⟩ | ⟨rfl, rfl⟩
  · rw [rfP_13 hh (by omega) (by omega)]
  · rw [rfP_2 hh (by omega)]
    rfl
  · rw [rfP_8 (by omega)]
    rfl
/-- The feature of kind k with the numbers l. -/
def fk (k : Nat) (l : List Int) : Int × Int × Int := ((k : Int), if k = 8 then 0 else l.headD 0, if 1 < l.length then l.getD 1 0 else if k = 8 then l.headD 0 else 0)
theorem numsL_nil : numsL [] = none := rfl
theorem rf_hit {t : List UInt8} {l : List Int} {k : Nat} (hn : numsL t = some l) (h : ftx (fk k l) = t) : rfOk t = true ∧ rfZ t = fk k l := by
  have hne : t ≠ [] := fun e => by rw [e, numsL_nil] at hn; cases hn
  have hv : feB (fk k l).1 (fk k l).2.1 (fk k l).2.2 = true := by
    cases hf : feB (fk k l).1 (fk k l).2.1 (fk k l).2.2
    · rw [ftx_no hf] at h
      exact absurd h.symm hne
    · rfl
  have e : rfZ t = fk k l := by
    have := rfZ_tx hv
    rwa [h] at this
  refine ⟨?_, e⟩
  rw [rfOk, e, h]
  simp [hne]
theorem rf_has {t : List UInt8} (h : rfOk t = true) : ∃ (l : List Int) (k : Nat), numsL t = some l ∧ 1 ≤ k ∧ k ≤ 8 ∧ ftx (fk k l) = t := by
  rw [rfOk, Bool.and_eq_true, decide_eq_true_eq, decide_eq_true_eq] at h
  obtain ⟨hne, ht⟩ := h
  generalize rfZ t = f at ht
  have hv : feB f.1 f.2.1 f.2.2 = true := by
    cases hf : feB f.1 f.2.1 f.2.2
    · rw [ftx_no hf] at ht
      exact absurd ht.symm hne
    · rfl
  obtain ⟨k, s, v⟩ := f
  have ht2 := ht
  rw [ftx_yes hv] at ht2
  obtain ⟨a, b, c, rfl, rfl, rfl, hb, hc, hh⟩ := feB_cases hv
  simp only [Int.toNat_natCast] at ht2
  rcases hh with hh | ⟨hh, rfl⟩ | ⟨rfl, rfl⟩
  · refine ⟨[(b : Int), (c : Int)], a, ?_, by omega, by omega, ?_⟩
    · rw [← ht2]
      exact numsL_13 hh (by omega) (by omega)
    · have e : fk a [(b : Int), (c : Int)] = ((a : Int), (b : Int), (c : Int)) := by
        unfold fk
        rw [if_neg (by omega)]
        rfl
      rw [e]
      exact ht
  · refine ⟨[(b : Int)], a, ?_, by omega, by omega, ?_⟩
    · rw [← ht2]
      exact numsL_2 hh (by omega)
    · have e : fk a [(b : Int)] = ((a : Int), (b : Int), ((0 : Nat) : Int)) := by
        unfold fk
        rw [if_neg (by omega), if_neg (by simp), if_neg (by omega)]
        rfl
      rw [e]
      exact ht
  · refine ⟨[(c : Int)], 8, ?_, by omega, by omega, ?_⟩
    · rw [← ht2]
      exact numsL_8 (by omega)
    · exact ht
theorem rf_none {t : List UInt8} (h : numsL t = none) : rfOk t = false := by
  cases hr : rfOk t
  · rfl
  · obtain ⟨l, k, h1, _⟩ := rf_has hr
    rw [h] at h1
    cases h1
theorem rf_miss {t : List UInt8} {l : List Int} (hn : numsL t = some l) (h : ∀ k : Nat, 1 ≤ k → k ≤ 8 → ftx (fk k l) ≠ t) : rfOk t = false := by
  cases hr : rfOk t
  · rfl
  · obtain ⟨l2, k, h1, h2, h3, h4⟩ := rf_has hr
    rw [hn] at h1
    injection h1 with h1
    subst h1
    exact absurd h4 (h k h2 h3)
end Go.Proofs.YthelfgagddldfaaGreatDoor
