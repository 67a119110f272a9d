/- Walks: the texts A1 A2 T1 T2 T3 T4 T5 T6 T7 T8 T9 T10 T11 T12 T13 as one text. -/
import Derived.Lib.Hide
import Derived.Test.YtlfmpgfobkmgfaaGreatDoorMath
import Derived.Test.YtlfmpgfobkmgfaaGreatDoorBxM
import Derived.Test.YtlfmpgfobkmgfaaGreatDoorW10
import Derived.Test.YtlfmpgfobkmgfaaGreatDoorW5
namespace Go.Proofs.YtlfmpgfobkmgfaaGreatDoor
set_option linter.unusedVariables false
set_option linter.unusedSimpArgs false

/-- A cell of a circular track. -/
def cw (c : List UInt8) (k : Nat) : UInt8 := c.getD (k % c.length) 0
def fitB (c p : List UInt8) (a : Nat) : Bool := (List.range p.length).all fun i => cw c (a + i) == p.getD i 0
def cir (c : List UInt8) (a n : Nat) : List UInt8 := (List.range n).map fun i => cw c (a + i)
theorem cir_len (c : List UInt8) (a n : Nat) : (cir c a n).length = n := by simp [cir]
theorem fit_cir (c p : List UInt8) (a : Nat) : fitB c p a = decide (cir c a p.length = p) := by
  rw [Bool.eq_iff_iff, decide_eq_true_eq]
  unfold fitB
  rw [List.all_eq_true]
  constructor
  · intro h
    refine List.ext_getElem (cir_len c a p.length) (fun i h1 h2 => ?_)
    have := h i (List.mem_range.2 h2)
    rw [beq_iff_eq, List.getD_eq_getElem?_getD, List.getElem?_eq_getElem h2] at this
    simpa [cir] using this
  · intro h i hi
    have h2 := List.mem_range.1 hi
    rw [beq_iff_eq, List.getD_eq_getElem?_getD, List.getElem?_eq_getElem h2]
    have h3 : (cir c a p.length)[i]'(by rw [cir_len]; exact h2) = p[i] := by congr 1
    simpa [cir] using h3
theorem fit_uniq {c p q : List UInt8} {a : Nat} (hl : p.length = q.length) (hp : fitB c p a = true) (hq : fitB c q a = true) : p = q := by
  rw [fit_cir, decide_eq_true_eq] at hp hq
  rw [← hp, ← hq, hl]
/-- How many cells from a on are 1, f at most. -/
def onesF (c : List UInt8) : Nat → Nat → Nat
  | _, 0 => 0
  | a, f + 1 => if cw c a = 49 then onesF c (a + 1) f + 1 else 0
def syncAt (c : List UInt8) (a : Nat) : Option (Nat × Nat) :=
  if cw c a = 49 ∧ cw c (a + c.length - 1) ≠ 49 ∧ 10 ≤ onesF c a c.length then some (a, onesF c a c.length) else none
def syncL (c : List UInt8) : List (Nat × Nat) := (List.range c.length).filterMap (syncAt c)

/-- A mark: kind, place, place of the body. -/
abbrev MK := Nat × Nat × Nat
def srt (l : List MK) : Prop := l.Pairwise (fun x y => x.2.1 < y.2.1)
def insM (m : MK) : List MK → List MK
  | [] => [m]
  | x :: l => if x.2.1 < m.2.1 then x :: insM m l else m :: x :: l
theorem mem_insM (m x : MK) : ∀ l : List MK, x ∈ insM m l ↔ x = m ∨ x ∈ l
  | [] => by simp [insM]
  | y :: l => by
    unfold insM
    split
    · rw [List.mem_cons, mem_insM m x l, List.mem_cons]
      constructor
      · rintro (h | h | h)
        · exact .inr (.inl h)
        · exact .inl h
        · exact .inr (.inr h)
      · rintro (h | h | h)
        · exact .inr (.inl h)
        · exact .inl h
        · exact .inr (.inr h)
    · simp
theorem srt_insM (m : MK) : ∀ l : List MK, srt l → (∀ x ∈ l, x.2.1 ≠ m.2.1) → srt (insM m l)
  | [], _, _ => by simp [insM, srt]
  | y :: l, h, hne => by
    unfold srt at h ⊢
    rw [List.pairwise_cons] at h
    unfold insM
    split
    · rename_i hlt
      rw [List.pairwise_cons]
      refine ⟨fun x hx => ?_, srt_insM m l h.2 (fun x hx => hne x (List.mem_cons_of_mem _ hx))⟩
      rcases (mem_insM m x l).1 hx with rfl | hx
      · exact hlt
      · exact h.1 x hx
    · rename_i hge
      have hy := hne y (List.mem_cons_self ..)
      rw [List.pairwise_cons, List.pairwise_cons]
      refine ⟨fun x hx => ?_, h⟩
      rcases List.mem_cons.1 hx with rfl | hx
      · omega
      · have := h.1 x hx
        omega
def insAll (l : List MK) (out : List MK) : List MK := l.foldl (fun o m => insM m o) out
theorem insAll_cons (m : MK) (l out : List MK) : insAll (m :: l) out = insAll l (insM m out) := rfl
theorem insAll_append (l l' out : List MK) : insAll (l ++ l') out = insAll l' (insAll l out) := List.foldl_append
theorem mem_insAll (x : MK) : ∀ l out : List MK, x ∈ insAll l out ↔ x ∈ l ∨ x ∈ out
  | [], out => by simp [insAll]
  | m :: l, out => by
    rw [insAll_cons, mem_insAll x l, mem_insM, List.mem_cons]
    constructor
    · rintro (h | h | h)
      · exact .inl (.inr h)
      · exact .inl (.inl h)
      · exact .inr h
    · rintro ((h | h) | h)
      · exact .inr (.inl h)
      · exact .inl h
      · exact .inr (.inr h)
theorem srt_insAll : ∀ l out : List MK, srt out → l.Pairwise (fun x y => x.2.1 ≠ y.2.1) → (∀ x ∈ l, ∀ y ∈ out, y.2.1 ≠ x.2.1) → srt (insAll l out)
  | [], out, h, _, _ => h
  | m :: l, out, h, hp, hd => by
    rw [List.pairwise_cons] at hp
    rw [insAll_cons]
    refine srt_insAll l _ (srt_insM m out h (fun x hx => hd m (List.mem_cons_self ..) x hx)) hp.2 (fun x hx y hy => ?_)
    rcases (mem_insM m y out).1 hy with rfl | hy
    · exact hp.1 x hx
    · exact hd x (List.mem_cons_of_mem _ hx) y hy
theorem srt_uniq : ∀ l l' : List MK, srt l → srt l' → (∀ x, x ∈ l ↔ x ∈ l') → l = l'
  | [], [], _, _, _ => rfl
  | [], y :: l', _, _, h => absurd ((h y).2 (List.mem_cons_self ..)) (by simp)
  | x :: l, [], _, _, h => absurd ((h x).1 (List.mem_cons_self ..)) (by simp)
  | x :: l, y :: l', h1, h2, h => by
    unfold srt at h1 h2
    rw [List.pairwise_cons] at h1 h2
    have hxy : x = y := by
      rcases List.mem_cons.1 ((h x).1 (List.mem_cons_self ..)) with e | hx
      · exact e
      · rcases List.mem_cons.1 ((h y).2 (List.mem_cons_self ..)) with e | hy
        · exact e.symm
        · have a1 := h2.1 x hx
          have a2 := h1.1 y hy
          omega
    subst hxy
    congr 1
    refine srt_uniq l l' h1.2 h2.2 (fun z => ⟨fun hz => ?_, fun hz => ?_⟩)
    · rcases List.mem_cons.1 ((h z).1 (List.mem_cons_of_mem _ hz)) with rfl | hz'
      · exact absurd (h1.1 z hz) (Nat.lt_irrefl _)
      · exact hz'
    · rcases List.mem_cons.1 ((h z).2 (List.mem_cons_of_mem _ hz)) with rfl | hz'
      · exact absurd (h2.1 z hz) (Nat.lt_irrefl _)
      · exact hz'

/-- The first kind whose pattern is at a place. -/
def kindA (P : Nat → List UInt8) (c : List UInt8) (a : Nat) : Option Nat := if fitB c (P 1) a = true then some 1 else if fitB c (P 2) a = true then some 2 else if fitB c (P 3) a = true then some 3 else none
/-- The marks at some sites (place, place of the pattern), in order; and the same kind by kind. -/
def mkS (P : Nat → List UInt8) (len : Nat) (c : List UInt8) (sites : List (Nat × Nat)) : List MK := sites.filterMap fun s => (kindA P c s.2).map fun k => (k, s.1, (s.2 + len) % c.length)
def oneK (P : Nat → List UInt8) (len : Nat) (c : List UInt8) (k : Nat) (s : Nat × Nat) : Option MK := if fitB c (P k) s.2 = true then some (k, s.1, (s.2 + len) % c.length) else none
def allK (P : Nat → List UInt8) (len : Nat) (c : List UInt8) (k : Nat) (sites : List (Nat × Nat)) : List MK := sites.filterMap (oneK P len c k)
def allS (P : Nat → List UInt8) (len : Nat) (c : List UInt8) (sites : List (Nat × Nat)) : List MK := allK P len c 1 sites ++ (allK P len c 2 sites ++ allK P len c 3 sites)
/-- Three patterns of one length, all different. -/
def Pat3 (P : Nat → List UInt8) : Prop := (P 1).length = (P 2).length ∧ (P 2).length = (P 3).length ∧ P 1 ≠ P 2 ∧ P 1 ≠ P 3 ∧ P 2 ≠ P 3
section
variable {P : Nat → List UInt8} {len : Nat} {c : List UInt8} {sites : List (Nat × Nat)}
theorem Pat3.uniq (h : Pat3 P) {a k k' : Nat} (hk : k = 1 ∨ k = 2 ∨ k = 3) (hk' : k' = 1 ∨ k' = 2 ∨ k' = 3) (h1 : fitB c (P k) a = true) (h2 : fitB c (P k') a = true) : k = k' := by
  obtain ⟨l1, l2, n1, n2, n3⟩ := h
  rcases hk with rfl | rfl | rfl <;> rcases hk' with rfl | rfl | rfl
  all_goals first
    | rfl
    | exact absurd (fit_uniq (by omega) h1 h2) (by assumption)
    | exact absurd (fit_uniq (by omega) h2 h1) (by assumption)
theorem mem_allK {k : Nat} {x : MK} : x ∈ allK P len c k sites ↔ ∃ s ∈ sites, fitB c (P k) s.2 = true ∧ x = (k, s.1, (s.2 + len) % c.length) := by
  unfold allK oneK
  rw [List.mem_filterMap]
  constructor
  · rintro ⟨s, hs, h⟩
    split at h
    · rename_i hf
      exact ⟨s, hs, hf, (Option.some.inj h).symm⟩
    · cases h
  · rintro ⟨s, hs, hf, rfl⟩
    exact ⟨s, hs, by rw [if_pos hf]⟩
theorem mem_mkS (h : Pat3 P) {x : MK} : x ∈ mkS P len c sites ↔ x ∈ allS P len c sites := by
  unfold mkS allS
  rw [List.mem_append, List.mem_append, mem_allK, mem_allK, mem_allK, List.mem_filterMap]
  constructor
  · rintro ⟨s, hs, e⟩
    unfold kindA at e
    split at e
    · rename_i hf
      exact .inl ⟨s, hs, hf, (Option.some.inj e).symm⟩
    · split at e
      · rename_i hf
        exact .inr (.inl ⟨s, hs, hf, (Option.some.inj e).symm⟩)
      · split at e
        · rename_i hf
          exact .inr (.inr ⟨s, hs, hf, (Option.some.inj e).symm⟩)
        · cases e
  · have key : ∀ k, (k = 1 ∨ k = 2 ∨ k = 3) → ∀ s : Nat × Nat, fitB c (P k) s.2 = true → kindA P c s.2 = some k := by
      intro k hk s hf
      unfold kindA
      split
      · rename_i h1
        rw [h.uniq hk (.inl rfl) hf h1]
      · rename_i h1
        split
        · rename_i h2
          rw [h.uniq hk (.inr (.inl rfl)) hf h2]
        · rename_i h2
          split
          · rename_i h3
            rw [h.uniq hk (.inr (.inr rfl)) hf h3]
          · rename_i h3
            rcases hk with rfl | rfl | rfl
            · exact absurd hf h1
            · exact absurd hf h2
            · exact absurd hf h3
    rintro (⟨s, hs, hf, rfl⟩ | ⟨s, hs, hf, rfl⟩ | ⟨s, hs, hf, rfl⟩)
    · exact ⟨s, hs, by rw [key 1 (.inl rfl) s hf]; rfl⟩
    · exact ⟨s, hs, by rw [key 2 (.inr (.inl rfl)) s hf]; rfl⟩
    · exact ⟨s, hs, by rw [key 3 (.inr (.inr rfl)) s hf]; rfl⟩
theorem srt_mkS (hs : sites.Pairwise (fun s t => s.1 < t.1)) : srt (mkS P len c sites) := by
  unfold srt mkS
  rw [List.pairwise_filterMap]
  refine hs.imp ?_
  intro s t hst x hx y hy
  obtain ⟨k, _, rfl⟩ := Option.map_eq_some_iff.1 hx
  obtain ⟨k', _, rfl⟩ := Option.map_eq_some_iff.1 hy
  exact hst
theorem ne_allK {k : Nat} (hs : sites.Pairwise (fun s t => s.1 < t.1)) : (allK P len c k sites).Pairwise (fun x y => x.2.1 ≠ y.2.1) := by
  unfold allK
  rw [List.pairwise_filterMap]
  refine hs.imp ?_
  intro s t hst x hx y hy
  unfold oneK at hx hy
  split at hx
  · split at hy
    · cases hx
      cases hy
      show s.1 ≠ t.1
      omega
    · cases hy
  · cases hx
theorem ne_two (h : Pat3 P) (hs : sites.Pairwise (fun s t => s.1 < t.1)) {k k' : Nat} (hk : k = 1 ∨ k = 2 ∨ k = 3) (hk' : k' = 1 ∨ k' = 2 ∨ k' = 3) (hkk : k ≠ k') : ∀ x ∈ allK P len c k sites, ∀ y ∈ allK P len c k' sites, x.2.1 ≠ y.2.1 := by
  intro x hx y hy e
  obtain ⟨s, hs1, hf, rfl⟩ := mem_allK.1 hx
  obtain ⟨t, ht1, hg, rfl⟩ := mem_allK.1 hy
  have e2 : s.1 = t.1 := e
  have est : s = t := by
    by_cases hst : s = t
    · exact hst
    · exfalso
      obtain ⟨i, hi, rfl⟩ := List.getElem_of_mem hs1
      obtain ⟨j, hj, rfl⟩ := List.getElem_of_mem ht1
      rw [List.pairwise_iff_getElem] at hs
      rcases Nat.lt_trichotomy i j with h1 | h1 | h1
      · have := hs i j hi hj h1; omega
      · exact hst (by subst h1; rfl)
      · have := hs j i hj hi h1; omega
  subst est
  exact hkk (h.uniq hk hk' hf hg)
theorem ne_allS (h : Pat3 P) (hs : sites.Pairwise (fun s t => s.1 < t.1)) : (allS P len c sites).Pairwise (fun x y => x.2.1 ≠ y.2.1) := by
  unfold allS
  rw [List.pairwise_append, List.pairwise_append]
  refine ⟨ne_allK hs, ⟨ne_allK hs, ne_allK hs, ne_two h hs (.inr (.inl rfl)) (.inr (.inr rfl)) (by decide)⟩, fun x hx y hy => ?_⟩
  rcases List.mem_append.1 hy with hy | hy
  · exact ne_two h hs (.inl rfl) (.inr (.inl rfl)) (by decide) x hx y hy
  · exact ne_two h hs (.inl rfl) (.inr (.inr rfl)) (by decide) x hx y hy
/-- Put in one by one, the marks come in order. -/
theorem ins_mkS (h : Pat3 P) (hs : sites.Pairwise (fun s t => s.1 < t.1)) : insAll (allS P len c sites) [] = mkS P len c sites := by
  refine srt_uniq _ _ (srt_insAll _ _ List.Pairwise.nil (ne_allS h hs) (fun x _ y hy => by cases hy)) (srt_mkS hs) (fun x => ?_)
  rw [mem_insAll, mem_mkS h]
  simp
/-- Sorted in any way, the marks come in order. -/
theorem perm_mkS (h : Pat3 P) (hs : sites.Pairwise (fun s t => s.1 < t.1)) {l : List MK} (hp : l.Perm (allS P len c sites)) (hl : l.Pairwise (fun x y => ¬ y.2.1 < x.2.1)) : l = mkS P len c sites := by
  have hne : l.Pairwise (fun x y => x.2.1 ≠ y.2.1) := (hp.pairwise_iff (fun {x y} h => Ne.symm h)).2 (ne_allS h hs)
  refine srt_uniq _ _ (hl.imp₂ ?_ hne) (srt_mkS hs) (fun x => ?_)
  · intro x y h1 h2
    omega
  · rw [mem_mkS h]
    exact hp.mem_iff
end
def fSites (n : Nat) : List (Nat × Nat) := (List.range n).map fun a => (a, a)
def gSites (c : List UInt8) : List (Nat × Nat) := (syncL c).map fun s => (s.1, s.1 + s.2)
theorem fSites_lt (n : Nat) : (fSites n).Pairwise (fun s t => s.1 < t.1) := by
  unfold fSites
  rw [List.pairwise_map]
  exact List.pairwise_lt_range
theorem gSites_lt (c : List UInt8) : (gSites c).Pairwise (fun s t => s.1 < t.1) := by
  unfold gSites syncL
  rw [List.pairwise_map, List.pairwise_filterMap]
  refine List.pairwise_lt_range.imp ?_
  intro a b hab x hx y hy
  unfold syncAt at hx hy
  split at hx
  · split at hy
    · cases hx
      cases hy
      exact hab
    · cases hy
  · cases hx
end Go.Proofs.YtlfmpgfobkmgfaaGreatDoor
namespace Go.Proofs.YtlfmpgfobkmgfaaGreatDoor
set_option linter.unusedVariables false
set_option linter.unusedSimpArgs false

/-- A byte out of eight cells. -/
def b8n (f : Nat → UInt8) : Nat → Nat
  | 0 => 0
  | k + 1 => b8n f k * 2 + (f k).toNat % 2
def b8 (f : Nat → UInt8) : UInt8 := UInt8.ofNat (b8n f 8)
theorem b8n_lt (f : Nat → UInt8) : ∀ k, b8n f k < 2 ^ k
  | 0 => by simp [b8n]
  | k + 1 => by
    have := b8n_lt f k
    unfold b8n
    rw [Nat.pow_succ]
    omega
theorem b8n_congr {f g : Nat → UInt8} : ∀ k, (∀ i, i < k → f i = g i) → b8n f k = b8n g k
  | 0, _ => rfl
  | k + 1, h => by
    unfold b8n
    rw [b8n_congr k (fun i hi => h i (by omega)), h k (by omega)]
/-- The bytes whose bits these cells are. -/
def bytesL (bits : List UInt8) (nb : Nat) : List UInt8 := (List.range nb).map fun i => b8 (fun k => bits.getD (8 * i + k) 48)
theorem bytesL_len (bits : List UInt8) (nb : Nat) : (bytesL bits nb).length = nb := by simp [bytesL]
theorem bytesL_s (bits : List UInt8) (nb : Nat) : bytesL bits (nb + 1) = bytesL bits nb ++ [b8 (fun k => bits.getD (8 * nb + k) 48)] := by
  unfold bytesL
  rw [List.range_succ, List.map_append]
  rfl
/-- The group code. -/
def gT : List (List UInt8) := [[48, 49, 48, 49, 48], [48, 49, 48, 49, 49], [49, 48, 48, 49, 48], [49, 48, 48, 49, 49], [48, 49, 49, 49, 48], [48, 49, 49, 49, 49], [49, 48, 49, 49, 48], [49, 48, 49, 49, 49], [48, 49, 48, 48, 49], [49, 49, 48, 48, 49], [49, 49, 48, 49, 48], [49, 49, 48, 49, 49], [48, 49, 49, 48, 49], [49, 49, 49, 48, 49], [49, 49, 49, 49, 48], [49, 48, 49, 48, 49]]
/-- The number of a group, -1 if it is none. -/
def gvI (g : List UInt8) : Int := match (List.range 16).find? (fun j => decide (gT.getD j [] = g)) with | some i => (i : Int) | none => -1
def gvP (g : List UInt8) : Nat := (gvI g).toNat
theorem gvI_lt (g : List UInt8) : -1 ≤ gvI g ∧ gvI g ≤ 15 := by
  unfold gvI
  split
  · rename_i i h
    have := List.mem_range.1 (List.mem_of_find?_eq_some h)
    omega
  · omega
theorem gvP_lt (g : List UInt8) : gvP g ≤ 15 := by
  have := gvI_lt g
  unfold gvP
  omega
def nib (v : Nat) : List UInt8 := [UInt8.ofNat (48 + v / 8 % 2), UInt8.ofNat (48 + v / 4 % 2), UInt8.ofNat (48 + v / 2 % 2), UInt8.ofNat (48 + v % 2)]
theorem nib_len (v : Nat) : (nib v).length = 4 := rfl
theorem b8_nib : ∀ a b : Fin 16, b8 (fun k => (nib a.val ++ nib b.val).getD k 48) = UInt8.ofNat (16 * a.val + b.val) := by decide
/-- The group j of cells. -/
def grp (s : List UInt8) (j : Nat) : List UInt8 := (s.drop (5 * j)).take 5
def gbits (s : List UInt8) (j : Nat) : List UInt8 := (List.range j).flatMap fun i => nib (gvP (grp s i))
theorem gbits_s (s : List UInt8) (j : Nat) : gbits s (j + 1) = gbits s j ++ nib (gvP (grp s j)) := by
  unfold gbits
  rw [List.range_succ, List.flatMap_append]
  simp
theorem gbits_len (s : List UInt8) : ∀ j, (gbits s j).length = 4 * j
  | 0 => rfl
  | j + 1 => by rw [gbits_s, List.length_append, gbits_len s j, nib_len]; omega
theorem gbits_get (s : List UInt8) : ∀ (J j k : Nat), j < J → k < 4 → (gbits s J).getD (4 * j + k) 48 = (nib (gvP (grp s j))).getD k 48
  | 0, j, k, h, _ => absurd h (Nat.not_lt_zero _)
  | J + 1, j, k, h, hk => by
    rw [gbits_s, List.getD_eq_getElem?_getD]
    by_cases e : j = J
    · subst e
      rw [List.getElem?_append_right (by rw [gbits_len]; omega), gbits_len, show 4 * j + k - 4 * j = k by omega, ← List.getD_eq_getElem?_getD]
    · rw [List.getElem?_append_left (by rw [gbits_len]; omega), ← List.getD_eq_getElem?_getD]
      exact gbits_get s J j k (by omega) hk
/-- The bytes of groups: by their bits, or at once. -/
theorem gbytes (s : List UInt8) (m : Nat) : bytesL (gbits s (2 * m)) m = (List.range m).map fun i => UInt8.ofNat (16 * gvP (grp s (2 * i)) + gvP (grp s (2 * i + 1))) := by
  unfold bytesL
  refine List.map_congr_left (fun i hi => ?_)
  have hi := List.mem_range.1 hi
  have h := b8_nib ⟨gvP (grp s (2 * i)), by have := gvP_lt (grp s (2 * i)); omega⟩ ⟨gvP (grp s (2 * i + 1)), by have := gvP_lt (grp s (2 * i + 1)); omega⟩
  rw [← h]
  unfold b8
  congr 1
  refine b8n_congr 8 (fun k hk => ?_)
  by_cases h4 : k < 4
  · rw [show 8 * i + k = 4 * (2 * i) + k by omega, gbits_get s (2 * m) (2 * i) k (by omega) h4, List.getD_eq_getElem?_getD, List.getD_eq_getElem?_getD, List.getElem?_append_left (by rw [nib_len]; exact h4)]
  · rw [show 8 * i + k = 4 * (2 * i + 1) + (k - 4) by omega, gbits_get s (2 * m) (2 * i + 1) (k - 4) (by omega) (by omega), List.getD_eq_getElem?_getD, List.getD_eq_getElem?_getD, List.getElem?_append_right (by rw [nib_len]; omega), nib_len]
/-- The cells at the odd places. -/
def odds (s : List UInt8) : List UInt8 := (List.range (s.length / 2)).map fun i => s.getD (2 * i + 1) 48
theorem odds_len (s : List UInt8) : (odds s).length = s.length / 2 := by simp [odds]
/-- The bytes of cells, and whether all codes are right. -/
def rawF (f : Int) (s : List UInt8) : List UInt8 × Bool :=
  if f = 3 then (bytesL (gbits s (s.length / 5)) (s.length / 10), (List.range (s.length / 5)).all fun j => decide (0 ≤ gvI (grp s j)))
  else (bytesL (odds s) (s.length / 16), true)
theorem rawF_len (f : Int) (s : List UInt8) : (rawF f s).1.length = if f = 3 then s.length / 10 else s.length / 16 := by
  unfold rawF
  split <;> exact bytesL_len _ _
def cpb (f : Int) : Nat := if f = 3 then 10 else 16
/-- What stands before the bytes of a field when its checksum is made. -/
def mbN (f : Int) (k : Nat) : Nat := if f = 3 then 9 - k else 257 - 3 * k
def preL (f : Int) (k : Nat) : List UInt8 := if f = 2 then [161, 161, 161, UInt8.ofNat (mbN f k)] else [UInt8.ofNat (mbN f k)]
def wdL (r : List UInt8) (n : Nat) : Nat := (r.getD n 0).toNat * 256 + (r.getD (n + 1) 0).toNat
/-- The bytes of a field, and whether it is right; none if there is no room for it. -/
def fldL (f : Int) (c : List UInt8) (k body n : Nat) : Option (List UInt8 × Bool) :=
  if c.length < (n + 2) * cpb f then none
  else some ((rawF f (cir c body ((n + 2) * cpb f))).1.take n, (rawF f (cir c body ((n + 2) * cpb f))).2 && decide (crcL (preL f k ++ (rawF f (cir c body ((n + 2) * cpb f))).1.take n) 65535 = wdL (rawF f (cir c body ((n + 2) * cpb f))).1 n))
end Go.Proofs.YtlfmpgfobkmgfaaGreatDoor
namespace Go.Proofs.YtlfmpgfobkmgfaaGreatDoor
open Go.RowKit
set_option linter.unusedVariables false
set_option linter.unusedSimpArgs false

/-- The bytes of a string. -/
abbrev bl (s : ByteArray) : List UInt8 := s.data.toList
theorem blen (s : ByteArray) : (bl s).length = s.size := Array.length_toList
theorem bl_get (s : ByteArray) (k : Nat) (h : k < s.size) : (bl s)[k]'(by rw [blen]; exact h) = s[k] := by simp [bl]; rfl
theorem cw_get (s : ByteArray) (k : Nat) (h : 0 < s.size) : cw (bl s) k = s[k % s.size]'(Nat.mod_lt _ h) := by
  unfold cw
  rw [blen, List.getD_eq_getElem?_getD, List.getElem?_eq_getElem (by rw [blen]; exact Nat.mod_lt _ h), Option.getD_some, bl_get s _ (Nat.mod_lt _ h)]
/-- A string of valid cells. -/
def cellB (b : UInt8) : Bool := b.toNat == 48 || b.toNat == 49
def cellsB (s : ByteArray) : Bool := decide (1 ≤ s.size) && (decide (s.size ≤ 8000) && (bl s).all cellB)
theorem cells_drop {s : ByteArray} {k : Nat} (h : k < s.size) {R : Bool} (e : ((bl s).drop k).all cellB = R) : (cellB s[k] && ((bl s).drop (k + 1)).all cellB) = R := by
  have h2 := List.drop_eq_getElem_cons (l := bl s) (i := k) (by rw [blen]; exact h)
  rw [← e, h2, List.all_cons, bl_get s k h]
theorem cells_end {s : ByteArray} {k : Nat} (h : ¬ k < s.size) {R : Bool} (e : ((bl s).drop k).all cellB = R) : R = true := by
  rw [← e, List.drop_eq_nil_of_le (by rw [blen]; omega)]
  rfl

set_option maxHeartbeats 1000000 in
theorem l02Cells_any (s : ByteArray) (w : World) (hs : s.size ≤ 1048576) : Calls Tryz.prog 34 #[.string s] w fun e w' => e = .returned (.bool (cellsB s)) ∧ w = w' := by
  by_cases h1 : s.size < 1
  · have g1 : decide ((s.size : Int) < 1) = true := decide_eq_true (by omega)
    have HR := Lib.hid (show cellsB s = false by unfold cellsB; rw [decide_eq_false (by omega)]; rfl)
    go_enter Tryz.func34, Tryz.ntmps34
    go_wp2
    go_ret
    exact ⟨by rw [HR.out]; rfl, rfl⟩
  have g1 : decide ((s.size : Int) < 1) = false := decide_eq_false (by omega)
  by_cases h2 : 8000 < s.size
  · have g2 : decide ((8000 : Int) < (s.size : Int)) = true := decide_eq_true (by omega)
    have HR := Lib.hid (show cellsB s = false by unfold cellsB; rw [decide_eq_true (by omega), decide_eq_false (by omega)]; rfl)
    go_enter Tryz.func34, Tryz.ntmps34
    go_wp2
    go_ret
    exact ⟨by rw [HR.out]; rfl, rfl⟩
  have g2 : decide ((8000 : Int) < (s.size : Int)) = false := decide_eq_false (by omega)
  obtain ⟨R, hR⟩ : ∃ R, cellsB s = R := ⟨_, rfl⟩
  rw [hR]
  have HR := Lib.hid (show (bl s).all cellB = R by rw [← hR]; unfold cellsB; rw [decide_eq_true (by omega), decide_eq_true (by omega)]; rfl)
  clear hR
  go_enter Tryz.func34, Tryz.ntmps34
  go_wp2
  go_loopw [3] (fun i wr => ∃ k : Nat, i = .int .i64 (k : Int) ∧ k ≤ s.size ∧ w = wr ∧ Hid (((bl s).drop k).all cellB = R)) (fun i _ => s.size - (intOf i).toNat)
  case atStart => exact ⟨0, rfl, Nat.zero_le _, rfl, Lib.hid (by rw [List.drop_zero]; exact HR.out)⟩
  case round =>
    obtain ⟨k, rfl, hk, rfl, HK⟩ := hrel
    by_cases hlt : k < s.size
    · have hd := Lib.hid (cells_drop hlt HK.out)
      obtain ⟨y, hy⟩ : ∃ y, s[k].toNat = y := ⟨_, rfl⟩
      have HC := Lib.hid (show cellB s[k] = (y == 48 || y == 49) by unfold cellB; rw [hy])
      have HY := Lib.hid hy
      by_cases y0 : y = 48
      · have e0 : ((y : Int) != 48) = false := by simp [bne, y0]
        have HN := Lib.hid (show ((bl s).drop (k + 1)).all cellB = R by have := hd.out; rw [HC.out, y0] at this; simpa using this)
        clear y0
        go_wp2
        go_roundw
        case rel => exact ⟨k + 1, by go_num, by omega, (by first | rfl | trivial), HN⟩
        case measure => (simp [intOf] <;> omega)
      · have e0 : ((y : Int) != 48) = true := by simp [bne]; omega
        by_cases y1 : y = 49
        · have e1 : ((y : Int) != 49) = false := by simp [bne, y1]
          have HN := Lib.hid (show ((bl s).drop (k + 1)).all cellB = R by have := hd.out; rw [HC.out, y1] at this; simpa using this)
          clear y0 y1
          go_wp2
          go_roundw
          case rel => exact ⟨k + 1, by go_num, by omega, (by first | rfl | trivial), HN⟩
          case measure => (simp [intOf] <;> omega)
        · have e1 : ((y : Int) != 49) = true := by simp [bne]; omega
          have HN := Lib.hid (show R = false by have := hd.out; rw [HC.out, beq_false_of_ne y0, beq_false_of_ne y1] at this; exact this.symm)
          clear y0 y1
          go_wp2
          go_ret
          exact ⟨by rw [HN.out]; rfl, rfl⟩
    · have HN := Lib.hid (cells_end hlt HK.out)
      go_wp2
      go_ret
      exact ⟨by rw [HN.out]; rfl, rfl⟩
theorem spec_ValidCells_any (s : ByteArray) (w : World) (hs : s.size ≤ 1048576) : Calls Tryz.prog 23 #[.string s] w fun e w' => e = .returned (.bool (cellsB s)) ∧ w = w' := by
  have h := fun W => l02Cells_any s W hs
  go_enter Tryz.func23, Tryz.ntmps23
  go_wp2_with (go_at_call 34; (with_reducible refine (h _).mono ?_); rintro e w9 ⟨rfl, rfl⟩)
  go_ret
  exact ⟨rfl, rfl⟩
theorem rem_nat (k n : Nat) : ((k : Int).tmod (n : Int)) = ((k % n : Nat) : Int) := by
  rw [Int.ofNat_tmod]
set_option maxHeartbeats 400000 in
theorem l07At_any (s : ByteArray) (k : Nat) (w : World) (hs : s.size ≤ 1048576) (h0 : 0 < s.size) (hk : k ≤ 100000000) : Calls Tryz.prog 61 #[.string s, .int .i64 (k : Int)] w fun e w' => e = .returned (.int .u8 ((cw (bl s) k).toNat : Int)) ∧ w = w' := by
  obtain ⟨j, hj⟩ : ∃ j, k % s.size = j := ⟨_, rfl⟩
  have hlt : j < s.size := by rw [← hj]; exact Nat.mod_lt _ h0
  have hr : ((k : Int).tmod (s.size : Int)) = (j : Int) := by rw [rem_nat, hj]
  have hn : ¬ (s.size : Int) = 0 := by omega
  have hn2 : ((s.size : Int) == 0) = false := by rw [beq_eq_false_iff_ne]; omega
  have hcw : cw (bl s) k = s[j] := by rw [cw_get s k h0]; simp only [hj]
  rw [hcw]
  have hw : IntKind.i64.wrap (j : Int) = (j : Int) := IntWalk.i64_in _ (by omega)
  clear hj hcw
  go_enter Tryz.func61, Tryz.ntmps61
  go_wp2
  go_ret
  exact ⟨rfl, rfl⟩
end Go.Proofs.YtlfmpgfobkmgfaaGreatDoor
namespace Go.Proofs.YtlfmpgfobkmgfaaGreatDoor
open Go.RowKit
set_option linter.unusedVariables false
set_option linter.unusedSimpArgs false

def fN (n : Nat) : List Value := [.int .i64 (n : Int)]
theorem fN_len (n : Nat) : (fN n).length = 1 := rfl
theorem oneN (n : Nat) : ∀ u ∈ fN n, u.oneCell' = true := by
  intro u hu
  simp only [fN, List.mem_cons, List.not_mem_nil, or_false] at hu
  subst hu
  rfl
theorem eltN : Elt Tryz.prog 66 2 1 8 (.int .i64 0) := Elt.mk' Tryz.underlying66 (by kernel_rfl) rfl (by decide)

/-- The pattern from its cell j on. -/
def fitD (c p : List UInt8) (a j : Nat) : Bool := ((List.range p.length).drop j).all fun i => cw c (a + i) == p.getD i 0
theorem fitD_0 (c p : List UInt8) (a : Nat) : fitD c p a 0 = fitB c p a := by unfold fitD fitB; rw [List.drop_zero]
theorem fitD_s {c p : List UInt8} {a j : Nat} (h : j < p.length) : fitD c p a j = (cw c (a + j) == p.getD j 0 && fitD c p a (j + 1)) := by
  unfold fitD
  have h2 := List.drop_eq_getElem_cons (l := List.range p.length) (i := j) (by simpa using h)
  rw [h2, List.all_cons]
  simp
theorem fitD_e {c p : List UInt8} {a j : Nat} (h : ¬ j < p.length) : fitD c p a j = true := by
  unfold fitD
  rw [List.drop_eq_nil_of_le (by simp; omega)]
  rfl
theorem getD_s (p : ByteArray) (j : Nat) (h : j < p.size) : (bl p).getD j 0 = p[j] := by
  rw [List.getD_eq_getElem?_getD, List.getElem?_eq_getElem (by rw [blen]; exact h), Option.getD_some, bl_get p j h]

set_option maxHeartbeats 1000000 in
theorem l07Fits_any (s p : ByteArray) (a : Nat) (w : World) (hs : s.size ≤ 1048576) (h0 : 0 < s.size) (hp : p.size ≤ 1048576) (ha : a ≤ 10000000) :
    Calls Tryz.prog 45 #[.string s, .string p, .int .i64 (a : Int)] w fun e w' => e = .returned (.bool (fitB (bl s) (bl p) a)) ∧ ∃ n, w' = w.drewN n := by
  obtain ⟨R, hR⟩ : ∃ R, fitB (bl s) (bl p) a = R := ⟨_, rfl⟩
  rw [hR]
  have HR := Lib.hid hR
  clear hR
  go_enter Tryz.func45, Tryz.ntmps45
  go_wp2
  go_loopw [7] (fun i wr => ∃ k n : Nat, i = .int .i64 (k : Int) ∧ k ≤ p.size ∧ wr = w.drewN n ∧ Hid (fitD (bl s) (bl p) a k = R)) (fun i _ => p.size - (intOf i).toNat)
  case atStart => exact ⟨0, 0, rfl, Nat.zero_le _, rfl, Lib.hid (by rw [fitD_0]; exact HR.out)⟩
  case round =>
    obtain ⟨k, n, rfl, hk, hwr, HK⟩ := hrel
    have HW := Lib.hid hwr
    clear hwr
    by_cases hlt : k < p.size
    · have hlti : decide ((k : Int) < (p.size : Int)) = true := decide_eq_true (by omega)
      have hw1 : IntKind.i64.wrap ((a : Int) + (k : Int)) = (a : Int) + (k : Int) := IntWalk.i64_in _ (by omega)
      have at_ := fun W => l07At_any s (a + k) W hs h0 (by omega)
      simp only [Int.natCast_add] at at_
      have hd := Lib.hid ((fitD_s (c := bl s) (p := bl p) (a := a) (j := k) (by rw [blen]; exact hlt)).symm.trans HK.out)
      have hg := getD_s p k hlt
      rw [hg] at hd
      clear hg
      obtain ⟨x, hx⟩ : ∃ x, cw (bl s) (a + k) = x := ⟨_, rfl⟩
      obtain ⟨y, hy⟩ : ∃ y, p[k] = y := ⟨_, rfl⟩
      rw [hx] at at_ hd
      rw [hy] at hd
      have HY := Lib.hid hy
      by_cases e : x = y
      · have e0 : ((x.toNat : Int) != (y.toNat : Int)) = false := by rw [e]; simp
        have HN := Lib.hid (show fitD (bl s) (bl p) a (k + 1) = R by have := hd.out; rw [e, beq_self_eq_true, Bool.true_and] at this; exact this)
        clear e hx hd HK
        go_wp2
        go_quiet (exact quiet_left (at_ _))
        generalize nq = n2
        go_wp2
        go_roundw
        case rel => exact ⟨k + 1, n + n2, by go_num, by omega, by rw [HW.out, World.drewN_drewN], HN⟩
        case measure => (simp [intOf] <;> omega)
      · have e0 : ((x.toNat : Int) != (y.toNat : Int)) = true := by
          rw [bne_iff_ne]
          intro h
          exact e (UInt8.toNat_inj.1 (by omega))
        have HN := Lib.hid (show R = false by have := hd.out; rw [beq_false_of_ne e, Bool.false_and] at this; exact this.symm)
        clear e hx hd HK
        go_wp2
        go_quiet (exact quiet_left (at_ _))
        generalize nq = n2
        go_wp2
        go_ret
        exact ⟨by rw [HN.out]; rfl, n + n2, by rw [HW.out, World.drewN_drewN]⟩
    · have hlti : decide ((k : Int) < (p.size : Int)) = false := decide_eq_false (by omega)
      have HN := Lib.hid (show R = true from HK.out.symm.trans (fitD_e (by rw [blen]; exact hlt)))
      go_wp2
      go_ret
      exact ⟨by rw [HN.out]; rfl, n, HW.out⟩

/-- The places up to k. -/
def plK (c p : List UInt8) (k : Nat) : List Nat := (List.range k).filter fun a => fitB c p a
theorem plK_s (c p : List UInt8) (k : Nat) : plK c p (k + 1) = plK c p k ++ (if fitB c p k = true then [k] else []) := by
  unfold plK
  rw [List.range_succ, List.filter_append]
  congr 1
  cases h : fitB c p k <;> simp [h]
theorem plK_len (c p : List UInt8) (k : Nat) : (plK c p k).length ≤ k := by
  unfold plK
  have := List.length_filter_le (fun a => fitB c p a) (List.range k)
  simpa using this

set_option maxRecDepth 100000 in
set_option maxHeartbeats 2000000 in
theorem l07Find_any (s p : ByteArray) (w : World) (hs : s.size ≤ 8000) (h0 : 0 < s.size) (hp : p.size ≤ 1048576) :
    Calls Tryz.prog 43 #[.string s, .string p] w fun e w' => ∃ v, e = .returned v ∧ w'.ownsRow w.heap.size 2 1 v (plK (bl s) (bl p) s.size).length (flat fN (plK (bl s) (bl p) s.size)) ∧ Below w.heap.size w w' := by
  have hby : 8 ≤ 1000 := by decide
  go_enter Tryz.func43, Tryz.ntmps43
  go_wp2
  have O0 : World.ownsRow (w.alloc (.cells #[] 2)) w.heap.size 2 1 (.slice (some ⟨w.heap.size, 0, none⟩) 0 0) 0 [] := (by have h := OwnB.lit (e := 2) (base := w.heap.size) w [] #[] rfl (Nat.le_refl _) (by simp); exact h)
  have hB0 : BB w (w.alloc (.cells #[] 2)) := BB.al (BB.start w) _
  generalize (w.alloc (.cells #[] 2)) = w1 at O0 hB0 ⊢
  go_loopw [5, 6] (fun v i wr => ∃ (k : Nat) (l : List Nat) (B : Option Addr) (q : Nat), i = .int .i64 (k : Int) ∧ v = .slice B l.length q ∧ k ≤ s.size ∧ OO wr w.heap.size 2 1 (.slice B l.length q) l.length (flat fN l) ∧ BB w wr ∧ Hid (l = plK (bl s) (bl p) k)) (fun _ i _ => s.size - (intOf i).toNat)
  case atStart => exact ⟨0, [], _, _, rfl, rfl, Nat.zero_le _, O0, hB0, Lib.hid rfl⟩
  case round =>
    obtain ⟨k, l, B, q, rfl, rfl, hk, O, hB, HL⟩ := hrel
    clear O0 hB0
    by_cases hlt : k < s.size
    · have hlti : decide ((k : Int) < (s.size : Int)) = true := decide_eq_true (by omega)
      have ft := l07Fits_any s p k wr (by omega) h0 hp (by omega)
      have hll : l.length ≤ 100000000 := by rw [HL.out]; have := plK_len (bl s) (bl p) k; omega
      have HS := Lib.hid (plK_s (bl s) (bl p) k)
      cases hf : fitB (bl s) (bl p) k
      · rw [hf] at ft
        have HN := Lib.hid (show l = plK (bl s) (bl p) (k + 1) by rw [HS.out, hf, HL.out]; simp)
        clear hf
        go_wp2_with (go_at_call 45; (with_reducible refine ft.mono ?_); rintro e w5 ⟨rfl, n5, rfl⟩)
        go_roundw
        case rel => exact ⟨k + 1, l, B, q, by go_num, rfl, hlt, OO.dn O _, BB.dn hB _, HN⟩
        case measure => (simp [intOf] <;> omega)
      · rw [hf] at ft
        have HN := Lib.hid (show l ++ [k] = plK (bl s) (bl p) (k + 1) by rw [HS.out, hf, HL.out]; rfl)
        clear hf
        have hbs := Below.size hB
        go_wp2_with (first
          | (go_at_call 45; (with_reducible refine ft.mono ?_); rintro e w5 ⟨rfl, n5, rfl⟩; have O5 := OO.dn O n5; have hB5 : BB w (wr.drewN n5) := BB.dn hB n5; have hbs5 : w.heap.size ≤ (wr.drewN n5).heap.size := hbs)
          | (at_builtin; go_must (refine wpList_appF (f := fN) (by rfl) (.tmp 18) (.tmp 20) 66 (by rfl) eltN hby (.slice B l.length q) l (by rfl) (OOf O5) _ _ k 1 (by rfl) (by rfl) (by rfl) (oneN _) hll hbs5 ?_); intro v' w' hown' hg' hat' hbl'))
        have hl1 : (l ++ [k]).length = l.length + 1 := by rw [List.length_append]; rfl
        obtain ⟨B5, c5, rfl⟩ := own_form hown'
        go_roundw
        case rel => exact ⟨k + 1, l ++ [k], B5, c5, by go_num, rfl, hlt, hown', Below.trans hB5 hbl', HN⟩
        case measure => (simp [intOf] <;> omega)
    · have hlti : decide ((k : Int) < (s.size : Int)) = false := decide_eq_false (by omega)
      obtain rfl : k = s.size := by omega
      go_wp2
      go_ret
      exact ⟨_, rfl, by rw [← HL.out]; exact OOf O, hB⟩
end Go.Proofs.YtlfmpgfobkmgfaaGreatDoor
namespace Go.Proofs.YtlfmpgfobkmgfaaGreatDoor
open Go.RowKit Go.Deep
set_option linter.unusedVariables false
set_option linter.unusedSimpArgs false

theorem Src.rdM {P : Program} {w : World} {size : Nat} {tx e' : TypeId} (hk : P.underlying tx = some (.slice e')) {B : Nat} {A : Option Addr} {n c : Nat} {xs : List Value} (h : Rd w B size A n xs) (h1 : ∀ u ∈ xs, u.oneCell' = true) (hA : A = none → n = 0) :
    Src P size tx (.slice A n c) n xs w := by
  rcases A with _ | ad
  · have hn := hA rfl
    subst hn
    have hx : xs = [] := List.eq_nil_of_length_eq_zero (by simpa using h.1)
    subst hx
    exact Src.ofNil _ hk c
  · refine Src.ofSlice _ hk ad n c xs h.1 ?_ h1
    intro j u hj
    have hp : 0 < n := by
      rcases Nat.eq_zero_or_pos n with h0 | h0
      · subst h0
        have hx : xs = [] := List.eq_nil_of_length_eq_zero (by simpa using h.1)
        subst hx
        simp at hj
      · exact h0
    obtain ⟨b, off, e, _, hc⟩ := h.2 hp
    injection e with e
    subst e
    have hjl := (List.getElem?_eq_some_iff.1 hj).1
    have := hc j hjl
    rw [List.getElem?_eq_getElem hjl] at hj
    injection hj with hj
    rw [← hj]
    have hadd : (⟨b, off, none⟩ : Addr).add j = ⟨b, off + j, none⟩ := by
      unfold Addr.add
      split
      · rename_i h0; subst h0; rfl
      · rfl
    rw [hadd]
    exact this
theorem Rd.none_lenM {w : World} {B size n : Nat} {xs : List Value} (h : Rd w B size none n xs) : n = 0 := by
  rcases Nat.eq_zero_or_pos n with h0 | h0
  · exact h0
  · obtain ⟨b, off, e, _⟩ := h.2 h0
    cases e
theorem Rd.nil_ofM {w : World} {B size n : Nat} {A : Option Addr} {xs : List Value} (h : Rd w B size A n xs) : A = none → n = 0 := fun e => by
  subst e
  exact h.none_lenM
def fM (m : MK) : List Value := [.int .i64 (m.1 : Int), .int .i64 (m.2.1 : Int), .int .i64 (m.2.2 : Int)]
theorem fM_len (m : MK) : (fM m).length = 3 := rfl
theorem oneM (m : MK) : ∀ u ∈ fM m, u.oneCell' = true := by
  intro u hu
  simp only [fM, List.mem_cons, List.not_mem_nil, or_false] at hu
  rcases hu with rfl | rfl | rfl <;> rfl
theorem oneMs (l : List MK) : ∀ u ∈ flat fM l, u.oneCell' = true := by
  intro u hu
  obtain ⟨x, _, hx⟩ := flat_list fM l u hu
  exact oneM x u hx
theorem eltM : Elt Tryz.prog 40 49 3 24 (.agg #[.int .i64 0, .int .i64 0, .int .i64 0]) := Elt.mk' Tryz.underlying40 (by kernel_rfl) rfl (by decide)
theorem ins_take {m : MK} : ∀ {l : List MK} {k : Nat}, (∀ j (hj : j < l.length), j < k → l[j].2.1 < m.2.1) → k ≤ l.length → (∀ hk : k < l.length, ¬ l[k].2.1 < m.2.1) → insM m l = l.take k ++ m :: l.drop k
  | [], k, _, hk, _ => by
    have : k = 0 := by simpa using hk
    subst this
    rfl
  | x :: l, 0, _, _, h => by
    have := h (by simp)
    unfold insM
    rw [if_neg (by simpa using this)]
    rfl
  | x :: l, k + 1, h1, hk, h2 => by
    have := h1 0 (by simp) (by omega)
    unfold insM
    rw [if_pos (by simpa using this), List.take_succ_cons, List.drop_succ_cons, List.cons_append]
    congr 1
    exact ins_take (fun j hj hjk => h1 (j + 1) (by simpa using hj) (by omega)) (by simpa using hk) (fun hk' => h2 (by simpa using hk'))
theorem Rd.takeM {w : World} {B : Nat} {A : Option Addr} {l : List MK} (h : Rd w B 3 A l.length (flat fM l)) {i : Nat} (hi : i ≤ l.length) : Rd w B 3 A i (flat fM (l.take i)) := by
  have e : flat fM (l.take i) ++ flat fM (l.drop i) = flat fM l := by rw [← flat_append, List.take_append_drop]
  have hl : (l.take i).length = i := by rw [List.length_take]; omega
  refine ⟨by have := flat_length fM 3 fM_len (l.take i); rw [hl] at this; exact this, fun h0 => ?_⟩
  obtain ⟨b, off, hA, hb, hc⟩ := h.2 (by omega)
  refine ⟨b, off, hA, hb, fun j hj => ?_⟩
  have hj2 : j < (flat fM l).length := by rw [← e, List.length_append]; omega
  rw [hc j hj2]
  have : (flat fM l)[j] = (flat fM (l.take i) ++ flat fM (l.drop i))[j]'(by rw [e]; exact hj2) := by congr 1; exact e.symm
  rw [this, List.getElem_append_left hj]
theorem Rd.dropM {w : World} {B b off : Nat} {l : List MK} (h : Rd w B 3 (some ⟨b, off, none⟩) l.length (flat fM l)) {i : Nat} (hi : i ≤ l.length) : Rd w B 3 (some ⟨b, off + i * 3, none⟩) (l.length - i) (flat fM (l.drop i)) := by
  have e : flat fM (l.take i) ++ flat fM (l.drop i) = flat fM l := by rw [← flat_append, List.take_append_drop]
  have ht : (flat fM (l.take i)).length = i * 3 := by have := flat_length fM 3 fM_len (l.take i); rw [List.length_take, Nat.min_eq_left hi] at this; exact this
  refine ⟨by have := flat_length fM 3 fM_len (l.drop i); rw [List.length_drop] at this; exact this, fun h0 => ?_⟩
  obtain ⟨b', off', hA, hb, hc⟩ := h.2 (by omega)
  cases hA
  refine ⟨b, off + i * 3, rfl, hb, fun j hj => ?_⟩
  have hj2 : i * 3 + j < (flat fM l).length := by rw [← e, List.length_append, ht]; omega
  have := hc (i * 3 + j) hj2
  rw [Nat.add_assoc, this]
  have h3 : (flat fM l)[i * 3 + j] = (flat fM (l.take i) ++ flat fM (l.drop i))[i * 3 + j]'(by rw [e]; exact hj2) := by congr 1; exact e.symm
  rw [h3, List.getElem_append_right (by rw [ht]; omega)]
  congr 2
  rw [ht]
  omega

set_option maxRecDepth 100000 in
set_option maxHeartbeats 4000000 in
theorem l07Put_any (l : List MK) (m : MK) (b0 : Nat) (q : Nat) (w : World) (hr : Rd w w.heap.size 3 (some ⟨b0, 0, none⟩) l.length (flat fM l)) (hl : l.length ≤ 100000) (hq : l.length ≤ q) :
    Calls Tryz.prog 44 #[.slice (some ⟨b0, 0, none⟩) l.length q, .agg #[.int .i64 (m.1 : Int), .int .i64 (m.2.1 : Int), .int .i64 (m.2.2 : Int)]] w fun e w' => ∃ v, e = .returned v ∧ w'.ownsRow w.heap.size 49 3 v (insM m l).length (flat fM (insM m l)) ∧ Below w.heap.size w w' := by
  have F := BX.made w 49 [.int .i64 (m.1 : Int), .int .i64 (m.2.1 : Int), .int .i64 (m.2.2 : Int)]
  have hB : BB w (w.alloc (.cells #[.int .i64 (m.1 : Int), .int .i64 (m.2.1 : Int), .int .i64 (m.2.2 : Int)] 49)) := BB.al (BB.start w) _
  have hr1 := hr.alloc (Nat.le_refl _) (.cells #[.int .i64 (m.1 : Int), .int .i64 (m.2.1 : Int), .int .i64 (m.2.2 : Int)] 49)
  go_enter Tryz.func44, Tryz.ntmps44
  go_wp2
  generalize (w.alloc (.cells #[.int .i64 (m.1 : Int), .int .i64 (m.2.1 : Int), .int .i64 (m.2.2 : Int)] 49)) = w1 at F hB hr1 ⊢
  go_loopw [5] (fun i wr => ∃ k : Nat, i = .int .i64 (k : Int) ∧ k ≤ l.length ∧ BX wr w.heap.size 49 [.int .i64 (m.1 : Int), .int .i64 (m.2.1 : Int), .int .i64 (m.2.2 : Int)] ∧ Rd wr w.heap.size 3 (some ⟨b0, 0, none⟩) l.length (flat fM l) ∧ BB w wr ∧ Hid (∀ j (hj : j < l.length), j < k → l[j].2.1 < m.2.1)) (fun i _ => l.length - (intOf i).toNat)
  case atStart => exact ⟨0, rfl, Nat.zero_le _, F, hr1, hB, Lib.hid (fun j _ h => absurd h (Nat.not_lt_zero _))⟩
  case round =>
    obtain ⟨k, rfl, hk, F, hr1, hB, HK⟩ := hrel
    have c1 : (_ : Option Value) = some (.int .i64 (m.2.1 : Int)) := F.cell 1 (by simp)
    by_cases hlt : k < l.length
    · have hlti : decide ((k : Int) < (l.length : Int)) = true := decide_eq_true (by omega)
      obtain ⟨b, off, he, hbb, hc⟩ := hr1.at_ fM_len rfl k hlt
      cases he
      have hc1 := hc 1 _ (by omega) rfl
      clear hc
      obtain ⟨y, hy⟩ : ∃ y, l[k].2.1 = y := ⟨_, rfl⟩
      have HY := Lib.hid hy
      rw [hy] at hc1
      simp only [← Nat.add_assoc, Nat.add_zero, Nat.zero_add] at hc1
      clear hy
      by_cases e : y < m.2.1
      · have e0 : decide (y < m.2.1) = true := decide_eq_true e
        have HN := Lib.hid (show ∀ j (hj : j < l.length), j < k + 1 → l[j].2.1 < m.2.1 from fun j hj hjk => by
          by_cases ej : j = k
          · subst ej; rw [HY.out]; exact e
          · exact HK.out j hj (by omega))
        clear e
        go_wp2
        go_quiet (fail)
        generalize nq = n2
        go_wp2
        go_roundw
        case rel => exact ⟨k + 1, by go_num, hlt, F.dnx _, hr1.drewN _, BB.dn hB _, HN⟩
        case measure => (simp [intOf] <;> omega)
      · have e0 : decide (y < m.2.1) = false := decide_eq_false e
        have HI := Lib.hid (ins_take HK.out hk (fun hk' => by rw [HY.out]; exact e))
        clear e
        go_wp2
        go_quiet (fail)
        generalize nq = n2
        have F := F.dnx n2
        have hr1 := hr1.drewN n2
        have hB : BB w (wr.drewN n2) := BB.dn hB n2
        go_upto_region 4 with fail
        generalize (wr.drewN n2) = W at F hr1 hB ⊢
        have hwW : w.heap.size + 1 ≤ W.heap.size := F.lt
        have O2 := World.ownsRow_lit (base := w.heap.size + 1) (e := 49) (size := 3) W #[] 0 hwW (by simp) (by simp)
        have F2 := F.al (.cells #[] 49)
        have hr2 := hr1.alloc (Nat.le_of_lt hwW) (.cells #[] 49)
        have hB2 : BB w (W.alloc (.cells #[] 49)) := BB.al hB (.cells #[] 49)
        have hs2 : w.heap.size + 1 ≤ (W.alloc (.cells #[] 49)).heap.size := by rw [World.size_alloc]; omega
        have hkq : k ≤ q := by omega
        have hkq2 : ¬ (q : Int) < (k : Int) := by omega
        have hS1 := Src.rdM (P := Tryz.prog) (c := q) Tryz.underlying40 (hr2.takeM hk) (oneMs _) (fun e => by have := hr2.nil_ofM e; omega)
        go_upto_region 5 with (at_builtin; go_must (refine wpList_app _ (by rfl) (.tmp 23) (.tmp 26) 40 40 (by rfl) (w.heap.size + 1) 49 (.agg #[.int .i64 0, .int .i64 0, .int .i64 0]) 3 24 eltM (.slice (some ⟨W.heap.size, 0, none⟩) 0 0) 0 [] (by rfl) O2 (.slice (some ⟨b0, 0, none⟩) k q) k (flat fM (l.take k)) (by rfl) hS1 (by unfold maxLen; omega) (by omega) hs2 ?_); intro v4 w4 O4 hg4 hat4)
        have hb4 : Below (w.heap.size + 1) _ w4 := below_of_own O2 hs2 hg4
        have hB4 : BB w w4 := Below.trans hB2 (hb4.mono (Nat.le_succ _))
        have F4 := F2.below hb4 (Nat.lt_succ_self _)
        have hr4 := hr2.below (hb4.mono (Nat.le_succ _))
        rw [Nat.zero_add, List.nil_append] at O4
        obtain ⟨A4, c4, rfl⟩ := own_form O4
        have hlt4 : (l.take k).length = k := by rw [List.length_take]; omega
        have O4 : World.ownsRow w4 (w.heap.size + 1) 49 3 (.slice A4 (l.take k).length c4) (l.take k).length (flat fM (l.take k)) := by rw [hlt4]; exact O4
        have g0 : (_ : Option Value) = some (.int .i64 (m.1 : Int)) := F4.cell 0 (by simp)
        have g1 : (_ : Option Value) = some (.int .i64 (m.2.1 : Int)) := F4.cell 1 (by simp)
        have g2 : (_ : Option Value) = some (.int .i64 (m.2.2 : Int)) := F4.cell 2 (by simp)
        have hs4 : w.heap.size + 1 ≤ w4.heap.size := F4.lt
        have hby : 24 ≤ 1000 := by decide
        have hll : (l.take k).length ≤ 100000000 := by omega
        have HT4 := Lib.hid hlt4
        clear hlt4
        go_upto_region 6 with (at_builtin; go_must (refine wpList_appF (f := fM) (by rfl) (.tmp 28) (.tmp 30) 40 (by rfl) eltM hby (.slice A4 (l.take k).length c4) (l.take k) (by rw [HT4.out]; rfl) O4 _ _ m 1 (by rfl) (by rfl) (by rfl) (oneM _) hll hs4 ?_); intro v5 w5 O5 hg5 hat5 hb5)
        have hB5 : BB w w5 := Below.trans hB4 (hb5.mono (Nat.le_succ _))
        have hr5 := hr4.below (hb5.mono (Nat.le_succ _))
        have hL5 : ((l.take k) ++ [m]).length = k + 1 := by rw [List.length_append, HT4.out]; rfl
        have O5 : World.ownsRow w5 (w.heap.size + 1) 49 3 v5 (k + 1) (flat fM ((l.take k) ++ [m])) := by rw [hL5] at O5; exact O5
        obtain ⟨A5, c5, rfl⟩ := own_form O5
        have hs5 : w.heap.size + 1 ≤ w5.heap.size := Nat.le_trans hs4 hb5.size
        clear hL5
        go_wp2_with (at_builtin; go_must (refine wpList_app _ (by rfl) (.tmp 32) (.tmp 35) 40 40 (by rfl) (w.heap.size + 1) 49 (.agg #[.int .i64 0, .int .i64 0, .int .i64 0]) 3 24 eltM (.slice A5 (k + 1) c5) (k + 1) (flat fM ((l.take k) ++ [m])) (by rfl) O5 _ (l.length - k) (flat fM (l.drop k)) (by rfl) (Src.rdM (P := Tryz.prog) Tryz.underlying40 (by have h := hr5.dropM hk; rw [Nat.zero_add] at h; exact h) (oneMs _) (fun e => by cases e)) (by unfold maxLen; omega) (by omega) hs5 ?_); intro v6 w6 O6 hg6 hat6)
        have hb6 := below_of_own O5 hs5 hg6
        go_ret
        refine ⟨v6, rfl, ?_, Below.trans hB5 (hb6.mono (Nat.le_succ _))⟩
        rw [HI.out]
        have e1 : (l.take k ++ m :: l.drop k).length = k + 1 + (l.length - k) := by rw [List.length_append, List.length_cons, HT4.out, List.length_drop]; omega
        have e2 : flat fM (l.take k ++ [m]) ++ flat fM (l.drop k) = flat fM (l.take k ++ m :: l.drop k) := by rw [← flat_append, List.append_assoc]; rfl
        rw [e1, ← e2]
        exact own_base O6 (Nat.le_succ _)
    · have hlti : decide ((k : Int) < (l.length : Int)) = false := decide_eq_false (by omega)
      have HI := Lib.hid (ins_take HK.out hk (fun hk' => absurd hk' hlt))
      go_wp2
      go_quiet (fail)
      generalize nq = n2
      have F := F.dnx n2
      have hr1 := hr1.drewN n2
      have hB : BB w (wr.drewN n2) := BB.dn hB n2
      go_upto_region 4 with fail
      generalize (wr.drewN n2) = W at F hr1 hB ⊢
      have hwW : w.heap.size + 1 ≤ W.heap.size := F.lt
      have O2 := World.ownsRow_lit (base := w.heap.size + 1) (e := 49) (size := 3) W #[] 0 hwW (by simp) (by simp)
      have F2 := F.al (.cells #[] 49)
      have hr2 := hr1.alloc (Nat.le_of_lt hwW) (.cells #[] 49)
      have hB2 : BB w (W.alloc (.cells #[] 49)) := BB.al hB (.cells #[] 49)
      have hs2 : w.heap.size + 1 ≤ (W.alloc (.cells #[] 49)).heap.size := by rw [World.size_alloc]; omega
      have hkq : k ≤ q := by omega
      have hkq2 : ¬ (q : Int) < (k : Int) := by omega
      have hS1 := Src.rdM (P := Tryz.prog) (c := q) Tryz.underlying40 (hr2.takeM hk) (oneMs _) (fun e => by have := hr2.nil_ofM e; omega)
      go_upto_region 5 with (at_builtin; go_must (refine wpList_app _ (by rfl) (.tmp 23) (.tmp 26) 40 40 (by rfl) (w.heap.size + 1) 49 (.agg #[.int .i64 0, .int .i64 0, .int .i64 0]) 3 24 eltM (.slice (some ⟨W.heap.size, 0, none⟩) 0 0) 0 [] (by rfl) O2 (.slice (some ⟨b0, 0, none⟩) k q) k (flat fM (l.take k)) (by rfl) hS1 (by unfold maxLen; omega) (by omega) hs2 ?_); intro v4 w4 O4 hg4 hat4)
      have hb4 : Below (w.heap.size + 1) _ w4 := below_of_own O2 hs2 hg4
      have hB4 : BB w w4 := Below.trans hB2 (hb4.mono (Nat.le_succ _))
      have F4 := F2.below hb4 (Nat.lt_succ_self _)
      have hr4 := hr2.below (hb4.mono (Nat.le_succ _))
      rw [Nat.zero_add, List.nil_append] at O4
      obtain ⟨A4, c4, rfl⟩ := own_form O4
      have hlt4 : (l.take k).length = k := by rw [List.length_take]; omega
      have O4 : World.ownsRow w4 (w.heap.size + 1) 49 3 (.slice A4 (l.take k).length c4) (l.take k).length (flat fM (l.take k)) := by rw [hlt4]; exact O4
      have g0 : (_ : Option Value) = some (.int .i64 (m.1 : Int)) := F4.cell 0 (by simp)
      have g1 : (_ : Option Value) = some (.int .i64 (m.2.1 : Int)) := F4.cell 1 (by simp)
      have g2 : (_ : Option Value) = some (.int .i64 (m.2.2 : Int)) := F4.cell 2 (by simp)
      have hs4 : w.heap.size + 1 ≤ w4.heap.size := F4.lt
      have hby : 24 ≤ 1000 := by decide
      have hll : (l.take k).length ≤ 100000000 := by omega
      have HT4 := Lib.hid hlt4
      clear hlt4
      go_upto_region 6 with (at_builtin; go_must (refine wpList_appF (f := fM) (by rfl) (.tmp 28) (.tmp 30) 40 (by rfl) eltM hby (.slice A4 (l.take k).length c4) (l.take k) (by rw [HT4.out]; rfl) O4 _ _ m 1 (by rfl) (by rfl) (by rfl) (oneM _) hll hs4 ?_); intro v5 w5 O5 hg5 hat5 hb5)
      have hB5 : BB w w5 := Below.trans hB4 (hb5.mono (Nat.le_succ _))
      have hr5 := hr4.below (hb5.mono (Nat.le_succ _))
      have hL5 : ((l.take k) ++ [m]).length = k + 1 := by rw [List.length_append, HT4.out]; rfl
      have O5 : World.ownsRow w5 (w.heap.size + 1) 49 3 v5 (k + 1) (flat fM ((l.take k) ++ [m])) := by rw [hL5] at O5; exact O5
      obtain ⟨A5, c5, rfl⟩ := own_form O5
      have hs5 : w.heap.size + 1 ≤ w5.heap.size := Nat.le_trans hs4 hb5.size
      clear hL5
      go_wp2_with (at_builtin; go_must (refine wpList_app _ (by rfl) (.tmp 32) (.tmp 35) 40 40 (by rfl) (w.heap.size + 1) 49 (.agg #[.int .i64 0, .int .i64 0, .int .i64 0]) 3 24 eltM (.slice A5 (k + 1) c5) (k + 1) (flat fM ((l.take k) ++ [m])) (by rfl) O5 _ (l.length - k) (flat fM (l.drop k)) (by rfl) (Src.rdM (P := Tryz.prog) Tryz.underlying40 (by rw [show l.length - k = 0 by omega, List.drop_eq_nil_of_le (show l.length ≤ k by omega)]; exact Rd.nil w5 w5.heap.size 3 _) (oneMs _) (fun _ => by omega)) (by unfold maxLen; omega) (by omega) hs5 ?_); intro v6 w6 O6 hg6 hat6)
      all_goals
        have hb6 := below_of_own O5 hs5 hg6
        go_ret
        refine ⟨v6, rfl, ?_, Below.trans hB5 (hb6.mono (Nat.le_succ _))⟩
        rw [HI.out]
        have e1 : (l.take k ++ m :: l.drop k).length = k + 1 + (l.length - k) := by rw [List.length_append, List.length_cons, HT4.out, List.length_drop]; omega
        have e2 : flat fM (l.take k ++ [m]) ++ flat fM (l.drop k) = flat fM (l.take k ++ m :: l.drop k) := by rw [← flat_append, List.append_assoc]; rfl
        rw [e1, ← e2]
        exact own_base O6 (Nat.le_succ _)
end Go.Proofs.YtlfmpgfobkmgfaaGreatDoor
namespace Go.Proofs.YtlfmpgfobkmgfaaGreatDoor
open Go.RowKit
set_option linter.unusedVariables false
set_option linter.unusedSimpArgs false

def fR (r : Nat × Nat) : List Value := [.int .i64 (r.1 : Int), .int .i64 (r.2 : Int)]
theorem fR_len (r : Nat × Nat) : (fR r).length = 2 := rfl
theorem oneR (r : Nat × Nat) : ∀ u ∈ fR r, u.oneCell' = true := by
  intro u hu
  simp only [fR, List.mem_cons, List.not_mem_nil, or_false] at hu
  rcases hu with rfl | rfl <;> rfl
theorem eltR : Elt Tryz.prog 63 70 2 16 (.agg #[.int .i64 0, .int .i64 0]) := Elt.mk' Tryz.underlying63 (by kernel_rfl) rfl (by decide)
def synK (c : List UInt8) (k : Nat) : List (Nat × Nat) := (List.range k).filterMap (syncAt c)
theorem synK_s (c : List UInt8) (k : Nat) : synK c (k + 1) = synK c k ++ (syncAt c k).toList := by
  unfold synK
  rw [List.range_succ, List.filterMap_append]
  congr 1
theorem synK_len (c : List UInt8) (k : Nat) : (synK c k).length ≤ k := by
  unfold synK
  have := List.length_filterMap_le (syncAt c) (List.range k)
  simpa using this
theorem ones_y {c : List UInt8} {a f : Nat} (h : cw c a = 49) : onesF c a (f + 1) = onesF c (a + 1) f + 1 := by
  show (if cw c a = 49 then onesF c (a + 1) f + 1 else 0) = _
  rw [if_pos h]
theorem ones_n {c : List UInt8} {a f : Nat} (h : ¬ cw c a = 49) : onesF c a f = 0 := by
  cases f with
  | zero => rfl
  | succ f => unfold onesF; rw [if_neg h]
theorem ones_le (c : List UInt8) : ∀ f a, onesF c a f ≤ f
  | 0, _ => Nat.le_refl _
  | f + 1, a => by
    unfold onesF
    split
    · have := ones_le c f (a + 1); omega
    · omega
theorem sync_no1 {c : List UInt8} {a : Nat} (h : ¬ cw c a = 49) : syncAt c a = none := if_neg (fun g => h g.1)
theorem sync_no2 {c : List UInt8} {a n : Nat} (hn : c.length = n) (h : cw c (a + n - 1) = 49) : syncAt c a = none := if_neg (fun g => g.2.1 (by rw [hn]; exact h))
theorem sync_no3 {c : List UInt8} {a n : Nat} (hn : c.length = n) (h : ¬ 10 ≤ onesF c a n) : syncAt c a = none := if_neg (fun g => h (by rw [← hn]; exact g.2.2))
theorem sync_yes {c : List UInt8} {a n : Nat} (hn : c.length = n) (h1 : cw c a = 49) (h2 : ¬ cw c (a + n - 1) = 49) (h3 : 10 ≤ onesF c a n) : syncAt c a = some (a, onesF c a n) := by
  unfold syncAt
  rw [hn, if_pos ⟨h1, h2, h3⟩]
theorem cw_idx (s : ByteArray) (k : Nat) (h : k < s.size) : s[k] = cw (bl s) k := by
  rw [cw_get s k (by omega)]
  simp only [Nat.mod_eq_of_lt h]
theorem eq49 {x : UInt8} (h : x = 49) : ((x.toNat : Int) == 49) = true := by rw [h]; rfl
theorem ne49 {x : UInt8} (h : ¬ x = 49) : ((x.toNat : Int) == 49) = false := by
  rw [beq_eq_false_iff_ne]
  intro e
  exact h (UInt8.toNat_inj.1 (by show x.toNat = 49; omega))
theorem bne49 {x : UInt8} (h : x = 49) : ((x.toNat : Int) != 49) = false := by rw [h]; rfl
theorem bne49' {x : UInt8} (h : ¬ x = 49) : ((x.toNat : Int) != 49) = true := by rw [bne, ne49 h]; rfl

set_option maxRecDepth 100000 in
set_option maxHeartbeats 4000000 in
theorem l07Syncs_any (s : ByteArray) (w : World) (hs : s.size ≤ 8000) (h0 : 0 < s.size) :
    Calls Tryz.prog 41 #[.string s] w fun e w' => ∃ v, e = .returned v ∧ w'.ownsRow w.heap.size 70 2 v (syncL (bl s)).length (flat fR (syncL (bl s))) ∧ Below w.heap.size w w' := by
  have hby : 16 ≤ 1000 := by decide
  obtain ⟨R, hR⟩ : ∃ R, syncL (bl s) = R := ⟨_, rfl⟩
  rw [hR]
  have HR := Lib.hid (show synK (bl s) s.size = R by rw [← hR]; unfold synK syncL; rw [blen])
  clear hR
  have hat := fun (k : Nat) (W : World) (hk : k ≤ 100000000) => l07At_any s k W (by omega) h0 hk
  go_enter Tryz.func41, Tryz.ntmps41
  go_wp2
  have O0 := World.ownsRow_lit (base := w.heap.size) (e := 70) (size := 2) w #[] 0 (Nat.le_refl _) (by simp) (by simp)
  have hB0 : BB w (w.alloc (.cells #[] 70)) := BB.al (BB.start w) _
  generalize (w.alloc (.cells #[] 70)) = w1 at O0 hB0 ⊢
  go_loopw [4, 5, 6] (fun v i _ wr => ∃ (k : Nat) (l : List (Nat × Nat)) (B : Option Addr) (q : Nat), i = .int .i64 (k : Int) ∧ v = .slice B l.length q ∧ k ≤ s.size ∧ OO wr w.heap.size 70 2 (.slice B l.length q) l.length (flat fR l) ∧ BB w wr ∧ Hid (l = synK (bl s) k)) (fun _ i _ _ => s.size - (intOf i).toNat)
  case atStart => exact ⟨0, [], _, _, rfl, rfl, Nat.zero_le _, O0, hB0, Lib.hid rfl⟩
  case round =>
    obtain ⟨k, l, B, q, rfl, rfl, hk, O, hB, HL⟩ := hrel
    clear O0 hB0
    by_cases hlt : k < s.size
    · have hlti : decide ((k : Int) < (s.size : Int)) = true := decide_eq_true (by omega)
      have hll : l.length ≤ 100000000 := by rw [HL.out]; have := synK_len (bl s) k; omega
      have HS := Lib.hid (synK_s (bl s) k)
      have HY := Lib.hid (cw_idx s k hlt)
      obtain ⟨y, hy⟩ : ∃ y, s[k] = y := ⟨_, rfl⟩
      rw [hy] at HY
      have HY2 := Lib.hid hy
      by_cases e1 : y = 49
      rotate_left
      · have d1 := bne49' e1
        have HN := Lib.hid (show l = synK (bl s) (k + 1) by rw [HS.out, sync_no1 (by rw [← HY.out]; exact e1), HL.out]; simp)
        clear e1 hat
        rw [← hy] at d1
        clear hy
        go_wp2
        go_roundw
        case rel => exact ⟨k + 1, l, B, q, by go_num, rfl, hlt, O, hB, HN⟩
        case measure => (simp [intOf] <;> omega)
      · have d1 := bne49 e1
        rw [← hy] at d1
        have HC1 := Lib.hid (show cw (bl s) k = 49 by rw [← HY.out]; exact e1)
        clear e1 hy
        have hw1 : IntKind.i64.wrap ((k : Int) + (s.size : Int)) = (k : Int) + (s.size : Int) := IntWalk.i64_in _ (by omega)
        have hw2 : IntKind.i64.wrap ((k : Int) + (s.size : Int) - 1) = ((k + s.size - 1 : Nat) : Int) := by rw [IntWalk.i64_in _ (by omega)]; omega
        have at1 := hat (k + s.size - 1) wr (by omega)
        obtain ⟨x, hx⟩ : ∃ x, cw (bl s) (k + s.size - 1) = x := ⟨_, rfl⟩
        rw [hx] at at1
        by_cases e2 : x = 49
        · have d2 := eq49 e2
          have HN := Lib.hid (show l = synK (bl s) (k + 1) by rw [HS.out, sync_no2 (blen s) (hx.trans e2), HL.out]; simp)
          clear e2 hx hat
          go_wp2_with (go_at_call 61; (refine at1.mono ?_); rintro e w5 ⟨rfl, rfl⟩)
          go_roundw
          case rel => exact ⟨k + 1, l, B, q, by go_num, rfl, hlt, O, hB, HN⟩
          case measure => (simp [intOf] <;> omega)
        · have d2 := ne49 e2
          have HC2 := Lib.hid (show ¬ cw (bl s) (k + s.size - 1) = 49 by rw [hx]; exact e2)
          clear e2 hx
          go_wp2_with (go_at_call 61; (refine at1.mono ?_); rintro e w5 ⟨rfl, rfl⟩)
          clear hw1 hw2 at1
          go_loopw [6] (fun j wx => ∃ j0 : Nat, j = .int .i64 (j0 : Int) ∧ j0 ≤ s.size ∧ wr = wx ∧ Hid (j0 + onesF (bl s) (k + j0) (s.size - j0) = onesF (bl s) k s.size)) (fun j _ => s.size - (intOf j).toNat)
          case atStart => exact ⟨0, rfl, Nat.zero_le _, (by first | rfl | trivial), Lib.hid (by simp)⟩
          case round =>
            obtain ⟨j0, rfl, hj0, rfl, HJ⟩ := hrel
            by_cases hlt2 : j0 < s.size
            · have hlti2 : decide ((j0 : Int) < (s.size : Int)) = true := decide_eq_true (by omega)
              have hw1 : IntKind.i64.wrap ((k : Int) + (j0 : Int)) = (k : Int) + (j0 : Int) := IntWalk.i64_in _ (by omega)
              have at2 := hat (k + j0) wr (by omega)
              rw [Int.natCast_add] at at2
              obtain ⟨z, hz⟩ : ∃ z, cw (bl s) (k + j0) = z := ⟨_, rfl⟩
              rw [hz] at at2
              by_cases e3 : z = 49
              · have d3 := eq49 e3
                have HJ2 := Lib.hid (show (j0 + 1) + onesF (bl s) (k + (j0 + 1)) (s.size - (j0 + 1)) = onesF (bl s) k s.size by
                  rw [← HJ.out, show s.size - j0 = (s.size - (j0 + 1)) + 1 by omega, ones_y (hz.trans e3), ← Nat.add_assoc k j0 1]
                  omega)
                clear e3 hz
                go_wp2_with (go_at_call 61; (refine at2.mono ?_); rintro e w5 ⟨rfl, rfl⟩)
                go_roundw
                case rel => exact ⟨j0 + 1, by go_num, by omega, (by first | rfl | trivial), HJ2⟩
                case measure => (simp [intOf] <;> omega)
              · have d3 := ne49 e3
                have HJ2 := Lib.hid (show onesF (bl s) k s.size = j0 by rw [← HJ.out, ones_n (by rw [hz]; exact e3)]; rfl)
                clear e3 hz
                by_cases e4 : 10 ≤ j0
                · have d4 : decide ((10 : Int) ≤ (j0 : Int)) = true := decide_eq_true (by omega)
                  have HN := Lib.hid (show l ++ [(k, j0)] = synK (bl s) (k + 1) by rw [HS.out, sync_yes (blen s) HC1.out HC2.out (by rw [HJ2.out]; exact e4), HJ2.out, HL.out]; rfl)
                  have hbs := Below.size hB
                  clear e4
                  go_wp2_with (first
                    | (go_at_call 61; (refine at2.mono ?_); rintro e w5 ⟨rfl, rfl⟩)
                    | (at_builtin; go_must (refine wpList_appF (f := fR) (by rfl) (.tmp 43) (.tmp 47) 63 (by rfl) eltR hby (.slice B l.length q) l (by rfl) (OOf O) _ _ (k, j0) 1 (by rfl) (by rfl) (by rfl) (oneR _) hll hbs ?_); intro v' w' hown' hg' hat' hbl'))
                  have hl1 : (l ++ [(k, j0)]).length = l.length + 1 := by rw [List.length_append]; rfl
                  obtain ⟨B5, c5, rfl⟩ := own_form hown'
                  go_roundw
                  case rel => exact ⟨k + 1, l ++ [(k, j0)], B5, c5, by go_num, rfl, hlt, hown', Below.trans hB hbl', HN⟩
                  case measure => (simp [intOf] <;> omega)
                · have d4 : decide ((10 : Int) ≤ (j0 : Int)) = false := decide_eq_false (by omega)
                  have HN := Lib.hid (show l = synK (bl s) (k + 1) by rw [HS.out, sync_no3 (blen s) (by rw [HJ2.out]; exact e4), HL.out]; simp)
                  clear e4
                  go_wp2_with (go_at_call 61; (refine at2.mono ?_); rintro e w5 ⟨rfl, rfl⟩)
                  go_roundw
                  case rel => exact ⟨k + 1, l, B, q, by go_num, rfl, hlt, O, hB, HN⟩
                  case measure => (simp [intOf] <;> omega)
            · have hlti2 : decide ((j0 : Int) < (s.size : Int)) = false := decide_eq_false (by omega)
              have HJ2 := Lib.hid (show onesF (bl s) k s.size = j0 by rw [← HJ.out, show s.size - j0 = 0 by omega]; rfl)
              by_cases e4 : 10 ≤ j0
              · have d4 : decide ((10 : Int) ≤ (j0 : Int)) = true := decide_eq_true (by omega)
                have HN := Lib.hid (show l ++ [(k, j0)] = synK (bl s) (k + 1) by rw [HS.out, sync_yes (blen s) HC1.out HC2.out (by rw [HJ2.out]; exact e4), HJ2.out, HL.out]; rfl)
                have hbs := Below.size hB
                clear e4
                go_wp2_with (first
                  | (at_builtin; go_must (refine wpList_appF (f := fR) (by rfl) (.tmp 43) (.tmp 47) 63 (by rfl) eltR hby (.slice B l.length q) l (by rfl) (OOf O) _ _ (k, j0) 1 (by rfl) (by rfl) (by rfl) (oneR _) hll hbs ?_); intro v' w' hown' hg' hat' hbl'))
                have hl1 : (l ++ [(k, j0)]).length = l.length + 1 := by rw [List.length_append]; rfl
                obtain ⟨B5, c5, rfl⟩ := own_form hown'
                go_roundw
                case rel => exact ⟨k + 1, l ++ [(k, j0)], B5, c5, by go_num, rfl, hlt, hown', Below.trans hB hbl', HN⟩
                case measure => (simp [intOf] <;> omega)
              · have d4 : decide ((10 : Int) ≤ (j0 : Int)) = false := decide_eq_false (by omega)
                have HN := Lib.hid (show l = synK (bl s) (k + 1) by rw [HS.out, sync_no3 (blen s) (by rw [HJ2.out]; exact e4), HL.out]; simp)
                clear e4
                go_wp2_with fail
                go_roundw
                case rel => exact ⟨k + 1, l, B, q, by go_num, rfl, hlt, O, hB, HN⟩
                case measure => (simp [intOf] <;> omega)
    · have hlti : decide ((k : Int) < (s.size : Int)) = false := decide_eq_false (by omega)
      obtain rfl : k = s.size := by omega
      go_wp2
      go_ret
      exact ⟨_, rfl, by rw [← HR.out, ← HL.out]; exact OOf O, hB⟩
end Go.Proofs.YtlfmpgfobkmgfaaGreatDoor
namespace Go.Proofs.YtlfmpgfobkmgfaaGreatDoor
open Go.RowKit
set_option linter.unusedVariables false
set_option linter.unusedSimpArgs false

def bit1 (x : Bool) : UInt8 := if x = true then 49 else 48
def str1 (l : List UInt8) : ByteArray := ⟨l.toArray⟩
theorem str1_size (l : List UInt8) : (str1 l).size = l.length := List.size_toArray ..
/-- The cells of n bits of a byte. -/
def encL (b : Nat) (mfm : Bool) : Nat → Bool → List UInt8
  | 0, _ => []
  | n + 1, last => bit1 (!mfm || (!last && !(bitOf b n == 1))) :: bit1 (bitOf b n == 1) :: encL b mfm n (bitOf b n == 1)
theorem l05Bit_any (x : Bool) (w : World) : Calls Tryz.prog 123 #[.bool x] w fun e w' => e = .returned (.int .u8 ((bit1 x).toNat : Int)) ∧ w = w' := by
  cases x
  all_goals
    go_enter Tryz.func123, Tryz.ntmps123
    go_wp2
    go_ret
    exact ⟨rfl, rfl⟩
theorem byte_lit (b : UInt8) : (#[Value.int .u8 (b.toNat : Int)] : Array Value).toList = bcells [b] := rfl

set_option maxRecDepth 100000 in
set_option maxHeartbeats 8000000 in
theorem l05Encode_any (s : ByteArray) (last mfm : Bool) (w : World) (hs : s.size = 1) :
    Calls Tryz.prog 90 #[.string s, .bool last, .bool mfm] w fun e w' => e = .returned (.string (str1 (encL (s[0]'(by omega)).toNat mfm 8 last))) ∧ Below w.heap.size w w' := by
  have h0 : 0 < s.size := by omega
  have hyl := (s[0]'h0).toNat_lt
  obtain ⟨y, hy⟩ : ∃ y, (s[0]'h0).toNat = y := ⟨_, rfl⟩
  rw [hy] at hyl ⊢
  obtain ⟨R, hR⟩ : ∃ R, encL y mfm 8 last = R := ⟨_, rfl⟩
  rw [hR]
  have HR := Lib.hid hR
  clear hR
  have l5 := fun (x : Bool) (W : World) => l05Bit_any x W
  go_enter Tryz.func90, Tryz.ntmps90
  go_wp2
  have O0 := OwnB.lit (e := 5) (base := w.heap.size) w [] #[] rfl (Nat.le_refl _) (by simp)
  have hB0 : BB w (w.alloc (.cells #[] 5)) := BB.al (BB.start w) _
  generalize (w.alloc (.cells #[] 5)) = w1 at O0 hB0 ⊢
  go_loopw [1, 7, 8, 9, 10] (fun la v i _ _ wr => ∃ (l : List UInt8) (k : Nat) (B : Bool), la = .bool B ∧ i = .int .i64 (k : Int) ∧ OwnB wr w.heap.size 5 v l ∧ BB w wr ∧ ((k = 0 ∧ l = [] ∧ B = last) ∨ (k = 1 ∧ Hid (l = R)))) (fun _ _ i _ _ _ => 1 - (intOf i).toNat)
  case atStart => exact ⟨[], 0, last, rfl, rfl, O0, hB0, .inl ⟨rfl, rfl, rfl⟩⟩
  case round =>
    obtain ⟨l, k, B, rfl, rfl, O, hB, hk⟩ := hrel
    clear O0 hB0
    rcases hk with ⟨rfl, rfl, rfl⟩ | ⟨rfl, HL⟩
    · obtain ⟨A1, c1, rfl⟩ := O.form
      go_wp2
      go_loopw [1, 7, 9, 10] (fun la v b _ wx => ∃ (n : Nat) (l : List UInt8) (C : Bool), la = .bool C ∧ n ≤ 8 ∧ b = .int .i64 ((n : Int) - 1) ∧ l.length ≤ 100 ∧ l.length + 2 * n = 16 ∧ OwnB wx w.heap.size 5 v l ∧ BB w wx ∧ Hid (l ++ encL y mfm n C = R)) (fun _ _ b _ _ => (intOf b + 1).toNat)
      case atStart => exact ⟨8, [], B, rfl, by omega, rfl, by simp, by simp, O, hB, Lib.hid (by rw [List.nil_append]; exact HR.out)⟩
      case round =>
        obtain ⟨n, l, C, rfl, hn, hbv, hll, hl2, O, hB, HE⟩ := hrel
        obtain ⟨A2, c2, rfl⟩ := O.form
        rcases n with _ | n
        · obtain rfl := hbv.trans (show Value.int .i64 (((0 : Nat) : Int) - 1) = .int .i64 (-1) from rfl)
          have HL := Lib.hid (show l = R by have := HE.out; unfold encL at this; rw [List.append_nil] at this; exact this)
          go_wp2
          go_roundw
          case rel => exact ⟨l, 1, C, rfl, by go_num, O, hB, .inr ⟨rfl, HL⟩⟩
          case measure => simp [intOf]
        · obtain rfl := hbv.trans (show Value.int .i64 (((n + 1 : Nat) : Int) - 1) = .int .i64 (n : Int) from congrArg (Value.int .i64) (by omega))
          have e2 := crc_e2 y n hyl
          have b2 := bitOf_lt y n
          have hbs := Below.size hB
          have HN := Lib.hid (show (l ++ [bit1 (!mfm || (!C && !(bitOf y n == 1)))]) ++ [bit1 (bitOf y n == 1)] ++ encL y mfm n (bitOf y n == 1) = R by
            rw [← HE.out, List.append_assoc, List.append_assoc]; rfl)
          have hg : (((bitOf y n : Nat) : Int) == 1) = (bitOf y n == 1) := by
            have : bitOf y n = 0 ∨ bitOf y n = 1 := by omega
            rcases this with h | h <;> rw [h] <;> rfl
          obtain ⟨D, hD⟩ : ∃ D, (bitOf y n == 1) = D := ⟨_, rfl⟩
          rw [hD] at HN hg
          clear hD
          cases mfm <;> cases C <;> cases D
          all_goals
            go_upto_region 12 with (first
              | (go_at_call 123; (refine (l5 _ _).mono ?_); rintro e w5 ⟨rfl, rfl⟩)
              | (at_builtin; go_must (refine wpList_appL (by rfl) (.tmp 34) (.tmp 46) 85 (by rfl) eltB _ l (by rfl) O _ _ [bit1 _] 1 1 (by rfl) (byte_lit _) (by rfl) (by simp; omega) hbs ?_); intro v' w' hown' hg' hat' hbl'))
            have hbs2 := Nat.le_trans hbs hbl'.size
            have hB2 : BB w w' := Below.trans hB hbl'
            obtain ⟨A3, c3, rfl⟩ := hown'.form
            go_wp2_with (first
              | (go_at_call 123; (refine (l5 _ _).mono ?_); rintro e w5 ⟨rfl, rfl⟩)
              | (at_builtin; go_must (refine wpList_appL (by rfl) (.tmp 48) (.tmp 51) 85 (by rfl) eltB _ _ (by rw [List.length_append]; rfl) hown' _ _ [bit1 _] 1 1 (by rfl) (byte_lit _) (by rfl) (by simp; omega) hbs2 ?_); intro v6 w6 hown6 hg6 hat6 hbl6))
            go_roundw
            case rel =>
              repeat apply Exists.intro
              refine And.intro ?_ ?_
              rotate_left
              rfl
              exact ⟨n, _, _, rfl, by omega, congrArg (Value.int .i64) (by omega), by simp; omega, by simp; omega, hown6, Below.trans hB2 hbl6, Lib.hid HN.out⟩
            case measure => first | (simp [intOf]; done) | (simp [intOf]; omega)
    · obtain ⟨A1, c1, rfl⟩ := O.form
      have hcv0 := run_b2s (P := Tryz.prog) (dst := 9) Tryz.underlying85 Tryz.underlying5 Tryz.underlying9 O
      have HL2 := HL.out
      subst HL2
      go_wp2
      go_ret
      exact ⟨by first | rfl | (simp [str1]), hB⟩
theorem EncodeFm_any (s : ByteArray) (w : World) (hs : s.size = 1) : Calls Tryz.prog 89 #[.string s] w fun e w' => e = .returned (.string (str1 (encL (s[0]'(by omega)).toNat false 8 false))) ∧ Below w.heap.size w w' := by
  have h := fun W => l05Encode_any s false false W hs
  go_enter Tryz.func89, Tryz.ntmps89
  go_wp2_with (go_at_call 90; (with_reducible refine (h _).mono ?_); rintro e w9 ⟨rfl, hx9⟩)
  go_ret
  exact ⟨rfl, hx9⟩
theorem EncodeMfm_any (s : ByteArray) (last : Bool) (w : World) (hs : s.size = 1) : Calls Tryz.prog 65 #[.string s, .bool last] w fun e w' => e = .returned (.string (str1 (encL (s[0]'(by omega)).toNat true 8 last))) ∧ Below w.heap.size w w' := by
  have h := fun W => l05Encode_any s last true W hs
  go_enter Tryz.func65, Tryz.ntmps65
  go_wp2_with (go_at_call 90; (with_reducible refine (h _).mono ?_); rintro e w9 ⟨rfl, hx9⟩)
  go_ret
  exact ⟨rfl, hx9⟩
theorem MfmMark_any (w : World) : Calls Tryz.prog 64 #[] w fun e w' => e = .returned (.string ⟨#[48, 49, 48, 48, 48, 49, 48, 48, 49, 48, 48, 48, 49, 48, 48, 49]⟩) ∧ w = w' := by
  go_enter Tryz.func64, Tryz.ntmps64
  go_wp2
  go_ret
  exact ⟨rfl, rfl⟩
end Go.Proofs.YtlfmpgfobkmgfaaGreatDoor
namespace Go.Proofs.YtlfmpgfobkmgfaaGreatDoor
open Go.RowKit
set_option linter.unusedVariables false
set_option linter.unusedSimpArgs false

theorem byte_lit2 (b : Nat) (hb : b < 256) : (#[Value.int .u8 (b : Int)] : Array Value).toList = bcells [UInt8.ofNat b] := by
  have : ((UInt8.ofNat b).toNat : Int) = b := by rw [UInt8.toNat_ofNat']; omega
  simp only [bcells, List.map_cons, List.map_nil, this]
theorem run_b1 (b : Nat) (hb : b < 256) (w : World) : (convert 85 9 (.slice (some ⟨w.heap.size, 0, none⟩) 1 1)).run Tryz.prog (w.alloc (.cells #[.int .u8 (b : Int)] 5)) = .ok (.string (str1 [UInt8.ofNat b])) (w.alloc (.cells #[.int .u8 (b : Int)] 5)) := by
  have h := run_b2s (P := Tryz.prog) (dst := 9) Tryz.underlying85 Tryz.underlying5 Tryz.underlying9 (OwnB.lit (e := 5) (base := w.heap.size) w [UInt8.ofNat b] #[.int .u8 (b : Int)] (byte_lit2 b hb) (Nat.le_refl _) (by unfold maxLen; simp))
  exact h
theorem one0 (b : Nat) (hb : b < 256) : ((str1 [UInt8.ofNat b])[0]'(by rw [str1_size]; exact Nat.one_pos)).toNat = b := by
  show (UInt8.ofNat b).toNat = b
  rw [UInt8.toNat_ofNat']
  omega
theorem encL_len (b : Nat) (m : Bool) : ∀ n l, (encL b m n l).length = 2 * n
  | 0, _ => rfl
  | n + 1, l => by
    unfold encL
    rw [List.length_cons, List.length_cons, encL_len b m n]
    omega
/-- A mark in FM. -/
def fmM (b : Nat) : List UInt8 := (((encL b false 8 false).set 4 48).set 6 48).set 8 48

set_option maxRecDepth 100000 in
set_option maxHeartbeats 4000000 in
theorem FmMark_any (b : Nat) (w : World) (hb : b < 256) : Calls Tryz.prog 63 #[.int .i64 (b : Int)] w fun e w' => e = .returned (.string (str1 (fmM b))) ∧ Below w.heap.size w w' := by
  have hi := fun W => l00In_any (b : Int) 0 255 W
  have hin : inB (b : Int) 0 255 = true := by unfold inB; simp; omega
  rw [hin] at hi
  clear hin
  have hwb : IntKind.u8.wrap (b : Int) = (b : Int) := IntWalk.u8_in _ (by omega)
  have hc1 := fun W => run_b1 b hb W
  have ef := fun W => EncodeFm_any (str1 [UInt8.ofNat b]) W (by rw [str1_size]; rfl)
  rw [one0 b hb] at ef
  obtain ⟨L, hL⟩ : ∃ L, encL b false 8 false = L := ⟨_, rfl⟩
  have hl16 : L.length = 16 := by rw [← hL, encL_len]
  have HR := Lib.hid (show fmM b = ((L.set 4 48).set 6 48).set 8 48 by unfold fmM; rw [hL])
  rw [hL] at ef
  clear hL
  have hcv := fun (W : World) => run_bytes_of_string (P := Tryz.prog) W 9 85 5 (str1 L) Tryz.underlying9 Tryz.underlying85 Tryz.underlying5
  have hsz : (str1 L).size = 16 := by rw [str1_size]; exact hl16
  rw [hsz] at hcv
  go_enter Tryz.func63, Tryz.ntmps63
  go_upto_region 4 with (first
    | (go_at_call 11; (with_reducible refine (hi _).mono ?_); rintro e w9 ⟨rfl, rfl⟩)
    | (go_at_call 89; (with_reducible refine (ef _).mono ?_); rintro e w5 ⟨rfl, hx5⟩; have hB5 : BB w w5 := BB.next (BB.al (BB.start w) _) hx5; have hcv5 := hcv w5))
  have hmk : MarkB (w5.alloc (.cells (bytesRow (str1 L) (grownCap w5 16 0 5)) 5 ((bytesRow (str1 L) (grownCap w5 16 0 5)).size, (bytesRow (str1 L) (grownCap w5 16 0 5)).size + 1))).drew w5.heap.size 5 L := MarkB.made (e := 5) w5 (str1 L) (grownCap w5 16 0 5)
  have hB6 : BB w (w5.alloc (.cells (bytesRow (str1 L) (grownCap w5 16 0 5)) 5 ((bytesRow (str1 L) (grownCap w5 16 0 5)).size, (bytesRow (str1 L) (grownCap w5 16 0 5)).size + 1))).drew := BB.dr (BB.al hB5 _)
  have hg5 := hB5.size
  generalize (w5.alloc (.cells (bytesRow (str1 L) (grownCap w5 16 0 5)) 5 ((bytesRow (str1 L) (grownCap w5 16 0 5)).size, (bytesRow (str1 L) (grownCap w5 16 0 5)).size + 1))).drew = w6 at hmk hB6 ⊢
  generalize (grownCap w5 16 0 5) = cap
  obtain ⟨g, hg⟩ : ∃ g, w5.heap.size = g := ⟨_, rfl⟩
  rw [hg] at hmk hg5 ⊢
  clear hcv hcv5 hx5 hB5 hg hc1 hsz
  have HL := Lib.hid hl16
  clear hl16
  go_wp2_with fail
  go_loopw [4] (fun i wr => ∃ (j : Nat) (M : List UInt8), i = .int .i64 (j : Int) ∧ j ≤ 10 ∧ M.length = 16 ∧ MarkB wr g 5 M ∧ BB w wr ∧ Hid ((j = 4 ∧ M = L) ∨ (j = 6 ∧ M = L.set 4 48) ∨ (j = 8 ∧ M = (L.set 4 48).set 6 48) ∨ (j = 10 ∧ M = ((L.set 4 48).set 6 48).set 8 48))) (fun i _ => 10 - (intOf i).toNat)
  case atStart => exact ⟨4, L, rfl, by omega, HL.out, hmk, hB6, Lib.hid (.inl ⟨rfl, rfl⟩)⟩
  case round =>
    obtain ⟨j, M, rfl, hj, hM, mk, hB, HJ⟩ := hrel
    have HM := Lib.hid hM
    by_cases hlt : j < 10
    · have hlti : decide ((j : Int) < 10) = true := decide_eq_true (by omega)
      have hjM : j < M.length := by omega
      have c0 := mk.cell j hjM
      have c1 := mk.free j hjM
      have mk2 := mk.set_ j 48 48 rfl
      have hB2 : BB w (wr.setCell ⟨g, j, none⟩ (.int .u8 48)) := BB.put hB (a := ⟨g, j, none⟩) hg5 (.int .u8 48)
      have hji : (j : Int) < 16 := by omega
      have hw2 : IntKind.i64.wrap ((j : Int) + 2) = ((j + 2 : Nat) : Int) := by rw [IntWalk.i64_in _ (by omega)]; rfl
      have HN := Lib.hid (show ((j + 2 = 4 ∧ M.set j 48 = L) ∨ (j + 2 = 6 ∧ M.set j 48 = L.set 4 48) ∨ (j + 2 = 8 ∧ M.set j 48 = (L.set 4 48).set 6 48) ∨ (j + 2 = 10 ∧ M.set j 48 = ((L.set 4 48).set 6 48).set 8 48)) from by
        rcases HJ.out with ⟨rfl, rfl⟩ | ⟨rfl, rfl⟩ | ⟨rfl, rfl⟩ | ⟨rfl, rfl⟩
        · exact .inr (.inl ⟨rfl, rfl⟩)
        · exact .inr (.inr (.inl ⟨rfl, rfl⟩))
        · exact .inr (.inr (.inr ⟨rfl, rfl⟩))
        · omega)
      have hj2 : j + 2 ≤ 10 := by rcases HJ.out with ⟨rfl, _⟩ | ⟨rfl, _⟩ | ⟨rfl, _⟩ | ⟨rfl, _⟩ <;> omega
      clear hM
      go_wp2_with fail
      go_roundw
      case rel => exact ⟨j + 2, M.set j 48, by first | rfl | go_num, hj2, by rw [List.length_set]; exact HM.out, mk2, hB2, HN⟩
      case measure => simp [intOf]; omega
    · have hlti : decide ((j : Int) < 10) = false := decide_eq_false (by omega)
      have hMe : M = fmM b := by
        rw [HR.out]
        rcases HJ.out with ⟨rfl, _⟩ | ⟨rfl, _⟩ | ⟨rfl, _⟩ | ⟨rfl, h⟩
        · omega
        · omega
        · omega
        · exact h
      have hcv2 := MarkB.b2s (P := Tryz.prog) (dst := 9) Tryz.underlying85 Tryz.underlying5 Tryz.underlying9 mk cap 16 hM.symm
      rw [hMe] at hcv2
      clear hM
      go_wp2_with fail
      go_ret
      exact ⟨rfl, hB⟩
end Go.Proofs.YtlfmpgfobkmgfaaGreatDoor
namespace Go.Proofs.YtlfmpgfobkmgfaaGreatDoor
open Go.RowKit
set_option linter.unusedVariables false
set_option linter.unusedSimpArgs false

theorem str_eq (x y : ByteArray) : (x.toList == y.toList) = decide (bl x = bl y) := by
  have key : ∀ z : ByteArray, z.toList = bl z := fun z => by rw [ByteArray.toList_eq]
  rw [key x, key y, Bool.eq_iff_iff]
  simp
/-- The table's texts. -/
def gS (i : Nat) : ByteArray := str1 (gT.getD i [])
set_option maxHeartbeats 1000000 in
theorem l06Codes_any (w : World) : Calls Tryz.prog 124 #[] w fun e w' => ∃ g, e = .returned (.slice (some ⟨g, 0, none⟩) 16 16) ∧ (∀ i, i < 16 → w'.cell? ⟨g, i, none⟩ = some (.string (gS i))) ∧ g < w'.heap.size ∧ Below w.heap.size w w' := by
  have F := BX.made w 9 [.string ⟨#[48, 49, 48, 49, 48]⟩, .string ⟨#[48, 49, 48, 49, 49]⟩, .string ⟨#[49, 48, 48, 49, 48]⟩, .string ⟨#[49, 48, 48, 49, 49]⟩, .string ⟨#[48, 49, 49, 49, 48]⟩, .string ⟨#[48, 49, 49, 49, 49]⟩, .string ⟨#[49, 48, 49, 49, 48]⟩, .string ⟨#[49, 48, 49, 49, 49]⟩, .string ⟨#[48, 49, 48, 48, 49]⟩, .string ⟨#[49, 49, 48, 48, 49]⟩, .string ⟨#[49, 49, 48, 49, 48]⟩, .string ⟨#[49, 49, 48, 49, 49]⟩, .string ⟨#[48, 49, 49, 48, 49]⟩, .string ⟨#[49, 49, 49, 48, 49]⟩, .string ⟨#[49, 49, 49, 49, 48]⟩, .string ⟨#[49, 48, 49, 48, 49]⟩]
  go_enter Tryz.func124, Tryz.ntmps124
  go_wp2
  go_ret
  refine ⟨w.heap.size, rfl, fun i hi => ?_, F.lt, BB.al (BB.start w) _⟩
  have h := F.cell i (by simpa using hi)
  rw [h]
  have : ∀ j : Fin 16, ([.string ⟨#[48, 49, 48, 49, 48]⟩, .string ⟨#[48, 49, 48, 49, 49]⟩, .string ⟨#[49, 48, 48, 49, 48]⟩, .string ⟨#[49, 48, 48, 49, 49]⟩, .string ⟨#[48, 49, 49, 49, 48]⟩, .string ⟨#[48, 49, 49, 49, 49]⟩, .string ⟨#[49, 48, 49, 49, 48]⟩, .string ⟨#[49, 48, 49, 49, 49]⟩, .string ⟨#[48, 49, 48, 48, 49]⟩, .string ⟨#[49, 49, 48, 48, 49]⟩, .string ⟨#[49, 49, 48, 49, 48]⟩, .string ⟨#[49, 49, 48, 49, 49]⟩, .string ⟨#[48, 49, 49, 48, 49]⟩, .string ⟨#[49, 49, 49, 48, 49]⟩, .string ⟨#[49, 49, 49, 49, 48]⟩, .string ⟨#[49, 48, 49, 48, 49]⟩] : List Value)[j.val]'(by simp) = .string (gS j.val) := by
    intro j
    match j with
    | ⟨0, _⟩ => rfl
    | ⟨1, _⟩ => rfl
    | ⟨2, _⟩ => rfl
    | ⟨3, _⟩ => rfl
    | ⟨4, _⟩ => rfl
    | ⟨5, _⟩ => rfl
    | ⟨6, _⟩ => rfl
    | ⟨7, _⟩ => rfl
    | ⟨8, _⟩ => rfl
    | ⟨9, _⟩ => rfl
    | ⟨10, _⟩ => rfl
    | ⟨11, _⟩ => rfl
    | ⟨12, _⟩ => rfl
    | ⟨13, _⟩ => rfl
    | ⟨14, _⟩ => rfl
    | ⟨15, _⟩ => rfl
    | ⟨i + 16, h⟩ => exact absurd h (by omega)
  exact congrArg some (this ⟨i, hi⟩)
/-- The place of a group among the table's entries from i on. -/
def gvD (g : List UInt8) (i : Nat) : Int := match ((List.range 16).drop i).find? (fun j => decide (gT.getD j [] = g)) with | some j => (j : Int) | none => -1
theorem gvD_s {g : List UInt8} {i : Nat} (h : i < 16) : gvD g i = if gT.getD i [] = g then (i : Int) else gvD g (i + 1) := by
  unfold gvD
  have h2 := List.drop_eq_getElem_cons (l := List.range 16) (i := i) (by simpa using h)
  rw [h2, List.getElem_range, List.find?_cons]
  by_cases e : gT.getD i [] = g
  · rw [if_pos e, decide_eq_true e]
  · rw [if_neg e, decide_eq_false e]
theorem gvD_e (g : List UInt8) {i : Nat} (h : ¬ i < 16) : gvD g i = -1 := by
  unfold gvD
  rw [List.drop_eq_nil_of_le (by simp; omega)]
  all_goals rfl
theorem gvD_0 (g : List UInt8) : gvD g 0 = gvI g := by
  unfold gvD gvI
  rw [List.drop_zero]
  all_goals
    generalize List.find? (fun j => decide (gT.getD j [] = g)) (List.range 16) = o
    cases o <;> rfl

set_option maxHeartbeats 1000000 in
theorem spec_GcrValue_any (x : ByteArray) (w : World) : Calls Tryz.prog 92 #[.string x] w fun e w' => e = .returned (.int .i64 (gvI (bl x))) ∧ Below w.heap.size w w' := by
  obtain ⟨R, hR⟩ : ∃ R, gvI (bl x) = R := ⟨_, rfl⟩
  rw [hR]
  have HR := Lib.hid (show gvD (bl x) 0 = R by rw [gvD_0]; exact hR)
  clear hR
  have lc := fun W => l06Codes_any W
  go_enter Tryz.func92, Tryz.ntmps92
  go_wp2_with (go_at_call 124; (with_reducible refine (lc _).mono ?_); rintro e w1 ⟨g, rfl, hc, hg, hx1⟩)
  go_loopw [4] (fun i wr => ∃ k : Nat, i = .int .i64 (k : Int) ∧ k ≤ 16 ∧ w1 = wr ∧ Hid (gvD (bl x) k = R)) (fun i _ => 16 - (intOf i).toNat)
  case atStart => exact ⟨0, rfl, by omega, (by first | rfl | trivial), HR⟩
  case round =>
    obtain ⟨k, rfl, hk, rfl, HK⟩ := hrel
    by_cases hlt : k < 16
    · have hlti : decide ((k : Int) < 16) = true := decide_eq_true (by omega)
      have hki : (k : Int) < 16 := by omega
      have ck := hc k hlt
      have HE := Lib.hid (str_eq (gS k) x)
      have hs := gvD_s (g := bl x) hlt
      rw [HK.out] at hs
      have HS := Lib.hid hs
      clear hs
      by_cases e : gT.getD k [] = bl x
      · have e0 : ((gS k).toList == x.toList) = true := by rw [HE.out]; exact decide_eq_true e
        have HN := Lib.hid (show R = (k : Int) by rw [HS.out, if_pos e])
        clear e
        go_wp2_with fail
        go_ret
        exact ⟨by rw [HN.out]; rfl, hx1⟩
      · have e0 : ((gS k).toList == x.toList) = false := by rw [HE.out]; exact decide_eq_false e
        have HN := Lib.hid (show gvD (bl x) (k + 1) = R by rw [HS.out, if_neg e])
        clear e
        go_wp2_with fail
        go_roundw
        case rel => exact ⟨k + 1, by go_num, by omega, (by first | rfl | trivial), HN⟩
        case measure => (simp [intOf] <;> omega)
    · have hlti : decide ((k : Int) < 16) = false := decide_eq_false (by omega)
      have HN := Lib.hid (show R = -1 by rw [← HK.out]; exact gvD_e _ hlt)
      go_wp2_with fail
      go_ret
      exact ⟨by rw [HN.out]; rfl, hx1⟩
set_option maxHeartbeats 1000000 in
theorem GcrCode_any (n : Nat) (w : World) (hn : n < 16) : Calls Tryz.prog 91 #[.int .i64 (n : Int)] w fun e w' => e = .returned (.string (gS n)) ∧ Below w.heap.size w w' := by
  have hi := fun W => l00In_any (n : Int) 0 15 W
  have hin : inB (n : Int) 0 15 = true := by unfold inB; simp; omega
  rw [hin] at hi
  clear hin
  have hni : (n : Int) < 16 := by omega
  have lc := fun W => l06Codes_any W
  go_enter Tryz.func91, Tryz.ntmps91
  go_wp2_with (first
    | (go_at_call 11; (with_reducible refine (hi _).mono ?_); rintro e w9 ⟨rfl, rfl⟩)
    | (go_at_call 124; (with_reducible refine (lc _).mono ?_); rintro e w1 ⟨g, rfl, hc, hg, hx1⟩; have ck := hc n hn))
  go_ret
  exact ⟨rfl, hx1⟩
end Go.Proofs.YtlfmpgfobkmgfaaGreatDoor
namespace Go.Proofs.YtlfmpgfobkmgfaaGreatDoor
open Go.RowKit
set_option linter.unusedVariables false
set_option linter.unusedSimpArgs false

/-- A mark's cells: in FM, MFM and the group code (without the sync). -/
def mfmM (b : Nat) : List UInt8 := [48, 49, 48, 48, 48, 49, 48, 48, 49, 48, 48, 48, 49, 48, 48, 49] ++ ([48, 49, 48, 48, 48, 49, 48, 48, 49, 48, 48, 48, 49, 48, 48, 49] ++ ([48, 49, 48, 48, 48, 49, 48, 48, 49, 48, 48, 48, 49, 48, 48, 49] ++ encL b true 8 true))
def gcrM (b : Nat) : List UInt8 := gT.getD (b / 16) [] ++ gT.getD (b % 16) []
def onesL : List UInt8 := [49, 49, 49, 49, 49, 49, 49, 49, 49, 49]
/-- The pattern that is looked for. -/
def patL (f : Int) (k : Nat) : List UInt8 := if f = 1 then fmM (mbN f k) else if f = 2 then mfmM (mbN f k) else gcrM (mbN f k)
/-- What a mark is made of. -/
def markL (f : Int) (k : Nat) : List UInt8 := if f = 3 then onesL ++ patL f k else patL f k
set_option maxRecDepth 100000 in
theorem pat3_1 : Pat3 (patL 1) := by unfold Pat3; decide +kernel
set_option maxRecDepth 100000 in
theorem pat3_2 : Pat3 (patL 2) := by unfold Pat3; decide +kernel
set_option maxRecDepth 100000 in
theorem pat3_3 : Pat3 (patL 3) := by unfold Pat3; decide +kernel

theorem gT_len (i : Nat) : (gT.getD i []).length ≤ 5 := by
  have h : ∀ j : Fin 16, (gT.getD j.val []).length ≤ 5 := by decide
  by_cases hi : i < 16
  · exact h ⟨i, hi⟩
  · rw [List.getD_eq_getElem?_getD, List.getElem?_eq_none (by show 16 ≤ i; omega)]
    exact Nat.zero_le _
theorem gS_size (i : Nat) : (gS i).size ≤ 5 := by
  unfold gS
  rw [str1_size]
  exact gT_len i
set_option maxHeartbeats 2000000 in
theorem l07Byte_any (f : Int) (k : Nat) (w : World) (hk : k = 1 ∨ k = 2 ∨ k = 3) : Calls Tryz.prog 62 #[.int .i64 f, .int .i64 (k : Int)] w fun e w' => e = .returned (.int .i64 (mbN f k : Int)) ∧ Below w.heap.size w w' := by
  have F0 := BX.made w 2 [.int .i64 254, .int .i64 251, .int .i64 248]
  have F1 := BX.made1 w (.cells #[.int .i64 254, .int .i64 251, .int .i64 248] 2) 2 [.int .i64 8, .int .i64 7, .int .i64 6]
  have a0 : (_ : Option Value) = some (.int .i64 254) := F0.cell 0 (by simp)
  have a1 : (_ : Option Value) = some (.int .i64 251) := F0.cell 1 (by simp)
  have a2 : (_ : Option Value) = some (.int .i64 248) := F0.cell 2 (by simp)
  have b0 : (_ : Option Value) = some (.int .i64 8) := F1.cell 0 (by simp)
  have b1 : (_ : Option Value) = some (.int .i64 7) := F1.cell 1 (by simp)
  have b2 : (_ : Option Value) = some (.int .i64 6) := F1.cell 2 (by simp)
  by_cases h3 : f = 3
  · subst h3
    rcases hk with rfl | rfl | rfl
    all_goals
      go_enter Tryz.func62, Tryz.ntmps62
      go_wp2
      go_ret
      exact ⟨rfl, BB.al (BB.al (BB.start w) _) _⟩
  · have e3 : (f == 3) = false := by simp [h3]
    have hm : ∀ j : Nat, mbN f j = 257 - 3 * j := fun j => by unfold mbN; rw [if_neg h3]
    rw [hm]
    rcases hk with rfl | rfl | rfl
    all_goals
      go_enter Tryz.func62, Tryz.ntmps62
      go_wp2
      go_ret
      exact ⟨rfl, BB.al (BB.start w) _⟩

set_option maxRecDepth 100000 in
set_option maxHeartbeats 4000000 in
theorem EncodeGcr_any (b : Nat) (w : World) (hb : b < 256) : Calls Tryz.prog 66 #[.string (str1 [UInt8.ofNat b])] w fun e w' => e = .returned (.tuple #[.string (str1 (gcrM b)), .bool true]) ∧ Below w.heap.size w w' := by
  obtain ⟨s, hs⟩ : ∃ s, str1 [UInt8.ofNat b] = s := ⟨_, rfl⟩
  have hsz : s.size = 1 := by rw [← hs, str1_size]; rfl
  have h0 : 0 < s.size := by omega
  have hy : (s[0]'h0).toNat = b := by
    subst hs
    exact one0 b hb
  rw [hs]
  clear hs
  have g1 : ∀ W : World, Calls Tryz.prog 91 #[.int .i64 ((b : Int) / 16)] W fun e w' => e = .returned (.string (gS (b / 16))) ∧ Below W.heap.size W w' := fun W => GcrCode_any (b / 16) W (by omega)
  have g2 : ∀ W : World, Calls Tryz.prog 91 #[.int .i64 ((b : Int) % 16)] W fun e w' => e = .returned (.string (gS (b % 16))) ∧ Below W.heap.size W w' := fun W => GcrCode_any (b % 16) W (by omega)
  go_enter Tryz.func66, Tryz.ntmps66
  go_wp2
  have O0 := OwnB.lit (e := 5) (base := w.heap.size) w [] #[] rfl (Nat.le_refl _) (by simp)
  have hB0 : BB w (w.alloc (.cells #[] 5)) := BB.al (BB.start w) _
  generalize (w.alloc (.cells #[] 5)) = w1 at O0 hB0 ⊢
  go_loopw [4, 5] (fun v i wr => ∃ (k : Nat) (l : List UInt8), i = .int .i64 (k : Int) ∧ OwnB wr w.heap.size 5 v l ∧ BB w wr ∧ ((k = 0 ∧ l = []) ∨ (k = 1 ∧ Hid (l = gcrM b)))) (fun _ i _ => 1 - (intOf i).toNat)
  case atStart => exact ⟨0, [], rfl, O0, hB0, .inl ⟨rfl, rfl⟩⟩
  case round =>
    obtain ⟨k, l, rfl, O, hB, hk⟩ := hrel
    clear O0 hB0
    rcases hk with ⟨rfl, rfl⟩ | ⟨rfl, HL⟩
    · obtain ⟨A1, c1, rfl⟩ := O.form
      have hbs := Below.size hB
      go_upto_region 8 with (first
        | (go_at_call 91; (with_reducible refine (g1 _).mono ?_); rintro e w5 ⟨rfl, hx5⟩; have O5 : OwnB w5 w.heap.size 5 (.slice A1 0 c1) [] := OwnB.later O hx5 (Nat.le_refl _); have hB5 : BB w w5 := BB.next hB hx5; have hbs5 := Below.size hB5)
        | (at_builtin; go_must (refine wpList_appS (by rfl) (.tmp 17) (.tmp 23) 85 9 (by rfl) eltB Tryz.underlying9 (.slice A1 0 c1) [] (by rfl) O5 (gS (b / 16)) (by rfl) (by have := gS_size (b / 16); simp only [List.length_nil]; omega) hbs5 ?_); intro v' w' hown' hg' hat' hbl'))
      have hB6 : BB w w' := Below.trans hB5 hbl'
      obtain ⟨A6, c6, rfl⟩ := hown'.form
      obtain ⟨l6, hl6⟩ : ∃ l6, [] ++ (gS (b / 16)).data.toList = l6 := ⟨_, rfl⟩
      have hl6n : l6.length ≤ 100 := by
        have h1 := gS_size (b / 16)
        have h2 : (gS (b / 16)).data.toList.length = (gS (b / 16)).size := Array.length_toList
        rw [← hl6, List.nil_append, h2]
        omega
      rw [hl6] at hown' ⊢
      have H6 := Lib.hid hl6
      clear hl6
      go_upto_region 6 with (first
        | (go_at_call 91; (with_reducible refine (g2 _).mono ?_); rintro e w7 ⟨rfl, hx7⟩; have O7 : OwnB w7 w.heap.size 5 (.slice A6 l6.length c6) l6 := OwnB.later hown' hx7 (Nat.le_refl _); have hB7 : BB w w7 := BB.next hB6 hx7; have hbs7 := Below.size hB7)
        | (at_builtin; go_must (refine wpList_appS (by rfl) (.tmp 25) (.tmp 31) 85 9 (by rfl) eltB Tryz.underlying9 (.slice A6 l6.length c6) l6 (by rfl) O7 (gS (b % 16)) (by rfl) (by have := gS_size (b % 16); omega) hbs7 ?_); intro v8 w8 hown8 hg8 hat8 hbl8))
      have hB8 : BB w w8 := Below.trans hB7 hbl8
      have HE := Lib.hid (show l6 ++ (gS (b % 16)).data.toList = gcrM b by rw [← H6.out]; rfl)
      go_wp2_with fail
      go_roundw
      case rel => exact ⟨1, _, rfl, hown8, hB8, .inr ⟨rfl, HE⟩⟩
      case measure => simp [intOf]
    · obtain ⟨A1, c1, rfl⟩ := O.form
      have hcv0 := run_b2s (P := Tryz.prog) (dst := 9) Tryz.underlying85 Tryz.underlying5 Tryz.underlying9 O
      have HL2 := HL.out
      subst HL2
      go_wp2
      exact bodyPost_ret (v := .tuple #[.string (str1 (gcrM b)), .bool true]) (by simp [results, Tryz.results66, go_sem, str1]) rfl ⟨rfl, hB⟩
end Go.Proofs.YtlfmpgfobkmgfaaGreatDoor
namespace Go.Proofs.YtlfmpgfobkmgfaaGreatDoor
open Go.RowKit
set_option linter.unusedVariables false
set_option linter.unusedSimpArgs false

theorem str_app (a b : List UInt8) : str1 a ++ str1 b = str1 (a ++ b) := by
  apply ByteArray.ext
  simp [str1]
theorem mbN_lt (f : Int) (k : Nat) (hk : k = 1 ∨ k = 2 ∨ k = 3) : mbN f k < 256 := by
  unfold mbN
  split <;> rcases hk with rfl | rfl | rfl <;> decide
def mfm16 : List UInt8 := [48, 49, 48, 48, 48, 49, 48, 48, 49, 48, 48, 48, 49, 48, 48, 49]
theorem fmM_len (b : Nat) : (fmM b).length = 16 := by
  unfold fmM
  rw [List.length_set, List.length_set, List.length_set, encL_len]

set_option maxRecDepth 100000 in
set_option maxHeartbeats 4000000 in
theorem l07Mark_any (f : Int) (k : Nat) (w : World) (hf : f = 1 ∨ f = 2 ∨ f = 3) (hk : k = 1 ∨ k = 2 ∨ k = 3) : Calls Tryz.prog 42 #[.int .i64 f, .int .i64 (k : Int)] w fun e w' => e = .returned (.string (str1 (markL f k))) ∧ Below w.heap.size w w' := by
  have lb := fun W => l07Byte_any f k W hk
  obtain ⟨b, hb⟩ : ∃ b, mbN f k = b := ⟨_, rfl⟩
  have hb2 : b < 256 := by rw [← hb]; exact mbN_lt f k hk
  rw [hb] at lb
  have HB := Lib.hid hb
  clear hb
  have hwb : IntKind.u8.wrap (b : Int) = (b : Int) := IntWalk.u8_in _ (by omega)
  have hc1 := fun W => run_b1 b hb2 W
  rcases hf with rfl | rfl | rfl
  · have fm := fun W => FmMark_any b W hb2
    have HR := Lib.hid (show markL 1 k = fmM b by unfold markL patL; rw [if_neg (by decide), if_pos rfl, HB.out])
    go_enter Tryz.func42, Tryz.ntmps42
    go_wp2_with (first
      | (go_at_call 62; (with_reducible refine (lb _).mono ?_); rintro e w1 ⟨rfl, hx1⟩; have hB1 : BB w (w1.alloc (.cells #[.int .u8 (b : Int)] 5)) := BB.al (BB.next (BB.start w) hx1) _; have hc2 := hc1 w1)
      | (go_at_call 63; (refine (fm _).mono ?_); rintro e w2 ⟨rfl, hx2⟩; have hB2 : BB w w2 := (by first | exact BB.next hB1 hx2 | exact BB.next (BB.dr hB1) hx2)))
    go_ret
    exact ⟨by rw [HR.out]; rfl, hB2⟩
  · have HR := Lib.hid (show markL 2 k = mfmM b by unfold markL patL; rw [if_neg (by decide), if_neg (by decide), if_pos rfl, HB.out])
    have em := fun W => EncodeMfm_any (str1 [UInt8.ofNat b]) true W (by rw [str1_size]; rfl)
    rw [one0 b hb2] at em
    obtain ⟨x, hx⟩ : ∃ x, str1 (encL b true 8 true) = x := ⟨_, rfl⟩
    have hxs : x.size = 16 := by rw [← hx, str1_size, encL_len]
    obtain ⟨m, hm⟩ : ∃ m : ByteArray, (⟨#[48, 49, 48, 48, 48, 49, 48, 48, 49, 48, 48, 48, 49, 48, 48, 49]⟩ : ByteArray) = m := ⟨_, rfl⟩
    have hms : m.size = 16 := by rw [← hm]; rfl
    have mm := fun W => MfmMark_any W
    rw [hx] at em
    rw [hm] at mm
    have HE := Lib.hid (show ((m ++ m) ++ m) ++ x = str1 (mfmM b) by
      have : m = str1 mfm16 := hm.symm
      rw [this, ← hx, str_app, str_app, str_app]
      unfold mfmM mfm16
      rw [List.append_assoc, List.append_assoc])
    have s1 : ¬ 9223372036854775807 < m.size + m.size := by omega
    have s2 : ¬ 9223372036854775807 < (m ++ m).size + m.size := by rw [ByteArray.size_append]; omega
    have s3 : ¬ 9223372036854775807 < ((m ++ m) ++ m).size + x.size := by rw [ByteArray.size_append, ByteArray.size_append]; omega
    clear hxs hms hx hm
    go_enter Tryz.func42, Tryz.ntmps42
    go_wp2_with (first
      | (go_at_call 62; (with_reducible refine (lb _).mono ?_); rintro e w1 ⟨rfl, hx1⟩; have hB1 : BB w (w1.alloc (.cells #[.int .u8 (b : Int)] 5)) := BB.al (BB.next (BB.start w) hx1) _; have hc2 := hc1 w1)
      | (go_at_call 64; (refine (mm _).mono ?_); rintro e w2 ⟨rfl, rfl⟩)
      | (go_at_call 65; (refine (em _).mono ?_); rintro e w2 ⟨rfl, hx2⟩; have hB2 : BB w w2 := (by first | exact BB.next hB1 hx2 | exact BB.next (BB.dr hB1) hx2)))
    go_ret
    exact ⟨by rw [HR.out, ← HE.out]; rfl, hB2⟩
  · have HR := Lib.hid (show markL 3 k = onesL ++ gcrM b by unfold markL patL; rw [if_pos rfl, if_neg (by decide), if_neg (by decide), HB.out])
    have eg := fun W => EncodeGcr_any b W hb2
    obtain ⟨x, hx⟩ : ∃ x, str1 (gcrM b) = x := ⟨_, rfl⟩
    have hxs : x.size ≤ 10 := by
      rw [← hx, str1_size]
      unfold gcrM
      rw [List.length_append]
      have h1 := gT_len (b / 16)
      have h2 := gT_len (b % 16)
      omega
    rw [hx] at eg
    have HE := Lib.hid (show (⟨#[49, 49, 49, 49, 49, 49, 49, 49, 49, 49]⟩ : ByteArray) ++ x = str1 (onesL ++ gcrM b) by
      rw [← hx, ← str_app]; rfl)
    have s1 : ¬ 9223372036854775807 < 10 + x.size := by omega
    clear hxs hx
    go_enter Tryz.func42, Tryz.ntmps42
    go_wp2_with (first
      | (go_at_call 62; (with_reducible refine (lb _).mono ?_); rintro e w1 ⟨rfl, hx1⟩; have hB1 : BB w (w1.alloc (.cells #[.int .u8 (b : Int)] 5)) := BB.al (BB.next (BB.start w) hx1) _; have hc2 := hc1 w1)
      | (go_at_call 66; (refine (eg _).mono ?_); rintro e w2 ⟨rfl, hx2⟩; have hB2 : BB w w2 := (by first | exact BB.next hB1 hx2 | exact BB.next (BB.dr hB1) hx2)))
    go_ret
    exact ⟨by rw [HR.out, ← HE.out]; rfl, hB2⟩
end Go.Proofs.YtlfmpgfobkmgfaaGreatDoor
namespace Go.Proofs.YtlfmpgfobkmgfaaGreatDoor
open Go.RowKit Go.Deep
set_option linter.unusedVariables false
set_option linter.unusedSimpArgs false

def plen (f : Int) : Nat := if f = 3 then 10 else if f = 2 then 64 else 16
theorem pat_len (f : Int) (k : Nat) (hf : f = 1 ∨ f = 2 ∨ f = 3) (hk : k = 1 ∨ k = 2 ∨ k = 3) : (patL f k).length = plen f := by
  rcases hf with rfl | rfl | rfl
  · show (fmM (mbN 1 k)).length = 16
    exact fmM_len _
  · show (mfmM (mbN 2 k)).length = 64
    unfold mfmM
    simp [encL_len]
  · rcases hk with rfl | rfl | rfl <;> rfl
theorem pat3_f (f : Int) (hf : f = 1 ∨ f = 2 ∨ f = 3) : Pat3 (patL f) := by
  rcases hf with rfl | rfl | rfl
  · exact pat3_1
  · exact pat3_2
  · exact pat3_3
def sitesF (f : Int) (c : List UInt8) : List (Nat × Nat) := if f = 3 then gSites c else fSites c.length
theorem sites_lt (f : Int) (c : List UInt8) : (sitesF f c).Pairwise (fun s t => s.1 < t.1) := by
  unfold sitesF
  split
  · exact gSites_lt c
  · exact fSites_lt _
/-- The marks of a track. -/
def marksS (f : Int) (c : List UInt8) : List MK := if c.length < plen f then [] else mkS (patL f) (plen f) c (sitesF f c)
/-- What is there after the first kinds. -/
def outK (f : Int) (c : List UInt8) : Nat → List MK
  | 0 => []
  | k + 1 => if c.length < plen f then outK f c k else insAll (allK (patL f) (plen f) c (k + 1) (sitesF f c)) (outK f c k)
theorem outK_3 (f : Int) (c : List UInt8) (hf : f = 1 ∨ f = 2 ∨ f = 3) : outK f c 3 = marksS f c := by
  unfold marksS
  by_cases h : c.length < plen f
  · rw [if_pos h]
    simp [outK, h]
  · rw [if_neg h, ← ins_mkS (pat3_f f hf) (sites_lt f c)]
    unfold allS
    rw [insAll_append, insAll_append]
    simp [outK, h]
theorem allK_F (P : Nat → List UInt8) (len : Nat) (c : List UInt8) (k : Nat) : allK P len c k (fSites c.length) = (plK c (P k) c.length).map fun a => (k, a, (a + len) % c.length) := by
  unfold allK fSites plK
  rw [List.filterMap_map]
  generalize List.range c.length = r
  induction r with
  | nil => rfl
  | cons a r ih =>
    rw [List.filterMap_cons, List.filter_cons]
    unfold oneK at ih ⊢
    by_cases h : fitB c (P k) a = true
    · simp only [Function.comp, h, if_true, List.map_cons] at ih ⊢
      rw [ih]
    · simp only [Function.comp, h, if_false] at ih ⊢
      simpa using ih
theorem own_capT {w : World} {base : Nat} {e : TypeId} {size n c : Nat} {A : Option Addr} {xs : List Value} (h : w.ownsRow base e size (.slice A n c) n xs) : n ≤ c := by
  obtain ⟨_, (⟨q, q2⟩ | ⟨g, cap', cur, q, _, _, hc, _⟩)⟩ := h
  · omega
  · cases q; exact hc
theorem insM_len (m : MK) : ∀ l : List MK, (insM m l).length = l.length + 1
  | [] => rfl
  | x :: l => by
    unfold insM
    split
    · rw [List.length_cons, insM_len m l, List.length_cons]
    · rfl
theorem insAll_len : ∀ l out : List MK, (insAll l out).length = l.length + out.length
  | [], out => by simp [insAll]
  | m :: l, out => by rw [insAll_cons, insAll_len l, insM_len, List.length_cons]; omega
theorem allK_len (P : Nat → List UInt8) (len : Nat) (c : List UInt8) (k : Nat) (sites : List (Nat × Nat)) : (allK P len c k sites).length ≤ sites.length := List.length_filterMap_le _ _
theorem sites_len (f : Int) (c : List UInt8) : (sitesF f c).length ≤ c.length := by
  unfold sitesF
  split
  · unfold gSites
    rw [List.length_map]
    exact synK_len c c.length
  · unfold fSites
    simp
theorem outK_len (f : Int) (c : List UInt8) : ∀ k, (outK f c k).length ≤ k * c.length
  | 0 => by simp [outK]
  | k + 1 => by
    have ih := outK_len f c k
    have h1 := allK_len (patL f) (plen f) c (k + 1) (sitesF f c)
    have h2 := sites_len f c
    unfold outK
    rw [Nat.add_mul]
    split
    · omega
    · rw [insAll_len]
      omega
/-- The marks of one kind put in, up to the place j. -/
def insF (f : Int) (c : List UInt8) (k j : Nat) : List MK := insAll (((plK c (patL f k) c.length).take j).map fun a => (k, a, (a + plen f) % c.length)) (outK f c (k - 1))
theorem insF_0 (f : Int) (c : List UInt8) (k : Nat) : insF f c k 0 = outK f c (k - 1) := by
  unfold insF
  rw [List.take_zero]
  rfl
theorem insF_s {f : Int} {c : List UInt8} {k j a : Nat} (h : j < (plK c (patL f k) c.length).length) (ha : (plK c (patL f k) c.length)[j] = a) : insF f c k (j + 1) = insM (k, a, (a + plen f) % c.length) (insF f c k j) := by
  unfold insF
  rw [List.take_succ_eq_append_getElem h, List.map_append, insAll_append, ha]
  rfl
theorem insF_e {f : Int} {c : List UInt8} {k j : Nat} (hf : ¬ f = 3) (hk : 1 ≤ k) (hn : ¬ c.length < plen f) (h : j = (plK c (patL f k) c.length).length) : insF f c k j = outK f c k := by
  obtain ⟨m, rfl⟩ : ∃ m, k = m + 1 := ⟨k - 1, by omega⟩
  have e : outK f c (m + 1) = insAll (allK (patL f) (plen f) c (m + 1) (sitesF f c)) (outK f c m) := by
    show (if c.length < plen f then outK f c m else insAll (allK (patL f) (plen f) c (m + 1) (sitesF f c)) (outK f c m)) = _
    rw [if_neg hn]
  rw [e]
  unfold insF
  rw [h, List.take_length]
  unfold sitesF
  rw [if_neg hf, allK_F]
  rfl
theorem outK_skip {f : Int} {c : List UInt8} {k : Nat} (hk : 1 ≤ k) (hn : c.length < plen f) : outK f c k = outK f c (k - 1) := by
  obtain ⟨m, rfl⟩ : ∃ m, k = m + 1 := ⟨k - 1, by omega⟩
  show (if c.length < plen f then outK f c m else _) = _
  rw [if_pos hn]
  rfl
theorem insF_len (f : Int) (c : List UInt8) (k j : Nat) (hk : k ≤ 3) : (insF f c k j).length ≤ 4 * c.length := by
  unfold insF
  rw [insAll_len, List.length_map]
  have h1 : ((plK c (patL f k) c.length).take j).length ≤ c.length := Nat.le_trans (List.length_take_le' ..) (plK_len _ _ _)
  have h2 := outK_len f c (k - 1)
  have h3 : (k - 1) * c.length ≤ 2 * c.length := Nat.mul_le_mul_right _ (by omega)
  omega
theorem plK_lt {c p : List UInt8} {n j : Nat} (h : j < (plK c p n).length) : (plK c p n)[j] < n := by
  have := List.getElem_mem h
  unfold plK at this
  exact List.mem_range.1 (List.mem_filter.1 this).1

set_option maxRecDepth 100000 in
set_option maxHeartbeats 8000000 in
theorem l07Marks_F (f : Int) (s : ByteArray) (w : World) (hs : s.size ≤ 8000) (h0 : 0 < s.size) (hf : f = 1 ∨ f = 2) :
    Calls Tryz.prog 32 #[.string s, .int .i64 f] w fun e w' => ∃ b l q, e = .returned (.slice (some ⟨b, 0, none⟩) l q) ∧ l = (marksS f (bl s)).length ∧ w'.ownsRow w.heap.size 49 3 (.slice (some ⟨b, 0, none⟩) l q) l (flat fM (marksS f (bl s))) ∧ Below w.heap.size w w' := by
  have hf3 : ¬ f = 3 := by omega
  have e3 : (f == 3) = false := by simp [hf3]
  have e3' : (f != 3) = true := by simp [bne, hf3]
  have hn := blen s
  have sy := fun W => l07Syncs_any s W hs h0
  have hmk := fun (k : Nat) (W : World) (hk : k = 1 ∨ k = 2 ∨ k = 3) => l07Mark_any f k W (by omega) hk
  obtain ⟨R, hR⟩ : ∃ R, marksS f (bl s) = R := ⟨_, rfl⟩
  rw [hR]
  have HR := Lib.hid (show outK f (bl s) 3 = R by rw [outK_3 f (bl s) (by omega)]; exact hR)
  clear hR
  go_enter Tryz.func32, Tryz.ntmps32
  go_upto_region 3 with fail
  have O0 := World.ownsRow_lit (base := w.heap.size) (e := 49) (size := 3) w #[] 0 (Nat.le_refl _) (by simp) (by simp)
  have hB0 : BB w (w.alloc (.cells #[] 49)) := BB.al (BB.start w) _
  generalize (w.alloc (.cells #[] 49)) = w1 at O0 hB0 ⊢
  go_wp2_with (go_at_call 41; (with_reducible refine (sy _).mono ?_); rintro e w2 ⟨v2, rfl, OS, hx2⟩; have O2 := own_later O0 hx2 (Nat.le_refl _); have hB2 : BB w w2 := BB.next hB0 hx2)
  clear sy OS hx2 O0 hB0
  go_loopw [6, 8] (fun v i wr => ∃ (k : Nat) (l : List MK) (b q : Nat), i = .int .i64 (k : Int) ∧ 1 ≤ k ∧ k ≤ 4 ∧ v = .slice (some ⟨b, 0, none⟩) l.length q ∧ OO wr w.heap.size 49 3 (.slice (some ⟨b, 0, none⟩) l.length q) l.length (flat fM l) ∧ BB w wr ∧ Hid (l = outK f (bl s) (k - 1))) (fun _ i _ => 4 - (intOf i).toNat)
  case atStart => exact ⟨1, [], _, _, rfl, by omega, by omega, rfl, O2, hB2, Lib.hid rfl⟩
  case round =>
    obtain ⟨k, l, b, q, rfl, hk1, hk4, rfl, O, hB, HL⟩ := hrel
    clear O2 hB2
    by_cases hlt : k ≤ 3
    · have hlti : decide ((k : Int) ≤ 3) = true := decide_eq_true (by omega)
      have hk3 : k = 1 ∨ k = 2 ∨ k = 3 := by omega
      have mk := fun W => hmk k W hk3
      have hml : markL f k = patL f k := by unfold markL; rw [if_neg hf3]
      rw [hml] at mk
      clear hml
      obtain ⟨P, hP⟩ : ∃ P, patL f k = P := ⟨_, rfl⟩
      have hPl : P.length = plen f := by rw [← hP]; exact pat_len f k (by omega) hk3
      rw [hP] at mk
      obtain ⟨len, hlen⟩ : ∃ len, plen f = len := ⟨_, rfl⟩
      obtain ⟨p, hp⟩ : ∃ p, str1 P = p := ⟨_, rfl⟩
      have hps : p.size = len := by rw [← hp, str1_size, hPl, hlen]
      have hpb : bl p = P := by rw [← hp]; simp [bl, str1]
      rw [hp] at mk
      have HPB := Lib.hid hpb
      have HP := Lib.hid hP
      have HLEN := Lib.hid hlen
      have hlen64 : len ≤ 64 := by rw [← hlen]; unfold plen; repeat' split
                                   all_goals omega
      clear hpb hP hPl hlen hp
      by_cases hbig : s.size < len
      · have hbi : decide ((s.size : Int) < (len : Int)) = true := decide_eq_true (by omega)
        have HN := Lib.hid (show l = outK f (bl s) (k + 1 - 1) by rw [Nat.add_sub_cancel, outK_skip hk1 (by rw [hn, HLEN.out]; exact hbig), HL.out])
        go_wp2_with (go_at_call 42; (with_reducible refine (mk _).mono ?_); rintro e w5 ⟨rfl, hx5⟩; have O5 : OO w5 _ _ _ _ _ _ := own_later O hx5 (Nat.le_refl _); have hB5 : BB w w5 := BB.next hB hx5)
        go_roundw
        case rel => exact ⟨k + 1, l, b, q, by go_num, by omega, by omega, rfl, O5, hB5, HN⟩
        case measure => simp [intOf]; omega
      · have hbi : decide ((s.size : Int) < (len : Int)) = false := decide_eq_false (by omega)
        have fd := fun W => l07Find_any s p W hs h0 (by omega)
        rw [HPB.out] at fd
        obtain ⟨L, hL⟩ : ∃ L, plK (bl s) P s.size = L := ⟨_, rfl⟩
        rw [hL] at fd
        have HLP := Lib.hid hL
        clear hL
        go_wp2_with (first
          | (go_at_call 42; (with_reducible refine (mk _).mono ?_); rintro e w5 ⟨rfl, hx5⟩; have O5 : OO w5 _ _ _ _ _ _ := own_later O hx5 (Nat.le_refl _); have hB5 : BB w w5 := BB.next hB hx5)
          | (go_at_call 43; (with_reducible refine (fd _).mono ?_); rintro e w6 ⟨v6, rfl, OL, hx6⟩; obtain ⟨PA, pq, rfl⟩ := own_form OL; have O6 : OO w6 _ _ _ _ _ _ := own_later O5 hx6 (Nat.le_refl _); have hB6 : BB w w6 := BB.next hB5 hx6; have OL6 : OO w6 _ _ _ _ _ _ := own_base OL (Below.size hB5)))
        have hLn : L.length ≤ 8000 := by rw [← HLP.out]; have := plK_len (bl s) P s.size; omega
        clear O5 hB5 OL O hB mk fd
        go_loopw [6, 12] (fun v i wx => ∃ (j : Nat) (l : List MK) (b q : Nat), i = .int .i64 (j : Int) ∧ j ≤ L.length ∧ v = .slice (some ⟨b, 0, none⟩) l.length q ∧ OO wx w.heap.size 49 3 (.slice (some ⟨b, 0, none⟩) l.length q) l.length (flat fM l) ∧ OO wx w.heap.size 2 1 (.slice PA L.length pq) L.length (flat fN L) ∧ BB w wx ∧ Hid (l = insF f (bl s) k j)) (fun _ i _ => L.length - (intOf i).toNat)
        case atStart => exact ⟨0, l, b, q, rfl, Nat.zero_le _, rfl, O6, OL6, hB6, Lib.hid (by rw [insF_0]; exact HL.out)⟩
        case round =>
          obtain ⟨j, l, b, q, rfl, hj, rfl, O, OL, hB, HI⟩ := hrel
          clear O6 OL6 hB6
          by_cases hlt2 : j < L.length
          · have hlti2 : decide ((j : Int) < (L.length : Int)) = true := decide_eq_true (by omega)
            obtain ⟨pb, cap, hbe, hp0, hpl⟩ := World.ownsRow.form OL (by omega)
            cases hbe
            obtain ⟨pb', off', he, _, hc⟩ := (Rd.of_own (OOf OL)).at_ fN_len rfl j hlt2
            cases he
            have hca := hc 0 _ (by omega) rfl
            clear hc
            obtain ⟨a, ha⟩ : ∃ a, L[j] = a := ⟨_, rfl⟩
            have han : a < s.size := by
              have h1 : ∀ x ∈ L, x < s.size := fun x hx => by
                rw [← HLP.out] at hx
                unfold plK at hx
                exact List.mem_range.1 (List.mem_filter.1 hx).1
              rw [← ha]
              exact h1 _ (List.getElem_mem hlt2)
            rw [ha] at hca
            simp only [Nat.mul_one, Nat.add_zero, Nat.zero_add] at hca
            have hcap := own_capT (OOf O)
            have hll : l.length ≤ 100000 := by rw [HI.out]; have := insF_len f (bl s) k j (by omega); rw [hn] at this; omega
            have hw1 : IntKind.i64.wrap ((a : Int) + (len : Int)) = (a : Int) + (len : Int) := IntWalk.i64_in _ (by omega)
            obtain ⟨r, hrr⟩ : ∃ r, (a + len) % s.size = r := ⟨_, rfl⟩
            have hrl : r < s.size := by rw [← hrr]; exact Nat.mod_lt _ h0
            have hrm : ((a : Int) + (len : Int)).tmod (s.size : Int) = (r : Int) := by rw [← Int.natCast_add, rem_nat, hrr]
            have hwr : IntKind.i64.wrap (r : Int) = (r : Int) := IntWalk.i64_in _ (by omega)
            have hnz : ¬ (s.size : Int) = 0 := by omega
            have hne : ¬ s = ByteArray.empty := fun e => by rw [e] at h0; exact absurd h0 (by decide)
            have hnz2 : ((s.size : Int) == 0) = false := by rw [beq_eq_false_iff_ne]; omega
            have HN := Lib.hid (show insM (k, a, r) l = insF f (bl s) k (j + 1) by
              have h := insF_s (f := f) (c := bl s) (k := k) (j := j) (a := a) (by rw [HP.out, hn, HLP.out]; exact hlt2) (by simp only [HP.out, hn, HLP.out]; exact ha)
              rw [HLEN.out, hn, hrr, ← HI.out] at h
              exact h.symm)
            clear ha hrr
            go_upto_region 17 with fail
            refine wp_region_held_drew (S := (fun W => W.cell? ⟨pb, j, none⟩ = some (.int .i64 (a : Int)))) (by kernel_rfl) ?hS1 (fun hHeld => ?rest2)
            case hS1 => (exact hca)
            refine wpAnyH_take (i := 0) (oi := _) (v := ?v3) rfl (by kernel_rfl) (by kernel_rfl) (by kernel_rfl) (fun _ _ _ h => h) (Or.inl ⟨by rfl, ?hy4⟩) hHeld ?rest5
            case hy4 => (intro w hSw; (try dsimp only at hSw); go_simp; (try with_reducible rfl))
            try simp only [Act.put, List.setIfInBounds_toArray, List.set_cons_zero, List.set_cons_succ]
            refine wpAnyH_take (i := 1) (oi := _) (v := ?v6) rfl (by kernel_rfl) (by kernel_rfl) (by kernel_rfl) (fun _ _ _ h => h) (Or.inl ⟨by rfl, ?hy7⟩) hHeld ?rest8
            case hy7 => (intro w hSw; (try dsimp only at hSw); go_simp; (try with_reducible rfl))
            try simp only [Act.put, List.setIfInBounds_toArray, List.set_cons_zero, List.set_cons_succ]
            refine wpAnyH_take (i := 2) (oi := _) (v := ?v9) rfl (by kernel_rfl) (by kernel_rfl) (by kernel_rfl) (fun _ _ _ h => h) (Or.inl ⟨by rfl, ?hy10⟩) hHeld ?rest11
            case hy10 => (intro w hSw; (try dsimp only at hSw); go_simp; (try with_reducible rfl))
            try simp only [Act.put, List.setIfInBounds_toArray, List.set_cons_zero, List.set_cons_succ]
            refine wpAnyH_take (i := 3) (oi := _) (v := ?v12) rfl (by kernel_rfl) (by kernel_rfl) (by kernel_rfl) (fun _ _ _ h => h) (Or.inl ⟨by rfl, ?hy13⟩) hHeld ?rest14
            case hy13 => (intro w hSw; (try dsimp only at hSw); go_simp; (try with_reducible rfl))
            try simp only [Act.put, List.setIfInBounds_toArray, List.set_cons_zero, List.set_cons_succ]
            refine wpAnyH_take (i := 4) (oi := _) (v := ?v15) rfl (by kernel_rfl) (by kernel_rfl) (by kernel_rfl) (fun _ _ _ h => h) (Or.inl ⟨by rfl, ?hy16⟩) hHeld ?rest17
            case hy16 => (intro w hSw; (try dsimp only at hSw); go_simp; (try with_reducible rfl))
            try simp only [Act.put, List.setIfInBounds_toArray, List.set_cons_zero, List.set_cons_succ]
            refine wpAnyH_take (i := 5) (oi := _) (v := ?v18) rfl (by kernel_rfl) (by kernel_rfl) (by kernel_rfl) (fun _ _ _ h => h) (Or.inl ⟨by rfl, ?hy19⟩) hHeld ?rest20
            case hy19 => (intro w hSw; (try dsimp only at hSw); go_simp; (try with_reducible rfl))
            try simp only [Act.put, List.setIfInBounds_toArray, List.set_cons_zero, List.set_cons_succ]
            refine wpAnyH_take (i := 6) (oi := _) (v := ?v21) rfl (by kernel_rfl) (by kernel_rfl) (by kernel_rfl) (fun _ _ _ h => h) (Or.inl ⟨by rfl, ?hy22⟩) hHeld ?rest23
            case hy22 => (intro w hSw; (try dsimp only at hSw); go_simp; (try with_reducible rfl))
            try simp only [Act.put, List.setIfInBounds_toArray, List.set_cons_zero, List.set_cons_succ]
            refine wpAnyH_take (i := 7) (oi := _) (v := ?v24) rfl (by kernel_rfl) (by kernel_rfl) (by kernel_rfl) (fun _ _ _ h => h) (Or.inl ⟨by rfl, ?hy25⟩) hHeld ?rest26
            case hy25 => (intro w hSw; (try dsimp only at hSw); go_simp; (try with_reducible rfl))
            try simp only [Act.put, List.setIfInBounds_toArray, List.set_cons_zero, List.set_cons_succ]
            refine wpAnyH_take (i := 8) (oi := _) (v := ?v27) rfl (by kernel_rfl) (by kernel_rfl) (by kernel_rfl) (fun _ _ _ h => h) (Or.inl ⟨by rfl, ?hy28⟩) hHeld ?rest29
            case hy28 => (intro w hSw; (try dsimp only at hSw); go_simp; (try with_reducible rfl))
            try simp only [Act.put, List.setIfInBounds_toArray, List.set_cons_zero, List.set_cons_succ]
            refine wpAnyH_take (i := 9) (oi := _) (v := ?v30) rfl (by kernel_rfl) (by kernel_rfl) (by kernel_rfl) (fun _ _ _ h => h) (Or.inl ⟨by rfl, ?hy31⟩) hHeld ?rest32
            case hy31 => (intro w hSw; (try dsimp only at hSw); go_simp; (try with_reducible rfl))
            try simp only [Act.put, List.setIfInBounds_toArray, List.set_cons_zero, List.set_cons_succ]
            refine wpAnyH_take (i := 10) (oi := _) (v := ?v33) rfl (by kernel_rfl) (by kernel_rfl) (by kernel_rfl) (fun _ _ _ h => h) (Or.inl ⟨by rfl, ?hy34⟩) hHeld ?rest35
            case hy34 => (intro w hSw; (try dsimp only at hSw); go_simp; (try with_reducible rfl))
            try simp only [Act.put, List.setIfInBounds_toArray, List.set_cons_zero, List.set_cons_succ]
            refine wpAnyH_take (i := 11) (oi := _) (v := ?v36) rfl (by kernel_rfl) (by kernel_rfl) (by kernel_rfl) (fun _ _ _ h => h) (Or.inl ⟨by rfl, ?hy37⟩) hHeld ?rest38
            case hy37 => (intro w hSw; (try dsimp only at hSw); go_simp; (try with_reducible rfl))
            try simp only [Act.put, List.setIfInBounds_toArray, List.set_cons_zero, List.set_cons_succ]
            refine wpAnyH_take (i := 12) (oi := _) (v := ?v39) rfl (by kernel_rfl) (by kernel_rfl) (by kernel_rfl) (fun _ _ _ h => h) (Or.inl ⟨by rfl, ?hy40⟩) hHeld ?rest41
            case hy40 => (intro w hSw; (try dsimp only at hSw); go_simp; (try with_reducible rfl))
            try simp only [Act.put, List.setIfInBounds_toArray, List.set_cons_zero, List.set_cons_succ]
            refine wpAnyH_take (i := 13) (oi := _) (v := ?v42) rfl (by kernel_rfl) (by kernel_rfl) (by kernel_rfl) (fun _ _ _ h => h) (Or.inl ⟨by rfl, ?hy43⟩) hHeld ?rest44
            case hy43 => (intro w hSw; (try dsimp only at hSw); go_simp; (try with_reducible rfl))
            try simp only [Act.put, List.setIfInBounds_toArray, List.set_cons_zero, List.set_cons_succ]
            refine wpAnyH_take (i := 14) (oi := _) (v := ?v45) rfl (by kernel_rfl) (by kernel_rfl) (by kernel_rfl) (fun _ _ _ h => h) (Or.inl ⟨by rfl, ?hy46⟩) hHeld ?rest47
            case hy46 => (intro w hSw; (try dsimp only at hSw); go_simp; (try with_reducible rfl))
            try simp only [Act.put, List.setIfInBounds_toArray, List.set_cons_zero, List.set_cons_succ]
            refine wpAnyH_ready (rs := [15]) (by kernel_rfl) (by simp) ?_
            refine AllReadyH.cons (o := _) rfl (fun K hK => ?stp52) ?more53
            case stp52 =>
              go_simp
              refine (l07Put_any l (k, a, r) b q _ (Rd.of_own (OO.dr O)) hll hcap).mono ?_
              rintro e w5 ⟨v5, rfl, O5, hx5⟩
              have OL5 : OO w5 _ _ _ _ _ _ := own_later (OO.dr OL) hx5 (Nat.le_refl _)
              have hB5 : BB w w5 := BB.next (BB.dr hB) hx5
              have c5 : w5.cell? ⟨pb, j, none⟩ = some (.int .i64 (a : Int)) := (Below.cell hx5 (p := ⟨pb, j, none⟩) hpl).trans hca
              have hiz : 0 < (insM (k, a, r) l).length := (by rw [insM_len]; omega)
              obtain ⟨b5, c5x, he5, _, _⟩ := World.ownsRow.form O5 hiz
              subst he5
              (try go_wp2_with fail)
              refine hK.out _ _ ?hS54 (fun hHeld2 => ?rest55)
              case hS54 => (exact c5)
              clear hK K hHeld
              have hHeld := hHeld2
              clear hHeld2
              try simp only [Act.put, List.setIfInBounds_toArray, List.set_cons_zero, List.set_cons_succ]
              refine wpAnyH_ready (rs := [16]) (by kernel_rfl) (by simp) ?_
              refine AllReadyH.cons (o := _) rfl (fun K hK => ?stp48) ?more49
              case stp48 =>
                go_simp
                refine hK.out _ _ ?hS50 (fun hHeld2 => ?rest51)
                case hS50 => (exact hHeld)
                clear hK K hHeld
                have hHeld := hHeld2
                clear hHeld2
                try simp only [Act.put, List.setIfInBounds_toArray, List.set_cons_zero, List.set_cons_succ]
                refine wpAnyH_done (by kernel_rfl) ?_ _
                go_wp2_with fail
                go_roundw
                case rel => exact ⟨j + 1, insM (k, a, r) l, b5, c5x, by go_num, hlt2, rfl, own_base O5 (Below.size (BB.dr hB)), OL5, hB5, HN⟩
                case measure => simp [intOf]; omega
              exact AllReadyH.nil
            exact AllReadyH.nil
          · have hlti2 : decide ((j : Int) < (L.length : Int)) = false := decide_eq_false (by omega)
            have HN := Lib.hid (show l = outK f (bl s) (k + 1 - 1) by
              rw [Nat.add_sub_cancel, HI.out, insF_e hf3 hk1 (by rw [hn, HLEN.out]; exact hbig)]
              rw [HP.out, hn, HLP.out]
              omega)
            go_wp2_with fail
            go_roundw
            case rel => exact ⟨k + 1, l, b, q, by go_num, by omega, by omega, rfl, O, hB, HN⟩
            case measure => simp [intOf]; omega
    · have hlti : decide ((k : Int) ≤ 3) = false := decide_eq_false (by omega)
      obtain rfl : k = 4 := by omega
      have HL2 := Lib.hid (show l = R from HL.out.trans HR.out)
      go_wp2_with fail
      go_ret
      exact ⟨b, l.length, q, rfl, by rw [HL2.out], by rw [← HL2.out]; exact OOf O, hB⟩
end Go.Proofs.YtlfmpgfobkmgfaaGreatDoor
namespace Go.Proofs.YtlfmpgfobkmgfaaGreatDoor
open Go.RowKit Go.Deep
set_option linter.unusedVariables false
set_option linter.unusedSimpArgs false

def insG (c : List UInt8) (k j : Nat) : List MK := insAll (((syncL c).take j).filterMap fun s => oneK (patL 3) 10 c k (s.1, s.1 + s.2)) (outK 3 c (k - 1))
theorem insG_0 (c : List UInt8) (k : Nat) : insG c k 0 = outK 3 c (k - 1) := by
  unfold insG
  rw [List.take_zero]
  rfl
theorem insG_s {c : List UInt8} {k j : Nat} {a d : Nat} (h : j < (syncL c).length) (ha : (syncL c)[j] = (a, d)) : insG c k (j + 1) = if fitB c (patL 3 k) (a + d) = true then insM (k, a, (a + d + 10) % c.length) (insG c k j) else insG c k j := by
  unfold insG
  rw [List.take_succ_eq_append_getElem h, List.filterMap_append, insAll_append, ha]
  unfold oneK
  by_cases hf : fitB c (patL 3 k) (a + d) = true
  · rw [if_pos hf]
    simp [hf, insAll]
  · rw [if_neg hf]
    simp [hf, insAll]
theorem insG_e {c : List UInt8} {k j : Nat} (hk : 1 ≤ k) (hn : ¬ c.length < 10) (h : j = (syncL c).length) : insG c k j = outK 3 c k := by
  obtain ⟨m, rfl⟩ : ∃ m, k = m + 1 := ⟨k - 1, by omega⟩
  have e : outK 3 c (m + 1) = insAll (allK (patL 3) (plen 3) c (m + 1) (sitesF 3 c)) (outK 3 c m) := by
    show (if c.length < plen 3 then outK 3 c m else insAll (allK (patL 3) (plen 3) c (m + 1) (sitesF 3 c)) (outK 3 c m)) = _
    rw [if_neg (show ¬ c.length < plen 3 from hn)]
  rw [e]
  unfold insG sitesF
  rw [h, List.take_length, if_pos rfl]
  unfold allK gSites
  rw [List.filterMap_map]
  rfl
theorem insG_len (c : List UInt8) (k j : Nat) (hk : k ≤ 3) : (insG c k j).length ≤ 4 * c.length := by
  unfold insG
  rw [insAll_len]
  have h1 : (((syncL c).take j).filterMap fun s => oneK (patL 3) 10 c k (s.1, s.1 + s.2)).length ≤ ((syncL c).take j).length := List.length_filterMap_le _ _
  have h1' : ((syncL c).take j).length ≤ (syncL c).length := List.length_take_le' ..
  have h1'' : (syncL c).length ≤ c.length := synK_len c c.length
  have h2 := outK_len 3 c (k - 1)
  have h3 : (k - 1) * c.length ≤ 2 * c.length := Nat.mul_le_mul_right _ (by omega)
  omega
theorem sync_mem {c : List UInt8} {a d : Nat} (h : (a, d) ∈ syncL c) : a < c.length ∧ d ≤ c.length := by
  unfold syncL at h
  obtain ⟨x, hx, e⟩ := List.mem_filterMap.1 h
  have hx := List.mem_range.1 hx
  unfold syncAt at e
  split at e
  · cases e
    exact ⟨hx, ones_le c c.length a⟩
  · cases e

set_option maxRecDepth 100000 in
set_option maxHeartbeats 8000000 in
theorem l07Marks_G (s : ByteArray) (w : World) (hs : s.size ≤ 8000) (h0 : 0 < s.size) :
    Calls Tryz.prog 32 #[.string s, .int .i64 3] w fun e w' => ∃ b l q, e = .returned (.slice (some ⟨b, 0, none⟩) l q) ∧ l = (marksS 3 (bl s)).length ∧ w'.ownsRow w.heap.size 49 3 (.slice (some ⟨b, 0, none⟩) l q) l (flat fM (marksS 3 (bl s))) ∧ Below w.heap.size w w' := by
  have hn := blen s
  have sy := fun W => l07Syncs_any s W hs h0
  have hmk := fun (k : Nat) (W : World) (hk : k = 1 ∨ k = 2 ∨ k = 3) => l07Mark_any 3 k W (by omega) hk
  obtain ⟨R, hR⟩ : ∃ R, marksS 3 (bl s) = R := ⟨_, rfl⟩
  rw [hR]
  have HR := Lib.hid (show outK 3 (bl s) 3 = R by rw [outK_3 3 (bl s) (by omega)]; exact hR)
  clear hR
  obtain ⟨L, hL⟩ : ∃ L, syncL (bl s) = L := ⟨_, rfl⟩
  rw [hL] at sy
  have HLP := Lib.hid hL
  have hLn : L.length ≤ 8000 := by rw [← hL]; have h : (syncL (bl s)).length ≤ (bl s).length := synK_len (bl s) (bl s).length; omega
  clear hL
  go_enter Tryz.func32, Tryz.ntmps32
  go_upto_region 3 with fail
  have O0 := World.ownsRow_lit (base := w.heap.size) (e := 49) (size := 3) w #[] 0 (Nat.le_refl _) (by simp) (by simp)
  have hB0 : BB w (w.alloc (.cells #[] 49)) := BB.al (BB.start w) _
  generalize (w.alloc (.cells #[] 49)) = w1 at O0 hB0 ⊢
  go_wp2_with (go_at_call 41; (with_reducible refine (sy _).mono ?_); rintro e w2 ⟨v2, rfl, OS, hx2⟩; obtain ⟨PA, pq, rfl⟩ := own_form OS; have O2 := own_later O0 hx2 (Nat.le_refl _); have hB2 : BB w w2 := BB.next hB0 hx2; have OS2 := own_base OS (Below.size hB0))
  clear sy OS hx2 O0 hB0
  go_loopw [6, 8] (fun v i wr => ∃ (k : Nat) (l : List MK) (b q : Nat), i = .int .i64 (k : Int) ∧ 1 ≤ k ∧ k ≤ 4 ∧ v = .slice (some ⟨b, 0, none⟩) l.length q ∧ OO wr w.heap.size 49 3 (.slice (some ⟨b, 0, none⟩) l.length q) l.length (flat fM l) ∧ OO wr w.heap.size 70 2 (.slice PA L.length pq) L.length (flat fR L) ∧ BB w wr ∧ Hid (l = outK 3 (bl s) (k - 1))) (fun _ i _ => 4 - (intOf i).toNat)
  case atStart => exact ⟨1, [], _, _, rfl, by omega, by omega, rfl, O2, OS2, hB2, Lib.hid rfl⟩
  case round =>
    obtain ⟨k, l, b, q, rfl, hk1, hk4, rfl, O, OL, hB, HL⟩ := hrel
    clear O2 OS2 hB2
    by_cases hlt : k ≤ 3
    · have hlti : decide ((k : Int) ≤ 3) = true := decide_eq_true (by omega)
      have hk3 : k = 1 ∨ k = 2 ∨ k = 3 := by omega
      have mk := fun W => hmk k W hk3
      have hml : markL 3 k = onesL ++ patL 3 k := by unfold markL; rw [if_pos rfl]
      rw [hml] at mk
      clear hml
      have hPl : (patL 3 k).length = 10 := pat_len 3 k (by omega) hk3
      obtain ⟨x, hx⟩ : ∃ x, str1 (onesL ++ patL 3 k) = x := ⟨_, rfl⟩
      have hxs : x.size = 20 := by rw [← hx, str1_size, List.length_append, hPl]; rfl
      obtain ⟨p, hp⟩ : ∃ p, x.extract 10 20 = p := ⟨_, rfl⟩
      have hpb : bl p = patL 3 k := by
        rw [← hp, ← hx]
        unfold bl str1
        rw [ByteArray.data_extract, Array.toList_extract]
        simp [onesL, hPl]
        exact List.take_of_length_le (by omega)
      have hps : p.size = 10 := by rw [← blen p, hpb, hPl]
      rw [hx] at mk
      have HPB := Lib.hid hpb
      clear hpb hPl hx
      by_cases hbig : s.size < 10
      · have hbi : decide ((s.size : Int) < 10) = true := decide_eq_true (by omega)
        have HN := Lib.hid (show l = outK 3 (bl s) (k + 1 - 1) by rw [Nat.add_sub_cancel, outK_skip hk1 (by rw [hn]; exact hbig), HL.out])
        go_wp2_with (go_at_call 42; (with_reducible refine (mk _).mono ?_); rintro e w5 ⟨rfl, hx5⟩; have O5 : OO w5 _ _ _ _ _ _ := own_later O hx5 (Nat.le_refl _); have OL5 : OO w5 _ _ _ _ _ _ := own_later OL hx5 (Nat.le_refl _); have hB5 : BB w w5 := BB.next hB hx5)
        go_roundw
        case rel => exact ⟨k + 1, l, b, q, by go_num, by omega, by omega, rfl, O5, OL5, hB5, HN⟩
        case measure => simp [intOf]; omega
      · have hbi : decide ((s.size : Int) < 10) = false := decide_eq_false (by omega)
        go_wp2_with (go_at_call 42; (with_reducible refine (mk _).mono ?_); rintro e w5 ⟨rfl, hx5⟩; have O5 : OO w5 _ _ _ _ _ _ := own_later O hx5 (Nat.le_refl _); have OL5 : OO w5 _ _ _ _ _ _ := own_later OL hx5 (Nat.le_refl _); have hB5 : BB w w5 := BB.next hB hx5)
        clear O hB mk OL
        go_loopw [6, 13] (fun v i wx => ∃ (j : Nat) (l : List MK) (b q : Nat), i = .int .i64 (j : Int) ∧ j ≤ L.length ∧ v = .slice (some ⟨b, 0, none⟩) l.length q ∧ OO wx w.heap.size 49 3 (.slice (some ⟨b, 0, none⟩) l.length q) l.length (flat fM l) ∧ OO wx w.heap.size 70 2 (.slice PA L.length pq) L.length (flat fR L) ∧ BB w wx ∧ Hid (l = insG (bl s) k j)) (fun _ i _ => L.length - (intOf i).toNat)
        case atStart => exact ⟨0, l, b, q, rfl, Nat.zero_le _, rfl, O5, OL5, hB5, Lib.hid (by rw [insG_0]; exact HL.out)⟩
        case round =>
          obtain ⟨j, l, b, q, rfl, hj, rfl, O, OL, hB, HI⟩ := hrel
          clear O5 OL5 hB5
          by_cases hlt2 : j < L.length
          · have hlti2 : decide ((j : Int) < (L.length : Int)) = true := decide_eq_true (by omega)
            obtain ⟨pb, cap, hbe, hp0, hpl⟩ := World.ownsRow.form OL (by omega)
            cases hbe
            obtain ⟨pb', off', he, _, hc⟩ := (Rd.of_own (OOf OL)).at_ fR_len rfl j hlt2
            cases he
            have hca := hc 0 _ (by omega) rfl
            have hcd := hc 1 _ (by omega) rfl
            clear hc
            obtain ⟨⟨a, d⟩, ha⟩ : ∃ x, L[j] = x := ⟨_, rfl⟩
            have hmem : (a, d) ∈ syncL (bl s) := by rw [HLP.out, ← ha]; exact List.getElem_mem hlt2
            obtain ⟨han, hdn⟩ := sync_mem hmem
            rw [hn] at han hdn
            rw [ha] at hca hcd
            dsimp only at hca hcd
            simp only [Nat.add_zero, Nat.zero_add] at hca hcd
            have hcap := own_capT (OOf O)
            have hll : l.length ≤ 100000 := by rw [HI.out]; have := insG_len (bl s) k j (by omega); rw [hn] at this; omega
            have hw0 : IntKind.i64.wrap ((a : Int) + (d : Int)) = (a : Int) + (d : Int) := IntWalk.i64_in _ (by omega)
            have hw1 : IntKind.i64.wrap ((a : Int) + (d : Int) + 10) = (a : Int) + (d : Int) + 10 := IntWalk.i64_in _ (by omega)
            obtain ⟨r, hrr⟩ : ∃ r, (a + d + 10) % s.size = r := ⟨_, rfl⟩
            have hrl : r < s.size := by rw [← hrr]; exact Nat.mod_lt _ h0
            have hrm : ((a : Int) + (d : Int) + 10).tmod (s.size : Int) = (r : Int) := by
              rw [show (a : Int) + (d : Int) + 10 = ((a + d + 10 : Nat) : Int) by omega, rem_nat, hrr]
            have hwr : IntKind.i64.wrap (r : Int) = (r : Int) := IntWalk.i64_in _ (by omega)
            have hnz : ¬ (s.size : Int) = 0 := by omega
            have hne : ¬ s = ByteArray.empty := fun e => by rw [e] at h0; exact absurd h0 (by decide)
            have hnz2 : ((s.size : Int) == 0) = false := by rw [beq_eq_false_iff_ne]; omega
            have ft := fun W => l07Fits_any s p (a + d) W (by omega) h0 (by omega) (by omega)
            rw [HPB.out] at ft
            rw [Int.natCast_add] at ft
            have hst := insG_s (c := bl s) (k := k) (j := j) (a := a) (d := d) (by rw [HLP.out]; exact hlt2) (by simp only [HLP.out]; exact ha)
            rw [hn, hrr, ← HI.out] at hst
            have HST := Lib.hid hst
            clear ha hrr hst hmem
            cases hfit : fitB (bl s) (patL 3 k) (a + d)
            · have HN := Lib.hid (show l = insG (bl s) k (j + 1) by rw [HST.out, if_neg (by rw [hfit]; decide)])
              rw [hfit] at ft
              clear hfit
              go_wp2_with fail
              go_quiet (fail)
              generalize nq = n1
              go_wp2_with (go_at_call 45; (with_reducible refine (ft _).mono ?_); rintro e w5 ⟨rfl, n5, rfl⟩)
              go_roundw
              case rel => exact ⟨j + 1, l, b, q, by go_num, hlt2, rfl, OO.dn O _, OO.dn OL _, BB.dn hB _, HN⟩
              case measure => simp [intOf]; omega
            · have HN := Lib.hid (show insM (k, a, r) l = insG (bl s) k (j + 1) by rw [HST.out, if_pos hfit])
              rw [hfit] at ft
              clear hfit
              go_wp2_with fail
              go_quiet (fail)
              generalize nq = n1
              go_upto_region 23 with (go_at_call 45; (with_reducible refine (ft _).mono ?_); rintro e w5 ⟨rfl, n5, rfl⟩)
              have O1 := OO.dn O (n1 + n5)
              have OL1 := OO.dn OL (n1 + n5)
              have hB1 : BB w (wr.drewN (n1 + n5)) := BB.dn hB _
              have hca1 : (wr.drewN (n1 + n5)).cell? ⟨pb, j * 2, none⟩ = some (.int .i64 (a : Int)) := hca
              have hpl1 : pb < (wr.drewN (n1 + n5)).heap.size := hpl
              clear O OL hB hca hpl
              generalize wr.drewN (n1 + n5) = wy at O1 OL1 hB1 hca1 hpl1 ⊢
              have O := O1
              have OL := OL1
              have hB := hB1
              have hca := hca1
              have hpl : pb < wy.drew.heap.size := hpl1
              clear O1 OL1 hB1 hca1 hpl1
              refine wp_region_held_drew (S := (fun W => W.cell? ⟨pb, j * 2, none⟩ = some (.int .i64 (a : Int)))) (by kernel_rfl) ?hS1 (fun hHeld => ?rest2)
              case hS1 => (exact hca)
              refine wpAnyH_take (i := 0) (oi := _) (v := ?v3) rfl (by kernel_rfl) (by kernel_rfl) (by kernel_rfl) (fun _ _ _ h => h) (Or.inl ⟨by rfl, ?hy4⟩) hHeld ?rest5
              case hy4 => (intro w hSw; (try dsimp only at hSw); go_simp; (try with_reducible rfl))
              try simp only [Act.put, List.setIfInBounds_toArray, List.set_cons_zero, List.set_cons_succ]
              refine wpAnyH_take (i := 1) (oi := _) (v := ?v6) rfl (by kernel_rfl) (by kernel_rfl) (by kernel_rfl) (fun _ _ _ h => h) (Or.inl ⟨by rfl, ?hy7⟩) hHeld ?rest8
              case hy7 => (intro w hSw; (try dsimp only at hSw); go_simp; (try with_reducible rfl))
              try simp only [Act.put, List.setIfInBounds_toArray, List.set_cons_zero, List.set_cons_succ]
              refine wpAnyH_take (i := 2) (oi := _) (v := ?v9) rfl (by kernel_rfl) (by kernel_rfl) (by kernel_rfl) (fun _ _ _ h => h) (Or.inl ⟨by rfl, ?hy10⟩) hHeld ?rest11
              case hy10 => (intro w hSw; (try dsimp only at hSw); go_simp; (try with_reducible rfl))
              try simp only [Act.put, List.setIfInBounds_toArray, List.set_cons_zero, List.set_cons_succ]
              refine wpAnyH_take (i := 3) (oi := _) (v := ?v12) rfl (by kernel_rfl) (by kernel_rfl) (by kernel_rfl) (fun _ _ _ h => h) (Or.inl ⟨by rfl, ?hy13⟩) hHeld ?rest14
              case hy13 => (intro w hSw; (try dsimp only at hSw); go_simp; (try with_reducible rfl))
              try simp only [Act.put, List.setIfInBounds_toArray, List.set_cons_zero, List.set_cons_succ]
              refine wpAnyH_take (i := 4) (oi := _) (v := ?v15) rfl (by kernel_rfl) (by kernel_rfl) (by kernel_rfl) (fun _ _ _ h => h) (Or.inl ⟨by rfl, ?hy16⟩) hHeld ?rest17
              case hy16 => (intro w hSw; (try dsimp only at hSw); go_simp; (try with_reducible rfl))
              try simp only [Act.put, List.setIfInBounds_toArray, List.set_cons_zero, List.set_cons_succ]
              refine wpAnyH_take (i := 5) (oi := _) (v := ?v18) rfl (by kernel_rfl) (by kernel_rfl) (by kernel_rfl) (fun _ _ _ h => h) (Or.inl ⟨by rfl, ?hy19⟩) hHeld ?rest20
              case hy19 => (intro w hSw; (try dsimp only at hSw); go_simp; (try with_reducible rfl))
              try simp only [Act.put, List.setIfInBounds_toArray, List.set_cons_zero, List.set_cons_succ]
              refine wpAnyH_take (i := 6) (oi := _) (v := ?v21) rfl (by kernel_rfl) (by kernel_rfl) (by kernel_rfl) (fun _ _ _ h => h) (Or.inl ⟨by rfl, ?hy22⟩) hHeld ?rest23
              case hy22 => (intro w hSw; (try dsimp only at hSw); go_simp; (try with_reducible rfl))
              try simp only [Act.put, List.setIfInBounds_toArray, List.set_cons_zero, List.set_cons_succ]
              refine wpAnyH_take (i := 7) (oi := _) (v := ?v24) rfl (by kernel_rfl) (by kernel_rfl) (by kernel_rfl) (fun _ _ _ h => h) (Or.inl ⟨by rfl, ?hy25⟩) hHeld ?rest26
              case hy25 => (intro w hSw; (try dsimp only at hSw); go_simp; (try with_reducible rfl))
              try simp only [Act.put, List.setIfInBounds_toArray, List.set_cons_zero, List.set_cons_succ]
              refine wpAnyH_take (i := 8) (oi := _) (v := ?v27) rfl (by kernel_rfl) (by kernel_rfl) (by kernel_rfl) (fun _ _ _ h => h) (Or.inl ⟨by rfl, ?hy28⟩) hHeld ?rest29
              case hy28 => (intro w hSw; (try dsimp only at hSw); go_simp; (try with_reducible rfl))
              try simp only [Act.put, List.setIfInBounds_toArray, List.set_cons_zero, List.set_cons_succ]
              refine wpAnyH_take (i := 9) (oi := _) (v := ?v30) rfl (by kernel_rfl) (by kernel_rfl) (by kernel_rfl) (fun _ _ _ h => h) (Or.inl ⟨by rfl, ?hy31⟩) hHeld ?rest32
              case hy31 => (intro w hSw; (try dsimp only at hSw); go_simp; (try with_reducible rfl))
              try simp only [Act.put, List.setIfInBounds_toArray, List.set_cons_zero, List.set_cons_succ]
              refine wpAnyH_take (i := 10) (oi := _) (v := ?v33) rfl (by kernel_rfl) (by kernel_rfl) (by kernel_rfl) (fun _ _ _ h => h) (Or.inl ⟨by rfl, ?hy34⟩) hHeld ?rest35
              case hy34 => (intro w hSw; (try dsimp only at hSw); go_simp; (try with_reducible rfl))
              try simp only [Act.put, List.setIfInBounds_toArray, List.set_cons_zero, List.set_cons_succ]
              refine wpAnyH_take (i := 11) (oi := _) (v := ?v36) rfl (by kernel_rfl) (by kernel_rfl) (by kernel_rfl) (fun _ _ _ h => h) (Or.inl ⟨by rfl, ?hy37⟩) hHeld ?rest38
              case hy37 => (intro w hSw; (try dsimp only at hSw); go_simp; (try with_reducible rfl))
              try simp only [Act.put, List.setIfInBounds_toArray, List.set_cons_zero, List.set_cons_succ]
              refine wpAnyH_take (i := 12) (oi := _) (v := ?v39) rfl (by kernel_rfl) (by kernel_rfl) (by kernel_rfl) (fun _ _ _ h => h) (Or.inl ⟨by rfl, ?hy40⟩) hHeld ?rest41
              case hy40 => (intro w hSw; (try dsimp only at hSw); go_simp; (try with_reducible rfl))
              try simp only [Act.put, List.setIfInBounds_toArray, List.set_cons_zero, List.set_cons_succ]
              refine wpAnyH_ready (rs := [13]) (by kernel_rfl) (by simp) ?_
              refine AllReadyH.cons (o := _) rfl (fun K hK => ?stp46) ?more47
              case stp46 =>
                go_simp
                refine (l07Put_any l (k, a, r) b q _ (Rd.of_own (OO.dr O)) hll hcap).mono ?_
                rintro e w5 ⟨v5, rfl, O5, hx5⟩
                have OL5 : OO w5 _ _ _ _ _ _ := own_later (OO.dr OL) hx5 (Nat.le_refl _)
                have hB5 : BB w w5 := BB.next (BB.dr hB) hx5
                have c5 : w5.cell? ⟨pb, j * 2, none⟩ = some (.int .i64 (a : Int)) := (Below.cell hx5 (p := ⟨pb, j * 2, none⟩) hpl).trans hca
                have hiz : 0 < (insM (k, a, r) l).length := (by rw [insM_len]; omega)
                obtain ⟨b5, c5x, he5, _, _⟩ := World.ownsRow.form O5 hiz
                subst he5
                (try go_wp2_with fail)
                refine hK.out _ _ ?hS48 (fun hHeld2 => ?rest49)
                case hS48 => (exact c5)
                clear hK K hHeld
                have hHeld := hHeld2
                clear hHeld2
                try simp only [Act.put, List.setIfInBounds_toArray, List.set_cons_zero, List.set_cons_succ]
                refine wpAnyH_ready (rs := [14]) (by kernel_rfl) (by simp) ?_
                refine AllReadyH.cons (o := _) rfl (fun K hK => ?stp42) ?more43
                case stp42 =>
                  go_simp
                  refine hK.out _ _ ?hS44 (fun hHeld2 => ?rest45)
                  case hS44 => (exact hHeld)
                  clear hK K hHeld
                  have hHeld := hHeld2
                  clear hHeld2
                  try simp only [Act.put, List.setIfInBounds_toArray, List.set_cons_zero, List.set_cons_succ]
                  refine wpAnyH_done (by kernel_rfl) ?_ _
                  go_wp2_with fail
                  go_roundw
                  case rel => exact ⟨j + 1, insM (k, a, r) l, b5, c5x, by go_num, hlt2, rfl, own_base O5 (Below.size (BB.dr hB)), OL5, hB5, HN⟩
                  case measure => simp [intOf]; omega
                exact AllReadyH.nil
              exact AllReadyH.nil
          · have hlti2 : decide ((j : Int) < (L.length : Int)) = false := decide_eq_false (by omega)
            have HN := Lib.hid (show l = outK 3 (bl s) (k + 1 - 1) by
              rw [Nat.add_sub_cancel, HI.out, insG_e hk1 (by rw [hn]; exact hbig)]
              rw [HLP.out]
              omega)
            go_wp2_with fail
            go_roundw
            case rel => exact ⟨k + 1, l, b, q, by go_num, by omega, by omega, rfl, O, OL, hB, HN⟩
            case measure => simp [intOf]; omega
    · have hlti : decide ((k : Int) ≤ 3) = false := decide_eq_false (by omega)
      obtain rfl : k = 4 := by omega
      have HL2 := Lib.hid (show l = R from HL.out.trans HR.out)
      go_wp2_with fail
      go_ret
      exact ⟨b, l.length, q, rfl, by rw [HL2.out], by rw [← HL2.out]; exact OOf O, hB⟩
end Go.Proofs.YtlfmpgfobkmgfaaGreatDoor
namespace Go.Proofs.YtlfmpgfobkmgfaaGreatDoor
open Go.RowKit
set_option linter.unusedVariables false
set_option linter.unusedSimpArgs false

theorem l07Format_any (f : Int) (w : World) : Calls Tryz.prog 31 #[.int .i64 f] w fun e w' => e = .returned (.bool (inB f 1 3)) ∧ w = w' := by
  have h := fun W => l00In_any f 1 3 W
  go_enter Tryz.func31, Tryz.ntmps31
  go_wp2_with (go_at_call 11; refine (h _).mono ?_; rintro e w9 ⟨rfl, rfl⟩)
  go_ret
  exact ⟨rfl, rfl⟩
theorem l07Marks_any (f : Int) (s : ByteArray) (w : World) (hs : s.size ≤ 8000) (h0 : 0 < s.size) (hf : f = 1 ∨ f = 2 ∨ f = 3) :
    Calls Tryz.prog 32 #[.string s, .int .i64 f] w fun e w' => ∃ b l q, e = .returned (.slice (some ⟨b, 0, none⟩) l q) ∧ l = (marksS f (bl s)).length ∧ w'.ownsRow w.heap.size 49 3 (.slice (some ⟨b, 0, none⟩) l q) l (flat fM (marksS f (bl s))) ∧ Below w.heap.size w w' := by
  rcases hf with rfl | rfl | rfl
  · exact l07Marks_F 1 s w hs h0 (.inl rfl)
  · exact l07Marks_F 2 s w hs h0 (.inr rfl)
  · exact l07Marks_G s w hs h0
/-- The marks of a track and the code. -/
def fmS (f : Int) (s : ByteArray) : List MK × Int := if cellsB s = true ∧ inB f 1 3 = true then (if 64 < (marksS f (bl s)).length then ([], 5) else (marksS f (bl s), 0)) else ([], 1)
theorem cells_n {s : ByteArray} (h : cellsB s = true) : 0 < s.size ∧ s.size ≤ 8000 := by
  unfold cellsB at h
  simp only [Bool.and_eq_true, decide_eq_true_eq] at h
  exact ⟨by omega, h.2.1⟩
theorem in13 {f : Int} (h : inB f 1 3 = true) : f = 1 ∨ f = 2 ∨ f = 3 := by
  unfold inB at h
  simp only [Bool.and_eq_true, decide_eq_true_eq] at h
  omega
set_option maxHeartbeats 1000000 in
theorem spec_FindMarks_any (f : Int) (s : ByteArray) (w : World) (hs : s.size ≤ 1048576) :
    Calls Tryz.prog 20 #[.string s, .int .i64 f] w fun e w' => ∃ A q, e = .returned (.tuple #[.slice A (fmS f s).1.length q, .int .i64 (fmS f s).2]) ∧ OO w' w.heap.size 49 3 (.slice A (fmS f s).1.length q) (fmS f s).1.length (flat fM (fmS f s).1) ∧ Below w.heap.size w w' := by
  have hv := fun W => spec_ValidCells_any s W hs
  have hfm := fun W => l07Format_any f W
  obtain ⟨R, hR⟩ : ∃ R, fmS f s = R := ⟨_, rfl⟩
  rw [hR]
  have HR := Lib.hid hR
  clear hR
  cases hc : cellsB s
  · have HN := Lib.hid (show (([], 1) : List MK × Int) = R by rw [← HR.out]; unfold fmS; rw [hc, if_neg (by simp)])
    rw [hc] at hv
    go_enter Tryz.func20, Tryz.ntmps20
    go_wp2_with (go_at_call 23; refine (hv _).mono ?_; rintro e w9 ⟨rfl, rfl⟩)
    go_ret2
    rw [← HN.out]
    exact ⟨none, 0, rfl, World.ownsRow_nil _ _ _ _, BB.start _⟩
  · obtain ⟨h0, h8⟩ := cells_n hc
    have HC := Lib.hid hc
    rw [hc] at hv
    clear hc
    cases hf : inB f 1 3
    · have HN := Lib.hid (show (([], 1) : List MK × Int) = R by rw [← HR.out]; unfold fmS; rw [hf, if_neg (by simp)])
      rw [hf] at hfm
      go_enter Tryz.func20, Tryz.ntmps20
      go_wp2_with (first | (go_at_call 23; refine (hv _).mono ?_; rintro e w9 ⟨rfl, rfl⟩) | (go_at_call 31; refine (hfm _).mono ?_; rintro e w9 ⟨rfl, rfl⟩))
      go_ret2
      rw [← HN.out]
      exact ⟨none, 0, rfl, World.ownsRow_nil _ _ _ _, BB.start _⟩
    · have hm := fun W => l07Marks_any f s W h8 h0 (in13 hf)
      have HR2 := Lib.hid (show (if 64 < (marksS f (bl s)).length then ([], 5) else (marksS f (bl s), 0)) = R by rw [← HR.out]; exact (if_pos ⟨HC.out, hf⟩).symm)
      rw [hf] at hfm
      clear hf
      obtain ⟨L, hL⟩ : ∃ L, marksS f (bl s) = L := ⟨_, rfl⟩
      rw [hL] at hm HR2
      clear hL
      by_cases h64 : 64 < L.length
      · have HN := Lib.hid (show (([], 5) : List MK × Int) = R by rw [← HR2.out, if_pos h64])
        go_enter Tryz.func20, Tryz.ntmps20
        go_wp2_with (first | (go_at_call 23; refine (hv _).mono ?_; rintro e w9 ⟨rfl, rfl⟩) | (go_at_call 31; refine (hfm _).mono ?_; rintro e w9 ⟨rfl, rfl⟩) | (go_at_call 32; (with_reducible refine (hm _).mono ?_); rintro e w2 ⟨b, l, q, rfl, rfl, O2, hx2⟩))
        go_ret2
        rw [← HN.out]
        exact ⟨none, 0, rfl, World.ownsRow_nil _ _ _ _, hx2⟩
      · have HN := Lib.hid (show ((L, 0) : List MK × Int) = R by rw [← HR2.out, if_neg h64])
        go_enter Tryz.func20, Tryz.ntmps20
        go_wp2_with (first | (go_at_call 23; refine (hv _).mono ?_; rintro e w9 ⟨rfl, rfl⟩) | (go_at_call 31; refine (hfm _).mono ?_; rintro e w9 ⟨rfl, rfl⟩) | (go_at_call 32; (with_reducible refine (hm _).mono ?_); rintro e w2 ⟨b, l, q, rfl, rfl, O2, hx2⟩))
        go_ret2
        rw [← HN.out]
        exact ⟨_, q, rfl, O2, hx2⟩

theorem cir_s (c : List UInt8) (a n : Nat) : cir c a (n + 1) = cir c a n ++ [cw c (a + n)] := by
  unfold cir
  rw [List.range_succ, List.map_append]
  rfl
set_option maxRecDepth 100000 in
set_option maxHeartbeats 1000000 in
theorem l07Slice_any (s : ByteArray) (a n : Nat) (w : World) (hs : s.size ≤ 8000) (h0 : 0 < s.size) (ha : a ≤ 100000) (hn : n ≤ 100000) :
    Calls Tryz.prog 69 #[.string s, .int .i64 (a : Int), .int .i64 (n : Int)] w fun e w' => e = .returned (.string (str1 (cir (bl s) a n))) ∧ Below w.heap.size w w' := by
  have hat := fun (k : Nat) (W : World) (hk : k ≤ 100000000) => l07At_any s k W (by omega) h0 hk
  go_enter Tryz.func69, Tryz.ntmps69
  go_wp2
  have O0 := OwnB.lit (e := 5) (base := w.heap.size) w [] #[] rfl (Nat.le_refl _) (by simp)
  have hB0 : BB w (w.alloc (.cells #[] 5)) := BB.al (BB.start w) _
  generalize (w.alloc (.cells #[] 5)) = w1 at O0 hB0 ⊢
  go_loopw [7, 8] (fun v i wr => ∃ (k : Nat) (l : List UInt8), i = .int .i64 (k : Int) ∧ k ≤ n ∧ l.length = k ∧ OwnB wr w.heap.size 5 v l ∧ BB w wr ∧ Hid (l = cir (bl s) a k)) (fun _ i _ => n - (intOf i).toNat)
  case atStart => exact ⟨0, [], rfl, Nat.zero_le _, rfl, O0, hB0, Lib.hid rfl⟩
  case round =>
    obtain ⟨k, l, rfl, hk, hl, O, hB, HL⟩ := hrel
    clear O0 hB0
    obtain ⟨A2, c2, rfl⟩ := O.form
    by_cases hlt : k < n
    · have hlti : decide ((k : Int) < (n : Int)) = true := decide_eq_true (by omega)
      have hw1 : IntKind.i64.wrap ((a : Int) + (k : Int)) = (a : Int) + (k : Int) := IntWalk.i64_in _ (by omega)
      have at1 := fun W => hat (a + k) W (by omega)
      rw [Int.natCast_add] at at1
      have HN := Lib.hid (show l ++ [cw (bl s) (a + k)] = cir (bl s) a (k + 1) by rw [cir_s, HL.out])
      have hbs := Below.size hB
      obtain ⟨y, hy⟩ : ∃ y, cw (bl s) (a + k) = y := ⟨_, rfl⟩
      rw [hy] at at1 HN
      have HLL := Lib.hid hl
      have hll : l.length ≤ 100000 := by omega
      clear hy hl
      go_wp2_with (first
        | (go_at_call 61; (with_reducible refine (at1 _).mono ?_); rintro e w5 ⟨rfl, rfl⟩)
        | (at_builtin; go_must (refine wpList_appL (by rfl) (.tmp 15) (.tmp 21) 85 (by rfl) eltB _ l (by rfl) O _ _ [y] 1 1 (by rfl) (byte_lit _) (by rfl) (by simp; omega) hbs ?_); intro v' w' hown' hg' hat' hbl'))
      have hl1 : (l ++ [y]).length = k + 1 := by rw [List.length_append, HLL.out]; rfl
      go_roundw
      case rel => exact ⟨k + 1, l ++ [y], by go_num, hlt, hl1, hown', Below.trans hB hbl', HN⟩
      case measure => simp [intOf]; omega
    · have hlti : decide ((k : Int) < (n : Int)) = false := decide_eq_false (by omega)
      obtain rfl : k = n := by omega
      clear hl
      have hcv0 := run_b2s (P := Tryz.prog) (dst := 9) Tryz.underlying85 Tryz.underlying5 Tryz.underlying9 O
      go_wp2
      go_ret
      exact ⟨by rw [← HL.out]; rfl, hB⟩

theorem getD_b (s : ByteArray) (k : Nat) (h : k < s.size) : s[k] = (bl s).getD k 0 := by
  rw [List.getD_eq_getElem?_getD, List.getElem?_eq_getElem (by rw [blen]; exact h), Option.getD_some, bl_get s k h]
set_option maxHeartbeats 400000 in
theorem l01Get_k (s : ByteArray) (k : Nat) (w : World) (hs : s.size ≤ 1048576) (hk : k + 1 < s.size) :
    Calls Tryz.prog 94 #[.string s, .int .i64 (k : Int)] w fun e w' => e = .returned (.int .i64 ((wdL (bl s) k : Nat) : Int)) ∧ ∃ n, w' = w.drewN n := by
  have e0 := getD_b s k (by omega)
  have e1 := getD_b s (k + 1) hk
  have b0 := ((bl s).getD k 0).toNat_lt
  have b1 := ((bl s).getD (k + 1) 0).toNat_lt
  have hw : ((wdL (bl s) k : Nat) : Int) = (((bl s).getD k 0).toNat : Int) * 256 + (((bl s).getD (k + 1) 0).toNat : Int) := by unfold wdL; omega
  have HW := Lib.hid hw
  clear hw
  obtain ⟨x, hx⟩ : ∃ x, (bl s).getD k 0 = x := ⟨_, rfl⟩
  obtain ⟨y, hy⟩ : ∃ y, (bl s).getD (k + 1) 0 = y := ⟨_, rfl⟩
  rw [hx] at e0 b0 HW
  rw [hy] at e1 b1 HW
  clear hx hy
  go_enter Tryz.func94, Tryz.ntmps94
  go_wp2_with fail
  go_quiet (fail)
  go_wp2
  go_ret
  exact ⟨ret_int (by rw [HW.out]), _, rfl⟩
set_option maxHeartbeats 400000 in
theorem spec_GetWord_any (s : ByteArray) (k : Nat) (w : World) (hs : s.size ≤ 1048576) (hk : k + 1 < s.size) :
    Calls Tryz.prog 70 #[.string s, .int .i64 (k : Int)] w fun e w' => e = .returned (.tuple #[.int .i64 ((wdL (bl s) k : Nat) : Int), .bool true]) ∧ ∃ n, w' = w.drewN n := by
  have hi : inB (k : Int) 0 ((s.size : Int) - 2) = true := by unfold inB; simp; omega
  have hw1 : IntKind.i64.wrap ((s.size : Int) - 2) = (s.size : Int) - 2 := IntWalk.i64_in _ (by omega)
  have hin := fun W => l00In_any (k : Int) 0 ((s.size : Int) - 2) W
  rw [hi] at hin
  have hg := fun W => l01Get_k s k W hs hk
  clear hi
  go_enter Tryz.func70, Tryz.ntmps70
  go_wp2_with (first | (go_at_call 11; refine (hin _).mono ?_; rintro e w9 ⟨rfl, rfl⟩) | (go_at_call 94; refine (hg _).mono ?_; rintro e w9 ⟨rfl, n9, rfl⟩))
  go_ret2
  exact ⟨rfl, _, rfl⟩
set_option maxHeartbeats 400000 in
theorem spec_Crc16_k (s : ByteArray) (w : World) (hs : s.size ≤ 1048576) :
    Calls Tryz.prog 71 #[.string s, .int .i64 65535] w fun e w' => e = .returned (.int .i64 ((crcL (bl s) 65535 : Nat) : Int)) ∧ w = w' := by
  have H := Lib.hid (show inB (65535 : Int) 0 65535 = true by simp [inB])
  have hc := fun W => l01Crc_any s 65535 W hs (by omega)
  go_enter Tryz.func71, Tryz.ntmps71
  go_wp2_with (first | (go_at_call 11; refine (l00In_any _ _ _ _).mono ?_; rintro e w' ⟨rfl, rfl⟩; rw [H.out]) | (go_at_call 95; refine (hc _).mono ?_; rintro e w' ⟨rfl, rfl⟩))
  go_ret
  exact ⟨rfl, rfl⟩
set_option maxHeartbeats 400000 in
theorem l08Prefix_any (f : Int) (k : Nat) (w : World) (hk : k = 1 ∨ k = 2 ∨ k = 3) : Calls Tryz.prog 72 #[.int .i64 f, .int .i64 (k : Int)] w fun e w' => e = .returned (.string (str1 (preL f k))) ∧ Below w.heap.size w w' := by
  have hb := mbN_lt f k hk
  have hby := fun W => l07Byte_any f k W hk
  obtain ⟨R, hR⟩ : ∃ R, preL f k = R := ⟨_, rfl⟩
  rw [hR]
  have HR := Lib.hid hR
  clear hR
  obtain ⟨m, hm⟩ : ∃ m, mbN f k = m := ⟨_, rfl⟩
  have HM := Lib.hid hm
  rw [hm] at hb hby
  clear hm
  have hcv := fun W => run_b1 m hb W
  have hw8 : IntKind.u8.wrap (m : Int) = (m : Int) := IntWalk.u8_in _ (by omega)
  by_cases h2 : f = 2
  · have e2 : (f == 2) = true := by simp [h2]
    have HN := Lib.hid (show (⟨#[161, 161, 161]⟩ : ByteArray) ++ str1 [UInt8.ofNat m] = str1 R by rw [← HR.out]; unfold preL; rw [HM.out, if_pos h2]; exact str_app [161, 161, 161] _)
    clear h2
    go_enter Tryz.func72, Tryz.ntmps72
    go_wp2_with (go_at_call 62; refine (hby _).mono ?_; rintro e w9 ⟨rfl, hx9⟩)
    go_ret
    exact ⟨by rw [← HN.out]; rfl, BB.al hx9 _⟩
  · have e2 : (f == 2) = false := by simp [h2]
    have HN := Lib.hid (show str1 [UInt8.ofNat m] = str1 R by rw [← HR.out]; unfold preL; rw [HM.out, if_neg h2])
    clear h2
    go_enter Tryz.func72, Tryz.ntmps72
    go_wp2_with (go_at_call 62; refine (hby _).mono ?_; rintro e w9 ⟨rfl, hx9⟩)
    go_ret
    exact ⟨by rw [← HN.out]; rfl, BB.al hx9 _⟩
theorem l08Cell_any (f : Int) (w : World) : Calls Tryz.prog 67 #[.int .i64 f] w fun e w' => e = .returned (.int .i64 (cpb f : Int)) ∧ w = w' := by
  by_cases h2 : f = 3
  · have e2 : (f == 3) = true := by simp [h2]
    have HN := Lib.hid (show cpb f = 10 by unfold cpb; rw [if_pos h2])
    go_enter Tryz.func67, Tryz.ntmps67
    go_wp2
    go_ret
    exact ⟨by rw [HN.out]; rfl, rfl⟩
  · have e2 : (f == 3) = false := by simp [h2]
    have HN := Lib.hid (show cpb f = 16 by unfold cpb; rw [if_neg h2])
    clear h2
    go_enter Tryz.func67, Tryz.ntmps67
    go_wp2
    go_ret
    exact ⟨by rw [HN.out]; rfl, rfl⟩
set_option maxHeartbeats 400000 in
theorem CellsBetween_any (n a b : Nat) (w : World) (hn : 0 < n) (hn8 : n ≤ 8000) (ha : a < n) (hb : b < n) : Calls Tryz.prog 73 #[.int .i64 (n : Int), .int .i64 (a : Int), .int .i64 (b : Int)] w fun e w' => e = .returned (.int .i64 (((b + n - a) % n : Nat) : Int)) ∧ w = w' := by
  have i1 := fun W => l00In_any (n : Int) 1 8000 W
  rw [show inB (n : Int) 1 8000 = true by unfold inB; simp; omega] at i1
  have i2 := fun W => l00In_any (a : Int) 0 ((n : Int) - 1) W
  rw [show inB (a : Int) 0 ((n : Int) - 1) = true by unfold inB; simp; omega] at i2
  have i3 := fun W => l00In_any (b : Int) 0 ((n : Int) - 1) W
  rw [show inB (b : Int) 0 ((n : Int) - 1) = true by unfold inB; simp; omega] at i3
  have hw0 : IntKind.i64.wrap ((n : Int) - 1) = (n : Int) - 1 := IntWalk.i64_in _ (by omega)
  have hw1 : IntKind.i64.wrap ((b : Int) - (a : Int)) = (b : Int) - (a : Int) := IntWalk.i64_in _ (by omega)
  have hw2 : IntKind.i64.wrap ((b : Int) - (a : Int) + (n : Int)) = (b : Int) - (a : Int) + (n : Int) := IntWalk.i64_in _ (by omega)
  obtain ⟨r, hr⟩ : ∃ r, (b + n - a) % n = r := ⟨_, rfl⟩
  have hrl : r < n := by rw [← hr]; exact Nat.mod_lt _ hn
  have hrm : ((b : Int) - (a : Int) + (n : Int)).tmod (n : Int) = (r : Int) := by
    rw [show (b : Int) - (a : Int) + (n : Int) = ((b + n - a : Nat) : Int) by omega, rem_nat, hr]
  have hwr : IntKind.i64.wrap (r : Int) = (r : Int) := IntWalk.i64_in _ (by omega)
  have hnz : ¬ (n : Int) = 0 := by omega
  have hnn : ¬ n = 0 := by omega
  have hnz2 : ((n : Int) == 0) = false := by rw [beq_eq_false_iff_ne]; omega
  rw [hr]
  clear hr
  go_enter Tryz.func73, Tryz.ntmps73
  go_wp2_with (first
    | (go_at_call 11; with_reducible (first | refine (i1 _).mono ?_ | refine (i2 _).mono ?_ | refine (i3 _).mono ?_); rintro e w9 ⟨rfl, rfl⟩))
  go_ret
  exact ⟨rfl, rfl⟩
theorem l11Track_any (a b : Int) (w : World) : Calls Tryz.prog 10 #[.int .i64 a, .int .i64 b] w fun e w' => e = .returned (.bool (inB a 0 255 && inB b 0 255)) ∧ w = w' := by
  have i1 := fun W => l00In_any a 0 255 W
  have i2 := fun W => l00In_any b 0 255 W
  cases h : inB a 0 255
  · rw [h] at i1
    go_enter Tryz.func10, Tryz.ntmps10
    go_wp2_with (go_at_call 11; with_reducible refine (i1 _).mono ?_; rintro e w9 ⟨rfl, rfl⟩)
    go_ret
    exact ⟨rfl, rfl⟩
  · rw [h] at i1
    cases h2 : inB b 0 255
    all_goals
      rw [h2] at i2
      go_enter Tryz.func10, Tryz.ntmps10
      go_wp2_with (go_at_call 11; with_reducible (first | refine (i1 _).mono ?_ | refine (i2 _).mono ?_); rintro e w9 ⟨rfl, rfl⟩)
      go_ret
      exact ⟨rfl, rfl⟩
end Go.Proofs.YtlfmpgfobkmgfaaGreatDoor
namespace Go.Proofs.YtlfmpgfobkmgfaaGreatDoor
open Go.RowKit
set_option linter.unusedVariables false
set_option linter.unusedSimpArgs false

/-- All cells are 0 or 1. -/
def bitsB (l : List UInt8) : Prop := ∀ x ∈ l, x = 48 ∨ x = 49
theorem bits_get {l : List UInt8} (h : bitsB l) {k : Nat} (hk : k < l.length) : l[k] = 48 ∨ l[k] = 49 := h _ (List.getElem_mem hk)
theorem shl_or (x b : Nat) (hx : x < 128) (hb : b < 2) : bits .or .u8 ((x : Int) * 2) (b : Int) = ((x * 2 + b : Nat) : Int) := by
  have key : ∀ x : Fin 128, ∀ b : Fin 2, bits .or .u8 ((x.val : Int) * 2) (b.val : Int) = ((x.val * 2 + b.val : Nat) : Int) := by decide +kernel
  exact key ⟨x, hx⟩ ⟨b, hb⟩

set_option maxRecDepth 100000 in
set_option maxHeartbeats 4000000 in
theorem BytesOf_any (s : ByteArray) (m : Nat) (w : World) (hm : m ≤ 4096) (hs : s.size = 8 * m) (hb : bitsB (bl s)) :
    Calls Tryz.prog 93 #[.string s] w fun e w' => e = .returned (.tuple #[.string (str1 (bytesL (bl s) m)), .bool true]) ∧ Below w.heap.size w w' := by
  have hrm : (s.size : Int).tmod 8 = 0 := by rw [hs, show (8 : Int) = ((8 : Nat) : Int) from rfl, rem_nat, Nat.mul_mod_right]; rfl
  obtain ⟨R, hR⟩ : ∃ R, bytesL (bl s) m = R := ⟨_, rfl⟩
  rw [hR]
  have HR := Lib.hid hR
  clear hR
  have HS := Lib.hid hs
  have hsl : s.size ≤ 32768 := by omega
  clear hs
  have hsl2 : decide ((32768 : Int) < (s.size : Int)) = false := decide_eq_false (by omega)
  have hsl3 : (s.size : Int) ≤ 32768 := by omega
  go_enter Tryz.func93, Tryz.ntmps93
  go_wp2
  have O0 := OwnB.lit (e := 5) (base := w.heap.size) w [] #[] rfl (Nat.le_refl _) (by simp)
  have hB0 : BB w (w.alloc (.cells #[] 5)) := BB.al (BB.start w) _
  generalize (w.alloc (.cells #[] 5)) = w1 at O0 hB0 ⊢
  go_loopw [4, 5, 6, 7] (fun v i _ _ wr => ∃ (k q : Nat) (l : List UInt8), i = .int .i64 (q : Int) ∧ q ≤ s.size ∧ Hid (q = 8 * k) ∧ l.length ≤ q ∧ OwnB wr w.heap.size 5 v l ∧ BB w wr ∧ Hid (l = bytesL (bl s) k)) (fun _ i _ _ _ => s.size - (intOf i).toNat)
  case atStart => exact ⟨0, 0, [], rfl, Nat.zero_le _, Lib.hid rfl, by simp, O0, hB0, Lib.hid rfl⟩
  case round =>
    obtain ⟨k, q, l, rfl, hk, HQ, hl, O, hB, HL⟩ := hrel
    clear O0 hB0
    obtain ⟨A2, c2, rfl⟩ := O.form
    by_cases hlt : q < s.size
    · have hlti : decide ((q : Int) < (s.size : Int)) = true := decide_eq_true (by omega)
      have hkm : k < m := by have h1 := HQ.out; have h2 := HS.out; omega
      have hq8 : q + 8 ≤ s.size := by have h1 := HQ.out; have h2 := HS.out; omega
      go_wp2
      go_loopw [6, 7] (fun b j wx => ∃ (x n : Nat), b = .int .u8 (x : Int) ∧ j = .int .i64 (n : Int) ∧ n ≤ 8 ∧ x < 2 ^ n ∧ wr = wx ∧ Hid (x = b8n (fun i => (bl s).getD (8 * k + i) 48) n)) (fun _ j _ => 8 - (intOf j).toNat)
      case atStart => exact ⟨0, 0, rfl, rfl, by omega, by simp, (by first | rfl | trivial), Lib.hid rfl⟩
      case round =>
        obtain ⟨x, n, rfl, rfl, hn, hx, rfl, HX⟩ := hrel
        by_cases hlt2 : n < 8
        · have hlti2 : decide ((n : Int) < 8) = true := decide_eq_true (by omega)
          have hlti3 : decide (n < 8) = true := decide_eq_true (by omega)
          have hx7 : x < 128 := Nat.lt_of_lt_of_le hx (Nat.pow_le_pow_right (n := 2) (by omega) (show n ≤ 7 by omega))
          have hw1 : IntKind.i64.wrap ((q : Int) + (n : Int)) = (q : Int) + (n : Int) := IntWalk.i64_in _ (by omega)
          have hi : q + n < s.size := by omega
          have hgd := getD_b s (q + n) hi
          obtain ⟨y, hy⟩ : ∃ y, (bl s).getD (q + n) 0 = y := ⟨_, rfl⟩
          have hyv : y = 48 ∨ y = 49 := by
            rw [← hy, ← hgd, ← bl_get s (q + n) hi]
            exact bits_get hb _
          have HY := Lib.hid (show (bl s).getD (8 * k + n) 48 = y by
            rw [← hy, ← hgd, ← bl_get s (q + n) hi, ← HQ.out, List.getD_eq_getElem?_getD, List.getElem?_eq_getElem (by rw [blen]; exact hi), Option.getD_some])
          rw [hy] at hgd
          clear hy hb
          have HN := Lib.hid (show x * 2 + y.toNat % 2 = b8n (fun i => (bl s).getD (8 * k + i) 48) (n + 1) by unfold b8n; rw [HY.out, ← HX.out])
          have HP := Lib.hid (show x * 2 + y.toNat % 2 < 2 ^ (n + 1) by rw [Nat.pow_succ]; omega)
          have hsh : IntKind.u8.wrap ((x : Int) * 2) = (x : Int) * 2 := IntWalk.u8_in _ (by omega)
          clear hx
          rcases hyv with rfl | rfl
          · have h48 : bits .and .u8 48 1 = 0 := by decide
            have hor : bits .or .u8 ((x : Int) * 2) 0 = ((x * 2 : Nat) : Int) := shl_or x 0 hx7 (by omega)
            go_wp2
            go_roundw
            case rel => exact ⟨x * 2 + 0, n + 1, by go_num, by go_num, by omega, HP.out, (by first | rfl | trivial), HN⟩
            case measure => simp [intOf]; omega
          · have h49 : bits .and .u8 49 1 = 1 := by decide
            have hor : bits .or .u8 ((x : Int) * 2) 1 = ((x * 2 + 1 : Nat) : Int) := shl_or x 1 hx7 (by omega)
            go_wp2
            go_roundw
            case rel => exact ⟨x * 2 + 1, n + 1, by go_num, by go_num, by omega, HP.out, (by first | rfl | trivial), HN⟩
            case measure => simp [intOf]; omega
        · have hlti2 : decide ((n : Int) < 8) = false := decide_eq_false (by omega)
          have hlti3 : decide (n < 8) = false := decide_eq_false (by omega)
          obtain rfl : n = 8 := by omega
          have hx8 : x < 256 := hx
          have hof : (UInt8.ofNat x).toNat = x := by rw [UInt8.toNat_ofNat']; omega
          have HN := Lib.hid (show l ++ [UInt8.ofNat x] = bytesL (bl s) (k + 1) by rw [bytesL_s, HL.out, HX.out]; rfl)
          have hbs := Below.size hB
          have hlb : l.length ≤ 100000 := by omega
          have hw8 : IntKind.i64.wrap ((q : Int) + 8) = (q : Int) + 8 := IntWalk.i64_in _ (by omega)
          go_wp2_with (first
            | (at_builtin; go_must (refine wpList_appL (by rfl) (.tmp 51) (.tmp 53) 85 (by rfl) eltB _ l (by rfl) O _ _ [UInt8.ofNat x] 1 1 (by rfl) (byte_lit2 x hx8) (by rfl) (by simp; omega) hbs ?_); intro v' w' hown' hg' hat' hbl'))
          have hl1 : (l ++ [UInt8.ofNat x]).length ≤ q + 8 := by rw [List.length_append, List.length_singleton]; omega
          have HQ2 := Lib.hid (show q + 8 = 8 * (k + 1) by have := HQ.out; omega)
          go_roundw
          case rel => exact ⟨k + 1, q + 8, l ++ [UInt8.ofNat x], by go_num, hq8, HQ2, hl1, hown', Below.trans hB hbl', HN⟩
          case measure => simp [intOf]; omega
    · have hlti : decide ((q : Int) < (s.size : Int)) = false := decide_eq_false (by omega)
      have HN := Lib.hid (show l = R by rw [HL.out, ← HR.out]; congr 1; have h1 := HQ.out; have h2 := HS.out; omega)
      have hcv0 := run_b2s (P := Tryz.prog) (dst := 9) Tryz.underlying85 Tryz.underlying5 Tryz.underlying9 O
      go_wp2
      go_ret2
      exact ⟨by rw [← HN.out]; rfl, hB⟩
end Go.Proofs.YtlfmpgfobkmgfaaGreatDoor
