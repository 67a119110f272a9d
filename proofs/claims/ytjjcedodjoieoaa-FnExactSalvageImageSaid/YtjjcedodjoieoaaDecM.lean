/- Plain functions: the image of a container. -/
import Derived.Test.YtjjcedodjoieoaaEntM
import Derived.Test.YtjjcedodjoieoaaW117
import Derived.Test.YtjjcedodjoieoaaW47
namespace Go.Proofs.Ytjjcedodjoieoaa
open Go.RowKit
set_option linter.unusedVariables false

/-- An image. -/
structure Im where
  c : Int
  h : Int
  p : Int
  s : Int
  l : List DSector
  n : List ByteArray
def im0 : Im := ⟨0, 0, 0, 0, [], []⟩
/-- The chunks between header and end enter an image, one after the other. -/
def decG (T P nb : Nat) (s : Int) : List DChunk → List DSector → List ByteArray → Option (List DSector × List ByteArray)
  | [], l, n => some (l, n)
  | x :: r, l, n => if entB T P nb s n x = true then decG T P nb s r (entL T P nb s l x) (entN n x) else none
section
variable {T P nb : Nat} {s : Int} {M : List DChunk} {l : List DSector} {n : List ByteArray} {k : Nat} {R : Option (List DSector × List ByteArray)}
theorem decG_yes (h : k < M.length) (g : entB T P nb s n M[k] = true) (e : decG T P nb s (M.drop k) l n = R) : decG T P nb s (M.drop (k + 1)) (entL T P nb s l M[k]) (entN n M[k]) = R := by
  rw [List.drop_eq_getElem_cons h, decG, if_pos g] at e
  exact e
theorem decG_no (h : k < M.length) (g : entB T P nb s n M[k] = false) (e : decG T P nb s (M.drop k) l n = R) : R = none := by
  rw [List.drop_eq_getElem_cons h, decG, if_neg (by rw [g]; decide)] at e
  exact e.symm
theorem decG_end (h : ¬ k < M.length) (e : decG T P nb s (M.drop k) l n = R) : R = some (l, n) := by
  rw [List.drop_eq_nil_of_le (by omega), decG] at e
  exact e.symm
end
/-- The chunks between the first and the last. -/
def mid (L : List DChunk) : List DChunk := (L.drop 1).take (L.length - 2)
theorem mid_len {L : List DChunk} : (mid L).length = L.length - 2 := by simp [mid]; omega
theorem mid_get {L : List DChunk} {k : Nat} (h : k < (mid L).length) (h2 : 1 + k < L.length) : (mid L)[k] = L[1 + k] := by
  have h3 : 1 + k = k + 1 := Nat.add_comm _ _
  simp [mid, h3]
/-- Number of tracks, sectors of a track and bytes of a sector that a header names. -/
def hdT (d : ByteArray) : Nat := bt d 3 * bt d 4
def hdP (d : ByteArray) : Nat := bt d 5
def hdS (d : ByteArray) : Int := (bt d 6 : Int)
def hdNb (d : ByteArray) : Nat := (szB (hdS d)).toNat
def hdL (d : ByteArray) : List DSector := newS (bt d 3 : Int) (bt d 4 : Int) (bt d 5 : Int) (bt d 6 : Int)
/-- The image behind a header. -/
def bodyOf (d : ByteArray) (M : List DChunk) : Option Im := (decG (hdT d) (hdP d) (hdNb d) (hdS d) M (hdL d) []).map fun r => ⟨(bt d 3 : Int), (bt d 4 : Int), (bt d 5 : Int), (bt d 6 : Int), r.1, r.2⟩
/-- The image of a well-formed list of chunks. -/
def imgOf (L : List DChunk) : Option Im :=
  if h : 2 ≤ L.length then
    if (L[0].f0 = 1 ∧ hdB L[0].f1 = true) ∧ (L[L.length - 1].f0 = 4 ∧ L[L.length - 1].f1.size = 0) then bodyOf L[0].f1 (mid L) else none
  else none
theorem imgOf_1 {L : List DChunk} (h : ¬ 2 ≤ L.length) : imgOf L = none := by simp [imgOf, h]
theorem imgOf_2 {L : List DChunk} (h : 2 ≤ L.length) (g : ¬ (L[0].f0 = 1 ∧ hdB L[0].f1 = true)) : imgOf L = none := by
  unfold imgOf
  rw [dif_pos h, if_neg (fun x => g x.1)]
theorem imgOf_3 {L : List DChunk} (h : 2 ≤ L.length) (g : ¬ (L[L.length - 1].f0 = 4 ∧ L[L.length - 1].f1.size = 0)) : imgOf L = none := by
  unfold imgOf
  rw [dif_pos h, if_neg (fun x => g x.2)]
theorem imgOf_4 {L : List DChunk} (h : 2 ≤ L.length) (g1 : L[0].f0 = 1) (g2 : hdB L[0].f1 = true) (g3 : L[L.length - 1].f0 = 4) (g4 : L[L.length - 1].f1.size = 0) : imgOf L = bodyOf L[0].f1 (mid L) := by
  unfold imgOf
  rw [dif_pos h, if_pos ⟨⟨g1, g2⟩, g3, g4⟩]
/-- What a header's numbers are good for. -/
theorem hd_nums {d : ByteArray} (h : hdB d = true) : (bt d 3 : Int) * (bt d 4 : Int) = (hdT d : Int) ∧ hdT d ≤ 16 ∧ 0 < hdP d ∧ hdP d ≤ 8 ∧ 0 ≤ hdS d ∧ hdS d ≤ 2 ∧ szB (hdS d) = (hdNb d : Int) ∧ hdNb d ≤ 32 ∧ (hdL d).length = hdT d * hdP d ∧ (bt d 5 : Int) = (hdP d : Int) ∧ (bt d 6 : Int) = hdS d ∧ geoB (bt d 3 : Int) (bt d 4 : Int) (hdP d : Int) (hdS d) = true ∧ d.size = 7 ∧ 0 < hdT d := by
  obtain ⟨h7, h3, hg⟩ := hd_yes h
  obtain ⟨c1, c2, h1, h2, p1, p2, s1, s2⟩ := geoB_yes hg
  obtain ⟨m1, m2⟩ := prod2 c1 c2 h1 h2
  obtain ⟨nb, z1, z2, z3, z4⟩ := szB_nat s1 s2
  have e1 : (bt d 3 : Int) * (bt d 4 : Int) = (hdT d : Int) := by rw [hdT, Int.natCast_mul]
  refine ⟨e1, by omega, ?_, ?_, ?_, ?_, ?_, ?_, ?_, rfl, rfl, hg, h7, by omega⟩
  · unfold hdP; omega
  · unfold hdP; omega
  · exact s1
  · exact s2
  · rw [hdNb, hdS, z4, z1]
  · rw [hdNb, hdS, z4]; exact z2
  · rw [hdL, newS_len, secN, e1, hdP, ← Int.natCast_mul, Int.toNat_natCast]
/-- The image and the code of a container. -/
def decR (s : ByteArray) : Option Im := if 8192 < s.size then none else if dkN s = s.size then imgOf (dkL s) else none
def decC (s : ByteArray) : Int := if 8192 < s.size then 5 else if dkN s = s.size then (if (imgOf (dkL s)).isSome then 0 else 7) else 8
def imD (r : Option Im) : Im := r.getD im0
theorem dec_1 {s : ByteArray} (h : 8192 < s.size) : decR s = none ∧ decC s = 5 := ⟨by simp [decR, h], by simp [decC, h]⟩
theorem dec_2 {s : ByteArray} (h : ¬ 8192 < s.size) (g : ¬ dkN s = s.size) : decR s = none ∧ decC s = 8 := ⟨by simp [decR, h, g], by simp [decC, h, g]⟩
theorem dec_3 {s : ByteArray} (h : ¬ 8192 < s.size) (g : dkN s = s.size) (i : imgOf (dkL s) = none) : decR s = none ∧ decC s = 7 := by
  refine ⟨?_, ?_⟩
  · unfold decR; rw [if_neg h, if_pos g, i]
  · unfold decC; rw [if_neg h, if_pos g, i]; rfl
theorem dec_4 {s : ByteArray} (h : ¬ 8192 < s.size) (g : dkN s = s.size) {x : Im} (i : imgOf (dkL s) = some x) : decR s = some x ∧ decC s = 0 := by
  refine ⟨?_, ?_⟩
  · unfold decR; rw [if_neg h, if_pos g, i]
  · unfold decC; rw [if_neg h, if_pos g, i]; rfl
theorem dkG_in (s : ByteArray) : ∀ (f a : Nat), a ≤ s.size → ∀ x ∈ (dkG s f a).1, x.f1.size ≤ s.size
  | 0, a, _, x, hx => by simp [dkG] at hx
  | f + 1, a, ha, x, hx => by
    cases hd : dcAt s a with
    | none => rw [dkG_no hd] at hx; simp at hx
    | some y =>
      obtain ⟨k, d, m⟩ := y
      obtain ⟨h1, h2⟩ := dcAt_le hd ha
      rw [dkG_yes hd] at hx
      rcases List.mem_cons.1 hx with rfl | hx
      · exact h2
      · exact dkG_in s f (a + m) h1 x hx
theorem dkL_in (s : ByteArray) : ∀ x ∈ dkL s, x.f1.size ≤ s.size := dkG_in s 40 0 (Nat.zero_le _)
/-- Images that are built are valid in size. -/
theorem decG_in {T P nb : Nat} {s : Int} : ∀ (M : List DChunk) (l : List DSector) (n : List ByteArray) (r : List DSector × List ByteArray), decG T P nb s M l n = some r → l.length = T * P → (∀ x ∈ l, secX s x = true) → n.length ≤ 8 → (∀ x ∈ n, noteB x = true) → r.1.length = T * P ∧ (∀ x ∈ r.1, secX s x = true) ∧ r.2.length ≤ 8 ∧ ∀ x ∈ r.2, noteB x = true
  | [], l, n, r, h, h1, h2, h3, h4 => by
    rw [decG] at h
    cases h
    exact ⟨h1, h2, h3, h4⟩
  | x :: M, l, n, r, h, h1, h2, h3, h4 => by
    rw [decG] at h
    split at h
    · exact decG_in M _ _ r h (entL_len h1 x) (entL_in h2 x) (entN_len h3 x) (entN_in h4 x)
    · cases h
theorem own_capD {w : World} {base : Nat} {e : TypeId} {size n c : Nat} {A : Option Addr} {xs : List Value} (h : w.ownsRow base e size (.slice A n c) n xs) : n ≤ c := by
  rcases h.2 with ⟨_, h0⟩ | ⟨g, cap, cur, hv, _, _, h1, _⟩
  · omega
  · cases hv
    exact h1
theorem row_cells {w : World} {base : Nat} {e : TypeId} {g cap : Nat} {L : List DChunk} (h : w.ownsRow base e 2 (.slice (some ⟨g, 0, none⟩) L.length cap) L.length (flat fChunk L)) (k : Nat) (hk : k < L.length) : w.cell? ⟨g, k * 2, none⟩ = some (.int .i64 L[k].f0) ∧ w.cell? ⟨g, k * 2 + 1, none⟩ = some (.string L[k].f1) := by
  have h1 := World.ownsRow.cellAt h (k * 2) (by omega)
  have h2 := flat_get fChunk 2 fChunk_len L k 0 hk (by omega)
  have h3 := World.ownsRow.cellAt h (k * 2 + 1) (by omega)
  have h4 := flat_get fChunk 2 fChunk_len L k 1 hk (by omega)
  rw [h1, h3]
  simp only [Nat.add_zero] at h2
  exact ⟨by rw [h2]; rfl, by rw [h4]; rfl⟩
theorem str_some2 {d : ByteArray} (h : ¬ d.size = 0) : (d.toList != []) = true := by
  have : (d.toList == []) = false := by
    rw [beq_eq_false_iff_ne]
    intro e
    apply h
    rw [ByteArray.toList_eq] at e
    have := congrArg List.length e
    simpa using this
  rw [bne, this]
  rfl
end Go.Proofs.Ytjjcedodjoieoaa
