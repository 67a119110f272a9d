/- Walks: the texts SalM W125 W126 as one text. -/
import Derived.Test.YtjjcedodjoieoaaDecV
import Derived.Test.YtjjcedodjoieoaaW121
import Derived.Test.YtjjcedodjoieoaaW122
namespace Go.Proofs.Ytjjcedodjoieoaa
open Go.RowKit
set_option linter.unusedVariables false

/-- A chunk's parts. -/
theorem dcAt_pts {s : ByteArray} {a k m : Nat} {d : ByteArray} (h : dcAt s a = some (k, d, m)) (ha : a ≤ s.size) : a + m ≤ s.size ∧ m = d.size + 5 ∧ bt s a = k ∧ wd s (a + 1) = d.size ∧ s.extract (a + 3) (a + 3 + d.size) = d ∧ crcOf (s.extract a (a + 3 + d.size)) 65535 = wd s (a + 3 + d.size) := by
  by_cases h5 : s.size < a + 5
  · rw [dcAt_1 h5] at h; cases h
  have h5 : a + 5 ≤ s.size := by omega
  obtain ⟨n, hn⟩ : ∃ n, wd s (a + 1) = n := ⟨_, rfl⟩
  by_cases h2 : n ≤ 8192 ∧ a + 3 + n + 2 ≤ s.size
  · by_cases h3 : okChunk (bt s a : Int) (s.extract (a + 3) (a + 3 + n)) = true ∧ crcOf (s.extract a (a + 3 + n)) 65535 = wd s (a + 3 + n)
    · rw [dcAt_4 h5 hn h2.1 h2.2 h3] at h
      simp only [Option.some.injEq, Prod.mk.injEq] at h
      obtain ⟨rfl, rfl, rfl⟩ := h
      have hsz : (s.extract (a + 3) (a + 3 + n)).size = n := by rw [ByteArray.size_extract]; omega
      rw [hsz]
      exact ⟨by omega, rfl, rfl, hn, rfl, h3.2⟩
    · rw [dcAt_3 h5 hn h2.2 h3] at h; cases h
  · rw [dcAt_2 h5 hn h2] at h; cases h
/-- The chunks that are left, and how many bytes were skipped. -/
def saG (s : ByteArray) : Nat → Nat → List DChunk × Nat
  | 0, _ => ([], 0)
  | f + 1, a => if a < s.size then
      (match dcAt s a with
      | none => ((saG s f (a + 1)).1, (saG s f (a + 1)).2 + 1)
      | some (k, d, m) => (⟨(k : Int), d⟩ :: (saG s f (a + m)).1, (saG s f (a + m)).2))
    else ([], 0)
def saL (s : ByteArray) : List DChunk := (saG s (s.size + 1) 0).1
def saN (s : ByteArray) : Nat := (saG s (s.size + 1) 0).2
/-- Behind some chunks and some skipped bytes. -/
def SaI (s : ByteArray) (out : List DChunk) (sk f a : Nat) : Prop := out ++ (saG s f a).1 = saL s ∧ sk + (saG s f a).2 = saN s
section
variable {s : ByteArray} {out : List DChunk} {sk f a k m : Nat} {d : ByteArray}
theorem SaI.start (s : ByteArray) : SaI s [] 0 (s.size + 1) 0 := ⟨rfl, by rw [Nat.zero_add]; rfl⟩
theorem SaI.skip (h : SaI s out sk (f + 1) a) (ha : a < s.size) (g : dcAt s a = none) : SaI s out (sk + 1) f (a + 1) := by
  unfold SaI at h ⊢
  rw [saG, if_pos ha, g] at h
  obtain ⟨h1, h2⟩ := h
  refine ⟨h1, ?_⟩
  have h3 : sk + ((saG s f (a + 1)).2 + 1) = saN s := h2
  omega
theorem SaI.take (h : SaI s out sk (f + 1) a) (ha : a < s.size) (g : dcAt s a = some (k, d, m)) : SaI s (out ++ [⟨(k : Int), d⟩]) sk f (a + m) := by
  unfold SaI at h ⊢
  rw [saG, if_pos ha, g] at h
  obtain ⟨h1, h2⟩ := h
  refine ⟨?_, h2⟩
  rw [List.append_assoc]
  exact h1
theorem SaI.stop (h : SaI s out sk f a) (ha : ¬ a < s.size) : out = saL s ∧ sk = saN s := by
  unfold SaI at h
  cases f with
  | zero => simpa [saG] using h
  | succ f => rw [saG, if_neg ha] at h; simpa using h
end
theorem saG_in (s : ByteArray) : ∀ (f a : Nat), a ≤ s.size → ∀ x ∈ (saG s f a).1, x.f1.size ≤ s.size
  | 0, a, _, x, hx => by simp [saG] at hx
  | f + 1, a, ha, x, hx => by
    rw [saG] at hx
    split at hx
    · rename_i hlt
      cases hd : dcAt s a with
      | none =>
        rw [hd] at hx
        exact saG_in s f (a + 1) (by omega) x hx
      | some y =>
        obtain ⟨k, d, m⟩ := y
        obtain ⟨h1, h2⟩ := dcAt_le hd ha
        rw [hd] at hx
        rcases List.mem_cons.1 hx with rfl | hx
        · exact h2
        · exact saG_in s f (a + m) h1 x hx
    · simp at hx
theorem saG_len (s : ByteArray) : ∀ (f a : Nat), (saG s f a).1.length ≤ f ∧ (saG s f a).2 ≤ f
  | 0, a => by simp [saG]
  | f + 1, a => by
    rw [saG]
    split
    · split
      · have := saG_len s f (a + 1)
        exact ⟨Nat.le_succ_of_le this.1, Nat.succ_le_succ this.2⟩
      · rename_i k d m _
        have := saG_len s f (a + m)
        exact ⟨Nat.succ_le_succ this.1, Nat.le_succ_of_le this.2⟩
    · simp
theorem saL_in (s : ByteArray) : ∀ x ∈ saL s, x.f1.size ≤ s.size := saG_in s _ 0 (Nat.zero_le _)
theorem saL_len (s : ByteArray) : (saL s).length ≤ s.size + 1 ∧ saN s ≤ s.size + 1 := saG_len s _ 0
/-- Whether a chunk is a header. -/
def hdX (x : DChunk) : Bool := decide (x.f0 = 1) && hdB x.f1
theorem hdX_no {k : Int} {d : ByteArray} (h : hdX ⟨k, d⟩ = false) : ¬ (k = 1 ∧ hdB d = true) := by
  rintro ⟨h1, h2⟩
  simp [hdX, h1, h2] at h
theorem hdX_yes {k : Int} {d : ByteArray} (h : hdX ⟨k, d⟩ = true) : k = 1 ∧ hdB d = true := by
  simpa [hdX] using h
/-- All chunks enter. -/
def foE (T P nb : Nat) (s : Int) : List DChunk → List DSector → List ByteArray → List DSector × List ByteArray
  | [], l, n => (l, n)
  | x :: r, l, n => foE T P nb s r (entL T P nb s l x) (entN n x)
theorem foE_step {T P nb : Nat} {s : Int} {M : List DChunk} {l : List DSector} {n : List ByteArray} {k : Nat} {R : List DSector × List ByteArray} (h : k < M.length) (e : foE T P nb s (M.drop k) l n = R) : foE T P nb s (M.drop (k + 1)) (entL T P nb s l M[k]) (entN n M[k]) = R := by
  rw [List.drop_eq_getElem_cons h, foE] at e
  exact e
theorem foE_end {T P nb : Nat} {s : Int} {M : List DChunk} {l : List DSector} {n : List ByteArray} {k : Nat} {R : List DSector × List ByteArray} (h : ¬ k < M.length) (e : foE T P nb s (M.drop k) l n = R) : R = (l, n) := by
  rw [List.drop_eq_nil_of_le (by omega), foE] at e
  exact e.symm
theorem foE_in {T P nb : Nat} {s : Int} : ∀ (M : List DChunk) (l : List DSector) (n : List ByteArray), l.length = T * P → n.length ≤ 8 → (foE T P nb s M l n).1.length = T * P ∧ (foE T P nb s M l n).2.length ≤ 8
  | [], l, n, h1, h2 => ⟨h1, h2⟩
  | x :: M, l, n, h1, h2 => foE_in M _ _ (entL_len h1 x) (entN_len h2 x)
def bodyS (d : ByteArray) (L : List DChunk) : Im := ⟨(bt d 3 : Int), (bt d 4 : Int), (bt d 5 : Int), (bt d 6 : Int), (foE (hdT d) (hdP d) (hdNb d) (hdS d) L (hdL d) []).1, (foE (hdT d) (hdP d) (hdNb d) (hdS d) L (hdL d) []).2⟩
/-- The image behind the first header among the chunks from a place on. -/
def saX (L : List DChunk) (i : Nat) : Option Im := ((L.drop i).find? hdX).map fun x => bodyS x.f1 L
theorem saX_no {L : List DChunk} {i : Nat} (h : i < L.length) (g : hdX L[i] = false) : saX L i = saX L (i + 1) := by
  unfold saX
  rw [List.drop_eq_getElem_cons h, List.find?_cons, g]
theorem saX_yes {L : List DChunk} {i : Nat} (h : i < L.length) (g : hdX L[i] = true) : saX L i = some (bodyS L[i].f1 L) := by
  unfold saX
  rw [List.drop_eq_getElem_cons h, List.find?_cons, g]
  rfl
theorem saX_end {L : List DChunk} {i : Nat} (h : ¬ i < L.length) : saX L i = none := by
  unfold saX
  rw [List.drop_eq_nil_of_le (by omega)]
  rfl
/-- Image, number of skipped bytes and code. -/
def saR (t : ByteArray) : Im × Int × Int := if 8192 < t.size then (im0, 0, 5) else match saX (saL t) 0 with | none => (im0, 0, 3) | some X => (X, (saN t : Int), 0)
theorem sa_1 {t : ByteArray} (h : 8192 < t.size) : saR t = (im0, 0, 5) := by simp [saR, h]
theorem sa_2 {t : ByteArray} (h : ¬ 8192 < t.size) (g : saX (saL t) 0 = none) : saR t = (im0, 0, 3) := by simp [saR, h, g]
theorem sa_3 {t : ByteArray} (h : ¬ 8192 < t.size) {X : Im} (g : saX (saL t) 0 = some X) : saR t = (X, (saN t : Int), 0) := by simp [saR, h, g]
theorem sa_lens (t : ByteArray) : (saR t).1.l.length ≤ 1048576 ∧ (saR t).1.n.length ≤ 1048576 := by
  by_cases h : 8192 < t.size
  · rw [sa_1 h]; exact ⟨by decide, by decide⟩
  · cases g : saX (saL t) 0 with
    | none => rw [sa_2 h g]; exact ⟨by decide, by decide⟩
    | some X =>
      rw [sa_3 h g]
      unfold saX at g
      cases hf : (List.drop 0 (saL t)).find? hdX with
      | none => rw [hf] at g; cases g
      | some x =>
        rw [hf] at g
        simp only [Option.map_some, Option.some.injEq] at g
        subst g
        have hx := hdX_yes (k := x.f0) (d := x.f1) (List.find?_some hf)
        obtain ⟨n1, n2, n3, n4, n5, n6, n7, n8, n9, -⟩ := hd_nums hx.2
        obtain ⟨k1, k2⟩ := foE_in (saL t) (hdL x.f1) [] (s := hdS x.f1) (nb := hdNb x.f1) n9 (by simp)
        have h3 : hdT x.f1 * hdP x.f1 ≤ 16 * 8 := Nat.mul_le_mul n2 n4
        exact ⟨by show (foE _ _ _ _ _ _ _).1.length ≤ _; omega, by show (foE _ _ _ _ _ _ _).2.length ≤ _; omega⟩
end Go.Proofs.Ytjjcedodjoieoaa
namespace Go.Proofs.Ytjjcedodjoieoaa
open Go.RowKit

set_option maxRecDepth 100000 in
set_option maxHeartbeats 6000000 in
theorem spec_SalvageImage_any (t : ByteArray) (w : World) (ht : t.size ≤ 1048576) :
    Calls Try.prog 7 #[.string t] w fun e w' => ∃ v u, e = .returned (.tuple #[.agg #[.int .i64 (saR t).1.c, .int .i64 (saR t).1.h, .int .i64 (saR t).1.p, .int .i64 (saR t).1.s, v, u], .int .i64 (saR t).2.1, .int .i64 (saR t).2.2]) ∧ w'.ownsRow w.heap.size 90 2 v (saR t).1.l.length (flat fSector (saR t).1.l) ∧ w'.ownsRow w.heap.size 9 1 u (saR t).1.n.length (flat fS (saR t).1.n) ∧ (v.ownBlock = none ∨ v.ownBlock ≠ u.ownBlock) ∧ Below w.heap.size w w' := by
  have Z : BX (w.alloc (.cells #[.int .i64 0, .int .i64 0, .int .i64 0, .int .i64 0, .slice none 0 0, .slice none 0 0] 27)) w.heap.size 27 [.int .i64 0, .int .i64 0, .int .i64 0, .int .i64 0, .slice none 0 0, .slice none 0 0] := BX.made w 27 [.int .i64 0, .int .i64 0, .int .i64 0, .int .i64 0, .slice none 0 0, .slice none 0 0]
  have hB : BB w (w.alloc (.cells #[.int .i64 0, .int .i64 0, .int .i64 0, .int .i64 0, .slice none 0 0, .slice none 0 0] 27)) := (show Below w.heap.size w (w.alloc (.cells #[.int .i64 0, .int .i64 0, .int .i64 0, .int .i64 0, .slice none 0 0, .slice none 0 0] 27)) from (by with_reducible repeat (first | exact Below.refl _ _ | assumption | refine below_step ?_ (by assumption) | refine Below.drew ?_ | refine below_drewN ?_ _ | refine below_alloc ?_ _ | refine Below.setCell ?_ (by simp; try omega) _)))
  by_cases hbig : 8192 < t.size
  · have HD := Lib.hid (sa_1 hbig)
    have hbi : (8192 : Int) < (t.size : Int) := by omega
    have hb2 : Below w.heap.size w (w.alloc (.cells #[.int .i64 0, .int .i64 0, .int .i64 0, .int .i64 0, .slice none 0 0, .slice none 0 0] 27)) := hB
    have z0 : (_ : Option Value) = some (.int .i64 0) := Z.cell 0 (by simp)
    have z1 : (_ : Option Value) = some (.int .i64 0) := Z.cell 1 (by simp)
    have z2 : (_ : Option Value) = some (.int .i64 0) := Z.cell 2 (by simp)
    have z3 : (_ : Option Value) = some (.int .i64 0) := Z.cell 3 (by simp)
    have z4 : (_ : Option Value) = some (.slice none 0 0) := Z.cell 4 (by simp)
    have z5 : (_ : Option Value) = some (.slice none 0 0) := Z.cell 5 (by simp)
    have hfz := fun j => Z.free j
    clear hbig
    go_enter Try.func7, Try.ntmps7
    go_wp2
    refine bodyPost_ret (v := .tuple #[.agg #[.int .i64 0, .int .i64 0, .int .i64 0, .int .i64 0, .slice none 0 0, .slice none 0 0], .int .i64 0, .int .i64 5]) (by simp [results, Try.results7, go_sem, z0, z1, z2, z3, z4, z5]) rfl ⟨.slice none 0 0, .slice none 0 0, by rw [HD.out]; rfl, by rw [HD.out]; exact World.ownsRow_nil _ _ _ _, by rw [HD.out]; exact World.ownsRow_nil _ _ _ _, .inl rfl, (by with_reducible repeat (first | exact Below.refl _ _ | assumption | refine below_step ?_ (by assumption) | refine Below.drew ?_ | refine below_drewN ?_ _ | refine below_alloc ?_ _ | refine Below.setCell ?_ (by simp; try omega) _))⟩
  have hbi : ¬ (8192 : Int) < (t.size : Int) := by omega
  have HD2 := Lib.hid (fun (g : saX (saL t) 0 = none) => sa_2 hbig g)
  have HD3 := Lib.hid (fun (X : Im) (g : saX (saL t) 0 = some X) => sa_3 hbig g)
  have hLin2 : ∀ x ∈ saL t, x.f1.size ≤ 1048576 := fun x hx => Nat.le_trans (saL_in t x hx) ht
  obtain ⟨hLl, hNl⟩ := saL_len t
  have hts : t.size ≤ 8192 := by omega
  have hst0 := SaI.start t
  have HST := Lib.hid (fun (out : List DChunk) (sk f a : Nat) (h : SaI t out sk f a) (ha : ¬ a < t.size) => SaI.stop h ha)
  have HSK := Lib.hid (fun (out : List DChunk) (sk f a : Nat) (h : SaI t out sk (f + 1) a) (ha : a < t.size) (g : dcAt t a = none) => SaI.skip h ha g)
  have HTK := Lib.hid (fun (out : List DChunk) (sk f a k m : Nat) (d : ByteArray) (h : SaI t out sk (f + 1) a) (ha : a < t.size) (g : dcAt t a = some (k, d, m)) => SaI.take h ha g)
  clear hbig
  go_enter Try.func7, Try.ntmps7
  go_wp2
  have R0 : OO ((w.alloc (.cells #[.int .i64 0, .int .i64 0, .int .i64 0, .int .i64 0, .slice none 0 0, .slice none 0 0] 27)).alloc (.cells #[] 47)) (w.heap.size + 1) 47 2 (.slice (some ⟨w.heap.size + 1, 0, none⟩) 0 0) 0 (flat fChunk []) := by
    have := own_lit0 (e := 47) (size := 2) (w.alloc (.cells #[.int .i64 0, .int .i64 0, .int .i64 0, .int .i64 0, .slice none 0 0, .slice none 0 0] 27)) (w.heap.size + 1) (by simp)
    rwa [World.size_alloc] at this
  have Z1 := Z.al (.cells #[] 47)
  have hB1 := BB.al hB (.cells #[] 47)
  clear Z hB
  go_loopw [5, 6, 7] (fun v sk i wr => ∃ (f a s : Nat) (out : List DChunk), t.size + 1 ≤ f + a ∧ a ≤ t.size ∧ s ≤ a ∧ out.length ≤ a ∧ sk = .int .i64 (s : Int) ∧ i = .int .i64 (a : Int) ∧ OO wr (w.heap.size + 1) 47 2 v out.length (flat fChunk out) ∧ BX wr w.heap.size 27 [.int .i64 0, .int .i64 0, .int .i64 0, .int .i64 0, .slice none 0 0, .slice none 0 0] ∧ BB w wr ∧ Hid (SaI t out s f a)) (fun _ _ i _ => t.size - (intOf i).toNat)
  case atStart => exact ⟨t.size + 1, 0, 0, [], by omega, Nat.zero_le _, Nat.le_refl _, by simp, rfl, rfl, R0, Z1, hB1, Lib.hid hst0⟩
  case round =>
    clear R0 Z1 hB1 hst0
    obtain ⟨f, a, s, out, hf, ha, hsa, hol, rfl, rfl, R, Z, hB, HI⟩ := hrel
    obtain ⟨A5, c5, rfl⟩ := own_form R
    by_cases hlt : a < t.size
    · obtain ⟨f, rfl⟩ : ∃ f', f = f' + 1 := ⟨f - 1, by omega⟩
      have hlti : (a : Int) < (t.size : Int) := by omega
      have hai : (a : Int) ≤ (t.size : Int) := by omega
      have hwa : IntKind.i64.wrap ((a : Int) + 1) = ((a + 1 : Nat) : Int) := IntWalk.i64_in _ (by omega)
      have hws : IntKind.i64.wrap ((s : Int) + 1) = ((s + 1 : Nat) : Int) := IntWalk.i64_in _ (by omega)
      have hat := fun W => l13At_any t a W ht ha
      cases hd : dcAt t a with
      | none =>
        have HN := Lib.hid (HSK.out _ _ _ _ HI.out hlt hd)
        have hl1 : a + 1 ≤ t.size := hlt
        have hs1 : s + 1 ≤ a + 1 := by omega
        have ho1 : out.length ≤ a + 1 := by omega
        have hf1 : t.size + 1 ≤ f + (a + 1) := by omega
        rw [hd] at hat
        replace hat : ∀ W, Calls Try.prog 21 _ W fun e w' => e = .returned (.tuple #[.agg #[.int .i64 0, .string ⟨#[]⟩], .int .i64 (-1)]) ∧ Below W.heap.size W w' := hat
        have HF := Lib.hid (And.intro hf1 (And.intro hl1 (And.intro hs1 ho1)))
        have HA := Lib.hid hlt
        clear hd hlt hf ha hsa hol hl1 hs1 ho1 hf1
        go_wp2_with (go_at_call 21; refine (hat _).mono ?_; rintro e w2 ⟨rfl, hx2⟩; replace Z := (Z.below hx2 Z.lt).al (.cells #[.int .i64 0, .string ⟨#[]⟩] 47); replace hB : BB w _ := BB.al (BB.next hB hx2) (.cells #[.int .i64 0, .string ⟨#[]⟩] 47); replace R := OO.al (OO.next R hx2) (.cells #[.int .i64 0, .string ⟨#[]⟩] 47))
        go_roundw
        case rel => exact ⟨f, a + 1, s + 1, out, HF.out.1, HF.out.2.1, HF.out.2.2.1, HF.out.2.2.2, rfl, rfl, R, Z, hB, HN⟩
        case measure => (have := HA.out; simp [intOf]; omega)
      | some y =>
        obtain ⟨kc, dc, m⟩ := y
        have HN := Lib.hid (HTK.out _ _ _ _ _ _ _ HI.out hlt hd)
        obtain ⟨p1, p2, -⟩ := dcAt_pts hd ha
        rw [hd] at hat
        replace hat : ∀ W, Calls Try.prog 21 _ W fun e w' => e = .returned (.tuple #[.agg #[.int .i64 (kc : Int), .string dc], .int .i64 ((a + m : Nat) : Int)]) ∧ Below W.heap.size W w' := hat
        have hwm : IntKind.i64.wrap ((a : Int) + (m : Int)) = ((a + m : Nat) : Int) := by rw [← Int.natCast_add]; exact IntWalk.i64_in _ (by omega)
        obtain ⟨am, ham⟩ : ∃ am, a + m = am := ⟨_, rfl⟩
        rw [ham] at hwm p1 hat HN
        have hs1 : s ≤ am := by omega
        have ho1 : (out ++ [(⟨(kc : Int), dc⟩ : DChunk)]).length ≤ am := by rw [List.length_append, List.length_singleton]; omega
        have hf1 : t.size + 1 ≤ f + am := by omega
        have HF := Lib.hid (And.intro hf1 (And.intro p1 (And.intro hs1 ho1)))
        have HA := Lib.hid (show a < am ∧ am ≤ t.size from ⟨by omega, p1⟩)
        have hcs : (#[.int .i64 (kc : Int), .string dc] : Array Value).toList = fChunk ⟨(kc : Int), dc⟩ := rfl
        have HCS := Lib.hid hcs
        have hby24 : 24 ≤ 1000 := by decide
        have hbig : out.length ≤ 100000000 := by omega
        have honec : ∀ u ∈ fChunk ⟨(kc : Int), dc⟩, u.oneCell' = true := by
          intro u hu
          simp only [fChunk, List.mem_cons, List.not_mem_nil, or_false] at hu
          rcases hu with rfl | rfl <;> rfl
        have HONE := Lib.hid honec
        have hm0 : ¬ ((am : Int) < 0) := by omega
        have hlen1 : (out ++ [(⟨(kc : Int), dc⟩ : DChunk)]).length = out.length + 1 := by simp
        have HLEN := Lib.hid hlen1
        clear hd hlt hf ha hsa hol hs1 ho1 hf1 p2 hcs honec ham hlen1 p1
        go_wp2_with (first
          | (at_builtin; have := mk1; go_must (refine wpList_appF (f := fChunk) rfl _ _ 45 rfl eltChunk hby24 (.slice A5 out.length c5) out rfl (OOf R) _ _ ⟨(kc : Int), dc⟩ _ (by rw [World.size_alloc]; rfl) HCS.out (fChunk_len _) HONE.out hbig hwr ?_); intro v8 w8 R8 hg8 hat8 hbl8; rw [HLEN.out] at R8; obtain ⟨A8, c8, rfl⟩ := own_form R8; replace Z := Z.below hbl8 (Nat.lt_succ_self _); replace hB : BB w _ := Below.trans hB (hbl8.mono (Nat.le_succ _)))
          | (go_at_call 21; refine (hat _).mono ?_; rintro e w2 ⟨rfl, hx2⟩; replace Z := (Z.below hx2 Z.lt).al (.cells #[.int .i64 (kc : Int), .string dc] 47); replace hB : BB w _ := BB.al (BB.next hB hx2) (.cells #[.int .i64 (kc : Int), .string dc] 47); replace R := OO.al (OO.next R hx2) (.cells #[.int .i64 (kc : Int), .string dc] 47); have hwr : w.heap.size + 1 ≤ (w2.alloc (.cells #[.int .i64 (kc : Int), .string dc] 47)).heap.size := Z.lt; have mk1 := True.intro))
        go_roundw
        case rel => exact ⟨f, am, s, out ++ [⟨(kc : Int), dc⟩], HF.out.1, HF.out.2.1, HF.out.2.2.1, HF.out.2.2.2, rfl, rfl, by rw [HLEN.out]; exact R8, Z, hB, HN⟩
        case measure => (have := HA.out; simp [intOf]; omega)
    obtain ⟨rfl, rfl⟩ := HST.out _ _ _ _ HI.out hlt
    have hae : a = t.size := by omega
    subst hae
    clear HST HSK HTK HI hf ha hsa hlt
    generalize saL t = L at *
    generalize saN t = N at *
    have hB0 := hB
    go_wp2
    go_loopw [10] (fun i wq => ∃ j : Nat, j ≤ L.length ∧ i = .int .i64 (j : Int) ∧ OO wq (w.heap.size + 1) 47 2 (.slice A5 L.length c5) L.length (flat fChunk L) ∧ BX wq w.heap.size 27 [.int .i64 0, .int .i64 0, .int .i64 0, .int .i64 0, .slice none 0 0, .slice none 0 0] ∧ BB w wq ∧ Hid (saX L 0 = saX L j)) (fun i _ => L.length - (intOf i).toNat)
    case atStart => exact ⟨0, Nat.zero_le _, rfl, R, Z, hB, Lib.hid rfl⟩
    case round =>
      clear R Z hB hB0
      obtain ⟨j, hj, rfl, R, Z, hB, HX⟩ := hrel
      by_cases hlt : j < L.length
      rotate_left
      · obtain rfl : j = L.length := by omega
        have HD := Lib.hid (HD2.out (HX.out.trans (saX_end hlt)))
        have hb2 : Below w.heap.size w wr := hB
        have z0 : (_ : Option Value) = some (.int .i64 0) := Z.cell 0 (by simp)
        have z1 : (_ : Option Value) = some (.int .i64 0) := Z.cell 1 (by simp)
        have z2 : (_ : Option Value) = some (.int .i64 0) := Z.cell 2 (by simp)
        have z3 : (_ : Option Value) = some (.int .i64 0) := Z.cell 3 (by simp)
        have z4 : (_ : Option Value) = some (.slice none 0 0) := Z.cell 4 (by simp)
        have z5 : (_ : Option Value) = some (.slice none 0 0) := Z.cell 5 (by simp)
        have hfz := fun j => Z.free j
        go_wp2
        refine bodyPost_ret (v := .tuple #[.agg #[.int .i64 0, .int .i64 0, .int .i64 0, .int .i64 0, .slice none 0 0, .slice none 0 0], .int .i64 0, .int .i64 3]) (by simp [results, Try.results7, go_sem, World.cell?_setCell_other, z0, z1, z2, z3, z4, z5]) rfl ⟨.slice none 0 0, .slice none 0 0, by rw [HD.out]; rfl, by rw [HD.out]; exact World.ownsRow_nil _ _ _ _, by rw [HD.out]; exact World.ownsRow_nil _ _ _ _, .inl rfl, (by with_reducible repeat (first | exact Below.refl _ _ | assumption | refine below_step ?_ (by assumption) | refine Below.drew ?_ | refine below_drewN ?_ _ | refine below_alloc ?_ _ | refine Below.setCell ?_ (by simp; try omega) _))⟩
      obtain ⟨g1, c1, hv⟩ := Go.Joins.ownsRow_form (OOf R) (by omega)
      cases hv
      obtain ⟨a0, a1⟩ := row_cells (OOf R) j hlt
      have hd0 := hLin2 L[j] (List.getElem_mem hlt)
      have hno := fun g => HX.out.trans (saX_no hlt g)
      have hyes := fun g => HX.out.trans (saX_yes hlt g)
      obtain ⟨⟨k0, d0⟩, hx⟩ : ∃ x, L[j] = x := ⟨_, rfl⟩
      rw [hx] at a0 a1 hd0 hno hyes
      have hd9 : d0.size ≤ maxLen := by
        have h9 : d0.size ≤ 1048576 := hd0
        unfold maxLen
        omega
      have hlti : (j : Int) < (L.length : Int) := by omega
      have hwj : IntKind.i64.wrap ((j : Int) + 1) = ((j + 1 : Nat) : Int) := IntWalk.i64_in _ (by omega)
      have HJ := Lib.hid hlt
      clear hx hlt hd0
      cases hh : hdX ⟨k0, d0⟩
      · have HN := Lib.hid (hno hh)
        have hdisc := fun W => l13Disc_no k0 d0 W hd9 (hdX_no hh)
        clear hh hno hyes
        go_wp2_with (go_at_call 22; refine (hdisc _).mono ?_; rintro e w2 ⟨rfl, hx2⟩; replace Z := (Z.below hx2 Z.lt).al (.cells #[.int .i64 0, .int .i64 0, .int .i64 0, .int .i64 0, .slice none 0 0] 24); replace hB : BB w _ := BB.al (BB.next hB hx2) (.cells #[.int .i64 0, .int .i64 0, .int .i64 0, .int .i64 0, .slice none 0 0] 24); replace R := OO.al (OO.next R hx2) (.cells #[.int .i64 0, .int .i64 0, .int .i64 0, .int .i64 0, .slice none 0 0] 24))
        go_roundw
        case rel => exact ⟨j + 1, HJ.out, rfl, R, Z, hB, Lib.hid HN.out⟩
        case measure => (have := HJ.out; simp [intOf]; omega)
      obtain ⟨hk1, hb⟩ := hdX_yes hh
      subst hk1
      have himg := hyes hh
      clear hh hno hyes
      obtain ⟨n1, n2, n3, n4, n5, n6, n7, n8, n9, n10, n11, n12, n13, n14⟩ := hd_nums hb
      have hdisc := fun W => l13Disc_yes d0 W hb
      rw [show newS (bt d0 3 : Int) (bt d0 4 : Int) (bt d0 5 : Int) (bt d0 6 : Int) = hdL d0 from rfl] at hdisc
      unfold bodyS at himg
      rw [n10, n11] at hdisc himg
      generalize hdL d0 = l0 at *
      generalize (bt d0 3 : Int) = c at *
      generalize (bt d0 4 : Int) = h at *
      generalize hdT d0 = T at *
      generalize hdP d0 = P at *
      generalize hdS d0 = s at *
      generalize hdNb d0 = nb at *
      have hNpos : 0 < l0.length := by rw [n9]; exact Nat.mul_pos n14 n3
      obtain ⟨NL, hNL⟩ : ∃ NL, l0.length = NL := ⟨_, rfl⟩
      have HNL : Hid (NL = T * P) := Lib.hid (by rw [← hNL, n9])
      rw [hNL] at hdisc hNpos
      have HL0 := Lib.hid hNL
      obtain ⟨RR0, hRR⟩ : ∃ RR0, foE T P nb s L l0 [] = RR0 := ⟨_, rfl⟩
      rw [hRR] at himg
      have HR0 := Lib.hid hRR
      have HI2 := Lib.hid himg
      clear n9 n12 hNL hb himg hRR HX
      have hbk1 : ((1 : Int) != 1) = false := rfl
      go_wp2_with (go_at_call 22; refine (hdisc _).mono ?_; rintro e w2 ⟨v2, rfl, hown2, hx2⟩; obtain ⟨b, cp, hv⟩ := Go.Joins.ownsRow_form hown2 hNpos; cases hv)
      have hbl := (World.ownsRow.lt hown2 b rfl).2
      have hbw1 := (World.ownsRow.lt hown2 b rfl).1
      have hcp := own_capD hown2
      have hx2s := hx2.size
      have FX : BX ((w2.alloc (.cells #[.int .i64 c, .int .i64 h, .int .i64 (P : Int), .int .i64 s, .slice (some ⟨b, 0, none⟩) NL cp] 24)).alloc (.cells #[.int .i64 c, .int .i64 h, .int .i64 (P : Int), .int .i64 s, .slice (some ⟨b, 0, none⟩) NL cp, .slice none 0 0] 27)) (w2.heap.size + 1) 27 [.int .i64 c, .int .i64 h, .int .i64 (P : Int), .int .i64 s, .slice (some ⟨b, 0, none⟩) NL cp, .slice none 0 0] := BX.made1 w2 (.cells #[.int .i64 c, .int .i64 h, .int .i64 (P : Int), .int .i64 s, .slice (some ⟨b, 0, none⟩) NL cp] 24) 27 [.int .i64 c, .int .i64 h, .int .i64 (P : Int), .int .i64 s, .slice (some ⟨b, 0, none⟩) NL cp, .slice none 0 0]
      have OX : OO ((w2.alloc (.cells #[.int .i64 c, .int .i64 h, .int .i64 (P : Int), .int .i64 s, .slice (some ⟨b, 0, none⟩) NL cp] 24)).alloc (.cells #[.int .i64 c, .int .i64 h, .int .i64 (P : Int), .int .i64 s, .slice (some ⟨b, 0, none⟩) NL cp, .slice none 0 0] 27)) wr.heap.size 90 2 (.slice (some ⟨b, 0, none⟩) NL cp) NL (flat fSector l0) := OO.al (OO.al hown2 (.cells #[.int .i64 c, .int .i64 h, .int .i64 (P : Int), .int .i64 s, .slice (some ⟨b, 0, none⟩) NL cp] 24)) (.cells #[.int .i64 c, .int .i64 h, .int .i64 (P : Int), .int .i64 s, .slice (some ⟨b, 0, none⟩) NL cp, .slice none 0 0] 27)
      have BX1 : Below wr.heap.size wr ((w2.alloc (.cells #[.int .i64 c, .int .i64 h, .int .i64 (P : Int), .int .i64 s, .slice (some ⟨b, 0, none⟩) NL cp] 24)).alloc (.cells #[.int .i64 c, .int .i64 h, .int .i64 (P : Int), .int .i64 s, .slice (some ⟨b, 0, none⟩) NL cp, .slice none 0 0] 27)) := below_alloc (below_alloc hx2 _) _
      have hgb : w2.heap.size + 1 ≠ b := by omega
      have hbase : wr.heap.size ≤ w2.heap.size + 1 := by omega
      have hz1 : w.heap.size < wr.heap.size := Z.lt
      generalize w2.heap.size + 1 = gx at *
      generalize ((w2.alloc (.cells #[.int .i64 c, .int .i64 h, .int .i64 (P : Int), .int .i64 s, .slice (some ⟨b, 0, none⟩) NL cp] 24)).alloc (.cells #[.int .i64 c, .int .i64 h, .int .i64 (P : Int), .int .i64 s, .slice (some ⟨b, 0, none⟩) NL cp, .slice none 0 0] 27)) = w3 at *
      clear hown2 hx2 hx2s hbl
      obtain ⟨base, hbe⟩ : ∃ base, wr.heap.size = base := ⟨_, rfl⟩
      rw [hbe] at hz1 hbase hbw1 OX BX1
      have HBE := Lib.hid hbe
      clear hbe
      have hz1' := Nat.le_of_lt hz1
      go_loopw [14] (fun i wq => ∃ (k : Nat) (l : List DSector) (n : List ByteArray) (B : Option Addr) (q : Nat), k ≤ L.length ∧ i = .int .i64 (k : Int) ∧ l.length = NL ∧ n.length ≤ 8 ∧ BX wq gx 27 [.int .i64 c, .int .i64 h, .int .i64 (P : Int), .int .i64 s, .slice (some ⟨b, 0, none⟩) NL cp, .slice B n.length q] ∧ wq.ownsRow base 90 2 (.slice (some ⟨b, 0, none⟩) NL cp) NL (flat fSector l) ∧ wq.ownsRow base 9 1 (.slice B n.length q) n.length (flat fS n) ∧ (Value.slice B n.length q).ownBlock ≠ some gx ∧ (Value.slice B n.length q).ownBlock ≠ some b ∧ Below base wr wq ∧ Hid (foE T P nb s (L.drop k) l n = RR0)) (fun i _ => L.length - (intOf i).toNat)
      case atStart => exact ⟨0, l0, [], none, 0, Nat.zero_le _, rfl, HL0.out, by simp, FX, OX, World.ownsRow_nil _ _ _ _, by simp [Value.ownBlock], by simp [Value.ownBlock], BX1, Lib.hid (by rw [List.drop_zero]; exact HR0.out)⟩
      case round =>
        clear FX OX BX1
        obtain ⟨k, l, n, B, q, hk, rfl, hl, hn8, F, O, K, hgB, hbB, hB1, HG⟩ := hrel
        have hBr : Below w.heap.size w wr := Below.trans hB (hB1.mono hz1')
        have Zr := Z.below hB1 hz1
        by_cases hlt : k < L.length
        · have hlti2 : (k : Int) < (L.length : Int) := by omega
          have hw1 : IntKind.i64.wrap ((k : Int) + 1) = ((k + 1 : Nat) : Int) := IntWalk.i64_in _ (by omega)
          obtain ⟨a0, a1⟩ := row_cells (own_later (OOf R) hB1 (Nat.le_of_eq HBE.out)) k hlt
          have hd := hLin2 L[k] (List.getElem_mem hlt)
          have hN := foE_step hlt HG.out
          obtain ⟨⟨kc, dc⟩, hx⟩ : ∃ x, L[k] = x := ⟨_, rfl⟩
          rw [hx] at a0 a1 hd hN
          have hd2 : dc.size ≤ maxLen := by
            have h9 : dc.size ≤ 1048576 := hd
            unfold maxLen
            omega
          have hbs : base ≤ wr.heap.size := by have := hB1.size; have := HBE.out; omega
          have HLT := Lib.hid hlt
          clear hx hlt hd
          have con := l13Enter_any gx c h s P T nb b cp l B q n kc dc wr base hd2 n1 n2 n3 n4 n5 n6 n7 n8 (by rw [hl]; exact HNL.out) hn8 (by rw [hl]; exact F) (by rw [hl]; exact O) K hbase hgb hgB hbB hbs hbw1
          rw [hl] at con
          have hl' := entL_len (T := T) (P := P) (nb := nb) (s := s) (l := l) (by rw [hl]; exact HNL.out) ⟨kc, dc⟩
          rw [← HNL.out] at hl'
          have hn' := entN_len hn8 ⟨kc, dc⟩
          have HN := Lib.hid hN
          clear hN
          generalize entL T P nb s l ⟨kc, dc⟩ = l' at *
          generalize entB T P nb s n ⟨kc, dc⟩ = bo at *
          generalize entN n ⟨kc, dc⟩ = n' at *
          go_wp2_with (go_at_call 23; refine con.mono ?_; clear con; rintro e w5 ⟨B', q', rfl, F5, O5, K5, hg5, hb5, hx5⟩)
          go_roundw
          case rel => exact ⟨k + 1, l', n', B', q', HLT.out, rfl, hl', hn', F5, O5, K5, hg5, hb5, hB1.trans hx5, HN⟩
          case measure => (have := HLT.out; simp [intOf]; omega)
        · obtain rfl : k = L.length := by omega
          have hend := foE_end hlt HG.out
          have HD := Lib.hid (HD3.out _ (by rw [HI2.out, hend]))
          have f0 : (_ : Option Value) = some (.int .i64 c) := F.cell 0 (by simp)
          have f1 : (_ : Option Value) = some (.int .i64 h) := F.cell 1 (by simp)
          have f2 : (_ : Option Value) = some (.int .i64 (P : Int)) := F.cell 2 (by simp)
          have f3 : (_ : Option Value) = some (.int .i64 s) := F.cell 3 (by simp)
          have f4 : (_ : Option Value) = some (.slice (some ⟨b, 0, none⟩) NL cp) := F.cell 4 (by simp)
          have f5 : (_ : Option Value) = some (.slice B n.length q) := F.cell 5 (by simp)
          have Z := Zr
          have z0 : (_ : Option Value) = some (.int .i64 0) := Z.cell 0 (by simp)
          have z1 : (_ : Option Value) = some (.int .i64 0) := Z.cell 1 (by simp)
          have z2 : (_ : Option Value) = some (.int .i64 0) := Z.cell 2 (by simp)
          have z3 : (_ : Option Value) = some (.int .i64 0) := Z.cell 3 (by simp)
          have z4 : (_ : Option Value) = some (.slice none 0 0) := Z.cell 4 (by simp)
          have z5 : (_ : Option Value) = some (.slice none 0 0) := Z.cell 5 (by simp)
          have hfz := fun j => Z.free j
          have O' : World.ownsRow wr base 90 2 (.slice (some ⟨b, 0, none⟩) NL cp) l.length (flat fSector l) := by rw [hl]; exact O
          clear hlt hk hl hend
          go_wp2
          refine bodyPost_ret (v := .tuple #[.agg #[.int .i64 c, .int .i64 h, .int .i64 (P : Int), .int .i64 s, .slice (some ⟨b, 0, none⟩) NL cp, .slice B n.length q], .int .i64 (N : Int), .int .i64 0]) (by simp [results, Try.results7, go_sem, World.cell?_setCell_other, z0, z1, z2, z3, z4, z5]) rfl ⟨.slice (some ⟨b, 0, none⟩) NL cp, .slice B n.length q, by rw [HD.out], ?_, ?_, .inr (fun e => hbB e.symm), (by with_reducible repeat (first | exact Below.refl _ _ | assumption | refine below_step ?_ (by assumption) | refine Below.drew ?_ | refine below_drewN ?_ _ | refine below_alloc ?_ _ | refine Below.setCell ?_ (by simp; try omega) _))⟩
          · rw [HD.out]
            show World.ownsRow _ _ _ _ _ l.length (flat fSector l)
            exact own_base (ownsRow_setCell_below (ownsRow_setCell_below (ownsRow_setCell_below (ownsRow_setCell_below (ownsRow_setCell_below (ownsRow_setCell_below O' hz1 _) hz1 _) hz1 _) hz1 _) hz1 _) hz1 _) hz1'
          · rw [HD.out]
            show World.ownsRow _ _ _ _ _ n.length (flat fS n)
            exact own_base (ownsRow_setCell_below (ownsRow_setCell_below (ownsRow_setCell_below (ownsRow_setCell_below (ownsRow_setCell_below (ownsRow_setCell_below K hz1 _) hz1 _) hz1 _) hz1 _) hz1 _) hz1 _) hz1'
end Go.Proofs.Ytjjcedodjoieoaa
namespace Go.Proofs.Ytjjcedodjoieoaa
open Go.RowKit

set_option maxRecDepth 100000 in
set_option maxHeartbeats 6000000 in
theorem impl_SalvageImage_any (t : ByteArray) (w : World) (ht : t.size ≤ 1048576) :
    Calls Try.prog 8 #[.string t] w fun e w' => ∃ v u, e = .returned (.tuple #[.agg #[.int .i64 (saR t).1.c, .int .i64 (saR t).1.h, .int .i64 (saR t).1.p, .int .i64 (saR t).1.s, v, u], .int .i64 (saR t).2.1, .int .i64 (saR t).2.2]) ∧ w'.ownsRow w.heap.size 90 2 v (saR t).1.l.length (flat fSector (saR t).1.l) ∧ w'.ownsRow w.heap.size 9 1 u (saR t).1.n.length (flat fS (saR t).1.n) ∧ (v.ownBlock = none ∨ v.ownBlock ≠ u.ownBlock) ∧ Below w.heap.size w w' := by
  have Z : BX (w.alloc (.cells #[.int .i64 0, .int .i64 0, .int .i64 0, .int .i64 0, .slice none 0 0, .slice none 0 0] 27)) w.heap.size 27 [.int .i64 0, .int .i64 0, .int .i64 0, .int .i64 0, .slice none 0 0, .slice none 0 0] := BX.made w 27 [.int .i64 0, .int .i64 0, .int .i64 0, .int .i64 0, .slice none 0 0, .slice none 0 0]
  have hB : BB w (w.alloc (.cells #[.int .i64 0, .int .i64 0, .int .i64 0, .int .i64 0, .slice none 0 0, .slice none 0 0] 27)) := (show Below w.heap.size w (w.alloc (.cells #[.int .i64 0, .int .i64 0, .int .i64 0, .int .i64 0, .slice none 0 0, .slice none 0 0] 27)) from (by with_reducible repeat (first | exact Below.refl _ _ | assumption | refine below_step ?_ (by assumption) | refine Below.drew ?_ | refine below_drewN ?_ _ | refine below_alloc ?_ _ | refine Below.setCell ?_ (by simp; try omega) _)))
  by_cases hbig : 8192 < t.size
  · have HD := Lib.hid (sa_1 hbig)
    have hbi : (8192 : Int) < (t.size : Int) := by omega
    have hb2 : Below w.heap.size w (w.alloc (.cells #[.int .i64 0, .int .i64 0, .int .i64 0, .int .i64 0, .slice none 0 0, .slice none 0 0] 27)) := hB
    have z0 : (_ : Option Value) = some (.int .i64 0) := Z.cell 0 (by simp)
    have z1 : (_ : Option Value) = some (.int .i64 0) := Z.cell 1 (by simp)
    have z2 : (_ : Option Value) = some (.int .i64 0) := Z.cell 2 (by simp)
    have z3 : (_ : Option Value) = some (.int .i64 0) := Z.cell 3 (by simp)
    have z4 : (_ : Option Value) = some (.slice none 0 0) := Z.cell 4 (by simp)
    have z5 : (_ : Option Value) = some (.slice none 0 0) := Z.cell 5 (by simp)
    have hfz := fun j => Z.free j
    clear hbig
    go_enter Try.func8, Try.ntmps8
    go_wp2
    refine bodyPost_ret (v := .tuple #[.agg #[.int .i64 0, .int .i64 0, .int .i64 0, .int .i64 0, .slice none 0 0, .slice none 0 0], .int .i64 0, .int .i64 5]) (by simp [results, Try.results8, go_sem, z0, z1, z2, z3, z4, z5]) rfl ⟨.slice none 0 0, .slice none 0 0, by rw [HD.out]; rfl, by rw [HD.out]; exact World.ownsRow_nil _ _ _ _, by rw [HD.out]; exact World.ownsRow_nil _ _ _ _, .inl rfl, (by with_reducible repeat (first | exact Below.refl _ _ | assumption | refine below_step ?_ (by assumption) | refine Below.drew ?_ | refine below_drewN ?_ _ | refine below_alloc ?_ _ | refine Below.setCell ?_ (by simp; try omega) _))⟩
  have hbi : ¬ (8192 : Int) < (t.size : Int) := by omega
  have HD2 := Lib.hid (fun (g : saX (saL t) 0 = none) => sa_2 hbig g)
  have HD3 := Lib.hid (fun (X : Im) (g : saX (saL t) 0 = some X) => sa_3 hbig g)
  have hLin2 : ∀ x ∈ saL t, x.f1.size ≤ 1048576 := fun x hx => Nat.le_trans (saL_in t x hx) ht
  obtain ⟨hLl, hNl⟩ := saL_len t
  have hts : t.size ≤ 8192 := by omega
  have hst0 := SaI.start t
  have HST := Lib.hid (fun (out : List DChunk) (sk f a : Nat) (h : SaI t out sk f a) (ha : ¬ a < t.size) => SaI.stop h ha)
  have HSK := Lib.hid (fun (out : List DChunk) (sk f a : Nat) (h : SaI t out sk (f + 1) a) (ha : a < t.size) (g : dcAt t a = none) => SaI.skip h ha g)
  have HTK := Lib.hid (fun (out : List DChunk) (sk f a k m : Nat) (d : ByteArray) (h : SaI t out sk (f + 1) a) (ha : a < t.size) (g : dcAt t a = some (k, d, m)) => SaI.take h ha g)
  clear hbig
  go_enter Try.func8, Try.ntmps8
  go_wp2
  have R0 : OO (w.alloc (.cells #[.int .i64 0, .int .i64 0, .int .i64 0, .int .i64 0, .slice none 0 0, .slice none 0 0] 27)) (w.heap.size + 1) 47 2 (.slice none 0 0) 0 (flat fChunk []) := World.ownsRow_nil _ _ _ _
  have Z1 := Z
  have hB1 := hB
  clear Z hB
  go_loopw [5, 6, 7] (fun v sk i wr => ∃ (f a s : Nat) (out : List DChunk), t.size + 1 ≤ f + a ∧ a ≤ t.size ∧ s ≤ a ∧ out.length ≤ a ∧ sk = .int .i64 (s : Int) ∧ i = .int .i64 (a : Int) ∧ OO wr (w.heap.size + 1) 47 2 v out.length (flat fChunk out) ∧ BX wr w.heap.size 27 [.int .i64 0, .int .i64 0, .int .i64 0, .int .i64 0, .slice none 0 0, .slice none 0 0] ∧ BB w wr ∧ Hid (SaI t out s f a)) (fun _ _ i _ => t.size - (intOf i).toNat)
  case atStart => exact ⟨t.size + 1, 0, 0, [], by omega, Nat.zero_le _, Nat.le_refl _, by simp, rfl, rfl, R0, Z1, hB1, Lib.hid hst0⟩
  case round =>
    clear R0 Z1 hB1 hst0
    obtain ⟨f, a, s, out, hf, ha, hsa, hol, rfl, rfl, R, Z, hB, HI⟩ := hrel
    obtain ⟨A5, c5, rfl⟩ := own_form R
    by_cases hlt : a < t.size
    · obtain ⟨f, rfl⟩ : ∃ f', f = f' + 1 := ⟨f - 1, by omega⟩
      have hlti : (a : Int) < (t.size : Int) := by omega
      have hai : (a : Int) ≤ (t.size : Int) := by omega
      have hwa : IntKind.i64.wrap ((a : Int) + 1) = ((a + 1 : Nat) : Int) := IntWalk.i64_in _ (by omega)
      have hws : IntKind.i64.wrap ((s : Int) + 1) = ((s + 1 : Nat) : Int) := IntWalk.i64_in _ (by omega)
      have hat : ∀ W, Calls Try.prog 24 #[.string (t.extract a t.size)] W fun e w' => e = rDc (dcAt t a) ∧ Below W.heap.size W w' := fun W => decodeChunk_any (t.extract a t.size) W (by rw [ByteArray.size_extract]; omega)
      cases hd : dcAt t a with
      | none =>
        have HN := Lib.hid (HSK.out _ _ _ _ HI.out hlt hd)
        have hl1 : a + 1 ≤ t.size := hlt
        have hs1 : s + 1 ≤ a + 1 := by omega
        have ho1 : out.length ≤ a + 1 := by omega
        have hf1 : t.size + 1 ≤ f + (a + 1) := by omega
        rw [hd] at hat
        replace hat : ∀ W, Calls Try.prog 24 _ W fun e w' => e = .returned (.tuple #[.agg #[.int .i64 0, .string ⟨#[]⟩], .int .i64 0, .bool false]) ∧ Below W.heap.size W w' := hat
        have HF := Lib.hid (And.intro hf1 (And.intro hl1 (And.intro hs1 ho1)))
        have HA := Lib.hid hlt
        clear hd hlt hf ha hsa hol hl1 hs1 ho1 hf1
        go_wp2_with (go_at_call 24; refine (hat _).mono ?_; rintro e w2 ⟨rfl, hx2⟩; replace Z := (Z.below hx2 Z.lt).al (.cells #[.int .i64 0, .string ⟨#[]⟩] 47); replace hB : BB w _ := BB.al (BB.next hB hx2) (.cells #[.int .i64 0, .string ⟨#[]⟩] 47); replace R := OO.al (OO.next R hx2) (.cells #[.int .i64 0, .string ⟨#[]⟩] 47))
        go_roundw
        case rel => exact ⟨f, a + 1, s + 1, out, HF.out.1, HF.out.2.1, HF.out.2.2.1, HF.out.2.2.2, rfl, rfl, R, Z, hB, HN⟩
        case measure => (have := HA.out; simp [intOf]; omega)
      | some y =>
        obtain ⟨kc, dc, m⟩ := y
        have HN := Lib.hid (HTK.out _ _ _ _ _ _ _ HI.out hlt hd)
        obtain ⟨p1, p2, -⟩ := dcAt_pts hd ha
        rw [hd] at hat
        replace hat : ∀ W, Calls Try.prog 24 _ W fun e w' => e = .returned (.tuple #[.agg #[.int .i64 (kc : Int), .string dc], .int .i64 (m : Int), .bool true]) ∧ Below W.heap.size W w' := hat
        have hwm : IntKind.i64.wrap ((a : Int) + (m : Int)) = ((a + m : Nat) : Int) := by rw [← Int.natCast_add]; exact IntWalk.i64_in _ (by omega)
        obtain ⟨am, ham⟩ : ∃ am, a + m = am := ⟨_, rfl⟩
        rw [ham] at hwm p1 HN
        have hs1 : s ≤ am := by omega
        have ho1 : (out ++ [(⟨(kc : Int), dc⟩ : DChunk)]).length ≤ am := by rw [List.length_append, List.length_singleton]; omega
        have hf1 : t.size + 1 ≤ f + am := by omega
        have HF := Lib.hid (And.intro hf1 (And.intro p1 (And.intro hs1 ho1)))
        have HA := Lib.hid (show a < am ∧ am ≤ t.size from ⟨by omega, p1⟩)
        have hcs : (#[.int .i64 (kc : Int), .string dc] : Array Value).toList = fChunk ⟨(kc : Int), dc⟩ := rfl
        have HCS := Lib.hid hcs
        have hby24 : 24 ≤ 1000 := by decide
        have hbig : out.length ≤ 100000000 := by omega
        have honec : ∀ u ∈ fChunk ⟨(kc : Int), dc⟩, u.oneCell' = true := by
          intro u hu
          simp only [fChunk, List.mem_cons, List.not_mem_nil, or_false] at hu
          rcases hu with rfl | rfl <;> rfl
        have HONE := Lib.hid honec
        have hm0 : ¬ ((am : Int) < 0) := by omega
        have hlen1 : (out ++ [(⟨(kc : Int), dc⟩ : DChunk)]).length = out.length + 1 := by simp
        have HLEN := Lib.hid hlen1
        clear hd hlt hf ha hsa hol hs1 ho1 hf1 p2 hcs honec ham hlen1 p1
        go_wp2_with (first
          | (at_builtin; have := mk1; go_must (refine wpList_appF (f := fChunk) rfl _ _ 45 rfl eltChunk hby24 (.slice A5 out.length c5) out rfl (OOf R) _ _ ⟨(kc : Int), dc⟩ _ (by rw [World.size_alloc]; rfl) HCS.out (fChunk_len _) HONE.out hbig hwr ?_); intro v8 w8 R8 hg8 hat8 hbl8; rw [HLEN.out] at R8; obtain ⟨A8, c8, rfl⟩ := own_form R8; replace Z := Z.below hbl8 (Nat.lt_succ_self _); replace hB : BB w _ := Below.trans hB (hbl8.mono (Nat.le_succ _)))
          | (go_at_call 24; refine (hat _).mono ?_; rintro e w2 ⟨rfl, hx2⟩; replace Z := (Z.below hx2 Z.lt).al (.cells #[.int .i64 (kc : Int), .string dc] 47); replace hB : BB w _ := BB.al (BB.next hB hx2) (.cells #[.int .i64 (kc : Int), .string dc] 47); replace R := OO.al (OO.next R hx2) (.cells #[.int .i64 (kc : Int), .string dc] 47); have hwr : w.heap.size + 1 ≤ (w2.alloc (.cells #[.int .i64 (kc : Int), .string dc] 47)).heap.size := Z.lt; have mk1 := True.intro))
        go_roundw
        case rel => exact ⟨f, am, s, out ++ [⟨(kc : Int), dc⟩], HF.out.1, HF.out.2.1, HF.out.2.2.1, HF.out.2.2.2, rfl, rfl, by rw [HLEN.out]; exact R8, Z, hB, HN⟩
        case measure => (have := HA.out; simp [intOf]; omega)
    obtain ⟨rfl, rfl⟩ := HST.out _ _ _ _ HI.out hlt
    have hae : a = t.size := by omega
    subst hae
    clear HST HSK HTK HI hf ha hsa hlt
    generalize saL t = L at *
    generalize saN t = N at *
    have hB0 := hB
    go_wp2
    go_loopw [49] (fun i wq => ∃ j : Nat, j ≤ L.length ∧ i = .int .i64 (j : Int) ∧ OO wq (w.heap.size + 1) 47 2 (.slice A5 L.length c5) L.length (flat fChunk L) ∧ BX wq w.heap.size 27 [.int .i64 0, .int .i64 0, .int .i64 0, .int .i64 0, .slice none 0 0, .slice none 0 0] ∧ BB w wq ∧ Hid (saX L 0 = saX L j)) (fun i _ => L.length - (intOf i).toNat)
    case atStart => exact ⟨0, Nat.zero_le _, rfl, R, Z, hB, Lib.hid rfl⟩
    case round =>
      clear R Z hB hB0
      obtain ⟨j, hj, rfl, R, Z, hB, HX⟩ := hrel
      by_cases hlt : j < L.length
      rotate_left
      · obtain rfl : j = L.length := by omega
        have HD := Lib.hid (HD2.out (HX.out.trans (saX_end hlt)))
        have hb2 : Below w.heap.size w wr := hB
        have z0 : (_ : Option Value) = some (.int .i64 0) := Z.cell 0 (by simp)
        have z1 : (_ : Option Value) = some (.int .i64 0) := Z.cell 1 (by simp)
        have z2 : (_ : Option Value) = some (.int .i64 0) := Z.cell 2 (by simp)
        have z3 : (_ : Option Value) = some (.int .i64 0) := Z.cell 3 (by simp)
        have z4 : (_ : Option Value) = some (.slice none 0 0) := Z.cell 4 (by simp)
        have z5 : (_ : Option Value) = some (.slice none 0 0) := Z.cell 5 (by simp)
        have hfz := fun j => Z.free j
        go_wp2
        refine bodyPost_ret (v := .tuple #[.agg #[.int .i64 0, .int .i64 0, .int .i64 0, .int .i64 0, .slice none 0 0, .slice none 0 0], .int .i64 0, .int .i64 3]) (by simp [results, Try.results8, go_sem, World.cell?_setCell_other, z0, z1, z2, z3, z4, z5]) rfl ⟨.slice none 0 0, .slice none 0 0, by rw [HD.out]; rfl, by rw [HD.out]; exact World.ownsRow_nil _ _ _ _, by rw [HD.out]; exact World.ownsRow_nil _ _ _ _, .inl rfl, (by with_reducible repeat (first | exact Below.refl _ _ | assumption | refine below_step ?_ (by assumption) | refine Below.drew ?_ | refine below_drewN ?_ _ | refine below_alloc ?_ _ | refine Below.setCell ?_ (by simp; try omega) _))⟩
      obtain ⟨g1, c1, hv⟩ := Go.Joins.ownsRow_form (OOf R) (by omega)
      cases hv
      obtain ⟨a0, a1⟩ := row_cells (OOf R) j hlt
      have hd0 := hLin2 L[j] (List.getElem_mem hlt)
      have hno := fun g => HX.out.trans (saX_no hlt g)
      have hyes := fun g => HX.out.trans (saX_yes hlt g)
      obtain ⟨⟨k0, d0⟩, hx⟩ : ∃ x, L[j] = x := ⟨_, rfl⟩
      rw [hx] at a0 a1 hd0 hno hyes
      have hd9 : d0.size ≤ maxLen := by
        have h9 : d0.size ≤ 1048576 := hd0
        unfold maxLen
        omega
      have hlti : (j : Int) < (L.length : Int) := by omega
      have hwj : IntKind.i64.wrap ((j : Int) + 1) = ((j + 1 : Nat) : Int) := IntWalk.i64_in _ (by omega)
      have HJ := Lib.hid hlt
      clear hx hlt hd0
      have RC := OO.al R (.cells #[.int .i64 k0, .string d0] 47)
      have ZC0 := Z.al (.cells #[.int .i64 k0, .string d0] 47)
      have hBC := BB.al hB (.cells #[.int .i64 k0, .string d0] 47)
      have CC : CP (wr.alloc (.cells #[.int .i64 k0, .string d0] 47)) wr.heap.size [.int .i64 k0, .string d0] := CP.made wr [.int .i64 k0, .string d0] 47
      go_upto_region 16 with fail
      clear R Z hB a0 a1
      generalize wr.heap.size = gc0 at *
      generalize (wr.alloc (.cells #[.int .i64 k0, .string d0] 47)) = w1 at *
      have R := RC
      have Z := ZC0
      have hB := hBC
      clear RC ZC0 hBC
      have x0 : (_ : Option Value) = some (.int .i64 k0) := CC 0 (by simp)
      have x1 : (_ : Option Value) = some (.string d0) := CC 1 (by simp)
      cases hh : hdX ⟨k0, d0⟩
      · have HN := Lib.hid (hno hh)
        cases hb : hdB d0
        · have hdisc := fun W => readHeader_no d0 W hd9 hb
          clear hh hno hyes hb
          by_cases hk1 : k0 = 1
          all_goals
            first
              | (have hbk : (k0 != 1) = false := by (simp [hk1]))
              | (have hbk : (k0 != 1) = true := by simpa using hk1)
            clear hk1
            go_wp2_with (go_at_call 25; refine (hdisc _).mono ?_; rintro e w2 ⟨rfl, hx2⟩; clear x0 x1; have Cn := CP.al (CC.next hx2) (.cells #[.int .i64 0, .int .i64 0, .int .i64 0, .int .i64 0, .slice none 0 0] 24); have x0 : (_ : Option Value) = some (.int .i64 k0) := Cn 0 (by simp); replace Z := (Z.below hx2 Z.lt).al (.cells #[.int .i64 0, .int .i64 0, .int .i64 0, .int .i64 0, .slice none 0 0] 24); replace hB : BB w _ := BB.al (BB.next hB hx2) (.cells #[.int .i64 0, .int .i64 0, .int .i64 0, .int .i64 0, .slice none 0 0] 24); replace R := OO.al (OO.next R hx2) (.cells #[.int .i64 0, .int .i64 0, .int .i64 0, .int .i64 0, .slice none 0 0] 24))
            go_roundw
            case rel => exact ⟨j + 1, HJ.out, rfl, R, Z, hB, Lib.hid HN.out⟩
            case measure => (have := HJ.out; simp [intOf]; omega)
        · have hk1 : ¬ k0 = 1 := fun h => hdX_no hh ⟨h, hb⟩
          have hbk : (k0 != 1) = true := by simpa using hk1
          have hdisc := fun W => readHeader_yes d0 W hb
          generalize (newS (bt d0 3 : Int) (bt d0 4 : Int) (bt d0 5 : Int) (bt d0 6 : Int)) = l0 at *
          generalize (bt d0 3 : Int) = c at *
          generalize (bt d0 4 : Int) = h at *
          generalize (bt d0 5 : Int) = p at *
          generalize (bt d0 6 : Int) = s' at *
          clear hh hno hyes hb hk1
          go_wp2_with (go_at_call 25; refine (hdisc _).mono ?_; rintro e w2 ⟨v2, rfl, hown2, hx2⟩; obtain ⟨A2, c2, rfl⟩ := own_form hown2; clear x0 x1; have Cn := CP.al (CC.next hx2) (.cells #[.int .i64 c, .int .i64 h, .int .i64 p, .int .i64 s', .slice A2 l0.length c2] 24); have x0 : (_ : Option Value) = some (.int .i64 k0) := Cn 0 (by simp); replace Z := (Z.below hx2 Z.lt).al (.cells #[.int .i64 c, .int .i64 h, .int .i64 p, .int .i64 s', .slice A2 l0.length c2] 24); replace hB : BB w _ := BB.al (BB.next hB hx2) (.cells #[.int .i64 c, .int .i64 h, .int .i64 p, .int .i64 s', .slice A2 l0.length c2] 24); replace R := OO.al (OO.next R hx2) (.cells #[.int .i64 c, .int .i64 h, .int .i64 p, .int .i64 s', .slice A2 l0.length c2] 24))
          go_roundw
          case rel => exact ⟨j + 1, HJ.out, rfl, R, Z, hB, Lib.hid HN.out⟩
          case measure => (have := HJ.out; simp [intOf]; omega)
      obtain ⟨hk1, hb⟩ := hdX_yes hh
      subst hk1
      have himg := hyes hh
      clear hh hno hyes
      obtain ⟨n1, n2, n3, n4, n5, n6, n7, n8, n9, n10, n11, n12, n13, n14⟩ := hd_nums hb
      have hdisc := fun W => readHeader_yes d0 W hb
      rw [show newS (bt d0 3 : Int) (bt d0 4 : Int) (bt d0 5 : Int) (bt d0 6 : Int) = hdL d0 from rfl] at hdisc
      unfold bodyS at himg
      rw [n10, n11] at hdisc himg
      generalize hdL d0 = l0 at *
      generalize (bt d0 3 : Int) = c at *
      generalize (bt d0 4 : Int) = h at *
      generalize hdT d0 = T at *
      generalize hdP d0 = P at *
      generalize hdS d0 = s at *
      generalize hdNb d0 = nb at *
      have hNpos : 0 < l0.length := by rw [n9]; exact Nat.mul_pos n14 n3
      obtain ⟨NL, hNL⟩ : ∃ NL, l0.length = NL := ⟨_, rfl⟩
      have HNL : Hid (NL = T * P) := Lib.hid (by rw [← hNL, n9])
      rw [hNL] at hdisc hNpos
      have HL0 := Lib.hid hNL
      obtain ⟨RR0, hRR⟩ : ∃ RR0, foE T P nb s L l0 [] = RR0 := ⟨_, rfl⟩
      rw [hRR] at himg
      have HR0 := Lib.hid hRR
      have HI2 := Lib.hid himg
      clear n9 n12 hNL hb himg hRR HX
      have hbk1 : ((1 : Int) != 1) = false := rfl
      go_wp2_with (go_at_call 25; refine (hdisc _).mono ?_; rintro e w2 ⟨v2, rfl, hown2, hx2⟩; obtain ⟨b, cp, hv⟩ := Go.Joins.ownsRow_form hown2 hNpos; cases hv; clear x0 x1; have Cn := CP.al (CC.next hx2) (.cells #[.int .i64 c, .int .i64 h, .int .i64 (P : Int), .int .i64 s, .slice (some ⟨b, 0, none⟩) NL cp] 24); have x0 : (_ : Option Value) = some (.int .i64 1) := Cn 0 (by simp))
      have hbl := (World.ownsRow.lt hown2 b rfl).2
      have hbw1 := (World.ownsRow.lt hown2 b rfl).1
      have hcp := own_capD hown2
      have hx2s := hx2.size
      have FX : BX ((w2.alloc (.cells #[.int .i64 c, .int .i64 h, .int .i64 (P : Int), .int .i64 s, .slice (some ⟨b, 0, none⟩) NL cp] 24)).alloc (.cells #[.int .i64 c, .int .i64 h, .int .i64 (P : Int), .int .i64 s, .slice (some ⟨b, 0, none⟩) NL cp, .slice none 0 0] 27)) (w2.heap.size + 1) 27 [.int .i64 c, .int .i64 h, .int .i64 (P : Int), .int .i64 s, .slice (some ⟨b, 0, none⟩) NL cp, .slice none 0 0] := BX.made1 w2 (.cells #[.int .i64 c, .int .i64 h, .int .i64 (P : Int), .int .i64 s, .slice (some ⟨b, 0, none⟩) NL cp] 24) 27 [.int .i64 c, .int .i64 h, .int .i64 (P : Int), .int .i64 s, .slice (some ⟨b, 0, none⟩) NL cp, .slice none 0 0]
      have OX : OO ((w2.alloc (.cells #[.int .i64 c, .int .i64 h, .int .i64 (P : Int), .int .i64 s, .slice (some ⟨b, 0, none⟩) NL cp] 24)).alloc (.cells #[.int .i64 c, .int .i64 h, .int .i64 (P : Int), .int .i64 s, .slice (some ⟨b, 0, none⟩) NL cp, .slice none 0 0] 27)) w1.heap.size 90 2 (.slice (some ⟨b, 0, none⟩) NL cp) NL (flat fSector l0) := OO.al (OO.al hown2 (.cells #[.int .i64 c, .int .i64 h, .int .i64 (P : Int), .int .i64 s, .slice (some ⟨b, 0, none⟩) NL cp] 24)) (.cells #[.int .i64 c, .int .i64 h, .int .i64 (P : Int), .int .i64 s, .slice (some ⟨b, 0, none⟩) NL cp, .slice none 0 0] 27)
      have BX1 : Below w1.heap.size w1 ((w2.alloc (.cells #[.int .i64 c, .int .i64 h, .int .i64 (P : Int), .int .i64 s, .slice (some ⟨b, 0, none⟩) NL cp] 24)).alloc (.cells #[.int .i64 c, .int .i64 h, .int .i64 (P : Int), .int .i64 s, .slice (some ⟨b, 0, none⟩) NL cp, .slice none 0 0] 27)) := below_alloc (below_alloc hx2 _) _
      have hgb : w2.heap.size + 1 ≠ b := by omega
      have hbase : w1.heap.size ≤ w2.heap.size + 1 := by omega
      have hz1 : w.heap.size < w1.heap.size := Z.lt
      generalize w2.heap.size + 1 = gx at *
      generalize ((w2.alloc (.cells #[.int .i64 c, .int .i64 h, .int .i64 (P : Int), .int .i64 s, .slice (some ⟨b, 0, none⟩) NL cp] 24)).alloc (.cells #[.int .i64 c, .int .i64 h, .int .i64 (P : Int), .int .i64 s, .slice (some ⟨b, 0, none⟩) NL cp, .slice none 0 0] 27)) = w3 at *
      clear hown2 hx2 hx2s hbl
      obtain ⟨base, hbe⟩ : ∃ base, w1.heap.size = base := ⟨_, rfl⟩
      rw [hbe] at hz1 hbase hbw1 OX BX1
      have HBE := Lib.hid hbe
      clear hbe
      have hz1' := Nat.le_of_lt hz1
      go_loopw [70] (fun i wq => ∃ (k : Nat) (l : List DSector) (n : List ByteArray) (B : Option Addr) (q : Nat), k ≤ L.length ∧ i = .int .i64 (k : Int) ∧ l.length = NL ∧ n.length ≤ 8 ∧ BX wq gx 27 [.int .i64 c, .int .i64 h, .int .i64 (P : Int), .int .i64 s, .slice (some ⟨b, 0, none⟩) NL cp, .slice B n.length q] ∧ wq.ownsRow base 90 2 (.slice (some ⟨b, 0, none⟩) NL cp) NL (flat fSector l) ∧ wq.ownsRow base 9 1 (.slice B n.length q) n.length (flat fS n) ∧ (Value.slice B n.length q).ownBlock ≠ some gx ∧ (Value.slice B n.length q).ownBlock ≠ some b ∧ Below base w1 wq ∧ Hid (foE T P nb s (L.drop k) l n = RR0)) (fun i _ => L.length - (intOf i).toNat)
      case atStart => exact ⟨0, l0, [], none, 0, Nat.zero_le _, rfl, HL0.out, by simp, FX, OX, World.ownsRow_nil _ _ _ _, by simp [Value.ownBlock], by simp [Value.ownBlock], BX1, Lib.hid (by rw [List.drop_zero]; exact HR0.out)⟩
      case round =>
        clear FX OX BX1
        obtain ⟨k, l, n, B, q, hk, rfl, hl, hn8, F, O, K, hgB, hbB, hB1, HG⟩ := hrel
        have hBr : Below w.heap.size w wr := Below.trans hB (hB1.mono hz1')
        have Zr := Z.below hB1 hz1
        by_cases hlt : k < L.length
        · have hlti2 : (k : Int) < (L.length : Int) := by omega
          have hw1 : IntKind.i64.wrap ((k : Int) + 1) = ((k + 1 : Nat) : Int) := IntWalk.i64_in _ (by omega)
          obtain ⟨a0, a1⟩ := row_cells (own_later (OOf R) hB1 (Nat.le_of_eq HBE.out)) k hlt
          have hd := hLin2 L[k] (List.getElem_mem hlt)
          have hN := foE_step hlt HG.out
          obtain ⟨⟨kc, dc⟩, hx⟩ : ∃ x, L[k] = x := ⟨_, rfl⟩
          rw [hx] at a0 a1 hd hN
          have hd2 : dc.size ≤ maxLen := by
            have h9 : dc.size ≤ 1048576 := hd
            unfold maxLen
            omega
          have hbs : base ≤ wr.heap.size := by have := hB1.size; have := HBE.out; omega
          have HLT := Lib.hid hlt
          clear hx hlt hd
          have Fq := F.al (.cells #[.int .i64 kc, .string dc] 47)
          have Cq : CP (wr.alloc (.cells #[.int .i64 kc, .string dc] 47)) wr.heap.size [.int .i64 kc, .string dc] := CP.made wr [.int .i64 kc, .string dc] 47
          have Oq := OO.al O (.cells #[.int .i64 kc, .string dc] 47)
          have Kq := OO.al K (.cells #[.int .i64 kc, .string dc] 47)
          have Bq := Below.alloc hB1 hbs (.cells #[.int .i64 kc, .string dc] 47)
          go_upto_region 22 with fail
          clear a0 a1 F Zr O K hB1 hBr
          have hbs6 : base ≤ (wr.alloc (.cells #[.int .i64 kc, .string dc] 47)).heap.size := Nat.le_trans hbs (by simp)
          generalize wr.heap.size = gc at *
          generalize wr.alloc (.cells #[.int .i64 kc, .string dc] 47) = w6 at *
          have c0 : (_ : Option Value) = some (.int .i64 kc) := Cq 0 (by simp)
          have cd : (_ : Option Value) = some (.string dc) := Cq 1 (by simp)
          have f0 : (_ : Option Value) = some (.int .i64 c) := Fq.cell 0 (by simp)
          have f1 : (_ : Option Value) = some (.int .i64 h) := Fq.cell 1 (by simp)
          have f2 : (_ : Option Value) = some (.int .i64 (P : Int)) := Fq.cell 2 (by simp)
          have f3 : (_ : Option Value) = some (.int .i64 s) := Fq.cell 3 (by simp)
          have f4 : (_ : Option Value) = some (.slice (some ⟨b, 0, none⟩) NL cp) := Fq.cell 4 (by simp)
          have f5 : (_ : Option Value) = some (.slice B n.length q) := Fq.cell 5 (by simp)
          by_cases hk2 : kc = 2
          · subst hk2
            have hcon := readTrackData_any c h s P T nb b cp l dc w6 base hd2 n1 n2 n3 n4 n5 n6 n7 n8 (by rw [hl]; exact HNL.out) (by rw [hl]; exact hcp) (by rw [hl]; exact Oq)
            rw [hl] at hcon
            rw [entL_yes rfl, entN_no (by decide)] at hN
            have HN := Lib.hid hN
            have hl' := rtL_len (T := T) (P := P) (nb := nb) (s := s) (l := l) (by rw [hl]; exact HNL.out) dc
            rw [← HNL.out] at hl'
            generalize rtL T P nb s l dc = l' at *
            generalize (trk T P nb s dc).isSome = bo at *
            clear hN
            go_wp2_with (go_at_call 26; refine hcon.mono ?_; clear hcon; rintro e w7 ⟨rfl, O7, hg7⟩; have F7 := Fq.grown hg7 (by intro e; cases e; exact hgb rfl); have K7 := World.ownsRow.kept (OOf Kq) hg7 (.inr hbB); have B7 := Bq.grown hg7 hbs6 (fun y hy => by cases hy; exact hbw1))
            go_roundw
            case rel => exact ⟨k + 1, l', n, B, q, HLT.out, rfl, hl', hn8, F7, O7, K7, hgB, hbB, B7, HN⟩
            case measure => (have := HLT.out; simp [intOf]; omega)
          have hbk2 : (kc == 2) = false := by simpa using hk2
          rw [entL_no hk2] at hN
          have hvn := fun W => validNote_any dc W hd2
          have same : entN n ⟨kc, dc⟩ = n → Hid (foE T P nb s (L.drop (k + 1)) l n = RR0) := fun e => Lib.hid (by rw [e] at hN; exact hN)
          by_cases hk3 : kc = 3
          rotate_left
          · have hbk3 : (kc == 3) = false := by simpa using hk3
            have HN := same (entN_no hk3)
            clear hk2 hk3 hN same
            go_wp2
            go_roundw
            case rel => exact ⟨k + 1, l, n, B, q, HLT.out, rfl, hl, hn8, Fq, Oq, Kq, hgB, hbB, Bq, HN⟩
            case measure => (have := HLT.out; simp [intOf]; omega)
          subst hk3
          cases hnb1 : noteB dc
          · have HN := same (entN_bad hnb1)
            rw [hnb1] at hvn
            clear hnb1 hN same hk2
            go_wp2_with (go_at_call 27; refine (hvn _).mono ?_; rintro e w7 ⟨rfl, rfl⟩)
            go_roundw
            case rel => exact ⟨k + 1, l, n, B, q, HLT.out, rfl, hl, hn8, Fq, Oq, Kq, hgB, hbB, Bq, HN⟩
            case measure => (have := HLT.out; simp [intOf]; omega)
          rw [hnb1] at hvn
          by_cases h8 : n.length < 8
          rotate_left
          · have HN := same (entN_full h8)
            have hge : ¬ (n.length : Int) < 8 := by omega
            have HN8 := Lib.hid hn8
            clear hnb1 hN same hk2 h8 hn8
            go_wp2_with (go_at_call 27; refine (hvn _).mono ?_; rintro e w7 ⟨rfl, rfl⟩)
            go_roundw
            case rel => exact ⟨k + 1, l, n, B, q, HLT.out, rfl, hl, HN8.out, Fq, Oq, Kq, hgB, hbB, Bq, HN⟩
            case measure => (have := HLT.out; simp [intOf]; omega)
          rw [entN_yes rfl hnb1 h8] at hN
          have HN := Lib.hid hN
          have hge : (n.length : Int) < 8 := by omega
          have hn9 : (n ++ [dc]).length ≤ 8 := by simp; omega
          have hby16 : 16 ≤ 1000 := by decide
          have hnbig : n.length ≤ 100000000 := by omega
          have hgx6 := Fq.lt
          have hb6 := (World.ownsRow.lt (OOf Oq) b rfl).2
          have hlen1 : (n ++ [dc]).length = n.length + 1 := by simp
          have HL1 := Lib.hid hlen1
          clear hnb1 h8 hN hlen1 same hk2
          go_wp2_with (first
            | (at_builtin; go_must (refine wpList_appF (f := fS) rfl _ _ 25 rfl eltStr hby16 (.slice B n.length q) n rfl (OOf Kq) _ _ dc _ rfl rfl rfl (oneStr dc) hnbig hbs6 ?_); intro v8 w8 K8 hg8 hat8 hbl8; obtain ⟨A9, c9, rfl⟩ := own_form K8; have F8 := (Fq.al (.cells #[.string dc] 9)).grown hg8 hgB; have O8 := World.ownsRow.kept (OO.al Oq (.cells #[.string dc] 9)) hg8 (.inr (fun e => hbB e.symm)); have g5 : (_ : Option Value) = some (.slice B n.length q) := F8.cell 5 (by simp); have hfz := fun j => F8.free j; have hg1 : (Value.slice A9 (n ++ [dc]).length c9).ownBlock ≠ some gx := (by rcases hat8 with h | h <;> rw [h] <;> first | exact hgB | (intro e; simp at e; omega)); have hb1 : (Value.slice A9 (n ++ [dc]).length c9).ownBlock ≠ some b := (by rcases hat8 with h | h <;> rw [h] <;> first | exact hbB | (intro e; simp at e; omega)); rw [HL1.out] at K8 hg1 hb1)
            | (go_at_call 27; refine (hvn _).mono ?_; rintro e w7 ⟨rfl, rfl⟩))
          go_roundw
          case rel => exact ⟨k + 1, l, n ++ [dc], A9, c9, HLT.out, rfl, hl, hn9, by rw [HL1.out]; exact F8.put 5 _, OO.putne O8 (a := ⟨gx, 5, none⟩) (by intro e; apply hgb; simpa [Value.ownBlock] using e.symm) _, by rw [HL1.out]; exact OO.putne K8 (a := ⟨gx, 5, none⟩) hg1 _, by rw [HL1.out]; exact hg1, by rw [HL1.out]; exact hb1, Below.setCell (Bq.trans hbl8) hbase _, HN⟩
          case measure => (have := HLT.out; simp [intOf]; omega)
        · obtain rfl : k = L.length := by omega
          have hend := foE_end hlt HG.out
          have HD := Lib.hid (HD3.out _ (by rw [HI2.out, hend]))
          have f0 : (_ : Option Value) = some (.int .i64 c) := F.cell 0 (by simp)
          have f1 : (_ : Option Value) = some (.int .i64 h) := F.cell 1 (by simp)
          have f2 : (_ : Option Value) = some (.int .i64 (P : Int)) := F.cell 2 (by simp)
          have f3 : (_ : Option Value) = some (.int .i64 s) := F.cell 3 (by simp)
          have f4 : (_ : Option Value) = some (.slice (some ⟨b, 0, none⟩) NL cp) := F.cell 4 (by simp)
          have f5 : (_ : Option Value) = some (.slice B n.length q) := F.cell 5 (by simp)
          have Z := Zr
          have z0 : (_ : Option Value) = some (.int .i64 0) := Z.cell 0 (by simp)
          have z1 : (_ : Option Value) = some (.int .i64 0) := Z.cell 1 (by simp)
          have z2 : (_ : Option Value) = some (.int .i64 0) := Z.cell 2 (by simp)
          have z3 : (_ : Option Value) = some (.int .i64 0) := Z.cell 3 (by simp)
          have z4 : (_ : Option Value) = some (.slice none 0 0) := Z.cell 4 (by simp)
          have z5 : (_ : Option Value) = some (.slice none 0 0) := Z.cell 5 (by simp)
          have hfz := fun j => Z.free j
          have O' : World.ownsRow wr base 90 2 (.slice (some ⟨b, 0, none⟩) NL cp) l.length (flat fSector l) := by rw [hl]; exact O
          clear hlt hk hl hend
          go_wp2
          refine bodyPost_ret (v := .tuple #[.agg #[.int .i64 c, .int .i64 h, .int .i64 (P : Int), .int .i64 s, .slice (some ⟨b, 0, none⟩) NL cp, .slice B n.length q], .int .i64 (N : Int), .int .i64 0]) (by simp [results, Try.results8, go_sem, World.cell?_setCell_other, z0, z1, z2, z3, z4, z5]) rfl ⟨.slice (some ⟨b, 0, none⟩) NL cp, .slice B n.length q, by rw [HD.out], ?_, ?_, .inr (fun e => hbB e.symm), (by with_reducible repeat (first | exact Below.refl _ _ | assumption | refine below_step ?_ (by assumption) | refine Below.drew ?_ | refine below_drewN ?_ _ | refine below_alloc ?_ _ | refine Below.setCell ?_ (by simp; try omega) _))⟩
          · rw [HD.out]
            show World.ownsRow _ _ _ _ _ l.length (flat fSector l)
            exact own_base (ownsRow_setCell_below (ownsRow_setCell_below (ownsRow_setCell_below (ownsRow_setCell_below (ownsRow_setCell_below (ownsRow_setCell_below O' hz1 _) hz1 _) hz1 _) hz1 _) hz1 _) hz1 _) hz1'
          · rw [HD.out]
            show World.ownsRow _ _ _ _ _ n.length (flat fS n)
            exact own_base (ownsRow_setCell_below (ownsRow_setCell_below (ownsRow_setCell_below (ownsRow_setCell_below (ownsRow_setCell_below (ownsRow_setCell_below K hz1 _) hz1 _) hz1 _) hz1 _) hz1 _) hz1 _) hz1'
end Go.Proofs.Ytjjcedodjoieoaa
