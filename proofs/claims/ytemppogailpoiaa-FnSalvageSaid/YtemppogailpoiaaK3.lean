/- Walks: the texts SalM W126 CoM CoM2 D1 D2 D3 D4 D5 D30 D31 W200 W201 as one text. -/
import Derived.Test.YtemppogailpoiaaK2
import Derived.Test.YtemppogailpoiaaK4
import Derived.Test.YtemppogailpoiaaW8
import Derived.Test.YtemppogailpoiaaMem4
import Derived.Test.YtemppogailpoiaaStep
import Derived.Test.YtemppogailpoiaaW61
import Derived.Test.YtemppogailpoiaaMem3
import Derived.Test.YtemppogailpoiaaW10
import Derived.Test.YtemppogailpoiaaW1
import Derived.Deep.RegionLaw
import Derived.Test.YtemppogailpoiaaW30
import Derived.Test.YtemppogailpoiaaK1
namespace Go.Proofs.Ytemppogailpoiaa
set_option linter.unusedVariables false
open Go.RowKit

/-- A chunk's parts. -/
theorem dcAt_pts {s : ByteArray} {a k m : Nat} {d : ByteArray} (h : dcAt s a = some (k, d, m)) (ha : a ≤ s.size) : a + m ≤ s.size ∧ m = d.size + 5 ∧ bt s a = k ∧ wd s (a + 1) = d.size ∧ s.extract (a + 3) (a + 3 + d.size) = d ∧ crcOf (s.extract a (a + 3 + d.size)) 65535 = wd s (a + 3 + d.size) := by
  by_cases h5 : s.size < a + 5
  · rw [dcAt_1 h5] at h; cases h
  have h5 : a + 5 ≤ s.size := by omega
  obtain ⟨n, hn⟩ : ∃ n, wd s (a + 1) = n := ⟨_, rfl⟩
  by_cases h2 : n ≤ 8192 ∧ a + 3 + n + 2 ≤ s.size
  · by_cases h3 : okChunk (bt s a : Int) (s.extract (a + 3) (a + 3 + n)) = true ∧ crcOf (s.extract a (a + 3 + n)) 65535 = wd s (a + 3 + n)
    · rw [dcAt_4 h5 hn h2.1 h2.2 h3] at h
      simp only [Option.some.injEq, Prod.mk.injEq] at h
      obtain ⟨rfl, rfl, rfl⟩ := h
      have hsz : (s.extract (a + 3) (a + 3 + n)).size = n := by rw [ByteArray.size_extract]; omega
      rw [hsz]
      exact ⟨by omega, rfl, rfl, hn, rfl, h3.2⟩
    · rw [dcAt_3 h5 hn h2.2 h3] at h; cases h
  · rw [dcAt_2 h5 hn h2] at h; cases h
/-- The chunks that are left, and how many bytes were skipped. -/
def saG (s : ByteArray) : Nat → Nat → List DChunk × Nat
  | 0, _ => ([], 0)
  | f + 1, a => if a < s.size then
      (match dcAt s a with
      | none => ((saG s f (a + 1)).1, (saG s f (a + 1)).2 + 1)
      | some (k, d, m) => (⟨(k : Int), d⟩ :: (saG s f (a + m)).1, (saG s f (a + m)).2))
    else ([], 0)
def saL (s : ByteArray) : List DChunk := (saG s (s.size + 1) 0).1
def saN (s : ByteArray) : Nat := (saG s (s.size + 1) 0).2
/-- Behind some chunks and some skipped bytes. -/
def SaI (s : ByteArray) (out : List DChunk) (sk f a : Nat) : Prop := out ++ (saG s f a).1 = saL s ∧ sk + (saG s f a).2 = saN s
section
variable {s : ByteArray} {out : List DChunk} {sk f a k m : Nat} {d : ByteArray}
theorem SaI.start (s : ByteArray) : SaI s [] 0 (s.size + 1) 0 := ⟨rfl, by rw [Nat.zero_add]; rfl⟩
theorem SaI.skip (h : SaI s out sk (f + 1) a) (ha : a < s.size) (g : dcAt s a = none) : SaI s out (sk + 1) f (a + 1) := by
  unfold SaI at h ⊢
  rw [saG, if_pos ha, g] at h
  obtain ⟨h1, h2⟩ := h
  refine ⟨h1, ?_⟩
  have h3 : sk + ((saG s f (a + 1)).2 + 1) = saN s := h2
  omega
theorem SaI.take (h : SaI s out sk (f + 1) a) (ha : a < s.size) (g : dcAt s a = some (k, d, m)) : SaI s (out ++ [⟨(k : Int), d⟩]) sk f (a + m) := by
  unfold SaI at h ⊢
  rw [saG, if_pos ha, g] at h
  obtain ⟨h1, h2⟩ := h
  refine ⟨?_, h2⟩
  rw [List.append_assoc]
  exact h1
theorem SaI.stop (h : SaI s out sk f a) (ha : ¬ a < s.size) : out = saL s ∧ sk = saN s := by
  unfold SaI at h
  cases f with
  | zero => simpa [saG] using h
  | succ f => rw [saG, if_neg ha] at h; simpa using h
end
theorem saG_in (s : ByteArray) : ∀ (f a : Nat), a ≤ s.size → ∀ x ∈ (saG s f a).1, x.f1.size ≤ s.size
  | 0, a, _, x, hx => by simp [saG] at hx
  | f + 1, a, ha, x, hx => by
    rw [saG] at hx
    split at hx
    · rename_i hlt
      cases hd : dcAt s a with
      | none =>
        rw [hd] at hx
        exact saG_in s f (a + 1) (by omega) x hx
      | some y =>
        obtain ⟨k, d, m⟩ := y
        obtain ⟨h1, h2⟩ := dcAt_le hd ha
        rw [hd] at hx
        rcases List.mem_cons.1 hx with rfl | hx
        · exact h2
        · exact saG_in s f (a + m) h1 x hx
    · simp at hx
theorem saG_len (s : ByteArray) : ∀ (f a : Nat), (saG s f a).1.length ≤ f ∧ (saG s f a).2 ≤ f
  | 0, a => by simp [saG]
  | f + 1, a => by
    rw [saG]
    split
    · split
      · have := saG_len s f (a + 1)
        exact ⟨Nat.le_succ_of_le this.1, Nat.succ_le_succ this.2⟩
      · rename_i k d m _
        have := saG_len s f (a + m)
        exact ⟨Nat.succ_le_succ this.1, Nat.le_succ_of_le this.2⟩
    · simp
theorem saL_in (s : ByteArray) : ∀ x ∈ saL s, x.f1.size ≤ s.size := saG_in s _ 0 (Nat.zero_le _)
theorem saL_len (s : ByteArray) : (saL s).length ≤ s.size + 1 ∧ saN s ≤ s.size + 1 := saG_len s _ 0
/-- Whether a chunk is a header. -/
def hdX (x : DChunk) : Bool := decide (x.f0 = 1) && hdB x.f1
theorem hdX_no {k : Int} {d : ByteArray} (h : hdX ⟨k, d⟩ = false) : ¬ (k = 1 ∧ hdB d = true) := by
  rintro ⟨h1, h2⟩
  simp [hdX, h1, h2] at h
theorem hdX_yes {k : Int} {d : ByteArray} (h : hdX ⟨k, d⟩ = true) : k = 1 ∧ hdB d = true := by
  simpa [hdX] using h
/-- All chunks enter. -/
def foE (T P nb : Nat) (s : Int) : List DChunk → List DSector → List ByteArray → List DSector × List ByteArray
  | [], l, n => (l, n)
  | x :: r, l, n => foE T P nb s r (entL T P nb s l x) (entN n x)
theorem foE_step {T P nb : Nat} {s : Int} {M : List DChunk} {l : List DSector} {n : List ByteArray} {k : Nat} {R : List DSector × List ByteArray} (h : k < M.length) (e : foE T P nb s (M.drop k) l n = R) : foE T P nb s (M.drop (k + 1)) (entL T P nb s l M[k]) (entN n M[k]) = R := by
  rw [List.drop_eq_getElem_cons h, foE] at e
  exact e
theorem foE_end {T P nb : Nat} {s : Int} {M : List DChunk} {l : List DSector} {n : List ByteArray} {k : Nat} {R : List DSector × List ByteArray} (h : ¬ k < M.length) (e : foE T P nb s (M.drop k) l n = R) : R = (l, n) := by
  rw [List.drop_eq_nil_of_le (by omega), foE] at e
  exact e.symm
theorem foE_in {T P nb : Nat} {s : Int} : ∀ (M : List DChunk) (l : List DSector) (n : List ByteArray), l.length = T * P → n.length ≤ 8 → (foE T P nb s M l n).1.length = T * P ∧ (foE T P nb s M l n).2.length ≤ 8
  | [], l, n, h1, h2 => ⟨h1, h2⟩
  | x :: M, l, n, h1, h2 => foE_in M _ _ (entL_len h1 x) (entN_len h2 x)
def bodyS (d : ByteArray) (L : List DChunk) : Im := ⟨(bt d 3 : Int), (bt d 4 : Int), (bt d 5 : Int), (bt d 6 : Int), (foE (hdT d) (hdP d) (hdNb d) (hdS d) L (hdL d) []).1, (foE (hdT d) (hdP d) (hdNb d) (hdS d) L (hdL d) []).2⟩
/-- The image behind the first header among the chunks from a place on. -/
def saX (L : List DChunk) (i : Nat) : Option Im := ((L.drop i).find? hdX).map fun x => bodyS x.f1 L
theorem saX_no {L : List DChunk} {i : Nat} (h : i < L.length) (g : hdX L[i] = false) : saX L i = saX L (i + 1) := by
  unfold saX
  rw [List.drop_eq_getElem_cons h, List.find?_cons, g]
theorem saX_yes {L : List DChunk} {i : Nat} (h : i < L.length) (g : hdX L[i] = true) : saX L i = some (bodyS L[i].f1 L) := by
  unfold saX
  rw [List.drop_eq_getElem_cons h, List.find?_cons, g]
  rfl
theorem saX_end {L : List DChunk} {i : Nat} (h : ¬ i < L.length) : saX L i = none := by
  unfold saX
  rw [List.drop_eq_nil_of_le (by omega)]
  rfl
/-- Image, number of skipped bytes and code. -/
def saR (t : ByteArray) : Im × Int × Int := if 8192 < t.size then (im0, 0, 5) else match saX (saL t) 0 with | none => (im0, 0, 3) | some X => (X, (saN t : Int), 0)
theorem sa_1 {t : ByteArray} (h : 8192 < t.size) : saR t = (im0, 0, 5) := by simp [saR, h]
theorem sa_2 {t : ByteArray} (h : ¬ 8192 < t.size) (g : saX (saL t) 0 = none) : saR t = (im0, 0, 3) := by simp [saR, h, g]
theorem sa_3 {t : ByteArray} (h : ¬ 8192 < t.size) {X : Im} (g : saX (saL t) 0 = some X) : saR t = (X, (saN t : Int), 0) := by simp [saR, h, g]
theorem sa_lens (t : ByteArray) : (saR t).1.l.length ≤ 1048576 ∧ (saR t).1.n.length ≤ 1048576 := by
  by_cases h : 8192 < t.size
  · rw [sa_1 h]; exact ⟨by decide, by decide⟩
  · cases g : saX (saL t) 0 with
    | none => rw [sa_2 h g]; exact ⟨by decide, by decide⟩
    | some X =>
      rw [sa_3 h g]
      unfold saX at g
      cases hf : (List.drop 0 (saL t)).find? hdX with
      | none => rw [hf] at g; cases g
      | some x =>
        rw [hf] at g
        simp only [Option.map_some, Option.some.injEq] at g
        subst g
        have hx := hdX_yes (k := x.f0) (d := x.f1) (List.find?_some hf)
        obtain ⟨n1, n2, n3, n4, n5, n6, n7, n8, n9, -⟩ := hd_nums hx.2
        obtain ⟨k1, k2⟩ := foE_in (saL t) (hdL x.f1) [] (s := hdS x.f1) (nb := hdNb x.f1) n9 (by simp)
        have h3 : hdT x.f1 * hdP x.f1 ≤ 16 * 8 := Nat.mul_le_mul n2 n4
        exact ⟨by show (foE _ _ _ _ _ _ _).1.length ≤ _; omega, by show (foE _ _ _ _ _ _ _).2.length ≤ _; omega⟩
end Go.Proofs.Ytemppogailpoiaa
namespace Go.Proofs.Ytemppogailpoiaa
set_option linter.unusedVariables false
open Go.RowKit

set_option maxRecDepth 100000 in
set_option maxHeartbeats 6000000 in
theorem impl_SalvageImage_any (t : ByteArray) (w : World) (ht : t.size ≤ 1048576) :
    Calls Try.prog 13 #[.string t] w fun e w' => ∃ v u, e = .returned (.tuple #[.agg #[.int .i64 (saR t).1.c, .int .i64 (saR t).1.h, .int .i64 (saR t).1.p, .int .i64 (saR t).1.s, v, u], .int .i64 (saR t).2.1, .int .i64 (saR t).2.2]) ∧ w'.ownsRow w.heap.size 46 2 v (saR t).1.l.length (flat fSector (saR t).1.l) ∧ w'.ownsRow w.heap.size 9 1 u (saR t).1.n.length (flat fS (saR t).1.n) ∧ (v.ownBlock = none ∨ v.ownBlock ≠ u.ownBlock) ∧ Below w.heap.size w w' := by
  have Z : BX (w.alloc (.cells #[.int .i64 0, .int .i64 0, .int .i64 0, .int .i64 0, .slice none 0 0, .slice none 0 0] 29)) w.heap.size 29 [.int .i64 0, .int .i64 0, .int .i64 0, .int .i64 0, .slice none 0 0, .slice none 0 0] := BX.made w 29 [.int .i64 0, .int .i64 0, .int .i64 0, .int .i64 0, .slice none 0 0, .slice none 0 0]
  have hB : BB w (w.alloc (.cells #[.int .i64 0, .int .i64 0, .int .i64 0, .int .i64 0, .slice none 0 0, .slice none 0 0] 29)) := (show Below w.heap.size w (w.alloc (.cells #[.int .i64 0, .int .i64 0, .int .i64 0, .int .i64 0, .slice none 0 0, .slice none 0 0] 29)) from (by with_reducible repeat (first | exact Below.refl _ _ | assumption | refine below_step ?_ (by assumption) | refine Below.drew ?_ | refine below_drewN ?_ _ | refine below_alloc ?_ _ | refine Below.setCell ?_ (by simp; try omega) _)))
  by_cases hbig : 8192 < t.size
  · have HD := Lib.hid (sa_1 hbig)
    have hbi : (8192 : Int) < (t.size : Int) := by omega
    have hb2 : Below w.heap.size w (w.alloc (.cells #[.int .i64 0, .int .i64 0, .int .i64 0, .int .i64 0, .slice none 0 0, .slice none 0 0] 29)) := hB
    have z0 : (_ : Option Value) = some (.int .i64 0) := Z.cell 0 (by simp)
    have z1 : (_ : Option Value) = some (.int .i64 0) := Z.cell 1 (by simp)
    have z2 : (_ : Option Value) = some (.int .i64 0) := Z.cell 2 (by simp)
    have z3 : (_ : Option Value) = some (.int .i64 0) := Z.cell 3 (by simp)
    have z4 : (_ : Option Value) = some (.slice none 0 0) := Z.cell 4 (by simp)
    have z5 : (_ : Option Value) = some (.slice none 0 0) := Z.cell 5 (by simp)
    have hfz := fun j => Z.free j
    clear hbig
    go_enter Try.func13, Try.ntmps13
    go_wp2
    refine bodyPost_ret (v := .tuple #[.agg #[.int .i64 0, .int .i64 0, .int .i64 0, .int .i64 0, .slice none 0 0, .slice none 0 0], .int .i64 0, .int .i64 5]) (by simp [results, Try.results13, go_sem, z0, z1, z2, z3, z4, z5]) rfl ⟨.slice none 0 0, .slice none 0 0, by rw [HD.out]; rfl, by rw [HD.out]; exact World.ownsRow_nil _ _ _ _, by rw [HD.out]; exact World.ownsRow_nil _ _ _ _, .inl rfl, (by with_reducible repeat (first | exact Below.refl _ _ | assumption | refine below_step ?_ (by assumption) | refine Below.drew ?_ | refine below_drewN ?_ _ | refine below_alloc ?_ _ | refine Below.setCell ?_ (by simp; try omega) _))⟩
  have hbi : ¬ (8192 : Int) < (t.size : Int) := by omega
  have HD2 := Lib.hid (fun (g : saX (saL t) 0 = none) => sa_2 hbig g)
  have HD3 := Lib.hid (fun (X : Im) (g : saX (saL t) 0 = some X) => sa_3 hbig g)
  have hLin2 : ∀ x ∈ saL t, x.f1.size ≤ 1048576 := fun x hx => Nat.le_trans (saL_in t x hx) ht
  obtain ⟨hLl, hNl⟩ := saL_len t
  have hts : t.size ≤ 8192 := by omega
  have hst0 := SaI.start t
  have HST := Lib.hid (fun (out : List DChunk) (sk f a : Nat) (h : SaI t out sk f a) (ha : ¬ a < t.size) => SaI.stop h ha)
  have HSK := Lib.hid (fun (out : List DChunk) (sk f a : Nat) (h : SaI t out sk (f + 1) a) (ha : a < t.size) (g : dcAt t a = none) => SaI.skip h ha g)
  have HTK := Lib.hid (fun (out : List DChunk) (sk f a k m : Nat) (d : ByteArray) (h : SaI t out sk (f + 1) a) (ha : a < t.size) (g : dcAt t a = some (k, d, m)) => SaI.take h ha g)
  clear hbig
  go_enter Try.func13, Try.ntmps13
  go_wp2
  have R0 : OO (w.alloc (.cells #[.int .i64 0, .int .i64 0, .int .i64 0, .int .i64 0, .slice none 0 0, .slice none 0 0] 29)) (w.heap.size + 1) 41 2 (.slice none 0 0) 0 (flat fChunk []) := World.ownsRow_nil _ _ _ _
  have Z1 := Z
  have hB1 := hB
  clear Z hB
  go_loopw [5, 6, 7] (fun v sk i wr => ∃ (f a s : Nat) (out : List DChunk), t.size + 1 ≤ f + a ∧ a ≤ t.size ∧ s ≤ a ∧ out.length ≤ a ∧ sk = .int .i64 (s : Int) ∧ i = .int .i64 (a : Int) ∧ OO wr (w.heap.size + 1) 41 2 v out.length (flat fChunk out) ∧ BX wr w.heap.size 29 [.int .i64 0, .int .i64 0, .int .i64 0, .int .i64 0, .slice none 0 0, .slice none 0 0] ∧ BB w wr ∧ Hid (SaI t out s f a)) (fun _ _ i _ => t.size - (intOf i).toNat)
  case atStart => exact ⟨t.size + 1, 0, 0, [], by omega, Nat.zero_le _, Nat.le_refl _, by simp, rfl, rfl, R0, Z1, hB1, Lib.hid hst0⟩
  case round =>
    clear R0 Z1 hB1 hst0
    obtain ⟨f, a, s, out, hf, ha, hsa, hol, rfl, rfl, R, Z, hB, HI⟩ := hrel
    obtain ⟨A5, c5, rfl⟩ := own_form R
    by_cases hlt : a < t.size
    · obtain ⟨f, rfl⟩ : ∃ f', f = f' + 1 := ⟨f - 1, by omega⟩
      have hlti : (a : Int) < (t.size : Int) := by omega
      have hai : (a : Int) ≤ (t.size : Int) := by omega
      have hwa : IntKind.i64.wrap ((a : Int) + 1) = ((a + 1 : Nat) : Int) := IntWalk.i64_in _ (by omega)
      have hws : IntKind.i64.wrap ((s : Int) + 1) = ((s + 1 : Nat) : Int) := IntWalk.i64_in _ (by omega)
      have hat : ∀ W, Calls Try.prog 25 #[.string (t.extract a t.size)] W fun e w' => e = rDc (dcAt t a) ∧ Below W.heap.size W w' := fun W => decodeChunk_any (t.extract a t.size) W (by rw [ByteArray.size_extract]; omega)
      cases hd : dcAt t a with
      | none =>
        have HN := Lib.hid (HSK.out _ _ _ _ HI.out hlt hd)
        have hl1 : a + 1 ≤ t.size := hlt
        have hs1 : s + 1 ≤ a + 1 := by omega
        have ho1 : out.length ≤ a + 1 := by omega
        have hf1 : t.size + 1 ≤ f + (a + 1) := by omega
        rw [hd] at hat
        replace hat : ∀ W, Calls Try.prog 25 _ W fun e w' => e = .returned (.tuple #[.agg #[.int .i64 0, .string ⟨#[]⟩], .int .i64 0, .bool false]) ∧ Below W.heap.size W w' := hat
        have HF := Lib.hid (And.intro hf1 (And.intro hl1 (And.intro hs1 ho1)))
        have HA := Lib.hid hlt
        clear hd hlt hf ha hsa hol hl1 hs1 ho1 hf1
        go_wp2_with (go_at_call 25; refine (hat _).mono ?_; rintro e w2 ⟨rfl, hx2⟩; replace Z := (Z.below hx2 Z.lt).al (.cells #[.int .i64 0, .string ⟨#[]⟩] 41); replace hB : BB w _ := BB.al (BB.next hB hx2) (.cells #[.int .i64 0, .string ⟨#[]⟩] 41); replace R := OO.al (OO.next R hx2) (.cells #[.int .i64 0, .string ⟨#[]⟩] 41))
        go_roundw
        case rel => exact ⟨f, a + 1, s + 1, out, HF.out.1, HF.out.2.1, HF.out.2.2.1, HF.out.2.2.2, rfl, rfl, R, Z, hB, HN⟩
        case measure => (have := HA.out; simp [intOf]; omega)
      | some y =>
        obtain ⟨kc, dc, m⟩ := y
        have HN := Lib.hid (HTK.out _ _ _ _ _ _ _ HI.out hlt hd)
        obtain ⟨p1, p2, -⟩ := dcAt_pts hd ha
        rw [hd] at hat
        replace hat : ∀ W, Calls Try.prog 25 _ W fun e w' => e = .returned (.tuple #[.agg #[.int .i64 (kc : Int), .string dc], .int .i64 (m : Int), .bool true]) ∧ Below W.heap.size W w' := hat
        have hwm : IntKind.i64.wrap ((a : Int) + (m : Int)) = ((a + m : Nat) : Int) := by rw [← Int.natCast_add]; exact IntWalk.i64_in _ (by omega)
        obtain ⟨am, ham⟩ : ∃ am, a + m = am := ⟨_, rfl⟩
        rw [ham] at hwm p1 HN
        have hs1 : s ≤ am := by omega
        have ho1 : (out ++ [(⟨(kc : Int), dc⟩ : DChunk)]).length ≤ am := by rw [List.length_append, List.length_singleton]; omega
        have hf1 : t.size + 1 ≤ f + am := by omega
        have HF := Lib.hid (And.intro hf1 (And.intro p1 (And.intro hs1 ho1)))
        have HA := Lib.hid (show a < am ∧ am ≤ t.size from ⟨by omega, p1⟩)
        have hcs : (#[.int .i64 (kc : Int), .string dc] : Array Value).toList = fChunk ⟨(kc : Int), dc⟩ := rfl
        have HCS := Lib.hid hcs
        have hby24 : 24 ≤ 1000 := by decide
        have hbig : out.length ≤ 100000000 := by omega
        have honec : ∀ u ∈ fChunk ⟨(kc : Int), dc⟩, u.oneCell' = true := by
          intro u hu
          simp only [fChunk, List.mem_cons, List.not_mem_nil, or_false] at hu
          rcases hu with rfl | rfl <;> rfl
        have HONE := Lib.hid honec
        have hm0 : ¬ ((am : Int) < 0) := by omega
        have hlen1 : (out ++ [(⟨(kc : Int), dc⟩ : DChunk)]).length = out.length + 1 := by simp
        have HLEN := Lib.hid hlen1
        clear hd hlt hf ha hsa hol hs1 ho1 hf1 p2 hcs honec ham hlen1 p1
        go_wp2_with (first
          | (at_builtin; have := mk1; go_must (refine wpList_appF (f := fChunk) rfl _ _ 36 rfl eltChunk hby24 (.slice A5 out.length c5) out rfl (OOf R) _ _ ⟨(kc : Int), dc⟩ _ (by rw [World.size_alloc]; rfl) HCS.out (fChunk_len _) HONE.out hbig hwr ?_); intro v8 w8 R8 hg8 hat8 hbl8; rw [HLEN.out] at R8; obtain ⟨A8, c8, rfl⟩ := own_form R8; replace Z := Z.below hbl8 (Nat.lt_succ_self _); replace hB : BB w _ := Below.trans hB (hbl8.mono (Nat.le_succ _)))
          | (go_at_call 25; refine (hat _).mono ?_; rintro e w2 ⟨rfl, hx2⟩; replace Z := (Z.below hx2 Z.lt).al (.cells #[.int .i64 (kc : Int), .string dc] 41); replace hB : BB w _ := BB.al (BB.next hB hx2) (.cells #[.int .i64 (kc : Int), .string dc] 41); replace R := OO.al (OO.next R hx2) (.cells #[.int .i64 (kc : Int), .string dc] 41); have hwr : w.heap.size + 1 ≤ (w2.alloc (.cells #[.int .i64 (kc : Int), .string dc] 41)).heap.size := Z.lt; have mk1 := True.intro))
        go_roundw
        case rel => exact ⟨f, am, s, out ++ [⟨(kc : Int), dc⟩], HF.out.1, HF.out.2.1, HF.out.2.2.1, HF.out.2.2.2, rfl, rfl, by rw [HLEN.out]; exact R8, Z, hB, HN⟩
        case measure => (have := HA.out; simp [intOf]; omega)
    obtain ⟨rfl, rfl⟩ := HST.out _ _ _ _ HI.out hlt
    have hae : a = t.size := by omega
    subst hae
    clear HST HSK HTK HI hf ha hsa hlt
    generalize saL t = L at *
    generalize saN t = N at *
    have hB0 := hB
    go_wp2
    go_loopw [49] (fun i wq => ∃ j : Nat, j ≤ L.length ∧ i = .int .i64 (j : Int) ∧ OO wq (w.heap.size + 1) 41 2 (.slice A5 L.length c5) L.length (flat fChunk L) ∧ BX wq w.heap.size 29 [.int .i64 0, .int .i64 0, .int .i64 0, .int .i64 0, .slice none 0 0, .slice none 0 0] ∧ BB w wq ∧ Hid (saX L 0 = saX L j)) (fun i _ => L.length - (intOf i).toNat)
    case atStart => exact ⟨0, Nat.zero_le _, rfl, R, Z, hB, Lib.hid rfl⟩
    case round =>
      clear R Z hB hB0
      obtain ⟨j, hj, rfl, R, Z, hB, HX⟩ := hrel
      by_cases hlt : j < L.length
      rotate_left
      · obtain rfl : j = L.length := by omega
        have HD := Lib.hid (HD2.out (HX.out.trans (saX_end hlt)))
        have hb2 : Below w.heap.size w wr := hB
        have z0 : (_ : Option Value) = some (.int .i64 0) := Z.cell 0 (by simp)
        have z1 : (_ : Option Value) = some (.int .i64 0) := Z.cell 1 (by simp)
        have z2 : (_ : Option Value) = some (.int .i64 0) := Z.cell 2 (by simp)
        have z3 : (_ : Option Value) = some (.int .i64 0) := Z.cell 3 (by simp)
        have z4 : (_ : Option Value) = some (.slice none 0 0) := Z.cell 4 (by simp)
        have z5 : (_ : Option Value) = some (.slice none 0 0) := Z.cell 5 (by simp)
        have hfz := fun j => Z.free j
        go_wp2
        refine bodyPost_ret (v := .tuple #[.agg #[.int .i64 0, .int .i64 0, .int .i64 0, .int .i64 0, .slice none 0 0, .slice none 0 0], .int .i64 0, .int .i64 3]) (by simp [results, Try.results13, go_sem, World.cell?_setCell_other, z0, z1, z2, z3, z4, z5]) rfl ⟨.slice none 0 0, .slice none 0 0, by rw [HD.out]; rfl, by rw [HD.out]; exact World.ownsRow_nil _ _ _ _, by rw [HD.out]; exact World.ownsRow_nil _ _ _ _, .inl rfl, (by with_reducible repeat (first | exact Below.refl _ _ | assumption | refine below_step ?_ (by assumption) | refine Below.drew ?_ | refine below_drewN ?_ _ | refine below_alloc ?_ _ | refine Below.setCell ?_ (by simp; try omega) _))⟩
      obtain ⟨g1, c1, hv⟩ := Go.Joins.ownsRow_form (OOf R) (by omega)
      cases hv
      obtain ⟨a0, a1⟩ := row_cells (OOf R) j hlt
      have hd0 := hLin2 L[j] (List.getElem_mem hlt)
      have hno := fun g => HX.out.trans (saX_no hlt g)
      have hyes := fun g => HX.out.trans (saX_yes hlt g)
      obtain ⟨⟨k0, d0⟩, hx⟩ : ∃ x, L[j] = x := ⟨_, rfl⟩
      rw [hx] at a0 a1 hd0 hno hyes
      have hd9 : d0.size ≤ maxLen := by
        have h9 : d0.size ≤ 1048576 := hd0
        unfold maxLen
        omega
      have hlti : (j : Int) < (L.length : Int) := by omega
      have hwj : IntKind.i64.wrap ((j : Int) + 1) = ((j + 1 : Nat) : Int) := IntWalk.i64_in _ (by omega)
      have HJ := Lib.hid hlt
      clear hx hlt hd0
      have RC := OO.al R (.cells #[.int .i64 k0, .string d0] 41)
      have ZC0 := Z.al (.cells #[.int .i64 k0, .string d0] 41)
      have hBC := BB.al hB (.cells #[.int .i64 k0, .string d0] 41)
      have CC : CP (wr.alloc (.cells #[.int .i64 k0, .string d0] 41)) wr.heap.size [.int .i64 k0, .string d0] := CP.made wr [.int .i64 k0, .string d0] 41
      go_upto_region 16 with fail
      clear R Z hB a0 a1
      generalize wr.heap.size = gc0 at *
      generalize (wr.alloc (.cells #[.int .i64 k0, .string d0] 41)) = w1 at *
      have R := RC
      have Z := ZC0
      have hB := hBC
      clear RC ZC0 hBC
      have x0 : (_ : Option Value) = some (.int .i64 k0) := CC 0 (by simp)
      have x1 : (_ : Option Value) = some (.string d0) := CC 1 (by simp)
      cases hh : hdX ⟨k0, d0⟩
      · have HN := Lib.hid (hno hh)
        cases hb : hdB d0
        · have hdisc := fun W => readHeader_no d0 W hd9 hb
          clear hh hno hyes hb
          by_cases hk1 : k0 = 1
          all_goals
            first
              | (have hbk : (k0 != 1) = false := by (simp [hk1]))
              | (have hbk : (k0 != 1) = true := by simpa using hk1)
            clear hk1
            go_wp2_with (go_at_call 28; refine (hdisc _).mono ?_; rintro e w2 ⟨rfl, hx2⟩; clear x0 x1; have Cn := CP.al (CC.next hx2) (.cells #[.int .i64 0, .int .i64 0, .int .i64 0, .int .i64 0, .slice none 0 0] 26); have x0 : (_ : Option Value) = some (.int .i64 k0) := Cn 0 (by simp); replace Z := (Z.below hx2 Z.lt).al (.cells #[.int .i64 0, .int .i64 0, .int .i64 0, .int .i64 0, .slice none 0 0] 26); replace hB : BB w _ := BB.al (BB.next hB hx2) (.cells #[.int .i64 0, .int .i64 0, .int .i64 0, .int .i64 0, .slice none 0 0] 26); replace R := OO.al (OO.next R hx2) (.cells #[.int .i64 0, .int .i64 0, .int .i64 0, .int .i64 0, .slice none 0 0] 26))
            go_roundw
            case rel => exact ⟨j + 1, HJ.out, rfl, R, Z, hB, Lib.hid HN.out⟩
            case measure => (have := HJ.out; simp [intOf]; omega)
        · have hk1 : ¬ k0 = 1 := fun h => hdX_no hh ⟨h, hb⟩
          have hbk : (k0 != 1) = true := by simpa using hk1
          have hdisc := fun W => readHeader_yes d0 W hb
          generalize (newS (bt d0 3 : Int) (bt d0 4 : Int) (bt d0 5 : Int) (bt d0 6 : Int)) = l0 at *
          generalize (bt d0 3 : Int) = c at *
          generalize (bt d0 4 : Int) = h at *
          generalize (bt d0 5 : Int) = p at *
          generalize (bt d0 6 : Int) = s' at *
          clear hh hno hyes hb hk1
          go_wp2_with (go_at_call 28; refine (hdisc _).mono ?_; rintro e w2 ⟨v2, rfl, hown2, hx2⟩; obtain ⟨A2, c2, rfl⟩ := own_form hown2; clear x0 x1; have Cn := CP.al (CC.next hx2) (.cells #[.int .i64 c, .int .i64 h, .int .i64 p, .int .i64 s', .slice A2 l0.length c2] 26); have x0 : (_ : Option Value) = some (.int .i64 k0) := Cn 0 (by simp); replace Z := (Z.below hx2 Z.lt).al (.cells #[.int .i64 c, .int .i64 h, .int .i64 p, .int .i64 s', .slice A2 l0.length c2] 26); replace hB : BB w _ := BB.al (BB.next hB hx2) (.cells #[.int .i64 c, .int .i64 h, .int .i64 p, .int .i64 s', .slice A2 l0.length c2] 26); replace R := OO.al (OO.next R hx2) (.cells #[.int .i64 c, .int .i64 h, .int .i64 p, .int .i64 s', .slice A2 l0.length c2] 26))
          go_roundw
          case rel => exact ⟨j + 1, HJ.out, rfl, R, Z, hB, Lib.hid HN.out⟩
          case measure => (have := HJ.out; simp [intOf]; omega)
      obtain ⟨hk1, hb⟩ := hdX_yes hh
      subst hk1
      have himg := hyes hh
      clear hh hno hyes
      obtain ⟨n1, n2, n3, n4, n5, n6, n7, n8, n9, n10, n11, n12, n13, n14⟩ := hd_nums hb
      have hdisc := fun W => readHeader_yes d0 W hb
      rw [show newS (bt d0 3 : Int) (bt d0 4 : Int) (bt d0 5 : Int) (bt d0 6 : Int) = hdL d0 from rfl] at hdisc
      unfold bodyS at himg
      rw [n10, n11] at hdisc himg
      generalize hdL d0 = l0 at *
      generalize (bt d0 3 : Int) = c at *
      generalize (bt d0 4 : Int) = h at *
      generalize hdT d0 = T at *
      generalize hdP d0 = P at *
      generalize hdS d0 = s at *
      generalize hdNb d0 = nb at *
      have hNpos : 0 < l0.length := by rw [n9]; exact Nat.mul_pos n14 n3
      obtain ⟨NL, hNL⟩ : ∃ NL, l0.length = NL := ⟨_, rfl⟩
      have HNL : Hid (NL = T * P) := Lib.hid (by rw [← hNL, n9])
      rw [hNL] at hdisc hNpos
      have HL0 := Lib.hid hNL
      obtain ⟨RR0, hRR⟩ : ∃ RR0, foE T P nb s L l0 [] = RR0 := ⟨_, rfl⟩
      rw [hRR] at himg
      have HR0 := Lib.hid hRR
      have HI2 := Lib.hid himg
      clear n9 n12 hNL hb himg hRR HX
      have hbk1 : ((1 : Int) != 1) = false := rfl
      go_wp2_with (go_at_call 28; refine (hdisc _).mono ?_; rintro e w2 ⟨v2, rfl, hown2, hx2⟩; obtain ⟨b, cp, hv⟩ := Go.Joins.ownsRow_form hown2 hNpos; cases hv; clear x0 x1; have Cn := CP.al (CC.next hx2) (.cells #[.int .i64 c, .int .i64 h, .int .i64 (P : Int), .int .i64 s, .slice (some ⟨b, 0, none⟩) NL cp] 26); have x0 : (_ : Option Value) = some (.int .i64 1) := Cn 0 (by simp))
      have hbl := (World.ownsRow.lt hown2 b rfl).2
      have hbw1 := (World.ownsRow.lt hown2 b rfl).1
      have hcp := own_capD hown2
      have hx2s := hx2.size
      have FX : BX ((w2.alloc (.cells #[.int .i64 c, .int .i64 h, .int .i64 (P : Int), .int .i64 s, .slice (some ⟨b, 0, none⟩) NL cp] 26)).alloc (.cells #[.int .i64 c, .int .i64 h, .int .i64 (P : Int), .int .i64 s, .slice (some ⟨b, 0, none⟩) NL cp, .slice none 0 0] 29)) (w2.heap.size + 1) 29 [.int .i64 c, .int .i64 h, .int .i64 (P : Int), .int .i64 s, .slice (some ⟨b, 0, none⟩) NL cp, .slice none 0 0] := BX.made1 w2 (.cells #[.int .i64 c, .int .i64 h, .int .i64 (P : Int), .int .i64 s, .slice (some ⟨b, 0, none⟩) NL cp] 26) 29 [.int .i64 c, .int .i64 h, .int .i64 (P : Int), .int .i64 s, .slice (some ⟨b, 0, none⟩) NL cp, .slice none 0 0]
      have OX : OO ((w2.alloc (.cells #[.int .i64 c, .int .i64 h, .int .i64 (P : Int), .int .i64 s, .slice (some ⟨b, 0, none⟩) NL cp] 26)).alloc (.cells #[.int .i64 c, .int .i64 h, .int .i64 (P : Int), .int .i64 s, .slice (some ⟨b, 0, none⟩) NL cp, .slice none 0 0] 29)) w1.heap.size 46 2 (.slice (some ⟨b, 0, none⟩) NL cp) NL (flat fSector l0) := OO.al (OO.al hown2 (.cells #[.int .i64 c, .int .i64 h, .int .i64 (P : Int), .int .i64 s, .slice (some ⟨b, 0, none⟩) NL cp] 26)) (.cells #[.int .i64 c, .int .i64 h, .int .i64 (P : Int), .int .i64 s, .slice (some ⟨b, 0, none⟩) NL cp, .slice none 0 0] 29)
      have BX1 : Below w1.heap.size w1 ((w2.alloc (.cells #[.int .i64 c, .int .i64 h, .int .i64 (P : Int), .int .i64 s, .slice (some ⟨b, 0, none⟩) NL cp] 26)).alloc (.cells #[.int .i64 c, .int .i64 h, .int .i64 (P : Int), .int .i64 s, .slice (some ⟨b, 0, none⟩) NL cp, .slice none 0 0] 29)) := below_alloc (below_alloc hx2 _) _
      have hgb : w2.heap.size + 1 ≠ b := by omega
      have hbase : w1.heap.size ≤ w2.heap.size + 1 := by omega
      have hz1 : w.heap.size < w1.heap.size := Z.lt
      generalize w2.heap.size + 1 = gx at *
      generalize ((w2.alloc (.cells #[.int .i64 c, .int .i64 h, .int .i64 (P : Int), .int .i64 s, .slice (some ⟨b, 0, none⟩) NL cp] 26)).alloc (.cells #[.int .i64 c, .int .i64 h, .int .i64 (P : Int), .int .i64 s, .slice (some ⟨b, 0, none⟩) NL cp, .slice none 0 0] 29)) = w3 at *
      clear hown2 hx2 hx2s hbl
      obtain ⟨base, hbe⟩ : ∃ base, w1.heap.size = base := ⟨_, rfl⟩
      rw [hbe] at hz1 hbase hbw1 OX BX1
      have HBE := Lib.hid hbe
      clear hbe
      have hz1' := Nat.le_of_lt hz1
      go_loopw [70] (fun i wq => ∃ (k : Nat) (l : List DSector) (n : List ByteArray) (B : Option Addr) (q : Nat), k ≤ L.length ∧ i = .int .i64 (k : Int) ∧ l.length = NL ∧ n.length ≤ 8 ∧ BX wq gx 29 [.int .i64 c, .int .i64 h, .int .i64 (P : Int), .int .i64 s, .slice (some ⟨b, 0, none⟩) NL cp, .slice B n.length q] ∧ wq.ownsRow base 46 2 (.slice (some ⟨b, 0, none⟩) NL cp) NL (flat fSector l) ∧ wq.ownsRow base 9 1 (.slice B n.length q) n.length (flat fS n) ∧ (Value.slice B n.length q).ownBlock ≠ some gx ∧ (Value.slice B n.length q).ownBlock ≠ some b ∧ Below base w1 wq ∧ Hid (foE T P nb s (L.drop k) l n = RR0)) (fun i _ => L.length - (intOf i).toNat)
      case atStart => exact ⟨0, l0, [], none, 0, Nat.zero_le _, rfl, HL0.out, by simp, FX, OX, World.ownsRow_nil _ _ _ _, by simp [Value.ownBlock], by simp [Value.ownBlock], BX1, Lib.hid (by rw [List.drop_zero]; exact HR0.out)⟩
      case round =>
        clear FX OX BX1
        obtain ⟨k, l, n, B, q, hk, rfl, hl, hn8, F, O, K, hgB, hbB, hB1, HG⟩ := hrel
        have hBr : Below w.heap.size w wr := Below.trans hB (hB1.mono hz1')
        have Zr := Z.below hB1 hz1
        by_cases hlt : k < L.length
        · have hlti2 : (k : Int) < (L.length : Int) := by omega
          have hw1 : IntKind.i64.wrap ((k : Int) + 1) = ((k + 1 : Nat) : Int) := IntWalk.i64_in _ (by omega)
          obtain ⟨a0, a1⟩ := row_cells (own_later (OOf R) hB1 (Nat.le_of_eq HBE.out)) k hlt
          have hd := hLin2 L[k] (List.getElem_mem hlt)
          have hN := foE_step hlt HG.out
          obtain ⟨⟨kc, dc⟩, hx⟩ : ∃ x, L[k] = x := ⟨_, rfl⟩
          rw [hx] at a0 a1 hd hN
          have hd2 : dc.size ≤ maxLen := by
            have h9 : dc.size ≤ 1048576 := hd
            unfold maxLen
            omega
          have hbs : base ≤ wr.heap.size := by have := hB1.size; have := HBE.out; omega
          have HLT := Lib.hid hlt
          clear hx hlt hd
          have Fq := F.al (.cells #[.int .i64 kc, .string dc] 41)
          have Cq : CP (wr.alloc (.cells #[.int .i64 kc, .string dc] 41)) wr.heap.size [.int .i64 kc, .string dc] := CP.made wr [.int .i64 kc, .string dc] 41
          have Oq := OO.al O (.cells #[.int .i64 kc, .string dc] 41)
          have Kq := OO.al K (.cells #[.int .i64 kc, .string dc] 41)
          have Bq := Below.alloc hB1 hbs (.cells #[.int .i64 kc, .string dc] 41)
          go_upto_region 22 with fail
          clear a0 a1 F Zr O K hB1 hBr
          have hbs6 : base ≤ (wr.alloc (.cells #[.int .i64 kc, .string dc] 41)).heap.size := Nat.le_trans hbs (by simp)
          generalize wr.heap.size = gc at *
          generalize wr.alloc (.cells #[.int .i64 kc, .string dc] 41) = w6 at *
          have c0 : (_ : Option Value) = some (.int .i64 kc) := Cq 0 (by simp)
          have cd : (_ : Option Value) = some (.string dc) := Cq 1 (by simp)
          have f0 : (_ : Option Value) = some (.int .i64 c) := Fq.cell 0 (by simp)
          have f1 : (_ : Option Value) = some (.int .i64 h) := Fq.cell 1 (by simp)
          have f2 : (_ : Option Value) = some (.int .i64 (P : Int)) := Fq.cell 2 (by simp)
          have f3 : (_ : Option Value) = some (.int .i64 s) := Fq.cell 3 (by simp)
          have f4 : (_ : Option Value) = some (.slice (some ⟨b, 0, none⟩) NL cp) := Fq.cell 4 (by simp)
          have f5 : (_ : Option Value) = some (.slice B n.length q) := Fq.cell 5 (by simp)
          by_cases hk2 : kc = 2
          · subst hk2
            have hcon := readTrackData_any c h s P T nb b cp l dc w6 base hd2 n1 n2 n3 n4 n5 n6 n7 n8 (by rw [hl]; exact HNL.out) (by rw [hl]; exact hcp) (by rw [hl]; exact Oq)
            rw [hl] at hcon
            rw [entL_yes rfl, entN_no (by decide)] at hN
            have HN := Lib.hid hN
            have hl' := rtL_len (T := T) (P := P) (nb := nb) (s := s) (l := l) (by rw [hl]; exact HNL.out) dc
            rw [← HNL.out] at hl'
            generalize rtL T P nb s l dc = l' at *
            generalize (trk T P nb s dc).isSome = bo at *
            clear hN
            go_wp2_with (go_at_call 29; refine hcon.mono ?_; clear hcon; rintro e w7 ⟨rfl, O7, hg7⟩; have F7 := Fq.grown hg7 (by intro e; cases e; exact hgb rfl); have K7 := World.ownsRow.kept (OOf Kq) hg7 (.inr hbB); have B7 := Bq.grown hg7 hbs6 (fun y hy => by cases hy; exact hbw1))
            go_roundw
            case rel => exact ⟨k + 1, l', n, B, q, HLT.out, rfl, hl', hn8, F7, O7, K7, hgB, hbB, B7, HN⟩
            case measure => (have := HLT.out; simp [intOf]; omega)
          have hbk2 : (kc == 2) = false := by simpa using hk2
          rw [entL_no hk2] at hN
          have hvn := fun W => validNote_any dc W hd2
          have same : entN n ⟨kc, dc⟩ = n → Hid (foE T P nb s (L.drop (k + 1)) l n = RR0) := fun e => Lib.hid (by rw [e] at hN; exact hN)
          by_cases hk3 : kc = 3
          rotate_left
          · have hbk3 : (kc == 3) = false := by simpa using hk3
            have HN := same (entN_no hk3)
            clear hk2 hk3 hN same
            go_wp2
            go_roundw
            case rel => exact ⟨k + 1, l, n, B, q, HLT.out, rfl, hl, hn8, Fq, Oq, Kq, hgB, hbB, Bq, HN⟩
            case measure => (have := HLT.out; simp [intOf]; omega)
          subst hk3
          cases hnb1 : noteB dc
          · have HN := same (entN_bad hnb1)
            rw [hnb1] at hvn
            clear hnb1 hN same hk2
            go_wp2_with (go_at_call 30; refine (hvn _).mono ?_; rintro e w7 ⟨rfl, rfl⟩)
            go_roundw
            case rel => exact ⟨k + 1, l, n, B, q, HLT.out, rfl, hl, hn8, Fq, Oq, Kq, hgB, hbB, Bq, HN⟩
            case measure => (have := HLT.out; simp [intOf]; omega)
          rw [hnb1] at hvn
          by_cases h8 : n.length < 8
          rotate_left
          · have HN := same (entN_full h8)
            have hge : ¬ (n.length : Int) < 8 := by omega
            have HN8 := Lib.hid hn8
            clear hnb1 hN same hk2 h8 hn8
            go_wp2_with (go_at_call 30; refine (hvn _).mono ?_; rintro e w7 ⟨rfl, rfl⟩)
            go_roundw
            case rel => exact ⟨k + 1, l, n, B, q, HLT.out, rfl, hl, HN8.out, Fq, Oq, Kq, hgB, hbB, Bq, HN⟩
            case measure => (have := HLT.out; simp [intOf]; omega)
          rw [entN_yes rfl hnb1 h8] at hN
          have HN := Lib.hid hN
          have hge : (n.length : Int) < 8 := by omega
          have hn9 : (n ++ [dc]).length ≤ 8 := by simp; omega
          have hby16 : 16 ≤ 1000 := by decide
          have hnbig : n.length ≤ 100000000 := by omega
          have hgx6 := Fq.lt
          have hb6 := (World.ownsRow.lt (OOf Oq) b rfl).2
          have hlen1 : (n ++ [dc]).length = n.length + 1 := by simp
          have HL1 := Lib.hid hlen1
          clear hnb1 h8 hN hlen1 same hk2
          go_wp2_with (first
            | (at_builtin; go_must (refine wpList_appF (f := fS) rfl _ _ 27 rfl eltStr hby16 (.slice B n.length q) n rfl (OOf Kq) _ _ dc _ rfl rfl rfl (oneStr dc) hnbig hbs6 ?_); intro v8 w8 K8 hg8 hat8 hbl8; obtain ⟨A9, c9, rfl⟩ := own_form K8; have F8 := (Fq.al (.cells #[.string dc] 9)).grown hg8 hgB; have O8 := World.ownsRow.kept (OO.al Oq (.cells #[.string dc] 9)) hg8 (.inr (fun e => hbB e.symm)); have g5 : (_ : Option Value) = some (.slice B n.length q) := F8.cell 5 (by simp); have hfz := fun j => F8.free j; have hg1 : (Value.slice A9 (n ++ [dc]).length c9).ownBlock ≠ some gx := (by rcases hat8 with h | h <;> rw [h] <;> first | exact hgB | (intro e; simp at e; omega)); have hb1 : (Value.slice A9 (n ++ [dc]).length c9).ownBlock ≠ some b := (by rcases hat8 with h | h <;> rw [h] <;> first | exact hbB | (intro e; simp at e; omega)); rw [HL1.out] at K8 hg1 hb1)
            | (go_at_call 30; refine (hvn _).mono ?_; rintro e w7 ⟨rfl, rfl⟩))
          go_roundw
          case rel => exact ⟨k + 1, l, n ++ [dc], A9, c9, HLT.out, rfl, hl, hn9, by rw [HL1.out]; exact F8.put 5 _, OO.putne O8 (a := ⟨gx, 5, none⟩) (by intro e; apply hgb; simpa [Value.ownBlock] using e.symm) _, by rw [HL1.out]; exact OO.putne K8 (a := ⟨gx, 5, none⟩) hg1 _, by rw [HL1.out]; exact hg1, by rw [HL1.out]; exact hb1, Below.setCell (Bq.trans hbl8) hbase _, HN⟩
          case measure => (have := HLT.out; simp [intOf]; omega)
        · obtain rfl : k = L.length := by omega
          have hend := foE_end hlt HG.out
          have HD := Lib.hid (HD3.out _ (by rw [HI2.out, hend]))
          have f0 : (_ : Option Value) = some (.int .i64 c) := F.cell 0 (by simp)
          have f1 : (_ : Option Value) = some (.int .i64 h) := F.cell 1 (by simp)
          have f2 : (_ : Option Value) = some (.int .i64 (P : Int)) := F.cell 2 (by simp)
          have f3 : (_ : Option Value) = some (.int .i64 s) := F.cell 3 (by simp)
          have f4 : (_ : Option Value) = some (.slice (some ⟨b, 0, none⟩) NL cp) := F.cell 4 (by simp)
          have f5 : (_ : Option Value) = some (.slice B n.length q) := F.cell 5 (by simp)
          have Z := Zr
          have z0 : (_ : Option Value) = some (.int .i64 0) := Z.cell 0 (by simp)
          have z1 : (_ : Option Value) = some (.int .i64 0) := Z.cell 1 (by simp)
          have z2 : (_ : Option Value) = some (.int .i64 0) := Z.cell 2 (by simp)
          have z3 : (_ : Option Value) = some (.int .i64 0) := Z.cell 3 (by simp)
          have z4 : (_ : Option Value) = some (.slice none 0 0) := Z.cell 4 (by simp)
          have z5 : (_ : Option Value) = some (.slice none 0 0) := Z.cell 5 (by simp)
          have hfz := fun j => Z.free j
          have O' : World.ownsRow wr base 46 2 (.slice (some ⟨b, 0, none⟩) NL cp) l.length (flat fSector l) := by rw [hl]; exact O
          clear hlt hk hl hend
          go_wp2
          refine bodyPost_ret (v := .tuple #[.agg #[.int .i64 c, .int .i64 h, .int .i64 (P : Int), .int .i64 s, .slice (some ⟨b, 0, none⟩) NL cp, .slice B n.length q], .int .i64 (N : Int), .int .i64 0]) (by simp [results, Try.results13, go_sem, World.cell?_setCell_other, z0, z1, z2, z3, z4, z5]) rfl ⟨.slice (some ⟨b, 0, none⟩) NL cp, .slice B n.length q, by rw [HD.out], ?_, ?_, .inr (fun e => hbB e.symm), (by with_reducible repeat (first | exact Below.refl _ _ | assumption | refine below_step ?_ (by assumption) | refine Below.drew ?_ | refine below_drewN ?_ _ | refine below_alloc ?_ _ | refine Below.setCell ?_ (by simp; try omega) _))⟩
          · rw [HD.out]
            show World.ownsRow _ _ _ _ _ l.length (flat fSector l)
            exact own_base (ownsRow_setCell_below (ownsRow_setCell_below (ownsRow_setCell_below (ownsRow_setCell_below (ownsRow_setCell_below (ownsRow_setCell_below O' hz1 _) hz1 _) hz1 _) hz1 _) hz1 _) hz1 _) hz1'
          · rw [HD.out]
            show World.ownsRow _ _ _ _ _ n.length (flat fS n)
            exact own_base (ownsRow_setCell_below (ownsRow_setCell_below (ownsRow_setCell_below (ownsRow_setCell_below (ownsRow_setCell_below (ownsRow_setCell_below K hz1 _) hz1 _) hz1 _) hz1 _) hz1 _) hz1 _) hz1'
end Go.Proofs.Ytemppogailpoiaa
namespace Go.Proofs.Ytemppogailpoiaa
set_option linter.unusedVariables false
open Go.RowKit

/-- The bytes of chunks. -/
def encs : List DChunk → List UInt8
  | [] => []
  | x :: r => (encB x.f0.toNat x.f1).data.toList ++ encs r
def okK (x : DChunk) : Prop := 1 ≤ x.f0 ∧ x.f0 ≤ 4 ∧ x.f1.size ≤ 8192
theorem encs_app : ∀ (A B : List DChunk), encs (A ++ B) = encs A ++ encs B
  | [], B => rfl
  | x :: A, B => by rw [List.cons_append, encs, encs, encs_app A B, List.append_assoc]
theorem encs_len : ∀ (A : List DChunk), 5 * A.length ≤ (encs A).length
  | [] => Nat.le_refl _
  | x :: A => by
    have := encs_len A
    rw [encs, List.length_append, sz_list, encB_size, List.length_cons]
    omega
theorem headB_list (k : Nat) (d : ByteArray) : (headB k d).data.toList = UInt8.ofNat k :: UInt8.ofNat (d.size / 256) :: UInt8.ofNat (d.size % 256) :: d.data.toList := by
  rw [headB, app_list, app_list]
  simp only [wordB, wordL, List.cons_append, List.nil_append]
theorem encB_list (k : Nat) (d : ByteArray) : (encB k d).data.toList = UInt8.ofNat k :: UInt8.ofNat (d.size / 256) :: UInt8.ofNat (d.size % 256) :: (d.data.toList ++ [UInt8.ofNat (crcOf (headB k d) 65535 / 256), UInt8.ofNat (crcOf (headB k d) 65535 % 256)]) := by
  rw [encB, app_list]
  generalize crcOf (headB k d) 65535 = c
  rw [headB_list]
  simp only [wordB, wordL, List.cons_append]
theorem ba_of {a b : ByteArray} (h : a.data.toList = b.data.toList) : a = b := ByteArray.ext (Array.toList_inj.1 h)
theorem chunk_at {T : ByteArray} {pre r : List UInt8} {k : Nat} {d : ByteArray} (hk1 : 1 ≤ k) (hk4 : k ≤ 4) (hd : d.size ≤ 8192) (h : T.data.toList = pre ++ ((encB k d).data.toList ++ r)) : dcAt T pre.length = some (k, d, d.size + 5) := by
  have hE := encB_list k d
  have hcl := crcOf_lt (headB k d) 65535 (by omega)
  obtain ⟨c, hc⟩ : ∃ c, crcOf (headB k d) 65535 = c := ⟨_, rfl⟩
  rw [hc] at hE hcl
  have hsz : T.size = pre.length + (d.size + 5) + r.length := by
    rw [← sz_list, h, List.length_append, List.length_append, sz_list, encB_size]
    omega
  have dl : d.data.toList.length = d.size := sz_list d
  have h0 : T.data.toList = pre ++ UInt8.ofNat k :: (UInt8.ofNat (d.size / 256) :: UInt8.ofNat (d.size % 256) :: (d.data.toList ++ [UInt8.ofNat (c / 256), UInt8.ofNat (c % 256)]) ++ r) := by rw [h, hE]; simp
  have b0 : bt T pre.length = k := by
    rw [bt_at h0, UInt8.toNat_ofNat']
    omega
  have h1 : T.data.toList = (pre ++ [UInt8.ofNat k]) ++ UInt8.ofNat (d.size / 256) :: (UInt8.ofNat (d.size % 256) :: (d.data.toList ++ [UInt8.ofNat (c / 256), UInt8.ofNat (c % 256)]) ++ r) := by rw [h, hE]; simp
  have b1 : bt T (pre.length + 1) = d.size / 256 := by
    have := bt_at h1
    rw [List.length_append, List.length_singleton, UInt8.toNat_ofNat'] at this
    omega
  have h2 : T.data.toList = (pre ++ [UInt8.ofNat k, UInt8.ofNat (d.size / 256)]) ++ UInt8.ofNat (d.size % 256) :: ((d.data.toList ++ [UInt8.ofNat (c / 256), UInt8.ofNat (c % 256)]) ++ r) := by rw [h, hE]; simp
  have b2 : bt T (pre.length + 2) = d.size % 256 := by
    have := bt_at h2
    rw [List.length_append, UInt8.toNat_ofNat', show [UInt8.ofNat k, UInt8.ofNat (d.size / 256)].length = 2 from rfl] at this
    omega
  have h3 : T.data.toList = (pre ++ [UInt8.ofNat k, UInt8.ofNat (d.size / 256), UInt8.ofNat (d.size % 256)]) ++ d.data.toList ++ ([UInt8.ofNat (c / 256), UInt8.ofNat (c % 256)] ++ r) := by rw [h, hE]; simp
  have e3 : seg T (pre.length + 3) (pre.length + 3 + d.size) = d.data.toList := seg_of h3 (by simp) (by simp [dl])
  have h4 : T.data.toList = pre ++ (headB k d).data.toList ++ ([UInt8.ofNat (c / 256), UInt8.ofNat (c % 256)] ++ r) := by rw [h, hE, headB_list]; simp
  have e4 : seg T pre.length (pre.length + 3 + d.size) = (headB k d).data.toList := seg_of h4 rfl (by rw [sz_list, headB_size]; omega)
  have x3 : T.extract (pre.length + 3) (pre.length + 3 + d.size) = d := ba_of e3
  have x4 : T.extract pre.length (pre.length + 3 + d.size) = headB k d := ba_of e4
  have h5 : T.data.toList = (pre ++ (headB k d).data.toList) ++ UInt8.ofNat (c / 256) :: (UInt8.ofNat (c % 256) :: r) := by rw [h4]; simp
  have b5 : bt T (pre.length + 3 + d.size) = c / 256 := by
    have := bt_at h5
    rw [List.length_append, sz_list, headB_size, UInt8.toNat_ofNat'] at this
    rw [show pre.length + 3 + d.size = pre.length + (3 + d.size) by omega]
    omega
  have h6 : T.data.toList = ((pre ++ (headB k d).data.toList) ++ [UInt8.ofNat (c / 256)]) ++ UInt8.ofNat (c % 256) :: r := by rw [h4]; simp
  have b6 : bt T (pre.length + 3 + d.size + 1) = c % 256 := by
    have := bt_at h6
    rw [List.length_append, List.length_append, sz_list, headB_size, List.length_singleton, UInt8.toNat_ofNat'] at this
    rw [show pre.length + 3 + d.size + 1 = pre.length + (3 + d.size) + 1 by omega]
    omega
  have := dcAt_4 (s := T) (a := pre.length) (n := d.size) (by omega) (by unfold wd; rw [b1, show pre.length + 1 + 1 = pre.length + 2 from rfl, b2]; omega) hd (by omega) (by
    rw [x3, x4, hc]
    unfold wd
    rw [b5, b6, b0]
    refine ⟨?_, by omega⟩
    simp only [okChunk, inB, Bool.and_eq_true, decide_eq_true_eq]
    omega)
  rw [b0, x3] at this
  exact this
theorem dkG_encs {T : ByteArray} : ∀ (L : List DChunk) (pre : List UInt8) (f : Nat), (∀ x ∈ L, okK x) → T.data.toList = pre ++ encs L → L.length ≤ f → dkG T f pre.length = (L, T.size)
  | [], pre, f, _, h, _ => by
    have : T.size = pre.length := by rw [← sz_list, h]; simp [encs]
    rw [dkG_no (dcAt_1 (by omega)), this]
  | x :: L, pre, 0, _, _, hf => by simp at hf
  | ⟨x0, x1⟩ :: L, pre, f + 1, hk, h, hf => by
    obtain ⟨k1, k4, kd⟩ := hk _ List.mem_cons_self
    simp only at k1 k4 kd
    rw [encs] at h
    simp only at h
    have hd := chunk_at (by omega) (by omega) kd h
    have := dkG_encs L (pre ++ (encB x0.toNat x1).data.toList) f (fun y hy => hk y (List.mem_cons_of_mem _ hy)) (by rw [h]; simp) (by simpa using hf)
    rw [List.length_append, sz_list, encB_size] at this
    rw [dkG_yes hd, this, Int.toNat_of_nonneg (by omega)]
theorem saG_encs {T : ByteArray} : ∀ (L : List DChunk) (pre : List UInt8) (f : Nat), (∀ x ∈ L, okK x) → T.data.toList = pre ++ encs L → L.length ≤ f → saG T f pre.length = (L, 0)
  | [], pre, 0, _, h, _ => rfl
  | [], pre, f + 1, _, h, _ => by
    have : T.size = pre.length := by rw [← sz_list, h]; simp [encs]
    rw [saG, if_neg (by omega)]
  | x :: L, pre, 0, _, _, hf => by simp at hf
  | ⟨x0, x1⟩ :: L, pre, f + 1, hk, h, hf => by
    obtain ⟨k1, k4, kd⟩ := hk _ List.mem_cons_self
    simp only at k1 k4 kd
    rw [encs] at h
    simp only at h
    have hd := chunk_at (by omega) (by omega) kd h
    have hlt : pre.length < T.size := by
      rw [← sz_list, h, List.length_append, List.length_append, sz_list, encB_size]
      omega
    have := saG_encs L (pre ++ (encB x0.toNat x1).data.toList) f (fun y hy => hk y (List.mem_cons_of_mem _ hy)) (by rw [h]; simp) (by simpa using hf)
    rw [List.length_append, sz_list, encB_size] at this
    rw [saG, if_pos hlt, hd]
    simp only
    rw [this, Int.toNat_of_nonneg (by omega)]
theorem dk_encs {T : ByteArray} {L : List DChunk} (hk : ∀ x ∈ L, okK x) (h : T.data.toList = encs L) (h40 : L.length ≤ 40) : dkL T = L ∧ dkN T = T.size := by
  have := dkG_encs L [] 40 hk (by simpa using h) h40
  simp only [List.length_nil] at this
  unfold dkL dkN
  rw [this]
  exact ⟨rfl, rfl⟩
theorem sa_encs {T : ByteArray} {L : List DChunk} (hk : ∀ x ∈ L, okK x) (h : T.data.toList = encs L) : saL T = L ∧ saN T = 0 := by
  have h5 := encs_len L
  rw [← h, sz_list] at h5
  have := saG_encs L [] (T.size + 1) hk (by simpa using h) (by omega)
  simp only [List.length_nil] at this
  unfold saL saN
  rw [this]
  exact ⟨rfl, rfl⟩

/-- How long packed bytes are at most. -/
theorem plL_len3 : ∀ (f : Nat) (l : List UInt8), l.length ≤ f → 128 * (plL l).length ≤ 129 * l.length + 127
  | 0, l, h => by
    have : l = [] := List.eq_nil_of_length_eq_zero (by omega)
    subst this
    rw [plL_nil]
    simp
  | f + 1, l, h => by
    by_cases h0 : 0 < l.length
    · have h1 := plL_len3 f (l.drop (min l.length 128)) (by rw [List.length_drop]; omega)
      have h2 : l.length ≤ 128 → plL (l.drop (min l.length 128)) = [] := fun hh => by
        rw [List.drop_eq_nil_of_le (by omega), plL_nil]
      rw [plL_step l _ h0 rfl, List.length_cons, List.length_append, List.length_take]
      rw [List.length_drop] at h1
      by_cases h3 : l.length ≤ 128
      · rw [h2 h3]
        simp only [List.length_nil]
        omega
      · omega
    · have : l = [] := List.eq_nil_of_length_eq_zero (by omega)
      subst this
      rw [plL_nil]
      simp
theorem pbG_len3 (s : ByteArray) : ∀ (f at_ from_ : Nat) (out : List UInt8), s.size - at_ ≤ f → from_ ≤ at_ → at_ ≤ s.size → 128 * (pbG s at_ from_ out).length ≤ 128 * out.length + 130 * (s.size - from_) + 127 := by
  have fin : ∀ (at_ from_ : Nat) (out : List UInt8), ¬ at_ < s.size → from_ ≤ s.size → 128 * (pbG s at_ from_ out).length ≤ 128 * out.length + 130 * (s.size - from_) + 127 := by
    intro at_ from_ out h h1
    have he := pbG_end s at_ from_ out _ h rfl
    have hl := seg_length s from_ s.size (Nat.le_refl _)
    have := plL_len3 _ (seg s from_ s.size) (Nat.le_refl _)
    rw [he, List.length_append]
    omega
  intro f
  induction f with
  | zero => intro at_ from_ out hf h1 h2; exact fin at_ from_ out (by omega) (by omega)
  | succ f ih =>
    intro at_ from_ out hf h1 h2
    by_cases h : at_ < s.size
    · rcases hnd : refer s at_ with ⟨n, d⟩
      by_cases h3 : n < 3
      · rw [← pbG_skip s at_ from_ out _ h n d hnd h3 rfl]
        exact ih (at_ + 1) from_ out (by omega) (by omega) (by omega)
      · obtain ⟨b1, b2, b3, b4, b5, b6⟩ := refer_ok s at_ n d hnd h3
        rw [← pbG_ref s at_ from_ out _ h n d hnd h3 rfl]
        have h4 := ih (at_ + n) (at_ + n) ((out ++ plL (seg s from_ at_)) ++ [UInt8.ofNat (n + 125), UInt8.ofNat d]) (by omega) (Nat.le_refl _) (by omega)
        have hl := seg_length s from_ at_ (by omega)
        have h5 := plL_len3 _ (seg s from_ at_) (Nat.le_refl _)
        rw [List.length_append, List.length_append] at h4
        simp only [List.length_cons, List.length_nil] at h4
        omega
    · exact fin at_ from_ out h (by omega)
theorem ba_size (l : List UInt8) : (⟨l.toArray⟩ : ByteArray).size = l.length := by simp [ByteArray.size]
theorem tkB_size3 {ss : List DSector} (t : Nat) (h : ∀ x ∈ ss, x.f0.size ≤ 32) (hl : ss.length ≤ 8) : (tkB t ss).size ≤ 280 := by
  have h1 := plB_len ss h
  have h3 := pbG_len3 ⟨(plB ss).toArray⟩ _ 0 0 [] (Nat.le_refl _) (Nat.le_refl _) (Nat.zero_le _)
  have h5 : (byteB t).size = 1 := rfl
  rw [tkB, ByteArray.size_append, h5, ba_size]
  rw [ba_size] at h3
  simp only [List.length_nil] at h3
  omega

/-- A track's sectors are found in their plain bytes. -/
theorem plB_app : ∀ (a b : List DSector), plB (a ++ b) = plB a ++ plB b
  | [], b => rfl
  | x :: a, b => by rw [List.cons_append, plB, plB, plB_app a b]; simp
theorem plB_size {nb : Nat} : ∀ ss : List DSector, (∀ x ∈ ss, x.f0.size = nb) → (plB ss).length = ss.length * (nb + 1)
  | [], _ => by simp [plB]
  | x :: r, h => by
    have h1 := plB_size r (fun y hy => h y (List.mem_cons_of_mem _ hy))
    have h2 := h x List.mem_cons_self
    rw [plB, List.length_cons, List.length_append, sz_list, h2, h1, List.length_cons, Nat.succ_mul]
    omega
theorem secAt_plB {nb : Nat} {ss : List DSector} (hs : ∀ x ∈ ss, x.f0.size = nb ∧ 0 ≤ x.f1 ∧ x.f1 ≤ 255) (k : Nat) (hk : k < ss.length) : secAt ⟨(plB ss).toArray⟩ nb k = ss[k] := by
  obtain ⟨Z, hZ⟩ : ∃ Z : ByteArray, Z = ⟨(plB ss).toArray⟩ := ⟨_, rfl⟩
  rw [← hZ]
  have hl : Z.data.toList = plB ss := by rw [hZ]
  have hsp : ss = ss.take k ++ ss[k] :: ss.drop (k + 1) := by rw [← List.drop_eq_getElem_cons hk, List.take_append_drop]
  have hx3 := hs _ (List.getElem_mem hk)
  obtain ⟨x, hx⟩ : ∃ x, ss[k] = x := ⟨_, rfl⟩
  rw [hx] at hsp hx3 ⊢
  have hp : (plB (ss.take k)).length = k * (nb + 1) := by
    rw [plB_size (nb := nb) _ (fun y hy => (hs y (List.mem_of_mem_take hy)).1), List.length_take, Nat.min_eq_left (by omega)]
  have h0 := congrArg plB hsp
  rw [plB_app, plB] at h0
  have h1 : Z.data.toList = plB (ss.take k) ++ UInt8.ofNat x.f1.toNat :: (x.f0.data.toList ++ plB (ss.drop (k + 1))) := by rw [hl]; exact h0
  have b1 := bt_at h1
  rw [hp, UInt8.toNat_ofNat'] at b1
  have h2 : Z.data.toList = (plB (ss.take k) ++ [UInt8.ofNat x.f1.toNat]) ++ x.f0.data.toList ++ plB (ss.drop (k + 1)) := by rw [h1]; simp
  have e2 := seg_of h2 (i := k * (nb + 1) + 1) (j := k * (nb + 1) + (nb + 1)) (by rw [List.length_append, hp]; rfl) (by rw [List.length_append, hp, sz_list, hx3.1, List.length_singleton]; omega)
  have x2 : Z.extract (k * (nb + 1) + 1) (k * (nb + 1) + (nb + 1)) = x.f0 := ba_of e2
  rw [secAt, x2, b1]
  obtain ⟨x0, x1⟩ := x
  simp only at hx3 ⊢
  congr 1
  omega
theorem secX_yes {s : Int} {x : DSector} (h : secX s x = true) : x.f0.size = (szB s).toNat ∧ 1 ≤ x.f1 ∧ x.f1 ≤ 4 ∧ (x.f1 = 3 → x = miss (szB s).toNat) := by
  unfold secX secB at h
  simp only [Bool.and_eq_true, Bool.or_eq_true, decide_eq_true_eq] at h
  obtain ⟨⟨h1, h2⟩, h3⟩ := h
  have h2' := inB_yes h2
  refine ⟨h1, by omega, by omega, fun h4 => ?_⟩
  rcases h3 with h3 | h3
  · exact absurd h4 h3
  · obtain ⟨x0, x1⟩ := x
    simp only at h3 h4
    subst h4
    rw [ByteArray.toList_eq, ByteArray.toList_eq] at h3
    have := ba_of (of_decide_eq_true (by simpa using h3))
    rw [miss, ← this]
theorem tkB_0 {t : Nat} (ht : t < 256) (ss : List DSector) : bt (tkB t ss) 0 = t := by
  rw [tkB, bt_app_l _ _ _ (show 0 < (byteB t).size from Nat.zero_lt_one)]
  show (UInt8.ofNat t).toNat = t
  rw [UInt8.toNat_ofNat']
  omega
theorem trk_tkB {T nb t : Nat} {s : Int} {ss : List DSector} (ht : t < T) (ht8 : t < 256) (hl : ss.length ≤ 8) (hnb : (szB s).toNat = nb) (hn32 : nb ≤ 32) (hs : ∀ x ∈ ss, secX s x = true) : trk T ss.length nb s (tkB t ss) = some ss := by
  have hsz : ∀ x ∈ ss, x.f0.size = nb ∧ 0 ≤ x.f1 ∧ x.f1 ≤ 255 := fun x hx => by
    have := secX_yes (hs x hx)
    rw [hnb] at this
    omega
  have hp := plB_size (nb := nb) ss (fun x hx => (hsz x hx).1)
  have hp2 : (plB ss).length ≤ 33 * ss.length := plB_len ss (fun x hx => by have := (hsz x hx).1; omega)
  obtain ⟨R, h1, h2⟩ := unp_pack ⟨(plB ss).toArray⟩ (by rw [ba_size]; omega)
  rw [packB_yes _ (by rw [ba_size]; omega)] at h1
  cases h1
  have h5 : (byteB t).size = 1 := rfl
  have hx : (tkB t ss).extract 1 (tkB t ss).size = ⟨(pbG ⟨(plB ss).toArray⟩ 0 0 []).toArray⟩ := by
    apply ba_of
    refine seg_of (T := tkB t ss) (a := [UInt8.ofNat t]) (m := pbG ⟨(plB ss).toArray⟩ 0 0 []) (r := []) ?_ rfl ?_
    · rw [tkB, app_list]; simp [byteB]
    · rw [tkB, ByteArray.size_append, h5, ba_size]; rfl
  have hall : ∀ k, (hk : k < ss.length) → secAt ⟨(plB ss).toArray⟩ nb k = ss[k] := fun k hk => secAt_plB hsz k hk
  rw [trk_5 (l := plB ss) (by rw [tkB, ByteArray.size_append, h5]; omega) (by rw [tkB_0 ht8]; omega) (by rw [hx, h2]) (by rw [hp, Nat.mul_comm]) (fun k hk => by rw [hall k hk]; exact hs _ (List.getElem_mem hk))]
  congr 1
  apply List.ext_getElem
  · rw [secs_len]
  · intro k h1 h2
    rw [secs_get, hall k h2]

/-- The chunk of a track. -/
def tkc (l : List DSector) (P t : Nat) : DChunk := ⟨2, tkB t (trS l P t)⟩
theorem tkc_no3 (l : List DSector) (P t : Nat) : ¬ (tkc l P t).f0 = 3 := show ¬ (2 : Int) = 3 by decide
/-- The tracks that have something. -/
def tkN (l : List DSector) (P : Nat) : Nat → Nat → List Nat
  | _, 0 => []
  | t, n + 1 => if nonE (trS l P t) = true then t :: tkN l P (t + 1) n else tkN l P (t + 1) n
/-- The chunks of an image. -/
def bdy (l : List DSector) (T P : Nat) (n : List ByteArray) : List DChunk := (tkN l P 0 T).map (tkc l P) ++ n.map (fun x => ⟨3, x⟩)
def chk (c h p s : Int) (l : List DSector) (n : List ByteArray) : List DChunk := ⟨1, hdI c h p s⟩ :: (bdy l (c * h).toNat p.toNat n ++ [⟨4, ⟨#[]⟩⟩])
theorem imT_encs (l : List DSector) (P : Nat) : ∀ n t, imT l P t n = encs ((tkN l P t n).map (tkc l P))
  | 0, t => rfl
  | n + 1, t => by
    rw [imT, tkN, imT_encs l P n (t + 1)]
    split
    · rw [List.map_cons, encs]; rfl
    · rfl
theorem imN_encs : ∀ n : List ByteArray, imN n = encs (n.map fun x => ⟨3, x⟩)
  | [] => rfl
  | x :: n => by rw [imN, imN_encs n, List.map_cons, encs]; rfl
theorem imG_encs (c h p s : Int) (l : List DSector) (n : List ByteArray) : (imG c h p s l n).data.toList = encs (chk c h p s l n) := by
  rw [imG, chk, encs, bdy, encs_app, encs_app, ← imT_encs, ← imN_encs]
  simp only [encs, List.append_nil, List.append_assoc]
  rfl
theorem tkN_in {l : List DSector} {P : Nat} : ∀ n t, ∀ k ∈ tkN l P t n, t ≤ k ∧ k < t + n
  | 0, t, k, h => by simp [tkN] at h
  | n + 1, t, k, h => by
    rw [tkN] at h
    split at h
    · rcases List.mem_cons.1 h with rfl | h
      · omega
      · have := tkN_in n (t + 1) k h; omega
    · have := tkN_in n (t + 1) k h; omega
theorem tkN_has {l : List DSector} {P : Nat} : ∀ n t k, t ≤ k → k < t + n → k ∈ tkN l P t n ∨ nonE (trS l P k) = false
  | 0, t, k, h, g => by omega
  | n + 1, t, k, h, g => by
    rw [tkN]
    by_cases e : k = t
    · subst e
      split
      · exact Or.inl List.mem_cons_self
      · rename_i hh; exact Or.inr (by simpa using hh)
    · have := tkN_has (l := l) (P := P) n (t + 1) k (by omega) (by omega)
      rcases this with h1 | h1
      · left
        split
        · exact List.mem_cons_of_mem _ h1
        · exact h1
      · exact Or.inr h1
theorem tkN_len {l : List DSector} {P : Nat} : ∀ n t, (tkN l P t n).length ≤ n
  | 0, t => by simp [tkN]
  | n + 1, t => by
    have := tkN_len (l := l) (P := P) n (t + 1)
    rw [tkN]
    split
    · rw [List.length_cons]; omega
    · omega
/-- What a valid image's numbers are good for. -/
structure VI (l : List DSector) (T P nb : Nat) (s : Int) : Prop where
  t16 : T ≤ 16
  p0 : 0 < P
  p8 : P ≤ 8
  nb32 : nb ≤ 32
  snb : (szB s).toNat = nb
  len : l.length = T * P
  ok : ∀ x ∈ l, secX s x = true
section
variable {l : List DSector} {T P nb : Nat} {s : Int}
theorem VI.row (v : VI l T P nb s) {t : Nat} (ht : t < T) : t * P + P ≤ l.length := by
  rw [v.len]
  have := Nat.mul_le_mul_right P (show t + 1 ≤ T by omega)
  rw [Nat.succ_mul] at this
  exact this
theorem VI.trLen (v : VI l T P nb s) {t : Nat} (ht : t < T) : (trS l P t).length = P := by
  have := v.row ht
  rw [trS, List.length_take, List.length_drop]
  omega
theorem VI.trIn (v : VI l T P nb s) (t : Nat) : ∀ x ∈ trS l P t, secX s x = true := fun x hx => v.ok x (List.mem_of_mem_drop (List.mem_of_mem_take hx))
theorem VI.trk (v : VI l T P nb s) {t : Nat} (ht : t < T) : trk T P nb s (tkB t (trS l P t)) = some (trS l P t) := by
  have := trk_tkB (T := T) (nb := nb) (t := t) (s := s) (ss := trS l P t) ht (by have := v.t16; omega) (by rw [v.trLen ht]; exact v.p8) v.snb v.nb32 (v.trIn t)
  rw [v.trLen ht] at this
  exact this
theorem trS_get (l : List DSector) (P t j : Nat) (h : j < P) : (trS l P t)[j]? = l[t * P + j]? := by
  rw [trS, List.getElem?_take_of_lt h, List.getElem?_drop]
theorem VI.enter (v : VI l T P nb s) {t : Nat} (ht : t < T) (L : List DSector) : entL T P nb s L (tkc l P t) = putT L (t * P) (trS l P t) := by
  rw [tkc, entL_yes rfl, rtL_yes (v.trk ht), tkB_0 (by have := v.t16; omega)]
theorem putT_get {α : Type} {l ss : List α} {q : Nat} (h : q + ss.length ≤ l.length) (k : Nat) : (putT l q ss)[k]? = if q ≤ k ∧ k < q + ss.length then ss[k - q]? else l[k]? := by
  have hq : (l.take q).length = q := by rw [List.length_take]; omega
  unfold putT
  rw [List.append_assoc]
  by_cases h1 : k < q
  · rw [if_neg (by omega), List.getElem?_append_left (by omega), List.getElem?_take_of_lt h1]
  · rw [List.getElem?_append_right (by omega), hq]
    by_cases h2 : k < q + ss.length
    · rw [if_pos ⟨by omega, h2⟩, List.getElem?_append_left (by omega)]
    · rw [if_neg (by omega), List.getElem?_append_right (by omega), List.getElem?_drop]
      congr 1
      omega
theorem VI.get (v : VI l T P nb s) {t : Nat} (ht : t < T) {L : List DSector} (hL : L.length = T * P) (k : Nat) : (entL T P nb s L (tkc l P t))[k]? = if k / P = t then l[k]? else L[k]? := by
  have hp := v.p0
  have hr := v.row ht
  rw [v.len] at hr
  rw [v.enter ht, putT_get (by rw [v.trLen ht, hL]; exact hr), v.trLen ht]
  have he : (t * P ≤ k ∧ k < t * P + P) ↔ k / P = t := by
    constructor
    · rintro ⟨a, b⟩
      exact Nat.div_eq_of_lt_le a (by rw [Nat.succ_mul]; exact b)
    · intro e
      subst e
      have h1 := Nat.div_mul_le_self k P
      have h2 := Nat.lt_div_mul_add (a := k) hp
      exact ⟨h1, h2⟩
  by_cases h : k / P = t
  · rw [if_pos h, if_pos (he.2 h), trS_get _ _ _ _ (by have := he.2 h; omega)]
    congr 1
    have := he.2 h
    omega
  · rw [if_neg h, if_neg (fun x => h (he.1 x))]
/-- All chunks enter: a sector whose track is among them, or that is right before, is right. -/
theorem VI.all (v : VI l T P nb s) {k : Nat} (hk16 : k / P < T) : ∀ (M : List DChunk) (L : List DSector) (n : List ByteArray), L.length = T * P → (∀ x ∈ M, ¬ x.f0 = 2 ∨ ∃ t, t < T ∧ x = tkc l P t) → (tkc l P (k / P) ∈ M ∨ L[k]? = l[k]?) → (foE T P nb s M L n).1[k]? = l[k]?
  | [], L, n, hL, hM, hk => by
    rcases hk with hk | hk
    · simp at hk
    · exact hk
  | x :: M, L, n, hL, hM, hk => by
    rw [foE]
    have hM' : ∀ y ∈ M, ¬ y.f0 = 2 ∨ ∃ t, t < T ∧ y = tkc l P t := fun y hy => hM y (List.mem_cons_of_mem _ hy)
    refine VI.all v hk16 M _ _ (entL_len hL x) hM' ?_
    rcases hM x List.mem_cons_self with h2 | ⟨t, ht, rfl⟩
    · obtain ⟨x0, x1⟩ := x
      rw [entL_no h2]
      rcases hk with hk | hk
      · rcases List.mem_cons.1 hk with e | hk
        · exact absurd (congrArg DChunk.f0 e).symm h2
        · exact Or.inl hk
      · exact Or.inr hk
    · rw [v.get ht hL]
      by_cases h : k / P = t
      · right; rw [if_pos h]
      · rw [if_neg h]
        rcases hk with hk | hk
        · rcases List.mem_cons.1 hk with e | hk
          · exfalso
            have h16 := v.t16
            have h3 : bt (tkc l P (k / P)).f1 0 = bt (tkc l P t).f1 0 := by rw [e]
            rw [tkc, tkc] at h3
            simp only at h3
            rw [tkB_0 (by omega), tkB_0 (by omega)] at h3
            exact h h3
          · exact Or.inl hk
        · exact Or.inr hk
/-- The notes among chunks. -/
def nts : List DChunk → List ByteArray
  | [] => []
  | x :: r => if x.f0 = 3 then x.f1 :: nts r else nts r
theorem nts_app : ∀ A B : List DChunk, nts (A ++ B) = nts A ++ nts B
  | [], B => rfl
  | x :: A, B => by
    rw [List.cons_append, nts, nts, nts_app A B]
    split <;> rfl
theorem nts_tk (l : List DSector) (P : Nat) : ∀ ts : List Nat, nts (ts.map (tkc l P)) = []
  | [] => rfl
  | t :: ts => by
    rw [List.map_cons, nts, if_neg (tkc_no3 l P t), nts_tk l P ts]
theorem nts_nt : ∀ n : List ByteArray, nts (n.map fun x => ⟨3, x⟩) = n
  | [] => rfl
  | x :: n => by rw [List.map_cons, nts, if_pos rfl, nts_nt n]
theorem foE_N {T P nb : Nat} {s : Int} : ∀ (M : List DChunk) (L : List DSector) (n : List ByteArray), (∀ x ∈ M, x.f0 = 3 → noteB x.f1 = true) → n.length + (nts M).length ≤ 8 → (foE T P nb s M L n).2 = n ++ nts M
  | [], L, n, _, _ => by simp [foE, nts]
  | ⟨x0, x1⟩ :: M, L, n, h, h8 => by
    have hM : ∀ y ∈ M, y.f0 = 3 → noteB y.f1 = true := fun y hy => h y (List.mem_cons_of_mem _ hy)
    rw [foE]
    by_cases h3 : x0 = 3
    · have hn := h _ List.mem_cons_self h3
      simp only at hn
      rw [nts, if_pos h3] at h8 ⊢
      simp only [List.length_cons] at h8
      rw [entN_yes h3 hn (by omega), foE_N M _ _ hM (by rw [List.length_append, List.length_singleton]; omega), List.append_assoc]
      rfl
    · rw [nts, if_neg h3] at h8 ⊢
      rw [entN_no h3, foE_N M _ _ hM h8]
/-- Chunks that may stand where they stand all enter. -/
theorem decG_foE {T P nb : Nat} {s : Int} : ∀ (M : List DChunk) (L : List DSector) (n : List ByteArray), (∀ x ∈ M, (x.f0 = 3 ∧ noteB x.f1 = true) ∨ (x.f0 = 2 ∧ (trk T P nb s x.f1).isSome = true)) → n.length + (nts M).length ≤ 8 → decG T P nb s M L n = some (foE T P nb s M L n)
  | [], L, n, _, _ => rfl
  | ⟨x0, x1⟩ :: M, L, n, h, h8 => by
    have hM := fun y hy => h y (List.mem_cons_of_mem _ hy)
    rw [foE, decG]
    rcases h _ List.mem_cons_self with ⟨h3, hn⟩ | ⟨h2, hn⟩
    · simp only at h3 hn
      rw [nts, if_pos h3] at h8
      simp only [List.length_cons] at h8
      rw [if_pos (by unfold entB; rw [if_pos h3, hn, decide_eq_true (show n.length < 8 by omega)]; rfl)]
      refine decG_foE M _ _ hM ?_
      rw [entN_yes h3 hn (by omega), List.length_append, List.length_singleton]
      omega
    · simp only at h2 hn
      have h3 : ¬ x0 = 3 := by omega
      rw [nts, if_neg h3] at h8
      rw [if_pos (by unfold entB; rw [if_neg h3, hn, decide_eq_true h2]; rfl)]
      refine decG_foE M _ _ hM ?_
      rw [entN_no h3]
      exact h8
end
end Go.Proofs.Ytemppogailpoiaa
namespace Go.Proofs.Ytemppogailpoiaa
set_option linter.unusedVariables false
open Go.RowKit

theorem geo_vi {c h p s : Int} {l : List DSector} (g : okD c h p s l = true) : VI l (c * h).toNat p.toNat (szB s).toNat s := by
  obtain ⟨g1, g2, g3⟩ := okD_geo g
  obtain ⟨c1, c2, h1, h2, p1, p2, s1, s2⟩ := geoB_yes g1
  obtain ⟨m1, m2⟩ := prod2 c1 c2 h1 h2
  obtain ⟨nb, z1, z2, z3, z4⟩ := szB_nat s1 s2
  obtain ⟨T, hT⟩ : ∃ T : Nat, c * h = (T : Int) := ⟨(c * h).toNat, by omega⟩
  obtain ⟨P, rfl⟩ : ∃ P : Nat, p = (P : Int) := ⟨p.toNat, by omega⟩
  rw [hT] at m1 m2 g2
  rw [← Int.natCast_mul] at g2
  rw [hT, Int.toNat_natCast, Int.toNat_natCast, z4]
  refine ⟨by omega, by omega, by omega, z2, z4, by omega, fun x hx => ?_⟩
  obtain ⟨k, hk, rfl⟩ := List.getElem_of_mem hx
  exact g3 k hk
theorem hdI_bt {c h p s : Int} (g : geoB c h p s = true) : (bt (hdI c h p s) 3 : Int) = c ∧ (bt (hdI c h p s) 4 : Int) = h ∧ (bt (hdI c h p s) 5 : Int) = p ∧ (bt (hdI c h p s) 6 : Int) = s := by
  obtain ⟨c1, c2, h1, h2, p1, p2, s1, s2⟩ := geoB_yes g
  have e3 : bt (hdI c h p s) 3 = (UInt8.ofNat c.toNat).toNat := rfl
  have e4 : bt (hdI c h p s) 4 = (UInt8.ofNat h.toNat).toNat := rfl
  have e5 : bt (hdI c h p s) 5 = (UInt8.ofNat p.toNat).toNat := rfl
  have e6 : bt (hdI c h p s) 6 = (UInt8.ofNat s.toNat).toNat := rfl
  rw [UInt8.toNat_ofNat'] at e3 e4 e5 e6
  omega
theorem hdI_ok {c h p s : Int} (g : geoB c h p s = true) : hdB (hdI c h p s) = true := by
  obtain ⟨e3, e4, e5, e6⟩ := hdI_bt g
  have hx : (hdI c h p s).extract 0 3 = ⟨#[80, 73, 1]⟩ := by
    apply ba_of
    exact seg_of (T := hdI c h p s) (a := []) (m := [80, 73, 1]) (r := [UInt8.ofNat c.toNat, UInt8.ofNat h.toNat, UInt8.ofNat p.toNat, UInt8.ofNat s.toNat]) (by rw [hdI, app_list]; rfl) rfl rfl
  unfold hdB
  rw [e3, e4, e5, e6, g, hx, hdI_size]
  rfl
/-- The numbers of an image's own header. -/
theorem hdI_nums {c h p s : Int} (g : geoB c h p s = true) : hdT (hdI c h p s) = (c * h).toNat ∧ hdP (hdI c h p s) = p.toNat ∧ hdNb (hdI c h p s) = (szB s).toNat ∧ hdS (hdI c h p s) = s ∧ hdL (hdI c h p s) = newS c h p s := by
  obtain ⟨e3, e4, e5, e6⟩ := hdI_bt g
  have hS : hdS (hdI c h p s) = s := by rw [hdS, e6]
  refine ⟨?_, ?_, ?_, hS, ?_⟩
  · have : ((hdT (hdI c h p s) : Nat) : Int) = c * h := by rw [hdT, Int.natCast_mul, e3, e4]
    omega
  · rw [hdP]; omega
  · rw [hdNb, hS]
  · rw [hdL, e3, e4, e5, e6]
section
variable {l : List DSector} {T P nb : Nat} {s : Int}
theorem VI.empty (v : VI l T P nb s) {t k : Nat} (ht : t < T) (h : nonE (trS l P t) = false) (hk : k / P = t) : l[k]? = some (miss nb) := by
  have hp := v.p0
  have hr := v.row ht
  have h1 := Nat.div_mul_le_self k P
  have h2 := Nat.lt_div_mul_add (a := k) hp
  rw [hk] at h1 h2
  have hkl : k < l.length := by omega
  have hg := trS_get l P t (k - t * P) (by omega)
  rw [show t * P + (k - t * P) = k by omega, List.getElem?_eq_getElem hkl] at hg
  rw [List.getElem?_eq_getElem hkl]
  have hm : l[k] ∈ trS l P t := List.mem_of_getElem? hg
  have h3 : l[k].f1 = 3 := by
    rw [nonE, List.any_eq_false] at h
    have := h _ hm
    simpa using this
  have := (secX_yes (v.trIn t _ hm)).2.2.2 h3
  rw [this, v.snb]
theorem VI.bdy_in (v : VI l T P nb s) {n : List ByteArray} (hn : ∀ x ∈ n, noteB x = true) : ∀ x ∈ bdy l T P n, (x.f0 = 3 ∧ noteB x.f1 = true) ∨ ∃ t, t < T ∧ x = tkc l P t := by
  intro x hx
  unfold bdy at hx
  rcases List.mem_append.1 hx with hx | hx
  · obtain ⟨t, ht, rfl⟩ := List.mem_map.1 hx
    have := tkN_in T 0 t ht
    exact Or.inr ⟨t, by omega, rfl⟩
  · obtain ⟨y, hy, rfl⟩ := List.mem_map.1 hx
    exact Or.inl ⟨rfl, hn y hy⟩
theorem bdy_nts (l : List DSector) (T P : Nat) (n : List ByteArray) : nts (bdy l T P n) = n := by
  rw [bdy, nts_app, nts_tk, nts_nt, List.nil_append]
theorem bdy_len (l : List DSector) (T P : Nat) (n : List ByteArray) : (bdy l T P n).length ≤ T + n.length := by
  have := tkN_len (l := l) (P := P) T 0
  rw [bdy, List.length_append, List.length_map, List.length_map]
  omega
theorem VI.okKs (v : VI l T P nb s) {n : List ByteArray} (hn : ∀ x ∈ n, noteB x = true) : ∀ x ∈ bdy l T P n, okK x ∧ x.f1.size ≤ 280 := by
  intro x hx
  rcases v.bdy_in hn x hx with ⟨h3, hb⟩ | ⟨t, ht, rfl⟩
  · have := noteB_size hb
    exact ⟨⟨by omega, by omega, by omega⟩, by omega⟩
  · have := tkB_size3 (ss := trS l P t) t (fun y hy => by
      have := (secX_yes (v.trIn t y hy)).1
      rw [v.snb] at this
      have := v.nb32
      omega) (by rw [v.trLen ht]; exact v.p8)
    have h2 : (tkc l P t).f1.size ≤ 280 := this
    refine ⟨⟨?_, ?_, by omega⟩, h2⟩
    · show (1 : Int) ≤ 2; decide
    · show (2 : Int) ≤ 4; decide
end
theorem encs_le {m : Nat} : ∀ A : List DChunk, (∀ x ∈ A, x.f1.size ≤ m) → (encs A).length ≤ A.length * (m + 5)
  | [], _ => by simp [encs]
  | x :: A, h => by
    have h1 := encs_le A (fun y hy => h y (List.mem_cons_of_mem _ hy))
    have h2 := h x List.mem_cons_self
    rw [encs, List.length_append, sz_list, encB_size, List.length_cons, Nat.succ_mul]
    omega
section
variable {c h p s : Int} {l : List DSector} {n : List ByteArray}
theorem chk_ok (g : okD c h p s l = true) (hn : ∀ x ∈ n, noteB x = true) : ∀ x ∈ chk c h p s l n, okK x := by
  intro x hx
  rcases List.mem_cons.1 hx with rfl | hx
  · exact ⟨show (1 : Int) ≤ 1 by decide, show (1 : Int) ≤ 4 by decide, by simp only [hdI_size]; omega⟩
  · rcases List.mem_append.1 hx with hx | hx
    · exact ((geo_vi g).okKs hn x hx).1
    · rw [List.mem_singleton.1 hx]
      exact ⟨by decide, by decide, by decide⟩
theorem chk_len (g : okD c h p s l = true) (hn8 : n.length ≤ 8) : 2 ≤ (chk c h p s l n).length ∧ (chk c h p s l n).length ≤ 26 := by
  have h1 := bdy_len l (c * h).toNat p.toNat n
  have h2 := (geo_vi g).t16
  rw [chk, List.length_cons, List.length_append, List.length_singleton]
  omega
theorem img_size (g : okD c h p s l = true) (hn8 : n.length ≤ 8) (hn : ∀ x ∈ n, noteB x = true) : (imG c h p s l n).size ≤ 8000 := by
  have h1 := bdy_len l (c * h).toNat p.toNat n
  have h2 := (geo_vi g).t16
  have h3 := encs_le (m := 280) _ (fun x hx => ((geo_vi g).okKs hn x hx).2)
  rw [← sz_list, imG_encs, chk, encs, encs_app, List.length_append, List.length_append, sz_list, encB_size]
  simp only [hdI_size, encs, List.append_nil]
  rw [sz_list, encB_size]
  have h4 : (⟨#[]⟩ : ByteArray).size = 0 := rfl
  have h5 := Nat.mul_le_mul_right 285 (show (bdy l (c * h).toNat p.toNat n).length ≤ 24 by omega)
  simp only [h4]
  omega
theorem newS_get (c h p s : Int) {k : Nat} (hk : k < secN c h p) : (newS c h p s)[k]? = some (miss (szB s).toNat) := by
  rw [newS, List.getElem?_replicate, if_pos hk]
theorem newS_len2 (g : okD c h p s l = true) : (newS c h p s).length = (c * h).toNat * p.toNat := by
  obtain ⟨g1, g2, g3⟩ := okD_geo g
  rw [newS_len, ← (geo_vi g).len, secN]
  omega
/-- All chunks enter the empty disc: the image's sectors, but for those of a chunk that is gone. -/
theorem foE_img (g : okD c h p s l = true) {M : List DChunk} (hM : ∀ x ∈ M, ¬ x.f0 = 2 ∨ ∃ t, t < (c * h).toNat ∧ x = tkc l p.toNat t) {k : Nat} (hk : k < l.length) (ht : k / p.toNat < (c * h).toNat → tkc l p.toNat (k / p.toNat) ∈ M ∨ nonE (trS l p.toNat (k / p.toNat)) = false) :
    (foE (c * h).toNat p.toNat (szB s).toNat s M (newS c h p s) []).1[k]? = l[k]? := by
  have v := geo_vi g
  have hkT : k / p.toNat < (c * h).toNat := by
    rw [Nat.div_lt_iff_lt_mul v.p0, ← v.len]
    exact hk
  refine v.all hkT M _ _ (newS_len2 g) hM ?_
  rcases ht hkT with h1 | h1
  · exact Or.inl h1
  · right
    rw [v.empty hkT h1 rfl]
    refine newS_get c h p s ?_
    rw [← newS_len c h p s, newS_len2 g, ← v.len]
    exact hk
theorem tkc_chk (g : okD c h p s l = true) {t : Nat} (ht : t < (c * h).toNat) : tkc l p.toNat t ∈ bdy l (c * h).toNat p.toNat n ∨ nonE (trS l p.toNat t) = false := by
  rcases tkN_has (l := l) (P := p.toNat) (c * h).toNat 0 t (by omega) (by omega) with h1 | h1
  · left
    rw [bdy, List.mem_append, List.mem_map]
    exact Or.inl ⟨t, h1, rfl⟩
  · exact Or.inr h1
theorem foE_all (g : okD c h p s l = true) {M : List DChunk} (hM : ∀ x ∈ M, ¬ x.f0 = 2 ∨ ∃ t, t < (c * h).toNat ∧ x = tkc l p.toNat t) (hB : ∀ x ∈ bdy l (c * h).toNat p.toNat n, x ∈ M) :
    (foE (c * h).toNat p.toNat (szB s).toNat s M (newS c h p s) []).1 = l := by
  apply List.ext_getElem?
  intro k
  by_cases hk : k < l.length
  · refine foE_img g hM hk fun ht => ?_
    rcases tkc_chk (n := n) g ht with h1 | h1
    · exact Or.inl (hB _ h1)
    · exact Or.inr h1
  · have h1 := (foE_in (T := (c * h).toNat) (P := p.toNat) (nb := (szB s).toNat) (s := s) M (newS c h p s) [] (newS_len2 g) (by simp)).1
    rw [List.getElem?_eq_none (by rw [h1, ← (geo_vi g).len]; omega), List.getElem?_eq_none (by omega)]
theorem mid_chk (x y : DChunk) (B : List DChunk) : mid (x :: (B ++ [y])) = B := by
  have : (x :: (B ++ [y])).length - 2 = B.length := by simp
  rw [mid, this, List.drop_one, List.tail_cons, List.take_left]
theorem chk_last : (chk c h p s l n).getLast? = some ⟨4, ⟨#[]⟩⟩ := by
  rw [chk, ← List.cons_append, List.getLast?_append]
  rfl
theorem chk_kinds (g : okD c h p s l = true) (hn : ∀ x ∈ n, noteB x = true) : ∀ x ∈ chk c h p s l n, ¬ x.f0 = 2 ∨ ∃ t, t < (c * h).toNat ∧ x = tkc l p.toNat t := by
  intro x hx
  rcases List.mem_cons.1 hx with rfl | hx
  · exact Or.inl (show ¬ (1 : Int) = 2 by decide)
  · rcases List.mem_append.1 hx with hx | hx
    · rcases (geo_vi g).bdy_in hn x hx with ⟨h3, -⟩ | h3
      · exact Or.inl (by omega)
      · exact Or.inr h3
    · rw [List.mem_singleton.1 hx]
      exact Or.inl (by decide)
theorem imgOf_chk (g : okD c h p s l = true) (hn8 : n.length ≤ 8) (hn : ∀ x ∈ n, noteB x = true) : imgOf (chk c h p s l n) = some ⟨c, h, p, s, l, n⟩ := by
  obtain ⟨g1, g2, g3⟩ := okD_geo g
  have v := geo_vi g
  obtain ⟨L2, L26⟩ := chk_len (n := n) g hn8
  have hla := getLast_get (L := chk c h p s l n) (by omega)
  rw [chk_last, Option.some.injEq] at hla
  obtain ⟨a1, a2, a3, a4, a5⟩ := hdI_nums g1
  obtain ⟨e3, e4, e5, e6⟩ := hdI_bt g1
  rw [imgOf_4 L2 rfl (hdI_ok g1) (by rw [← hla]) (by rw [← hla]; rfl)]
  show bodyOf (hdI c h p s) (mid (⟨1, hdI c h p s⟩ :: (bdy l (c * h).toNat p.toNat n ++ [⟨4, ⟨#[]⟩⟩]))) = _
  rw [mid_chk]
  have hb := v.bdy_in hn
  have hd := decG_foE (T := (c * h).toNat) (P := p.toNat) (nb := (szB s).toNat) (s := s) (bdy l (c * h).toNat p.toNat n) (newS c h p s) [] (fun x hx => by
    rcases hb x hx with h1 | ⟨t, ht, rfl⟩
    · exact Or.inl h1
    · refine Or.inr ⟨rfl, ?_⟩
      rw [show (tkc l p.toNat t).f1 = tkB t (trS l p.toNat t) from rfl, v.trk ht]
      rfl) (by rw [bdy_nts]; simpa using hn8)
  have h2 := foE_N (T := (c * h).toNat) (P := p.toNat) (nb := (szB s).toNat) (s := s) (bdy l (c * h).toNat p.toNat n) (newS c h p s) [] (fun x hx h3 => by
    rcases hb x hx with h1 | ⟨t, ht, rfl⟩
    · exact h1.2
    · exact absurd h3 (tkc_no3 _ _ _)) (by rw [bdy_nts]; simpa using hn8)
  have h1 := foE_all (n := n) g (M := bdy l (c * h).toNat p.toNat n) (fun x hx => by
    rcases hb x hx with ⟨h3, -⟩ | h3
    · exact Or.inl (by omega)
    · exact Or.inr h3) (fun x hx => hx)
  rw [bdy_nts, List.nil_append] at h2
  rw [bodyOf, a1, a2, a3, a4, a5, hd, e3, e4, e5, e6]
  simp only [Option.map_some, h1, h2]
/-- The image of an image's container. -/
theorem dec_imG (g : okD c h p s l = true) (hn8 : n.length ≤ 8) (hn : ∀ x ∈ n, noteB x = true) : decR (imG c h p s l n) = some ⟨c, h, p, s, l, n⟩ ∧ decC (imG c h p s l n) = 0 ∧ dkL (imG c h p s l n) = chk c h p s l n ∧ dkN (imG c h p s l n) = (imG c h p s l n).size := by
  have hsz := img_size g hn8 hn
  obtain ⟨L2, L26⟩ := chk_len (n := n) g hn8
  obtain ⟨k1, k2⟩ := dk_encs (chk_ok g hn) (imG_encs c h p s l n) (by omega)
  have := dec_4 (s := imG c h p s l n) (by omega) k2 (x := ⟨c, h, p, s, l, n⟩) (by rw [k1]; exact imgOf_chk g hn8 hn)
  exact ⟨this.1, this.2, k1, k2⟩
/-- What is left of chunks that begin with an image's header. -/
theorem sal_encs (g : okD c h p s l = true) {r : List DChunk} {t : ByteArray} (hk : ∀ x ∈ (⟨1, hdI c h p s⟩ : DChunk) :: r, okK x) (h8 : t.size ≤ 8192) (ht : t.data.toList = encs (⟨1, hdI c h p s⟩ :: r)) :
    saR t = (⟨c, h, p, s, (foE (c * h).toNat p.toNat (szB s).toNat s (⟨1, hdI c h p s⟩ :: r) (newS c h p s) []).1, (foE (c * h).toNat p.toNat (szB s).toNat s (⟨1, hdI c h p s⟩ :: r) (newS c h p s) []).2⟩, 0, 0) := by
  obtain ⟨g1, g2, g3⟩ := okD_geo g
  obtain ⟨a1, a2, a3, a4, a5⟩ := hdI_nums g1
  obtain ⟨e3, e4, e5, e6⟩ := hdI_bt g1
  obtain ⟨k1, k2⟩ := sa_encs hk ht
  have hX := saX_yes (L := (⟨1, hdI c h p s⟩ : DChunk) :: r) (i := 0) (by simp) (by rw [List.getElem_cons_zero, hdX, hdI_ok g1]; rfl)
  rw [List.getElem_cons_zero] at hX
  rw [sa_3 (by omega) (by rw [k1]; exact hX), k2, bodyS, a1, a2, a3, a4, a5, e3, e4, e5, e6]
  rfl
theorem sal_imG (g : okD c h p s l = true) (hn8 : n.length ≤ 8) (hn : ∀ x ∈ n, noteB x = true) : saR (imG c h p s l n) = (⟨c, h, p, s, l, n⟩, 0, 0) := by
  have hsz := img_size g hn8 hn
  have h0 := sal_encs g (r := bdy l (c * h).toNat p.toNat n ++ [(⟨4, ⟨#[]⟩⟩ : DChunk)]) (t := imG c h p s l n) (chk_ok g hn) (by omega) (imG_encs c h p s l n)
  rw [h0]
  have h1 := foE_all (n := n) g (M := chk c h p s l n) (chk_kinds g hn) (fun x hx => List.mem_cons_of_mem _ (List.mem_append_left _ hx))
  have hnt : nts (chk c h p s l n) = n := by
    rw [chk, nts, if_neg (show ¬ (1 : Int) = 3 by decide), nts_app, bdy_nts]
    simp [nts]
  have h2 := foE_N (T := (c * h).toNat) (P := p.toNat) (nb := (szB s).toNat) (s := s) (chk c h p s l n) (newS c h p s) [] (fun x hx h3 => by
    rcases List.mem_cons.1 hx with rfl | hx
    · exact absurd h3 (show ¬ (1 : Int) = 3 by decide)
    · rcases List.mem_append.1 hx with hx | hx
      · rcases (geo_vi g).bdy_in hn x hx with h1 | ⟨t, ht, rfl⟩
        · exact h1.2
        · exact absurd h3 (tkc_no3 _ _ _)
      · rw [List.mem_singleton.1 hx] at h3
        exact absurd h3 (by decide)) (by rw [hnt]; simpa using hn8)
  rw [hnt, List.nil_append] at h2
  rw [chk] at h1 h2
  rw [h1, h2]
/-- Whether a sector is lost with a chunk. -/
def lostB (x : DChunk) (q : Nat) : Bool := decide (x.f0 = 2) && (decide (0 < x.f1.size) && decide (bt x.f1 0 = q))
/-- What is left of a container without one of its chunks. -/
theorem sal_gone (g : okD c h p s l = true) (hn8 : n.length ≤ 8) (hn : ∀ x ∈ n, noteB x = true) {q : Nat} (hq : q + 1 < (chk c h p s l n).length) {t : ByteArray} (ht : t.data.toList = encs ((chk c h p s l n).eraseIdx (q + 1))) :
    ∃ (L : List DSector) (N : List ByteArray), saR t = (⟨c, h, p, s, L, N⟩, 0, 0) ∧ L.length = l.length ∧ N.length ≤ 8 ∧ ∀ k, k < l.length → lostB ((chk c h p s l n)[q + 1]) (k / p.toNat) = false → L[k]? = l[k]? := by
  have v := geo_vi g
  have hsz := img_size g hn8 hn
  obtain ⟨r, hr⟩ : ∃ r, (bdy l (c * h).toNat p.toNat n ++ [(⟨4, ⟨#[]⟩⟩ : DChunk)]).eraseIdx q = r := ⟨_, rfl⟩
  have hc : (chk c h p s l n).eraseIdx (q + 1) = ⟨1, hdI c h p s⟩ :: r := by rw [chk, List.eraseIdx_cons_succ, hr]
  have hsub : ∀ x ∈ (⟨1, hdI c h p s⟩ : DChunk) :: r, x ∈ chk c h p s l n := by
    rw [← hc]
    exact fun x hx => List.mem_of_mem_eraseIdx hx
  rw [hc] at ht
  have hle : t.size ≤ 8192 := by
    have h1 : (encs ((⟨1, hdI c h p s⟩ : DChunk) :: r)).length ≤ (encs (chk c h p s l n)).length := by
      rw [← hc]
      have : ∀ (A : List DChunk) (i : Nat), (encs (A.eraseIdx i)).length ≤ (encs A).length := by
        intro A
        induction A with
        | nil => intro i; simp
        | cons x A ih =>
          intro i
          cases i with
          | zero => rw [List.eraseIdx_cons_zero, encs, List.length_append]; omega
          | succ i =>
            have := ih i
            rw [List.eraseIdx_cons_succ, encs, encs, List.length_append, List.length_append]
            omega
      exact this _ _
    rw [← ht, ← imG_encs, sz_list, sz_list] at h1
    omega
  have h0 := sal_encs g (r := r) (t := t) (fun x hx => chk_ok g hn x (hsub x hx)) hle ht
  have hin := foE_in (T := (c * h).toNat) (P := p.toNat) (nb := (szB s).toNat) (s := s) ((⟨1, hdI c h p s⟩ : DChunk) :: r) (newS c h p s) [] (newS_len2 g) (by simp)
  refine ⟨_, _, h0, by rw [hin.1, v.len], hin.2, fun k hk hl => ?_⟩
  refine foE_img g (fun x hx => chk_kinds g hn x (hsub x hx)) hk fun hkT => ?_
  rcases tkc_chk (n := n) g hkT with h1 | h1
  · left
    rw [← hc]
    have h2 : tkc l p.toNat (k / p.toNat) ∈ chk c h p s l n := List.mem_cons_of_mem _ (List.mem_append_left _ h1)
    obtain ⟨i, hi, he⟩ := List.getElem_of_mem h2
    rw [List.mem_eraseIdx_iff_getElem]
    refine ⟨i, hi, ?_, he⟩
    intro e
    subst e
    rw [he] at hl
    have h16 := v.t16
    have h5 : (byteB (k / p.toNat)).size = 1 := rfl
    have h6 : 0 < (tkB (k / p.toNat) (trS l p.toNat (k / p.toNat))).size := by rw [tkB, ByteArray.size_append, h5]; omega
    unfold lostB at hl
    rw [tkc] at hl
    simp only [tkB_0 (show k / p.toNat < 256 by omega)] at hl
    simp [h6] at hl
  · exact Or.inr h1
end
/-- The bytes of chunks but one. -/
def skE (q : Nat) : Nat → List DChunk → List UInt8
  | _, [] => []
  | i, x :: r => (if i = q then [] else (encC x.f0 x.f1).data.toList) ++ skE q (i + 1) r
theorem encC_ok {x : DChunk} (h : okK x) : encC x.f0 x.f1 = encB x.f0.toNat x.f1 := by
  obtain ⟨h1, h2, h3⟩ := h
  refine encC_yes _ _ ?_
  simp only [okChunk, inB, Bool.and_eq_true, decide_eq_true_eq]
  exact ⟨⟨h1, h2⟩, h3⟩
theorem skE_all (q : Nat) : ∀ (L : List DChunk) (i : Nat), (∀ x ∈ L, okK x) → q < i → skE q i L = encs L
  | [], i, _, _ => rfl
  | x :: L, i, h, hi => by
    rw [skE, if_neg (by omega), encC_ok (h x List.mem_cons_self), skE_all q L (i + 1) (fun y hy => h y (List.mem_cons_of_mem _ hy)) (by omega), encs]
theorem skE_gone (q : Nat) : ∀ (L : List DChunk) (i : Nat), (∀ x ∈ L, okK x) → i ≤ q → skE q i L = encs (L.eraseIdx (q - i))
  | [], i, _, _ => rfl
  | x :: L, i, h, hi => by
    have hL := fun y hy => h y (List.mem_cons_of_mem _ hy)
    rw [skE]
    by_cases e : i = q
    · subst e
      rw [if_pos rfl, Nat.sub_self, List.eraseIdx_cons_zero, skE_all i L (i + 1) hL (by omega), List.nil_append]
    · rw [if_neg e, encC_ok (h x List.mem_cons_self), skE_gone q L (i + 1) hL (by omega)]
      obtain ⟨m, hm⟩ : ∃ m, q - i = m + 1 := ⟨q - i - 1, by omega⟩
      rw [hm, List.eraseIdx_cons_succ, encs, show q - (i + 1) = m by omega]
end Go.Proofs.Ytemppogailpoiaa
namespace Go.Proofs.Ytemppogailpoiaa
set_option linter.unusedVariables false
open Go.RowKit

def fU (b : UInt8) : List Value := [.int .u8 (b.toNat : Int)]
theorem fU_len (b : UInt8) : (fU b).length = 1 := rfl

/-- Block g is a source of draws over these bytes; at most N were drawn. -/
def SR (w : World) (g : Nat) (A : Option Addr) (n c : Nat) (N : Nat) : Prop := ∃ (k : Nat) (u : Int), k ≤ N ∧ BX w g 70 [.slice A n c, .int .i64 (k : Int), .int .u64 u]

section
variable {w w' : World} {g n c N : Nat} {A : Option Addr}
theorem SR.grown {row : Option Nat} (h : SR w g A n c N) (hg : w.grownBy w' row) (hne : row ≠ some g) : SR w' g A n c N := by
  obtain ⟨k, u, hk, F⟩ := h
  exact ⟨k, u, hk, F.grown hg hne⟩
theorem SR.below {B : Nat} (h : SR w g A n c N) (hb : Below B w w') (hg : g < B) : SR w' g A n c N := by
  obtain ⟨k, u, hk, F⟩ := h
  exact ⟨k, u, hk, F.below hb hg⟩
theorem SR.lt (h : SR w g A n c N) : g < w.heap.size := by
  obtain ⟨k, u, hk, F⟩ := h
  exact F.lt
theorem SR.more {M : Nat} (h : SR w g A n c N) (hM : N ≤ M) : SR w g A n c M := by
  obtain ⟨k, u, hk, F⟩ := h
  exact ⟨k, u, by omega, F⟩
theorem SR.dr (h : SR w g A n c N) : SR w.drew g A n c N := h
theorem gr_trans {a b c : World} {row : Option Nat} (h : a.grownBy b row) (k : b.grownBy c row) : a.grownBy c row :=
  ⟨k.os.trans h.os, k.tape.trans h.tape, k.output.trans h.output, Nat.le_trans h.size k.size, fun i hi hne => (k.block i (Nat.lt_of_lt_of_le hi h.size) hne).trans (h.block i hi hne)⟩
theorem grown_rd {B size m : Nat} {A' : Option Addr} {xs : List Value} (h : Rd w B size A' m xs) (hg : w.grownBy w' (some g)) (hBg : B ≤ g) (hB : B ≤ w.heap.size) : Rd w' B size A' m xs :=
  h.below ((Below.refl B w).grown hg hB (fun k hk => by injection hk with hk; omega))
end

theorem CP.idx {w : World} {b j : Nat} {L : List Int} (C : CP w b (L.map (Value.int .i64))) (hj : j < L.length) : w.cell? ⟨b, j, none⟩ = some (.int .i64 L[j]) := by
  have := C j (by simpa using hj)
  simpa using this
theorem CP.past {w w' : World} {b g : Nat} {vs : List Value} (C : CP w b vs) (hg : w.grownBy w' (some g)) (h : b ≠ g) : CP w' b vs := C.far hg (fun e => h (Option.some.inj e).symm)
theorem byte_and (x : Int) : 0 ≤ bits .and .u64 x 255 ∧ bits .and .u64 x 255 ≤ 255 := by
  have h : bits .and .u64 x 255 = (((BitVec.ofInt 64 x).toNat &&& 255 : Nat) : Int) := by
    show IntKind.u64.wrap ((BitVec.ofInt 64 x &&& BitVec.ofInt 64 255).toNat : Int) = _
    have h2 : (BitVec.ofInt 64 255).toNat = 255 := rfl
    have h1 : (BitVec.ofInt 64 x).toNat &&& 255 ≤ 255 := Nat.and_le_right
    rw [BitVec.toNat_and, h2, IntKind.wrap_u64]
    omega
  have h1 : (BitVec.ofInt 64 x).toNat &&& 255 ≤ 255 := Nat.and_le_right
  rw [h]
  omega
theorem byte_wrap (x : Int) : 0 ≤ wrap64 (bits .and .u64 x 255) ∧ wrap64 (bits .and .u64 x 255) ≤ 255 := by
  have h := byte_and x
  have e : wrap64 (bits .and .u64 x 255) = bits .and .u64 x 255 := IntWalk.wrap64_in _ (by omega)
  rw [e]
  exact h

set_option maxHeartbeats 1000000 in
theorem next_any (g n c N B : Nat) (A : Option Addr) (l : List UInt8) (w : World) (S : SR w g A n c N) (hn : l.length = n) (hr : Rd w B 1 A n (flat fU l)) (hBg : B ≤ g) (hB : B ≤ w.heap.size) (hN : N ≤ 1000000000) (hn2 : n ≤ maxLen) :
    Calls Try.prog 74 #[.pointer (some ⟨g, 0, none⟩)] w fun e w' => ∃ x : Int, e = .returned (.int .i64 x) ∧ 0 ≤ x ∧ x ≤ 255 ∧ SR w' g A n c (N + 1) ∧ w.grownBy w' (some g) := by
  obtain ⟨k, u, hk, F⟩ := S
  unfold maxLen at hn2
  subst hn
  have f0 : (_ : Option Value) = some (.slice A l.length c) := F.cell 0 (by simp)
  have f1 : (_ : Option Value) = some (.int .i64 (k : Int)) := F.cell 1 (by simp)
  have f2 : (_ : Option Value) = some (.int .u64 u) := F.cell 2 (by simp)
  have hfz := fun j => F.free j
  have hw1 : IntKind.i64.wrap ((k : Int) + 1) = ((k + 1 : Nat) : Int) := by rw [IntWalk.i64_in _ (by omega)]; rfl
  by_cases hlt : k < l.length
  · obtain ⟨b, off, rfl, hbb, hc⟩ := hr.at_ fU_len rfl k hlt
    have hc0 := hc 0 _ (by omega) rfl
    simp only [Nat.mul_one, Nat.add_zero] at hc0
    have hy := l[k].toNat_lt
    obtain ⟨y, hyy⟩ : ∃ y, l[k].toNat = y := ⟨_, rfl⟩
    rw [hyy] at hc0 hy
    have hwy : IntKind.i64.wrap (y : Int) = (y : Int) := IntWalk.i64_in _ (by omega)
    have hd1 : decide ((k : Int) < (l.length : Int)) = true := decide_eq_true (by omega)
    have hd2 : decide (((k + 1 : Nat) : Int) ≤ (l.length : Int)) = true := decide_eq_true (by omega)
    go_enter Try.func74, Try.ntmps74
    go_wp2
    go_quiet (fail)
    generalize nq = n1
    go_wp2
    go_quiet (fail)
    generalize nq = n2
    go_wp2
    have hg3 : w.grownBy (((w.drewN (n1 + n2)).setCell ⟨g, 1, none⟩ (.int .i64 ((k : Int) + 1))).setCell ⟨g, 2, none⟩ (.int .u64 (IntKind.u64.wrap (IntKind.u64.wrap (IntKind.u64.wrap (u * 6364136223846793005) + (y : Int)) + 1442695040888963407)))) (some g) := only_setCell (only_setCell (only_drewN (World.grownBy.refl w (some g)) _) (p := ⟨g, 1, none⟩) (Or.inl rfl) _) (p := ⟨g, 2, none⟩) (Or.inl rfl) _
    have F3 : BX (((w.drewN (n1 + n2)).setCell ⟨g, 1, none⟩ (.int .i64 ((k : Int) + 1))).setCell ⟨g, 2, none⟩ (.int .u64 (IntKind.u64.wrap (IntKind.u64.wrap (IntKind.u64.wrap (u * 6364136223846793005) + (y : Int)) + 1442695040888963407)))) g 70 [.slice (some ⟨b, off, none⟩) l.length c, .int .i64 ((k : Int) + 1), .int .u64 (IntKind.u64.wrap (IntKind.u64.wrap (IntKind.u64.wrap (u * 6364136223846793005) + (y : Int)) + 1442695040888963407))] := ((show BX (w.drewN (n1 + n2)) g 70 _ from F).put 1 (.int .i64 ((k : Int) + 1))).put 2 _
    generalize (((w.drewN (n1 + n2)).setCell ⟨g, 1, none⟩ (.int .i64 ((k : Int) + 1))).setCell ⟨g, 2, none⟩ (.int .u64 (IntKind.u64.wrap (IntKind.u64.wrap (IntKind.u64.wrap (u * 6364136223846793005) + (y : Int)) + 1442695040888963407)))) = w3 at hg3 F3 ⊢
    generalize (IntKind.u64.wrap (IntKind.u64.wrap (IntKind.u64.wrap (u * 6364136223846793005) + (y : Int)) + 1442695040888963407)) = u3 at F3 ⊢
    clear f0 f1 f2 hfz
    have f0 : (_ : Option Value) = some (.slice (some ⟨b, off, none⟩) l.length c) := F3.cell 0 (by simp)
    have f1 : (_ : Option Value) = some (.int .i64 ((k : Int) + 1)) := F3.cell 1 (by simp)
    have f2 : (_ : Option Value) = some (.int .u64 u3) := F3.cell 2 (by simp)
    go_quiet (fail)
    go_wp2
    go_ret
    exact ⟨(y : Int), rfl, by omega, by omega, ⟨k + 1, u3, by omega, F3⟩, only_drewN hg3 _⟩
  · have hd1 : decide ((k : Int) < (l.length : Int)) = false := decide_eq_false (by omega)
    have hd2 : decide (((k + 1 : Nat) : Int) ≤ (l.length : Int)) = false := decide_eq_false (by omega)
    go_enter Try.func74, Try.ntmps74
    go_wp2
    go_quiet (fail)
    generalize nq = n1
    go_wp2
    have hg3 : w.grownBy (((w.drewN n1).setCell ⟨g, 1, none⟩ (.int .i64 ((k : Int) + 1))).setCell ⟨g, 2, none⟩ (.int .u64 (IntKind.u64.wrap (IntKind.u64.wrap (IntKind.u64.wrap (u * 6364136223846793005)) + 1442695040888963407)))) (some g) := only_setCell (only_setCell (only_drewN (World.grownBy.refl w (some g)) _) (p := ⟨g, 1, none⟩) (Or.inl rfl) _) (p := ⟨g, 2, none⟩) (Or.inl rfl) _
    have F3 : BX (((w.drewN n1).setCell ⟨g, 1, none⟩ (.int .i64 ((k : Int) + 1))).setCell ⟨g, 2, none⟩ (.int .u64 (IntKind.u64.wrap (IntKind.u64.wrap (IntKind.u64.wrap (u * 6364136223846793005)) + 1442695040888963407)))) g 70 [.slice A l.length c, .int .i64 ((k : Int) + 1), .int .u64 (IntKind.u64.wrap (IntKind.u64.wrap (IntKind.u64.wrap (u * 6364136223846793005)) + 1442695040888963407))] := ((show BX (w.drewN n1) g 70 _ from F).put 1 (.int .i64 ((k : Int) + 1))).put 2 _
    generalize (((w.drewN n1).setCell ⟨g, 1, none⟩ (.int .i64 ((k : Int) + 1))).setCell ⟨g, 2, none⟩ (.int .u64 (IntKind.u64.wrap (IntKind.u64.wrap (IntKind.u64.wrap (u * 6364136223846793005)) + 1442695040888963407)))) = w3 at hg3 F3 ⊢
    generalize (IntKind.u64.wrap (IntKind.u64.wrap (IntKind.u64.wrap (u * 6364136223846793005)) + 1442695040888963407)) = u3 at F3 ⊢
    clear f0 f1 f2 hfz
    have f0 : (_ : Option Value) = some (.slice A l.length c) := F3.cell 0 (by simp)
    have f1 : (_ : Option Value) = some (.int .i64 ((k : Int) + 1)) := F3.cell 1 (by simp)
    have f2 : (_ : Option Value) = some (.int .u64 u3) := F3.cell 2 (by simp)
    go_quiet (fail)
    go_wp2
    go_ret
    exact ⟨_, rfl, (byte_wrap _).1, (byte_wrap _).2, ⟨k + 1, u3, by omega, F3⟩, only_drewN hg3 _⟩

set_option maxHeartbeats 1000000 in
theorem pick_any (m : Int) (g n c N B : Nat) (A : Option Addr) (l : List UInt8) (w : World) (S : SR w g A n c N) (hn : l.length = n) (hr : Rd w B 1 A n (flat fU l)) (hBg : B ≤ g) (hB : B ≤ w.heap.size) (hN : N ≤ 900000000) (hn2 : n ≤ maxLen) (hm : m ≤ 9223372036854775807) :
    Calls Try.prog 36 #[.pointer (some ⟨g, 0, none⟩), .int .i64 m] w fun e w' => ∃ x : Int, e = .returned (.int .i64 x) ∧ 0 ≤ x ∧ (x = 0 ∨ x < m) ∧ SR w' g A n c (N + 2) ∧ w.grownBy w' (some g) := by
  by_cases h1 : m ≤ 1
  · have hd1 : decide (m ≤ 1) = true := decide_eq_true h1
    go_enter Try.func36, Try.ntmps36
    go_wp2
    go_ret
    exact ⟨0, rfl, by omega, .inl rfl, S.more (by omega), World.grownBy.refl _ _⟩
  have hd1 : decide (m ≤ 1) = false := decide_eq_false h1
  have hm0 : m ≠ 0 := by omega
  have nx := next_any g n c N B A l w S hn hr hBg hB (by omega) hn2
  by_cases h2 : 200 < m
  · have hd2 : decide (200 < m) = true := decide_eq_true h2
    go_enter Try.func36, Try.ntmps36
    go_wp2_with (go_at_call 74; with_reducible refine nx.mono ?_; rintro e w1 ⟨x, rfl, hx0, hx1, S1, hg1⟩)
    have nx2 := next_any g n c (N + 1) B A l w1 S1 hn (grown_rd hr hg1 hBg hB) hBg (Nat.le_trans hB hg1.size) (by omega) hn2
    have hw1 : IntKind.i64.wrap (x * 256) = x * 256 := IntWalk.i64_in _ (by omega)
    go_wp2_with (go_at_call 74; with_reducible refine nx2.mono ?_; rintro e w2 ⟨y, rfl, hy0, hy1, S2, hg2⟩; have hw2 : IntKind.i64.wrap (x * 256 + y) = x * 256 + y := IntWalk.i64_in _ (by omega))
    go_ret
    exact ⟨(x * 256 + y) % m, rfl, Int.emod_nonneg _ hm0, .inr (Int.emod_lt_of_pos _ (by omega)), S2, gr_trans hg1 hg2⟩
  · have hd2 : decide (200 < m) = false := decide_eq_false h2
    go_enter Try.func36, Try.ntmps36
    go_wp2_with (go_at_call 74; with_reducible refine nx.mono ?_; rintro e w1 ⟨x, rfl, hx0, hx1, S1, hg1⟩)
    go_ret
    exact ⟨x % m, rfl, Int.emod_nonneg _ hm0, .inr (Int.emod_lt_of_pos _ (by omega)), S1.more (by omega), hg1⟩

set_option maxHeartbeats 1000000 in
theorem one_any (m : Int) (g n c N B : Nat) (A : Option Addr) (l : List UInt8) (w : World) (S : SR w g A n c N) (hn : l.length = n) (hr : Rd w B 1 A n (flat fU l)) (hBg : B ≤ g) (hB : B ≤ w.heap.size) (hN : N ≤ 900000000) (hn2 : n ≤ maxLen) (hm : m ≤ 9223372036854775807) :
    Calls Try.prog 38 #[.pointer (some ⟨g, 0, none⟩), .int .i64 m] w fun e w' => ∃ x : Bool, e = .returned (.bool x) ∧ SR w' g A n c (N + 2) ∧ w.grownBy w' (some g) := by
  have nx := pick_any m g n c N B A l w S hn hr hBg hB hN hn2 hm
  go_enter Try.func38, Try.ntmps38
  go_wp2_with (go_at_call 36; with_reducible refine nx.mono ?_; rintro e w1 ⟨x, rfl, hx0, hx1, S1, hg1⟩)
  go_ret
  exact ⟨_, rfl, S1, hg1⟩

set_option maxHeartbeats 1000000 in
theorem among_any (L : List Int) (b q c2 : Nat) (hq : q = L.length) (g n c N B : Nat) (A : Option Addr) (l : List UInt8) (w : World) (S : SR w g A n c N) (hn : l.length = n) (hr : Rd w B 1 A n (flat fU l)) (hBg : B ≤ g) (hB : B ≤ w.heap.size) (hN : N ≤ 900000000) (hn2 : n ≤ maxLen)
    (hL0 : 0 < L.length) (hL : L.length ≤ 1000) (C : CP w b (L.map (Value.int .i64))) (hbg : b ≠ g) :
    Calls Try.prog 71 #[.pointer (some ⟨g, 0, none⟩), .slice (some ⟨b, 0, none⟩) q c2] w fun e w' => ∃ x : Int, e = .returned (.int .i64 x) ∧ x ∈ L ∧ SR w' g A n c (N + 2) ∧ w.grownBy w' (some g) := by
  subst hq
  have nx := pick_any (L.length : Int) g n c N B A l w S hn hr hBg hB hN hn2 (by omega)
  go_enter Try.func71, Try.ntmps71
  go_wp2_with (go_at_call 36; (with_reducible refine nx.mono ?_; rintro e w1 ⟨x, rfl, hx0, hx1, S1, hg1⟩; obtain ⟨j, rfl⟩ : ∃ j : Nat, x = (j : Int) := ⟨x.toNat, by omega⟩; have hj : j < L.length := (by omega); have c0 := CP.idx (CP.past C hg1 hbg) hj))
  go_ret
  exact ⟨_, rfl, List.getElem_mem hj, S1, hg1⟩
end Go.Proofs.Ytemppogailpoiaa
namespace Go.Proofs.Ytemppogailpoiaa
set_option linter.unusedVariables false
open Go.RowKit

theorem SR.al {w : World} {g n c N : Nat} {A : Option Addr} (h : SR w g A n c N) (o : Obj) : SR (w.alloc o) g A n c N := h.grown (World.grownBy_alloc w o none) (by simp)
theorem drawn_cells (y : Nat) (hy : y ≤ 255) : (#[Value.int .u8 (y : Int)] : Array Value).toList = bcells [UInt8.ofNat y] := by
  have : ((UInt8.ofNat y).toNat : Int) = y := by rw [UInt8.toNat_ofNat']; omega
  simp only [bcells, List.map_cons, List.map_nil, this]
theorem OwnB.far {w w' : World} {base g : Nat} {e : TypeId} {v : Value} {l : List UInt8} (h : OwnB w base e v l) (hg : w.grownBy w' (some g)) (hb : g < base) : OwnB w' base e v l := h.kept hg (.inr (fun hv => by have := (h.lt g hv).1; omega))
theorem gr_below {a w w' : World} {g : Nat} (h : a.grownBy w (some g)) (hb : Below a.heap.size w w') : a.grownBy w' (some g) :=
  ⟨hb.os.trans h.os, hb.tape.trans h.tape, hb.output.trans h.output, Nat.le_trans h.size hb.size, fun i hi hne => (hb.block i hi).trans (h.block i hi hne)⟩
theorem gr_own {a w w' : World} {g : Nat} {row : Option Nat} (h : a.grownBy w (some g)) (k : w.grownBy w' row) (hr : ∀ j, row = some j → a.heap.size ≤ j) : a.grownBy w' (some g) := h.andThen k (fun j hj => .inl (hr j hj))

set_option maxRecDepth 100000 in
set_option maxHeartbeats 2000000 in
theorem drawData_any (m : Nat) (g n c N B : Nat) (A : Option Addr) (l : List UInt8) (w : World) (S : SR w g A n c N) (hn : l.length = n) (hr : Rd w B 1 A n (flat fU l)) (hBg : B ≤ g) (hB : B ≤ w.heap.size) (hN : N ≤ 800000000) (hn2 : n ≤ maxLen) (hm : m ≤ 1000000) :
    Calls Try.prog 87 #[.pointer (some ⟨g, 0, none⟩), .int .i64 (m : Int)] w fun e w' => ∃ d : ByteArray, e = .returned (.string d) ∧ d.size = m ∧ SR w' g A n c (N + 2 + 3 * m) ∧ w.grownBy w' (some g) := by
  have hgl := S.lt
  have am := among_any [0, 65, 229, 78] w.heap.size 4 4 rfl g n c N B A l (w.alloc (.cells #[.int .i64 0, .int .i64 65, .int .i64 229, .int .i64 78] 2)) (S.al _) hn (hr.alloc hB _) hBg (by rw [World.size_alloc]; omega) (by omega) hn2 (by decide) (by decide) (CP.made w [.int .i64 0, .int .i64 65, .int .i64 229, .int .i64 78] 2) (by omega)
  go_enter Try.func87, Try.ntmps87
  go_wp2_with (go_at_call 71; with_reducible refine am.mono ?_; rintro e w1 ⟨x, rfl, hx, S1, hg1⟩; obtain ⟨y, rfl, hy⟩ : ∃ y : Nat, x = (y : Int) ∧ y ≤ 255 := ⟨x.toNat, (by simp at hx; omega)⟩; have hwy : IntKind.u8.wrap (y : Int) = (y : Int) := IntWalk.u8_in _ (by omega))
  have hsz1 : w.heap.size + 1 ≤ w1.heap.size := by have := hg1.size; rw [World.size_alloc] at this; exact this
  have hg2 : w.grownBy w1 (some g) := gr_trans (World.grownBy_alloc w _ _) hg1
  have hO := OwnB.lit (e := 5) (base := w.heap.size) w1 [] #[] rfl (by omega) (by simp)
  have S2 := S1.al (.cells #[] 5)
  have hg3 : w.grownBy (w1.alloc (.cells #[] 5)) (some g) := gr_trans hg2 (World.grownBy_alloc w1 _ _)
  generalize (w1.alloc (.cells #[] 5)) = w2 at hO S2 hg3 ⊢
  go_loopw [5, 6] (fun b o wr => ∃ (y : Nat) (out : List UInt8), y ≤ 255 ∧ b = .int .u8 (y : Int) ∧ out.length ≤ m ∧ OwnB wr w.heap.size 5 o out ∧ SR wr g A n c (N + 2 + 3 * out.length) ∧ w.grownBy wr (some g)) (fun _ o _ => match o with | .slice _ k _ => m - k | _ => 0)
  case atStart => exact ⟨y, [], hy, rfl, by simp, hO, S2, hg3⟩
  case round =>
    obtain ⟨y, out, hy, rfl, hlen, hown, S3, hg4⟩ := hrel
    obtain ⟨A0, c0, rfl⟩ := hown.form
    by_cases hlt : out.length < m
    · have hd : decide ((out.length : Int) < (m : Int)) = true := decide_eq_true (by omega)
      have on := one_any 9 g n c (N + 2 + 3 * out.length) B A l wr S3 hn (grown_rd hr hg4 hBg hB) hBg (Nat.le_trans hB hg4.size) (by omega) hn2 (by decide)
      go_wp2_with (first
        | (go_at_call 38; with_reducible refine on.mono ?_; rintro e w5 ⟨z, rfl, S5, hg5⟩)
        | (go_at_call 74; have nx := next_any g n c _ B A l _ S5 hn (grown_rd hr (gr_trans hg4 hg5) hBg hB) hBg (Nat.le_trans hB (Nat.le_trans hg4.size hg5.size)) (by omega) hn2; with_reducible refine nx.mono ?_; rintro e w6 ⟨x, rfl, hx0, hx1, S6, hg6⟩; obtain ⟨y2, rfl⟩ : ∃ y2 : Nat, x = (y2 : Int) := ⟨x.toNat, (by omega)⟩; have hy2 : y2 ≤ 255 := (by omega); have hwy2 : IntKind.u8.wrap (y2 : Int) = (y2 : Int) := IntWalk.u8_in _ (by omega); replace S5 := S6; replace hg5 := gr_trans hg5 hg6)
        | (at_builtin; refine wpList_appL rfl (.tmp 21) (.tmp 23) 22 rfl eltB _ out rfl (hown.far hg5 hgl) _ _ [UInt8.ofNat y2] 1 1 rfl (drawn_cells y2 (by omega)) rfl (by simp; omega) (Nat.le_trans hg4.size hg5.size) ?_; intro v' w' hown' hg' hat' hbl; obtain ⟨A9, c9, rfl⟩ := hown'.form)
        | (at_builtin; go_must (refine wpList_appL rfl (.tmp 21) (.tmp 23) 22 rfl eltB _ out rfl (hown.far hg5 hgl) _ _ [UInt8.ofNat y] 1 1 rfl (drawn_cells y (by omega)) rfl (by simp; omega) (Nat.le_trans hg4.size hg5.size) ?_); intro v' w' hown' hg' hat' hbl; obtain ⟨A9, c9, rfl⟩ := hown'.form))
      all_goals
        go_roundw
        case rel => first | exact ⟨y2, out ++ [UInt8.ofNat y2], hy2, rfl, (by rw [List.length_append]; exact hlt), (by have h := hown'; rw [List.length_append] at h; exact h), (SR.below S5 hbl hgl).more (by rw [List.length_append, List.length_singleton]; omega), gr_below (gr_trans hg4 hg5) hbl⟩ | exact ⟨y, out ++ [UInt8.ofNat y], hy, rfl, (by rw [List.length_append]; exact hlt), (by have h := hown'; rw [List.length_append] at h; exact h), (SR.below S5 hbl hgl).more (by rw [List.length_append, List.length_singleton]; omega), gr_below (gr_trans hg4 hg5) hbl⟩
        case measure => show m - (out.length + 1) < m - out.length; omega
    · have hd : decide ((out.length : Int) < (m : Int)) = false := decide_eq_false (by omega)
      obtain rfl : out.length = m := by omega
      have hcv := run_b2s (P := Try.prog) (dst := 9) Try.underlying22 Try.underlying5 Try.underlying9 hown
      go_wp2
      go_ret
      exact ⟨_, rfl, by first | rfl | simp [ByteArray.size], S3, hg4⟩
end Go.Proofs.Ytemppogailpoiaa
namespace Go.Proofs.Ytemppogailpoiaa
set_option linter.unusedVariables false
open Go.RowKit

theorem OO.past {w w' : World} {base size n b g cap : Nat} {xs : List Value} {e : TypeId} (O : OO w base e size (.slice (some ⟨b, 0, none⟩) n cap) n xs) (hg : w.grownBy w' (some g)) (h : b ≠ g) : OO w' base e size (.slice (some ⟨b, 0, none⟩) n cap) n xs := World.ownsRow.kept O hg (.inr (fun e => h (Option.some.inj e)))
theorem BX.past {w w' : World} {D g : Nat} {t : TypeId} {vs : List Value} (F : BX w D t vs) (hg : w.grownBy w' (some g)) (h : D ≠ g) : BX w' D t vs := F.grown hg (fun e => h (Option.some.inj e).symm)
theorem grownBy_set0 (W : World) (b j : Nat) (u : Value) : W.grownBy (W.setCell ⟨b, j, none⟩ u) (some b) := only_setCell (World.grownBy.refl W (some b)) (p := ⟨b, j, none⟩) (.inl rfl) u
theorem set_ok (L : List DSector) (k : Nat) (d : ByteArray) (st : Int) (h : ∀ x ∈ L, x.f0.size ≤ 32 ∧ 1 ≤ x.f1 ∧ x.f1 ≤ 4) (hd : d.size ≤ 32) (hst : st ∈ [1, 1, 1, 2, 4]) : ∀ x ∈ L.set k ⟨d, st⟩, x.f0.size ≤ 32 ∧ 1 ≤ x.f1 ∧ x.f1 ≤ 4 := by
  intro x hx
  rcases List.mem_or_eq_of_mem_set hx with hx | rfl
  · exact h x hx
  · simp at hst
    exact ⟨hd, by simp; omega, by simp; omega⟩
theorem rd_dr {w : World} {B size n : Nat} {A : Option Addr} {xs : List Value} (h : Rd w B size A n xs) : Rd w.drew B size A n xs := h
theorem hpos (c h p s : Int) (hg : geoB c h p s = true) : 0 < (newS c h p s).length ∧ (newS c h p s).length ≤ 128 := by
  obtain ⟨c1, c2, h1, h2, p1, p2, s1, s2⟩ := geoB_yes hg
  obtain ⟨m1, m2⟩ := prod2 c1 c2 h1 h2
  obtain ⟨q1, q2⟩ := prod3 m1 m2 p1 p2
  rw [newS_len, secN]
  omega
theorem newS_ok (c h p s : Int) (h0 : 0 ≤ s) (h2 : s ≤ 2) : ∀ x ∈ newS c h p s, x.f0.size ≤ 32 ∧ 1 ≤ x.f1 ∧ x.f1 ≤ 4 := by
  intro x hx
  have h : s = 0 ∨ s = 1 ∨ s = 2 := by omega
  rw [newS, List.mem_replicate] at hx
  rw [hx.2]
  rcases h with rfl | rfl | rfl <;> decide
set_option maxRecDepth 100000 in
set_option maxHeartbeats 4000000 in
theorem drawSmall_any (g n cc N B : Nat) (A : Option Addr) (l : List UInt8) (w : World) (S : SR w g A n cc N) (hn : l.length = n) (hr : Rd w B 1 A n (flat fU l)) (hBg : B ≤ g) (hB : B ≤ w.heap.size) (hN : N ≤ 700000000) (hn2 : n ≤ maxLen) :
    Calls Try.prog 70 #[.pointer (some ⟨g, 0, none⟩)] w fun e w' => ∃ (c h p s : Int) (L : List DSector) (v : Value), e = .returned (.agg #[.int .i64 c, .int .i64 h, .int .i64 p, .int .i64 s, v]) ∧ (1 ≤ c ∧ c ≤ 3) ∧ (1 ≤ h ∧ h ≤ 2) ∧ (1 ≤ p ∧ p ≤ 5) ∧ (0 ≤ s ∧ s ≤ 2) ∧ w'.ownsRow w.heap.size 46 2 v L.length (flat fSector L) ∧ L.length = (newS c h p s).length ∧ (∀ x ∈ L, x.f0.size ≤ 32 ∧ 1 ≤ x.f1 ∧ x.f1 ≤ 4) ∧ SR w' g A n cc (N + 20000) ∧ w.grownBy w' (some g) := by
  have hgl := S.lt
  have F0 := BX.made w 26 [.int .i64 0, .int .i64 0, .int .i64 0, .int .i64 0, .slice none 0 0]
  have S0 := S.al (.cells #[.int .i64 0, .int .i64 0, .int .i64 0, .int .i64 0, .slice none 0 0] 26)
  have hg0 : w.grownBy (w.alloc (.cells #[.int .i64 0, .int .i64 0, .int .i64 0, .int .i64 0, .slice none 0 0] 26)) (some g) := World.grownBy_alloc w _ _
  have hs0 : w.heap.size + 1 ≤ (w.alloc (.cells #[.int .i64 0, .int .i64 0, .int .i64 0, .int .i64 0, .slice none 0 0] 26)).heap.size := by rw [World.size_alloc]; omega
  go_enter Try.func70, Try.ntmps70
  go_wp2_with (first
    | (go_at_call 86; have hgeo : geoB (1 + x1) (1 + x2) (1 + x3) x4 = true := (by simp only [geoB, inB, Bool.and_eq_true, decide_eq_true_eq]; omega); have nw := l12New_any (1 + x1) (1 + x2) (1 + x3) x4 w4 hgeo; (with_reducible refine nw.mono ?_); rintro e w5 ⟨v, rfl, hown, hbl⟩; obtain ⟨b, vc, rfl, hb0, hb1⟩ := World.ownsRow.form hown (hpos _ _ _ _ hgeo).1)
    | (go_at_call 36; (have := m3; have pk := pick_any 3 g n cc _ B A l w3 S3 hn (grown_rd hr hg3 hBg hB) hBg (Nat.le_trans hB hg3.size) (by omega) hn2 (by decide); with_reducible refine pk.mono ?_; rintro e w4 ⟨x4, rfl, a4, b4, S4, hg4⟩; replace F0 := F0.grown hg4 (fun e => (by have := Option.some.inj e; omega)); replace hg4 := gr_trans hg3 hg4; have m4 := True.intro))
    | (go_at_call 36; (have := m2; have pk := pick_any 5 g n cc _ B A l w2 S2 hn (grown_rd hr hg2 hBg hB) hBg (Nat.le_trans hB hg2.size) (by omega) hn2 (by decide); with_reducible refine pk.mono ?_; rintro e w3 ⟨x3, rfl, a3, b3, S3, hg3⟩; have hw3 : IntKind.i64.wrap (1 + x3) = 1 + x3 := IntWalk.i64_in _ (by omega); replace F0 := F0.grown hg3 (fun e => (by have := Option.some.inj e; omega)); replace hg3 := gr_trans hg2 hg3; have m3 := True.intro))
    | (go_at_call 36; (have := m1; have pk := pick_any 2 g n cc _ B A l w1 S1 hn (grown_rd hr hg1 hBg hB) hBg (Nat.le_trans hB hg1.size) (by omega) hn2 (by decide); with_reducible refine pk.mono ?_; rintro e w2 ⟨x2, rfl, a2, b2, S2, hg2⟩; have hw2 : IntKind.i64.wrap (1 + x2) = 1 + x2 := IntWalk.i64_in _ (by omega); replace F0 := F0.grown hg2 (fun e => (by have := Option.some.inj e; omega)); replace hg2 := gr_trans hg1 hg2; have m2 := True.intro))
    | (go_at_call 36; (have pk := pick_any 3 g n cc _ B A l (w.alloc (.cells #[.int .i64 0, .int .i64 0, .int .i64 0, .int .i64 0, .slice none 0 0] 26)) S0 hn (grown_rd hr hg0 hBg hB) hBg (Nat.le_trans hB hg0.size) (by omega) hn2 (by decide); with_reducible refine pk.mono ?_; rintro e w1 ⟨x1, rfl, a1, b1, S1, hg1⟩; have hw1 : IntKind.i64.wrap (1 + x1) = 1 + x1 := IntWalk.i64_in _ (by omega); replace F0 := F0.grown hg1 (fun e => (by have := Option.some.inj e; omega)); replace hg1 := gr_trans hg0 hg1; have m1 := True.intro)))
  have hQ := hpos _ _ _ _ hgeo
  obtain ⟨c, hc⟩ : ∃ c, 1 + x1 = c := ⟨_, rfl⟩
  obtain ⟨h, hh⟩ : ∃ h, 1 + x2 = h := ⟨_, rfl⟩
  obtain ⟨p, hp⟩ : ∃ p, 1 + x3 = p := ⟨_, rfl⟩
  rw [hc, hh, hp] at hQ hown ⊢
  have hOK : ∀ x ∈ newS c h p x4, x.f0.size ≤ 32 ∧ 1 ≤ x.f1 ∧ x.f1 ≤ 4 := newS_ok c h p x4 a4 (by omega)
  have HL0 := Lib.hid (show (newS c h p x4).length = (newS c h p x4).length from rfl)
  obtain ⟨L0, hL0⟩ : ∃ L0, newS c h p x4 = L0 := ⟨_, rfl⟩
  rw [hL0] at hQ hown hOK ⊢
  obtain ⟨Q, hQe⟩ : ∃ Q, L0.length = Q := ⟨_, rfl⟩
  rw [hQe] at hQ hown ⊢
  have hg5 : w.grownBy w5 (some g) := gr_below hg4 (hbl.mono hg4.size)
  have S5 := S4.below hbl (Nat.lt_of_lt_of_le hgl hg4.size)
  have hlt4 := F0.lt
  replace F0 := F0.below hbl F0.lt
  have h45 := hbl.size
  have h4 := hg4.size
  have hbD : b < w5.heap.size := hb1
  have FD := BX.made w5 26 [.int .i64 c, .int .i64 h, .int .i64 p, .int .i64 x4, .slice (some ⟨b, 0, none⟩) Q vc]
  have S6 := S5.al (.cells #[.int .i64 c, .int .i64 h, .int .i64 p, .int .i64 x4, .slice (some ⟨b, 0, none⟩) Q vc] 26)
  have F6 := F0.al (.cells #[.int .i64 c, .int .i64 h, .int .i64 p, .int .i64 x4, .slice (some ⟨b, 0, none⟩) Q vc] 26)
  have O6 := OO.al hown (.cells #[.int .i64 c, .int .i64 h, .int .i64 p, .int .i64 x4, .slice (some ⟨b, 0, none⟩) Q vc] 26)
  have hg6 : w.grownBy (w5.alloc (.cells #[.int .i64 c, .int .i64 h, .int .i64 p, .int .i64 x4, .slice (some ⟨b, 0, none⟩) Q vc] 26)) (some g) := gr_trans hg5 (World.grownBy_alloc w5 _ _)
  obtain ⟨D, hD⟩ : ∃ D, w5.heap.size = D := ⟨_, rfl⟩
  rw [hD] at FD hbD ⊢
  generalize (w5.alloc (.cells #[.int .i64 c, .int .i64 h, .int .i64 p, .int .i64 x4, .slice (some ⟨b, 0, none⟩) Q vc] 26)) = w6 at FD S6 F6 O6 hg6 ⊢
  go_loopw [7] (fun i wr => ∃ (k : Nat) (L : List DSector), i = .int .i64 (k : Int) ∧ k ≤ Q ∧ L.length = Q ∧ OO wr w4.heap.size 46 2 (.slice (some ⟨b, 0, none⟩) Q vc) Q (flat fSector L) ∧ BX wr D 26 [.int .i64 c, .int .i64 h, .int .i64 p, .int .i64 x4, .slice (some ⟨b, 0, none⟩) Q vc] ∧ BX wr w.heap.size 26 [.int .i64 0, .int .i64 0, .int .i64 0, .int .i64 0, .slice none 0 0] ∧ SR wr g A n cc (N + 8 + 110 * k) ∧ w.grownBy wr (some g) ∧ Hid (∀ x ∈ L, x.f0.size ≤ 32 ∧ 1 ≤ x.f1 ∧ x.f1 ≤ 4)) (fun i _ => Q - (intOf i).toNat)
  case atStart => exact ⟨0, L0, rfl, Nat.zero_le _, hQe, O6, FD, F6, S6.more (by omega), hg6, Lib.hid hOK⟩
  case round =>
    obtain ⟨k, L, rfl, hk, hL, O, FD, F0, S, hg, HO⟩ := hrel
    have f3 : (_ : Option Value) = some (.int .i64 x4) := FD.cell 3 (by simp)
    have f4 : (_ : Option Value) = some (.slice (some ⟨b, 0, none⟩) Q vc) := FD.cell 4 (by simp)
    by_cases hlt : k < Q
    · have hd : decide ((k : Int) < (Q : Int)) = true := decide_eq_true (by omega)
      have on := one_any 8 g n cc _ B A l wr S hn (grown_rd hr hg hBg hB) hBg (Nat.le_trans hB hg.size) (by omega) hn2 (by decide)
      obtain ⟨NB, hnb, hnb32, _, _⟩ := szB_nat a4 (by omega)
      have lb := fun W => l12Bytes_any x4 a4 (by omega) W
      rw [hnb] at lb
      have hbg : b ≠ g := by omega
      have hDg : D ≠ g := by omega
      have hwg : w.heap.size ≠ g := by omega
      have hbD2 : b ≠ D := by omega
      have hbw : b ≠ w.heap.size := by omega
      have j0 : k * 2 < Q * 2 := by omega
      have j1 : k * 2 + 1 < Q * 2 := by omega
      go_wp2_with (go_at_call 38; (with_reducible refine on.mono ?_); rintro e w7 ⟨z, rfl, S7, hg7⟩; have O7 := OO.past O hg7 hbg; have FD7 := BX.past FD hg7 hDg; have F07 := BX.past F0 hg7 hwg; have k3 : (_ : Option Value) = some (.int .i64 x4) := FD7.cell 3 (by simp); have k4 : (_ : Option Value) = some (.slice (some ⟨b, 0, none⟩) Q vc) := FD7.cell 4 (by simp); have hg77 := gr_trans hg hg7)
      · go_roundw
        case rel => exact ⟨k + 1, L, by go_num, hlt, hL, O7, FD7, F07, S7.more (by omega), hg77, HO⟩
        case measure => (simp [intOf] <;> omega)
      · go_region_law (go_simp; first
          | (go_at_call 73; refine (lb _).mono ?_; rintro e w8 ⟨rfl, rfl⟩)
          | (go_at_call 87; have dd := drawData_any NB g n cc _ B A l w7.drew S7.dr hn (grown_rd hr (only_drew hg77) hBg hB) hBg (Nat.le_trans hB hg77.size) (by omega) hn2 (by omega); refine dd.mono ?_; rintro e w8 ⟨d, rfl, hd8, S8, hg8⟩; have O8 := OO.past (OO.dr O7) hg8 hbg; have FD8 := BX.past (BX.drx FD7) hg8 hDg; have F08 := BX.past (BX.drx F07) hg8 hwg; have q4 : (_ : Option Value) = some (.slice (some ⟨b, 0, none⟩) Q vc) := FD8.cell 4 (by simp); obtain ⟨u0, hu0⟩ := own_some O8 (k * 2) j0; have hz0 := World.ownsRow.frozenAt O8 (k * 2)))
        all_goals
          have hs9 := World.ownsRow.stored O8 (k * 2) (.string d)
          have O9 := hs9.1
          have FD9 := FD8.grown hs9.2 (fun e => hbD2 (Option.some.inj e))
          have F09 := F08.grown hs9.2 (fun e => hbw (Option.some.inj e))
          have S9 := S8.grown hs9.2 (fun e => hbg (Option.some.inj e))
          have hg9 := gr_own (gr_trans (only_drew hg77) hg8) hs9.2 (fun j e => by have := Option.some.inj (show some b = some j from e); omega)
          clear hs9
          generalize (w8.setCell ⟨b, k * 2, none⟩ (.string d)) = w9 at O9 FD9 F09 S9 hg9 ⊢
          have k4 : (_ : Option Value) = some (.slice (some ⟨b, 0, none⟩) Q vc) := FD9.cell 4 (by simp)
          have k5 := fun (o : Obj) => (show (_ : Option Value) = some (.slice (some ⟨b, 0, none⟩) Q vc) from (BX.al FD9 o).cell 4 (by simp))
          have hlt9 := S9.lt
          have b9 : b < w9.heap.size := (World.ownsRow.lt O9 b rfl).2
          have hB9 := Nat.le_trans hB hg9.size
          have am := among_any [1, 1, 1, 2, 4] w9.heap.size 5 5 rfl g n cc _ B A l (w9.alloc (.cells #[.int .i64 1, .int .i64 1, .int .i64 1, .int .i64 2, .int .i64 4] 2)).drew (SR.dr (S9.al _)) hn (rd_dr ((grown_rd hr hg9 hBg hB).alloc hB9 _)) hBg (by show B ≤ (w9.alloc _).heap.size; rw [World.size_alloc]; exact Nat.le_succ_of_le hB9) (by omega) hn2 (by decide) (by decide) (CP.dr (CP.made w9 [.int .i64 1, .int .i64 1, .int .i64 1, .int .i64 2, .int .i64 4] 2)) (by omega)
          go_wp2
          go_region_law (go_simp; (go_at_call 71; (with_reducible refine am.mono ?_); rintro e w10 ⟨st, rfl, hst, S10, hg10⟩; have O10 := OO.past (OO.dr (OO.al O9 _)) hg10 hbg; have FD10 := BX.past (BX.drx (BX.al FD9 _)) hg10 hDg; have F010 := BX.past (BX.drx (BX.al F09 _)) hg10 hwg; have r4 : (_ : Option Value) = some (.slice (some ⟨b, 0, none⟩) Q vc) := FD10.cell 4 (by simp); obtain ⟨u1, hu1⟩ := own_some O10 (k * 2 + 1) j1; have hz1 := World.ownsRow.frozenAt O10 (k * 2 + 1)))
          all_goals
            have hs11 := World.ownsRow.stored O10 (k * 2 + 1) (.int .i64 st)
            have O11 := hs11.1
            have FD11 := FD10.grown hs11.2 (fun e => hbD2 (Option.some.inj e))
            have F011 := F010.grown hs11.2 (fun e => hbw (Option.some.inj e))
            have S11 := S10.grown hs11.2 (fun e => hbg (Option.some.inj e))
            have hg11 := gr_own (gr_trans (only_drew (gr_trans hg9 (World.grownBy_alloc w9 _ _))) hg10) hs11.2 (fun j e => by have := Option.some.inj (show some b = some j from e); omega)
            have hPL := setS L k (by omega) ⟨d, st⟩
            go_wp2
            go_roundw
            case rel => exact ⟨k + 1, L.set k ⟨d, st⟩, by go_num, hlt, by rw [List.length_set]; exact hL, by rw [← hPL]; exact O11, FD11, F011, S11.more (by omega), hg11, Lib.hid (set_ok L k d st HO.out (by omega) hst)⟩
            case measure => (simp [intOf] <;> omega)
    · have hd : decide ((k : Int) < (Q : Int)) = false := decide_eq_false (by omega)
      obtain rfl : k = Q := by omega
      have f0 : (_ : Option Value) = some (.int .i64 c) := FD.cell 0 (by simp)
      have f1 : (_ : Option Value) = some (.int .i64 h) := FD.cell 1 (by simp)
      have f2 : (_ : Option Value) = some (.int .i64 p) := FD.cell 2 (by simp)
      have z0 : (_ : Option Value) = some (.int .i64 0) := F0.cell 0 (by simp)
      have z1 : (_ : Option Value) = some (.int .i64 0) := F0.cell 1 (by simp)
      have z2 : (_ : Option Value) = some (.int .i64 0) := F0.cell 2 (by simp)
      have z3 : (_ : Option Value) = some (.int .i64 0) := F0.cell 3 (by simp)
      have z4 : (_ : Option Value) = some (.slice none 0 0) := F0.cell 4 (by simp)
      have hfz := fun j => F0.free j
      go_wp2
      refine bodyPost_ret (v := .agg #[.int .i64 c, .int .i64 h, .int .i64 p, .int .i64 x4, .slice (some ⟨b, 0, none⟩) k vc]) (by simp [results, Try.results70, go_sem, World.cell?_setCell_other, z0, z1, z2, z3, z4]) rfl ⟨c, h, p, x4, L, _, rfl, by omega, by omega, by omega, by omega, ?_, ?_, HO.out, ?_, ?_⟩
      · rw [hL]
        have O' : wr.ownsRow w4.heap.size 46 2 (.slice (some ⟨b, 0, none⟩) k vc) k (flat fSector L) := O
        refine own_base (base := w4.heap.size) ?_ (by omega)
        with_reducible repeat (first | exact O' | refine ownsRow_setCell_below ?_ (by simp; try omega) _)
      · rw [hL, ← hQe, ← hL0]
      · refine SR.more (N := N + 8 + 110 * k) ?_ (by omega)
        have hx : ∀ (W : World) (j : Nat) (u : Value), SR W g A n cc (N + 8 + 110 * k) → SR (W.setCell ⟨w.heap.size, j, none⟩ u) g A n cc (N + 8 + 110 * k) := fun W j u h => h.grown (grownBy_set0 W w.heap.size j u) (fun e => by have := Option.some.inj e; omega)
        exact hx _ _ _ (hx _ _ _ (hx _ _ _ (hx _ _ _ (hx _ _ _ S))))
      · have hx : ∀ (W : World) (j : Nat) (u : Value), w.grownBy W (some g) → w.grownBy (W.setCell ⟨w.heap.size, j, none⟩ u) (some g) := fun W j u h => only_setCell h (.inr (Nat.le_refl _)) u
        exact hx _ _ _ (hx _ _ _ (hx _ _ _ (hx _ _ _ (hx _ _ _ hg))))
end Go.Proofs.Ytemppogailpoiaa
namespace Go.Proofs.Ytemppogailpoiaa
set_option linter.unusedVariables false
open Go.RowKit

theorem get_data (L : List DSector) (k : Nat) (hk : k < L.length) : (flat fSector L)[k * 2]? = some (.string L[k].f0) := by
  have := flat_get fSector 2 fSector_len L k 0 hk (by omega)
  simpa [fSector] using this
theorem get_state (L : List DSector) (k : Nat) (hk : k < L.length) : (flat fSector L)[k * 2 + 1]? = some (.int .i64 L[k].f1) := by
  have := flat_get fSector 2 fSector_len L k 1 hk (by omega)
  simpa [fSector] using this
theorem set_same {l : List Value} {j : Nat} {v : Value} (h : l[j]? = some v) : l.set j v = l := by
  obtain ⟨hj, rfl⟩ := List.getElem?_eq_some_iff.1 h
  exact List.set_getElem_self hj
theorem set_state (L : List DSector) (k : Nat) (hk : k < L.length) (st : Int) : (flat fSector L).set (k * 2 + 1) (.int .i64 st) = flat fSector (L.set k ⟨L[k].f0, st⟩) := by
  rw [← setS L k hk]
  show _ = ((flat fSector L).set (k * 2) (.string L[k].f0)).set (k * 2 + 1) (.int .i64 st)
  rw [set_same (get_data L k hk)]
theorem set_data (L : List DSector) (k : Nat) (hk : k < L.length) (d : ByteArray) : (flat fSector L).set (k * 2) (.string d) = flat fSector (L.set k ⟨d, L[k].f1⟩) := by
  rw [← setS L k hk]
  show _ = ((flat fSector L).set (k * 2) (.string d)).set (k * 2 + 1) (.int .i64 L[k].f1)
  rw [set_same (j := k * 2 + 1) (by rw [List.getElem?_set_ne (by omega)]; exact get_state L k hk)]
theorem bent_ok (L : List DSector) (k : Nat) (y : DSector) (hk : k < L.length) (h : ∀ x ∈ L, x.f0.size ≤ 32 ∧ 1 ≤ x.f1 ∧ x.f1 ≤ 4) (h1 : y.f0.size ≤ 40) (h2 : 0 ≤ y.f1 ∧ y.f1 ≤ 5) : ∀ x ∈ L.set k y, x.f0.size ≤ 40 ∧ 0 ≤ x.f1 ∧ x.f1 ≤ 5 := by
  intro x hx
  rcases List.mem_or_eq_of_mem_set hx with hx | rfl
  · have := h x hx
    omega
  · exact ⟨h1, h2⟩
theorem bent_app (L : List DSector) (y : DSector) (h : ∀ x ∈ L, x.f0.size ≤ 32 ∧ 1 ≤ x.f1 ∧ x.f1 ≤ 4) (h1 : y.f0.size ≤ 40) (h2 : 0 ≤ y.f1 ∧ y.f1 ≤ 5) : ∀ x ∈ L ++ [y], x.f0.size ≤ 40 ∧ 0 ≤ x.f1 ∧ x.f1 ≤ 5 := by
  intro x hx
  rw [List.mem_append, List.mem_singleton] at hx
  rcases hx with hx | rfl
  · have := h x hx
    omega
  · exact ⟨h1, h2⟩
theorem set5 {w W : World} {g z base size m n cc N : Nat} {A : Option Addr} {e : TypeId} {v : Value} {xs : List Value} (hz : w.heap.size ≤ z) (S : SR W g A n cc N) (hg : w.grownBy W (some g)) (O : OO W base e size v m xs) (hzb : z < base) (hgz : z ≠ g) (u0 u1 u2 u3 u4 : Value) :
    World.ownsRow (((((W.setCell ⟨z, 0, none⟩ u0).setCell ⟨z, 1, none⟩ u1).setCell ⟨z, 2, none⟩ u2).setCell ⟨z, 3, none⟩ u3).setCell ⟨z, 4, none⟩ u4) z e size v m xs ∧ SR (((((W.setCell ⟨z, 0, none⟩ u0).setCell ⟨z, 1, none⟩ u1).setCell ⟨z, 2, none⟩ u2).setCell ⟨z, 3, none⟩ u3).setCell ⟨z, 4, none⟩ u4) g A n cc N ∧ w.grownBy (((((W.setCell ⟨z, 0, none⟩ u0).setCell ⟨z, 1, none⟩ u1).setCell ⟨z, 2, none⟩ u2).setCell ⟨z, 3, none⟩ u3).setCell ⟨z, 4, none⟩ u4) (some g) := by
  have h1 : ∀ (W : World) (j : Nat) (u : Value), OO W base e size v m xs → OO (W.setCell ⟨z, j, none⟩ u) base e size v m xs := fun W j u h => OO.put h hzb u
  have h2 : ∀ (W : World) (j : Nat) (u : Value), SR W g A n cc N → SR (W.setCell ⟨z, j, none⟩ u) g A n cc N := fun W j u h => h.grown (grownBy_set0 W z j u) (fun e => hgz (Option.some.inj e))
  have h3 : ∀ (W : World) (j : Nat) (u : Value), w.grownBy W (some g) → w.grownBy (W.setCell ⟨z, j, none⟩ u) (some g) := fun W j u h => only_setCell h (.inr hz) u
  exact ⟨own_base (h1 _ _ _ (h1 _ _ _ (h1 _ _ _ (h1 _ _ _ (h1 _ _ _ O))))) (Nat.le_of_lt hzb), h2 _ _ _ (h2 _ _ _ (h2 _ _ _ (h2 _ _ _ (h2 _ _ _ S)))), h3 _ _ _ (h3 _ _ _ (h3 _ _ _ (h3 _ _ _ (h3 _ _ _ hg))))⟩

set_option maxRecDepth 100000 in
set_option maxHeartbeats 4000000 in
theorem bent_any (m : Int) (g n cc N B : Nat) (A : Option Addr) (l : List UInt8) (w : World) (S : SR w g A n cc N) (hn : l.length = n) (hr : Rd w B 1 A n (flat fU l)) (hBg : B ≤ g) (hB : B ≤ w.heap.size) (hN : N ≤ 600000000) (hn2 : n ≤ maxLen) (hm : m ≤ 9223372036854775807) :
    Calls Try.prog 35 #[.pointer (some ⟨g, 0, none⟩), .int .i64 m] w fun e w' => ∃ (c h p s : Int) (L : List DSector) (v : Value), e = .returned (.agg #[.int .i64 c, .int .i64 h, .int .i64 p, .int .i64 s, v]) ∧ (0 ≤ c ∧ c ≤ 9) ∧ (1 ≤ h ∧ h ≤ 2) ∧ (1 ≤ p ∧ p ≤ 5) ∧ (-1 ≤ s ∧ s ≤ 3) ∧ w'.ownsRow w.heap.size 46 2 v L.length (flat fSector L) ∧ (0 < L.length ∧ L.length ≤ 129) ∧ (∀ x ∈ L, x.f0.size ≤ 40 ∧ 0 ≤ x.f1 ∧ x.f1 ≤ 5) ∧ SR w' g A n cc (N + 20020) ∧ w.grownBy w' (some g) := by
  have hgl := S.lt
  have F0 := BX.made w 26 [.int .i64 0, .int .i64 0, .int .i64 0, .int .i64 0, .slice none 0 0]
  have S0 := S.al (.cells #[.int .i64 0, .int .i64 0, .int .i64 0, .int .i64 0, .slice none 0 0] 26)
  have hg0 : w.grownBy (w.alloc (.cells #[.int .i64 0, .int .i64 0, .int .i64 0, .int .i64 0, .slice none 0 0] 26)) (some g) := World.grownBy_alloc w _ _
  have hs0 : w.heap.size + 1 ≤ (w.alloc (.cells #[.int .i64 0, .int .i64 0, .int .i64 0, .int .i64 0, .slice none 0 0] 26)).heap.size := by rw [World.size_alloc]; omega
  have ds := drawSmall_any g n cc N B A l (w.alloc (.cells #[.int .i64 0, .int .i64 0, .int .i64 0, .int .i64 0, .slice none 0 0] 26)) S0 hn (grown_rd hr hg0 hBg hB) hBg (Nat.le_trans hB hg0.size) (by omega) hn2
  go_enter Try.func35, Try.ntmps35
  go_wp2_with (first
    | (go_at_call 70; (with_reducible refine ds.mono ?_); rintro e w1 ⟨c, h, p, s, L, v, rfl, hc, hh, hp, hs, O1, hLn, hLok, S1, hg1⟩; have hLp : 0 < L.length ∧ L.length ≤ 128 := (by rw [hLn]; exact hpos c h p s (by simp only [geoB, inB, Bool.and_eq_true, decide_eq_true_eq]; omega)); clear hLn; obtain ⟨b, vc, rfl, hb0, hb1⟩ := World.ownsRow.form O1 hLp.1; have F1 := BX.past F0 hg1 (by omega); have hg1' := gr_trans hg0 hg1; have FD := BX.made w1 26 [.int .i64 c, .int .i64 h, .int .i64 p, .int .i64 s, .slice (some ⟨b, 0, none⟩) L.length vc]; have S2 := S1.al (.cells #[.int .i64 c, .int .i64 h, .int .i64 p, .int .i64 s, .slice (some ⟨b, 0, none⟩) L.length vc] 26); have hg2 : w.grownBy (w1.alloc (.cells #[.int .i64 c, .int .i64 h, .int .i64 p, .int .i64 s, .slice (some ⟨b, 0, none⟩) L.length vc] 26)) (some g) := gr_trans hg1' (World.grownBy_alloc w1 _ _); have O2 := OO.al O1 (.cells #[.int .i64 c, .int .i64 h, .int .i64 p, .int .i64 s, .slice (some ⟨b, 0, none⟩) L.length vc] 26); have F2 := F1.al (.cells #[.int .i64 c, .int .i64 h, .int .i64 p, .int .i64 s, .slice (some ⟨b, 0, none⟩) L.length vc] 26); have on := one_any m g n cc _ B A l _ S2 hn (grown_rd hr hg2 hBg hB) hBg (Nat.le_trans hB hg2.size) (by omega) hn2 hm)
    | (go_at_call 38; (with_reducible refine on.mono ?_); rintro e w3 ⟨z, rfl, S3, hg3⟩; have hgx := gr_trans hg2 hg3; have FD3 := BX.past FD hg3 (by omega); have F3 := BX.past F2 hg3 (by omega); have O3 := OO.past O2 hg3 (by omega); have f0 : (_ : Option Value) = some (.int .i64 c) := FD3.cell 0 (by simp); have f1 : (_ : Option Value) = some (.int .i64 h) := FD3.cell 1 (by simp); have f2 : (_ : Option Value) = some (.int .i64 p) := FD3.cell 2 (by simp); have f3 : (_ : Option Value) = some (.int .i64 s) := FD3.cell 3 (by simp); have f4 : (_ : Option Value) = some (.slice (some ⟨b, 0, none⟩) L.length vc) := FD3.cell 4 (by simp); have z0 : (_ : Option Value) = some (.int .i64 0) := F3.cell 0 (by simp); have z1 : (_ : Option Value) = some (.int .i64 0) := F3.cell 1 (by simp); have z2 : (_ : Option Value) = some (.int .i64 0) := F3.cell 2 (by simp); have z3 : (_ : Option Value) = some (.int .i64 0) := F3.cell 3 (by simp); have z4 : (_ : Option Value) = some (.slice none 0 0) := F3.cell 4 (by simp); have hfz := fun j => F3.free j)
    | (go_at_call 36; have pk := pick_any (L.length : Int) g n cc _ B A l w3 S3 hn (grown_rd hr hgx hBg hB) hBg (Nat.le_trans hB hgx.size) (by omega) hn2 (by omega); (with_reducible refine pk.mono ?_); rintro e w4 ⟨kx, rfl, k0, k1, S4, hg4⟩; obtain ⟨k, rfl⟩ : ∃ k : Nat, kx = (k : Int) := ⟨kx.toNat, (by omega)⟩; have hk : k < L.length := (by omega)))
  · have E := set5 (z := w.heap.size) (Nat.le_refl _) S3 hgx O3 (by omega) (by omega) (.int .i64 c) (.int .i64 h) (.int .i64 p) (.int .i64 s) (.slice (some ⟨b, 0, none⟩) L.length vc)
    refine bodyPost_ret (v := .agg #[.int .i64 c, .int .i64 h, .int .i64 p, .int .i64 s, .slice (some ⟨b, 0, none⟩) L.length vc]) (by simp [results, Try.results35, go_sem, World.cell?_setCell_other, z0, z1, z2, z3, z4]) rfl ⟨c, h, p, s, L, _, rfl, by omega, by omega, by omega, by omega, E.1, by omega, (fun x hx => by have := hLok x hx; omega), E.2.1.more (by omega), E.2.2⟩
  · have hgy := gr_trans hgx hg4
    have FD4 := BX.past FD3 hg4 (by omega)
    have F4 := BX.past F3 hg4 (by omega)
    have O4 := OO.past O3 hg4 (by omega)
    have pk6 := pick_any 6 g n cc _ B A l w4 S4 hn (grown_rd hr hgy hBg hB) hBg (Nat.le_trans hB hgy.size) (by omega) hn2 (by decide)
    refine pk6.mono ?_
    rintro e w5 ⟨x, rfl, x0, x1, S5, hg5⟩
    have hgz := gr_trans hgy hg5
    replace FD4 := BX.past FD4 hg5 (by omega)
    replace F4 := BX.past F4 hg5 (by omega)
    replace O4 := OO.past O4 hg5 (by omega)
    clear f0 f1 f2 f3 f4 z0 z1 z2 z3 z4 hfz on ds pk pk6
    have hDg : w1.heap.size ≠ g := by omega
    have hzD : w.heap.size ≠ w1.heap.size := by omega
    have hwD : w.heap.size ≤ w1.heap.size := by omega
    have hbD : b ≠ w1.heap.size := by omega
    have hB5 := Nat.le_trans hB hgz.size
    have hg5l := S5.lt
    have hbg : b ≠ g := by omega
    have hbw : b ≠ w.heap.size := by omega
    have hwg : w.heap.size ≠ g := by omega
    have j0 : k * 2 < L.length * 2 := by omega
    have j1 : k * 2 + 1 < L.length * 2 := by omega
    have hx : x = 0 ∨ x = 1 ∨ x = 2 ∨ x = 3 ∨ x = 4 ∨ x = 5 := by omega
    rcases hx with rfl | rfl | rfl | rfl | rfl | rfl
    · have k4 : (_ : Option Value) = some (.slice (some ⟨b, 0, none⟩) L.length vc) := FD4.cell 4 (by simp)
      have k5 := fun (o : Obj) => (show (_ : Option Value) = some (.slice (some ⟨b, 0, none⟩) L.length vc) from (BX.al FD4 o).cell 4 (by simp))
      have am := among_any [0, 5] w5.heap.size 2 2 rfl g n cc _ B A l (w5.alloc (.cells #[.int .i64 0, .int .i64 5] 2)).drew (SR.dr (S5.al _)) hn (rd_dr ((grown_rd hr hgz hBg hB).alloc hB5 _)) hBg (by show B ≤ (w5.alloc _).heap.size; rw [World.size_alloc]; exact Nat.le_succ_of_le hB5) (by omega) hn2 (by decide) (by decide) (CP.dr (CP.made w5 [.int .i64 0, .int .i64 5] 2)) (by omega)
      go_wp2
      go_region_law (go_simp; (go_at_call 71; (with_reducible refine am.mono ?_); rintro e w6 ⟨st, rfl, hst, S6, hg6⟩; have O6 := OO.past (OO.dr (OO.al O4 _)) hg6 hbg; have FD6 := BX.past (BX.drx (BX.al FD4 _)) hg6 hDg; have F6 := BX.past (BX.drx (BX.al F4 _)) hg6 hwg; have r4 : (_ : Option Value) = some (.slice (some ⟨b, 0, none⟩) L.length vc) := FD6.cell 4 (by simp); obtain ⟨u1, hu1⟩ := own_some O6 (k * 2 + 1) j1; have hz1 := World.ownsRow.frozenAt O6 (k * 2 + 1)))
      all_goals
        simp at hst
        have hs7 := World.ownsRow.stored O6 (k * 2 + 1) (.int .i64 st)
        have O7 := hs7.1
        have FD7 := FD6.grown hs7.2 (fun e => hbD (Option.some.inj e))
        have F7 := F6.grown hs7.2 (fun e => hbw (Option.some.inj e))
        have S7 := S6.grown hs7.2 (fun e => hbg (Option.some.inj e))
        have hg7 := gr_own (gr_trans (only_drew (gr_trans hgz (World.grownBy_alloc w5 _ _))) hg6) hs7.2 (fun j e => by have := Option.some.inj (show some b = some j from e); omega)
        rw [set_state L k hk] at O7
        have hl7 : (L.set k ⟨L[k].f0, st⟩).length = L.length := List.length_set
        clear hs7
        generalize (w6.setCell ⟨b, k * 2 + 1, none⟩ (.int .i64 st)) = w7 at O7 FD7 F7 S7 hg7 ⊢
        have f0 : (_ : Option Value) = some (.int .i64 c) := FD7.cell 0 (by simp)
        have f1 : (_ : Option Value) = some (.int .i64 h) := FD7.cell 1 (by simp)
        have f2 : (_ : Option Value) = some (.int .i64 p) := FD7.cell 2 (by simp)
        have f3 : (_ : Option Value) = some (.int .i64 s) := FD7.cell 3 (by simp)
        have f4 : (_ : Option Value) = some (.slice (some ⟨b, 0, none⟩) L.length vc) := FD7.cell 4 (by simp)
        have z0 : (_ : Option Value) = some (.int .i64 0) := F7.cell 0 (by simp)
        have z1 : (_ : Option Value) = some (.int .i64 0) := F7.cell 1 (by simp)
        have z2 : (_ : Option Value) = some (.int .i64 0) := F7.cell 2 (by simp)
        have z3 : (_ : Option Value) = some (.int .i64 0) := F7.cell 3 (by simp)
        have z4 : (_ : Option Value) = some (.slice none 0 0) := F7.cell 4 (by simp)
        have hfz := fun j => F7.free j
        go_wp2
        have E := set5 (z := w.heap.size) (Nat.le_refl _) S7 hg7 O7 (by omega) (by omega) (.int .i64 c) (.int .i64 h) (.int .i64 p) (.int .i64 s) (.slice (some ⟨b, 0, none⟩) L.length vc)
        refine bodyPost_ret (v := .agg #[.int .i64 c, .int .i64 h, .int .i64 p, .int .i64 s, .slice (some ⟨b, 0, none⟩) L.length vc]) (by simp [results, Try.results35, go_sem, World.cell?_setCell_other, z0, z1, z2, z3, z4]) rfl ⟨c, h, p, s, L.set k ⟨L[k].f0, st⟩, _, rfl, by omega, by omega, by omega, by omega, by rw [hl7]; exact E.1, by rw [hl7]; omega, bent_ok L k _ hk hLok (by have := hLok _ (List.getElem_mem hk); simp; omega) (by simp; omega), E.2.1.more (by omega), E.2.2⟩
    · have k4 : (_ : Option Value) = some (.slice (some ⟨b, 0, none⟩) L.length vc) := FD4.cell 4 (by simp)
      have hc0 : (_ : Option Value) = some (.string L[k].f0) := (World.ownsRow.cellAt O4 (k * 2) j0).trans (get_data L k hk)
      have hz1 := World.ownsRow.frozenAt O4 (k * 2)
      have hsz := (hLok _ (List.getElem_mem hk)).1
      obtain ⟨d0, hd0⟩ : ∃ d0, L[k].f0 = d0 := ⟨_, rfl⟩
      rw [hd0] at hc0 hsz
      have hcat : (d0 ++ (⟨#[120]⟩ : ByteArray)).size = d0.size + 1 := by rw [ByteArray.size_append]; rfl
      have hs7 := World.ownsRow.stored O4 (k * 2) (.string (d0 ++ (⟨#[120]⟩ : ByteArray)))
      have O7 := hs7.1
      have FD7 := FD4.grown hs7.2 (fun e => hbD (Option.some.inj e))
      have F7 := F4.grown hs7.2 (fun e => hbw (Option.some.inj e))
      have S7 := S5.grown hs7.2 (fun e => hbg (Option.some.inj e))
      have hg7 := gr_own hgz hs7.2 (fun j e => by have := Option.some.inj (show some b = some j from e); omega)
      rw [set_data L k hk] at O7
      have hl7 : (L.set k ⟨d0 ++ (⟨#[120]⟩ : ByteArray), L[k].f1⟩).length = L.length := List.length_set
      clear hs7
      have f0 : (_ : Option Value) = some (.int .i64 c) := FD7.cell 0 (by simp)
      have f1 : (_ : Option Value) = some (.int .i64 h) := FD7.cell 1 (by simp)
      have f2 : (_ : Option Value) = some (.int .i64 p) := FD7.cell 2 (by simp)
      have f3 : (_ : Option Value) = some (.int .i64 s) := FD7.cell 3 (by simp)
      have f4 : (_ : Option Value) = some (.slice (some ⟨b, 0, none⟩) L.length vc) := FD7.cell 4 (by simp)
      have z0 : (_ : Option Value) = some (.int .i64 0) := F7.cell 0 (by simp)
      have z1 : (_ : Option Value) = some (.int .i64 0) := F7.cell 1 (by simp)
      have z2 : (_ : Option Value) = some (.int .i64 0) := F7.cell 2 (by simp)
      have z3 : (_ : Option Value) = some (.int .i64 0) := F7.cell 3 (by simp)
      have z4 : (_ : Option Value) = some (.slice none 0 0) := F7.cell 4 (by simp)
      have hfz := fun j => F7.free j
      go_wp2
      have E := set5 (z := w.heap.size) (Nat.le_refl _) S7 hg7 O7 (by omega) (by omega) (.int .i64 c) (.int .i64 h) (.int .i64 p) (.int .i64 s) (.slice (some ⟨b, 0, none⟩) L.length vc)
      refine bodyPost_ret (v := .agg #[.int .i64 c, .int .i64 h, .int .i64 p, .int .i64 s, .slice (some ⟨b, 0, none⟩) L.length vc]) (by simp [results, Try.results35, go_sem, World.cell?_setCell_other, z0, z1, z2, z3, z4]) rfl ⟨c, h, p, s, L.set k ⟨d0 ++ (⟨#[120]⟩ : ByteArray), L[k].f1⟩, _, rfl, by omega, by omega, by omega, by omega, by rw [hl7]; exact E.1, by rw [hl7]; omega, bent_ok L k _ hk hLok (by simp only [hcat]; omega) (by have := hLok _ (List.getElem_mem hk); simp; omega), E.2.1.more (by omega), E.2.2⟩
    · have k4 : (_ : Option Value) = some (.slice (some ⟨b, 0, none⟩) L.length vc) := FD4.cell 4 (by simp)
      have k5 := fun (o : Obj) => (show (_ : Option Value) = some (.slice (some ⟨b, 0, none⟩) L.length vc) from (BX.al FD4 o).cell 4 (by simp))
      have hL0 : 0 < L.length := by omega
      have hc0 : (_ : Option Value) = some (.string L[0].f0) := (World.ownsRow.cellAt O4 (0 * 2) (by omega)).trans (get_data L 0 hL0)
      have hc1 : (_ : Option Value) = some (.int .i64 L[0].f1) := (World.ownsRow.cellAt O4 (0 * 2 + 1) (by omega)).trans (get_state L 0 hL0)
      have hy := hLok _ (List.getElem_mem hL0)
      obtain ⟨d0, hd0⟩ : ∃ d0, L[0].f0 = d0 := ⟨_, rfl⟩
      obtain ⟨s0, hs0x⟩ : ∃ s0, L[0].f1 = s0 := ⟨_, rfl⟩
      rw [hd0] at hc0 hy
      rw [hs0x] at hc1 hy
      simp only [Nat.zero_mul, Nat.zero_add] at hc0 hc1
      have hO4 := World.ownsRow.lt O4 b rfl
      have hbase5 := Nat.le_of_lt (Nat.lt_of_le_of_lt hO4.1 hO4.2)
      have hLb : L.length ≤ 100000000 := by omega
      have hby : 24 ≤ 1000 := by decide
      go_wp2
      go_region_law (first | (refine step_appG (w := w5.drew) (f := fSector) rfl (.tmp 49) (.tmp 54) 24 rfl eltSector hby (.slice (some ⟨b, 0, none⟩) L.length vc) L L.length rfl rfl (OO.dr O4) #[.string d0, .int .i64 s0] 46 ⟨d0, s0⟩ 1 rfl rfl rfl (oneSector _) hLb hbase5 ?_; intro v6 w6 O6 hg6 hat6 hbl6; obtain ⟨A6, c6, rfl⟩ := own_form O6; have FD6 := ((BX.drx FD4).al (.cells #[.string d0, .int .i64 s0] 46)).grown hg6 (fun e => hbD (Option.some.inj e)); have g4 : (_ : Option Value) = some (.slice (some ⟨b, 0, none⟩) L.length vc) := FD6.cell 4 (by simp); have hfd := fun j => FD6.free j))
      all_goals
        have hnl : (L ++ [(⟨d0, s0⟩ : DSector)]).length = L.length + 1 := by rw [List.length_append]; rfl
        rw [hnl] at O6 hat6
        have hDl := FD4.lt
        have hv6 : (Value.slice A6 (L.length + 1) c6).ownBlock ≠ some w1.heap.size := by
          rcases hat6 with h | h
          · rw [h]; exact fun e => hbD (Option.some.inj e)
          · rw [h]; intro e; have h2 := Option.some.inj e; have h3 : w5.drew.heap.size = w5.heap.size := rfl; omega
        have F6 := ((BX.drx F4).al (.cells #[.string d0, .int .i64 s0] 46)).grown hg6 (fun e => hbw (Option.some.inj e))
        have S6 := ((SR.dr S5).al (.cells #[.string d0, .int .i64 s0] 46)).grown hg6 (fun e => hbg (Option.some.inj e))
        have hg66 := gr_own (gr_trans (only_drew hgz) (World.grownBy_alloc w5.drew _ _)) hg6 (fun j e => by have := Option.some.inj (show some b = some j from e); omega)
        have FD7 := FD6.put 4 (.slice A6 (L.length + 1) c6)
        have F7 := F6.far (a := ⟨w1.heap.size, 4, none⟩) hzD (.slice A6 (L.length + 1) c6)
        have f0 : (_ : Option Value) = some (.int .i64 c) := FD7.cell 0 (by simp)
        have f1 : (_ : Option Value) = some (.int .i64 h) := FD7.cell 1 (by simp)
        have f2 : (_ : Option Value) = some (.int .i64 p) := FD7.cell 2 (by simp)
        have f3 : (_ : Option Value) = some (.int .i64 s) := FD7.cell 3 (by simp)
        have f4 : (_ : Option Value) = some (.slice (A6) (L.length + 1) c6) := FD7.cell 4 (by simp)
        have z0 : (_ : Option Value) = some (.int .i64 0) := F7.cell 0 (by simp)
        have z1 : (_ : Option Value) = some (.int .i64 0) := F7.cell 1 (by simp)
        have z2 : (_ : Option Value) = some (.int .i64 0) := F7.cell 2 (by simp)
        have z3 : (_ : Option Value) = some (.int .i64 0) := F7.cell 3 (by simp)
        have z4 : (_ : Option Value) = some (.slice none 0 0) := F7.cell 4 (by simp)
        have hfz := fun j => F7.free j
        go_wp2
        have E := set5 (z := w.heap.size) (Nat.le_refl _) (SR.grown S6 (grownBy_set0 w6 w1.heap.size 4 (.slice A6 (L.length + 1) c6)) (fun e => hDg (Option.some.inj e))) (only_setCell hg66 (p := ⟨w1.heap.size, 4, none⟩) (.inr hwD) (.slice A6 (L.length + 1) c6)) (OO.putne O6 (a := ⟨w1.heap.size, 4, none⟩) hv6 (.slice A6 (L.length + 1) c6)) (by omega) (by omega) (.int .i64 c) (.int .i64 h) (.int .i64 p) (.int .i64 s) (.slice (A6) (L.length + 1) c6)
        refine bodyPost_ret (v := .agg #[.int .i64 c, .int .i64 h, .int .i64 p, .int .i64 s, .slice (A6) (L.length + 1) c6]) (by simp [results, Try.results35, go_sem, World.cell?_setCell_other, z0, z1, z2, z3, z4]) rfl ⟨c, h, p, s, (L ++ [⟨d0, s0⟩]), _, rfl, by omega, by omega, by omega, by omega, by rw [hnl]; exact E.1, by rw [hnl]; omega, bent_app L ⟨d0, s0⟩ hLok (by show d0.size ≤ 40; omega) (by show 0 ≤ s0 ∧ s0 ≤ 5; omega), E.2.1.more (by omega), E.2.2⟩
    · have am := among_any [-1, 3, 0, 1] w5.heap.size 4 4 rfl g n cc _ B A l (w5.alloc (.cells #[.int .i64 (-1), .int .i64 3, .int .i64 0, .int .i64 1] 2)) (S5.al _) hn ((grown_rd hr hgz hBg hB).alloc hB5 _) hBg (by rw [World.size_alloc]; exact Nat.le_succ_of_le hB5) (by omega) hn2 (by decide) (by decide) (CP.made w5 [.int .i64 (-1), .int .i64 3, .int .i64 0, .int .i64 1] 2) (by omega)
      go_wp2_with (go_at_call 71; (with_reducible refine am.mono ?_); rintro e w6 ⟨st, rfl, hst, S6, hg6⟩; have hg66 := gr_trans (gr_trans hgz (World.grownBy_alloc w5 _ _)) hg6; have FD6 := BX.past (BX.al FD4 _) hg6 (by omega); have F6 := BX.past (BX.al F4 _) hg6 (by omega); have O6 := OO.past (OO.al O4 _) hg6 (by omega); have g3 : (_ : Option Value) = some (.int .i64 s) := FD6.cell 3 (by simp); have hfd := fun j => FD6.free j; have FD7 := FD6.put 3 (.int .i64 st); have F7 := F6.far (a := ⟨w1.heap.size, 3, none⟩) hzD (.int .i64 st); have f0 : (_ : Option Value) = some (.int .i64 c) := FD7.cell 0 (by simp); have f1 : (_ : Option Value) = some (.int .i64 h) := FD7.cell 1 (by simp); have f2 : (_ : Option Value) = some (.int .i64 p) := FD7.cell 2 (by simp); have f3 : (_ : Option Value) = some (.int .i64 st) := FD7.cell 3 (by simp); have f4 : (_ : Option Value) = some (.slice (some ⟨b, 0, none⟩) L.length vc) := FD7.cell 4 (by simp); have z0 : (_ : Option Value) = some (.int .i64 0) := F7.cell 0 (by simp); have z1 : (_ : Option Value) = some (.int .i64 0) := F7.cell 1 (by simp); have z2 : (_ : Option Value) = some (.int .i64 0) := F7.cell 2 (by simp); have z3 : (_ : Option Value) = some (.int .i64 0) := F7.cell 3 (by simp); have z4 : (_ : Option Value) = some (.slice none 0 0) := F7.cell 4 (by simp); have hfz := fun j => F7.free j)
      simp at hst
      have E := set5 (z := w.heap.size) (Nat.le_refl _) (SR.grown S6 (grownBy_set0 w6 w1.heap.size 3 (.int .i64 st)) (fun e => hDg (Option.some.inj e))) (only_setCell hg66 (p := ⟨w1.heap.size, 3, none⟩) (.inr hwD) (.int .i64 st)) (OO.putne O6 (a := ⟨w1.heap.size, 3, none⟩) (fun e => hbD (Option.some.inj e)) (.int .i64 st)) (by omega) (by omega) (.int .i64 c) (.int .i64 h) (.int .i64 p) (.int .i64 st) (.slice (some ⟨b, 0, none⟩) L.length vc)
      refine bodyPost_ret (v := .agg #[.int .i64 c, .int .i64 h, .int .i64 p, .int .i64 st, .slice (some ⟨b, 0, none⟩) L.length vc]) (by simp [results, Try.results35, go_sem, World.cell?_setCell_other, z0, z1, z2, z3, z4]) rfl ⟨c, h, p, st, L, _, rfl, by omega, by omega, by omega, by omega, E.1, by omega, (fun x hx => by have := hLok x hx; omega), E.2.1.more (by omega), E.2.2⟩
    · have k4 : (_ : Option Value) = some (.slice (some ⟨b, 0, none⟩) L.length vc) := FD4.cell 4 (by simp)
      have k3 : (_ : Option Value) = some (.int .i64 s) := FD4.cell 3 (by simp)
      obtain ⟨NB, hnb, hnb32, hnb8, _⟩ := szB_nat hs.1 hs.2
      have lb := fun W => l12Bytes_any s hs.1 hs.2 W
      rw [hnb] at lb
      have hw1 : IntKind.i64.wrap ((NB : Int) - 1) = ((NB - 1 : Nat) : Int) := by rw [IntWalk.i64_in _ (by omega)]; omega
      have hzr := l01Zeros_any (NB - 1) w5.drew (by omega)
      have hzs : (zerosB (NB - 1)).size ≤ 32 := by rw [zerosB_size]; omega
      obtain ⟨ZB, hZB⟩ : ∃ ZB, zerosB (NB - 1) = ZB := ⟨_, rfl⟩
      rw [hZB] at hzs hzr
      have hno : ¬ 9223372036854775807 < 1 + ZB.size := by omega
      have hcat : (((⟨#[65]⟩ : ByteArray) ++ ZB)).size = ZB.size + 1 := by rw [ByteArray.size_append]; show 1 + ZB.size = ZB.size + 1; omega
      go_wp2
      go_region_law (go_simp; first | (go_at_call 73; refine (lb _).mono ?_; rintro e w8 ⟨rfl, rfl⟩) | (go_at_call 72; refine hzr.mono ?_; rintro e w6 ⟨rfl, hx6⟩; have O6 := own_later (OO.dr O4) hx6 (Nat.le_refl _); have FD6 := (BX.drx FD4).below hx6 FD4.lt; have F6 := (BX.drx F4).below hx6 F4.lt; have S6 := (SR.dr S5).below hx6 hg5l; have hg6 := gr_below (only_drew hgz) (hx6.mono hgz.size); have r4 : (_ : Option Value) = some (.slice (some ⟨b, 0, none⟩) L.length vc) := FD6.cell 4 (by simp); obtain ⟨u0, hu0⟩ := own_some O6 (k * 2) j0; have hz0 := World.ownsRow.frozenAt O6 (k * 2); have hs6 := World.ownsRow.stored O6 (k * 2) (.string ((⟨#[65]⟩ : ByteArray) ++ ZB)); obtain ⟨u1, hu1⟩ := own_some hs6.1 (k * 2 + 1) j1; have hz1 := World.ownsRow.frozenAt hs6.1 (k * 2 + 1)))
      all_goals
        have hs7 := World.ownsRow.stored hs6.1 (k * 2 + 1) (.int .i64 3)
        have O7 := hs7.1
        have FD7 := (FD6.grown hs6.2 (fun e => hbD (Option.some.inj e))).grown hs7.2 (fun e => hbD (Option.some.inj e))
        have F7 := (F6.grown hs6.2 (fun e => hbw (Option.some.inj e))).grown hs7.2 (fun e => hbw (Option.some.inj e))
        have S7 := (S6.grown hs6.2 (fun e => hbg (Option.some.inj e))).grown hs7.2 (fun e => hbg (Option.some.inj e))
        have hg7 := gr_own (gr_own hg6 hs6.2 (fun j e => by have := Option.some.inj (show some b = some j from e); omega)) hs7.2 (fun j e => by have := Option.some.inj (show some b = some j from e); omega)
        have hPL := setS L k hk ⟨((⟨#[65]⟩ : ByteArray) ++ ZB), 3⟩
        replace O7 : OO _ _ _ _ _ _ (putV (flat fSector L) (k * 2) (fSector ⟨((⟨#[65]⟩ : ByteArray) ++ ZB), 3⟩)) := O7
        rw [hPL] at O7
        have hl7 : (L.set k ⟨((⟨#[65]⟩ : ByteArray) ++ ZB), 3⟩).length = L.length := List.length_set
        clear hs7 hs6
        generalize ((w6.setCell ⟨b, k * 2, none⟩ (.string ((⟨#[65]⟩ : ByteArray) ++ ZB))).setCell ⟨b, k * 2 + 1, none⟩ (.int .i64 3)) = w7 at O7 FD7 F7 S7 hg7 ⊢
        have f0 : (_ : Option Value) = some (.int .i64 c) := FD7.cell 0 (by simp)
        have f1 : (_ : Option Value) = some (.int .i64 h) := FD7.cell 1 (by simp)
        have f2 : (_ : Option Value) = some (.int .i64 p) := FD7.cell 2 (by simp)
        have f3 : (_ : Option Value) = some (.int .i64 s) := FD7.cell 3 (by simp)
        have f4 : (_ : Option Value) = some (.slice (some ⟨b, 0, none⟩) L.length vc) := FD7.cell 4 (by simp)
        have z0 : (_ : Option Value) = some (.int .i64 0) := F7.cell 0 (by simp)
        have z1 : (_ : Option Value) = some (.int .i64 0) := F7.cell 1 (by simp)
        have z2 : (_ : Option Value) = some (.int .i64 0) := F7.cell 2 (by simp)
        have z3 : (_ : Option Value) = some (.int .i64 0) := F7.cell 3 (by simp)
        have z4 : (_ : Option Value) = some (.slice none 0 0) := F7.cell 4 (by simp)
        have hfz := fun j => F7.free j
        go_wp2
        have E := set5 (z := w.heap.size) (Nat.le_refl _) S7 hg7 O7 (by omega) (by omega) (.int .i64 c) (.int .i64 h) (.int .i64 p) (.int .i64 s) (.slice (some ⟨b, 0, none⟩) L.length vc)
        refine bodyPost_ret (v := .agg #[.int .i64 c, .int .i64 h, .int .i64 p, .int .i64 s, .slice (some ⟨b, 0, none⟩) L.length vc]) (by simp [results, Try.results35, go_sem, World.cell?_setCell_other, z0, z1, z2, z3, z4]) rfl ⟨c, h, p, s, L.set k ⟨((⟨#[65]⟩ : ByteArray) ++ ZB), 3⟩, _, rfl, by omega, by omega, by omega, by omega, by rw [hl7]; exact E.1, by rw [hl7]; omega, bent_ok L k _ hk hLok (by simp only [hcat]; omega) ⟨by show (0 : Int) ≤ 3; decide, by show (3 : Int) ≤ 5; decide⟩, E.2.1.more (by omega), E.2.2⟩
    · have am := among_any [0, 9, 2] w5.heap.size 3 3 rfl g n cc _ B A l (w5.alloc (.cells #[.int .i64 0, .int .i64 9, .int .i64 2] 2)) (S5.al _) hn ((grown_rd hr hgz hBg hB).alloc hB5 _) hBg (by rw [World.size_alloc]; exact Nat.le_succ_of_le hB5) (by omega) hn2 (by decide) (by decide) (CP.made w5 [.int .i64 0, .int .i64 9, .int .i64 2] 2) (by omega)
      go_wp2_with (go_at_call 71; (with_reducible refine am.mono ?_); rintro e w6 ⟨st, rfl, hst, S6, hg6⟩; have hg66 := gr_trans (gr_trans hgz (World.grownBy_alloc w5 _ _)) hg6; have FD6 := BX.past (BX.al FD4 _) hg6 (by omega); have F6 := BX.past (BX.al F4 _) hg6 (by omega); have O6 := OO.past (OO.al O4 _) hg6 (by omega); have g0 : (_ : Option Value) = some (.int .i64 c) := FD6.cell 0 (by simp); have hfd := fun j => FD6.free j; have FD7 := FD6.put 0 (.int .i64 st); have F7 := F6.far (a := ⟨w1.heap.size, 0, none⟩) hzD (.int .i64 st); have f0 : (_ : Option Value) = some (.int .i64 st) := FD7.cell 0 (by simp); have f1 : (_ : Option Value) = some (.int .i64 h) := FD7.cell 1 (by simp); have f2 : (_ : Option Value) = some (.int .i64 p) := FD7.cell 2 (by simp); have f3 : (_ : Option Value) = some (.int .i64 s) := FD7.cell 3 (by simp); have f4 : (_ : Option Value) = some (.slice (some ⟨b, 0, none⟩) L.length vc) := FD7.cell 4 (by simp); have z0 : (_ : Option Value) = some (.int .i64 0) := F7.cell 0 (by simp); have z1 : (_ : Option Value) = some (.int .i64 0) := F7.cell 1 (by simp); have z2 : (_ : Option Value) = some (.int .i64 0) := F7.cell 2 (by simp); have z3 : (_ : Option Value) = some (.int .i64 0) := F7.cell 3 (by simp); have z4 : (_ : Option Value) = some (.slice none 0 0) := F7.cell 4 (by simp); have hfz := fun j => F7.free j)
      simp at hst
      have E := set5 (z := w.heap.size) (Nat.le_refl _) (SR.grown S6 (grownBy_set0 w6 w1.heap.size 0 (.int .i64 st)) (fun e => hDg (Option.some.inj e))) (only_setCell hg66 (p := ⟨w1.heap.size, 0, none⟩) (.inr hwD) (.int .i64 st)) (OO.putne O6 (a := ⟨w1.heap.size, 0, none⟩) (fun e => hbD (Option.some.inj e)) (.int .i64 st)) (by omega) (by omega) (.int .i64 st) (.int .i64 h) (.int .i64 p) (.int .i64 s) (.slice (some ⟨b, 0, none⟩) L.length vc)
      refine bodyPost_ret (v := .agg #[.int .i64 st, .int .i64 h, .int .i64 p, .int .i64 s, .slice (some ⟨b, 0, none⟩) L.length vc]) (by simp [results, Try.results35, go_sem, World.cell?_setCell_other, z0, z1, z2, z3, z4]) rfl ⟨st, h, p, s, L, _, rfl, by omega, by omega, by omega, by omega, E.1, by omega, (fun x hx => by have := hLok x hx; omega), E.2.1.more (by omega), E.2.2⟩
end Go.Proofs.Ytemppogailpoiaa
namespace Go.Proofs.Ytemppogailpoiaa
set_option linter.unusedVariables false
open Go.RowKit

theorem SR.box {w : World} (A : Option Addr) (n c : Nat) : SR (w.alloc (.cells #[.slice A n c, .int .i64 0, .int .u64 0] 70)) w.heap.size A n c 0 :=
  ⟨0, 0, Nat.le_refl _, BX.made w 70 [.slice A n c, .int .i64 0, .int .u64 0]⟩
theorem below_gr {w w' : World} {B g : Nat} (hg : w.grownBy w' (some g)) (hB : B ≤ w.heap.size) (h : B ≤ g) : Below B w w' := (Below.refl B w).grown hg hB (fun k hk => by injection hk with hk; omega)
set_option maxHeartbeats 1000000 in
theorem from_any (A : Option Addr) (n c : Nat) (w : World) :
    Calls Try.prog 18 #[.slice A n c] w fun e w' => ∃ g, e = .returned (.pointer (some ⟨g, 0, none⟩)) ∧ w.heap.size ≤ g ∧ SR w' g A n c 0 ∧ Below w.heap.size w w' := by
  go_enter Try.func18, Try.ntmps18
  go_wp2
  go_ret
  exact ⟨w.heap.size, rfl, Nat.le_refl _, SR.box A n c, (by repeat (first | exact Below.refl _ _ | refine below_step ?_ (by assumption) | assumption | refine Below.drew ?_ | refine below_drewN ?_ _ | refine below_alloc ?_ _ | refine Below.setCell ?_ (by simp; try omega) _))⟩

set_option maxHeartbeats 400000 in
theorem long_any (A : Option Addr) (n c : Nat) (w : World) (hn : n ≤ maxLen) : Calls Try.prog 5 #[.slice A n c] w fun e w' => e = .returned (.bool (decide (1048576 < n))) ∧ w = w' := by
  unfold maxLen at hn
  by_cases h : 1048576 < n
  · have h1 : (1048576 : Int) < (n : Int) := by omega
    rw [decide_eq_true h]
    go_enter Try.func5, Try.ntmps5
    go_wp2
    go_ret
    exact ⟨rfl, rfl⟩
  · have h1 : ¬ (1048576 : Int) < (n : Int) := by omega
    rw [decide_eq_false h]
    go_enter Try.func5, Try.ntmps5
    go_wp2
    go_ret
    exact ⟨rfl, rfl⟩

theorem below_step2 {B : Nat} {a w w' : World} (h : Below B a w) (k : Below B w w') : Below B a w' := h.trans k
end Go.Proofs.Ytemppogailpoiaa
namespace Go.Proofs.Ytemppogailpoiaa
set_option linter.unusedVariables false
open Go.RowKit

theorem CP.idxS {w : World} {b j : Nat} {L : List ByteArray} (C : CP w b (L.map Value.string)) (hj : j < L.length) : w.cell? ⟨b, j, none⟩ = some (.string L[j]) := by
  have := C j (by simpa using hj)
  rw [this, List.getElem_map]
set_option maxHeartbeats 1000000 in
theorem text_any (L : List ByteArray) (b q c2 : Nat) (hq : q = L.length) (g n c N B : Nat) (A : Option Addr) (l : List UInt8) (w : World) (S : SR w g A n c N) (hn : l.length = n) (hr : Rd w B 1 A n (flat fU l)) (hBg : B ≤ g) (hB : B ≤ w.heap.size) (hN : N ≤ 900000000) (hn2 : n ≤ maxLen)
    (hL0 : 0 < L.length) (hL : L.length ≤ 1000) (C : CP w b (L.map Value.string)) (hbg : b ≠ g) :
    Calls Try.prog 37 #[.pointer (some ⟨g, 0, none⟩), .slice (some ⟨b, 0, none⟩) q c2] w fun e w' => ∃ x : ByteArray, e = .returned (.string x) ∧ x ∈ L ∧ SR w' g A n c (N + 2) ∧ w.grownBy w' (some g) := by
  subst hq
  have nx := pick_any (L.length : Int) g n c N B A l w S hn hr hBg hB hN hn2 (by omega)
  go_enter Try.func37, Try.ntmps37
  go_wp2_with (go_at_call 36; (with_reducible refine nx.mono ?_; rintro e w1 ⟨x, rfl, hx0, hx1, S1, hg1⟩; obtain ⟨j, rfl⟩ : ∃ j : Nat, x = (j : Int) := ⟨x.toNat, by omega⟩; have hj : j < L.length := (by omega); have c0 := CP.idxS (CP.past C hg1 hbg) hj))
  go_ret
  exact ⟨_, rfl, List.getElem_mem hj, S1, hg1⟩
end Go.Proofs.Ytemppogailpoiaa
namespace Go.Proofs.Ytemppogailpoiaa
set_option linter.unusedVariables false
open Go.RowKit

set_option maxRecDepth 100000 in
set_option maxHeartbeats 8000000 in
theorem drawImage_any (m : Int) (g n cc N B0 : Nat) (A : Option Addr) (l : List UInt8) (w : World) (S : SR w g A n cc N) (hn : l.length = n) (hr : Rd w B0 1 A n (flat fU l)) (hBg : B0 ≤ g) (hB : B0 ≤ w.heap.size) (hN : N ≤ 500000000) (hn2 : n ≤ maxLen) (hm : m ≤ 9223372036854775807) :
    Calls Try.prog 19 #[.pointer (some ⟨g, 0, none⟩), .int .i64 m] w fun e w' => ∃ (c h p s : Int) (L : List DSector) (v : Value) (M : List ByteArray) (u : Value), e = .returned (.agg #[.int .i64 c, .int .i64 h, .int .i64 p, .int .i64 s, v, u]) ∧ (0 ≤ c ∧ c ≤ 9) ∧ (1 ≤ h ∧ h ≤ 2) ∧ (1 ≤ p ∧ p ≤ 5) ∧ (-1 ≤ s ∧ s ≤ 3) ∧ w'.ownsRow w.heap.size 46 2 v L.length (flat fSector L) ∧ (0 < L.length ∧ L.length ≤ 129) ∧ (∀ x ∈ L, x.f0.size ≤ 40 ∧ 0 ≤ x.f1 ∧ x.f1 ≤ 5) ∧ w'.ownsRow w.heap.size 9 1 u M.length (flat fS M) ∧ M.length ≤ 4 ∧ (∀ x ∈ M, x.size ≤ 41) ∧ SR w' g A n cc (N + 20100) ∧ w.grownBy w' (some g) := by
  have hgl := S.lt
  have F0 := BX.made w 29 [.int .i64 0, .int .i64 0, .int .i64 0, .int .i64 0, .slice none 0 0, .slice none 0 0]
  have S0 := S.al (.cells #[.int .i64 0, .int .i64 0, .int .i64 0, .int .i64 0, .slice none 0 0, .slice none 0 0] 29)
  have hg0 : w.grownBy (w.alloc (.cells #[.int .i64 0, .int .i64 0, .int .i64 0, .int .i64 0, .slice none 0 0, .slice none 0 0] 29)) (some g) := World.grownBy_alloc w _ _
  have hs0 : w.heap.size + 1 ≤ (w.alloc (.cells #[.int .i64 0, .int .i64 0, .int .i64 0, .int .i64 0, .slice none 0 0, .slice none 0 0] 29)).heap.size := by rw [World.size_alloc]; omega
  have bt := bent_any m g n cc N B0 A l (w.alloc (.cells #[.int .i64 0, .int .i64 0, .int .i64 0, .int .i64 0, .slice none 0 0, .slice none 0 0] 29)) S0 hn (grown_rd hr hg0 hBg hB) hBg (Nat.le_trans hB hg0.size) (by omega) hn2 hm
  go_enter Try.func19, Try.ntmps19
  go_wp2_with (first
    | (go_at_call 35; (with_reducible refine bt.mono ?_); rintro e w1 ⟨c, h, p, s, L, v, rfl, hc, hh, hp, hs, O1, hLn, hLok, S1, hg1⟩; obtain ⟨b, vc, rfl, hb0, hb1⟩ := World.ownsRow.form O1 hLn.1; have F1 := BX.past F0 hg1 (by omega); have hg1' := gr_trans hg0 hg1; have FX := BX.made w1 29 [.int .i64 c, .int .i64 h, .int .i64 p, .int .i64 s, .slice (some ⟨b, 0, none⟩) L.length vc, .slice none 0 0]; have S2 := S1.al (.cells #[.int .i64 c, .int .i64 h, .int .i64 p, .int .i64 s, .slice (some ⟨b, 0, none⟩) L.length vc, .slice none 0 0] 29); have hg2 : w.grownBy (w1.alloc (.cells #[.int .i64 c, .int .i64 h, .int .i64 p, .int .i64 s, .slice (some ⟨b, 0, none⟩) L.length vc, .slice none 0 0] 29)) (some g) := gr_trans hg1' (World.grownBy_alloc w1 _ _); have O2 := OO.al O1 (.cells #[.int .i64 c, .int .i64 h, .int .i64 p, .int .i64 s, .slice (some ⟨b, 0, none⟩) L.length vc, .slice none 0 0] 29); have F2 := F1.al (.cells #[.int .i64 c, .int .i64 h, .int .i64 p, .int .i64 s, .slice (some ⟨b, 0, none⟩) L.length vc, .slice none 0 0] 29); have pk := pick_any 4 g n cc _ B0 A l _ S2 hn (grown_rd hr hg2 hBg hB) hBg (Nat.le_trans hB hg2.size) (by omega) hn2 (by omega))
    | (go_at_call 36; (with_reducible refine pk.mono ?_); rintro e w3 ⟨kx, rfl, kx0, kx1, S3, hg3⟩))
  clear bt pk
  obtain ⟨k0, rfl⟩ : ∃ k : Nat, kx = (k : Int) := ⟨kx.toNat, by omega⟩
  have hk3 : k0 ≤ 3 := by omega
  have hl1 := hg1'.size
  have hl0 : (w.alloc (.cells #[.int .i64 0, .int .i64 0, .int .i64 0, .int .i64 0, .slice none 0 0, .slice none 0 0] 29)).heap.size = w.heap.size + 1 := World.size_alloc w _
  have hl10 := hg1.size
  have hwg : w.heap.size ≠ g := by omega
  have hbg : b ≠ g := by omega
  have hXg : w1.heap.size ≠ g := by omega
  have hwX : w.heap.size ≠ w1.heap.size := by omega
  have hbX : b ≠ w1.heap.size := by omega
  have hwX' : w.heap.size < w1.heap.size := by omega
  have hgX : g < w1.heap.size := by omega
  have hBL : (w.alloc (.cells #[.int .i64 0, .int .i64 0, .int .i64 0, .int .i64 0, .slice none 0 0, .slice none 0 0] 29)).heap.size ≤ b := hb0
  have FX3 := BX.past FX hg3 hXg
  have F3 := BX.past F2 hg3 hwg
  have O3 := OO.past O2 hg3 hbg
  have hg33 := gr_trans hg2 hg3
  clear FX F2 F1 F0 O2 O1 S2 S1 S0
  obtain ⟨BL, hBLe⟩ : ∃ BL, (w.alloc (.cells #[.int .i64 0, .int .i64 0, .int .i64 0, .int .i64 0, .slice none 0 0, .slice none 0 0] 29)).heap.size = BL := ⟨_, rfl⟩
  rw [hBLe] at O3 hBL hl0
  obtain ⟨X, hXe⟩ : ∃ X, w1.heap.size = X := ⟨_, rfl⟩
  rw [hXe] at FX3 hXg hwX hbX hwX' hgX hb1 ⊢
  clear hXe hBLe hg1 hg1' hg2 hg3 hg0 hs0 hl1 hl10
  go_loopw [6] (fun i wr => ∃ (k : Nat) (M : List ByteArray) (q : Nat) (B : Option Addr), i = .int .i64 (k : Int) ∧ M.length + k ≤ 3 ∧ OO wr (X + 1) 9 1 (.slice B M.length q) M.length (flat fS M) ∧ BX wr X 29 [.int .i64 c, .int .i64 h, .int .i64 p, .int .i64 s, .slice (some ⟨b, 0, none⟩) L.length vc, .slice B M.length q] ∧ BX wr w.heap.size 29 [.int .i64 0, .int .i64 0, .int .i64 0, .int .i64 0, .slice none 0 0, .slice none 0 0] ∧ OO wr BL 46 2 (.slice (some ⟨b, 0, none⟩) L.length vc) L.length (flat fSector L) ∧ SR wr g A n cc (N + 20030 + 4 * (3 - k)) ∧ w.grownBy wr (some g) ∧ Hid (∀ x ∈ M, x.size ≤ 41)) (fun i _ => (intOf i).toNat)
  case atStart => exact ⟨k0, [], 0, none, rfl, by simpa using hk3, World.ownsRow_nil _ _ _ _, FX3, F3, O3, S3.more (by omega), hg33, Lib.hid (by simp)⟩
  case round =>
    obtain ⟨k, M, q, B, rfl, hk, M3, FX, F0, O3, S, hg, HM⟩ := hrel
    by_cases hlt : 0 < k
    · have hd : decide ((0 : Int) < (k : Int)) = true := decide_eq_true (by omega)
      have k5 : (_ : Option Value) = some (.slice B M.length q) := FX.cell 5 (by simp)
      have k5o := fun (o : Obj) => (show (_ : Option Value) = some (.slice B M.length q) from (BX.al FX o).cell 5 (by simp))
      have hgx := hg
      have hB5 := Nat.le_trans hB hgx.size
      have hXl := FX.lt
      have bl : b < wr.heap.size := (World.ownsRow.lt O3 b rfl).2
      have hMb : M.length ≤ 100000000 := by omega
      have hby : 16 ≤ 1000 := by decide
      have hgl5 := S.lt
      have tx := text_any [⟨#[115, 105, 100, 101, 32, 65]⟩, ⟨#[115, 101, 99, 111, 110, 100, 32, 114, 101, 97, 100, 105, 110, 103]⟩, ⟨#[108, 97, 98, 101, 108, 32, 116, 111, 114, 110]⟩] wr.heap.size 3 3 rfl g n cc _ B0 A l (wr.alloc (.cells #[.string ⟨#[115, 105, 100, 101, 32, 65]⟩, .string ⟨#[115, 101, 99, 111, 110, 100, 32, 114, 101, 97, 100, 105, 110, 103]⟩, .string ⟨#[108, 97, 98, 101, 108, 32, 116, 111, 114, 110]⟩] 9)).drew (SR.dr (S.al _)) hn (rd_dr ((grown_rd hr hgx hBg hB).alloc hB5 _)) hBg (by show B0 ≤ (wr.alloc _).heap.size; rw [World.size_alloc]; exact Nat.le_succ_of_le hB5) (by omega) hn2 (by decide) (by decide) (CP.dr (CP.made wr [.string ⟨#[115, 105, 100, 101, 32, 65]⟩, .string ⟨#[115, 101, 99, 111, 110, 100, 32, 114, 101, 97, 100, 105, 110, 103]⟩, .string ⟨#[108, 97, 98, 101, 108, 32, 116, 111, 114, 110]⟩] 9)) (by omega)
      go_wp2_with fail
      go_region_law (first | (refine step_appG (w := w6) (f := fS) rfl (.tmp 18) (.tmp 22) 27 rfl eltStr hby (.slice B M.length q) M M.length rfl rfl M6 #[.string y] 9 y 1 rfl rfl rfl (oneStr y) hMb hX6 ?_; intro v7 w7 M7 hg7 hat7 hbl7; obtain ⟨B7, q7, rfl⟩ := own_form M7; have FX7 := (FX6.al (.cells #[.string y] 9)).grown hg7 (fun e => by have h1 := (World.ownsRow.lt M6 _ e).1; omega); have r5 : (_ : Option Value) = some (.slice B M.length q) := FX7.cell 5 (by simp); have hfx := fun j => FX7.free j) | (go_simp; (go_at_call 37; (with_reducible refine tx.mono ?_); rintro e w6 ⟨y, rfl, hy, S6, hg6⟩; have O6 := OO.past (OO.dr (OO.al O3 _)) hg6 hbg; have M6 := World.ownsRow.kept (OO.dr (OO.al M3 (.cells #[.string ⟨#[115, 105, 100, 101, 32, 65]⟩, .string ⟨#[115, 101, 99, 111, 110, 100, 32, 114, 101, 97, 100, 105, 110, 103]⟩, .string ⟨#[108, 97, 98, 101, 108, 32, 116, 111, 114, 110]⟩] 9))) hg6 (.inr (fun e => by have h1 := (World.ownsRow.lt M3 _ e).1; omega)); have FX6 := BX.past (BX.drx (BX.al FX _)) hg6 hXg; have F6 := BX.past (BX.drx (BX.al F0 _)) hg6 hwg; have k6 : (_ : Option Value) = some (.slice B M.length q) := FX6.cell 5 (by simp); have k6o := fun (o : Obj) => (show (_ : Option Value) = some (.slice B M.length q) from (BX.al FX6 o).cell 5 (by simp)); have hX6 : X + 1 ≤ w6.heap.size := FX6.lt)))
      all_goals
        have hy41 : y.size ≤ 41 := by
          simp only [List.mem_cons, List.not_mem_nil, or_false] at hy
          rcases hy with rfl | rfl | rfl <;> decide
        have hnl : (M ++ [y]).length = M.length + 1 := by rw [List.length_append]; rfl
        rw [hnl] at M7 hat7
        have hv7 : (Value.slice B7 (M.length + 1) q7).ownBlock ≠ some X := by
          rcases hat7 with h | h
          · rw [h]; exact fun e => by have h1 := (World.ownsRow.lt M6 _ e).1; omega
          · rw [h]; intro e; have h2 := Option.some.inj e; omega
        have hrow : ∀ j, (Value.slice B M.length q).ownBlock = some j → X + 1 ≤ j := fun j e => (World.ownsRow.lt M6 j e).1
        have F7 := (F6.al (.cells #[.string y] 9)).grown hg7 (fun e => by have h1 := hrow _ e; omega)
        have S7 := (S6.al (.cells #[.string y] 9)).grown hg7 (fun e => by have h1 := hrow _ e; omega)
        have O7 := World.ownsRow.kept (OO.al O6 (.cells #[.string y] 9)) hg7 (.inr (fun e => by have h1 := hrow b e.symm; omega))
        have hgw : w.grownBy w7 (some g) := gr_own (gr_trans (gr_trans (only_drew (gr_trans hgx (World.grownBy_alloc wr _ _))) hg6) (World.grownBy_alloc w6 _ _)) hg7 (fun j e => by have h1 := hrow _ e; omega)
        have FX8 := FX7.put 5 (.slice B7 (M.length + 1) q7)
        have F8 := F7.far (a := ⟨X, 5, none⟩) hwX (.slice B7 (M.length + 1) q7)
        have S8 := SR.grown S7 (grownBy_set0 w7 X 5 (.slice B7 (M.length + 1) q7)) (fun e => hXg (Option.some.inj e))
        have O8 := OO.putne O7 (a := ⟨X, 5, none⟩) (fun e => hbX (Option.some.inj e)) (.slice B7 (M.length + 1) q7)
        have M8 := OO.putne M7 (a := ⟨X, 5, none⟩) hv7 (.slice B7 (M.length + 1) q7)
        have hg8 : w.grownBy (w7.setCell ⟨X, 5, none⟩ (.slice B7 (M.length + 1) q7)) (some g) := only_setCell hgw (p := ⟨X, 5, none⟩) (.inr (by show w.heap.size ≤ X; omega)) (.slice B7 (M.length + 1) q7)
        have hkw : IntKind.i64.wrap ((k : Int) - 1) = ((k - 1 : Nat) : Int) := by rw [IntWalk.i64_in _ (by omega)]; omega
        go_wp2_with fail
        go_roundw
        case rel => exact ⟨k - 1, M ++ [y], q7, B7, rfl, by rw [hnl]; omega, by rw [hnl]; exact M8, by rw [hnl]; exact FX8, F8, O8, S8.more (by omega), hg8, Lib.hid (fun x hx => by
          rcases List.mem_append.1 hx with hx | hx
          · exact HM.out x hx
          · rw [List.mem_singleton.1 hx]; exact hy41)⟩
        case measure => simp [intOf]; omega
    · have hd : decide ((0 : Int) < (k : Int)) = false := decide_eq_false (by omega)
      obtain rfl : k = 0 := by omega
      have on := one_any m g n cc _ B0 A l wr S hn (grown_rd hr hg hBg hB) hBg (Nat.le_trans hB hg.size) (by omega) hn2 hm
      go_wp2_with (go_at_call 38; (with_reducible refine on.mono ?_); rintro e w5 ⟨z, rfl, S5, hg5⟩; have FX5 := BX.past FX hg5 hXg; have F5 := BX.past F0 hg5 hwg; have O5 := OO.past O3 hg5 hbg; have M5 := World.ownsRow.kept M3 hg5 (.inr (fun e => by have h1 := (World.ownsRow.lt M3 _ e).1; omega)); have hg55 := gr_trans hg hg5; have x0 : (_ : Option Value) = some (.int .i64 c) := FX5.cell 0 (by simp); have x1 : (_ : Option Value) = some (.int .i64 h) := FX5.cell 1 (by simp); have x2 : (_ : Option Value) = some (.int .i64 p) := FX5.cell 2 (by simp); have x3 : (_ : Option Value) = some (.int .i64 s) := FX5.cell 3 (by simp); have x4 : (_ : Option Value) = some (.slice (some ⟨b, 0, none⟩) L.length vc) := FX5.cell 4 (by simp); have x5 : (_ : Option Value) = some (.slice B M.length q) := FX5.cell 5 (by simp); have z0 : (_ : Option Value) = some (.int .i64 0) := F5.cell 0 (by simp); have z1 : (_ : Option Value) = some (.int .i64 0) := F5.cell 1 (by simp); have z2 : (_ : Option Value) = some (.int .i64 0) := F5.cell 2 (by simp); have z3 : (_ : Option Value) = some (.int .i64 0) := F5.cell 3 (by simp); have z4 : (_ : Option Value) = some (.slice none 0 0) := F5.cell 4 (by simp); have z5 : (_ : Option Value) = some (.slice none 0 0) := F5.cell 5 (by simp); have hfz := fun j => F5.free j)
      · clear x0 x1 x2 x3 x4 x5 z0 z1 z2 z3 z4 z5 hfz on
        have k5 : (_ : Option Value) = some (.slice B M.length q) := FX5.cell 5 (by simp)
        have k5o := fun (o : Obj) => (show (_ : Option Value) = some (.slice B M.length q) from (BX.al FX5 o).cell 5 (by simp))
        have hgx := hg55
        have hB5 := Nat.le_trans hB hgx.size
        have hXl := FX5.lt
        have bl : b < w5.heap.size := (World.ownsRow.lt O5 b rfl).2
        have hMb : M.length ≤ 100000000 := by omega
        have hby : 16 ≤ 1000 := by decide
        have hgl5 := S5.lt
        have tx := text_any [⟨#[]⟩, ⟨#[116, 97, 98, 9]⟩, ⟨#[48, 49, 50, 51, 52, 53, 54, 55, 56, 57, 48, 49, 50, 51, 52, 53, 54, 55, 56, 57, 48, 49, 50, 51, 52, 53, 54, 55, 56, 57, 48, 49, 50, 51, 52, 53, 54, 55, 56, 57, 48]⟩] w5.heap.size 3 3 rfl g n cc _ B0 A l (w5.alloc (.cells #[.string ⟨#[]⟩, .string ⟨#[116, 97, 98, 9]⟩, .string ⟨#[48, 49, 50, 51, 52, 53, 54, 55, 56, 57, 48, 49, 50, 51, 52, 53, 54, 55, 56, 57, 48, 49, 50, 51, 52, 53, 54, 55, 56, 57, 48, 49, 50, 51, 52, 53, 54, 55, 56, 57, 48]⟩] 9)).drew (SR.dr (S5.al _)) hn (rd_dr ((grown_rd hr hgx hBg hB).alloc hB5 _)) hBg (by show B0 ≤ (w5.alloc _).heap.size; rw [World.size_alloc]; exact Nat.le_succ_of_le hB5) (by omega) hn2 (by decide) (by decide) (CP.dr (CP.made w5 [.string ⟨#[]⟩, .string ⟨#[116, 97, 98, 9]⟩, .string ⟨#[48, 49, 50, 51, 52, 53, 54, 55, 56, 57, 48, 49, 50, 51, 52, 53, 54, 55, 56, 57, 48, 49, 50, 51, 52, 53, 54, 55, 56, 57, 48, 49, 50, 51, 52, 53, 54, 55, 56, 57, 48]⟩] 9)) (by omega)
        go_wp2_with fail
        go_region_law (first | (refine step_appG (w := w6) (f := fS) rfl (.tmp 29) (.tmp 33) 27 rfl eltStr hby (.slice B M.length q) M M.length rfl rfl M6 #[.string y] 9 y 1 rfl rfl rfl (oneStr y) hMb hX6 ?_; intro v7 w7 M7 hg7 hat7 hbl7; obtain ⟨B7, q7, rfl⟩ := own_form M7; have FX7 := (FX6.al (.cells #[.string y] 9)).grown hg7 (fun e => by have h1 := (World.ownsRow.lt M6 _ e).1; omega); have r5 : (_ : Option Value) = some (.slice B M.length q) := FX7.cell 5 (by simp); have hfx := fun j => FX7.free j) | (go_simp; (go_at_call 37; (with_reducible refine tx.mono ?_); rintro e w6 ⟨y, rfl, hy, S6, hg6⟩; have O6 := OO.past (OO.dr (OO.al O5 _)) hg6 hbg; have M6 := World.ownsRow.kept (OO.dr (OO.al M5 (.cells #[.string ⟨#[]⟩, .string ⟨#[116, 97, 98, 9]⟩, .string ⟨#[48, 49, 50, 51, 52, 53, 54, 55, 56, 57, 48, 49, 50, 51, 52, 53, 54, 55, 56, 57, 48, 49, 50, 51, 52, 53, 54, 55, 56, 57, 48, 49, 50, 51, 52, 53, 54, 55, 56, 57, 48]⟩] 9))) hg6 (.inr (fun e => by have h1 := (World.ownsRow.lt M5 _ e).1; omega)); have FX6 := BX.past (BX.drx (BX.al FX5 _)) hg6 hXg; have F6 := BX.past (BX.drx (BX.al F5 _)) hg6 hwg; have k6 : (_ : Option Value) = some (.slice B M.length q) := FX6.cell 5 (by simp); have k6o := fun (o : Obj) => (show (_ : Option Value) = some (.slice B M.length q) from (BX.al FX6 o).cell 5 (by simp)); have hX6 : X + 1 ≤ w6.heap.size := FX6.lt)))
        all_goals
          have hy41 : y.size ≤ 41 := by
            simp only [List.mem_cons, List.not_mem_nil, or_false] at hy
            rcases hy with rfl | rfl | rfl <;> decide
          have hnl : (M ++ [y]).length = M.length + 1 := by rw [List.length_append]; rfl
          rw [hnl] at M7 hat7
          have hv7 : (Value.slice B7 (M.length + 1) q7).ownBlock ≠ some X := by
            rcases hat7 with h | h
            · rw [h]; exact fun e => by have h1 := (World.ownsRow.lt M6 _ e).1; omega
            · rw [h]; intro e; have h2 := Option.some.inj e; omega
          have hrow : ∀ j, (Value.slice B M.length q).ownBlock = some j → X + 1 ≤ j := fun j e => (World.ownsRow.lt M6 j e).1
          have F7 := (F6.al (.cells #[.string y] 9)).grown hg7 (fun e => by have h1 := hrow _ e; omega)
          have S7 := (S6.al (.cells #[.string y] 9)).grown hg7 (fun e => by have h1 := hrow _ e; omega)
          have O7 := World.ownsRow.kept (OO.al O6 (.cells #[.string y] 9)) hg7 (.inr (fun e => by have h1 := hrow b e.symm; omega))
          have hgw : w.grownBy w7 (some g) := gr_own (gr_trans (gr_trans (only_drew (gr_trans hgx (World.grownBy_alloc w5 _ _))) hg6) (World.grownBy_alloc w6 _ _)) hg7 (fun j e => by have h1 := hrow _ e; omega)
          have FX8 := FX7.put 5 (.slice B7 (M.length + 1) q7)
          have F8 := F7.far (a := ⟨X, 5, none⟩) hwX (.slice B7 (M.length + 1) q7)
          have S8 := SR.grown S7 (grownBy_set0 w7 X 5 (.slice B7 (M.length + 1) q7)) (fun e => hXg (Option.some.inj e))
          have O8 := OO.putne O7 (a := ⟨X, 5, none⟩) (fun e => hbX (Option.some.inj e)) (.slice B7 (M.length + 1) q7)
          have M8 := OO.putne M7 (a := ⟨X, 5, none⟩) hv7 (.slice B7 (M.length + 1) q7)
          have hg8 : w.grownBy (w7.setCell ⟨X, 5, none⟩ (.slice B7 (M.length + 1) q7)) (some g) := only_setCell hgw (p := ⟨X, 5, none⟩) (.inr (by show w.heap.size ≤ X; omega)) (.slice B7 (M.length + 1) q7)
          have hok8 : ∀ x ∈ M ++ [y], x.size ≤ 41 := fun x hx => by
            rcases List.mem_append.1 hx with hx | hx
            · exact HM.out x hx
            · rw [List.mem_singleton.1 hx]; exact hy41
          generalize (w7.setCell ⟨X, 5, none⟩ (.slice B7 (M.length + 1) q7)) = w8 at FX8 F8 S8 O8 M8 hg8 ⊢
          have x0 : (_ : Option Value) = some (.int .i64 c) := FX8.cell 0 (by simp)
          have x1 : (_ : Option Value) = some (.int .i64 h) := FX8.cell 1 (by simp)
          have x2 : (_ : Option Value) = some (.int .i64 p) := FX8.cell 2 (by simp)
          have x3 : (_ : Option Value) = some (.int .i64 s) := FX8.cell 3 (by simp)
          have x4 : (_ : Option Value) = some (.slice (some ⟨b, 0, none⟩) L.length vc) := FX8.cell 4 (by simp)
          have x5 : (_ : Option Value) = some (.slice B7 (M.length + 1) q7) := FX8.cell 5 (by simp)
          have z0 : (_ : Option Value) = some (.int .i64 0) := F8.cell 0 (by simp)
          have z1 : (_ : Option Value) = some (.int .i64 0) := F8.cell 1 (by simp)
          have z2 : (_ : Option Value) = some (.int .i64 0) := F8.cell 2 (by simp)
          have z3 : (_ : Option Value) = some (.int .i64 0) := F8.cell 3 (by simp)
          have z4 : (_ : Option Value) = some (.slice none 0 0) := F8.cell 4 (by simp)
          have z5 : (_ : Option Value) = some (.slice none 0 0) := F8.cell 5 (by simp)
          have hfz := fun j => F8.free j
          go_wp2_with fail
          refine bodyPost_ret (v := .agg #[.int .i64 c, .int .i64 h, .int .i64 p, .int .i64 s, .slice (some ⟨b, 0, none⟩) L.length vc, .slice B7 (M.length + 1) q7]) (by simp [results, Try.results19, go_sem, World.cell?_setCell_other, z0, z1, z2, z3, z4, z5]) rfl ⟨c, h, p, s, L, _, (M ++ [y]), _, rfl, hc, hh, hp, hs, ?_, hLn, hLok, ?_, by rw [hnl]; omega, hok8, ?_, ?_⟩
          · refine own_base (base := BL) ?_ (by omega)
            with_reducible repeat (first | exact (OOf O8) | exact O8 | refine ownsRow_setCell_below ?_ (by simp; try omega) _)
          · rw [hnl]
            refine own_base (base := X + 1) ?_ (by omega)
            with_reducible repeat (first | exact (OOf M8) | exact M8 | refine ownsRow_setCell_below ?_ (by simp; try omega) _)
          · refine SR.more (N := N + 20030 + 4 * (3 - 0) + 2 + 2) ?_ (by omega)
            have hx : ∀ (W : World) (j : Nat) (y : Value), SR W g A n cc (N + 20030 + 4 * (3 - 0) + 2 + 2) → SR (W.setCell ⟨w.heap.size, j, none⟩ y) g A n cc (N + 20030 + 4 * (3 - 0) + 2 + 2) := fun W j y h => h.grown (grownBy_set0 W w.heap.size j y) (fun e => by have := Option.some.inj e; omega)
            exact hx _ _ _ (hx _ _ _ (hx _ _ _ (hx _ _ _ (hx _ _ _ (hx _ _ _ S8)))))
          · have hx : ∀ (W : World) (j : Nat) (y : Value), w.grownBy W (some g) → w.grownBy (W.setCell ⟨w.heap.size, j, none⟩ y) (some g) := fun W j y h => only_setCell h (.inr (Nat.le_refl _)) y
            exact hx _ _ _ (hx _ _ _ (hx _ _ _ (hx _ _ _ (hx _ _ _ (hx _ _ _ hg8)))))
      · clear on
        refine bodyPost_ret (v := .agg #[.int .i64 c, .int .i64 h, .int .i64 p, .int .i64 s, .slice (some ⟨b, 0, none⟩) L.length vc, .slice B M.length q]) (by simp [results, Try.results19, go_sem, World.cell?_setCell_other, z0, z1, z2, z3, z4, z5]) rfl ⟨c, h, p, s, L, _, M, _, rfl, hc, hh, hp, hs, ?_, hLn, hLok, ?_, by omega, HM.out, ?_, ?_⟩
        · refine own_base (base := BL) ?_ (by omega)
          with_reducible repeat (first | exact (OOf O5) | exact O5 | refine ownsRow_setCell_below ?_ (by simp; try omega) _)
        · refine own_base (base := X + 1) ?_ (by omega)
          with_reducible repeat (first | exact (OOf M5) | exact M5 | refine ownsRow_setCell_below ?_ (by simp; try omega) _)
        · refine SR.more (N := N + 20030 + 4 * (3 - 0) + 2) ?_ (by omega)
          have hx : ∀ (W : World) (j : Nat) (y : Value), SR W g A n cc (N + 20030 + 4 * (3 - 0) + 2) → SR (W.setCell ⟨w.heap.size, j, none⟩ y) g A n cc (N + 20030 + 4 * (3 - 0) + 2) := fun W j y h => h.grown (grownBy_set0 W w.heap.size j y) (fun e => by have := Option.some.inj e; omega)
          exact hx _ _ _ (hx _ _ _ (hx _ _ _ (hx _ _ _ (hx _ _ _ (hx _ _ _ S5)))))
        · have hx : ∀ (W : World) (j : Nat) (y : Value), w.grownBy W (some g) → w.grownBy (W.setCell ⟨w.heap.size, j, none⟩ y) (some g) := fun W j y h => only_setCell h (.inr (Nat.le_refl _)) y
          exact hx _ _ _ (hx _ _ _ (hx _ _ _ (hx _ _ _ (hx _ _ _ (hx _ _ _ hg55)))))
set_option maxRecDepth 100000 in
set_option maxHeartbeats 1000000 in
theorem drawEncodeImage_any (A : Option Addr) (n cc : Nat) (l : List UInt8) (w : World) (hn : l.length = n) (hr : Rd w w.heap.size 1 A n (flat fU l)) (hn2 : n ≤ maxLen) :
    Calls Try.prog 6 #[.slice A n cc] w fun e w' => ∃ (c h p s : Int) (L : List DSector) (v : Value) (M : List ByteArray) (u : Value), e = .returned (.agg #[.int .i64 c, .int .i64 h, .int .i64 p, .int .i64 s, v, u]) ∧ (0 ≤ c ∧ c ≤ 9) ∧ (1 ≤ h ∧ h ≤ 2) ∧ (1 ≤ p ∧ p ≤ 5) ∧ (-1 ≤ s ∧ s ≤ 3) ∧ w'.ownsRow w.heap.size 46 2 v L.length (flat fSector L) ∧ (0 < L.length ∧ L.length ≤ 129) ∧ (∀ x ∈ L, x.f0.size ≤ 40 ∧ 0 ≤ x.f1 ∧ x.f1 ≤ 5) ∧ w'.ownsRow w.heap.size 9 1 u M.length (flat fS M) ∧ M.length ≤ 4 ∧ (∀ x ∈ M, x.size ≤ 41) ∧ Below w.heap.size w w' := by
  have F0 := BX.made w 29 [.int .i64 0, .int .i64 0, .int .i64 0, .int .i64 0, .slice none 0 0, .slice none 0 0]
  have hb0 : Below w.heap.size w (w.alloc (.cells #[.int .i64 0, .int .i64 0, .int .i64 0, .int .i64 0, .slice none 0 0, .slice none 0 0] 29)) := (by repeat (first | exact Below.refl _ _ | refine below_step ?_ (by assumption) | assumption | refine Below.drew ?_ | refine below_drewN ?_ _ | refine below_alloc ?_ _ | refine Below.setCell ?_ (by simp; try omega) _))
  have hs0 : w.heap.size + 1 ≤ (w.alloc (.cells #[.int .i64 0, .int .i64 0, .int .i64 0, .int .i64 0, .slice none 0 0, .slice none 0 0] 29)).heap.size := by rw [World.size_alloc]; omega
  go_enter Try.func6, Try.ntmps6
  go_wp2_with (first
    | (go_at_call 18; (with_reducible refine (from_any A n cc _).mono ?_); rintro e w1 ⟨g, rfl, hg0, S1, hx1⟩; have hb1 := hb0.trans (hx1.mono (by omega)); replace F0 := F0.below hx1 F0.lt; have hgl := S1.lt; have hr1 := hr.below hb1; have hw1 := hb1.size; have hzg : w.heap.size ≠ g := (by omega); have bt := drawImage_any 9 g n cc 0 w.heap.size A l w1 S1 hn hr1 (by omega) hw1 (by omega) hn2 (by decide))
    | (go_at_call 19; (with_reducible refine bt.mono ?_); rintro e w2 ⟨c, h, p, s, L, v, M, u, rfl, hc, hh, hp, hs, O2, hLn, hLok, M2, hMn, hMok, S2, hg2⟩; obtain ⟨A2, c2, rfl⟩ := own_form O2; obtain ⟨A3, c3, rfl⟩ := own_form M2; have hb2 : Below w.heap.size w w2 := below_step2 hb1 (below_gr hg2 hw1 (by omega)); replace F0 := BX.past F0 hg2 hzg; have z0 : (_ : Option Value) = some (.int .i64 0) := F0.cell 0 (by simp); have z1 : (_ : Option Value) = some (.int .i64 0) := F0.cell 1 (by simp); have z2 : (_ : Option Value) = some (.int .i64 0) := F0.cell 2 (by simp); have z3 : (_ : Option Value) = some (.int .i64 0) := F0.cell 3 (by simp); have z4 : (_ : Option Value) = some (.slice none 0 0) := F0.cell 4 (by simp); have z5 : (_ : Option Value) = some (.slice none 0 0) := F0.cell 5 (by simp); have hfz := fun j => F0.free j))
  have hws : w.heap.size < w1.heap.size := by omega
  refine bodyPost_ret (v := .agg #[.int .i64 c, .int .i64 h, .int .i64 p, .int .i64 s, .slice A2 L.length c2, .slice A3 M.length c3]) (by simp [results, Try.results6, go_sem, World.cell?_setCell_other, z0, z1, z2, z3, z4, z5]) rfl ⟨c, h, p, s, L, _, M, _, rfl, hc, hh, hp, hs, ?_, hLn, hLok, ?_, hMn, hMok, (by with_reducible repeat (first | exact Below.refl _ _ | assumption | refine below_step ?_ (by assumption) | refine Below.drew ?_ | refine below_drewN ?_ _ | refine below_alloc ?_ _ | refine Below.setCell ?_ (by simp; try omega) _))⟩
  · refine own_base (base := w1.heap.size) ?_ (by omega)
    with_reducible repeat (first | exact O2 | refine ownsRow_setCell_below ?_ (by simp; try omega) _)
  · refine own_base (base := w1.heap.size) ?_ (by omega)
    with_reducible repeat (first | exact M2 | refine ownsRow_setCell_below ?_ (by simp; try omega) _)
end Go.Proofs.Ytemppogailpoiaa
namespace Go.Proofs.Ytemppogailpoiaa
set_option linter.unusedVariables false
open Go.RowKit

theorem sameL_self {α : Type} {q : α → α → Bool} (hq : ∀ x, q x x = true) : ∀ l : List α, sameL q l l = true
  | [] => rfl
  | x :: l => by rw [sameL, hq, sameL_self hq l]; rfl
theorem sameI_self (c h p s : Int) (l : List DSector) (n : List ByteArray) : sameI (sameD c h p s l c h p s l) n n = true := by
  have h1 : sameL qSec l l = true := sameL_self (fun x => by simp [qSec]) l
  have h2 : sameL qStr n n = true := sameL_self (fun x => by simp [qStr]) n
  simp [sameI, sameD, alikeB, h1, h2]
theorem imB_notes {d : Bool} {n : List ByteArray} (g : imB d n = true) : d = true ∧ n.length ≤ 8 ∧ ∀ x ∈ n, noteB x = true := by
  simp only [imB, Bool.and_eq_true, decide_eq_true_eq, List.all_eq_true] at g
  exact ⟨g.1.1, g.1.2, g.2⟩
theorem encs_step {C : List DChunk} {k : Nat} (hk : k < C.length) (h : okK C[k]) {out : ByteArray} (e : out.data.toList ++ encs (C.drop k) = encs C) : (out ++ encC C[k].f0 C[k].f1).data.toList ++ encs (C.drop (k + 1)) = encs C := by
  rw [List.drop_eq_getElem_cons hk, encs] at e
  rw [app_list, encC_ok h, List.append_assoc]
  exact e
theorem encs_end {C : List DChunk} {k : Nat} (hk : ¬ k < C.length) {out : ByteArray} (e : out.data.toList ++ encs (C.drop k) = encs C) {S : ByteArray} (hS : S.data.toList = encs C) : out = S := by
  rw [List.drop_eq_nil_of_le (by omega), encs, List.append_nil] at e
  exact ba_of (e.trans hS.symm)
theorem encs_room {C : List DChunk} {k : Nat} (hk : k < C.length) (h : okK C[k]) {out : ByteArray} (e : out.data.toList ++ encs (C.drop k) = encs C) {S : ByteArray} (hS : S.data.toList = encs C) : out.size + (encC C[k].f0 C[k].f1).size ≤ S.size := by
  rw [List.drop_eq_getElem_cons hk, encs, ← hS] at e
  have := congrArg List.length e
  rw [List.length_append, List.length_append, sz_list, sz_list, sz_list, ← encC_ok h] at this
  omega
set_option maxRecDepth 100000 in
set_option maxHeartbeats 8000000 in
set_option linter.unusedSimpArgs false in
theorem fnContainer_walk (A : Option Addr) (cc : Nat) (l : List UInt8) (w : World) (hr : Rd w w.heap.size 1 A l.length (flat fU l)) (hm : l.length ≤ maxLen) : Calls Try.prog 3 #[.slice A l.length cc] w fun e W' => e = .returned (.bool true) ∧ Below w.heap.size w W' := by
  have lg := fun W => long_any A l.length cc W hm
  by_cases hlong : 1048576 < l.length
  · have hdl : decide (1048576 < l.length) = true := decide_eq_true hlong
    rw [hdl] at lg
    clear hdl hlong
    go_enter Try.func3, Try.ntmps3
    go_wp2_with (go_at_call 5; (with_reducible refine (lg _).mono ?_); rintro e w0 ⟨rfl, rfl⟩)
    go_ret
    exact ⟨rfl, Below.refl _ _⟩
  have hdl : decide (1048576 < l.length) = false := decide_eq_false hlong
  rw [hdl] at lg
  clear hdl hlong
  have dr := drawEncodeImage_any A l.length cc l w rfl hr hm
  go_enter Try.func3, Try.ntmps3
  go_wp2_with (first
    | (go_at_call 5; (with_reducible refine (lg _).mono ?_); rintro e w0 ⟨rfl, rfl⟩)
    | (go_at_call 6; (with_reducible refine dr.mono ?_); rintro e w1 ⟨c, h, p, s, L, v, M, u, rfl, hc, hh, hp, hs, O1, hL, hLok, M1, hMn, hMok, hx1⟩; obtain ⟨A2, c2, rfl⟩ := own_form O1; obtain ⟨A3, c3, rfl⟩ := own_form M1; have FD := BX.made w1 29 [.int .i64 c, .int .i64 h, .int .i64 p, .int .i64 s, .slice A2 L.length c2, .slice A3 M.length c3]; have x0 : (_ : Option Value) = some (.int .i64 c) := FD.cell 0 (by simp); have x1 : (_ : Option Value) = some (.int .i64 h) := FD.cell 1 (by simp); have x2 : (_ : Option Value) = some (.int .i64 p) := FD.cell 2 (by simp); have x3 : (_ : Option Value) = some (.int .i64 s) := FD.cell 3 (by simp); have x4 : (_ : Option Value) = some (.slice A2 L.length c2) := FD.cell 4 (by simp); have x5 : (_ : Option Value) = some (.slice A3 M.length c3) := FD.cell 5 (by simp)))
  clear dr lg x0 x1 x2 x3 x4 x5
  have O2 : OO _ _ _ _ _ _ _ := OO.al O1 (.cells #[.int .i64 c, .int .i64 h, .int .i64 p, .int .i64 s, .slice A2 L.length c2, .slice A3 M.length c3] 29)
  have M2 : OO _ _ _ _ _ _ _ := OO.al M1 (.cells #[.int .i64 c, .int .i64 h, .int .i64 p, .int .i64 s, .slice A2 L.length c2, .slice A3 M.length c3] 29)
  have hB : BB w (w1.alloc (.cells #[.int .i64 c, .int .i64 h, .int .i64 p, .int .i64 s, .slice A2 L.length c2, .slice A3 M.length c3] 29)) := BB.al (show BB w w1 from hx1) (.cells #[.int .i64 c, .int .i64 h, .int .i64 p, .int .i64 s, .slice A2 L.length c2, .slice A3 M.length c3] 29)
  generalize (w1.alloc (.cells #[.int .i64 c, .int .i64 h, .int .i64 p, .int .i64 s, .slice A2 L.length c2, .slice A3 M.length c3] 29)) = w2 at FD O2 M2 hB ⊢
  generalize w1.heap.size = X at FD ⊢
  clear O1 M1 hx1
  have hn : L.length ≤ 1048576 := by omega
  have hok : ∀ x ∈ L, okSector x := fun x hx => by
    have := hLok x hx
    exact ⟨by unfold maxLen; omega, by omega, by omega⟩
  have kn : M.length ≤ 1048576 := by omega
  have hkn : ∀ x ∈ M, x.size ≤ maxLen := fun x hx => by have := hMok x hx; unfold maxLen; omega
  have hcp : L.length ≤ c2 := own_capD (OOf O2)
  have en := fun W (h1 : RR W 2 A2 L.length (flat fSector L)) (k1 : RR W 1 A3 M.length (flat fS M)) => impl_EncodeImage_any c h p s A2 c2 L A3 c3 M W h1 hn hok k1 kn hkn hcp
  have vi := fun W (h1 : RR W 2 A2 L.length (flat fSector L)) (k1 : RR W 1 A3 M.length (flat fS M)) => spec_ValidImage_any c h p s A2 c2 L A3 c3 M W h1 hn hok k1 kn hkn
  cases hv : imB (okD c h p s L) M
  · rw [imR_no hv] at en
    rw [hv] at vi
    clear hv
    have hee : ((⟨#[]⟩ : ByteArray).toList == ([] : List UInt8)) = true := by rw [ByteArray.toList_eq]; rfl
    have x0 : (_ : Option Value) = some (.int .i64 c) := FD.cell 0 (by simp)
    have x1 : (_ : Option Value) = some (.int .i64 h) := FD.cell 1 (by simp)
    have x2 : (_ : Option Value) = some (.int .i64 p) := FD.cell 2 (by simp)
    have x3 : (_ : Option Value) = some (.int .i64 s) := FD.cell 3 (by simp)
    have x4 : (_ : Option Value) = some (.slice A2 L.length c2) := FD.cell 4 (by simp)
    have x5 : (_ : Option Value) = some (.slice A3 M.length c3) := FD.cell 5 (by simp)
    go_wp2_with (first
      | (go_at_call 8; have := mk1; (with_reducible refine (vi _ (RR.own (OOf O2)) (RR.own (OOf M2))).mono ?_); rintro e w4 ⟨rfl, hx4⟩; replace FD := FD.below hx4 FD.lt; replace O2 : OO _ _ _ _ _ _ _ := OO.next O2 hx4; replace M2 : OO _ _ _ _ _ _ _ := OO.next M2 hx4; replace hB : BB w _ := BB.next hB hx4)
      | (go_at_call 7; (with_reducible refine (en _ (RR.own (OOf O2)) (RR.own (OOf M2))).mono ?_); rintro e w3 ⟨rfl, hx3⟩; replace FD := FD.below hx3 FD.lt; replace O2 : OO _ _ _ _ _ _ _ := OO.next O2 hx3; replace M2 : OO _ _ _ _ _ _ _ := OO.next M2 hx3; replace hB : BB w _ := BB.next hB hx3; clear x0 x1 x2 x3 x4 x5; have x0 : (_ : Option Value) = some (.int .i64 c) := FD.cell 0 (by simp); have x1 : (_ : Option Value) = some (.int .i64 h) := FD.cell 1 (by simp); have x2 : (_ : Option Value) = some (.int .i64 p) := FD.cell 2 (by simp); have x3 : (_ : Option Value) = some (.int .i64 s) := FD.cell 3 (by simp); have x4 : (_ : Option Value) = some (.slice A2 L.length c2) := FD.cell 4 (by simp); have x5 : (_ : Option Value) = some (.slice A3 M.length c3) := FD.cell 5 (by simp); have mk1 := True.intro))
    go_ret
    exact ⟨rfl, hB⟩
  obtain ⟨g1, g2, g3⟩ := imB_notes hv
  rw [imR_yes hv] at en
  rw [hv] at vi
  clear hv
  have hSs := img_size g1 g2 g3
  obtain ⟨d1, d2, d3, d4⟩ := dec_imG g1 g2 g3
  have sg := sal_imG g1 g2 g3
  have hSe := imG_encs c h p s L M
  have hck := chk_ok g1 g3
  obtain ⟨C26a, C26⟩ := chk_len g1 g2
  obtain ⟨C, hC⟩ : ∃ C, chk c h p s L M = C := ⟨_, rfl⟩
  obtain ⟨S, hS⟩ : ∃ S, imG c h p s L M = S := ⟨_, rfl⟩
  rw [hS] at en hSs d1 d2 d3 d4 sg hSe
  rw [hC] at d3 hSe hck C26 C26a
  clear hC hS g1 g2 g3
  have di := fun W => impl_DecodeImage_any S W (by omega)
  rw [d1, d2] at di
  simp only [imD, Option.getD_some] at di
  have dk := fun W => impl_DecodeChunks_any S W (by omega)
  rw [d3, d4] at dk
  have sa := fun W => impl_SalvageImage_any S W (by omega)
  rw [sg] at sa
  simp only at sa
  have si : ∀ (W : World) (B B' N N' : Option Addr) (e e' q q' : Nat), RR W 2 B L.length (flat fSector L) → RR W 2 B' L.length (flat fSector L) → RR W 1 N M.length (flat fS M) → RR W 1 N' M.length (flat fS M) → Calls Try.prog 10 #[.agg #[.int .i64 c, .int .i64 h, .int .i64 p, .int .i64 s, .slice B L.length e, .slice N M.length q], .agg #[.int .i64 c, .int .i64 h, .int .i64 p, .int .i64 s, .slice B' L.length e', .slice N' M.length q']] W fun e w' => e = .returned (.bool true) ∧ Below W.heap.size W w' := fun W B B' N N' e e' q q' h1 h2 k1 k2 => by
    have := spec_SameImage_any c h p s c h p s B B' N N' e e' q q' L L M M W h1 h2 hn hn k1 k2 kn kn
    rwa [sameI_self] at this
  have HSe := Lib.hid hSe
  clear d1 d2 d3 d4 sg hSe
  have x0 : (_ : Option Value) = some (.int .i64 c) := FD.cell 0 (by simp)
  have x1 : (_ : Option Value) = some (.int .i64 h) := FD.cell 1 (by simp)
  have x2 : (_ : Option Value) = some (.int .i64 p) := FD.cell 2 (by simp)
  have x3 : (_ : Option Value) = some (.int .i64 s) := FD.cell 3 (by simp)
  have x4 : (_ : Option Value) = some (.slice A2 L.length c2) := FD.cell 4 (by simp)
  have x5 : (_ : Option Value) = some (.slice A3 M.length c3) := FD.cell 5 (by simp)
  go_wp2_with (first
    | (go_at_call 11; have := mk4; (with_reducible refine (dk _).mono ?_); rintro e w7 ⟨v7, rfl, O7, hx7⟩; obtain ⟨A7, c7, rfl⟩ := own_form O7; replace O7 : OO _ w.heap.size _ _ _ _ _ := own_base (base' := w.heap.size) (OOf O7) (Below.size hB); replace FD := FD.below hx7 FD.lt; replace O2 : OO _ _ _ _ _ _ _ := OO.next O2 hx7; replace M2 : OO _ _ _ _ _ _ _ := OO.next M2 hx7; replace hB : BB w _ := BB.next hB hx7; clear x0 x1 x2 x3 x4 x5; have x0 : (_ : Option Value) = some (.int .i64 c) := FD.cell 0 (by simp); have x1 : (_ : Option Value) = some (.int .i64 h) := FD.cell 1 (by simp); have x2 : (_ : Option Value) = some (.int .i64 p) := FD.cell 2 (by simp); have x3 : (_ : Option Value) = some (.int .i64 s) := FD.cell 3 (by simp); have x4 : (_ : Option Value) = some (.slice A2 L.length c2) := FD.cell 4 (by simp); have x5 : (_ : Option Value) = some (.slice A3 M.length c3) := FD.cell 5 (by simp); have mk5 := True.intro)
    | (go_at_call 10; have := mk3; (with_reducible refine (si _ _ _ _ _ _ _ _ _ (RR.own (OOf O2)) (RR.own (OOf O5)) (RR.own (OOf M2)) (RR.own (OOf M5))).mono ?_); rintro e w6 ⟨rfl, hx6⟩; replace FD := FD.below hx6 FD.lt; replace O2 : OO _ _ _ _ _ _ _ := OO.next O2 hx6; replace M2 : OO _ _ _ _ _ _ _ := OO.next M2 hx6; replace hB : BB w _ := BB.next hB hx6; clear x0 x1 x2 x3 x4 x5; have x0 : (_ : Option Value) = some (.int .i64 c) := FD.cell 0 (by simp); have x1 : (_ : Option Value) = some (.int .i64 h) := FD.cell 1 (by simp); have x2 : (_ : Option Value) = some (.int .i64 p) := FD.cell 2 (by simp); have x3 : (_ : Option Value) = some (.int .i64 s) := FD.cell 3 (by simp); have x4 : (_ : Option Value) = some (.slice A2 L.length c2) := FD.cell 4 (by simp); have x5 : (_ : Option Value) = some (.slice A3 M.length c3) := FD.cell 5 (by simp); have mk4 := True.intro)
    | (go_at_call 9; have := mk2; (with_reducible refine (di _).mono ?_); rintro e w5 ⟨v5, u5, rfl, O5, M5, -, hx5⟩; obtain ⟨A5, c5, rfl⟩ := own_form O5; obtain ⟨A6, c6, rfl⟩ := own_form M5; replace FD := FD.below hx5 FD.lt; replace O2 : OO _ _ _ _ _ _ _ := OO.next O2 hx5; replace M2 : OO _ _ _ _ _ _ _ := OO.next M2 hx5; replace hB : BB w _ := BB.next hB hx5; replace FD := FD.al (.cells #[.int .i64 c, .int .i64 h, .int .i64 p, .int .i64 s, .slice A5 L.length c5, .slice A6 M.length c6] 29); replace O2 : OO _ _ _ _ _ _ _ := OO.al O2 (.cells #[.int .i64 c, .int .i64 h, .int .i64 p, .int .i64 s, .slice A5 L.length c5, .slice A6 M.length c6] 29); replace M2 : OO _ _ _ _ _ _ _ := OO.al M2 (.cells #[.int .i64 c, .int .i64 h, .int .i64 p, .int .i64 s, .slice A5 L.length c5, .slice A6 M.length c6] 29); replace hB : BB w _ := BB.al hB (.cells #[.int .i64 c, .int .i64 h, .int .i64 p, .int .i64 s, .slice A5 L.length c5, .slice A6 M.length c6] 29); have FY := BX.made w5 29 [.int .i64 c, .int .i64 h, .int .i64 p, .int .i64 s, .slice A5 L.length c5, .slice A6 M.length c6]; replace O5 : OO _ _ _ _ _ _ _ := OO.al O5 (.cells #[.int .i64 c, .int .i64 h, .int .i64 p, .int .i64 s, .slice A5 L.length c5, .slice A6 M.length c6] 29); replace M5 : OO _ _ _ _ _ _ _ := OO.al M5 (.cells #[.int .i64 c, .int .i64 h, .int .i64 p, .int .i64 s, .slice A5 L.length c5, .slice A6 M.length c6] 29); clear x0 x1 x2 x3 x4 x5; have x0 : (_ : Option Value) = some (.int .i64 c) := FD.cell 0 (by simp); have x1 : (_ : Option Value) = some (.int .i64 h) := FD.cell 1 (by simp); have x2 : (_ : Option Value) = some (.int .i64 p) := FD.cell 2 (by simp); have x3 : (_ : Option Value) = some (.int .i64 s) := FD.cell 3 (by simp); have x4 : (_ : Option Value) = some (.slice A2 L.length c2) := FD.cell 4 (by simp); have x5 : (_ : Option Value) = some (.slice A3 M.length c3) := FD.cell 5 (by simp); have y0 : (_ : Option Value) = some (.int .i64 c) := FY.cell 0 (by simp); have y1 : (_ : Option Value) = some (.int .i64 h) := FY.cell 1 (by simp); have y2 : (_ : Option Value) = some (.int .i64 p) := FY.cell 2 (by simp); have y3 : (_ : Option Value) = some (.int .i64 s) := FY.cell 3 (by simp); have y4 : (_ : Option Value) = some (.slice A5 L.length c5) := FY.cell 4 (by simp); have y5 : (_ : Option Value) = some (.slice A6 M.length c6) := FY.cell 5 (by simp); have mk3 := True.intro)
    | (go_at_call 8; have := mk1; (with_reducible refine (vi _ (RR.own (OOf O2)) (RR.own (OOf M2))).mono ?_); rintro e w4 ⟨rfl, hx4⟩; replace FD := FD.below hx4 FD.lt; replace O2 : OO _ _ _ _ _ _ _ := OO.next O2 hx4; replace M2 : OO _ _ _ _ _ _ _ := OO.next M2 hx4; replace hB : BB w _ := BB.next hB hx4; clear x0 x1 x2 x3 x4 x5; have x0 : (_ : Option Value) = some (.int .i64 c) := FD.cell 0 (by simp); have x1 : (_ : Option Value) = some (.int .i64 h) := FD.cell 1 (by simp); have x2 : (_ : Option Value) = some (.int .i64 p) := FD.cell 2 (by simp); have x3 : (_ : Option Value) = some (.int .i64 s) := FD.cell 3 (by simp); have x4 : (_ : Option Value) = some (.slice A2 L.length c2) := FD.cell 4 (by simp); have x5 : (_ : Option Value) = some (.slice A3 M.length c3) := FD.cell 5 (by simp); have mk2 := True.intro)
    | (go_at_call 7; (with_reducible refine (en _ (RR.own (OOf O2)) (RR.own (OOf M2))).mono ?_); rintro e w3 ⟨rfl, hx3⟩; replace FD := FD.below hx3 FD.lt; replace O2 : OO _ _ _ _ _ _ _ := OO.next O2 hx3; replace M2 : OO _ _ _ _ _ _ _ := OO.next M2 hx3; replace hB : BB w _ := BB.next hB hx3; clear x0 x1 x2 x3 x4 x5; have x0 : (_ : Option Value) = some (.int .i64 c) := FD.cell 0 (by simp); have x1 : (_ : Option Value) = some (.int .i64 h) := FD.cell 1 (by simp); have x2 : (_ : Option Value) = some (.int .i64 p) := FD.cell 2 (by simp); have x3 : (_ : Option Value) = some (.int .i64 s) := FD.cell 3 (by simp); have x4 : (_ : Option Value) = some (.slice A2 L.length c2) := FD.cell 4 (by simp); have x5 : (_ : Option Value) = some (.slice A3 M.length c3) := FD.cell 5 (by simp); have mk1 := True.intro))
  clear x0 x1 x2 x3 x4 x5 y0 y1 y2 y3 y4 y5 en vi di dk mk1 mk2 mk3 mk4 mk5 O5 M5 FY
  have HI0 := Lib.hid (show (⟨#[]⟩ : ByteArray).data.toList ++ encs (C.drop 0) = encs C from rfl)
  go_loopw [9, 10] (fun v i wr => ∃ (k : Nat) (out : ByteArray), k ≤ C.length ∧ v = .string out ∧ i = .int .i64 (k : Int) ∧ BX wr X 29 [.int .i64 c, .int .i64 h, .int .i64 p, .int .i64 s, .slice A2 L.length c2, .slice A3 M.length c3] ∧ OO wr w.heap.size 46 2 (.slice A2 L.length c2) L.length (flat fSector L) ∧ OO wr w.heap.size 9 1 (.slice A3 M.length c3) M.length (flat fS M) ∧ OO wr w.heap.size 41 2 (.slice A7 C.length c7) C.length (flat fChunk C) ∧ BB w wr ∧ Hid (out.data.toList ++ encs (C.drop k) = encs C)) (fun _ i _ => C.length - (intOf i).toNat)
  case atStart => exact ⟨0, ⟨#[]⟩, Nat.zero_le _, rfl, rfl, FD, O2, M2, O7, hB, HI0⟩
  case round =>
    clear FD O2 M2 O7 hB HI0
    obtain ⟨k, out, hk, rfl, rfl, FD, O2, M2, O7, hB, HI⟩ := hrel
    by_cases hlt : k < C.length
    · have hd : decide ((k : Int) < (C.length : Int)) = true := decide_eq_true (by omega)
      have hkk := hck _ (List.getElem_mem hlt)
      have hroom := encs_room hlt hkk HI.out HSe.out
      have HN := Lib.hid (encs_step hlt hkk HI.out)
      obtain ⟨bb, off, hbe, hbb, hcc⟩ := (RR.own (OOf O7)).at_ fChunk_len rfl k hlt
      have e0 := hcc 0 _ (by omega) rfl
      have e1 := hcc 1 _ (by omega) rfl
      clear hcc
      subst hbe
      simp only [← Nat.add_assoc, Nat.add_zero, Nat.zero_add] at e0 e1
      have hkm := hkk.2.2
      obtain ⟨x0, hx0⟩ : ∃ x, C[k].f0 = x := ⟨_, rfl⟩
      obtain ⟨x1, hx1⟩ : ∃ x, C[k].f1 = x := ⟨_, rfl⟩
      rw [hx0] at e0 hroom HN
      rw [hx1] at e1 hroom HN hkm
      have ec := fun W => impl_EncodeChunk_any x0 x1 W (by unfold maxLen; omega)
      generalize encC x0 x1 = E at *
      have hno : ¬ 9223372036854775807 < out.size + E.size := by omega
      clear hx0 hx1 hkk
      go_wp2_with (go_at_call 12; (with_reducible refine (ec _).mono ?_); rintro e w8 ⟨rfl, hx8⟩; replace FD := FD.below hx8 FD.lt; replace O2 : OO _ _ _ _ _ _ _ := OO.next O2 hx8; replace M2 : OO _ _ _ _ _ _ _ := OO.next M2 hx8; replace O7 : OO _ _ _ _ _ _ _ := OO.next O7 hx8; replace hB : BB w _ := BB.next hB hx8)
      go_roundw
      case rel => exact ⟨k + 1, out ++ E, by omega, rfl, by go_num, FD, O2, M2, O7, hB, HN⟩
      case measure => (simp [intOf] <;> omega)
    · have hd : decide ((k : Int) < (C.length : Int)) = false := decide_eq_false (by omega)
      obtain rfl := encs_end hlt HI.out HSe.out
      have hss : (out.toList == out.toList) = true := by simp
      clear HI HSe O7 hck
      have x0 : (_ : Option Value) = some (.int .i64 c) := FD.cell 0 (by simp)
      have x1 : (_ : Option Value) = some (.int .i64 h) := FD.cell 1 (by simp)
      have x2 : (_ : Option Value) = some (.int .i64 p) := FD.cell 2 (by simp)
      have x3 : (_ : Option Value) = some (.int .i64 s) := FD.cell 3 (by simp)
      have x4 : (_ : Option Value) = some (.slice A2 L.length c2) := FD.cell 4 (by simp)
      have x5 : (_ : Option Value) = some (.slice A3 M.length c3) := FD.cell 5 (by simp)
      go_wp2_with (first
        | (go_at_call 10; have := mk9; (with_reducible refine (si _ _ _ _ _ _ _ _ _ (RR.own (OOf O2)) (RR.own (OOf O8)) (RR.own (OOf M2)) (RR.own (OOf M8))).mono ?_); rintro e w9 ⟨rfl, hx9⟩; replace FD := FD.below hx9 FD.lt; replace O2 : OO _ _ _ _ _ _ _ := OO.next O2 hx9; replace M2 : OO _ _ _ _ _ _ _ := OO.next M2 hx9; replace hB : BB w _ := BB.next hB hx9)
        | (go_at_call 13; (with_reducible refine (sa _).mono ?_); rintro e w8 ⟨v8, u8, rfl, O8, M8, -, hx8⟩; obtain ⟨A8, c8, rfl⟩ := own_form O8; obtain ⟨A9, c9, rfl⟩ := own_form M8; replace FD := FD.below hx8 FD.lt; replace O2 : OO _ _ _ _ _ _ _ := OO.next O2 hx8; replace M2 : OO _ _ _ _ _ _ _ := OO.next M2 hx8; replace hB : BB w _ := BB.next hB hx8; replace FD := FD.al (.cells #[.int .i64 c, .int .i64 h, .int .i64 p, .int .i64 s, .slice A8 L.length c8, .slice A9 M.length c9] 29); replace O2 : OO _ _ _ _ _ _ _ := OO.al O2 (.cells #[.int .i64 c, .int .i64 h, .int .i64 p, .int .i64 s, .slice A8 L.length c8, .slice A9 M.length c9] 29); replace M2 : OO _ _ _ _ _ _ _ := OO.al M2 (.cells #[.int .i64 c, .int .i64 h, .int .i64 p, .int .i64 s, .slice A8 L.length c8, .slice A9 M.length c9] 29); replace hB : BB w _ := BB.al hB (.cells #[.int .i64 c, .int .i64 h, .int .i64 p, .int .i64 s, .slice A8 L.length c8, .slice A9 M.length c9] 29); have FZ := BX.made w8 29 [.int .i64 c, .int .i64 h, .int .i64 p, .int .i64 s, .slice A8 L.length c8, .slice A9 M.length c9]; replace O8 : OO _ _ _ _ _ _ _ := OO.al O8 (.cells #[.int .i64 c, .int .i64 h, .int .i64 p, .int .i64 s, .slice A8 L.length c8, .slice A9 M.length c9] 29); replace M8 : OO _ _ _ _ _ _ _ := OO.al M8 (.cells #[.int .i64 c, .int .i64 h, .int .i64 p, .int .i64 s, .slice A8 L.length c8, .slice A9 M.length c9] 29); clear x0 x1 x2 x3 x4 x5; have x0 : (_ : Option Value) = some (.int .i64 c) := FD.cell 0 (by simp); have x1 : (_ : Option Value) = some (.int .i64 h) := FD.cell 1 (by simp); have x2 : (_ : Option Value) = some (.int .i64 p) := FD.cell 2 (by simp); have x3 : (_ : Option Value) = some (.int .i64 s) := FD.cell 3 (by simp); have x4 : (_ : Option Value) = some (.slice A2 L.length c2) := FD.cell 4 (by simp); have x5 : (_ : Option Value) = some (.slice A3 M.length c3) := FD.cell 5 (by simp); have z0 : (_ : Option Value) = some (.int .i64 c) := FZ.cell 0 (by simp); have z1 : (_ : Option Value) = some (.int .i64 h) := FZ.cell 1 (by simp); have z2 : (_ : Option Value) = some (.int .i64 p) := FZ.cell 2 (by simp); have z3 : (_ : Option Value) = some (.int .i64 s) := FZ.cell 3 (by simp); have z4 : (_ : Option Value) = some (.slice A8 L.length c8) := FZ.cell 4 (by simp); have z5 : (_ : Option Value) = some (.slice A9 M.length c9) := FZ.cell 5 (by simp); have mk9 := True.intro))
      go_ret
      exact ⟨rfl, hB⟩
end Go.Proofs.Ytemppogailpoiaa
namespace Go.Proofs.Ytemppogailpoiaa
set_option linter.unusedVariables false
open Go.RowKit

set_option maxRecDepth 100000 in
set_option maxHeartbeats 1000000 in
theorem b10At_any (n cc B : Nat) (A : Option Addr) (l : List UInt8) (w : World) (hn : l.length = n) (hr : Rd w B 1 A n (flat fU l)) (hn2 : n ≤ maxLen) (m : Int) (hm : 1 ≤ m) (hm2 : m ≤ 1000000) :
    Calls Try.prog 16 #[.slice A n cc, .int .i64 0, .int .i64 m] w fun e w' => ∃ x : Int, e = .returned (.int .i64 x) ∧ 0 ≤ x ∧ x < m ∧ Below w.heap.size w w' := by
  unfold maxLen at hn2
  by_cases h1 : m ≤ 1
  · have hd1 : decide (m ≤ 1) = true := decide_eq_true h1
    go_enter Try.func16, Try.ntmps16
    go_wp2
    go_ret
    exact ⟨0, rfl, by omega, by omega, (by repeat (first | exact Below.refl _ _ | refine below_step ?_ (by assumption) | assumption | refine Below.drew ?_ | refine below_drewN ?_ _ | refine below_alloc ?_ _ | refine Below.setCell ?_ (by simp; try omega) _))⟩
  have hd1 : decide (m ≤ 1) = false := decide_eq_false h1
  have hm0 : m ≠ 0 := by omega
  by_cases h2 : 0 < n
  · have hd2 : decide ((0 : Int) < (n : Int)) = true := decide_eq_true (by omega)
    obtain ⟨b, off, hbe, hbb, hcc⟩ := hr.at_ fU_len hn.symm 0 h2
    have e0 := hcc 0 _ (by omega) rfl
    clear hcc
    subst hbe
    simp only [Nat.zero_mul, Nat.add_zero] at e0
    obtain ⟨y, hy⟩ : ∃ y, (l[0]'(by omega)).toNat = y := ⟨_, rfl⟩
    have hyl := (l[0]'(by omega)).toNat_lt
    rw [hy] at e0 hyl
    clear hy
    have hw1 : IntKind.i64.wrap (y : Int) = (y : Int) := IntWalk.i64_in _ (by omega)
    have hw2 : IntKind.i64.wrap ((y : Int) % m) = (y : Int) % m := IntWalk.i64_in _ (by have := Int.emod_nonneg (y : Int) hm0; have := Int.emod_lt_of_pos (y : Int) (show 0 < m by omega); omega)
    have hy0 : (0 : Int) ≤ (y : Int) := by omega
    have ht : (y : Int).tmod m = (y : Int) % m := Int.tmod_eq_emod_of_nonneg hy0
    go_enter Try.func16, Try.ntmps16
    go_wp2
    go_ret
    exact ⟨(y : Int) % m, rfl, Int.emod_nonneg _ hm0, Int.emod_lt_of_pos _ (by omega), (by repeat (first | exact Below.refl _ _ | refine below_step ?_ (by assumption) | assumption | refine Below.drew ?_ | refine below_drewN ?_ _ | refine below_alloc ?_ _ | refine Below.setCell ?_ (by simp; try omega) _))⟩
  · have hd2 : decide ((0 : Int) < (n : Int)) = false := decide_eq_false (by omega)
    have hw2 : IntKind.i64.wrap ((11 : Int) % m) = (11 : Int) % m := IntWalk.i64_in _ (by have := Int.emod_nonneg (11 : Int) hm0; have := Int.emod_lt_of_pos (11 : Int) (show 0 < m by omega); omega)
    have ht : (11 : Int).tmod m = (11 : Int) % m := Int.tmod_eq_emod_of_nonneg (by decide)
    go_enter Try.func16, Try.ntmps16
    go_wp2
    go_ret
    exact ⟨(11 : Int) % m, rfl, Int.emod_nonneg _ hm0, Int.emod_lt_of_pos _ (by omega), (by repeat (first | exact Below.refl _ _ | refine below_step ?_ (by assumption) | assumption | refine Below.drew ?_ | refine below_drewN ?_ _ | refine below_alloc ?_ _ | refine Below.setCell ?_ (by simp; try omega) _))⟩
theorem skE_step {q : Nat} {C : List DChunk} {k : Nat} (hk : k < C.length) (h : ¬ k = q) {out : ByteArray} (e : out.data.toList ++ skE q k (C.drop k) = skE q 0 C) : (out ++ encC C[k].f0 C[k].f1).data.toList ++ skE q (k + 1) (C.drop (k + 1)) = skE q 0 C := by
  rw [List.drop_eq_getElem_cons hk, skE, if_neg h] at e
  rw [app_list, List.append_assoc]
  exact e
theorem skE_skip {q : Nat} {C : List DChunk} {k : Nat} (hk : k < C.length) (h : k = q) {out : ByteArray} (e : out.data.toList ++ skE q k (C.drop k) = skE q 0 C) : out.data.toList ++ skE q (k + 1) (C.drop (k + 1)) = skE q 0 C := by
  rw [List.drop_eq_getElem_cons hk, skE, if_pos h] at e
  exact e
theorem skE_end {q : Nat} {C : List DChunk} {k : Nat} (hk : ¬ k < C.length) {out : ByteArray} (e : out.data.toList ++ skE q k (C.drop k) = skE q 0 C) : out.data.toList = skE q 0 C := by
  rw [List.drop_eq_nil_of_le (by omega), skE, List.append_nil] at e
  exact e
theorem skE_le (q : Nat) : ∀ (C : List DChunk) (i : Nat), (∀ x ∈ C, okK x) → (skE q i C).length ≤ (encs C).length
  | [], _, _ => Nat.le_refl _
  | x :: C, i, h => by
    have h1 := skE_le q C (i + 1) (fun y hy => h y (List.mem_cons_of_mem _ hy))
    rw [skE, encs, encC_ok (h x List.mem_cons_self), List.length_append, List.length_append]
    split
    · simp only [List.length_nil]; omega
    · omega
theorem skE_room {q : Nat} {C : List DChunk} {k : Nat} (hk : k < C.length) (h : ¬ k = q) (hC : ∀ x ∈ C, okK x) {out : ByteArray} (e : out.data.toList ++ skE q k (C.drop k) = skE q 0 C) {S : ByteArray} (hS : S.data.toList = encs C) : out.size + (encC C[k].f0 C[k].f1).size ≤ S.size := by
  have h1 := skE_le q C 0 hC
  rw [← e, ← hS, List.drop_eq_getElem_cons hk, skE, if_neg h, List.length_append, List.length_append, sz_list, sz_list, sz_list] at h1
  omega
theorem lost_3 {x : DChunk} {q : Nat} (h1 : (x.f0 == 2) = false) : lostB x q = false := by
  have : ¬ x.f0 = 2 := by simpa using h1
  simp [lostB, this]
theorem lost_2 {x : DChunk} {q : Nat} (h1 : ¬ 0 < x.f1.size) : lostB x q = false := by simp [lostB, h1]
theorem lost_1 {x : DChunk} {q : Nat} (h1 : ¬ bt x.f1 0 = q) : lostB x q = false := by simp [lostB, h1]
set_option maxRecDepth 100000 in
set_option maxHeartbeats 16000000 in
set_option linter.unusedSimpArgs false in
theorem fnSalvage_walk (A A' : Option Addr) (cc cc' : Nat) (l l' : List UInt8) (w : World) (hr : Rd w w.heap.size 1 A l.length (flat fU l)) (hm : l.length ≤ maxLen) (hr' : Rd w w.heap.size 1 A' l'.length (flat fU l')) (hm' : l'.length ≤ maxLen) : Calls Try.prog 4 #[.slice A l.length cc, .slice A' l'.length cc'] w fun e W' => e = .returned (.bool true) ∧ Below w.heap.size w W' := by
  have lg := fun W => long_any A l.length cc W hm
  have lg' := fun W => long_any A' l'.length cc' W hm'
  by_cases hlong : 1048576 < l.length
  · have hdl : decide (1048576 < l.length) = true := decide_eq_true hlong
    rw [hdl] at lg
    clear hdl hlong lg'
    go_enter Try.func4, Try.ntmps4
    go_wp2_with (go_at_call 5; (with_reducible refine (lg _).mono ?_); rintro e w0 ⟨rfl, rfl⟩; have mkL := True.intro)
    go_ret
    exact ⟨rfl, Below.refl _ _⟩
  have hdl : decide (1048576 < l.length) = false := decide_eq_false hlong
  rw [hdl] at lg
  clear hdl hlong
  by_cases hlong : 1048576 < l'.length
  · have hdl : decide (1048576 < l'.length) = true := decide_eq_true hlong
    rw [hdl] at lg'
    clear hdl hlong
    go_enter Try.func4, Try.ntmps4
    go_wp2_with (first | (go_at_call 5; (with_reducible refine (lg _).mono ?_); rintro e w0 ⟨rfl, rfl⟩; have mkL := True.intro) | (go_at_call 5; have := mkL; (with_reducible refine (lg' _).mono ?_); rintro e w0 ⟨rfl, rfl⟩))
    go_ret
    exact ⟨rfl, Below.refl _ _⟩
  have hdl : decide (1048576 < l'.length) = false := decide_eq_false hlong
  rw [hdl] at lg'
  clear hdl hlong
  have dr := drawEncodeImage_any A l.length cc l w rfl hr hm
  go_enter Try.func4, Try.ntmps4
  go_wp2_with (first
    | (go_at_call 5; (with_reducible refine (lg _).mono ?_); rintro e w0 ⟨rfl, rfl⟩; have mkL := True.intro)
    | (go_at_call 5; have := mkL; (with_reducible refine (lg' _).mono ?_); rintro e w0 ⟨rfl, rfl⟩)
    | (go_at_call 6; (with_reducible refine dr.mono ?_); rintro e w1 ⟨c, h, p, s, L, v, M, u, rfl, hc, hh, hp, hs, O1, hL, hLok, M1, hMn, hMok, hx1⟩; obtain ⟨A2, c2, rfl⟩ := own_form O1; obtain ⟨A3, c3, rfl⟩ := own_form M1; have FD := BX.made w1 29 [.int .i64 c, .int .i64 h, .int .i64 p, .int .i64 s, .slice A2 L.length c2, .slice A3 M.length c3]; have x0 : (_ : Option Value) = some (.int .i64 c) := FD.cell 0 (by simp); have x1 : (_ : Option Value) = some (.int .i64 h) := FD.cell 1 (by simp); have x2 : (_ : Option Value) = some (.int .i64 p) := FD.cell 2 (by simp); have x3 : (_ : Option Value) = some (.int .i64 s) := FD.cell 3 (by simp); have x4 : (_ : Option Value) = some (.slice A2 L.length c2) := FD.cell 4 (by simp); have x5 : (_ : Option Value) = some (.slice A3 M.length c3) := FD.cell 5 (by simp)))
  clear dr lg lg' x0 x1 x2 x3 x4 x5
  have O2 : OO _ _ _ _ _ _ _ := OO.al O1 (.cells #[.int .i64 c, .int .i64 h, .int .i64 p, .int .i64 s, .slice A2 L.length c2, .slice A3 M.length c3] 29)
  have M2 : OO _ _ _ _ _ _ _ := OO.al M1 (.cells #[.int .i64 c, .int .i64 h, .int .i64 p, .int .i64 s, .slice A2 L.length c2, .slice A3 M.length c3] 29)
  have hB : BB w (w1.alloc (.cells #[.int .i64 c, .int .i64 h, .int .i64 p, .int .i64 s, .slice A2 L.length c2, .slice A3 M.length c3] 29)) := BB.al (show BB w w1 from hx1) (.cells #[.int .i64 c, .int .i64 h, .int .i64 p, .int .i64 s, .slice A2 L.length c2, .slice A3 M.length c3] 29)
  generalize (w1.alloc (.cells #[.int .i64 c, .int .i64 h, .int .i64 p, .int .i64 s, .slice A2 L.length c2, .slice A3 M.length c3] 29)) = w2 at FD O2 M2 hB ⊢
  generalize w1.heap.size = X at FD ⊢
  clear O1 M1 hx1
  have hn : L.length ≤ 1048576 := by omega
  have hok : ∀ x ∈ L, okSector x := fun x hx => by
    have := hLok x hx
    exact ⟨by unfold maxLen; omega, by omega, by omega⟩
  have kn : M.length ≤ 1048576 := by omega
  have hkn : ∀ x ∈ M, x.size ≤ maxLen := fun x hx => by have := hMok x hx; unfold maxLen; omega
  have hcp : L.length ≤ c2 := own_capD (OOf O2)
  have en := fun W (h1 : RR W 2 A2 L.length (flat fSector L)) (k1 : RR W 1 A3 M.length (flat fS M)) => spec_EncodeImage_any c h p s A2 c2 L A3 c3 M W h1 hn hok k1 kn hkn
  have vi := fun W (h1 : RR W 2 A2 L.length (flat fSector L)) (k1 : RR W 1 A3 M.length (flat fS M)) => spec_ValidImage_any c h p s A2 c2 L A3 c3 M W h1 hn hok k1 kn hkn
  cases hv : imB (okD c h p s L) M
  · rw [hv] at vi
    clear hv
    have x0 : (_ : Option Value) = some (.int .i64 c) := FD.cell 0 (by simp)
    have x1 : (_ : Option Value) = some (.int .i64 h) := FD.cell 1 (by simp)
    have x2 : (_ : Option Value) = some (.int .i64 p) := FD.cell 2 (by simp)
    have x3 : (_ : Option Value) = some (.int .i64 s) := FD.cell 3 (by simp)
    have x4 : (_ : Option Value) = some (.slice A2 L.length c2) := FD.cell 4 (by simp)
    have x5 : (_ : Option Value) = some (.slice A3 M.length c3) := FD.cell 5 (by simp)
    go_wp2_with (go_at_call 8; (with_reducible refine (vi _ (RR.own (OOf O2)) (RR.own (OOf M2))).mono ?_); rintro e w4 ⟨rfl, hx4⟩; replace FD := FD.below hx4 FD.lt; replace O2 : OO _ _ _ _ _ _ _ := OO.next O2 hx4; replace M2 : OO _ _ _ _ _ _ _ := OO.next M2 hx4; replace hB : BB w _ := BB.next hB hx4)
    go_ret
    exact ⟨rfl, hB⟩
  obtain ⟨g1, g2, g3⟩ := imB_notes hv
  rw [imR_yes hv] at en
  rw [hv] at vi
  clear hv
  have hSs := img_size g1 g2 g3
  obtain ⟨d1, d2, d3, d4⟩ := dec_imG g1 g2 g3
  have sgo := fun q hq t ht => sal_gone g1 g2 g3 (q := q) hq (t := t) ht
  have hSe := imG_encs c h p s L M
  have hck := chk_ok g1 g3
  obtain ⟨C26a, C26⟩ := chk_len g1 g2
  obtain ⟨C, hC⟩ : ∃ C, chk c h p s L M = C := ⟨_, rfl⟩
  obtain ⟨S, hS⟩ : ∃ S, imG c h p s L M = S := ⟨_, rfl⟩
  rw [hS] at en hSs d3 d4 hSe
  rw [hC] at d3 hSe hck C26 C26a
  have sgo' : ∀ Q, 0 < Q → (hq : Q < C.length) → ∀ t : ByteArray, t.data.toList = encs (C.eraseIdx Q) → ∃ (L' : List DSector) (N' : List ByteArray), saR t = (⟨c, h, p, s, L', N'⟩, 0, 0) ∧ L'.length = L.length ∧ N'.length ≤ 8 ∧ ∀ k, k < L.length → lostB (C[Q]) (k / p.toNat) = false → L'[k]? = L[k]? := by
    intro Q hQ0 hQ t ht
    obtain ⟨q, rfl⟩ : ∃ q, Q = q + 1 := ⟨Q - 1, by omega⟩
    subst hC
    exact sgo q hQ t ht
  have hpp : 0 < p.toNat := (geo_vi g1).p0
  clear sgo hC hS g1 g2 g3 d1 d2
  have dk := fun W => spec_DecodeChunks_any S W (by omega)
  rw [d3, d4] at dk
  have HSe := Lib.hid hSe
  have hlt2 : decide ((C.length : Int) < 2) = false := decide_eq_false (by omega)
  have hws : IntKind.i64.wrap ((C.length : Int) - 1) = (C.length : Int) - 1 := IntWalk.i64_in _ (by omega)
  have at_ := fun W hrr => b10At_any l'.length cc' w.heap.size A' l' W rfl hrr hm' ((C.length : Int) - 1) (by omega) (by omega)
  clear d3 d4 hSe
  have x0 : (_ : Option Value) = some (.int .i64 c) := FD.cell 0 (by simp)
  have x1 : (_ : Option Value) = some (.int .i64 h) := FD.cell 1 (by simp)
  have x2 : (_ : Option Value) = some (.int .i64 p) := FD.cell 2 (by simp)
  have x3 : (_ : Option Value) = some (.int .i64 s) := FD.cell 3 (by simp)
  have x4 : (_ : Option Value) = some (.slice A2 L.length c2) := FD.cell 4 (by simp)
  have x5 : (_ : Option Value) = some (.slice A3 M.length c3) := FD.cell 5 (by simp)
  go_wp2_with (first
    | (go_at_call 16; have := mk3; have hrB := Rd.below hr' hB; (with_reducible refine (at_ _ hrB).mono ?_); rintro e w6 ⟨qq, rfl, hq0, hq1, hx6⟩; replace FD := FD.below hx6 FD.lt; replace O2 : OO _ _ _ _ _ _ _ := OO.next O2 hx6; replace M2 : OO _ _ _ _ _ _ _ := OO.next M2 hx6; replace hB : BB w _ := BB.next hB hx6; replace O7 : OO _ _ _ _ _ _ _ := OO.next O7 hx6; clear x0 x1 x2 x3 x4 x5; have x0 : (_ : Option Value) = some (.int .i64 c) := FD.cell 0 (by simp); have x1 : (_ : Option Value) = some (.int .i64 h) := FD.cell 1 (by simp); have x2 : (_ : Option Value) = some (.int .i64 p) := FD.cell 2 (by simp); have x3 : (_ : Option Value) = some (.int .i64 s) := FD.cell 3 (by simp); have x4 : (_ : Option Value) = some (.slice A2 L.length c2) := FD.cell 4 (by simp); have x5 : (_ : Option Value) = some (.slice A3 M.length c3) := FD.cell 5 (by simp); have hw1q : IntKind.i64.wrap (1 + qq) = 1 + qq := IntWalk.i64_in _ (by omega); have mk4 := True.intro)
    | (go_at_call 15; have := mk2; (with_reducible refine (dk _).mono ?_); rintro e w5 ⟨v7, rfl, O7, hx5⟩; obtain ⟨A7, c7, rfl⟩ := own_form O7; replace O7 : OO _ w.heap.size _ _ _ _ _ := own_base (base' := w.heap.size) (OOf O7) (Below.size hB); replace FD := FD.below hx5 FD.lt; replace O2 : OO _ _ _ _ _ _ _ := OO.next O2 hx5; replace M2 : OO _ _ _ _ _ _ _ := OO.next M2 hx5; replace hB : BB w _ := BB.next hB hx5; clear x0 x1 x2 x3 x4 x5; have x0 : (_ : Option Value) = some (.int .i64 c) := FD.cell 0 (by simp); have x1 : (_ : Option Value) = some (.int .i64 h) := FD.cell 1 (by simp); have x2 : (_ : Option Value) = some (.int .i64 p) := FD.cell 2 (by simp); have x3 : (_ : Option Value) = some (.int .i64 s) := FD.cell 3 (by simp); have x4 : (_ : Option Value) = some (.slice A2 L.length c2) := FD.cell 4 (by simp); have x5 : (_ : Option Value) = some (.slice A3 M.length c3) := FD.cell 5 (by simp); have mk3 := True.intro)
    | (go_at_call 14; have := mk1; (with_reducible refine (en _ (RR.own (OOf O2)) (RR.own (OOf M2))).mono ?_); rintro e w4 ⟨rfl, hx4⟩; replace FD := FD.below hx4 FD.lt; replace O2 : OO _ _ _ _ _ _ _ := OO.next O2 hx4; replace M2 : OO _ _ _ _ _ _ _ := OO.next M2 hx4; replace hB : BB w _ := BB.next hB hx4; clear x0 x1 x2 x3 x4 x5; have x0 : (_ : Option Value) = some (.int .i64 c) := FD.cell 0 (by simp); have x1 : (_ : Option Value) = some (.int .i64 h) := FD.cell 1 (by simp); have x2 : (_ : Option Value) = some (.int .i64 p) := FD.cell 2 (by simp); have x3 : (_ : Option Value) = some (.int .i64 s) := FD.cell 3 (by simp); have x4 : (_ : Option Value) = some (.slice A2 L.length c2) := FD.cell 4 (by simp); have x5 : (_ : Option Value) = some (.slice A3 M.length c3) := FD.cell 5 (by simp); have mk2 := True.intro)
    | (go_at_call 8; (with_reducible refine (vi _ (RR.own (OOf O2)) (RR.own (OOf M2))).mono ?_); rintro e w3 ⟨rfl, hx3⟩; replace FD := FD.below hx3 FD.lt; replace O2 : OO _ _ _ _ _ _ _ := OO.next O2 hx3; replace M2 : OO _ _ _ _ _ _ _ := OO.next M2 hx3; replace hB : BB w _ := BB.next hB hx3; clear x0 x1 x2 x3 x4 x5; have x0 : (_ : Option Value) = some (.int .i64 c) := FD.cell 0 (by simp); have x1 : (_ : Option Value) = some (.int .i64 h) := FD.cell 1 (by simp); have x2 : (_ : Option Value) = some (.int .i64 p) := FD.cell 2 (by simp); have x3 : (_ : Option Value) = some (.int .i64 s) := FD.cell 3 (by simp); have x4 : (_ : Option Value) = some (.slice A2 L.length c2) := FD.cell 4 (by simp); have x5 : (_ : Option Value) = some (.slice A3 M.length c3) := FD.cell 5 (by simp); have mk1 := True.intro))
  clear x0 x1 x2 x3 x4 x5 en vi dk at_ mk1 mk2 mk3 mk4
  obtain ⟨Q, hQ⟩ : ∃ Q : Nat, 1 + qq = (Q : Int) := ⟨(1 + qq).toNat, by omega⟩
  have hq2 : Q < C.length := by omega
  have hQ0 : 0 < Q := by omega
  rw [hQ] at hw1q ⊢
  have HI0 := Lib.hid (show (⟨#[]⟩ : ByteArray).data.toList ++ skE Q 0 (C.drop 0) = skE Q 0 C from rfl)
  go_loopw [10, 11] (fun v i wr => ∃ (k : Nat) (out : ByteArray), k ≤ C.length ∧ v = .string out ∧ i = .int .i64 (k : Int) ∧ BX wr X 29 [.int .i64 c, .int .i64 h, .int .i64 p, .int .i64 s, .slice A2 L.length c2, .slice A3 M.length c3] ∧ OO wr w.heap.size 46 2 (.slice A2 L.length c2) L.length (flat fSector L) ∧ OO wr w.heap.size 9 1 (.slice A3 M.length c3) M.length (flat fS M) ∧ OO wr w.heap.size 41 2 (.slice A7 C.length c7) C.length (flat fChunk C) ∧ BB w wr ∧ Hid (out.data.toList ++ skE Q k (C.drop k) = skE Q 0 C)) (fun _ i _ => C.length - (intOf i).toNat)
  case atStart => exact ⟨0, ⟨#[]⟩, Nat.zero_le _, rfl, rfl, FD, O2, M2, O7, hB, HI0⟩
  case round =>
    clear FD O2 M2 O7 hB HI0
    obtain ⟨k, out, hk, rfl, rfl, FD, O2, M2, O7, hB, HI⟩ := hrel
    by_cases hlt : k < C.length
    · have hd : decide ((k : Int) < (C.length : Int)) = true := decide_eq_true (by omega)
      by_cases hkq : k = Q
      · have hne : ((k : Int) != (Q : Int)) = false := by simp; omega
        have HN := Lib.hid (skE_skip hlt hkq HI.out)
        clear hkq
        go_wp2_with fail
        go_roundw
        case rel => exact ⟨k + 1, out, by omega, rfl, by go_num, FD, O2, M2, O7, hB, HN⟩
        case measure => (simp [intOf] <;> omega)
      have hne : ((k : Int) != (Q : Int)) = true := by simp; omega
      have hkk := hck _ (List.getElem_mem hlt)
      have hroom := skE_room hlt hkq hck HI.out HSe.out
      have HN := Lib.hid (skE_step hlt hkq HI.out)
      obtain ⟨bb, off, hbe, hbb, hcc⟩ := (RR.own (OOf O7)).at_ fChunk_len rfl k hlt
      have e0 := hcc 0 _ (by omega) rfl
      have e1 := hcc 1 _ (by omega) rfl
      clear hcc
      subst hbe
      simp only [← Nat.add_assoc, Nat.add_zero, Nat.zero_add] at e0 e1
      have hkm := hkk.2.2
      obtain ⟨x0, hx0⟩ : ∃ x, C[k].f0 = x := ⟨_, rfl⟩
      obtain ⟨x1, hx1⟩ : ∃ x, C[k].f1 = x := ⟨_, rfl⟩
      rw [hx0] at e0 hroom HN
      rw [hx1] at e1 hroom HN hkm
      have ec := fun W => spec_EncodeChunk_any x0 x1 W (by unfold maxLen; omega)
      generalize encC x0 x1 = E at *
      have hno : ¬ 9223372036854775807 < out.size + E.size := by omega
      clear hx0 hx1 hkk hkq
      go_wp2_with (go_at_call 17; (with_reducible refine (ec _).mono ?_); rintro e w8 ⟨rfl, hx8⟩; replace FD := FD.below hx8 FD.lt; replace O2 : OO _ _ _ _ _ _ _ := OO.next O2 hx8; replace M2 : OO _ _ _ _ _ _ _ := OO.next M2 hx8; replace O7 : OO _ _ _ _ _ _ _ := OO.next O7 hx8; replace hB : BB w _ := BB.next hB hx8)
      go_roundw
      case rel => exact ⟨k + 1, out ++ E, by omega, rfl, by go_num, FD, O2, M2, O7, hB, HN⟩
      case measure => (simp [intOf] <;> omega)
    · have hd : decide ((k : Int) < (C.length : Int)) = false := decide_eq_false (by omega)
      have hend := skE_end hlt HI.out
      rw [skE_gone Q C 0 hck (Nat.zero_le _), Nat.sub_zero] at hend
      obtain ⟨L', N', hsa, hLn', hNn', hget⟩ := sgo' Q hQ0 hq2 out hend
      have hout : out.size ≤ 8192 := by
        have h1 := skE_le Q C 0 hck
        rw [skE_gone Q C 0 hck (Nat.zero_le _), Nat.sub_zero, ← hend, ← HSe.out, sz_list, sz_list] at h1
        omega
      have sa := fun W => impl_SalvageImage_any out W (by omega)
      rw [hsa] at sa
      simp only [hLn'] at sa
      have HLn := Lib.hid hLn'
      have HG := Lib.hid hget
      clear HI HSe sgo' hend hsa hget hLn' hck
      have hll : ((L.length : Int) != (L.length : Int)) = false := by simp
      have x0 : (_ : Option Value) = some (.int .i64 c) := FD.cell 0 (by simp)
      have x1 : (_ : Option Value) = some (.int .i64 h) := FD.cell 1 (by simp)
      have x2 : (_ : Option Value) = some (.int .i64 p) := FD.cell 2 (by simp)
      have x3 : (_ : Option Value) = some (.int .i64 s) := FD.cell 3 (by simp)
      have x4 : (_ : Option Value) = some (.slice A2 L.length c2) := FD.cell 4 (by simp)
      have x5 : (_ : Option Value) = some (.slice A3 M.length c3) := FD.cell 5 (by simp)
      go_wp2_with (go_at_call 13; (with_reducible refine (sa _).mono ?_); rintro e w8 ⟨v8, u8, rfl, O8, M8, -, hx8⟩; obtain ⟨A8, c8, rfl⟩ := own_form O8; obtain ⟨A9, c9, rfl⟩ := own_form M8; replace O8 : OO _ w.heap.size _ _ _ _ _ := own_base (base' := w.heap.size) (OOf O8) (Below.size hB); replace FD := FD.below hx8 FD.lt; replace O2 : OO _ _ _ _ _ _ _ := OO.next O2 hx8; replace M2 : OO _ _ _ _ _ _ _ := OO.next M2 hx8; replace hB : BB w _ := BB.next hB hx8; replace FD := FD.al (.cells #[.int .i64 c, .int .i64 h, .int .i64 p, .int .i64 s, .slice A8 L.length c8, .slice A9 N'.length c9] 29); replace O2 : OO _ _ _ _ _ _ _ := OO.al O2 (.cells #[.int .i64 c, .int .i64 h, .int .i64 p, .int .i64 s, .slice A8 L.length c8, .slice A9 N'.length c9] 29); replace M2 : OO _ _ _ _ _ _ _ := OO.al M2 (.cells #[.int .i64 c, .int .i64 h, .int .i64 p, .int .i64 s, .slice A8 L.length c8, .slice A9 N'.length c9] 29); replace hB : BB w _ := BB.al hB (.cells #[.int .i64 c, .int .i64 h, .int .i64 p, .int .i64 s, .slice A8 L.length c8, .slice A9 N'.length c9] 29); replace O7 : OO _ _ _ _ _ _ _ := OO.next O7 hx8; replace O7 : OO _ _ _ _ _ _ _ := OO.al O7 (.cells #[.int .i64 c, .int .i64 h, .int .i64 p, .int .i64 s, .slice A8 L.length c8, .slice A9 N'.length c9] 29); have FZ := BX.made w8 29 [.int .i64 c, .int .i64 h, .int .i64 p, .int .i64 s, .slice A8 L.length c8, .slice A9 N'.length c9]; replace O8 : OO _ _ _ _ _ _ _ := OO.al O8 (.cells #[.int .i64 c, .int .i64 h, .int .i64 p, .int .i64 s, .slice A8 L.length c8, .slice A9 N'.length c9] 29); clear x0 x1 x2 x3 x4 x5; have x0 : (_ : Option Value) = some (.int .i64 c) := FD.cell 0 (by simp); have x1 : (_ : Option Value) = some (.int .i64 h) := FD.cell 1 (by simp); have x2 : (_ : Option Value) = some (.int .i64 p) := FD.cell 2 (by simp); have x3 : (_ : Option Value) = some (.int .i64 s) := FD.cell 3 (by simp); have x4 : (_ : Option Value) = some (.slice A2 L.length c2) := FD.cell 4 (by simp); have x5 : (_ : Option Value) = some (.slice A3 M.length c3) := FD.cell 5 (by simp); have z0 : (_ : Option Value) = some (.int .i64 c) := FZ.cell 0 (by simp); have z1 : (_ : Option Value) = some (.int .i64 h) := FZ.cell 1 (by simp); have z2 : (_ : Option Value) = some (.int .i64 p) := FZ.cell 2 (by simp); have z3 : (_ : Option Value) = some (.int .i64 s) := FZ.cell 3 (by simp); have z4 : (_ : Option Value) = some (.slice A8 L.length c8) := FZ.cell 4 (by simp); have z5 : (_ : Option Value) = some (.slice A9 N'.length c9) := FZ.cell 5 (by simp); have mk9 := True.intro)
      clear x0 x1 x2 x3 x4 x5 z0 z1 z2 z3 z4 z5 sa M8 M2
      have hYX : w8.heap.size < (w8.alloc (.cells #[.int .i64 c, .int .i64 h, .int .i64 p, .int .i64 s, .slice A8 L.length c8, .slice A9 N'.length c9] 29)).heap.size := FZ.lt
      generalize w8.heap.size = Y at FZ O8 hYX ⊢
      generalize (w8.alloc (.cells #[.int .i64 c, .int .i64 h, .int .i64 p, .int .i64 s, .slice A8 L.length c8, .slice A9 N'.length c9] 29)) = w9 at FD FZ O2 O7 O8 hB hYX ⊢
      obtain ⟨bg, og, hbe, hbbg, hcc⟩ := (RR.own (OOf O7)).at_ fChunk_len rfl Q hq2
      have hg0 := hcc 0 _ (by omega) rfl
      have hg1 := hcc 1 _ (by omega) rfl
      clear hcc
      subst hbe
      simp only [← Nat.add_assoc, Nat.add_zero, Nat.zero_add] at hg0 hg1
      obtain ⟨gk, hgk⟩ : ∃ x, C[Q].f0 = x := ⟨_, rfl⟩
      obtain ⟨gd, hgd⟩ : ∃ x, C[Q].f1 = x := ⟨_, rfl⟩
      rw [hgk] at hg0
      rw [hgd] at hg1
      have hl1 : (gk == 2) = false → ∀ t, lostB C[Q] t = false := fun e t => lost_3 (by rw [hgk]; exact e)
      have hl2 : ¬ 0 < gd.size → ∀ t, lostB C[Q] t = false := fun e t => lost_2 (by rw [hgd]; exact e)
      have hl3 : ∀ t, ¬ bt gd 0 = t → lostB C[Q] t = false := fun t e => lost_1 (by rw [hgd]; exact e)
      clear hgk hgd
      have HL1 := Lib.hid hl1
      have HL2 := Lib.hid hl2
      have HL3 := Lib.hid hl3
      clear hl1 hl2 hl3
      obtain ⟨P, rfl⟩ : ∃ P : Nat, p = (P : Int) := ⟨p.toNat, by omega⟩
      rw [Int.toNat_natCast] at hpp HG
      go_loopw [15, 16] (fun i _ wr => ∃ k : Nat, k ≤ L.length ∧ i = .int .i64 (k : Int) ∧ BX wr X 29 [.int .i64 c, .int .i64 h, .int .i64 (P : Int), .int .i64 s, .slice A2 L.length c2, .slice A3 M.length c3] ∧ BX wr Y 29 [.int .i64 c, .int .i64 h, .int .i64 (P : Int), .int .i64 s, .slice A8 L.length c8, .slice A9 N'.length c9] ∧ OO wr w.heap.size 46 2 (.slice A2 L.length c2) L.length (flat fSector L) ∧ OO wr w.heap.size 46 2 (.slice A8 L.length c8) L.length (flat fSector L') ∧ wr.cell? ⟨bg, og + Q * 2, none⟩ = some (.int .i64 gk) ∧ wr.cell? ⟨bg, og + Q * 2 + 1, none⟩ = some (.string gd) ∧ BB w wr) (fun i _ _ => L.length - (intOf i).toNat)
      case atStart => exact ⟨0, Nat.zero_le _, rfl, FD, FZ, O2, O8, hg0, hg1, hB⟩
      case round =>
        clear FD FZ O2 O8 O7 hg0 hg1 hB
        obtain ⟨k, hk, rfl, FD, FZ, O2, O8, hg0, hg1, hB⟩ := hrel
        have x0 : (_ : Option Value) = some (.int .i64 c) := FD.cell 0 (by simp)
        have x1 : (_ : Option Value) = some (.int .i64 h) := FD.cell 1 (by simp)
        have x2 : (_ : Option Value) = some (.int .i64 (P : Int)) := FD.cell 2 (by simp)
        have x3 : (_ : Option Value) = some (.int .i64 s) := FD.cell 3 (by simp)
        have x4 : (_ : Option Value) = some (.slice A2 L.length c2) := FD.cell 4 (by simp)
        have x5 : (_ : Option Value) = some (.slice A3 M.length c3) := FD.cell 5 (by simp)
        have z0 : (_ : Option Value) = some (.int .i64 c) := FZ.cell 0 (by simp)
        have z1 : (_ : Option Value) = some (.int .i64 h) := FZ.cell 1 (by simp)
        have z2 : (_ : Option Value) = some (.int .i64 (P : Int)) := FZ.cell 2 (by simp)
        have z3 : (_ : Option Value) = some (.int .i64 s) := FZ.cell 3 (by simp)
        have z4 : (_ : Option Value) = some (.slice A8 L.length c8) := FZ.cell 4 (by simp)
        have z5 : (_ : Option Value) = some (.slice A9 N'.length c9) := FZ.cell 5 (by simp)
        by_cases hlt2 : k < L.length
        · have hd2 : decide ((k : Int) < (L.length : Int)) = true := decide_eq_true (by omega)
          have hki : (k : Int) < (L.length : Int) := by omega
          have hqi : (Q : Int) < (C.length : Int) := by omega
          obtain ⟨t, ht⟩ : ∃ t, k / P = t := ⟨_, rfl⟩
          have htd : (k : Int).tdiv (P : Int) = (t : Int) := by rw [← ht, Int.tdiv_eq_ediv_of_nonneg (by omega)]; rfl
          have hP0 : ¬ ((P : Int) = 0) := by omega
          have hkP : t ≤ k := by rw [← ht]; exact Nat.div_le_self k P
          have hwd : IntKind.i64.wrap (t : Int) = (t : Int) := IntWalk.i64_in _ (by omega)
          obtain ⟨ba, oa, hbe, hbba, hcc⟩ := (RR.own (OOf O2)).at_ fSector_len rfl k hlt2
          have a0 := hcc 0 _ (by omega) rfl
          have a1 := hcc 1 _ (by omega) rfl
          clear hcc
          subst hbe
          obtain ⟨bc, oc, hbe, hbbc, hcc⟩ := (RR.own (OOf O8)).at_ fSector_len HLn.out.symm k hlt2
          have c0 := hcc 0 _ (by omega) rfl
          have c1 := hcc 1 _ (by omega) rfl
          clear hcc
          subst hbe
          simp only [← Nat.add_assoc, Nat.add_zero, Nat.zero_add] at a0 a1 c0 c1
          have hLk' : k < L'.length := by rw [HLn.out]; exact hlt2
          have hsame : lostB C[Q] (k / P) = false → L'[k] = L[k] := fun e => by
            have := HG.out k hlt2 e
            rw [List.getElem?_eq_getElem hLk', List.getElem?_eq_getElem hlt2, Option.some.injEq] at this
            exact this
          have HS := Lib.hid hsame
          clear hsame
          rw [ht] at HS
          clear ht
          have kq1 : Try.prog.stoodInHeld 46 = false := by kernel_rfl
          have kq2 : Try.prog.eqGuardType Try.prog.depth 46 = false := by kernel_rfl
          cases b1 : (gk == 2)
          · have hs := HS.out (HL1.out b1 t)
            rw [hs] at c0 c1
            clear hs
            obtain ⟨dk, hdk⟩ : ∃ x, L[k].f0 = x := ⟨_, rfl⟩
            obtain ⟨sk, hsk⟩ : ∃ x, L[k].f1 = x := ⟨_, rfl⟩
            rw [hdk] at a0 c0
            rw [hsk] at a1 c1
            clear hdk hsk
            have ss0 : (dk.toList == dk.toList) = true := by simp
            have ss1 : (sk == sk) = true := by simp
            clear HS
            go_upto_region 23 with fail
            go_quiet (fail)
            go_upto_region 24 with fail
            go_quiet (fail)
            go_wp2_with fail
            go_roundw
            case rel => exact ⟨k + 1, by omega, by go_num, FD, FZ, O2, O8, hg0, hg1, BB.dn hB _⟩
            case measure => (simp [intOf] <;> omega)
          by_cases hgz : 0 < gd.size
          · have b2 : decide ((0 : Int) < (gd.size : Int)) = true := decide_eq_true (by omega)
            have hbte := bt_eq gd 0 hgz
            have hbtl := bt_lt gd 0
            have hwb : IntKind.i64.wrap ((gd[0]'hgz).toNat : Int) = ((gd[0]'hgz).toNat : Int) := IntWalk.i64_in _ (by have := (gd[0]'hgz).toNat_lt; omega)
            cases b3 : (((gd[0]'hgz).toNat : Int) == (t : Int))
            · have hs := HS.out (HL3.out t (by rw [← hbte]; have h9 : ¬ ((gd[0]'hgz).toNat : Int) = (t : Int) := by simpa using b3
                                               omega))
              rw [hs] at c0 c1
              clear hs
              obtain ⟨dk, hdk⟩ : ∃ x, L[k].f0 = x := ⟨_, rfl⟩
              obtain ⟨sk, hsk⟩ : ∃ x, L[k].f1 = x := ⟨_, rfl⟩
              rw [hdk] at a0 c0
              rw [hsk] at a1 c1
              clear hdk hsk
              have ss0 : (dk.toList == dk.toList) = true := by simp
              have ss1 : (sk == sk) = true := by simp
              clear HS hbte hbtl
              go_upto_region 23 with fail
              go_quiet (fail)
              go_upto_region 24 with fail
              go_quiet (fail)
              go_wp2_with fail
              go_roundw
              case rel => exact ⟨k + 1, by omega, by go_num, FD, FZ, O2, O8, hg0, hg1, BB.dn hB _⟩
              case measure => (simp [intOf] <;> omega)
            · clear HS hbte hbtl a0 a1 c0 c1
              go_upto_region 23 with fail
              go_quiet (fail)
              go_upto_region 24 with fail
              go_quiet (fail)
              go_wp2_with fail
              go_roundw
              case rel => exact ⟨k + 1, by omega, by go_num, FD, FZ, O2, O8, hg0, hg1, BB.dn hB _⟩
              case measure => (simp [intOf] <;> omega)
          · have b2 : decide ((0 : Int) < (gd.size : Int)) = false := decide_eq_false (by omega)
            have hs := HS.out (HL2.out hgz t)
            rw [hs] at c0 c1
            clear hs
            obtain ⟨dk, hdk⟩ : ∃ x, L[k].f0 = x := ⟨_, rfl⟩
            obtain ⟨sk, hsk⟩ : ∃ x, L[k].f1 = x := ⟨_, rfl⟩
            rw [hdk] at a0 c0
            rw [hsk] at a1 c1
            clear hdk hsk
            have ss0 : (dk.toList == dk.toList) = true := by simp
            have ss1 : (sk == sk) = true := by simp
            clear HS
            go_upto_region 23 with fail
            go_quiet (fail)
            go_upto_region 24 with fail
            go_quiet (fail)
            go_wp2_with fail
            go_roundw
            case rel => exact ⟨k + 1, by omega, by go_num, FD, FZ, O2, O8, hg0, hg1, BB.dn hB _⟩
            case measure => (simp [intOf] <;> omega)
        · have hd2 : decide ((k : Int) < (L.length : Int)) = false := decide_eq_false (by omega)
          go_wp2_with fail
          go_ret
          exact ⟨rfl, hB⟩
end Go.Proofs.Ytemppogailpoiaa
