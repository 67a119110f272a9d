/- Walks: the texts SDelta DelM PbM W14 W23 W24 W25 W26 W27 W28 UrM RuM RbM as one text. -/
import Derived.Test.YtemppogailpoiaaMem4
import Derived.Test.YtemppogailpoiaaW2
import Derived.Deep.DeepMust
import Derived.StillTailTactics
import Derived.OpenShut
import Derived.Test.YtemppogailpoiaaMark
import Derived.Lib.SmallJoins
import Derived.Test.YtemppogailpoiaaUnpM
import Derived.Test.YtemppogailpoiaaMem2
import Derived.Lib.LazyBuf
import Derived.Lib.Strings
import Derived.Test.YtemppogailpoiaaPkM
import Derived.Test.YtemppogailpoiaaW12
import Derived.Deep.QuietTactic
import Derived.BigQuiet
import Derived.Test.YtemppogailpoiaaMem3
namespace Go.Proofs.Ytemppogailpoiaa
set_option linter.unusedVariables false
open Go.RowKit Go.ChangeShapes Go.WideShapes Go.Deep

structure DDelta where
  f0 : Int
  f1 : ByteArray
def fDelta (x : DDelta) : List Value := [.int .i64 x.f0, .string x.f1]
theorem fDelta_len (x : DDelta) : (fDelta x).length = 2 := rfl
def vDelta (x : DDelta) : Value := .agg #[.int .i64 x.f0, .string x.f1]
def zDelta (x : DDelta) : List Nat := [x.f1.size]
def okDelta (x : DDelta) : Prop := x.f1.size ≤ maxLen ∧ (-9223372036854775808 ≤ x.f0 ∧ x.f0 ≤ 9223372036854775807)

def tzDelta (l : List DDelta) : List Nat := l.length :: (l.map zDelta).flatten
theorem zDelta_drop (l : List DDelta) (k : Nat) (hk : k < l.length) : ((l.drop k).map zDelta).flatten = zDelta l[k] ++ ((l.drop (k + 1)).map zDelta).flatten := by
  rw [List.drop_eq_getElem_cons hk, List.map_cons, List.flatten_cons]
def mqDelta (q : Nat) : DDelta := ⟨(q : Int), mtxt (q + 1)⟩
def mksDelta (k m : Nat) : List DDelta := (List.range m).map fun i => mqDelta (k + 2 * i)
theorem mksDelta_len (k m : Nat) : (mksDelta k m).length = m := by simp [mksDelta]
theorem mksDelta_succ (k m : Nat) : mksDelta k (m + 1) = mksDelta k m ++ [mqDelta (k + 2 * m)] := by simp [mksDelta, List.range_succ]
theorem mksDelta_get (k m i : Nat) (h : i < (mksDelta k m).length) : (mksDelta k m)[i] = mqDelta (k + 2 * i) := by simp [mksDelta]
theorem mksDelta_put (k m : Nat) (l : List DDelta) (h : m < l.length) : putV (flat fDelta (mksDelta k m ++ l.drop m)) (m * 2) (fDelta (mqDelta (k + 2 * m))) = flat fDelta (mksDelta k (m + 1) ++ l.drop (m + 1)) := by
  have := flat_put fDelta 2 fDelta_len (mksDelta k m) (l.drop (m + 1)) l[m] (mqDelta (k + 2 * m))
  rw [mksDelta_len] at this
  rw [List.drop_eq_getElem_cons h, this, mksDelta_succ, List.append_assoc]
  rfl

end Go.Proofs.Ytemppogailpoiaa
namespace Go.Proofs.Ytemppogailpoiaa
set_option linter.unusedVariables false
open Go.RowKit

theorem seg_eq (s : ByteArray) (a b : Nat) : seg s a b = (s.data.toList.drop a).take (b - a) := by
  unfold seg
  rw [ByteArray.data_extract, Array.toList_extract]
theorem seg_take (s : ByteArray) (a b n : Nat) (h : a + n ≤ b) : (seg s a b).take n = seg s a (a + n) := by
  rw [seg_eq, seg_eq, List.take_take]
  congr 1
  omega
theorem seg_drop (s : ByteArray) (a b n : Nat) (h : a + n ≤ b) : (seg s a b).drop n = seg s (a + n) b := by
  rw [seg_eq, seg_eq, List.drop_take, List.drop_drop]
  congr 1
  omega
theorem seg_all (s : ByteArray) : seg s 0 s.size = s.data.toList := by
  rw [seg_eq, List.drop_zero, List.take_of_length_le]
  rw [Array.length_toList]
  exact Nat.le_refl _

theorem emp_yes (s : ByteArray) (h : s.size = 0) : s.toList.isEmpty = true ∧ s.toList = [] := by
  have : s.toList = [] := by
    rw [Lib.toList_data]
    exact List.eq_nil_of_length_eq_zero (by rw [Array.length_toList]; exact h)
  rw [this]
  exact ⟨rfl, rfl⟩
theorem emp_no (s : ByteArray) (h : ¬ s.size = 0) : s.toList.isEmpty = false ∧ ¬ s.toList = [] := by
  have : ¬ s.toList = [] := by
    rw [Lib.toList_data]
    intro h'
    have := congrArg List.length h'
    rw [Array.length_toList] at this
    exact h this
  exact ⟨by simpa using this, this⟩

/-- Put the list of differences on s, from byte at_ on, behind 'out'. -/
def apG (s : ByteArray) : List DDelta → Nat → List UInt8 → Option (List UInt8)
  | [], at_, out => some (out ++ seg s at_ s.size)
  | d :: r, at_, out =>
    if d.f1.size = 0 ∨ inB d.f0 at_ ((s.size : Int) - d.f1.size) = false then none
    else apG s r (d.f0.toNat + d.f1.size) (out ++ seg s at_ d.f0.toNat ++ d.f1.data.toList)
def apD (s : ByteArray) (l : List DDelta) : Option (List UInt8) := if 4096 < s.size then none else apG s l 0 []
theorem apD_big (s : ByteArray) (l : List DDelta) (h : 4096 < s.size) : apD s l = none := if_pos h
theorem apD_small (s : ByteArray) (l : List DDelta) (h : ¬ 4096 < s.size) : apG s (l.drop 0) 0 [] = apD s l := (if_neg h).symm
theorem apG_end (s : ByteArray) (l : List DDelta) (k at_ : Nat) (out : List UInt8) {R : Option (List UInt8)} (hk : ¬ k < l.length) (h : apG s (l.drop k) at_ out = R) : R = some (out ++ seg s at_ s.size) := by
  rw [List.drop_eq_nil_of_le (by omega)] at h
  exact h.symm
theorem apG_bad (s : ByteArray) (l : List DDelta) (k at_ : Nat) (out : List UInt8) {R : Option (List UInt8)} (hk : k < l.length) (hb : l[k].f1.size = 0 ∨ inB l[k].f0 at_ ((s.size : Int) - l[k].f1.size) = false) (h : apG s (l.drop k) at_ out = R) : R = none := by
  rw [List.drop_eq_getElem_cons hk, apG, if_pos hb] at h
  exact h.symm
theorem apG_go (s : ByteArray) (l : List DDelta) (k at_ : Nat) (out : List UInt8) {R : Option (List UInt8)} (hk : k < l.length) (h0 : ¬ l[k].f1.size = 0) (hb : inB l[k].f0 at_ ((s.size : Int) - l[k].f1.size) = true) (h : apG s (l.drop k) at_ out = R) :
    apG s (l.drop (k + 1)) (l[k].f0.toNat + l[k].f1.size) (out ++ seg s at_ l[k].f0.toNat ++ l[k].f1.data.toList) = R := by
  rw [List.drop_eq_getElem_cons hk, apG, if_neg (by simp [h0, hb])] at h
  exact h
theorem inB_in {x lo hi : Int} (h : inB x lo hi = true) : lo ≤ x ∧ x ≤ hi := by unfold inB at h; simpa using h
theorem apG_splice (s d : ByteArray) (at_ p : Nat) (out : List UInt8) (hl : out.length = at_) (h1 : at_ ≤ p) (h2 : p + d.size ≤ s.size) :
    (out ++ seg s at_ s.size).take p ++ d.data.toList ++ (out ++ seg s at_ s.size).drop (p + d.size) = (out ++ seg s at_ p ++ d.data.toList) ++ seg s (p + d.size) s.size := by
  have e1 : (out ++ seg s at_ s.size).take p = out ++ seg s at_ p := by
    rw [List.take_append, List.take_of_length_le (by omega), hl, seg_take s _ _ _ (by omega)]
    congr 2
    omega
  have e2 : (out ++ seg s at_ s.size).drop (p + d.size) = seg s (p + d.size) s.size := by
    rw [List.drop_append, List.drop_of_length_le (by omega), hl, seg_drop s _ _ _ (by omega), List.nil_append]
    congr 1
    omega
  rw [e1, e2]

def putL (l : List UInt8) : Nat → List UInt8 → List UInt8
  | _, [] => l
  | o, b :: r => putL (l.set o b) (o + 1) r
theorem putL_eq : ∀ (bs l : List UInt8) (o : Nat), o + bs.length ≤ l.length → putL l o bs = l.take o ++ bs ++ l.drop (o + bs.length)
  | [], l, o, _ => by simp [putL]
  | b :: r, l, o, h => by
    simp only [List.length_cons] at h
    have hlt : o < l.length := by omega
    rw [putL, putL_eq r _ _ (by rw [List.length_set]; omega), take_set_succ _ _ _ hlt, List.drop_set_of_lt (by omega)]
    simp only [List.append_assoc, List.cons_append, List.nil_append, List.length_cons]
    rw [show o + 1 + r.length = o + (r.length + 1) by omega]

section
variable {P : Program} {w : World} {e : TypeId}
theorem MarkB.setCells {g : Nat} : ∀ (bs : List UInt8) (o : Nat) (w : World) (l : List UInt8), MarkB w g e l → MarkB (w.setCells g o (bs.map fun x => Value.int .u8 (x.toNat : Int))) g e (putL l o bs)
  | [], _, _, _, h => h
  | b :: r, o, w, l, h => MarkB.setCells r (o + 1) _ _ (h.set_ o b _ rfl)
theorem setCells_other (g : Nat) : ∀ (vs : List Value) (o : Nat) (w : World) (q : Addr), q.block ≠ g → (w.setCells g o vs).cell? q = w.cell? q
  | [], _, _, _, _ => rfl
  | v :: r, o, w, q, h => (setCells_other g r (o + 1) _ q h).trans (World.cell?_setCell_other w _ q v (fun e => by subst e; exact h rfl))
theorem MarkB.copyS {g : Nat} {l : List UInt8} (hm : MarkB w g e l) (dT sT ty : TypeId) (E : Elt P dT e 1 1 (.int .u8 0)) (off : Nat) (str : ByteArray) (hfit : off + str.size ≤ l.length) (dLen dCap : Nat) (hle : str.size ≤ dLen) (B : Nat) (hB : B ≤ g) :
    ∃ w', (Builtin.copy_ #[dT, sT] ty #[.slice (some ⟨g, off, none⟩) dLen dCap, .string str]).run P w = .ok (goInt str.size) w' ∧
      MarkB w' g e (l.take off ++ str.data.toList ++ l.drop (off + str.size)) ∧ Below B w w' ∧ ∀ q : Addr, q.block ≠ g → w'.cell? q = w.cell? q := by
  obtain ⟨ht, ⟨i, hi, hz, hsize, hby⟩, hzs, hsz⟩ := E
  have hstr : str.data.toList.length = str.size := by rw [Array.length_toList]; rfl
  refine ⟨_, Go.run_copy_string (P := P) w dT sT ty e g off dLen dCap str ht (fun W => by simp [sizeOf, typeInfo, hi, hsize]) hle (fun j hj => ?_) (fun j hj => ?_), ?_, Go.below_setCells hB _ _ _ (Below.refl _ _), fun q hq => setCells_other g _ _ _ q hq⟩
  · rw [hm.cell (off + j) (by omega)]
    rfl
  · exact hm.free (off + j) (by omega)
  · have := MarkB.setCells str.data.toList off w l hm
    rw [putL_eq _ _ _ (by omega), hstr] at this
    exact this
theorem wpList_copyM {ops : Array Oper} {rest : List Oper} {o : Oper} {a : Act} {Q : Exit → Act → World → Prop} (hgd : o.guard = none) (d x : Operand) (t tx : TypeId)
    (ho : o.op = .call { callee := .builtin .copy, args := #[d, x], argTypes := #[t, tx] }) (E : Elt P t e 1 1 (.int .u8 0))
    {g : Nat} {l : List UInt8} (hm : MarkB w g e l) (off dLen dCap : Nat) (hd : a.eval d = .slice (some ⟨g, off, none⟩) dLen dCap) (str : ByteArray) (hx : a.eval x = .string str)
    (hfit : off + str.size ≤ l.length) (hle : str.size ≤ dLen) (B : Nat) (hB : B ≤ g)
    (h : ∀ w', MarkB w' g e (l.take off ++ str.data.toList ++ l.drop (off + str.size)) → Below B w w' → (∀ q : Addr, q.block ≠ g → w'.cell? q = w.cell? q) → wpList P ops Q rest (a.put o.dst (goInt str.size)) w') :
    wpList P ops Q (o :: rest) a w := by
  refine wpList_plain hgd fun K hK => ?_
  obtain ⟨w', hr, h2, h3, h4⟩ := hm.copyS (P := P) t tx o.type E off str hfit dLen dCap hle B hB
  unfold Oper.wp execOp
  simp only [ho, resolve, invoke, builtin, Sem.run_bind, Sem.run_pure, Result.andThen_ok, List.map_toArray, List.map_cons, List.map_nil, hd, hx, hr]
  exact hK _ _ (h w' h2 h3 h4)
end
end Go.Proofs.Ytemppogailpoiaa
namespace Go.Proofs.Ytemppogailpoiaa
set_option linter.unusedVariables false
open Go.RowKit

/-- How far the text from at_ on equals the text d bytes before it: from n on, at most 'most'. -/
def mat (s : ByteArray) (at_ d most n : Nat) : Nat := if h : n < most ∧ bt s (at_ + n) = bt s (at_ + n - d) then mat s at_ d most (n + 1) else n
termination_by most - n
theorem mat_yes (s : ByteArray) (at_ d most n : Nat) (h : n < most) (he : bt s (at_ + n) = bt s (at_ + n - d)) : mat s at_ d most n = mat s at_ d most (n + 1) := by rw [mat, dif_pos ⟨h, he⟩]
theorem mat_ne (s : ByteArray) (at_ d most n : Nat) (he : ¬ bt s (at_ + n) = bt s (at_ + n - d)) : mat s at_ d most n = n := by rw [mat, dif_neg (fun h => he h.2)]
theorem mat_end (s : ByteArray) (at_ d most n : Nat) (h : ¬ n < most) : mat s at_ d most n = n := by rw [mat, dif_neg (fun h' => h h'.1)]
theorem mat_le (s : ByteArray) (at_ d most : Nat) : ∀ f n, most - n ≤ f → n ≤ most → n ≤ mat s at_ d most n ∧ mat s at_ d most n ≤ most
  | 0, n, h, hn => by rw [mat_end s at_ d most n (by omega)]; omega
  | f + 1, n, h, hn => by
    by_cases hlt : n < most
    · by_cases he : bt s (at_ + n) = bt s (at_ + n - d)
      · have := mat_le s at_ d most f (n + 1) (by omega) (by omega)
        rw [mat_yes s at_ d most n hlt he]
        omega
      · rw [mat_ne s at_ d most n he]; omega
    · rw [mat_end s at_ d most n hlt]; omega
def ml (s : ByteArray) (at_ d most : Nat) : Nat := mat s at_ d most 0
theorem ml_le (s : ByteArray) (at_ d most : Nat) : ml s at_ d most ≤ most := (mat_le s at_ d most most 0 (by omega) (by omega)).2

/-- The best of the distances d .. D. -/
def bestR (s : ByteArray) (at_ most D d best far : Nat) : Nat × Nat :=
  if h : d ≤ D then (if best < ml s at_ d most then bestR s at_ most D (d + 1) (ml s at_ d most) d else bestR s at_ most D (d + 1) best far) else (best, far)
termination_by D + 1 - d
theorem bestR_end (s : ByteArray) (at_ most D d best far : Nat) {R : Nat × Nat} (h : ¬ d ≤ D) (hr : bestR s at_ most D d best far = R) : R = (best, far) := by
  rw [bestR, dif_neg h] at hr
  exact hr.symm
theorem bestR_better (s : ByteArray) (at_ most D d best far : Nat) {R : Nat × Nat} (h : d ≤ D) (n : Nat) (hn : n = ml s at_ d most) (hb : best < n) (hr : bestR s at_ most D d best far = R) : bestR s at_ most D (d + 1) n d = R := by
  subst hn
  rw [bestR, dif_pos h, if_pos hb] at hr
  exact hr
theorem bestR_not (s : ByteArray) (at_ most D d best far : Nat) {R : Nat × Nat} (h : d ≤ D) (n : Nat) (hn : n = ml s at_ d most) (hb : ¬ best < n) (hr : bestR s at_ most D d best far = R) : bestR s at_ most D (d + 1) best far = R := by
  subst hn
  rw [bestR, dif_pos h, if_neg hb] at hr
  exact hr
theorem bestR_full (s : ByteArray) (at_ most D : Nat) : ∀ f d best far, D + 1 - d ≤ f → most ≤ best → bestR s at_ most D d best far = (best, far)
  | 0, d, best, far, h, hb => by rw [bestR, dif_neg (by omega)]
  | f + 1, d, best, far, h, hb => by
    by_cases hd : d ≤ D
    · have := ml_le s at_ d most
      rw [bestR, dif_pos hd, if_neg (by omega)]
      exact bestR_full s at_ most D f (d + 1) best far (by omega) hb
    · rw [bestR, dif_neg hd]
theorem bestR_full' (s : ByteArray) (at_ most D d best far : Nat) {R : Nat × Nat} (h : ¬ best < most) (hr : bestR s at_ most D d best far = R) : R = (best, far) := by
  rw [bestR_full s at_ most D (D + 1) d best far (by omega) (by omega)] at hr
  exact hr.symm
theorem bestR_bd (s : ByteArray) (at_ most D : Nat) : ∀ f d best far, D + 1 - d ≤ f → best ≤ most → far ≤ D → (bestR s at_ most D d best far).1 ≤ most ∧ (bestR s at_ most D d best far).2 ≤ D
  | 0, d, best, far, h, hb, hf => by rw [bestR, dif_neg (by omega)]; exact ⟨hb, hf⟩
  | f + 1, d, best, far, h, hb, hf => by
    by_cases hd : d ≤ D
    · have := ml_le s at_ d most
      rw [bestR, dif_pos hd]
      split
      · exact bestR_bd s at_ most D f (d + 1) _ d (by omega) this hd
      · exact bestR_bd s at_ most D f (d + 1) best far (by omega) hb hf
    · rw [bestR, dif_neg hd]; exact ⟨hb, hf⟩
def mostAt (s : ByteArray) (at_ : Nat) : Nat := min 130 (s.size - at_)
def farAt (at_ : Nat) : Nat := min 255 at_
def refer (s : ByteArray) (at_ : Nat) : Nat × Nat := bestR s at_ (mostAt s at_) (farAt at_) 1 0 0
theorem refer_bd (s : ByteArray) (at_ : Nat) : (refer s at_).1 ≤ mostAt s at_ ∧ (refer s at_).2 ≤ farAt at_ := bestR_bd s at_ _ _ (farAt at_ + 1) 1 0 0 (by omega) (by omega) (by omega)

/-- Bytes that stand for themselves. -/
def plL (l : List UInt8) : List UInt8 := if h : l = [] then [] else UInt8.ofNat (min l.length 128 - 1) :: (l.take (min l.length 128) ++ plL (l.drop (min l.length 128)))
termination_by l.length
decreasing_by
  have : 0 < l.length := List.length_pos_iff.2 h
  rw [List.length_drop]
  omega
theorem plL_nil : plL [] = [] := by rw [plL, dif_pos rfl]
theorem plL_step (l : List UInt8) (n : Nat) (h : 0 < l.length) (hn : n = min l.length 128) : plL l = UInt8.ofNat (n - 1) :: (l.take n ++ plL (l.drop n)) := by
  subst hn
  have : l ≠ [] := List.length_pos_iff.1 h
  rw [plL, dif_neg this]
theorem plL_len : ∀ (f : Nat) (l : List UInt8), l.length ≤ f → (plL l).length ≤ 2 * l.length
  | 0, l, h => by
    have : l = [] := List.eq_nil_of_length_eq_zero (by omega)
    subst this
    rw [plL_nil]
    simp
  | f + 1, l, h => by
    by_cases h0 : 0 < l.length
    · have := plL_len f (l.drop (min l.length 128)) (by rw [List.length_drop]; omega)
      rw [plL_step l _ h0 rfl, List.length_cons, List.length_append, List.length_take]
      rw [List.length_drop] at this
      omega
    · have : l = [] := List.eq_nil_of_length_eq_zero (by omega)
      subst this
      rw [plL_nil]
      simp

/-- Packed from at_ on; from 'from_' on nothing is written yet. -/
def pbG (s : ByteArray) (at_ from_ : Nat) (out : List UInt8) : List UInt8 :=
  if h : at_ < s.size then
    (if h3 : (refer s at_).1 < 3 then pbG s (at_ + 1) from_ out
     else pbG s (at_ + (refer s at_).1) (at_ + (refer s at_).1) (out ++ plL (seg s from_ at_) ++ [UInt8.ofNat ((refer s at_).1 + 125), UInt8.ofNat (refer s at_).2]))
  else out ++ plL (seg s from_ s.size)
termination_by s.size - at_
theorem pbG_end (s : ByteArray) (at_ from_ : Nat) (out R : List UInt8) (h : ¬ at_ < s.size) (hr : pbG s at_ from_ out = R) : R = out ++ plL (seg s from_ s.size) := by
  rw [pbG, dif_neg h] at hr
  exact hr.symm
theorem pbG_skip (s : ByteArray) (at_ from_ : Nat) (out R : List UInt8) (h : at_ < s.size) (n d : Nat) (hnd : refer s at_ = (n, d)) (h3 : n < 3) (hr : pbG s at_ from_ out = R) : pbG s (at_ + 1) from_ out = R := by
  rw [pbG, dif_pos h, hnd, dif_pos h3] at hr
  exact hr
theorem pbG_ref (s : ByteArray) (at_ from_ : Nat) (out R : List UInt8) (h : at_ < s.size) (n d : Nat) (hnd : refer s at_ = (n, d)) (h3 : ¬ n < 3) (hr : pbG s at_ from_ out = R) :
    pbG s (at_ + n) (at_ + n) ((out ++ plL (seg s from_ at_)) ++ [UInt8.ofNat (n + 125), UInt8.ofNat d]) = R := by
  rw [pbG, dif_pos h, hnd, dif_neg h3] at hr
  exact hr
def packB (s : ByteArray) : Option (List UInt8) := if 4096 < s.size then none else some (pbG s 0 0 [])
theorem packB_no (s : ByteArray) (h : 4096 < s.size) : packB s = none := if_pos h
theorem packB_yes (s : ByteArray) (h : ¬ 4096 < s.size) : packB s = some (pbG s 0 0 []) := if_neg h
end Go.Proofs.Ytemppogailpoiaa
namespace Go.Proofs.Ytemppogailpoiaa
set_option linter.unusedVariables false
open Go.RowKit

theorem spec_cells2 (a b : Nat) (x y : Int) (hx : x = a) (hy : y = b) (ha : a < 256) (hb : b < 256) : (#[Value.int .u8 x, Value.int .u8 y] : Array Value).toList = bcells [UInt8.ofNat a, UInt8.ofNat b] := by
  subst hx hy
  simp only [bcells, List.map_cons, List.map_nil, ofNat_lt a ha, ofNat_lt b hb]
theorem spec_cells1 (a : Nat) (x : Int) (hx : x = a) (ha : a < 256) : (#[Value.int .u8 x] : Array Value).toList = bcells [UInt8.ofNat a] := by
  subst hx
  simp only [bcells, List.map_cons, List.map_nil, ofNat_lt a ha]

end Go.Proofs.Ytemppogailpoiaa
namespace Go.Proofs.Ytemppogailpoiaa
set_option linter.unusedVariables false
open Go.RowKit

set_option maxRecDepth 100000 in
set_option maxHeartbeats 1000000 in
theorem l14Match_any (s : ByteArray) (at_ : Nat) (w : World) (hs : s.size ≤ 1048576) (hat : at_ < s.size) :
    Calls Try.prog 93 #[.string s, .int .i64 (at_ : Int)] w fun e w' => e = .returned (.tuple #[.int .i64 ((refer s at_).1 : Int), .int .i64 ((refer s at_).2 : Int)]) ∧ ∃ n, w' = w.drewN n := by
  have hM : mostAt s at_ = min 130 (s.size - at_) := rfl
  have HR0 := Lib.hid (show bestR s at_ (mostAt s at_) (farAt at_) 1 0 0 = refer s at_ from rfl)
  generalize hr : refer s at_ = R at HR0
  obtain ⟨r1, r2⟩ := R
  generalize mostAt s at_ = most at hM HR0
  have hF : farAt at_ = min 255 at_ := rfl
  generalize farAt at_ = D at hF HR0
  clear hr
  go_enter Try.func93, Try.ntmps93
  go_wp2
  go_loopw [6, 7, 8, 9] (fun bv fv dv _ wr => ∃ (d best far q : Nat), 1 ≤ d ∧ d ≤ 256 ∧ d ≤ at_ + 1 ∧ best ≤ 130 ∧ far ≤ 256 ∧ bv = .int .i64 best ∧ fv = .int .i64 far ∧ dv = .int .i64 d ∧ wr = w.drewN q ∧ Hid (bestR s at_ most D d best far = (r1, r2))) (fun _ _ dv _ _ => 300 - (intOf dv).toNat)
  case atStart => exact ⟨1, 0, 0, 0, by omega, by omega, by omega, by omega, by omega, rfl, rfl, rfl, rfl, HR0⟩
  case round =>
    obtain ⟨d, best, far, q, hd1, hd2, hd3, hb1, hf1, rfl, rfl, rfl, rfl, HI⟩ := hrel
    by_cases hdl : d ≤ 255 ∧ d ≤ at_
    · obtain ⟨i1, i2⟩ := hdl
      have hdD : d ≤ D := by omega
      have gd1 : (d : Int) ≤ 255 := by omega
      have gd2 : (d : Int) ≤ at_ := by omega
      go_wp2
      go_loopw [9] (fun j wr' => ∃ n q' : Nat, n ≤ 130 ∧ at_ + n ≤ s.size ∧ j = .int .i64 n ∧ wr' = w.drewN q' ∧ Hid (mat s at_ d most n = ml s at_ d most)) (fun j _ => 130 - (intOf j).toNat)
      case atStart => exact ⟨0, q, by omega, by omega, rfl, rfl, Lib.hid rfl⟩
      case round =>
        obtain ⟨n, q', hn, hn2, rfl, rfl, HL⟩ := hrel
        have hw1 : IntKind.i64.wrap ((at_ : Int) + n) = (at_ : Int) + n := IntWalk.i64_in _ (by omega)
        by_cases hl1 : n < 130
        · by_cases hl2 : at_ + n < s.size
          · have ea := bt_eq s (at_ + n) hl2
            have eb := bt_eq s (at_ + n - d) (by omega)
            have hba := bt_lt s (at_ + n)
            have hbb := bt_lt s (at_ + n - d)
            have k1 : (n : Int) < 130 := by omega
            have k2 : (at_ : Int) + n < s.size := by omega
            have k3 : (0 : Int) ≤ (at_ : Int) + n := by omega
            have k4 : (0 : Int) ≤ (at_ : Int) + n - d := by omega
            have k5 : (at_ : Int) + n - d < s.size := by omega
            by_cases heq : bt s (at_ + n) = bt s (at_ + n - d)
            · have HN := Lib.hid ((mat_yes s at_ d most n (by omega) heq).symm.trans HL.out)
              have g1 : (((bt s (at_ + n) : Nat) : Int) == ((bt s (at_ + n - d) : Nat) : Int)) = true := by simp; omega
              have g2 : (bt s (at_ + n) == bt s (at_ + n - d)) = true := by simp; omega
              clear heq
              have hw2 : IntKind.i64.wrap ((at_ : Int) + n - d) = (at_ : Int) + n - d := IntWalk.i64_in _ (by omega)
              have hw3 : ((at_ : Int) + n).toNat = at_ + n := by omega
              have hw4 : ((at_ : Int) + n - d).toNat = at_ + n - d := by omega
              go_wp2_with fail
              go_quiet (fail)
              clear ea eb hw1 hw2 hw3 hw4
              go_wp2
              go_roundw
              case rel => exact ⟨n + 1, _, by omega, by omega, by go_num, rfl, HN⟩
              case measure => (simp [intOf] <;> omega)
            · have HD := Lib.hid ((mat_ne s at_ d most n heq).symm.trans HL.out)
              have g1 : (((bt s (at_ + n) : Nat) : Int) == ((bt s (at_ + n - d) : Nat) : Int)) = false := by simp; omega
              have g2 : (bt s (at_ + n) == bt s (at_ + n - d)) = false := by simp; omega
              clear heq
              have hw2 : IntKind.i64.wrap ((at_ : Int) + n - d) = (at_ : Int) + n - d := IntWalk.i64_in _ (by omega)
              have hw3 : ((at_ : Int) + n).toNat = at_ + n := by omega
              have hw4 : ((at_ : Int) + n - d).toNat = at_ + n - d := by omega
              rcases Nat.lt_or_ge best n with hbn | hbn
              · have HN := Lib.hid (bestR_better s at_ most D d best far hdD n HD.out hbn HI.out)
                have gb1 : (best : Int) < n := by omega
                go_wp2_with fail
                go_quiet (fail)
                clear ea eb hw1 hw2 hw3 hw4
                go_wp2
                go_roundw
                case rel => exact ⟨d + 1, n, d, _, by omega, by omega, by omega, by omega, by omega, rfl, rfl, by go_num, rfl, HN⟩
                case measure => (simp [intOf] <;> omega)
              · have HN := Lib.hid (bestR_not s at_ most D d best far hdD n HD.out (by omega) HI.out)
                have gb1 : decide ((best : Int) < n) = false := by simp; omega
                have gb2 : decide (best < n) = false := by simp; omega
                clear hbn
                go_wp2_with fail
                go_quiet (fail)
                clear ea eb hw1 hw2 hw3 hw4
                go_wp2
                go_roundw
                case rel => exact ⟨d + 1, best, far, _, by omega, by omega, by omega, by omega, by omega, rfl, rfl, by go_num, rfl, HN⟩
                case measure => (simp [intOf] <;> omega)
          · have HD := Lib.hid ((mat_end s at_ d most n (by omega)).symm.trans HL.out)
            have k1 : (n : Int) < 130 := by omega
            have k2 : decide ((at_ : Int) + n < s.size) = false := by simp; omega
            have hw3 : ((at_ : Int) + n).toNat = at_ + n := by omega
            rcases Nat.lt_or_ge best n with hbn | hbn
            · have HN := Lib.hid (bestR_better s at_ most D d best far hdD n HD.out hbn HI.out)
              have gb1 : (best : Int) < n := by omega
              go_wp2_with fail
              go_quiet (fail)
              clear hw1 hw3
              go_wp2
              go_roundw
              case rel => exact ⟨d + 1, n, d, _, by omega, by omega, by omega, by omega, by omega, rfl, rfl, by go_num, rfl, HN⟩
              case measure => (simp [intOf] <;> omega)
            · have HN := Lib.hid (bestR_not s at_ most D d best far hdD n HD.out (by omega) HI.out)
              have gb1 : decide ((best : Int) < n) = false := by simp; omega
              have gb2 : decide (best < n) = false := by simp; omega
              clear hbn
              go_wp2_with fail
              go_quiet (fail)
              clear hw1 hw3
              go_wp2
              go_roundw
              case rel => exact ⟨d + 1, best, far, _, by omega, by omega, by omega, by omega, by omega, rfl, rfl, by go_num, rfl, HN⟩
              case measure => (simp [intOf] <;> omega)
        · have HD := Lib.hid ((mat_end s at_ d most n (by omega)).symm.trans HL.out)
          have k1 : decide ((n : Int) < 130) = false := by simp; omega
          have k2 : ¬ (n : Int) < 130 := by omega
          rcases Nat.lt_or_ge best n with hbn | hbn
          · have HN := Lib.hid (bestR_better s at_ most D d best far hdD n HD.out hbn HI.out)
            have gb1 : (best : Int) < n := by omega
            go_wp2_with fail
            go_quiet (fail)
            clear hw1
            go_wp2
            go_roundw
            case rel => exact ⟨d + 1, n, d, _, by omega, by omega, by omega, by omega, by omega, rfl, rfl, by go_num, rfl, HN⟩
            case measure => (simp [intOf] <;> omega)
          · have HN := Lib.hid (bestR_not s at_ most D d best far hdD n HD.out (by omega) HI.out)
            have gb1 : decide ((best : Int) < n) = false := by simp; omega
            have gb2 : decide (best < n) = false := by simp; omega
            clear hbn
            go_wp2_with fail
            go_quiet (fail)
            clear hw1
            go_wp2
            go_roundw
            case rel => exact ⟨d + 1, best, far, _, by omega, by omega, by omega, by omega, by omega, rfl, rfl, by go_num, rfl, HN⟩
            case measure => (simp [intOf] <;> omega)
    · have HR := Lib.hid (bestR_end s at_ most D d best far (by omega) HI.out)
      by_cases h255 : d ≤ 255
      · have gd1 : (d : Int) ≤ 255 := by omega
        have gd2 : decide ((d : Int) ≤ at_) = false := by simp; omega
        have gd3 : decide (d ≤ at_) = false := by simp; omega
        go_wp2
        go_ret2
        exact ⟨by cases HR.out; rfl, _, rfl⟩
      · have gd2 : decide ((d : Int) ≤ 255) = false := by simp; omega
        go_wp2
        go_ret2
        exact ⟨by cases HR.out; rfl, _, rfl⟩
end Go.Proofs.Ytemppogailpoiaa
namespace Go.Proofs.Ytemppogailpoiaa
set_option linter.unusedVariables false
open Go.RowKit

set_option maxRecDepth 100000 in
set_option maxHeartbeats 1000000 in
theorem reference_a (s : ByteArray) (at_ : Nat) (w : World) (hm1 : (130 : Int) ≤ (s.size : Int) - at_) (hf1 : (255 : Int) ≤ at_) (hs : s.size ≤ 1048576) (hat : at_ < s.size) :
    Calls Try.prog 90 #[.string s, .int .i64 (at_ : Int)] w fun e w' => e = .returned (.tuple #[.int .i64 ((refer s at_).1 : Int), .int .i64 ((refer s at_).2 : Int)]) ∧ ∃ n, w' = w.drewN n := by
  have hM : mostAt s at_ = min 130 (s.size - at_) := rfl
  have HR0 := Lib.hid (show bestR s at_ (mostAt s at_) (farAt at_) 1 0 0 = refer s at_ from rfl)
  generalize hr : refer s at_ = R at HR0
  obtain ⟨r1, r2⟩ := R
  generalize mostAt s at_ = most at hM HR0
  obtain rfl : most = 130 := by omega
  have hF : farAt at_ = min 255 at_ := rfl
  generalize farAt at_ = D at hF HR0
  clear hr
  go_enter Try.func90, Try.ntmps90
  go_wp2
  go_loopw [7, 8, 9, 10] (fun bv fv dv _ wr => ∃ (d best far q : Nat), 1 ≤ d ∧ d ≤ 256 ∧ d ≤ at_ + 1 ∧ best ≤ 130 ∧ far ≤ 256 ∧ bv = .int .i64 best ∧ fv = .int .i64 far ∧ dv = .int .i64 d ∧ wr = w.drewN q ∧ Hid (bestR s at_ 130 D d best far = (r1, r2))) (fun _ _ dv _ _ => 300 - (intOf dv).toNat)
  case atStart => exact ⟨1, 0, 0, 0, by omega, by omega, by omega, by omega, by omega, rfl, rfl, rfl, rfl, HR0⟩
  case round =>
    obtain ⟨d, best, far, q, hd1, hd2, hd3, hb1, hf1, rfl, rfl, rfl, rfl, HI⟩ := hrel
    by_cases hdl : d ≤ D ∧ best < 130
    · obtain ⟨i1, i2⟩ := hdl
      have hdD : d ≤ D := by omega
      have gd1 : (d : Int) ≤ 255 := by omega
      have gd1' : (d : Int) ≤ at_ := by omega
      have gd2 : (best : Int) < 130 := by omega
      go_wp2
      go_loopw [10] (fun j wr' => ∃ n q' : Nat, n ≤ 130 ∧ at_ + n ≤ s.size ∧ j = .int .i64 n ∧ wr' = w.drewN q' ∧ Hid (mat s at_ d 130 n = ml s at_ d 130)) (fun j _ => 130 - (intOf j).toNat)
      case atStart => exact ⟨0, q, by omega, by omega, rfl, rfl, Lib.hid rfl⟩
      case round =>
        obtain ⟨n, q', hn, hn2, rfl, rfl, HL⟩ := hrel
        have hw1 : IntKind.i64.wrap ((at_ : Int) + n) = (at_ : Int) + n := IntWalk.i64_in _ (by omega)
        by_cases hl2 : n < 130
        · have hl3 : at_ + n < s.size := by omega
          have ea := bt_eq s (at_ + n) hl3
          have eb := bt_eq s (at_ + n - d) (by omega)
          have hba := bt_lt s (at_ + n)
          have hbb := bt_lt s (at_ + n - d)
          have k1 : (n : Int) < 130 := by omega
          have k2 : (at_ : Int) + n < s.size := by omega
          have k3 : (0 : Int) ≤ (at_ : Int) + n := by omega
          have k4 : (0 : Int) ≤ (at_ : Int) + n - d := by omega
          have k5 : (at_ : Int) + n - d < s.size := by omega
          by_cases heq : bt s (at_ + n) = bt s (at_ + n - d)
          · have HN := Lib.hid ((mat_yes s at_ d 130 n (by omega) heq).symm.trans HL.out)
            have g1 : (((bt s (at_ + n) : Nat) : Int) == ((bt s (at_ + n - d) : Nat) : Int)) = true := by simp; omega
            have g2 : (bt s (at_ + n) == bt s (at_ + n - d)) = true := by simp; omega
            clear heq
            have hw2 : IntKind.i64.wrap ((at_ : Int) + n - d) = (at_ : Int) + n - d := IntWalk.i64_in _ (by omega)
            have hw3 : ((at_ : Int) + n).toNat = at_ + n := by omega
            have hw4 : ((at_ : Int) + n - d).toNat = at_ + n - d := by omega
            go_wp2_with fail
            go_quiet (fail)
            clear ea eb hw1 hw2 hw3 hw4
            go_wp2
            go_roundw
            case rel => exact ⟨n + 1, _, by omega, by omega, by go_num, rfl, HN⟩
            case measure => (simp [intOf] <;> omega)
          · have HD := Lib.hid ((mat_ne s at_ d 130 n heq).symm.trans HL.out)
            have g1 : (((bt s (at_ + n) : Nat) : Int) == ((bt s (at_ + n - d) : Nat) : Int)) = false := by simp; omega
            have g2 : (bt s (at_ + n) == bt s (at_ + n - d)) = false := by simp; omega
            clear heq
            have hw2 : IntKind.i64.wrap ((at_ : Int) + n - d) = (at_ : Int) + n - d := IntWalk.i64_in _ (by omega)
            have hw3 : ((at_ : Int) + n).toNat = at_ + n := by omega
            have hw4 : ((at_ : Int) + n - d).toNat = at_ + n - d := by omega
            rcases Nat.lt_or_ge best n with hbn | hbn
            · have HN := Lib.hid (bestR_better s at_ 130 D d best far hdD n HD.out hbn HI.out)
              have gb1 : (best : Int) < n := by omega
              go_wp2_with fail
              go_quiet (fail)
              clear ea eb hw1 hw2 hw3 hw4
              go_wp2
              go_roundw
              case rel => exact ⟨d + 1, n, d, _, by omega, by omega, by omega, by omega, by omega, rfl, rfl, by go_num, rfl, HN⟩
              case measure => (simp [intOf] <;> omega)
            · have HN := Lib.hid (bestR_not s at_ 130 D d best far hdD n HD.out (by omega) HI.out)
              have gb1 : decide ((best : Int) < n) = false := by simp; omega
              have gb2 : decide (best < n) = false := by simp; omega
              clear hbn
              go_wp2_with fail
              go_quiet (fail)
              clear ea eb hw1 hw2 hw3 hw4
              go_wp2
              go_roundw
              case rel => exact ⟨d + 1, best, far, _, by omega, by omega, by omega, by omega, by omega, rfl, rfl, by go_num, rfl, HN⟩
              case measure => (simp [intOf] <;> omega)
        · have HD := Lib.hid ((mat_end s at_ d 130 n (by omega)).symm.trans HL.out)
          have k1 : decide ((n : Int) < 130) = false := by simp; omega
          have k2 : decide (n < 130) = false := by simp; omega
          rcases Nat.lt_or_ge best n with hbn | hbn
          · have HN := Lib.hid (bestR_better s at_ 130 D d best far hdD n HD.out hbn HI.out)
            have gb1 : (best : Int) < n := by omega
            go_wp2_with fail
            go_quiet (fail)
            clear hw1
            go_wp2
            go_roundw
            case rel => exact ⟨d + 1, n, d, _, by omega, by omega, by omega, by omega, by omega, rfl, rfl, by go_num, rfl, HN⟩
            case measure => (simp [intOf] <;> omega)
          · have HN := Lib.hid (bestR_not s at_ 130 D d best far hdD n HD.out (by omega) HI.out)
            have gb1 : decide ((best : Int) < n) = false := by simp; omega
            have gb2 : decide (best < n) = false := by simp; omega
            clear hbn
            go_wp2_with fail
            go_quiet (fail)
            clear hw1
            go_wp2
            go_roundw
            case rel => exact ⟨d + 1, best, far, _, by omega, by omega, by omega, by omega, by omega, rfl, rfl, by go_num, rfl, HN⟩
            case measure => (simp [intOf] <;> omega)
    · by_cases h255 : d ≤ D
      · have HR := Lib.hid (bestR_full' s at_ 130 D d best far (by omega) HI.out)
        have gd1 : (d : Int) ≤ 255 := by omega
        have gd1' : (d : Int) ≤ at_ := by omega
        have gd2 : decide ((best : Int) < 130) = false := by simp; omega
        have gd3 : decide (best < 130) = false := by simp; omega
        go_wp2
        go_ret2
        exact ⟨by cases HR.out; rfl, _, rfl⟩
      · have HR := Lib.hid (bestR_end s at_ 130 D d best far h255 HI.out)
        have gd2 : decide ((d : Int) ≤ 255) = false := by simp; omega
        go_wp2
        go_ret2
        exact ⟨by cases HR.out; rfl, _, rfl⟩

set_option maxRecDepth 100000 in
set_option maxHeartbeats 1000000 in
theorem reference_b (s : ByteArray) (at_ : Nat) (w : World) (hm1 : (130 : Int) ≤ (s.size : Int) - at_) (hf1 : (at_ : Int) < 255) (hs : s.size ≤ 1048576) (hat : at_ < s.size) :
    Calls Try.prog 90 #[.string s, .int .i64 (at_ : Int)] w fun e w' => e = .returned (.tuple #[.int .i64 ((refer s at_).1 : Int), .int .i64 ((refer s at_).2 : Int)]) ∧ ∃ n, w' = w.drewN n := by
  have hM : mostAt s at_ = min 130 (s.size - at_) := rfl
  have HR0 := Lib.hid (show bestR s at_ (mostAt s at_) (farAt at_) 1 0 0 = refer s at_ from rfl)
  generalize hr : refer s at_ = R at HR0
  obtain ⟨r1, r2⟩ := R
  generalize mostAt s at_ = most at hM HR0
  obtain rfl : most = 130 := by omega
  have hF : farAt at_ = min 255 at_ := rfl
  generalize farAt at_ = D at hF HR0
  clear hr
  go_enter Try.func90, Try.ntmps90
  go_wp2
  go_loopw [7, 8, 9, 10] (fun bv fv dv _ wr => ∃ (d best far q : Nat), 1 ≤ d ∧ d ≤ 256 ∧ d ≤ at_ + 1 ∧ best ≤ 130 ∧ far ≤ 256 ∧ bv = .int .i64 best ∧ fv = .int .i64 far ∧ dv = .int .i64 d ∧ wr = w.drewN q ∧ Hid (bestR s at_ 130 D d best far = (r1, r2))) (fun _ _ dv _ _ => 300 - (intOf dv).toNat)
  case atStart => exact ⟨1, 0, 0, 0, by omega, by omega, by omega, by omega, by omega, rfl, rfl, rfl, rfl, HR0⟩
  case round =>
    obtain ⟨d, best, far, q, hd1, hd2, hd3, hb1, hf1, rfl, rfl, rfl, rfl, HI⟩ := hrel
    by_cases hdl : d ≤ D ∧ best < 130
    · obtain ⟨i1, i2⟩ := hdl
      have hdD : d ≤ D := by omega
      have gd1 : (d : Int) ≤ 255 := by omega
      have gd1' : (d : Int) ≤ at_ := by omega
      have gd2 : (best : Int) < 130 := by omega
      go_wp2
      go_loopw [10] (fun j wr' => ∃ n q' : Nat, n ≤ 130 ∧ at_ + n ≤ s.size ∧ j = .int .i64 n ∧ wr' = w.drewN q' ∧ Hid (mat s at_ d 130 n = ml s at_ d 130)) (fun j _ => 130 - (intOf j).toNat)
      case atStart => exact ⟨0, q, by omega, by omega, rfl, rfl, Lib.hid rfl⟩
      case round =>
        obtain ⟨n, q', hn, hn2, rfl, rfl, HL⟩ := hrel
        have hw1 : IntKind.i64.wrap ((at_ : Int) + n) = (at_ : Int) + n := IntWalk.i64_in _ (by omega)
        by_cases hl2 : n < 130
        · have hl3 : at_ + n < s.size := by omega
          have ea := bt_eq s (at_ + n) hl3
          have eb := bt_eq s (at_ + n - d) (by omega)
          have hba := bt_lt s (at_ + n)
          have hbb := bt_lt s (at_ + n - d)
          have k1 : (n : Int) < 130 := by omega
          have k2 : (at_ : Int) + n < s.size := by omega
          have k3 : (0 : Int) ≤ (at_ : Int) + n := by omega
          have k4 : (0 : Int) ≤ (at_ : Int) + n - d := by omega
          have k5 : (at_ : Int) + n - d < s.size := by omega
          by_cases heq : bt s (at_ + n) = bt s (at_ + n - d)
          · have HN := Lib.hid ((mat_yes s at_ d 130 n (by omega) heq).symm.trans HL.out)
            have g1 : (((bt s (at_ + n) : Nat) : Int) == ((bt s (at_ + n - d) : Nat) : Int)) = true := by simp; omega
            have g2 : (bt s (at_ + n) == bt s (at_ + n - d)) = true := by simp; omega
            clear heq
            have hw2 : IntKind.i64.wrap ((at_ : Int) + n - d) = (at_ : Int) + n - d := IntWalk.i64_in _ (by omega)
            have hw3 : ((at_ : Int) + n).toNat = at_ + n := by omega
            have hw4 : ((at_ : Int) + n - d).toNat = at_ + n - d := by omega
            go_wp2_with fail
            go_quiet (fail)
            clear ea eb hw1 hw2 hw3 hw4
            go_wp2
            go_roundw
            case rel => exact ⟨n + 1, _, by omega, by omega, by go_num, rfl, HN⟩
            case measure => (simp [intOf] <;> omega)
          · have HD := Lib.hid ((mat_ne s at_ d 130 n heq).symm.trans HL.out)
            have g1 : (((bt s (at_ + n) : Nat) : Int) == ((bt s (at_ + n - d) : Nat) : Int)) = false := by simp; omega
            have g2 : (bt s (at_ + n) == bt s (at_ + n - d)) = false := by simp; omega
            clear heq
            have hw2 : IntKind.i64.wrap ((at_ : Int) + n - d) = (at_ : Int) + n - d := IntWalk.i64_in _ (by omega)
            have hw3 : ((at_ : Int) + n).toNat = at_ + n := by omega
            have hw4 : ((at_ : Int) + n - d).toNat = at_ + n - d := by omega
            rcases Nat.lt_or_ge best n with hbn | hbn
            · have HN := Lib.hid (bestR_better s at_ 130 D d best far hdD n HD.out hbn HI.out)
              have gb1 : (best : Int) < n := by omega
              go_wp2_with fail
              go_quiet (fail)
              clear ea eb hw1 hw2 hw3 hw4
              go_wp2
              go_roundw
              case rel => exact ⟨d + 1, n, d, _, by omega, by omega, by omega, by omega, by omega, rfl, rfl, by go_num, rfl, HN⟩
              case measure => (simp [intOf] <;> omega)
            · have HN := Lib.hid (bestR_not s at_ 130 D d best far hdD n HD.out (by omega) HI.out)
              have gb1 : decide ((best : Int) < n) = false := by simp; omega
              have gb2 : decide (best < n) = false := by simp; omega
              clear hbn
              go_wp2_with fail
              go_quiet (fail)
              clear ea eb hw1 hw2 hw3 hw4
              go_wp2
              go_roundw
              case rel => exact ⟨d + 1, best, far, _, by omega, by omega, by omega, by omega, by omega, rfl, rfl, by go_num, rfl, HN⟩
              case measure => (simp [intOf] <;> omega)
        · have HD := Lib.hid ((mat_end s at_ d 130 n (by omega)).symm.trans HL.out)
          have k1 : decide ((n : Int) < 130) = false := by simp; omega
          have k2 : decide (n < 130) = false := by simp; omega
          rcases Nat.lt_or_ge best n with hbn | hbn
          · have HN := Lib.hid (bestR_better s at_ 130 D d best far hdD n HD.out hbn HI.out)
            have gb1 : (best : Int) < n := by omega
            go_wp2_with fail
            go_quiet (fail)
            clear hw1
            go_wp2
            go_roundw
            case rel => exact ⟨d + 1, n, d, _, by omega, by omega, by omega, by omega, by omega, rfl, rfl, by go_num, rfl, HN⟩
            case measure => (simp [intOf] <;> omega)
          · have HN := Lib.hid (bestR_not s at_ 130 D d best far hdD n HD.out (by omega) HI.out)
            have gb1 : decide ((best : Int) < n) = false := by simp; omega
            have gb2 : decide (best < n) = false := by simp; omega
            clear hbn
            go_wp2_with fail
            go_quiet (fail)
            clear hw1
            go_wp2
            go_roundw
            case rel => exact ⟨d + 1, best, far, _, by omega, by omega, by omega, by omega, by omega, rfl, rfl, by go_num, rfl, HN⟩
            case measure => (simp [intOf] <;> omega)
    · by_cases h255 : d ≤ D
      · have HR := Lib.hid (bestR_full' s at_ 130 D d best far (by omega) HI.out)
        have gd1 : (d : Int) ≤ 255 := by omega
        have gd1' : (d : Int) ≤ at_ := by omega
        have gd2 : decide ((best : Int) < 130) = false := by simp; omega
        have gd3 : decide (best < 130) = false := by simp; omega
        go_wp2
        go_ret2
        exact ⟨by cases HR.out; rfl, _, rfl⟩
      · have HR := Lib.hid (bestR_end s at_ 130 D d best far h255 HI.out)
        have gd2 : decide ((d : Int) ≤ at_) = false := by simp; omega
        have gd3 : decide (d ≤ at_) = false := by simp; omega
        go_wp2
        go_ret2
        exact ⟨by cases HR.out; rfl, _, rfl⟩

set_option maxRecDepth 100000 in
set_option maxHeartbeats 1000000 in
theorem reference_c (s : ByteArray) (at_ : Nat) (w : World) (hm1 : (s.size : Int) - at_ < 130) (hf1 : (255 : Int) ≤ at_) (hs : s.size ≤ 1048576) (hat : at_ < s.size) :
    Calls Try.prog 90 #[.string s, .int .i64 (at_ : Int)] w fun e w' => e = .returned (.tuple #[.int .i64 ((refer s at_).1 : Int), .int .i64 ((refer s at_).2 : Int)]) ∧ ∃ n, w' = w.drewN n := by
  have hM : mostAt s at_ = min 130 (s.size - at_) := rfl
  have HR0 := Lib.hid (show bestR s at_ (mostAt s at_) (farAt at_) 1 0 0 = refer s at_ from rfl)
  generalize hr : refer s at_ = R at HR0
  obtain ⟨r1, r2⟩ := R
  generalize mostAt s at_ = most at hM HR0
  have hF : farAt at_ = min 255 at_ := rfl
  generalize farAt at_ = D at hF HR0
  clear hr
  go_enter Try.func90, Try.ntmps90
  go_wp2
  go_loopw [7, 8, 9, 10] (fun bv fv dv _ wr => ∃ (d best far q : Nat), 1 ≤ d ∧ d ≤ 256 ∧ d ≤ at_ + 1 ∧ best ≤ 130 ∧ far ≤ 256 ∧ bv = .int .i64 best ∧ fv = .int .i64 far ∧ dv = .int .i64 d ∧ wr = w.drewN q ∧ Hid (bestR s at_ most D d best far = (r1, r2))) (fun _ _ dv _ _ => 300 - (intOf dv).toNat)
  case atStart => exact ⟨1, 0, 0, 0, by omega, by omega, by omega, by omega, by omega, rfl, rfl, rfl, rfl, HR0⟩
  case round =>
    obtain ⟨d, best, far, q, hd1, hd2, hd3, hb1, hf1, rfl, rfl, rfl, rfl, HI⟩ := hrel
    by_cases hdl : d ≤ D ∧ best < most
    · obtain ⟨i1, i2⟩ := hdl
      have hdD : d ≤ D := by omega
      have gd1 : (d : Int) ≤ 255 := by omega
      have gd1' : (d : Int) ≤ at_ := by omega
      have gd2 : (best : Int) < (s.size : Int) - at_ := by omega
      go_wp2
      go_loopw [10] (fun j wr' => ∃ n q' : Nat, n ≤ most ∧ at_ + n ≤ s.size ∧ j = .int .i64 n ∧ wr' = w.drewN q' ∧ Hid (mat s at_ d most n = ml s at_ d most)) (fun j _ => 130 - (intOf j).toNat)
      case atStart => exact ⟨0, q, by omega, by omega, rfl, rfl, Lib.hid rfl⟩
      case round =>
        obtain ⟨n, q', hn, hn2, rfl, rfl, HL⟩ := hrel
        have hw1 : IntKind.i64.wrap ((at_ : Int) + n) = (at_ : Int) + n := IntWalk.i64_in _ (by omega)
        by_cases hl2 : n < most
        · have hl3 : at_ + n < s.size := by omega
          have ea := bt_eq s (at_ + n) hl3
          have eb := bt_eq s (at_ + n - d) (by omega)
          have hba := bt_lt s (at_ + n)
          have hbb := bt_lt s (at_ + n - d)
          have k1 : (n : Int) < (s.size : Int) - at_ := by omega
          have k2 : (at_ : Int) + n < s.size := by omega
          have k3 : (0 : Int) ≤ (at_ : Int) + n := by omega
          have k4 : (0 : Int) ≤ (at_ : Int) + n - d := by omega
          have k5 : (at_ : Int) + n - d < s.size := by omega
          by_cases heq : bt s (at_ + n) = bt s (at_ + n - d)
          · have HN := Lib.hid ((mat_yes s at_ d most n (by omega) heq).symm.trans HL.out)
            have g1 : (((bt s (at_ + n) : Nat) : Int) == ((bt s (at_ + n - d) : Nat) : Int)) = true := by simp; omega
            have g2 : (bt s (at_ + n) == bt s (at_ + n - d)) = true := by simp; omega
            clear heq
            have hw2 : IntKind.i64.wrap ((at_ : Int) + n - d) = (at_ : Int) + n - d := IntWalk.i64_in _ (by omega)
            have hw3 : ((at_ : Int) + n).toNat = at_ + n := by omega
            have hw4 : ((at_ : Int) + n - d).toNat = at_ + n - d := by omega
            go_wp2_with fail
            go_quiet (fail)
            clear ea eb hw1 hw2 hw3 hw4
            go_wp2
            go_roundw
            case rel => exact ⟨n + 1, _, by omega, by omega, by go_num, rfl, HN⟩
            case measure => (simp [intOf] <;> omega)
          · have HD := Lib.hid ((mat_ne s at_ d most n heq).symm.trans HL.out)
            have g1 : (((bt s (at_ + n) : Nat) : Int) == ((bt s (at_ + n - d) : Nat) : Int)) = false := by simp; omega
            have g2 : (bt s (at_ + n) == bt s (at_ + n - d)) = false := by simp; omega
            clear heq
            have hw2 : IntKind.i64.wrap ((at_ : Int) + n - d) = (at_ : Int) + n - d := IntWalk.i64_in _ (by omega)
            have hw3 : ((at_ : Int) + n).toNat = at_ + n := by omega
            have hw4 : ((at_ : Int) + n - d).toNat = at_ + n - d := by omega
            rcases Nat.lt_or_ge best n with hbn | hbn
            · have HN := Lib.hid (bestR_better s at_ most D d best far hdD n HD.out hbn HI.out)
              have gb1 : (best : Int) < n := by omega
              go_wp2_with fail
              go_quiet (fail)
              clear ea eb hw1 hw2 hw3 hw4
              go_wp2
              go_roundw
              case rel => exact ⟨d + 1, n, d, _, by omega, by omega, by omega, by omega, by omega, rfl, rfl, by go_num, rfl, HN⟩
              case measure => (simp [intOf] <;> omega)
            · have HN := Lib.hid (bestR_not s at_ most D d best far hdD n HD.out (by omega) HI.out)
              have gb1 : decide ((best : Int) < n) = false := by simp; omega
              have gb2 : decide (best < n) = false := by simp; omega
              clear hbn
              go_wp2_with fail
              go_quiet (fail)
              clear ea eb hw1 hw2 hw3 hw4
              go_wp2
              go_roundw
              case rel => exact ⟨d + 1, best, far, _, by omega, by omega, by omega, by omega, by omega, rfl, rfl, by go_num, rfl, HN⟩
              case measure => (simp [intOf] <;> omega)
        · have HD := Lib.hid ((mat_end s at_ d most n (by omega)).symm.trans HL.out)
          have k1 : decide ((n : Int) < (s.size : Int) - at_) = false := by simp; omega
          have k2 : decide (n < s.size - at_) = false := by simp; omega
          rcases Nat.lt_or_ge best n with hbn | hbn
          · have HN := Lib.hid (bestR_better s at_ most D d best far hdD n HD.out hbn HI.out)
            have gb1 : (best : Int) < n := by omega
            go_wp2_with fail
            go_quiet (fail)
            clear hw1
            go_wp2
            go_roundw
            case rel => exact ⟨d + 1, n, d, _, by omega, by omega, by omega, by omega, by omega, rfl, rfl, by go_num, rfl, HN⟩
            case measure => (simp [intOf] <;> omega)
          · have HN := Lib.hid (bestR_not s at_ most D d best far hdD n HD.out (by omega) HI.out)
            have gb1 : decide ((best : Int) < n) = false := by simp; omega
            have gb2 : decide (best < n) = false := by simp; omega
            clear hbn
            go_wp2_with fail
            go_quiet (fail)
            clear hw1
            go_wp2
            go_roundw
            case rel => exact ⟨d + 1, best, far, _, by omega, by omega, by omega, by omega, by omega, rfl, rfl, by go_num, rfl, HN⟩
            case measure => (simp [intOf] <;> omega)
    · by_cases h255 : d ≤ D
      · have HR := Lib.hid (bestR_full' s at_ most D d best far (by omega) HI.out)
        have gd1 : (d : Int) ≤ 255 := by omega
        have gd1' : (d : Int) ≤ at_ := by omega
        have gd2 : decide ((best : Int) < (s.size : Int) - at_) = false := by simp; omega
        have gd3 : decide (best < s.size - at_) = false := by simp; omega
        go_wp2
        go_ret2
        exact ⟨by cases HR.out; rfl, _, rfl⟩
      · have HR := Lib.hid (bestR_end s at_ most D d best far h255 HI.out)
        have gd2 : decide ((d : Int) ≤ 255) = false := by simp; omega
        go_wp2
        go_ret2
        exact ⟨by cases HR.out; rfl, _, rfl⟩

set_option maxRecDepth 100000 in
set_option maxHeartbeats 1000000 in
theorem reference_d (s : ByteArray) (at_ : Nat) (w : World) (hm1 : (s.size : Int) - at_ < 130) (hf1 : (at_ : Int) < 255) (hs : s.size ≤ 1048576) (hat : at_ < s.size) :
    Calls Try.prog 90 #[.string s, .int .i64 (at_ : Int)] w fun e w' => e = .returned (.tuple #[.int .i64 ((refer s at_).1 : Int), .int .i64 ((refer s at_).2 : Int)]) ∧ ∃ n, w' = w.drewN n := by
  have hM : mostAt s at_ = min 130 (s.size - at_) := rfl
  have HR0 := Lib.hid (show bestR s at_ (mostAt s at_) (farAt at_) 1 0 0 = refer s at_ from rfl)
  generalize hr : refer s at_ = R at HR0
  obtain ⟨r1, r2⟩ := R
  generalize mostAt s at_ = most at hM HR0
  have hF : farAt at_ = min 255 at_ := rfl
  generalize farAt at_ = D at hF HR0
  clear hr
  go_enter Try.func90, Try.ntmps90
  go_wp2
  go_loopw [7, 8, 9, 10] (fun bv fv dv _ wr => ∃ (d best far q : Nat), 1 ≤ d ∧ d ≤ 256 ∧ d ≤ at_ + 1 ∧ best ≤ 130 ∧ far ≤ 256 ∧ bv = .int .i64 best ∧ fv = .int .i64 far ∧ dv = .int .i64 d ∧ wr = w.drewN q ∧ Hid (bestR s at_ most D d best far = (r1, r2))) (fun _ _ dv _ _ => 300 - (intOf dv).toNat)
  case atStart => exact ⟨1, 0, 0, 0, by omega, by omega, by omega, by omega, by omega, rfl, rfl, rfl, rfl, HR0⟩
  case round =>
    obtain ⟨d, best, far, q, hd1, hd2, hd3, hb1, hf1, rfl, rfl, rfl, rfl, HI⟩ := hrel
    by_cases hdl : d ≤ D ∧ best < most
    · obtain ⟨i1, i2⟩ := hdl
      have hdD : d ≤ D := by omega
      have gd1 : (d : Int) ≤ 255 := by omega
      have gd1' : (d : Int) ≤ at_ := by omega
      have gd2 : (best : Int) < (s.size : Int) - at_ := by omega
      go_wp2
      go_loopw [10] (fun j wr' => ∃ n q' : Nat, n ≤ most ∧ at_ + n ≤ s.size ∧ j = .int .i64 n ∧ wr' = w.drewN q' ∧ Hid (mat s at_ d most n = ml s at_ d most)) (fun j _ => 130 - (intOf j).toNat)
      case atStart => exact ⟨0, q, by omega, by omega, rfl, rfl, Lib.hid rfl⟩
      case round =>
        obtain ⟨n, q', hn, hn2, rfl, rfl, HL⟩ := hrel
        have hw1 : IntKind.i64.wrap ((at_ : Int) + n) = (at_ : Int) + n := IntWalk.i64_in _ (by omega)
        by_cases hl2 : n < most
        · have hl3 : at_ + n < s.size := by omega
          have ea := bt_eq s (at_ + n) hl3
          have eb := bt_eq s (at_ + n - d) (by omega)
          have hba := bt_lt s (at_ + n)
          have hbb := bt_lt s (at_ + n - d)
          have k1 : (n : Int) < (s.size : Int) - at_ := by omega
          have k2 : (at_ : Int) + n < s.size := by omega
          have k3 : (0 : Int) ≤ (at_ : Int) + n := by omega
          have k4 : (0 : Int) ≤ (at_ : Int) + n - d := by omega
          have k5 : (at_ : Int) + n - d < s.size := by omega
          by_cases heq : bt s (at_ + n) = bt s (at_ + n - d)
          · have HN := Lib.hid ((mat_yes s at_ d most n (by omega) heq).symm.trans HL.out)
            have g1 : (((bt s (at_ + n) : Nat) : Int) == ((bt s (at_ + n - d) : Nat) : Int)) = true := by simp; omega
            have g2 : (bt s (at_ + n) == bt s (at_ + n - d)) = true := by simp; omega
            clear heq
            have hw2 : IntKind.i64.wrap ((at_ : Int) + n - d) = (at_ : Int) + n - d := IntWalk.i64_in _ (by omega)
            have hw3 : ((at_ : Int) + n).toNat = at_ + n := by omega
            have hw4 : ((at_ : Int) + n - d).toNat = at_ + n - d := by omega
            go_wp2_with fail
            go_quiet (fail)
            clear ea eb hw1 hw2 hw3 hw4
            go_wp2
            go_roundw
            case rel => exact ⟨n + 1, _, by omega, by omega, by go_num, rfl, HN⟩
            case measure => (simp [intOf] <;> omega)
          · have HD := Lib.hid ((mat_ne s at_ d most n heq).symm.trans HL.out)
            have g1 : (((bt s (at_ + n) : Nat) : Int) == ((bt s (at_ + n - d) : Nat) : Int)) = false := by simp; omega
            have g2 : (bt s (at_ + n) == bt s (at_ + n - d)) = false := by simp; omega
            clear heq
            have hw2 : IntKind.i64.wrap ((at_ : Int) + n - d) = (at_ : Int) + n - d := IntWalk.i64_in _ (by omega)
            have hw3 : ((at_ : Int) + n).toNat = at_ + n := by omega
            have hw4 : ((at_ : Int) + n - d).toNat = at_ + n - d := by omega
            rcases Nat.lt_or_ge best n with hbn | hbn
            · have HN := Lib.hid (bestR_better s at_ most D d best far hdD n HD.out hbn HI.out)
              have gb1 : (best : Int) < n := by omega
              go_wp2_with fail
              go_quiet (fail)
              clear ea eb hw1 hw2 hw3 hw4
              go_wp2
              go_roundw
              case rel => exact ⟨d + 1, n, d, _, by omega, by omega, by omega, by omega, by omega, rfl, rfl, by go_num, rfl, HN⟩
              case measure => (simp [intOf] <;> omega)
            · have HN := Lib.hid (bestR_not s at_ most D d best far hdD n HD.out (by omega) HI.out)
              have gb1 : decide ((best : Int) < n) = false := by simp; omega
              have gb2 : decide (best < n) = false := by simp; omega
              clear hbn
              go_wp2_with fail
              go_quiet (fail)
              clear ea eb hw1 hw2 hw3 hw4
              go_wp2
              go_roundw
              case rel => exact ⟨d + 1, best, far, _, by omega, by omega, by omega, by omega, by omega, rfl, rfl, by go_num, rfl, HN⟩
              case measure => (simp [intOf] <;> omega)
        · have HD := Lib.hid ((mat_end s at_ d most n (by omega)).symm.trans HL.out)
          have k1 : decide ((n : Int) < (s.size : Int) - at_) = false := by simp; omega
          have k2 : decide (n < s.size - at_) = false := by simp; omega
          rcases Nat.lt_or_ge best n with hbn | hbn
          · have HN := Lib.hid (bestR_better s at_ most D d best far hdD n HD.out hbn HI.out)
            have gb1 : (best : Int) < n := by omega
            go_wp2_with fail
            go_quiet (fail)
            clear hw1
            go_wp2
            go_roundw
            case rel => exact ⟨d + 1, n, d, _, by omega, by omega, by omega, by omega, by omega, rfl, rfl, by go_num, rfl, HN⟩
            case measure => (simp [intOf] <;> omega)
          · have HN := Lib.hid (bestR_not s at_ most D d best far hdD n HD.out (by omega) HI.out)
            have gb1 : decide ((best : Int) < n) = false := by simp; omega
            have gb2 : decide (best < n) = false := by simp; omega
            clear hbn
            go_wp2_with fail
            go_quiet (fail)
            clear hw1
            go_wp2
            go_roundw
            case rel => exact ⟨d + 1, best, far, _, by omega, by omega, by omega, by omega, by omega, rfl, rfl, by go_num, rfl, HN⟩
            case measure => (simp [intOf] <;> omega)
    · by_cases h255 : d ≤ D
      · have HR := Lib.hid (bestR_full' s at_ most D d best far (by omega) HI.out)
        have gd1 : (d : Int) ≤ 255 := by omega
        have gd1' : (d : Int) ≤ at_ := by omega
        have gd2 : decide ((best : Int) < (s.size : Int) - at_) = false := by simp; omega
        have gd3 : decide (best < s.size - at_) = false := by simp; omega
        go_wp2
        go_ret2
        exact ⟨by cases HR.out; rfl, _, rfl⟩
      · have HR := Lib.hid (bestR_end s at_ most D d best far h255 HI.out)
        have gd2 : decide ((d : Int) ≤ at_) = false := by simp; omega
        have gd3 : decide (d ≤ at_) = false := by simp; omega
        go_wp2
        go_ret2
        exact ⟨by cases HR.out; rfl, _, rfl⟩

theorem reference_any (s : ByteArray) (at_ : Nat) (w : World) (hs : s.size ≤ 1048576) (hat : at_ < s.size) :
    Calls Try.prog 90 #[.string s, .int .i64 (at_ : Int)] w fun e w' => e = .returned (.tuple #[.int .i64 ((refer s at_).1 : Int), .int .i64 ((refer s at_).2 : Int)]) ∧ ∃ n, w' = w.drewN n := by
  by_cases h1 : (130 : Int) ≤ (s.size : Int) - at_
  · by_cases h2 : (255 : Int) ≤ at_
    · exact reference_a s at_ w h1 h2 hs hat
    · exact reference_b s at_ w h1 (by omega) hs hat
  · by_cases h2 : (255 : Int) ≤ at_
    · exact reference_c s at_ w (by omega) h2 hs hat
    · exact reference_d s at_ w (by omega) (by omega) hs hat
end Go.Proofs.Ytemppogailpoiaa
namespace Go.Proofs.Ytemppogailpoiaa
set_option linter.unusedVariables false
open Go.RowKit

theorem ext_take (t : ByteArray) (n : Nat) : (t.extract 0 n).data.toList = t.data.toList.take n := by
  have := seg_eq t 0 n
  unfold seg at this
  rw [this, List.drop_zero, Nat.sub_zero]
theorem ext_drop (t : ByteArray) (n : Nat) : (t.extract n t.size).data.toList = t.data.toList.drop n := by
  have := seg_eq t n t.size
  unfold seg at this
  rw [this, List.take_of_length_le]
  rw [List.length_drop, Array.length_toList]
  exact Nat.le_refl _
theorem extsz (s : ByteArray) (a b : Nat) (h : b ≤ s.size) : (s.extract a b).size = b - a := by
  rw [ByteArray.size_extract]
  omega
theorem size_list' (o : ByteArray) : o.data.toList.length = o.size := by rw [Array.length_toList]; rfl
theorem plL_chunk (t : ByteArray) (l R : List UInt8) (n : Nat) (h : 0 < t.size) (hn : n = min t.size 128) (hr : l ++ plL t.data.toList = R) :
    ((l ++ [UInt8.ofNat (n - 1)]) ++ (t.extract 0 n).data.toList) ++ plL (t.extract n t.size).data.toList = R := by
  have hl : t.data.toList.length = t.size := by rw [Array.length_toList]; rfl
  rw [plL_step t.data.toList n (by omega) (by rw [hl]; exact hn)] at hr
  rw [ext_take, ext_drop, ← hr]
  simp

set_option maxRecDepth 100000 in
set_option maxHeartbeats 1000000 in
theorem l14Plain_any (v : Value) (l : List UInt8) (s : ByteArray) (w : World) (base : Nat) (hbase : base ≤ w.heap.size) (hown : OwnB w base 5 v l) (hs : s.size ≤ 100000) (hl : l.length ≤ 100000) :
    Calls Try.prog 94 #[v, .string s] w fun e w' => ∃ v', e = .returned v' ∧ OwnB w' base 5 v' (l ++ plL s.data.toList) ∧ Below base w w' := by
  obtain ⟨A0, c0, rfl⟩ := hown.form
  go_enter Try.func94, Try.ntmps94
  go_wp2
  go_loopw [0, 1, 5] (fun ov sv _ wr => ∃ (out : List UInt8) (t : ByteArray), sv = .string t ∧ out.length + 2 * t.size ≤ 300000 ∧ OwnB wr base 5 ov out ∧ Below base w wr ∧ Hid (out ++ plL t.data.toList = l ++ plL s.data.toList)) (fun _ sv _ _ => match sv with | .string t => t.size | _ => 0)
  case atStart => exact ⟨l, s, rfl, by omega, hown, Below.refl _ _, Lib.hid rfl⟩
  case round =>
    obtain ⟨out, t, rfl, hsz, ho, hb, HI⟩ := hrel
    have hbz : base ≤ wr.heap.size := Nat.le_trans hbase hb.size
    by_cases h0 : 0 < t.size
    · by_cases h128 : 128 < t.size
      · have HN := Lib.hid (plL_chunk t out _ 128 h0 (by omega) HI.out)
        have g1 : (128 : Int) < t.size := by omega
        have he := extsz t 0 128 (by omega)
        have he2 := extsz t 128 t.size (Nat.le_refl _)
        have hm : 128 - 1 < 256 := by omega
        go_wp2_with (first
          | fail
          | (at_builtin; refine wpList_appL rfl _ _ _ rfl eltB _ out rfl ho _ _ [UInt8.ofNat (128 - 1)] 1 1 rfl (impl_cells1 (128 - 1) _ (by omega) (by omega)) rfl (by simp; omega) hbz ?_; intro v1 w2 hown1 hg1 hat1 hbl1)
          | (at_builtin; go_must (refine wpList_appS rfl _ _ _ _ rfl eltB Try.underlying9 _ (out ++ [UInt8.ofNat (128 - 1)]) rfl hown1 (t.extract 0 128) rfl (by rw [he]; simp; omega) (Nat.le_trans hbz hbl1.size) ?_); intro v2 w3 hown2 hg2 hat2 hbl2))
        go_roundw
        case rel => exact ⟨_, t.extract 128 t.size, rfl, by rw [he2, List.length_append, List.length_append, size_list', he, List.length_singleton]; omega, hown2, (hb.trans hbl1).trans hbl2, HN⟩
        case measure => simp only [he2]; omega
      · have HN := Lib.hid (show ((out ++ [UInt8.ofNat (t.size - 1)]) ++ t.data.toList) ++ plL ByteArray.empty.data.toList = l ++ plL s.data.toList from by
          have := plL_chunk t out _ t.size h0 (by omega) HI.out
          rw [ext_take, List.take_of_length_le (by rw [size_list']; exact Nat.le_refl _)] at this
          have e : (t.extract t.size t.size).data.toList = ByteArray.empty.data.toList := List.eq_nil_of_length_eq_zero (by rw [size_list', extsz t t.size t.size (Nat.le_refl _)]; omega)
          rw [e] at this
          exact this)
        have hm : t.size - 1 < 256 := by omega
        go_wp2_with (first
          | fail
          | (at_builtin; refine wpList_appL rfl _ _ _ rfl eltB _ out rfl ho _ _ [UInt8.ofNat (t.size - 1)] 1 1 rfl (impl_cells1 (t.size - 1) _ (by omega) (by omega)) rfl (by simp; omega) hbz ?_; intro v1 w2 hown1 hg1 hat1 hbl1)
          | (at_builtin; go_must (refine wpList_appS rfl _ _ _ _ rfl eltB Try.underlying9 _ (out ++ [UInt8.ofNat (t.size - 1)]) rfl hown1 t rfl (by simp; omega) (Nat.le_trans hbz hbl1.size) ?_); intro v2 w3 hown2 hg2 hat2 hbl2))
        go_roundw
        case rel => exact ⟨_, ByteArray.empty, rfl, by rw [List.length_append, List.length_append, size_list', List.length_singleton]; simp; omega, hown2, (hb.trans hbl1).trans hbl2, HN⟩
        case measure => simp; omega
    · have ht : t.data.toList = [] := List.eq_nil_of_length_eq_zero (by rw [Array.length_toList]; show t.size = 0; omega)
      have HR := Lib.hid (show out = l ++ plL s.data.toList by rw [← HI.out, ht, plL_nil, List.append_nil])
      go_wp2
      go_ret
      exact ⟨_, rfl, by rw [← HR.out]; exact ho, hb⟩
end Go.Proofs.Ytemppogailpoiaa
namespace Go.Proofs.Ytemppogailpoiaa
set_option linter.unusedVariables false
open Go.RowKit

set_option maxRecDepth 100000 in
set_option maxHeartbeats 1000000 in
theorem l14Pack_any (s : ByteArray) (w : World) (hs : s.size ≤ 4096) :
    Calls Try.prog 85 #[.string s] w fun e w' => e = .returned (.string ⟨(pbG s 0 0 []).toArray⟩) ∧ Below w.heap.size w w' := by
  go_enter Try.func85, Try.ntmps85
  go_wp2
  go_loopw [3, 4, 5, 6, 7] (fun ov fv av _ _ wr => ∃ (at_ from_ : Nat) (out : List UInt8), from_ ≤ at_ ∧ at_ ≤ s.size ∧ out.length ≤ 2 * from_ ∧ av = .int .i64 at_ ∧ fv = .int .i64 from_ ∧ OwnB wr w.heap.size 5 ov out ∧ Below w.heap.size w wr ∧ Hid (pbG s at_ from_ out = pbG s 0 0 []))
    (fun _ _ av _ _ _ => s.size - (intOf av).toNat)
  case atStart => exact ⟨0, 0, [], by omega, by omega, by simp, rfl, rfl, OwnB.lit w [] #[] rfl (Nat.le_refl _) (by simp), below_alloc (Below.refl _ _) _, Lib.hid rfl⟩
  case round =>
    obtain ⟨at_, from_, out, hfa, has, hol, rfl, rfl, hown, hb, HI⟩ := hrel
    have hbz := hb.size
    have hpl := plL_len (at_ - from_) (seg s from_ at_) (by rw [seg_length s _ _ has]; exact Nat.le_refl _)
    rw [seg_length s _ _ has] at hpl
    by_cases hlt : at_ < s.size
    · have hrb := refer_bd s at_
      have hM : mostAt s at_ = min 130 (s.size - at_) := rfl
      have hF : farAt at_ = min 255 at_ := rfl
      have hcall := fun W => l14Match_any s at_ W (by omega) hlt
      have hes := extsz s from_ at_ has
      obtain ⟨n, d, hr⟩ : ∃ n d, refer s at_ = (n, d) := ⟨_, _, rfl⟩
      have HRF := Lib.hid hr
      rw [hr] at hrb hcall
      simp only at hrb hcall
      clear hr
      by_cases h3 : n < 3
      · have HN := Lib.hid (pbG_skip s at_ from_ out _ hlt n d HRF.out h3 HI.out)
        have g1 : (n : Int) < 3 := by omega
        go_wp2_with (first | (go_at_call 93; refine (hcall _).mono ?_; rintro e w1 ⟨rfl, q1, rfl⟩))
        go_roundw
        case rel => exact ⟨at_ + 1, from_, out, by omega, by omega, hol, by go_num, rfl, hown.drewN _, below_drewN hb _, HN⟩
        case measure => (simp [intOf] <;> omega)
      · have HN := Lib.hid (pbG_ref s at_ from_ out _ hlt n d HRF.out h3 HI.out)
        have hsg := Lib.hid (show seg s from_ at_ = (s.extract from_ at_).data.toList from rfl)
        go_wp2_with (first
          | (go_at_call 93; refine (hcall _).mono ?_; rintro e w1 ⟨rfl, q1, rfl⟩)
          | (go_at_call 94; refine (l14Plain_any _ out (s.extract from_ at_) _ w.heap.size (by exact hbz) (hown.drewN _) (by omega) (by omega)).mono ?_; rintro e w2 ⟨v2, rfl, ho2, hb2⟩; rw [← hsg.out] at ho2)
          | (at_builtin; go_must (refine wpList_appL rfl _ _ _ rfl eltB _ (out ++ plL (seg s from_ at_)) rfl ho2 _ _ [UInt8.ofNat (n + 125), UInt8.ofNat d] 2 2 rfl (impl_cells2 (n + 125) d _ _ (by omega) (by omega) (by omega) (by omega)) rfl (by rw [List.length_append]; simp; omega) (Nat.le_trans hbz hb2.size) ?_); intro v3 w3 hown3 hg3 hat3 hbl3))
        go_roundw
        case rel => exact ⟨at_ + n, at_ + n, _, by omega, by omega, by simp only [List.length_append, List.length_cons, List.length_nil]; omega, by go_num, by go_num, hown3, ((below_drewN hb _).trans hb2).trans hbl3, HN⟩
        case measure => (simp [intOf] <;> omega)
    · have hat : at_ = s.size := by omega
      have HR := Lib.hid (pbG_end s at_ from_ out _ hlt HI.out)
      have hsg := Lib.hid (show seg s from_ s.size = (s.extract from_ s.size).data.toList from rfl)
      have hes := extsz s from_ s.size (Nat.le_refl _)
      have hf2 : from_ ≤ s.size := by omega
      go_wp2_with (first
        | (go_at_call 94; go_must (refine (l14Plain_any _ out (s.extract from_ s.size) _ w.heap.size hbz hown (by omega) (by omega)).mono ?_); rintro e w2 ⟨v2, rfl, ho2, hb2⟩; rw [← hsg.out] at ho2; have hcv := run_b2s (P := Try.prog) (dst := 9) Try.underlying22 Try.underlying5 Try.underlying9 ho2))
      go_ret
      exact ⟨congrArg (fun o : List UInt8 => Ending.returned (.string ⟨o.toArray⟩)) HR.out.symm, hb.trans hb2⟩

end Go.Proofs.Ytemppogailpoiaa
namespace Go.Proofs.Ytemppogailpoiaa
set_option linter.unusedVariables false
open Go.RowKit

theorem pl_step (s : ByteArray) (f to n : Nat) (l R : List UInt8) (h : f < to) (hto : to ≤ s.size) (hn : n = min (to - f) 128) (hr : l ++ plL (seg s f to) = R) :
    ((l ++ [UInt8.ofNat (n - 1)]) ++ (s.extract f (f + n)).data.toList) ++ plL (seg s (f + n) to) = R := by
  have hl := seg_length s f to hto
  rw [plL_step (seg s f to) n (by omega) (by rw [hl]; exact hn), seg_take s f to n (by omega), seg_drop s f to n (by omega)] at hr
  rw [← hr]
  simp [seg]

theorem own_slice {w : World} {base : Nat} {e : TypeId} {v : Value} {l : List UInt8} (h : OwnB w base e v l) : ∃ A m c, v = .slice A m c := by
  obtain ⟨A, c, h⟩ := OwnB.form h
  exact ⟨A, _, c, h⟩

/-- The cells that the closure shares with its maker. -/
def Shares (w : World) (bs bo bf : Nat) (s : ByteArray) (v : Value) (f : Nat) : Prop := Blk w bs 9 #[.string s] ∧ Blk w bo 22 #[v] ∧ Blk w bf 3 #[.int .i64 (f : Int)]

set_option maxRecDepth 100000 in
set_option maxHeartbeats 1000000 in
theorem flush_any (s : ByteArray) (bs bo bf f to : Nat) (out : List UInt8) (v : Value) (w : World) (base : Nat) (h1 : bs < bo) (h2 : bo < bf) (h3 : bf < base) (hbase : base ≤ w.heap.size)
    (hS : Shares w bs bo bf s v f) (hown : OwnB w base 5 v out) (hs : s.size ≤ 4096) (hol : out.length ≤ 100000) (hft : f ≤ to) (hto : to ≤ s.size) :
    Calls Try.prog 89 #[.int .i64 (to : Int), .pointer (some ⟨bf, 0, none⟩), .pointer (some ⟨bo, 0, none⟩), .pointer (some ⟨bs, 0, none⟩)] w fun e w' => e = .returned (.tuple #[]) ∧ ∃ v', Shares w' bs bo bf s v' to ∧ OwnB w' base 5 v' (out ++ plL (seg s f to)) ∧ Below bo w w' ∧ base ≤ w'.heap.size := by
  go_enter Try.func89, Try.ntmps89
  go_wp2
  go_loopw [5] (fun _ wr => ∃ (f' : Nat) (out' : List UInt8) (v' : Value), f ≤ f' ∧ f' ≤ to ∧ out'.length ≤ 100000 + 2 * (f' - f) ∧ Shares wr bs bo bf s v' f' ∧ OwnB wr base 5 v' out' ∧ Below bo w wr ∧ base ≤ wr.heap.size ∧ Hid (out' ++ plL (seg s f' to) = out ++ plL (seg s f to)))
    (fun _ wr => to - (match wr.cell? ⟨bf, 0, none⟩ with | some (.int _ n) => n.toNat | _ => 0))
  case atStart => exact ⟨f, out, v, by omega, hft, by omega, hS, hown, Below.refl _ _, hbase, Lib.hid rfl⟩
  case round =>
    obtain ⟨f', out', v', hf1, hf2, hol', ⟨hbs, hbo, hbf⟩, ho, hb, hbz, HI⟩ := hrel
    have cs := hbs.cell 0
    have co := hbo.cell 0
    have cf := hbf.cell 0
    simp only [List.getElem?_toArray, List.getElem?_cons_zero] at cs co cf
    have cf0 := cf
    have zo := hbo.frozen 0
    have zf := hbf.frozen 0
    by_cases hlt : f' < to
    · by_cases hmin : (to : Int) - f' ≤ 128
      · have HN := Lib.hid (pl_step s f' to (to - f') out' _ hlt hto (by omega) HI.out)
        have hn1 : 0 < (to - f') := by omega
        have hn2 : (to - f') ≤ 128 := by omega
        have hn3 : f' + (to - f') ≤ to := by omega
        have hn4 : f' + (to - f') ≤ s.size := by omega
        obtain ⟨e, hE⟩ : ∃ e : Nat, e = f' + (to - f') := ⟨_, rfl⟩
        rw [← hE] at HN
        have hw1 : IntKind.i64.wrap ((f' : Int) + ((to : Int) - f')) = (e : Int) := by rw [IntWalk.i64_in _ (by omega)]; omega
        have he1 : f' ≤ e := by omega
        have he2 : e ≤ s.size := by omega
        have he3 : (e : Int) ≤ s.size := by omega
        have hee := extsz s f' e he2
        have HE := Lib.hid hE
        clear hE
        have hne1 : ¬ bo = bf := by omega
        have hne2 : ¬ bf = bo := by omega
        go_wp2_with (first
          | fail
          | (at_builtin; go_must (refine wpList_appL rfl _ _ _ rfl eltB _ out' rfl ho _ _ [UInt8.ofNat ((to - f') - 1)] 1 1 rfl (impl_cells1 ((to - f') - 1) _ (by omega) (by omega)) rfl (by simp; omega) hbz ?_; intro v1 w2 ho1 hg1 hat1 hbl1; obtain ⟨A1, m1, c1, rfl⟩ := own_slice ho1; have hbs1 := hbs.below hbl1 (by omega); have hbo1 := hbo.below hbl1 (by omega); have hbf1 := hbf.below hbl1 h3; have co1 := hbo1.cell 0; simp only [List.getElem?_toArray, List.getElem?_cons_zero] at co1; have zo1 := hbo1.frozen 0)))
        have hbs2 := hbs1.far (p := ⟨bo, 0, none⟩) (by show bs ≠ bo; omega) (.slice A1 m1 c1)
        have hbo2 := hbo1.set_ 0 (.slice A1 m1 c1)
        have hbf2 := hbf1.far (p := ⟨bo, 0, none⟩) (by show bf ≠ bo; omega) (.slice A1 m1 c1)
        have ho2 : OwnB (w2.setCell ⟨bo, 0, none⟩ (.slice A1 m1 c1)) base 5 (.slice A1 m1 c1) (out' ++ [UInt8.ofNat ((to - f') - 1)]) := ownsRow_setCell_below ho1 (by show bo < base; omega) (.slice A1 m1 c1)
        have hb2 : Below bo w (w2.setCell ⟨bo, 0, none⟩ (.slice A1 m1 c1)) := (hb.trans (hbl1.mono (by omega))).setCell (p := ⟨bo, 0, none⟩) (Nat.le_refl bo) (.slice A1 m1 c1)
        have hbz2 : base ≤ (w2.setCell ⟨bo, 0, none⟩ (.slice A1 m1 c1)).heap.size := by rw [World.size_setCell]; exact Nat.le_trans hbz hbl1.size
        simp only [List.setIfInBounds_toArray, List.set_cons_zero] at hbo2
        clear hbs1 hbo1 hbf1 co1 zo1 ho1 hg1 hbl1 hbs hbo hbf cs co cf zo zf hb ho
        generalize w2.setCell ⟨bo, 0, none⟩ (.slice A1 m1 c1) = w3 at hbs2 hbo2 hbf2 ho2 hb2 hbz2 ⊢
        have cs := hbs2.cell 0
        have co := hbo2.cell 0
        have cf := hbf2.cell 0
        simp only [List.getElem?_toArray, List.getElem?_cons_zero] at cs co cf
        go_still_tail 7, (by kernel_rfl)
        change wpList _ _ _ _ _ w3.drew
        replace hbs2 := hbs2.drew
        replace hbo2 := hbo2.drew
        replace hbf2 := hbf2.drew
        replace ho2 : OwnB w3.drew base 5 (.slice A1 m1 c1) (out' ++ [UInt8.ofNat ((to - f') - 1)]) := ho2
        replace hb2 := hb2.drew
        replace hbz2 : base ≤ w3.drew.heap.size := hbz2
        clear cs co cf
        generalize w3.drew = w4 at hbs2 hbo2 hbf2 ho2 hb2 hbz2 ⊢
        refine wpList_appS rfl _ _ _ _ rfl eltB Try.underlying9 _ (out' ++ [UInt8.ofNat ((to - f') - 1)]) rfl ho2 (s.extract f' e) rfl (by rw [hee]; simp; omega) hbz2 ?_
        intro v2 w5 ho3 hg3 hat3 hbl3
        obtain ⟨A2, m2, c2, rfl⟩ := own_slice ho3
        have hbs3 := hbs2.below hbl3 (by omega)
        have hbo3 := hbo2.below hbl3 (by omega)
        have hbf3 := hbf2.below hbl3 h3
        have co := hbo3.cell 0
        have cf := hbf3.cell 0
        simp only [List.getElem?_toArray, List.getElem?_cons_zero] at co cf
        have zo := hbo3.frozen 0
        have zf := hbf3.frozen 0
        go_wp2
        have hw6a := (hbs3.far (p := ⟨bo, 0, none⟩) (by show bs ≠ bo; omega) (.slice A2 m2 c2)).far (p := ⟨bf, 0, none⟩) (by show bs ≠ bf; omega) (.int .i64 (e : Int))
        have hw6b := (hbo3.set_ 0 (.slice A2 m2 c2)).far (p := ⟨bf, 0, none⟩) (by show bo ≠ bf; omega) (.int .i64 (e : Int))
        have hw6c := (hbf3.far (p := ⟨bo, 0, none⟩) (by show bf ≠ bo; omega) (.slice A2 m2 c2)).set_ 0 (.int .i64 (e : Int))
        simp only [List.setIfInBounds_toArray, List.set_cons_zero] at hw6b hw6c
        have ho6 := ownsRow_setCell_below (a := ⟨bf, 0, none⟩) (ownsRow_setCell_below (a := ⟨bo, 0, none⟩) ho3 (by show bo < base; omega) (.slice A2 m2 c2)) (by show bf < base; omega) (.int .i64 (e : Int))
        have hb6 := ((hb2.trans (hbl3.mono (by omega))).setCell (p := ⟨bo, 0, none⟩) (Nat.le_refl bo) (.slice A2 m2 c2)).setCell (p := ⟨bf, 0, none⟩) (by show bo ≤ bf; omega) (.int .i64 (e : Int))
        have hz6 : base ≤ ((w5.setCell ⟨bo, 0, none⟩ (.slice A2 m2 c2)).setCell ⟨bf, 0, none⟩ (.int .i64 (e : Int))).heap.size := by rw [World.size_setCell, World.size_setCell]; exact Nat.le_trans hbz2 hbl3.size
        have hc6 := hw6c.cell 0
        simp only [List.getElem?_toArray, List.getElem?_cons_zero] at hc6
        have hle : e ≤ to := by have := HE.out; omega
        have hl6 : ((out' ++ [UInt8.ofNat ((to - f') - 1)]) ++ (s.extract f' e).data.toList).length ≤ 100000 + 2 * (e - f) := by
          rw [List.length_append, List.length_append, size_list', hee, List.length_singleton]
          have := HE.out
          omega
        go_roundw
        case rel => exact ⟨e, _, _, by omega, hle, hl6, ⟨hw6a, hw6b, hw6c⟩, ho6, hb6, hz6, HN⟩
        case measure =>
          have := HE.out
          simp only [hc6, cf0, Int.toNat_natCast]
          omega
      · have HN := Lib.hid (pl_step s f' to 128 out' _ hlt hto (by omega) HI.out)
        have hn1 : 0 < 128 := by omega
        have hn2 : 128 ≤ 128 := by omega
        have hn3 : f' + 128 ≤ to := by omega
        have hn4 : f' + 128 ≤ s.size := by omega
        obtain ⟨e, hE⟩ : ∃ e : Nat, e = f' + 128 := ⟨_, rfl⟩
        rw [← hE] at HN
        have hw1 : IntKind.i64.wrap ((f' : Int) + 128) = (e : Int) := by rw [IntWalk.i64_in _ (by omega)]; omega
        have he1 : f' ≤ e := by omega
        have he2 : e ≤ s.size := by omega
        have he3 : (e : Int) ≤ s.size := by omega
        have hee := extsz s f' e he2
        have HE := Lib.hid hE
        clear hE
        have hne1 : ¬ bo = bf := by omega
        have hne2 : ¬ bf = bo := by omega
        go_wp2_with (first
          | fail
          | (at_builtin; go_must (refine wpList_appL rfl _ _ _ rfl eltB _ out' rfl ho _ _ [UInt8.ofNat (128 - 1)] 1 1 rfl (impl_cells1 (128 - 1) _ (by omega) (by omega)) rfl (by simp; omega) hbz ?_; intro v1 w2 ho1 hg1 hat1 hbl1; obtain ⟨A1, m1, c1, rfl⟩ := own_slice ho1; have hbs1 := hbs.below hbl1 (by omega); have hbo1 := hbo.below hbl1 (by omega); have hbf1 := hbf.below hbl1 h3; have co1 := hbo1.cell 0; simp only [List.getElem?_toArray, List.getElem?_cons_zero] at co1; have zo1 := hbo1.frozen 0)))
        have hbs2 := hbs1.far (p := ⟨bo, 0, none⟩) (by show bs ≠ bo; omega) (.slice A1 m1 c1)
        have hbo2 := hbo1.set_ 0 (.slice A1 m1 c1)
        have hbf2 := hbf1.far (p := ⟨bo, 0, none⟩) (by show bf ≠ bo; omega) (.slice A1 m1 c1)
        have ho2 : OwnB (w2.setCell ⟨bo, 0, none⟩ (.slice A1 m1 c1)) base 5 (.slice A1 m1 c1) (out' ++ [UInt8.ofNat (128 - 1)]) := ownsRow_setCell_below ho1 (by show bo < base; omega) (.slice A1 m1 c1)
        have hb2 : Below bo w (w2.setCell ⟨bo, 0, none⟩ (.slice A1 m1 c1)) := (hb.trans (hbl1.mono (by omega))).setCell (p := ⟨bo, 0, none⟩) (Nat.le_refl bo) (.slice A1 m1 c1)
        have hbz2 : base ≤ (w2.setCell ⟨bo, 0, none⟩ (.slice A1 m1 c1)).heap.size := by rw [World.size_setCell]; exact Nat.le_trans hbz hbl1.size
        simp only [List.setIfInBounds_toArray, List.set_cons_zero] at hbo2
        clear hbs1 hbo1 hbf1 co1 zo1 ho1 hg1 hbl1 hbs hbo hbf cs co cf zo zf hb ho
        generalize w2.setCell ⟨bo, 0, none⟩ (.slice A1 m1 c1) = w3 at hbs2 hbo2 hbf2 ho2 hb2 hbz2 ⊢
        have cs := hbs2.cell 0
        have co := hbo2.cell 0
        have cf := hbf2.cell 0
        simp only [List.getElem?_toArray, List.getElem?_cons_zero] at cs co cf
        go_still_tail 7, (by kernel_rfl)
        change wpList _ _ _ _ _ w3.drew
        replace hbs2 := hbs2.drew
        replace hbo2 := hbo2.drew
        replace hbf2 := hbf2.drew
        replace ho2 : OwnB w3.drew base 5 (.slice A1 m1 c1) (out' ++ [UInt8.ofNat (128 - 1)]) := ho2
        replace hb2 := hb2.drew
        replace hbz2 : base ≤ w3.drew.heap.size := hbz2
        clear cs co cf
        generalize w3.drew = w4 at hbs2 hbo2 hbf2 ho2 hb2 hbz2 ⊢
        refine wpList_appS rfl _ _ _ _ rfl eltB Try.underlying9 _ (out' ++ [UInt8.ofNat (128 - 1)]) rfl ho2 (s.extract f' e) rfl (by rw [hee]; simp; omega) hbz2 ?_
        intro v2 w5 ho3 hg3 hat3 hbl3
        obtain ⟨A2, m2, c2, rfl⟩ := own_slice ho3
        have hbs3 := hbs2.below hbl3 (by omega)
        have hbo3 := hbo2.below hbl3 (by omega)
        have hbf3 := hbf2.below hbl3 h3
        have co := hbo3.cell 0
        have cf := hbf3.cell 0
        simp only [List.getElem?_toArray, List.getElem?_cons_zero] at co cf
        have zo := hbo3.frozen 0
        have zf := hbf3.frozen 0
        go_wp2
        have hw6a := (hbs3.far (p := ⟨bo, 0, none⟩) (by show bs ≠ bo; omega) (.slice A2 m2 c2)).far (p := ⟨bf, 0, none⟩) (by show bs ≠ bf; omega) (.int .i64 (e : Int))
        have hw6b := (hbo3.set_ 0 (.slice A2 m2 c2)).far (p := ⟨bf, 0, none⟩) (by show bo ≠ bf; omega) (.int .i64 (e : Int))
        have hw6c := (hbf3.far (p := ⟨bo, 0, none⟩) (by show bf ≠ bo; omega) (.slice A2 m2 c2)).set_ 0 (.int .i64 (e : Int))
        simp only [List.setIfInBounds_toArray, List.set_cons_zero] at hw6b hw6c
        have ho6 := ownsRow_setCell_below (a := ⟨bf, 0, none⟩) (ownsRow_setCell_below (a := ⟨bo, 0, none⟩) ho3 (by show bo < base; omega) (.slice A2 m2 c2)) (by show bf < base; omega) (.int .i64 (e : Int))
        have hb6 := ((hb2.trans (hbl3.mono (by omega))).setCell (p := ⟨bo, 0, none⟩) (Nat.le_refl bo) (.slice A2 m2 c2)).setCell (p := ⟨bf, 0, none⟩) (by show bo ≤ bf; omega) (.int .i64 (e : Int))
        have hz6 : base ≤ ((w5.setCell ⟨bo, 0, none⟩ (.slice A2 m2 c2)).setCell ⟨bf, 0, none⟩ (.int .i64 (e : Int))).heap.size := by rw [World.size_setCell, World.size_setCell]; exact Nat.le_trans hbz2 hbl3.size
        have hc6 := hw6c.cell 0
        simp only [List.getElem?_toArray, List.getElem?_cons_zero] at hc6
        have hle : e ≤ to := by have := HE.out; omega
        have hl6 : ((out' ++ [UInt8.ofNat (128 - 1)]) ++ (s.extract f' e).data.toList).length ≤ 100000 + 2 * (e - f) := by
          rw [List.length_append, List.length_append, size_list', hee, List.length_singleton]
          have := HE.out
          omega
        go_roundw
        case rel => exact ⟨e, _, _, by omega, hle, hl6, ⟨hw6a, hw6b, hw6c⟩, ho6, hb6, hz6, HN⟩
        case measure =>
          have := HE.out
          simp only [hc6, cf0, Int.toNat_natCast]
          omega
    · obtain rfl : f' = to := by omega
      have hsn : seg s f' f' = [] := List.eq_nil_of_length_eq_zero (by rw [seg_length s _ _ hto]; omega)
      have HR := Lib.hid (show out' = out ++ plL (seg s f f') from by rw [← HI.out, hsn, plL_nil, List.append_nil])
      go_wp2
      go_end0
      exact ⟨rfl, v', ⟨hbs, hbo, hbf⟩, by rw [← HR.out]; exact ho, hb, hbz⟩
end Go.Proofs.Ytemppogailpoiaa
namespace Go.Proofs.Ytemppogailpoiaa
set_option linter.unusedVariables false
open Go.RowKit

set_option maxRecDepth 100000 in
set_option maxHeartbeats 1000000 in
theorem packBytes_any (s : ByteArray) (w : World) (hs : s.size ≤ 4096) :
    Calls Try.prog 80 #[.string s] w fun e w' => e = .returned (.string ⟨(pbG s 0 0 []).toArray⟩) ∧ Below w.heap.size w w' := by
  go_enter Try.func80, Try.ntmps80
  go_wp2
  go_loopw [6, 7, 8] (fun av _ _ wr => ∃ (at_ from_ : Nat) (out : List UInt8) (v : Value), from_ ≤ at_ ∧ at_ ≤ s.size ∧ out.length ≤ 2 * from_ ∧ av = .int .i64 at_ ∧ Shares wr w.heap.size (w.heap.size + 1) (w.heap.size + 2) s v from_ ∧ OwnB wr (w.heap.size + 3) 5 v out ∧ Below w.heap.size w wr ∧ w.heap.size + 3 ≤ wr.heap.size ∧ Hid (pbG s at_ from_ out = pbG s 0 0 []))
    (fun av _ _ _ => s.size - (intOf av).toNat)
  case atStart =>
    have k1 := ((Blk.new w 9 #[.string s]).alloc (Obj.cells #[Value.slice none 0 0] 22)).alloc (Obj.cells #[Value.int IntKind.i64 0] 3)
    have k2 := (Blk.new (w.alloc (Obj.cells #[Value.string s] 9)) 22 #[.slice none 0 0]).alloc (Obj.cells #[Value.int IntKind.i64 0] 3)
    have k3 := Blk.new ((w.alloc (Obj.cells #[Value.string s] 9)).alloc (Obj.cells #[Value.slice none 0 0] 22)) 3 #[.int .i64 0]
    simp only [World.size_alloc] at k2 k3
    exact ⟨0, 0, [], _, by omega, by omega, by simp, rfl, ⟨k1, k2, k3⟩, OwnB.nil _ _ _, below_alloc (below_alloc (below_alloc (Below.refl _ _) _) _) _, by simp only [World.size_alloc]; omega, Lib.hid rfl⟩
  case round =>
    obtain ⟨at_, from_, out, v, hfa, has, hol, rfl, hS, hown, hb, hbz, HI⟩ := hrel
    obtain ⟨hbs, hbo, hbf⟩ := id hS
    have cs := hbs.cell 0
    have co := hbo.cell 0
    have cf := hbf.cell 0
    simp only [List.getElem?_toArray, List.getElem?_cons_zero] at cs co cf
    have hpl := plL_len (at_ - from_) (seg s from_ at_) (by rw [seg_length s _ _ has]; exact Nat.le_refl _)
    rw [seg_length s _ _ has] at hpl
    by_cases hlt : at_ < s.size
    · have hrb := refer_bd s at_
      have hM : mostAt s at_ = min 130 (s.size - at_) := rfl
      have hF : farAt at_ = min 255 at_ := rfl
      have hcall := fun W => reference_any s at_ W (by omega) hlt
      obtain ⟨n, d, hr⟩ : ∃ n d, refer s at_ = (n, d) := ⟨_, _, rfl⟩
      have HRF := Lib.hid hr
      rw [hr] at hrb hcall
      simp only at hrb hcall
      clear hr
      by_cases h3 : n < 3
      · have HN := Lib.hid (pbG_skip s at_ from_ out _ hlt n d HRF.out h3 HI.out)
        have g1 : (n : Int) < 3 := by omega
        go_wp2_with (first | (go_at_call 90; refine (hcall _).mono ?_; rintro e w1 ⟨rfl, q1, rfl⟩))
        go_roundw
        case rel => exact ⟨at_ + 1, from_, out, v, by omega, by omega, hol, by go_num, ⟨hbs.drewN _, hbo.drewN _, hbf.drewN _⟩, hown.drewN _, below_drewN hb _, hbz, HN⟩
        case measure => (simp [intOf] <;> omega)
      · have HN := Lib.hid (pbG_ref s at_ from_ out _ hlt n d HRF.out h3 HI.out)
        go_wp2_with (first
          | (go_at_call 90; refine (hcall _).mono ?_; rintro e w1 ⟨rfl, q1, rfl⟩)
          | (go_at_call 89; go_must (refine (flush_any s w.heap.size (w.heap.size + 1) (w.heap.size + 2) from_ at_ out v _ (w.heap.size + 3) (by omega) (by omega) (by omega) (by exact hbz) ⟨hbs.drewN _, hbo.drewN _, hbf.drewN _⟩ (hown.drewN _) hs (by omega) hfa has).mono ?_); rintro e w2 ⟨rfl, v2, ⟨hbs2, hbo2, hbf2⟩, ho2, hb2, hz2⟩; have co2 := hbo2.cell 0; simp only [List.getElem?_toArray, List.getElem?_cons_zero] at co2)
          | (at_builtin; go_must (refine wpList_appL rfl _ _ _ rfl eltB _ (out ++ plL (seg s from_ at_)) rfl ho2 _ _ [UInt8.ofNat (n + 125), UInt8.ofNat d] 2 2 rfl (impl_cells2 (n + 125) d _ _ (by omega) (by omega) (by omega) (by omega)) rfl (by rw [List.length_append]; simp; omega) hz2 ?_); intro v3 w3 ho3 hg3 hat3 hbl3; obtain ⟨A3, m3, c3, rfl⟩ := own_slice ho3; have hbs3 := hbs2.below hbl3 (by omega); have hbo3 := hbo2.below hbl3 (by omega); have hbf3 := hbf2.below hbl3 (by omega); have co3 := hbo3.cell 0; have cf3 := hbf3.cell 0; simp only [List.getElem?_toArray, List.getElem?_cons_zero] at co3 cf3; have zo3 := hbo3.frozen 0; have zf3 := hbf3.frozen 0))
        have hz3 := hbl3.size
        have hbs4 := (hbs3.far (p := ⟨w.heap.size + 1, 0, none⟩) (by show w.heap.size ≠ w.heap.size + 1; omega) (.slice A3 m3 c3)).far (p := ⟨w.heap.size + 2, 0, none⟩) (by show w.heap.size ≠ w.heap.size + 2; omega) (.int .i64 ((at_ : Int) + n))
        have hbo4 := (hbo3.set_ 0 (.slice A3 m3 c3)).far (p := ⟨w.heap.size + 2, 0, none⟩) (by show w.heap.size + 1 ≠ w.heap.size + 2; omega) (.int .i64 ((at_ : Int) + n))
        have hbf4 := (hbf3.far (p := ⟨w.heap.size + 1, 0, none⟩) (by show w.heap.size + 2 ≠ w.heap.size + 1; omega) (.slice A3 m3 c3)).set_ 0 (.int .i64 ((at_ : Int) + n))
        simp only [List.setIfInBounds_toArray, List.set_cons_zero] at hbo4 hbf4
        have ho4 := ownsRow_setCell_below (a := ⟨w.heap.size + 2, 0, none⟩) (ownsRow_setCell_below (a := ⟨w.heap.size + 1, 0, none⟩) ho3 (by show w.heap.size + 1 < w.heap.size + 3; omega) (.slice A3 m3 c3)) (by show w.heap.size + 2 < w.heap.size + 3; omega) (.int .i64 ((at_ : Int) + n))
        have hb4 := (((((below_drewN hb q1).trans (hb2.mono (by omega))).trans (hbl3.mono (by omega))).setCell (p := ⟨w.heap.size + 1, 0, none⟩) (by show w.heap.size ≤ w.heap.size + 1; omega) (.slice A3 m3 c3)).setCell (p := ⟨w.heap.size + 2, 0, none⟩) (by show w.heap.size ≤ w.heap.size + 2; omega) (.int .i64 ((at_ : Int) + n)))
        have hz4 : w.heap.size + 3 ≤ ((w3.setCell ⟨w.heap.size + 1, 0, none⟩ (.slice A3 m3 c3)).setCell ⟨w.heap.size + 2, 0, none⟩ (.int .i64 ((at_ : Int) + n))).heap.size := by rw [World.size_setCell, World.size_setCell]; omega
        have hl4 : ((out ++ plL (seg s from_ at_)) ++ [UInt8.ofNat (n + 125), UInt8.ofNat d]).length ≤ 2 * (at_ + n) := by
          simp only [List.length_append, List.length_cons, List.length_nil]
          omega
        have hcast : ((at_ : Int) + n) = ((at_ + n : Nat) : Int) := by omega
        go_roundw
        case rel => exact ⟨at_ + n, at_ + n, _, _, by omega, by omega, hl4, by go_num, ⟨hbs4, hbo4, by rw [← hcast]; exact hbf4⟩, ho4, hb4, hz4, HN⟩
        case measure => (simp [intOf] <;> omega)
    · have hat : at_ = s.size := by omega
      have HR := Lib.hid (pbG_end s at_ from_ out _ hlt HI.out)
      have hpl2 := plL_len (s.size - from_) (seg s from_ s.size) (by rw [seg_length s _ _ (Nat.le_refl _)]; exact Nat.le_refl _)
      go_wp2_with (first
        | (go_at_call 89; go_must (refine (flush_any s w.heap.size (w.heap.size + 1) (w.heap.size + 2) from_ s.size out v _ (w.heap.size + 3) (by omega) (by omega) (by omega) hbz hS hown hs (by omega) (by omega) (Nat.le_refl _)).mono ?_); rintro e w2 ⟨rfl, v2, ⟨hbs2, hbo2, hbf2⟩, ho2, hb2, hz2⟩; obtain ⟨A2, m2, c2, rfl⟩ := own_slice ho2; have co2 := hbo2.cell 0; simp only [List.getElem?_toArray, List.getElem?_cons_zero] at co2; have hcv := run_b2s (P := Try.prog) (dst := 9) Try.underlying22 Try.underlying5 Try.underlying9 ho2))
      go_ret
      exact ⟨congrArg (fun o : List UInt8 => Ending.returned (.string ⟨o.toArray⟩)) HR.out.symm, hb.trans (hb2.mono (by omega))⟩

end Go.Proofs.Ytemppogailpoiaa
namespace Go.Proofs.Ytemppogailpoiaa
set_option linter.unusedVariables false
open Go.RowKit

/-- One step: none where the text is malformed. -/
def urStep (s : ByteArray) (at_ : Nat) (out : List UInt8) : Option (Nat × List UInt8) :=
  if bt s at_ < 64 then
    if at_ + bt s at_ + 2 ≤ s.size then some (at_ + bt s at_ + 2, out ++ seg s (at_ + 1) (at_ + bt s at_ + 2)) else none
  else if bt s at_ ≤ 125 ∧ at_ + 1 < s.size then some (at_ + 2, out ++ List.replicate (bt s at_ - 61) (s.data.toList.getD (at_ + 1) 0)) else none
def urG (s : ByteArray) : Nat → Nat → List UInt8 → Option (List UInt8)
  | 0, _, out => if 4096 < out.length then none else some out
  | f + 1, at_, out =>
    if at_ < s.size then
      match urStep s at_ out with
      | none => none
      | some (at', out') => urG s f at' out'
    else if 4096 < out.length then none else some out
def ur (s : ByteArray) : Option (List UInt8) := if 8192 < s.size then none else urG s (s.size + 1) 0 []
theorem ur_big (s : ByteArray) (h : 8192 < s.size) : ur s = none := if_pos h
theorem ur_start (s : ByteArray) (h : s.size ≤ 8192) : urG s (s.size + 1) 0 [] = ur s := (if_neg (by omega)).symm
theorem urG_end (s : ByteArray) (f at_ : Nat) (out : List UInt8) (h : ¬ at_ < s.size) {R : Option (List UInt8)} (hr : urG s f at_ out = R) (hl : ¬ 4096 < out.length) : R = some out := by
  subst hr
  cases f with
  | zero => simp [urG, hl]
  | succ f => simp [urG, h, hl]
theorem urG_end_no (s : ByteArray) (f at_ : Nat) (out : List UInt8) (h : ¬ at_ < s.size) {R : Option (List UInt8)} (hr : urG s f at_ out = R) (hl : 4096 < out.length) : R = none := by
  subst hr
  cases f with
  | zero => simp [urG, hl]
  | succ f => simp [urG, h, hl]
theorem urG_none (s : ByteArray) (f at_ : Nat) (out : List UInt8) (h : at_ < s.size) {R : Option (List UInt8)} (hr : urG s (f + 1) at_ out = R) (hs : urStep s at_ out = none) : R = none := by
  subst hr
  simp [urG, h, hs]
theorem urG_go (s : ByteArray) (f at_ at' : Nat) (out out' : List UInt8) (h : at_ < s.size) {R : Option (List UInt8)} (hr : urG s (f + 1) at_ out = R) (hs : urStep s at_ out = some (at', out')) : urG s f at' out' = R := by
  subst hr
  simp [urG, h, hs]
theorem urStep_more (s : ByteArray) (at_ at' : Nat) (out out' : List UInt8) (hs : urStep s at_ out = some (at', out')) : out.length ≤ out'.length := by
  unfold urStep at hs
  split at hs
  · split at hs
    · injection hs with hs; injection hs with _ hs; subst hs; simp
    · cases hs
  · split at hs
    · injection hs with hs; injection hs with _ hs; subst hs; simp
    · cases hs
theorem urG_long (s : ByteArray) : ∀ (f at_ : Nat) (out : List UInt8), 4096 < out.length → urG s f at_ out = none
  | 0, at_, out, h => by simp [urG, h]
  | f + 1, at_, out, h => by
    unfold urG
    split
    · split
      · rfl
      · rename_i at' out' hs
        have := urStep_more s at_ at' out out' hs
        exact urG_long s f at' out' (by omega)
    · first | rfl | rw [if_pos h]
theorem urG_over (s : ByteArray) (f at_ : Nat) (out : List UInt8) {R : Option (List UInt8)} (hr : urG s f at_ out = R) (h : 4096 < out.length) : R = none := by
  rw [← hr]
  exact urG_long s f at_ out h
theorem urStep_lit (s : ByteArray) (at_ : Nat) (out : List UInt8) (h : bt s at_ < 64) (h2 : at_ + bt s at_ + 2 ≤ s.size) : urStep s at_ out = some (at_ + bt s at_ + 2, out ++ seg s (at_ + 1) (at_ + bt s at_ + 2)) := by
  simp [urStep, h, h2]
theorem urStep_lit_no (s : ByteArray) (at_ : Nat) (out : List UInt8) (h : bt s at_ < 64) (h2 : ¬ at_ + bt s at_ + 2 ≤ s.size) : urStep s at_ out = none := by
  simp [urStep, h, h2]
theorem urStep_run (s : ByteArray) (at_ : Nat) (out : List UInt8) (h : ¬ bt s at_ < 64) (h2 : at_ + 1 < s.size) (h3 : bt s at_ ≤ 125) :
    urStep s at_ out = some (at_ + 2, out ++ List.replicate (bt s at_ - 61) (s.data.toList.getD (at_ + 1) 0)) := by
  simp [urStep, h, h2, h3]
theorem urStep_run_no (s : ByteArray) (at_ : Nat) (out : List UInt8) (h : ¬ bt s at_ < 64) (h2 : ¬ (bt s at_ ≤ 125 ∧ at_ + 1 < s.size)) : urStep s at_ out = none := by
  unfold urStep
  rw [if_neg h, if_neg h2]
theorem bt_getD (s : ByteArray) (k : Nat) : (s.data.toList.getD k 0).toNat = bt s k := rfl
theorem repl_snoc {α : Type} (l : List α) (n : Nat) (x : α) : l ++ List.replicate (n + 1) x = (l ++ [x]) ++ List.replicate n x := by
  rw [List.replicate_succ]
  simp
end Go.Proofs.Ytemppogailpoiaa
namespace Go.Proofs.Ytemppogailpoiaa
set_option linter.unusedVariables false
open Go.RowKit

theorem sz_list (T : ByteArray) : T.data.toList.length = T.size := Array.length_toList
theorem bt_at {T : ByteArray} {out r : List UInt8} {x : UInt8} (h : T.data.toList = out ++ x :: r) : bt T out.length = x.toNat := by
  unfold bt
  rw [h, List.getD_eq_getElem?_getD, List.getElem?_append_right (Nat.le_refl _), Nat.sub_self]
  rfl
theorem getD_at {T : ByteArray} {out r : List UInt8} {x : UInt8} {k : Nat} (h : T.data.toList = out ++ x :: r) (hk : k = out.length) : T.data.toList.getD k 0 = x := by
  rw [h, hk, List.getD_eq_getElem?_getD, List.getElem?_append_right (Nat.le_refl _), Nat.sub_self]
  rfl
theorem seg_tk (s : ByteArray) (a b : Nat) : seg s a b = (s.data.toList.drop a).take (b - a) := by
  unfold seg
  rw [ByteArray.data_extract, Array.toList_extract]
theorem seg_of {T : ByteArray} {a m r : List UInt8} {i j : Nat} (h : T.data.toList = a ++ m ++ r) (hi : i = a.length) (hj : j = a.length + m.length) : seg T i j = m := by
  rw [seg_tk, h, hi, hj, Nat.add_sub_cancel_left, List.append_assoc, List.drop_left, List.take_left]
theorem seg_0 (s : ByteArray) : seg s 0 0 = [] := by rw [seg_tk]; rfl
theorem seg_full (s : ByteArray) {n : Nat} (h : s.size ≤ n) : seg s 0 n = s.data.toList := by
  rw [seg_tk, List.drop_zero, List.take_of_length_le]
  rw [sz_list]
  omega
theorem seg_more (s : ByteArray) (a n : Nat) : seg s 0 (a + n) = seg s 0 a ++ seg s a (a + n) := by
  rw [seg_tk, seg_tk, seg_tk, List.drop_zero, Nat.sub_zero, Nat.sub_zero, Nat.add_sub_cancel_left, List.take_add]
theorem seg_get (s : ByteArray) (a n i : Nat) (h : i < n) (h2 : a + n ≤ s.size) (h3 : i < (seg s a (a + n)).length) : ((seg s a (a + n))[i]).toNat = bt s (a + i) := by
  have h4 : a + i < s.data.toList.length := by rw [sz_list]; omega
  have e : (seg s a (a + n))[i] = s.data.toList[a + i] := by
    simp only [seg_tk, List.getElem_take, List.getElem_drop]
  rw [e, bt, List.getD_eq_getElem?_getD, List.getElem?_eq_getElem h4]
  rfl
theorem seg_rep (s : ByteArray) (a n : Nat) (h2 : a + n ≤ s.size) (hs : ∀ i, i < n → bt s (a + i) = bt s a) : seg s a (a + n) = List.replicate n (UInt8.ofNat (bt s a)) := by
  have hl : (seg s a (a + n)).length = n := by rw [seg_length s _ _ h2]; omega
  refine List.ext_getElem (by rw [hl, List.length_replicate]) fun i h3 h4 => ?_
  rw [List.getElem_replicate]
  have h5 := seg_get s a n i (by omega) h2 h3
  rw [hs i (by omega)] at h5
  rw [← h5]
  exact UInt8.toNat_inj.1 (by rw [UInt8.toNat_ofNat']; have := ((seg s a (a + n))[i]).toNat_lt; omega)

theorem runF_same (s : ByteArray) (at_ m : Nat) : ∀ f, f < m → (∀ i, i < m - f → bt s (at_ + i) = bt s at_) → ∀ i, i < runF s at_ m f → bt s (at_ + i) = bt s at_
  | 0, _, h, i, hi => h i (by rw [runF] at hi; omega)
  | f + 1, hf, h, i, hi => by
    rw [runF] at hi
    split at hi
    · rename_i hc
      refine runF_same s at_ m f (by omega) (fun j hj => ?_) i hi
      by_cases e : j = m - (f + 1)
      · rw [e]; exact hc.2
      · exact h j (by omega)
    · exact h i hi
theorem runL_same (s : ByteArray) (at_ m : Nat) (hm : 1 ≤ m) : ∀ i, i < runL s at_ m → bt s (at_ + i) = bt s at_ :=
  runF_same s at_ m (m - 1) (by omega) (fun i hi => by rw [show i = 0 by omega]; rfl)

theorem pkrG_pre (s : ByteArray) : ∀ (f at_ : Nat) (out : List UInt8), ∃ t, pkrG s f at_ out = out ++ t
  | 0, _, out => ⟨[], by simp [pkrG]⟩
  | f + 1, at_, out => by
    rw [pkrG]
    split
    · split
      · obtain ⟨t, ht⟩ := pkrG_pre s f (at_ + runL s at_ 64) (out ++ [UInt8.ofNat (runL s at_ 64 + 61), UInt8.ofNat (bt s at_)])
        exact ⟨_, by rw [ht, List.append_assoc]⟩
      · obtain ⟨t, ht⟩ := pkrG_pre s f (at_ + litF s at_ 63) (out ++ [UInt8.ofNat (litF s at_ 63 - 1)] ++ seg s at_ (at_ + litF s at_ 63))
        exact ⟨_, by rw [ht, List.append_assoc, List.append_assoc]⟩
    · exact ⟨[], by simp⟩
theorem pkrG_len (s : ByteArray) : ∀ (f at_ : Nat) (out : List UInt8), at_ ≤ s.size → (pkrG s f at_ out).length ≤ out.length + 2 * (s.size - at_)
  | 0, _, out, _ => by simp [pkrG]
  | f + 1, at_, out, h => by
    rw [pkrG]
    split
    · rename_i hlt
      split
      · have b := runL_bd s at_ 64 (by omega) hlt
        have := pkrG_len s f (at_ + runL s at_ 64) (out ++ [UInt8.ofNat (runL s at_ 64 + 61), UInt8.ofNat (bt s at_)]) (by omega)
        simp only [List.length_append, List.length_cons, List.length_nil] at this
        omega
      · have b := litF_bd s at_ 63 (by omega) (by omega)
        have := pkrG_len s f (at_ + litF s at_ 63) (out ++ [UInt8.ofNat (litF s at_ 63 - 1)] ++ seg s at_ (at_ + litF s at_ 63)) (by omega)
        simp only [List.length_append, List.length_cons, List.length_nil] at this
        rw [seg_length s _ _ (by omega)] at this
        omega
    · omega
theorem ur_pkrG (s T : ByteArray) (h : s.size ≤ 4096) : ∀ (f at_ : Nat) (out : List UInt8) (F : Nat), at_ ≤ s.size → s.size < at_ + f → pkrG s f at_ out = T.data.toList → T.size < out.length + F → urG T F out.length (seg s 0 at_) = some s.data.toList
  | 0, at_, out, F, h1, h2, _, _ => absurd h2 (by omega)
  | f + 1, at_, out, F, h1, h2, hT, hF => by
    have hTl := sz_list T
    by_cases hlt : at_ < s.size
    · have hF1 : out.length < T.size := by
        obtain ⟨t, ht⟩ := pkrG_pre s (f + 1) at_ out
        rw [← hTl, ← hT]
        rw [pkrG, if_pos hlt]
        split
        · obtain ⟨t, ht⟩ := pkrG_pre s f (at_ + runL s at_ 64) (out ++ [UInt8.ofNat (runL s at_ 64 + 61), UInt8.ofNat (bt s at_)])
          rw [ht]; simp only [List.length_append, List.length_cons]; omega
        · obtain ⟨t, ht⟩ := pkrG_pre s f (at_ + litF s at_ 63) (out ++ [UInt8.ofNat (litF s at_ 63 - 1)] ++ seg s at_ (at_ + litF s at_ 63))
          rw [ht]; simp only [List.length_append, List.length_cons]; omega
      obtain ⟨F', rfl⟩ : ∃ F', F = F' + 1 := ⟨F - 1, by omega⟩
      by_cases h3 : 3 ≤ runL s at_ 64
      · have hp := pkrG_run s f at_ out hlt h3 hT
        have b := runL_bd s at_ 64 (by omega) hlt
        have hsame := runL_same s at_ 64 (by omega)
        generalize runL s at_ 64 = n at h3 hp b hsame
        obtain ⟨t, ht⟩ := pkrG_pre s f (at_ + n) (out ++ [UInt8.ofNat (n + 61), UInt8.ofNat (bt s at_)])
        rw [hp, List.append_assoc] at ht
        have ih := ur_pkrG s T h f (at_ + n) (out ++ [UInt8.ofNat (n + 61), UInt8.ofNat (bt s at_)]) F' (by omega) (by omega) hp (by simp only [List.length_append, List.length_cons, List.length_nil]; omega)
        have hb : bt T out.length = n + 61 := by
          rw [bt_at (T := T) (out := out) (r := UInt8.ofNat (bt s at_) :: t) (x := UInt8.ofNat (n + 61)) ht, UInt8.toNat_ofNat']
          omega
        have hg : T.data.toList.getD (out.length + 1) 0 = UInt8.ofNat (bt s at_) := getD_at (T := T) (out := out ++ [UInt8.ofNat (n + 61)]) (r := t) (by rw [ht]; simp) (by simp)
        have hsz : out.length + 1 < T.size := by rw [← hTl, ht]; simp
        have hs := urStep_run T out.length (seg s 0 at_) (by omega) hsz (by omega)
        rw [hg, hb, show n + 61 - 61 = n by omega, ← seg_rep s at_ n (by omega) hsame, ← seg_more] at hs
        refine (urG_go T F' out.length (out.length + 2) (seg s 0 at_) _ hF1 rfl hs).symm.trans ?_
        simpa using ih
      · have b := litF_bd s at_ 63 (by omega) (by omega)
        have hp := pkrG_lit s f at_ _ out hlt h3 rfl hT
        generalize litF s at_ 63 = n at hp b
        have hsl : (seg s at_ (at_ + n)).length = n := by rw [seg_length s _ _ (by omega)]; omega
        obtain ⟨t, ht⟩ := pkrG_pre s f (at_ + n) (out ++ [UInt8.ofNat (n - 1)] ++ seg s at_ (at_ + n))
        rw [hp] at ht
        have ih := ur_pkrG s T h f (at_ + n) (out ++ [UInt8.ofNat (n - 1)] ++ seg s at_ (at_ + n)) F' (by omega) (by omega) hp (by simp only [List.length_append, List.length_cons, List.length_nil]; omega)
        have hb : bt T out.length = n - 1 := by
          rw [bt_at (T := T) (out := out) (r := seg s at_ (at_ + n) ++ t) (x := UInt8.ofNat (n - 1)) (by rw [ht]; simp), UInt8.toNat_ofNat']
          omega
        have hsz : out.length + (n - 1) + 2 ≤ T.size := by
          rw [← hTl, ht]
          simp only [List.length_append, List.length_cons, List.length_nil, hsl]
          omega
        have hs := urStep_lit T out.length (seg s 0 at_) (by omega) (by omega)
        rw [hb, seg_of (T := T) (a := out ++ [UInt8.ofNat (n - 1)]) (m := seg s at_ (at_ + n)) (r := t) ht (by simp) (by rw [hsl]; simp; omega), ← seg_more] at hs
        refine (urG_go T F' out.length _ (seg s 0 at_) _ hF1 rfl hs).symm.trans ?_
        have e : (out ++ [UInt8.ofNat (n - 1)] ++ seg s at_ (at_ + n)).length = out.length + (n - 1) + 2 := by
          simp only [List.length_append, List.length_cons, List.length_nil, hsl]
          omega
        rw [e] at ih
        exact ih
    · have e := pkrG_end s (f + 1) at_ out hlt hT
      have e2 : T.size = out.length := by rw [← hTl, ← e]
      have hl : (seg s 0 at_).length = at_ := by rw [seg_length s _ _ (by omega)]; omega
      rw [urG_end T F out.length (seg s 0 at_) (by omega) rfl (by omega), seg_full s (by omega)]
theorem ur_pkr (s : ByteArray) (h : s.size ≤ 4096) : ∃ R, pkr s = some R ∧ ur ⟨R.toArray⟩ = some s.data.toList := by
  refine ⟨_, pkr_small s h, ?_⟩
  have hl := pkrG_len s (s.size + 1) 0 [] (Nat.zero_le _)
  have hz := sz_list ⟨(pkrG s (s.size + 1) 0 []).toArray⟩
  have e : (⟨(pkrG s (s.size + 1) 0 []).toArray⟩ : ByteArray).data.toList = pkrG s (s.size + 1) 0 [] := by simp
  rw [e] at hz
  simp only [List.length_nil] at hl
  rw [← ur_start _ (by omega)]
  have := ur_pkrG s ⟨(pkrG s (s.size + 1) 0 []).toArray⟩ h (s.size + 1) 0 [] ((⟨(pkrG s (s.size + 1) 0 []).toArray⟩ : ByteArray).size + 1) (by omega) (by omega) e.symm (by simp)
  rw [seg_0] at this
  exact this
end Go.Proofs.Ytemppogailpoiaa
namespace Go.Proofs.Ytemppogailpoiaa
set_option linter.unusedVariables false
open Go.RowKit

theorem unp_plL (T : ByteArray) : ∀ (k : Nat) (l : List UInt8), l.length ≤ k → ∀ (pre r o : List UInt8) (F : Nat), T.data.toList = pre ++ (plL l ++ r) → o.length + l.length ≤ 4096 → T.size < pre.length + F → ∃ F', T.size < pre.length + (plL l).length + F' ∧ unpG T F pre.length o = unpG T F' (pre.length + (plL l).length) (o ++ l) := by
  intro k
  induction k with
  | zero =>
    intro l hk pre r o F hT ho hF
    have : l = [] := List.eq_nil_of_length_eq_zero (by omega)
    subst this
    rw [plL_nil]
    exact ⟨F, by simpa using hF, by simp⟩
  | succ k ih =>
    intro l hk pre r o F hT ho hF
    by_cases h0 : 0 < l.length
    · obtain ⟨n, hn⟩ : ∃ n, n = min l.length 128 := ⟨_, rfl⟩
      have hp := plL_step l n h0 hn
      rw [hp] at hT
      have hb : bt T pre.length = n - 1 := by
        rw [bt_at (T := T) (out := pre) (r := l.take n ++ plL (l.drop n) ++ r) (x := UInt8.ofNat (n - 1)) (by rw [hT]; simp), UInt8.toNat_ofNat']
        omega
      have hT2 : T.data.toList = pre ++ [UInt8.ofNat (n - 1)] ++ l.take n ++ (plL (l.drop n) ++ r) := by rw [hT]; simp
      have htl : (l.take n).length = n := by rw [List.length_take]; omega
      have hsz : pre.length + (n - 1) + 2 ≤ T.size := by
        rw [← sz_list, hT2]
        simp only [List.length_append, List.length_cons, List.length_nil, htl]
        omega
      obtain ⟨F1, rfl⟩ : ∃ F1, F = F1 + 1 := ⟨F - 1, by omega⟩
      have hs := unpStep_lit T pre.length o (by omega) (by omega)
      rw [hb, seg_of (T := T) (a := pre ++ [UInt8.ofNat (n - 1)]) (m := l.take n) (r := plL (l.drop n) ++ r) hT2 (by simp) (by rw [htl]; simp; omega)] at hs
      have hg := unpG_go T F1 pre.length _ o _ (by omega) rfl hs (by rw [List.length_append, htl]; omega)
      have hl2 : (pre ++ [UInt8.ofNat (n - 1)] ++ l.take n).length = pre.length + (n - 1) + 2 := by
        simp only [List.length_append, List.length_cons, List.length_nil, htl]
        omega
      obtain ⟨F', h1, h2⟩ := ih (l.drop n) (by rw [List.length_drop]; omega) (pre ++ [UInt8.ofNat (n - 1)] ++ l.take n) r (o ++ l.take n) F1 hT2 (by rw [List.length_append, htl, List.length_drop]; omega) (by omega)
      refine ⟨F', ?_, ?_⟩
      · rw [hp, List.length_cons, List.length_append, htl]
        omega
      · rw [← hg, ← hl2, h2, List.append_assoc o, List.take_append_drop, hp, hl2, List.length_cons, List.length_append, htl]
        congr 1
        omega
    · have : l = [] := List.eq_nil_of_length_eq_zero (by omega)
      subst this
      rw [plL_nil]
      exact ⟨F, by simpa using hF, by simp⟩

theorem mat_ok (s : ByteArray) (at_ d most : Nat) : ∀ f n, most - n ≤ f → (∀ i, i < n → bt s (at_ + i) = bt s (at_ + i - d)) → ∀ i, i < mat s at_ d most n → bt s (at_ + i) = bt s (at_ + i - d)
  | 0, n, h, hn, i, hi => by rw [mat_end s at_ d most n (by omega)] at hi; exact hn i hi
  | f + 1, n, h, hn, i, hi => by
    by_cases hlt : n < most
    · by_cases he : bt s (at_ + n) = bt s (at_ + n - d)
      · rw [mat_yes s at_ d most n hlt he] at hi
        refine mat_ok s at_ d most f (n + 1) (by omega) (fun j hj => ?_) i hi
        by_cases e : j = n
        · rw [e]; exact he
        · exact hn j (by omega)
      · rw [mat_ne s at_ d most n he] at hi; exact hn i hi
    · rw [mat_end s at_ d most n hlt] at hi; exact hn i hi
theorem ml_ok (s : ByteArray) (at_ d most : Nat) : ∀ i, i < ml s at_ d most → bt s (at_ + i) = bt s (at_ + i - d) := mat_ok s at_ d most most 0 (by omega) (fun i hi => absurd hi (by omega))
theorem bestR_ok (s : ByteArray) (at_ most D : Nat) : ∀ f d best far, D + 1 - d ≤ f → 1 ≤ d → (best = 0 ∨ (1 ≤ far ∧ far ≤ D ∧ best = ml s at_ far most)) → ((bestR s at_ most D d best far).1 = 0 ∨ (1 ≤ (bestR s at_ most D d best far).2 ∧ (bestR s at_ most D d best far).2 ≤ D ∧ (bestR s at_ most D d best far).1 = ml s at_ (bestR s at_ most D d best far).2 most))
  | 0, d, best, far, h, h1, hb => by rw [bestR, dif_neg (by omega)]; exact hb
  | f + 1, d, best, far, h, h1, hb => by
    by_cases hd : d ≤ D
    · rw [bestR, dif_pos hd]
      split
      · exact bestR_ok s at_ most D f (d + 1) _ d (by omega) (by omega) (.inr ⟨h1, hd, rfl⟩)
      · exact bestR_ok s at_ most D f (d + 1) best far (by omega) (by omega) hb
    · rw [bestR, dif_neg hd]; exact hb
theorem refer_ok (s : ByteArray) (at_ n d : Nat) (h : refer s at_ = (n, d)) (h3 : ¬ n < 3) : 1 ≤ d ∧ d ≤ 255 ∧ d ≤ at_ ∧ n ≤ 130 ∧ n ≤ s.size - at_ ∧ ∀ i, i < n → bt s (at_ + i) = bt s (at_ + i - d) := by
  have hb := refer_bd s at_
  have hk := bestR_ok s at_ (mostAt s at_) (farAt at_) (farAt at_ + 1) 1 0 0 (by omega) (by omega) (.inl rfl)
  have e : bestR s at_ (mostAt s at_) (farAt at_) 1 0 0 = (n, d) := h
  rw [h] at hb
  rw [e] at hk
  simp only [mostAt, farAt] at hb
  rcases hk with hk | ⟨k1, k2, k3⟩
  · simp only at hk; omega
  · simp only at k1 k2 k3
    simp only [farAt] at k2
    refine ⟨k1, by omega, by omega, by omega, by omega, fun i hi => ?_⟩
    exact ml_ok s at_ d (mostAt s at_) i (by omega)
theorem seg_getD (s : ByteArray) (n k : Nat) (h : k < n) (h2 : n ≤ s.size) : (seg s 0 n).getD k 0 = UInt8.ofNat (bt s k) := by
  have h3 : k < s.data.toList.length := by rw [sz_list]; omega
  have e : (seg s 0 n).getD k 0 = s.data.toList.getD k 0 := by
    rw [seg_tk, List.drop_zero, Nat.sub_zero, List.getD_eq_getElem?_getD, List.getD_eq_getElem?_getD, List.getElem?_take_of_lt h]
  rw [e, bt]
  exact UInt8.toNat_inj.1 (by rw [UInt8.toNat_ofNat']; have := (s.data.toList.getD k 0).toNat_lt; omega)
theorem cpyBack_seg (s : ByteArray) (d : Nat) (hd : 1 ≤ d) : ∀ n at_, d ≤ at_ → at_ + n ≤ s.size → (∀ i, i < n → bt s (at_ + i) = bt s (at_ + i - d)) → cpyBack d n (seg s 0 at_) = seg s 0 (at_ + n)
  | 0, at_, _, _, _ => rfl
  | n + 1, at_, h1, h2, h => by
    have hl : (seg s 0 at_).length = at_ := by rw [seg_length s _ _ (by omega)]; omega
    have h0 : bt s at_ = bt s (at_ - d) := h 0 (by omega)
    have e1 : seg s 0 (at_ + 1) = seg s 0 at_ ++ [UInt8.ofNat (bt s at_)] := by
      rw [seg_more, seg_rep s at_ 1 (by omega) (fun i hi => by rw [show i = 0 by omega]; rfl)]
      rfl
    rw [cpyBack, hl, seg_getD s at_ (at_ - d) (by omega) (by omega), ← h0, ← e1, cpyBack_seg s d hd n (at_ + 1) (by omega) (by omega) (fun i hi => by
      have := h (i + 1) (by omega)
      rw [show at_ + 1 + i = at_ + (i + 1) by omega]
      exact this)]
    congr 1
    omega

theorem pbG_pre (s : ByteArray) : ∀ (f at_ from_ : Nat) (out : List UInt8), s.size - at_ ≤ f → at_ ≤ s.size → ∃ t, pbG s at_ from_ out = out ++ t
  | 0, at_, from_, out, hf, h2 => ⟨_, pbG_end s at_ from_ out _ (by omega) rfl⟩
  | f + 1, at_, from_, out, hf, h2 => by
    by_cases h : at_ < s.size
    · rcases hnd : refer s at_ with ⟨n, d⟩
      by_cases h3 : n < 3
      · rw [← pbG_skip s at_ from_ out _ h n d hnd h3 rfl]
        exact pbG_pre s f (at_ + 1) from_ out (by omega) (by omega)
      · have hb := refer_ok s at_ n d hnd h3
        rw [← pbG_ref s at_ from_ out _ h n d hnd h3 rfl]
        obtain ⟨t, ht⟩ := pbG_pre s f (at_ + n) (at_ + n) ((out ++ plL (seg s from_ at_)) ++ [UInt8.ofNat (n + 125), UInt8.ofNat d]) (by omega) (by omega)
        exact ⟨_, by rw [ht, List.append_assoc, List.append_assoc]⟩
    · exact ⟨_, pbG_end s at_ from_ out _ h rfl⟩
theorem pbG_len2 (s : ByteArray) : ∀ (f at_ from_ : Nat) (out : List UInt8), s.size - at_ ≤ f → from_ ≤ at_ → at_ ≤ s.size → (pbG s at_ from_ out).length ≤ out.length + 2 * (s.size - from_)
  | 0, at_, from_, out, hf, h1, h2 => by
    have he := pbG_end s at_ from_ out _ (by omega) rfl
    have hp := plL_len (seg s from_ s.size).length (seg s from_ s.size) (Nat.le_refl _)
    rw [seg_length s _ _ (Nat.le_refl _)] at hp
    rw [he, List.length_append]
    omega
  | f + 1, at_, from_, out, hf, h1, h2 => by
    by_cases h : at_ < s.size
    · rcases hnd : refer s at_ with ⟨n, d⟩
      by_cases h3 : n < 3
      · have := pbG_len2 s f (at_ + 1) from_ out (by omega) (by omega) (by omega)
        rw [pbG_skip s at_ from_ out _ h n d hnd h3 rfl] at this
        exact this
      · have hb := (refer_bd s at_).1
        rw [hnd] at hb
        have hb' : n ≤ min 130 (s.size - at_) := hb
        have := pbG_len2 s f (at_ + n) (at_ + n) ((out ++ plL (seg s from_ at_)) ++ [UInt8.ofNat (n + 125), UInt8.ofNat d]) (by omega) (Nat.le_refl _) (by omega)
        rw [pbG_ref s at_ from_ out _ h n d hnd h3 rfl] at this
        have hp := plL_len (seg s from_ at_).length (seg s from_ at_) (Nat.le_refl _)
        rw [seg_length s _ _ (by omega)] at hp
        rw [List.length_append, List.length_append] at this
        simp only [List.length_cons, List.length_nil] at this
        omega
    · have he := pbG_end s at_ from_ out _ h rfl
      have hp := plL_len (seg s from_ s.size).length (seg s from_ s.size) (Nat.le_refl _)
      rw [seg_length s _ _ (Nat.le_refl _)] at hp
      rw [he, List.length_append]
      omega
theorem unp_pbG (s T : ByteArray) (hs : s.size ≤ 4096) : ∀ (f at_ from_ : Nat) (out : List UInt8) (F : Nat), s.size - at_ ≤ f → from_ ≤ at_ → at_ ≤ s.size → pbG s at_ from_ out = T.data.toList → T.size < out.length + F → unpG T F out.length (seg s 0 from_) = some s.data.toList := by
  have fin : ∀ (at_ from_ : Nat) (out : List UInt8) (F : Nat), ¬ at_ < s.size → from_ ≤ s.size → pbG s at_ from_ out = T.data.toList → T.size < out.length + F → unpG T F out.length (seg s 0 from_) = some s.data.toList := by
    intro at_ from_ out F h h1 hT hF
    have he := pbG_end s at_ from_ out _ h hT
    have hl := seg_length s from_ s.size (Nat.le_refl _)
    have hl0 := seg_length s 0 from_ h1
    obtain ⟨F', h3, h4⟩ := unp_plL T _ (seg s from_ s.size) (Nat.le_refl _) out [] (seg s 0 from_) F (by rw [he]; simp) (by omega) hF
    obtain ⟨m, hm⟩ : ∃ m, s.size = from_ + m := ⟨s.size - from_, by omega⟩
    rw [h4, unpG_end T F' _ _ (by rw [← sz_list T, he]; simp) rfl, hm, ← seg_more, seg_full s (by omega)]
  intro f
  induction f with
  | zero => intro at_ from_ out F hf h1 h2 hT hF; exact fin at_ from_ out F (by omega) (by omega) hT hF
  | succ f ih =>
    intro at_ from_ out F hf h1 h2 hT hF
    by_cases h : at_ < s.size
    · rcases hnd : refer s at_ with ⟨n, d⟩
      by_cases h3 : n < 3
      · exact ih (at_ + 1) from_ out F (by omega) (by omega) (by omega) (pbG_skip s at_ from_ out _ h n d hnd h3 hT) hF
      · obtain ⟨b1, b2, b3, b4, b5, b6⟩ := refer_ok s at_ n d hnd h3
        have hp := pbG_ref s at_ from_ out _ h n d hnd h3 hT
        obtain ⟨t, ht⟩ := pbG_pre s f (at_ + n) (at_ + n) ((out ++ plL (seg s from_ at_)) ++ [UInt8.ofNat (n + 125), UInt8.ofNat d]) (by omega) (by omega)
        rw [hp] at ht
        have hl := seg_length s from_ at_ (by omega)
        have hl0 := seg_length s 0 from_ (by omega)
        obtain ⟨F', h4, h5⟩ := unp_plL T _ (seg s from_ at_) (Nat.le_refl _) out ([UInt8.ofNat (n + 125), UInt8.ofNat d] ++ t) (seg s 0 from_) F (by rw [ht]; simp) (by omega) hF
        obtain ⟨m, hm⟩ : ∃ m, at_ = from_ + m := ⟨at_ - from_, by omega⟩
        have e0 : seg s 0 from_ ++ seg s from_ at_ = seg s 0 at_ := by rw [hm, ← seg_more]
        rw [h5, e0]
        have hpos : out.length + (plL (seg s from_ at_)).length = (out ++ plL (seg s from_ at_)).length := by rw [List.length_append]
        rw [hpos] at h4 ⊢
        generalize out ++ plL (seg s from_ at_) = q at *
        have hT1 : T.data.toList = q ++ UInt8.ofNat (n + 125) :: UInt8.ofNat d :: t := by rw [ht]; simp
        have hb : bt T q.length = n + 125 := by
          rw [bt_at hT1, UInt8.toNat_ofNat']
          omega
        have hT2 : T.data.toList = (q ++ [UInt8.ofNat (n + 125)]) ++ UInt8.ofNat d :: t := by rw [hT1]; simp
        have hd : bt T (q.length + 1) = d := by
          have := bt_at hT2
          rw [List.length_append, List.length_singleton, UInt8.toNat_ofNat'] at this
          omega
        have hsz : q.length + 1 < T.size := by rw [← sz_list, hT1]; simp
        obtain ⟨F1, rfl⟩ : ∃ F1, F' = F1 + 1 := ⟨F' - 1, by omega⟩
        have hl1 : (seg s 0 at_).length = at_ := by rw [seg_length s _ _ (by omega)]; omega
        have hst := unpStep_ref T q.length (seg s 0 at_) (by omega) hsz (by omega) (by rw [hd, hl1]; exact b3)
        rw [hb, hd, show n + 125 - 125 = n by omega, cpyBack_seg s d b1 n at_ b3 (by omega) b6] at hst
        have hl2 : (seg s 0 (at_ + n)).length = at_ + n := by rw [seg_length s _ _ (by omega)]; omega
        rw [← unpG_go T F1 q.length _ (seg s 0 at_) _ (by omega) rfl hst (by omega)]
        have h6 := ih (at_ + n) (at_ + n) (q ++ [UInt8.ofNat (n + 125), UInt8.ofNat d]) F1 (by omega) (Nat.le_refl _) (by omega) hp (by simp only [List.length_append, List.length_cons, List.length_nil]; omega)
        simpa using h6
    · exact fin at_ from_ out F h (by omega) hT hF
theorem unp_pack (s : ByteArray) (h : s.size ≤ 4096) : ∃ R, packB s = some R ∧ unp ⟨R.toArray⟩ = some s.data.toList := by
  refine ⟨_, packB_yes s (by omega), ?_⟩
  have hl := pbG_len2 s s.size 0 0 [] (by omega) (by omega) (by omega)
  have hz := sz_list ⟨(pbG s 0 0 []).toArray⟩
  have e : (⟨(pbG s 0 0 []).toArray⟩ : ByteArray).data.toList = pbG s 0 0 [] := by simp
  rw [e] at hz
  simp only [List.length_nil] at hl
  rw [← unp_start _ (by omega)]
  have := unp_pbG s ⟨(pbG s 0 0 []).toArray⟩ h s.size 0 0 [] ((⟨(pbG s 0 0 []).toArray⟩ : ByteArray).size + 1) (by omega) (by omega) (by omega) e.symm (by simp)
  rw [seg_0] at this
  exact this
end Go.Proofs.Ytemppogailpoiaa
