/- Walks: the texts XeM X2 X3 SDelta DelM X4 X6 StG X1 X7 X5 as one text. -/
import Derived.Test.YtbobehieaaaleaaGreatDoorN0
import Derived.Test.YtbobehieaaaleaaGreatDoorW3
import Derived.Test.YtbobehieaaaleaaGreatDoorShelf
import Derived.Test.YtbobehieaaaleaaGreatDoorMem2
import Derived.Test.YtbobehieaaaleaaGreatDoorW60
import Derived.Test.YtbobehieaaaleaaGreatDoorPut
import Derived.Test.YtbobehieaaaleaaGreatDoorMem4
import Derived.Test.YtbobehieaaaleaaGreatDoorW2
import Derived.Deep.DeepMust
import Derived.StillTailTactics
import Derived.OpenShut
import Derived.Test.YtbobehieaaaleaaGreatDoorMark
import Derived.Lib.SmallJoins
import Derived.Test.YtbobehieaaaleaaGreatDoorUnpM
import Derived.Lib.LazyBuf
import Derived.Lib.Strings
import Derived.Deep.RegionLaw
import Derived.Deep.RegionWith
import Derived.Deep.DeepCutAuto
import Derived.Deep.QuietTactic
import Derived.Test.YtbobehieaaaleaaGreatDoorW61
import Derived.Test.YtbobehieaaaleaaGreatDoorSInt64
import Derived.Lib.QuietBelow
import Derived.Test.YtbobehieaaaleaaGreatDoorQB
namespace Go.Proofs.YtbobehieaaaleaaGreatDoor
set_option linter.unusedVariables false
open Go.RowKit

theorem tr_nil (c : UInt8) : Lib.trimRightB [] c = [] := rfl
theorem tr_same (l : List UInt8) (c : UInt8) : Lib.trimRightB (l ++ [c]) c = Lib.trimRightB l c := by simp [Lib.trimRightB]
theorem tr_else (l : List UInt8) {x c : UInt8} (h : ¬ x = c) : Lib.trimRightB (l ++ [x]) c = l ++ [x] := by simp [Lib.trimRightB, h]
theorem tr_len (l : List UInt8) (c : UInt8) : (Lib.trimRightB l c).length ≤ l.length := by
  unfold Lib.trimRightB
  rw [List.length_reverse]
  have := (List.dropWhile_sublist (fun x => x == c) (l := l.reverse)).length_le
  rw [List.length_reverse] at this
  exact this
def trB (s : ByteArray) (c : UInt8) : ByteArray := ⟨(Lib.trimRightB s.data.toList c).toArray⟩
theorem trB_size (s : ByteArray) (c : UInt8) : (trB s c).size ≤ s.size := by
  have := tr_len s.data.toList c
  rw [Array.length_toList] at this
  show (Lib.trimRightB s.data.toList c).toArray.size ≤ s.size
  rw [List.size_toArray]
  exact this
theorem last_list (s : ByteArray) (m : Nat) (h : s.size = m + 1) : s.data.toList = (s.extract 0 m).data.toList ++ [s[m]] := by
  have h1 : (s.extract 0 m).data.toList = s.data.toList.take m := by simp [ByteArray.data_extract]
  have h2 : s.data.toList.length = m + 1 := by rw [Array.length_toList]; exact h
  rw [h1]
  apply List.ext_getElem
  · simp [h2]
  · intro i hi1 hi2
    by_cases hi : i < m
    · rw [List.getElem_append_left (by simp; omega), List.getElem_take]
    · have : i = m := by omega
      subst this
      rw [List.getElem_append_right (by simp; omega)]
      simp only [List.getElem_singleton]
      rfl

/-- A row with numbers in a stretch of it. -/
def spl (q : Nat) (f : Nat → UInt8) (i : Nat) (R : List UInt8) : List UInt8 := R.take q ++ (List.range i).map f ++ R.drop (q + i)
theorem spl_0 (q : Nat) (f : Nat → UInt8) (R : List UInt8) : spl q f 0 R = R := by simp [spl]
theorem spl_len {q i : Nat} {f : Nat → UInt8} {R : List UInt8} (h : q + i ≤ R.length) : (spl q f i R).length = R.length := by
  simp only [spl, List.length_append, List.length_take, List.length_map, List.length_range, List.length_drop]
  omega
theorem spl_step {q i : Nat} {f : Nat → UInt8} {R : List UInt8} (h : q + i < R.length) : (spl q f i R).set (q + i) (f i) = spl q f (i + 1) R := by
  have h1 : (R.take q ++ (List.range i).map f).length = q + i := by simp; omega
  unfold spl
  rw [List.set_append_right _ _ (by omega), h1, Nat.sub_self, List.drop_eq_getElem_cons h, List.set_cons_zero, List.range_succ, List.map_append, List.map_singleton, ← List.append_assoc (R.take q), List.append_assoc _ [f i]]
  rfl
/-- An entry. -/
structure XE where
  st : Int
  nm : ByteArray
  nu : Int
  tl : Int
  bl : List Int
def xe0 : XE := ⟨0, ⟨#[]⟩, 0, 0, []⟩
def gb (B : List UInt8) (k : Nat) : Nat := (B.getD k 0).toNat
def xNm (B : List UInt8) : ByteArray := trB ⟨((B.drop 1).take 8).toArray⟩ 32
def xBl (B : List UInt8) (m : Nat) : List Int := ((B.drop 12).take m).map fun b => (b.toNat : Int)
/-- What stands in the bytes of an entry. -/
def xeR (B : List UInt8) : XE := if gb B 0 = 0 then xe0 else ⟨(gb B 0 : Int), xNm B, (gb B 9 : Int), (gb B 10 : Int), xBl B (min (gb B 11) 4)⟩
def xV (s : Int) (e : XE) : Bool := decide (e.st = 0) || ((decide (e.st = 1) || decide (e.st = 229)) && isName e.nm && inB e.nu 0 31 && inB e.tl 0 s)
def nmC (nm : ByteArray) (i : Nat) : UInt8 := if i < nm.size then nm.data.toList.getD i 0 else 32
def blC (bl : List Int) (i : Nat) : UInt8 := UInt8.ofNat (bl.getD i 0).toNat
def z16 : List UInt8 := List.replicate 16 0
/-- The bytes of an entry. -/
def xB (e : XE) : List UInt8 := if e.st = 0 then z16 else spl 12 (blC e.bl) e.bl.length ((((spl 1 (nmC e.nm) 8 (z16.set 0 (UInt8.ofNat e.st.toNat))).set 9 (UInt8.ofNat e.nu.toNat)).set 10 (UInt8.ofNat e.tl.toNat)).set 11 (UInt8.ofNat e.bl.length))
def xeOk (s : Int) (B : List UInt8) : Bool := xV s (xeR B) && decide (xB (xeR B) = B)
def xeE (s : Int) (B : List UInt8) : XE := if xeOk s B then xeR B else xe0
/-- What a list of blocks is good for. -/
def okBl (bl : List Int) : Prop := bl.length ≤ 4 ∧ ∀ b ∈ bl, 0 ≤ b ∧ b ≤ 255
theorem xBl_ok (B : List UInt8) (m : Nat) (h : m ≤ 4) : okBl (xBl B m) := by
  refine ⟨by simp [xBl]; omega, fun b hb => ?_⟩
  simp only [xBl, List.mem_map] at hb
  obtain ⟨y, _, rfl⟩ := hb
  have := y.toNat_lt
  omega
theorem xeR_ok (B : List UInt8) : okBl (xeR B).bl ∧ (xeR B).nm.size ≤ 8 ∧ 0 ≤ (xeR B).st ∧ (xeR B).st ≤ 255 ∧ 0 ≤ (xeR B).nu ∧ (xeR B).nu ≤ 255 ∧ 0 ≤ (xeR B).tl ∧ (xeR B).tl ≤ 255 ∧ ((xeR B).st = 0 → xeR B = xe0) := by
  unfold xeR
  split
  · exact ⟨⟨by decide, by simp [xe0]⟩, by decide, by decide, by decide, by decide, by decide, by decide, by decide, fun _ => rfl⟩
  · rename_i h
    have hb : ∀ k, gb B k ≤ 255 := fun k => by have := (B.getD k 0).toNat_lt; unfold gb; omega
    have h0 := hb 0
    have h9 := hb 9
    have h10 := hb 10
    refine ⟨xBl_ok B _ (by omega), ?_, by simp only; omega, by simp only; omega, by simp only; omega, by simp only; omega, by simp only; omega, by simp only; omega, fun e => absurd e (by simp only; omega)⟩
    have := trB_size ⟨((B.drop 1).take 8).toArray⟩ 32
    have h8 : (⟨((B.drop 1).take 8).toArray⟩ : ByteArray).size ≤ 8 := by
      show ((B.drop 1).take 8).toArray.size ≤ 8
      rw [List.size_toArray, List.length_take]
      omega
    show (xNm B).size ≤ 8
    unfold xNm
    omega
/-- The bytes of entry k of a disk. -/
def xRaw (J : List UInt8) (s k : Nat) : List UInt8 := (J.drop (s + 16 * k)).take 16
theorem xRaw_len {J : List UInt8} {s k : Nat} (h : s + 16 * (k + 1) ≤ J.length) : (xRaw J s k).length = 16 := by
  simp only [xRaw, List.length_take, List.length_drop]
  omega
theorem xRaw_get {J : List UInt8} {s k j : Nat} (h : s + 16 * (k + 1) ≤ J.length) (hj : j < 16) : (xRaw J s k)[j]'(by rw [xRaw_len h]; exact hj) = J[s + 16 * k + j]'(by omega) := by
  simp only [xRaw, List.getElem_take, List.getElem_drop]
theorem gb_get {B : List UInt8} {k : Nat} (h : k < B.length) : gb B k = B[k].toNat := by simp [gb, h]
/-- Blocks of one size: the byte at a place. -/
theorem jn_at : ∀ (l : List ByteArray) (s : Nat), (∀ b ∈ l, b.size = s) → ∀ (a r : Nat) (ha : a < l.length) (hr : r < s), ∃ h : r < l[a].size, (jn l)[a * s + r]? = some (l[a][r])
  | [], s, _, a, r, ha, _ => absurd ha (by simp)
  | b :: l, s, hs, 0, r, _, hr => by
    have hb := hs b List.mem_cons_self
    have hl : b.data.toList.length = s := by rw [Array.length_toList]; exact hb
    refine ⟨by show r < b.size; omega, ?_⟩
    rw [Nat.zero_mul, Nat.zero_add]
    show ((b.data.toList) ++ jn l)[r]? = _
    rw [List.getElem?_append_left (by omega), List.getElem?_eq_getElem (by omega)]
    rfl
  | b :: l, s, hs, a + 1, r, ha, hr => by
    have hb := hs b List.mem_cons_self
    have hl : b.data.toList.length = s := by rw [Array.length_toList]; exact hb
    obtain ⟨h1, h2⟩ := jn_at l s (fun x hx => hs x (List.mem_cons_of_mem _ hx)) a r (by simpa using ha) hr
    refine ⟨h1, ?_⟩
    show ((b.data.toList) ++ jn l)[(a + 1) * s + r]? = _
    rw [List.getElem?_append_right (by rw [hl, Nat.succ_mul]; omega), hl, show (a + 1) * s + r - s = a * s + r by rw [Nat.succ_mul]; omega]
    exact h2
end Go.Proofs.YtbobehieaaaleaaGreatDoor
namespace Go.Proofs.YtbobehieaaaleaaGreatDoor
set_option linter.unusedVariables false
open Go.RowKit

theorem xV_0 (s : Int) : xV s xe0 = true := rfl
theorem xV_k {s : Int} {e : XE} (h0 : ¬ e.st = 0) (h1 : (e.st == 1) = false) (h2 : (e.st == 229) = false) : xV s e = false := by
  have a : ¬ e.st = 1 := by simpa using h1
  have b : ¬ e.st = 229 := by simpa using h2
  simp [xV, h0, a, b]
theorem xV_n {s : Int} {e : XE} (h0 : ¬ e.st = 0) (h : isName e.nm = false) : xV s e = false := by simp [xV, h0, h]
theorem xV_q1 {s : Int} {e : XE} (h0 : ¬ e.st = 0) (h : inB e.nu 0 31 = false) : xV s e = false := by simp [xV, h0, h]
theorem xV_q2 {s : Int} {e : XE} (h0 : ¬ e.st = 0) (h : inB e.tl 0 s = false) : xV s e = false := by simp [xV, h0, h]
theorem xV_yes {s : Int} {e : XE} (hk : (e.st == 1) = true ∨ ((e.st == 1) = false ∧ (e.st == 229) = true)) (hn : isName e.nm = true) (h1 : inB e.nu 0 31 = true) (h2 : inB e.tl 0 s = true) : xV s e = true := by
  have : e.st = 1 ∨ e.st = 229 := by
    rcases hk with h | h
    · exact Or.inl (by simpa using h)
    · exact Or.inr (by simpa using h.2)
  rcases this with a | a <;> simp [xV, a, hn, h1, h2]
end Go.Proofs.YtbobehieaaaleaaGreatDoor
namespace Go.Proofs.YtbobehieaaaleaaGreatDoor
set_option linter.unusedVariables false
open Go.RowKit

theorem mark_zero (w : World) (n : Nat) (e : TypeId) : MarkB (w.alloc (.cells (madeCells #[Value.int .u8 0] n) e)) w.heap.size e (List.replicate n 0) := by
  have hm := made_bytes n
  refine ⟨madeCells #[Value.int .u8 0] n, (0, 0), heap_alloc_new w _, fun j hj => ?_, fun j hj => by omega⟩
  have h1 : (madeCells #[Value.int .u8 0] n).toList[j]? = (bcells (List.replicate n (0 : UInt8)))[j]? := by
    have : (madeCells (Value.int .u8 0).cells n).toList = (madeCells #[Value.int .u8 0] n).toList := rfl
    rw [← this, hm]
  rw [Array.getElem?_toList] at h1
  rw [h1, List.getElem?_eq_getElem (by rw [bcells_length]; exact hj)]
  simp [bcells]
theorem z16_len : z16.length = 16 := by decide
theorem byte_of {x : Int} (h0 : 0 ≤ x) (h1 : x ≤ 255) : ((UInt8.ofNat x.toNat).toNat : Int) = x := by
  rw [UInt8.toNat_ofNat']
  omega
theorem nmC_in {nm : ByteArray} {i : Nat} (h : i < nm.size) : nmC nm i = nm[i] := by
  unfold nmC
  rw [if_pos h, List.getD_eq_getElem?_getD, List.getElem?_eq_getElem (by rw [Array.length_toList]; exact h)]
  rfl
theorem nmC_out {nm : ByteArray} {i : Nat} (h : ¬ i < nm.size) : nmC nm i = 32 := if_neg h
theorem blC_in {bl : List Int} {i : Nat} (h : i < bl.length) : blC bl i = UInt8.ofNat (bl[i]).toNat := by simp [blC, h]
theorem xB_0 : xB xe0 = z16 := by unfold xB; exact if_pos rfl
theorem xB_1 {e : XE} (h : ¬ e.st = 0) : xB e = spl 12 (blC e.bl) e.bl.length ((((spl 1 (nmC e.nm) 8 (z16.set 0 (UInt8.ofNat e.st.toNat))).set 9 (UInt8.ofNat e.nu.toNat)).set 10 (UInt8.ofNat e.tl.toNat)).set 11 (UInt8.ofNat e.bl.length)) := by
  unfold xB
  rw [if_neg h]
end Go.Proofs.YtbobehieaaaleaaGreatDoor
namespace Go.Proofs.YtbobehieaaaleaaGreatDoor
set_option linter.unusedVariables false
open Go.RowKit Go.ChangeShapes Go.WideShapes Go.Deep

structure DDelta where
  f0 : Int
  f1 : ByteArray
def fDelta (x : DDelta) : List Value := [.int .i64 x.f0, .string x.f1]
theorem fDelta_len (x : DDelta) : (fDelta x).length = 2 := rfl
def vDelta (x : DDelta) : Value := .agg #[.int .i64 x.f0, .string x.f1]
def zDelta (x : DDelta) : List Nat := [x.f1.size]
def okDelta (x : DDelta) : Prop := x.f1.size ≤ maxLen ∧ (-9223372036854775808 ≤ x.f0 ∧ x.f0 ≤ 9223372036854775807)

def tzDelta (l : List DDelta) : List Nat := l.length :: (l.map zDelta).flatten
theorem zDelta_drop (l : List DDelta) (k : Nat) (hk : k < l.length) : ((l.drop k).map zDelta).flatten = zDelta l[k] ++ ((l.drop (k + 1)).map zDelta).flatten := by
  rw [List.drop_eq_getElem_cons hk, List.map_cons, List.flatten_cons]
def mqDelta (q : Nat) : DDelta := ⟨(q : Int), mtxt (q + 1)⟩
def mksDelta (k m : Nat) : List DDelta := (List.range m).map fun i => mqDelta (k + 2 * i)
theorem mksDelta_len (k m : Nat) : (mksDelta k m).length = m := by simp [mksDelta]
theorem mksDelta_succ (k m : Nat) : mksDelta k (m + 1) = mksDelta k m ++ [mqDelta (k + 2 * m)] := by simp [mksDelta, List.range_succ]
theorem mksDelta_get (k m i : Nat) (h : i < (mksDelta k m).length) : (mksDelta k m)[i] = mqDelta (k + 2 * i) := by simp [mksDelta]
theorem mksDelta_put (k m : Nat) (l : List DDelta) (h : m < l.length) : putV (flat fDelta (mksDelta k m ++ l.drop m)) (m * 2) (fDelta (mqDelta (k + 2 * m))) = flat fDelta (mksDelta k (m + 1) ++ l.drop (m + 1)) := by
  have := flat_put fDelta 2 fDelta_len (mksDelta k m) (l.drop (m + 1)) l[m] (mqDelta (k + 2 * m))
  rw [mksDelta_len] at this
  rw [List.drop_eq_getElem_cons h, this, mksDelta_succ, List.append_assoc]
  rfl

end Go.Proofs.YtbobehieaaaleaaGreatDoor
namespace Go.Proofs.YtbobehieaaaleaaGreatDoor
set_option linter.unusedVariables false
open Go.RowKit

theorem seg_eq (s : ByteArray) (a b : Nat) : seg s a b = (s.data.toList.drop a).take (b - a) := by
  unfold seg
  rw [ByteArray.data_extract, Array.toList_extract]
theorem seg_take (s : ByteArray) (a b n : Nat) (h : a + n ≤ b) : (seg s a b).take n = seg s a (a + n) := by
  rw [seg_eq, seg_eq, List.take_take]
  congr 1
  omega
theorem seg_drop (s : ByteArray) (a b n : Nat) (h : a + n ≤ b) : (seg s a b).drop n = seg s (a + n) b := by
  rw [seg_eq, seg_eq, List.drop_take, List.drop_drop]
  congr 1
  omega
theorem seg_all (s : ByteArray) : seg s 0 s.size = s.data.toList := by
  rw [seg_eq, List.drop_zero, List.take_of_length_le]
  rw [Array.length_toList]
  exact Nat.le_refl _

theorem emp_yes (s : ByteArray) (h : s.size = 0) : s.toList.isEmpty = true ∧ s.toList = [] := by
  have : s.toList = [] := by
    rw [Lib.toList_data]
    exact List.eq_nil_of_length_eq_zero (by rw [Array.length_toList]; exact h)
  rw [this]
  exact ⟨rfl, rfl⟩
theorem emp_no (s : ByteArray) (h : ¬ s.size = 0) : s.toList.isEmpty = false ∧ ¬ s.toList = [] := by
  have : ¬ s.toList = [] := by
    rw [Lib.toList_data]
    intro h'
    have := congrArg List.length h'
    rw [Array.length_toList] at this
    exact h this
  exact ⟨by simpa using this, this⟩

/-- Put the list of differences on s, from byte at_ on, behind 'out'. -/
def apG (s : ByteArray) : List DDelta → Nat → List UInt8 → Option (List UInt8)
  | [], at_, out => some (out ++ seg s at_ s.size)
  | d :: r, at_, out =>
    if d.f1.size = 0 ∨ inB d.f0 at_ ((s.size : Int) - d.f1.size) = false then none
    else apG s r (d.f0.toNat + d.f1.size) (out ++ seg s at_ d.f0.toNat ++ d.f1.data.toList)
def apD (s : ByteArray) (l : List DDelta) : Option (List UInt8) := if 4096 < s.size then none else apG s l 0 []
theorem apD_big (s : ByteArray) (l : List DDelta) (h : 4096 < s.size) : apD s l = none := if_pos h
theorem apD_small (s : ByteArray) (l : List DDelta) (h : ¬ 4096 < s.size) : apG s (l.drop 0) 0 [] = apD s l := (if_neg h).symm
theorem apG_end (s : ByteArray) (l : List DDelta) (k at_ : Nat) (out : List UInt8) {R : Option (List UInt8)} (hk : ¬ k < l.length) (h : apG s (l.drop k) at_ out = R) : R = some (out ++ seg s at_ s.size) := by
  rw [List.drop_eq_nil_of_le (by omega)] at h
  exact h.symm
theorem apG_bad (s : ByteArray) (l : List DDelta) (k at_ : Nat) (out : List UInt8) {R : Option (List UInt8)} (hk : k < l.length) (hb : l[k].f1.size = 0 ∨ inB l[k].f0 at_ ((s.size : Int) - l[k].f1.size) = false) (h : apG s (l.drop k) at_ out = R) : R = none := by
  rw [List.drop_eq_getElem_cons hk, apG, if_pos hb] at h
  exact h.symm
theorem apG_go (s : ByteArray) (l : List DDelta) (k at_ : Nat) (out : List UInt8) {R : Option (List UInt8)} (hk : k < l.length) (h0 : ¬ l[k].f1.size = 0) (hb : inB l[k].f0 at_ ((s.size : Int) - l[k].f1.size) = true) (h : apG s (l.drop k) at_ out = R) :
    apG s (l.drop (k + 1)) (l[k].f0.toNat + l[k].f1.size) (out ++ seg s at_ l[k].f0.toNat ++ l[k].f1.data.toList) = R := by
  rw [List.drop_eq_getElem_cons hk, apG, if_neg (by simp [h0, hb])] at h
  exact h
theorem inB_in {x lo hi : Int} (h : inB x lo hi = true) : lo ≤ x ∧ x ≤ hi := by unfold inB at h; simpa using h
theorem apG_splice (s d : ByteArray) (at_ p : Nat) (out : List UInt8) (hl : out.length = at_) (h1 : at_ ≤ p) (h2 : p + d.size ≤ s.size) :
    (out ++ seg s at_ s.size).take p ++ d.data.toList ++ (out ++ seg s at_ s.size).drop (p + d.size) = (out ++ seg s at_ p ++ d.data.toList) ++ seg s (p + d.size) s.size := by
  have e1 : (out ++ seg s at_ s.size).take p = out ++ seg s at_ p := by
    rw [List.take_append, List.take_of_length_le (by omega), hl, seg_take s _ _ _ (by omega)]
    congr 2
    omega
  have e2 : (out ++ seg s at_ s.size).drop (p + d.size) = seg s (p + d.size) s.size := by
    rw [List.drop_append, List.drop_of_length_le (by omega), hl, seg_drop s _ _ _ (by omega), List.nil_append]
    congr 1
    omega
  rw [e1, e2]

def putL (l : List UInt8) : Nat → List UInt8 → List UInt8
  | _, [] => l
  | o, b :: r => putL (l.set o b) (o + 1) r
theorem putL_eq : ∀ (bs l : List UInt8) (o : Nat), o + bs.length ≤ l.length → putL l o bs = l.take o ++ bs ++ l.drop (o + bs.length)
  | [], l, o, _ => by simp [putL]
  | b :: r, l, o, h => by
    simp only [List.length_cons] at h
    have hlt : o < l.length := by omega
    rw [putL, putL_eq r _ _ (by rw [List.length_set]; omega), take_set_succ _ _ _ hlt, List.drop_set_of_lt (by omega)]
    simp only [List.append_assoc, List.cons_append, List.nil_append, List.length_cons]
    rw [show o + 1 + r.length = o + (r.length + 1) by omega]

section
variable {P : Program} {w : World} {e : TypeId}
theorem MarkB.setCells {g : Nat} : ∀ (bs : List UInt8) (o : Nat) (w : World) (l : List UInt8), MarkB w g e l → MarkB (w.setCells g o (bs.map fun x => Value.int .u8 (x.toNat : Int))) g e (putL l o bs)
  | [], _, _, _, h => h
  | b :: r, o, w, l, h => MarkB.setCells r (o + 1) _ _ (h.set_ o b _ rfl)
theorem setCells_other (g : Nat) : ∀ (vs : List Value) (o : Nat) (w : World) (q : Addr), q.block ≠ g → (w.setCells g o vs).cell? q = w.cell? q
  | [], _, _, _, _ => rfl
  | v :: r, o, w, q, h => (setCells_other g r (o + 1) _ q h).trans (World.cell?_setCell_other w _ q v (fun e => by subst e; exact h rfl))
theorem MarkB.copyS {g : Nat} {l : List UInt8} (hm : MarkB w g e l) (dT sT ty : TypeId) (E : Elt P dT e 1 1 (.int .u8 0)) (off : Nat) (str : ByteArray) (hfit : off + str.size ≤ l.length) (dLen dCap : Nat) (hle : str.size ≤ dLen) (B : Nat) (hB : B ≤ g) :
    ∃ w', (Builtin.copy_ #[dT, sT] ty #[.slice (some ⟨g, off, none⟩) dLen dCap, .string str]).run P w = .ok (goInt str.size) w' ∧
      MarkB w' g e (l.take off ++ str.data.toList ++ l.drop (off + str.size)) ∧ Below B w w' ∧ ∀ q : Addr, q.block ≠ g → w'.cell? q = w.cell? q := by
  obtain ⟨ht, ⟨i, hi, hz, hsize, hby⟩, hzs, hsz⟩ := E
  have hstr : str.data.toList.length = str.size := by rw [Array.length_toList]; rfl
  refine ⟨_, Go.run_copy_string (P := P) w dT sT ty e g off dLen dCap str ht (fun W => by simp [sizeOf, typeInfo, hi, hsize]) hle (fun j hj => ?_) (fun j hj => ?_), ?_, Go.below_setCells hB _ _ _ (Below.refl _ _), fun q hq => setCells_other g _ _ _ q hq⟩
  · rw [hm.cell (off + j) (by omega)]
    rfl
  · exact hm.free (off + j) (by omega)
  · have := MarkB.setCells str.data.toList off w l hm
    rw [putL_eq _ _ _ (by omega), hstr] at this
    exact this
theorem wpList_copyM {ops : Array Oper} {rest : List Oper} {o : Oper} {a : Act} {Q : Exit → Act → World → Prop} (hgd : o.guard = none) (d x : Operand) (t tx : TypeId)
    (ho : o.op = .call { callee := .builtin .copy, args := #[d, x], argTypes := #[t, tx] }) (E : Elt P t e 1 1 (.int .u8 0))
    {g : Nat} {l : List UInt8} (hm : MarkB w g e l) (off dLen dCap : Nat) (hd : a.eval d = .slice (some ⟨g, off, none⟩) dLen dCap) (str : ByteArray) (hx : a.eval x = .string str)
    (hfit : off + str.size ≤ l.length) (hle : str.size ≤ dLen) (B : Nat) (hB : B ≤ g)
    (h : ∀ w', MarkB w' g e (l.take off ++ str.data.toList ++ l.drop (off + str.size)) → Below B w w' → (∀ q : Addr, q.block ≠ g → w'.cell? q = w.cell? q) → wpList P ops Q rest (a.put o.dst (goInt str.size)) w') :
    wpList P ops Q (o :: rest) a w := by
  refine wpList_plain hgd fun K hK => ?_
  obtain ⟨w', hr, h2, h3, h4⟩ := hm.copyS (P := P) t tx o.type E off str hfit dLen dCap hle B hB
  unfold Oper.wp execOp
  simp only [ho, resolve, invoke, builtin, Sem.run_bind, Sem.run_pure, Result.andThen_ok, List.map_toArray, List.map_cons, List.map_nil, hd, hx, hr]
  exact hK _ _ (h w' h2 h3 h4)
end
end Go.Proofs.YtbobehieaaaleaaGreatDoor
namespace Go.Proofs.YtbobehieaaaleaaGreatDoor
set_option linter.unusedVariables false
open Go.RowKit

section
variable {P : Program} {e : TypeId} {w : World}
theorem run_copy_cut (w : World) (dT sT ty elem : TypeId) (b o dLen dCap : Nat) (t : ByteArray)
    (hu : P.underlying dT = some (.slice elem)) (hz : ∀ w, (Go.sizeOf elem).run P w = .ok 1 w) (hle : dLen ≤ t.size)
    (hc : ∀ j, j < dLen → (w.cell? ⟨b, o + j, none⟩).isSome = true) (hf : ∀ j, j < dLen → w.frozen? ⟨b, o + j, none⟩ = false) :
    (Builtin.copy_ #[dT, sT] ty #[.slice (some ⟨b, o, none⟩) dLen dCap, .string t]).run P w = .ok (goInt dLen) (w.setCells b o ((t.data.toList.take dLen).map fun x => Value.int .u8 (x.toNat : Int))) := by
  have hmin : Nat.min t.size dLen = dLen := Nat.min_eq_right hle
  have hl : ((t.data.toList.take dLen).map fun x => Value.int .u8 (x.toNat : Int)).length = dLen := by
    rw [List.length_map, List.length_take, ← Lib.size_eq]
    omega
  have hst := run_storeCells_cells (P := P) b o ((t.data.toList.take dLen).map fun x => Value.int .u8 (x.toNat : Int)) 0 w (by rw [hl]; simpa using hc) (by rw [hl]; simpa using hf) (by
    intro v hv
    obtain ⟨x, _, rfl⟩ := List.mem_map.1 hv
    rfl)
  simp [Builtin.copy_, run_underlying hu, Builtin.lenOf, Builtin.firstCells, hz, hmin]
  rw [← List.map_take, hst]
  rfl
theorem MarkB.copyC {g : Nat} {l : List UInt8} (hm : MarkB w g e l) (dT sT ty : TypeId) (E : Elt P dT e 1 1 (.int .u8 0)) (off : Nat) (str : ByteArray) (dLen dCap : Nat) (hfit : off + dLen ≤ l.length) (hle : dLen ≤ str.size) (B : Nat) (hB : B ≤ g) :
    ∃ w', (Builtin.copy_ #[dT, sT] ty #[.slice (some ⟨g, off, none⟩) dLen dCap, .string str]).run P w = .ok (goInt dLen) w' ∧
      MarkB w' g e (l.take off ++ str.data.toList.take dLen ++ l.drop (off + dLen)) ∧ Below B w w' ∧ ∀ q : Addr, q.block ≠ g → w'.cell? q = w.cell? q := by
  obtain ⟨ht, ⟨i, hi, hz, hsize, hby⟩, hzs, hsz⟩ := E
  have hstr : (str.data.toList.take dLen).length = dLen := by
    rw [List.length_take, Array.length_toList]
    exact Nat.min_eq_left hle
  refine ⟨_, run_copy_cut (P := P) w dT sT ty e g off dLen dCap str ht (fun W => by simp [sizeOf, typeInfo, hi, hsize]) hle (fun j hj => ?_) (fun j hj => ?_), ?_, Go.below_setCells hB _ _ _ (Below.refl _ _), fun q hq => setCells_other g _ _ _ q hq⟩
  · rw [hm.cell (off + j) (by omega)]
    rfl
  · exact hm.free (off + j) (by omega)
  · have := MarkB.setCells (str.data.toList.take dLen) off w l hm
    rw [putL_eq _ _ _ (by omega), hstr] at this
    exact this
theorem step_copyC {ops : Array Oper} {o : Oper} {a : Act} {K : Act → World → Prop} {Q : Exit → Act → World → Prop} {E0 : Prop} (hgd : o.guard = none) (d x : Operand) (t tx : TypeId)
    (ho : o.op = .call { callee := .builtin .copy, args := #[d, x], argTypes := #[t, tx] }) (E : Elt P t e 1 1 (.int .u8 0))
    {g : Nat} {l : List UInt8} (hm : MarkB w g e l) (off dLen dCap : Nat) (hd : a.eval d = .slice (some ⟨g, off, none⟩) dLen dCap) (str : ByteArray) (hx : a.eval x = .string str)
    (hfit : off + dLen ≤ l.length) (hle : dLen ≤ str.size) (B : Nat) (hB : B ≤ g)
    (h : ∀ w', MarkB w' g e (l.take off ++ str.data.toList.take dLen ++ l.drop (off + dLen)) → Below B w w' → (∀ q : Addr, q.block ≠ g → w'.cell? q = w.cell? q) → K (a.put o.dst (goInt dLen)) w') :
    if Region.wanted o (yielded ops a.tmps) = true then Oper.wp P o a w K Q else E0 := by
  have hw : Region.wanted o (yielded ops a.tmps) = true := by simp [Region.wanted, hgd]
  rw [if_pos hw]
  obtain ⟨w', hr, h2, h3, h4⟩ := hm.copyC (P := P) t tx o.type E off str dLen dCap hfit hle B hB
  unfold Oper.wp execOp
  simp only [ho, resolve, invoke, builtin, Sem.run_bind, Sem.run_pure, Result.andThen_ok, List.map_toArray, List.map_cons, List.map_nil, hd, hx, hr]
  exact h w' h2 h3 h4
end
/-- A name with eight spaces behind it. -/
theorem nm_pad {nm : ByteArray} (h : nm.size ≤ 8) {R : List UInt8} (hR : R.length = 16) : R.take 1 ++ (nm ++ ⟨#[32, 32, 32, 32, 32, 32, 32, 32]⟩).data.toList.take 8 ++ R.drop (1 + 8) = spl 1 (nmC nm) 8 R := by
  unfold spl
  congr 2
  have hl : nm.data.toList.length = nm.size := by rw [Array.length_toList]; rfl
  apply List.ext_getElem
  · simp [ByteArray.data_append, hl] <;> omega
  · intro i h1 h2
    have hi : i < 8 := by simpa using h2
    rw [List.getElem_take, List.getElem_map, List.getElem_range]
    have e1 : (nm ++ (⟨#[32, 32, 32, 32, 32, 32, 32, 32]⟩ : ByteArray)).data.toList = nm.data.toList ++ List.replicate 8 32 := by
      rw [ByteArray.data_append, Array.toList_append]
      rfl
    by_cases hn : i < nm.size
    · rw [nmC_in hn]
      simp only [e1]
      rw [List.getElem_append_left (by omega)]
      rfl
    · rw [nmC_out hn]
      simp only [e1]
      rw [List.getElem_append_right (by omega), List.getElem_replicate]
end Go.Proofs.YtbobehieaaaleaaGreatDoor
namespace Go.Proofs.YtbobehieaaaleaaGreatDoor
set_option linter.unusedVariables false
open Go.RowKit

theorem tk_step {P Q : List UInt8} {k : Nat} (h : P.take k = Q.take k) (hp : k < P.length) (hq : k < Q.length) (e : P[k] = Q[k]) : P.take (k + 1) = Q.take (k + 1) := by
  rw [List.take_succ_eq_append_getElem hp, List.take_succ_eq_append_getElem hq, h, e]
theorem bcells_at (P : List UInt8) (k : Nat) (h : k < P.length) : (bcells P)[k]'(by rw [bcells_length]; exact h) = .int .u8 (P[k].toNat : Int) := by simp [bcells]
theorem RR.byte {w : World} {A : Option Addr} {P : List UInt8} {n : Nat} (hr : RR w 1 A n (bcells P)) (hn : n = P.length) (k : Nat) (hk : k < P.length) : ∃ b off, A = some ⟨b, off, none⟩ ∧ b < w.heap.size ∧ w.cell? ⟨b, off + k, none⟩ = some (.int .u8 (P[k].toNat : Int)) := by
  obtain ⟨b, off, he, hb, hc⟩ := hr.2 (by omega)
  refine ⟨b, off, he, hb, ?_⟩
  rw [hc k (by rw [bcells_length]; exact hk), bcells_at]
set_option maxRecDepth 100000 in
set_option maxHeartbeats 1000000 in
theorem equalB_any (A A' : Option Addr) (cp cp' n : Nat) (P Q : List UInt8) (w : World) (hr : RR w 1 A n (bcells P)) (hr' : RR w 1 A' n (bcells Q)) (hp : P.length = n) (hq : Q.length = n) (hn : n ≤ 1048576) :
    Calls Tryz.prog 31 #[.slice A n cp, .slice A' n cp'] w fun e w' => e = .returned (.bool (decide (P = Q))) ∧ Below w.heap.size w w' := by
  go_enter Tryz.func31, Tryz.ntmps31
  go_wp2
  go_loopw [5, 13] (fun _ i wr => ∃ k : Nat, k ≤ n ∧ i = .int .i64 (k : Int) ∧ Hid (P.take k = Q.take k) ∧ BB w wr) (fun _ i _ => n - (intOf i).toNat)
  case atStart => exact ⟨0, Nat.zero_le _, rfl, Lib.hid rfl, BB.start w⟩
  case round =>
    obtain ⟨k, hk, rfl, HT, hB⟩ := hrel
    by_cases hlt : k < n
    · have hlti : (k : Int) < (n : Int) := by omega
      obtain ⟨b, off, rfl, hbb, hc1⟩ := RR.byte (RR.back hr hB) hp.symm k (by omega)
      obtain ⟨b', off', rfl, hbb', hc2⟩ := RR.byte (RR.back hr' hB) hq.symm k (by omega)
      have hkp : k < P.length := by omega
      have hkq : k < Q.length := by omega
      have hst := fun (e : P[k] = Q[k]) => tk_step HT.out hkp hkq e
      have hno : ¬ P[k] = Q[k] → decide (P = Q) = false := fun e => decide_eq_false (fun x => e (by subst x; rfl))
      obtain ⟨x, hx⟩ : ∃ x, P[k] = x := ⟨_, rfl⟩
      obtain ⟨y, hy⟩ : ∃ y, Q[k] = y := ⟨_, rfl⟩
      rw [hx] at hc1
      rw [hy] at hc2
      rw [hx, hy] at hno hst
      clear hx hy
      by_cases he : x = y
      · have HN := Lib.hid (hst he)
        have hxy : ((x.toNat : Int) != (y.toNat : Int)) = false := by subst he; simp
        clear hst hno he
        go_wp2_with fail
        go_quiet (fail)
        go_wp2_with fail
        go_roundw
        case rel => exact ⟨k + 1, by omega, by go_num, HN, BB.dn hB _⟩
        case measure => simp [intOf]; omega
      · have HN := Lib.hid (hno he)
        have hxy : ((x.toNat : Int) != (y.toNat : Int)) = true := by
          rw [bne_iff_ne]
          intro e
          exact he (UInt8.toNat_inj.1 (by omega))
        clear hst hno he
        go_wp2_with fail
        go_quiet (fail)
        go_wp2_with fail
        go_ret
        exact ⟨ret_bool HN.out.symm, BB.dn hB _⟩
    · have hlti : ¬ (k : Int) < (n : Int) := by omega
      have HN := Lib.hid (show decide (P = Q) = true by
        have h1 := HT.out
        rw [List.take_of_length_le (by omega), List.take_of_length_le (by omega)] at h1
        exact decide_eq_true h1)
      go_wp2_with fail
      go_ret
      exact ⟨ret_bool HN.out.symm, hB⟩
end Go.Proofs.YtbobehieaaaleaaGreatDoor
namespace Go.Proofs.YtbobehieaaaleaaGreatDoor
set_option linter.unusedVariables false
open Go.RowKit

section
variable {P : Program} {w : World} {base size bytes : Nat} {e : TypeId} {z v : Value} {α : Type} {f : α → List Value}
/-- append of one struct as a step of a region that draws its order; where the row may lie is told. -/
theorem step_appG {ops : Array Oper} {o : Oper} {a : Act} {K : Act → World → Prop} {Q : Exit → Act → World → Prop} {E0 : Prop} (hgd : o.guard = none) (s x : Operand) (t : TypeId)
    (ho : o.op = .call { callee := .builtin .append, args := #[s, x], argTypes := #[t, t] }) (E : Elt P t e size bytes z) (hby : bytes ≤ 1000)
    (v : Value) (l : List α) (n : Nat) (hln : n = l.length) (hsv : a.eval s = v) (hown : w.ownsRow base e size v n (flat f l)) (cs : Array Value) (te : TypeId) (y : α) (c : Nat) (hx : a.eval x = .slice (some ⟨w.heap.size, 0, none⟩) 1 c)
    (hcs : cs.toList = f y) (hlen : (f y).length = size) (h1 : ∀ u ∈ f y, u.oneCell' = true) (hsz : l.length ≤ 100000000) (hbase : base ≤ w.heap.size)
    (h : ∀ v' w', w'.ownsRow base e size v' (l ++ [y]).length (flat f (l ++ [y])) → (w.alloc (.cells cs te)).grownBy w' v.ownBlock → (v'.ownBlock = v.ownBlock ∨ v'.ownBlock = some (w.heap.size + 1)) → Below base w w' → K (a.put o.dst v') w') :
    if Region.wanted o (yielded ops a.tmps) = true then Oper.wp P o a (w.alloc (.cells cs te)) K Q else E0 := by
  subst hln
  have hw : Region.wanted o (yielded ops a.tmps) = true := by simp [Region.wanted, hgd]
  rw [if_pos hw]
  have hcl : cs.size = size := by rw [← Array.length_toList, hcs, hlen]
  have hbb : (l.length + 1) * bytes ≤ 140737488355328 := by
    have := Nat.mul_le_mul (show l.length + 1 ≤ 100000001 by omega) hby
    omega
  have hsrc : Src P size t (.slice (some ⟨w.heap.size, 0, none⟩) 1 c) 1 (f y) (w.alloc (.cells cs te)) := by
    rw [← hcs]
    refine Src.lit E.ht w cs te 1 c (by omega) ?_
    rw [hcs]
    exact h1
  obtain ⟨v', w', hr, h2, h3, h5⟩ := run_append_src (P := P) (w.alloc (.cells cs te)) base t t o.type e z size bytes E v l.length (flat f l) (World.ownsRow.alloc hown _) _ 1 (f y) hsrc (by unfold maxLen; omega) hbb (by rw [World.size_alloc]; omega)
  unfold Oper.wp execOp
  simp only [ho, resolve, invoke, builtin, Sem.run_bind, Sem.run_pure, Result.andThen_ok, List.map_toArray, List.map_cons, List.map_nil, hsv, hx, hr]
  refine h _ _ ?_ h3 (by simpa using h5) ((Below.refl base w).alloc hbase _ |>.trans (below_of_own (World.ownsRow.alloc hown _) (by rw [World.size_alloc]; omega) h3))
  rw [List.length_append, flat_snoc]
  exact h2
end
theorem oneInt (x : Int) : ∀ u ∈ fI x, u.oneCell' = true := by
  intro u hu
  simp only [fI, List.mem_cons, List.not_mem_nil, or_false] at hu
  subst hu
  rfl
def fB (b : UInt8) : List Value := [.int .u8 (b.toNat : Int)]
theorem fB_len (b : UInt8) : (fB b).length = 1 := rfl
theorem oneB (x : UInt8) : ∀ u ∈ fB x, u.oneCell' = true := by
  intro u hu
  simp only [fB, List.mem_cons, List.not_mem_nil, or_false] at hu
  subst hu
  rfl
theorem flatB : ∀ l : List UInt8, flat fB l = bcells l
  | [] => rfl
  | x :: l => by
    show Value.int .u8 (x.toNat : Int) :: flat fB l = Value.int .u8 (x.toNat : Int) :: bcells l
    rw [flatB l]
theorem OwnB.flat_ {w : World} {base : Nat} {e : TypeId} {v : Value} {l : List UInt8} (h : OwnB w base e v l) : w.ownsRow base e 1 v l.length (flat fB l) := by
  rw [flatB]
  exact h
theorem OwnB.of_flat {w : World} {base : Nat} {e : TypeId} {v : Value} {l : List UInt8} (h : w.ownsRow base e 1 v l.length (flat fB l)) : OwnB w base e v l := by
  rw [flatB] at h
  exact h
theorem BX.grownx {w w' : World} {g : Nat} {t : TypeId} {vs : List Value} {row : Option Nat} (h : BX w g t vs) (hg : w.grownBy w' row) (hne : row ≠ some g) : BX w' g t vs := (hg.block g h.lt (fun e => hne e.symm)).trans h
theorem BX.drx {w : World} {g : Nat} {t : TypeId} {vs : List Value} (h : BX w g t vs) : BX w.drew g t vs := h
end Go.Proofs.YtbobehieaaaleaaGreatDoor
namespace Go.Proofs.YtbobehieaaaleaaGreatDoor
set_option linter.unusedVariables false
open Go.RowKit

def strN : Value → Nat
  | .string b => b.size
  | _ => 0
theorem em_str {d : ByteArray} (h : d.size = 0) : d = ⟨#[]⟩ := by
  apply ByteArray.ext
  exact Array.eq_empty_of_size_eq_zero h
theorem ne_str {d : ByteArray} (h : ¬ d.size = 0) : d.toList.isEmpty = false := by
  rw [ByteArray.toList_eq]
  have h2 : d.data.toList.length ≠ 0 := by rw [Array.length_toList]; exact h
  cases hd : d.data.toList with
  | nil => rw [hd] at h2; exact absurd rfl h2
  | cons x r => rfl
theorem ret_strT {a b : ByteArray} (h : a = b) : Ending.returned (.string a) = .returned (.string b) := by rw [h]
theorem xraw_rd {w : World} {bb off n s k : Nat} {J : List UInt8} (hr : RR w 1 (some ⟨bb, off, none⟩) n (bcells J)) (hnJ : n = J.length) (hk : s + 16 * (k + 1) ≤ n) : RR w 1 (some ⟨bb, off + (s + 16 * k), none⟩) 16 (bcells (xRaw J s k)) := by
  have hl : (xRaw J s k).length = 16 := xRaw_len (by omega)
  refine ⟨by rw [bcells_length, hl], fun _ => ?_⟩
  obtain ⟨b', off', he, hbb, hc⟩ := hr.2 (by omega)
  cases he
  refine ⟨bb, off + (s + 16 * k), rfl, hbb, fun j hj => ?_⟩
  rw [bcells_length, hl] at hj
  have h1 := hc (s + 16 * k + j) (by rw [bcells_length]; omega)
  have h2 : off + (s + 16 * k + j) = off + (s + 16 * k) + j := by omega
  rw [h2] at h1
  rw [h1]
  simp only [bcells, List.getElem_map, xRaw, List.getElem_take, List.getElem_drop]
theorem own16 {w : World} {base n : Nat} {e : TypeId} {v : Value} {l : List UInt8} (h : OwnB w base e v l) (hn : l.length = n) : w.ownsRow base e 1 v n (bcells l) := by
  subst hn
  exact h
end Go.Proofs.YtbobehieaaaleaaGreatDoor
namespace Go.Proofs.YtbobehieaaaleaaGreatDoor
set_option linter.unusedVariables false
open Go.RowKit

theorem xeR_0 {B : List UInt8} (h : gb B 0 = 0) : xeR B = xe0 := by unfold xeR; exact if_pos h
theorem xeR_1 {B : List UInt8} (h : ¬ gb B 0 = 0) : xeR B = ⟨(gb B 0 : Int), xNm B, (gb B 9 : Int), (gb B 10 : Int), xBl B (min (gb B 11) 4)⟩ := by unfold xeR; exact if_neg h
theorem gb_lt (B : List UInt8) (k : Nat) : gb B k < 256 := (B.getD k 0).toNat_lt
theorem xBl_0 (B : List UInt8) : xBl B 0 = [] := by simp [xBl]
theorem xBl_step {B : List UInt8} {k : Nat} (h : 12 + k < B.length) : xBl B k ++ [((B[12 + k].toNat : Nat) : Int)] = xBl B (k + 1) := by
  have h1 : k < (B.drop 12).length := by rw [List.length_drop]; omega
  unfold xBl
  rw [List.take_succ_eq_append_getElem h1, List.map_append, List.map_singleton, List.getElem_drop]
theorem xBl_len {B : List UInt8} {k : Nat} (h : 12 + k ≤ B.length) : (xBl B k).length = k := by
  simp only [xBl, List.length_map, List.length_take, List.length_drop]
  omega
theorem xeOk_v {s : Int} {B : List UInt8} (h : xV s (xeR B) = false) : xeOk s B = false ∧ xeE s B = xe0 := by
  have : xeOk s B = false := by unfold xeOk; rw [h]; rfl
  exact ⟨this, by unfold xeE; rw [this]; rfl⟩
theorem xeOk_b {s : Int} {B : List UInt8} (h : xV s (xeR B) = true) (g : ¬ xB (xeR B) = B) : xeOk s B = false ∧ xeE s B = xe0 := by
  have : xeOk s B = false := by unfold xeOk; rw [h, decide_eq_false g]; rfl
  exact ⟨this, by unfold xeE; rw [this]; rfl⟩
theorem xeOk_y {s : Int} {B : List UInt8} (h : xV s (xeR B) = true) (g : xB (xeR B) = B) : xeOk s B = true ∧ xeE s B = xeR B := by
  have : xeOk s B = true := by unfold xeOk; rw [h, decide_eq_true g]; rfl
  exact ⟨this, by unfold xeE; rw [this]; rfl⟩
theorem xB_len {e : XE} (h : e.bl.length ≤ 4) : (xB e).length = 16 := by
  unfold xB
  split
  · exact z16_len
  · have h1 : (spl 1 (nmC e.nm) 8 (z16.set 0 (UInt8.ofNat e.st.toNat))).length = 16 := by rw [spl_len (by rw [List.length_set, z16_len]; omega), List.length_set, z16_len]
    rw [spl_len (by rw [List.length_set, List.length_set, List.length_set, h1]; omega), List.length_set, List.length_set, List.length_set, h1]
section
variable {w W W' : World} {X bb off g : Nat} {vs LY : List Value} {B : List UInt8}
theorem RR.putx {A : Option Addr} {n : Nat} {xs : List Value} (h : RR W 1 (some ⟨bb, off, none⟩) n xs) {a : Addr} (ha : bb ≠ a.block) (u : Value) : RR (W.setCell a u) 1 (some ⟨bb, off, none⟩) n xs := by
  refine ⟨h.1, fun hn => ?_⟩
  obtain ⟨b, o, he, hb, hc⟩ := h.2 hn
  cases he
  exact ⟨_, _, rfl, by simpa using hb, fun j hj => (World.cell?_setCell_other W a ⟨bb, off + j, none⟩ u (by intro e; exact ha (by rw [e]))).trans (hc j hj)⟩
theorem RR.farx {n : Nat} {xs : List Value} {row : Option Nat} (h : RR W 1 (some ⟨bb, off, none⟩) n xs) (hg : W.grownBy W' row) (hne : row ≠ some bb) : RR W' 1 (some ⟨bb, off, none⟩) n xs := by
  refine ⟨h.1, fun hn => ?_⟩
  obtain ⟨b, o, he, hb, hc⟩ := h.2 hn
  cases he
  refine ⟨_, _, rfl, Nat.lt_of_lt_of_le hb hg.size, fun j hj => ?_⟩
  rw [World.grownBy.cell_far hg ⟨bb, off + j, none⟩ hb (fun e => hne e.symm)]
  exact hc j hj
theorem conv_rr {P : Program} {src dst e : TypeId} {n : Nat} {Q : List UInt8} (hs : P.underlying src = some (.slice e)) (he : P.underlying e = some (.int .u8)) (hd : P.underlying dst = some .string) (h : RR W 1 (some ⟨bb, off, none⟩) n (bcells Q)) (hn : n = Q.length) (c : Nat) :
    (convert src dst (.slice (some ⟨bb, off, none⟩) n c)).run P W = .ok (.string ⟨Q.toArray⟩) W := by
  subst hn
  refine run_convert_bytes_back W src dst e ⟨bb, off, none⟩ c Q hs he hd ?_
  intro j hj
  obtain ⟨b, o, hbe, hb, hc⟩ := h.2 (by omega)
  cases hbe
  have h1 := hc j (by rw [bcells_length]; exact hj)
  rw [show (⟨bb, off, none⟩ : Addr).add j = ⟨bb, off + j, none⟩ by
    unfold Addr.add
    split
    · rename_i h0; rw [h0]; rfl
    · rfl, h1, bcells_at]
theorem rr_sub {n : Nat} {Q : List UInt8} (h : RR W 1 (some ⟨bb, off, none⟩) n (bcells Q)) (hn : n = Q.length) (a m : Nat) (ham : a + m ≤ n) (hm : 0 < m) : RR W 1 (some ⟨bb, off + a, none⟩) m (bcells ((Q.drop a).take m)) := by
  have hl : ((Q.drop a).take m).length = m := by rw [List.length_take, List.length_drop]; omega
  refine ⟨by rw [bcells_length, hl, Nat.mul_one], fun _ => ?_⟩
  obtain ⟨b, o, hbe, hb, hc⟩ := h.2 (by omega)
  cases hbe
  refine ⟨bb, off + a, rfl, hb, fun j hj => ?_⟩
  rw [bcells_length, hl] at hj
  have h1 := hc (a + j) (by rw [bcells_length]; omega)
  rw [show off + (a + j) = off + a + j by omega] at h1
  rw [h1]
  simp only [bcells, List.getElem_map, List.getElem_take, List.getElem_drop]
theorem own_capX {w : World} {base : Nat} {e : TypeId} {size n c : Nat} {A : Option Addr} {xs : List Value} (h : w.ownsRow base e size (.slice A n c) n xs) : n ≤ c := by
  rcases h.2 with ⟨_, h0⟩ | ⟨g, cap, cur, hv, _, _, h1, _⟩
  · omega
  · cases hv
    exact h1
theorem rr_byte {Q : List UInt8} (h : RR W 1 (some ⟨bb, off, none⟩) 16 (bcells Q)) (hQ : Q.length = 16) (j : Nat) (hj : j < 16) : W.cell? ⟨bb, off + j, none⟩ = some (.int .u8 (gb Q j : Int)) := by
  obtain ⟨b, o, hbe, hb, hc⟩ := h.2 (by omega)
  cases hbe
  rw [hc j (by rw [bcells_length]; omega), bcells_at Q j (by omega), gb_get (by omega)]
end
end Go.Proofs.YtbobehieaaaleaaGreatDoor
namespace Go.Proofs.YtbobehieaaaleaaGreatDoor
set_option linter.unusedVariables false
open Go.RowKit

set_option maxHeartbeats 400000 in
theorem isByte_any (x : Int) (w : World) : Calls Tryz.prog 54 #[.int .i64 x] w fun e w' => e = .returned (.bool (inB x 0 255)) ∧ w = w' := by
  have h := fun W => within_any x 0 255 W
  go_enter Tryz.func54, Tryz.ntmps54
  go_wp2_with (go_at_call 41; (with_reducible refine (h _).mono ?_); rintro e w9 ⟨rfl, rfl⟩)
  go_ret
  exact ⟨rfl, rfl⟩
end Go.Proofs.YtbobehieaaaleaaGreatDoor
