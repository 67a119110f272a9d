/- Plain functions: differences of strings. A copy of a string into a row of bytes of the call's own. -/
import Derived.Test.YtjahgknehamlpaaUnpM
import Derived.Test.YtjahgknehamlpaaSDelta
import Derived.Test.YtjahgknehamlpaaMem2
import Derived.Lib.LazyBuf
import Derived.Lib.Strings
namespace Go.Proofs.Ytjahgknehamlpaa
open Go.RowKit
set_option linter.unusedVariables false

theorem seg_eq (s : ByteArray) (a b : Nat) : seg s a b = (s.data.toList.drop a).take (b - a) := by
  unfold seg
  rw [ByteArray.data_extract, Array.toList_extract]
theorem seg_take (s : ByteArray) (a b n : Nat) (h : a + n ≤ b) : (seg s a b).take n = seg s a (a + n) := by
  rw [seg_eq, seg_eq, List.take_take]
  congr 1
  omega
theorem seg_drop (s : ByteArray) (a b n : Nat) (h : a + n ≤ b) : (seg s a b).drop n = seg s (a + n) b := by
  rw [seg_eq, seg_eq, List.drop_take, List.drop_drop]
  congr 1
  omega
theorem seg_all (s : ByteArray) : seg s 0 s.size = s.data.toList := by
  rw [seg_eq, List.drop_zero, List.take_of_length_le]
  rw [Array.length_toList]
  exact Nat.le_refl _

theorem emp_yes (s : ByteArray) (h : s.size = 0) : s.toList.isEmpty = true ∧ s.toList = [] := by
  have : s.toList = [] := by
    rw [Lib.toList_data]
    exact List.eq_nil_of_length_eq_zero (by rw [Array.length_toList]; exact h)
  rw [this]
  exact ⟨rfl, rfl⟩
theorem emp_no (s : ByteArray) (h : ¬ s.size = 0) : s.toList.isEmpty = false ∧ ¬ s.toList = [] := by
  have : ¬ s.toList = [] := by
    rw [Lib.toList_data]
    intro h'
    have := congrArg List.length h'
    rw [Array.length_toList] at this
    exact h this
  exact ⟨by simpa using this, this⟩

/-- Put the list of differences on s, from byte at_ on, behind 'out'. -/
def apG (s : ByteArray) : List DDelta → Nat → List UInt8 → Option (List UInt8)
  | [], at_, out => some (out ++ seg s at_ s.size)
  | d :: r, at_, out =>
    if d.f1.size = 0 ∨ inB d.f0 at_ ((s.size : Int) - d.f1.size) = false then none
    else apG s r (d.f0.toNat + d.f1.size) (out ++ seg s at_ d.f0.toNat ++ d.f1.data.toList)
def apD (s : ByteArray) (l : List DDelta) : Option (List UInt8) := if 4096 < s.size then none else apG s l 0 []
theorem apD_big (s : ByteArray) (l : List DDelta) (h : 4096 < s.size) : apD s l = none := if_pos h
theorem apD_small (s : ByteArray) (l : List DDelta) (h : ¬ 4096 < s.size) : apG s (l.drop 0) 0 [] = apD s l := (if_neg h).symm
theorem apG_end (s : ByteArray) (l : List DDelta) (k at_ : Nat) (out : List UInt8) {R : Option (List UInt8)} (hk : ¬ k < l.length) (h : apG s (l.drop k) at_ out = R) : R = some (out ++ seg s at_ s.size) := by
  rw [List.drop_eq_nil_of_le (by omega)] at h
  exact h.symm
theorem apG_bad (s : ByteArray) (l : List DDelta) (k at_ : Nat) (out : List UInt8) {R : Option (List UInt8)} (hk : k < l.length) (hb : l[k].f1.size = 0 ∨ inB l[k].f0 at_ ((s.size : Int) - l[k].f1.size) = false) (h : apG s (l.drop k) at_ out = R) : R = none := by
  rw [List.drop_eq_getElem_cons hk, apG, if_pos hb] at h
  exact h.symm
theorem apG_go (s : ByteArray) (l : List DDelta) (k at_ : Nat) (out : List UInt8) {R : Option (List UInt8)} (hk : k < l.length) (h0 : ¬ l[k].f1.size = 0) (hb : inB l[k].f0 at_ ((s.size : Int) - l[k].f1.size) = true) (h : apG s (l.drop k) at_ out = R) :
    apG s (l.drop (k + 1)) (l[k].f0.toNat + l[k].f1.size) (out ++ seg s at_ l[k].f0.toNat ++ l[k].f1.data.toList) = R := by
  rw [List.drop_eq_getElem_cons hk, apG, if_neg (by simp [h0, hb])] at h
  exact h
theorem inB_in {x lo hi : Int} (h : inB x lo hi = true) : lo ≤ x ∧ x ≤ hi := by unfold inB at h; simpa using h
theorem apG_splice (s d : ByteArray) (at_ p : Nat) (out : List UInt8) (hl : out.length = at_) (h1 : at_ ≤ p) (h2 : p + d.size ≤ s.size) :
    (out ++ seg s at_ s.size).take p ++ d.data.toList ++ (out ++ seg s at_ s.size).drop (p + d.size) = (out ++ seg s at_ p ++ d.data.toList) ++ seg s (p + d.size) s.size := by
  have e1 : (out ++ seg s at_ s.size).take p = out ++ seg s at_ p := by
    rw [List.take_append, List.take_of_length_le (by omega), hl, seg_take s _ _ _ (by omega)]
    congr 2
    omega
  have e2 : (out ++ seg s at_ s.size).drop (p + d.size) = seg s (p + d.size) s.size := by
    rw [List.drop_append, List.drop_of_length_le (by omega), hl, seg_drop s _ _ _ (by omega), List.nil_append]
    congr 1
    omega
  rw [e1, e2]

def putL (l : List UInt8) : Nat → List UInt8 → List UInt8
  | _, [] => l
  | o, b :: r => putL (l.set o b) (o + 1) r
theorem putL_eq : ∀ (bs l : List UInt8) (o : Nat), o + bs.length ≤ l.length → putL l o bs = l.take o ++ bs ++ l.drop (o + bs.length)
  | [], l, o, _ => by simp [putL]
  | b :: r, l, o, h => by
    simp only [List.length_cons] at h
    have hlt : o < l.length := by omega
    rw [putL, putL_eq r _ _ (by rw [List.length_set]; omega), take_set_succ _ _ _ hlt, List.drop_set_of_lt (by omega)]
    simp only [List.append_assoc, List.cons_append, List.nil_append, List.length_cons]
    rw [show o + 1 + r.length = o + (r.length + 1) by omega]

section
variable {P : Program} {w : World} {e : TypeId}
theorem MarkB.setCells {g : Nat} : ∀ (bs : List UInt8) (o : Nat) (w : World) (l : List UInt8), MarkB w g e l → MarkB (w.setCells g o (bs.map fun x => Value.int .u8 (x.toNat : Int))) g e (putL l o bs)
  | [], _, _, _, h => h
  | b :: r, o, w, l, h => MarkB.setCells r (o + 1) _ _ (h.set_ o b _ rfl)
theorem setCells_other (g : Nat) : ∀ (vs : List Value) (o : Nat) (w : World) (q : Addr), q.block ≠ g → (w.setCells g o vs).cell? q = w.cell? q
  | [], _, _, _, _ => rfl
  | v :: r, o, w, q, h => (setCells_other g r (o + 1) _ q h).trans (World.cell?_setCell_other w _ q v (fun e => by subst e; exact h rfl))
theorem MarkB.copyS {g : Nat} {l : List UInt8} (hm : MarkB w g e l) (dT sT ty : TypeId) (E : Elt P dT e 1 1 (.int .u8 0)) (off : Nat) (str : ByteArray) (hfit : off + str.size ≤ l.length) (dLen dCap : Nat) (hle : str.size ≤ dLen) (B : Nat) (hB : B ≤ g) :
    ∃ w', (Builtin.copy_ #[dT, sT] ty #[.slice (some ⟨g, off, none⟩) dLen dCap, .string str]).run P w = .ok (goInt str.size) w' ∧
      MarkB w' g e (l.take off ++ str.data.toList ++ l.drop (off + str.size)) ∧ Below B w w' ∧ ∀ q : Addr, q.block ≠ g → w'.cell? q = w.cell? q := by
  obtain ⟨ht, ⟨i, hi, hz, hsize, hby⟩, hzs, hsz⟩ := E
  have hstr : str.data.toList.length = str.size := by rw [Array.length_toList]; rfl
  refine ⟨_, Go.run_copy_string (P := P) w dT sT ty e g off dLen dCap str ht (fun W => by simp [sizeOf, typeInfo, hi, hsize]) hle (fun j hj => ?_) (fun j hj => ?_), ?_, Go.below_setCells hB _ _ _ (Below.refl _ _), fun q hq => setCells_other g _ _ _ q hq⟩
  · rw [hm.cell (off + j) (by omega)]
    rfl
  · exact hm.free (off + j) (by omega)
  · have := MarkB.setCells str.data.toList off w l hm
    rw [putL_eq _ _ _ (by omega), hstr] at this
    exact this
theorem wpList_copyM {ops : Array Oper} {rest : List Oper} {o : Oper} {a : Act} {Q : Exit → Act → World → Prop} (hgd : o.guard = none) (d x : Operand) (t tx : TypeId)
    (ho : o.op = .call { callee := .builtin .copy, args := #[d, x], argTypes := #[t, tx] }) (E : Elt P t e 1 1 (.int .u8 0))
    {g : Nat} {l : List UInt8} (hm : MarkB w g e l) (off dLen dCap : Nat) (hd : a.eval d = .slice (some ⟨g, off, none⟩) dLen dCap) (str : ByteArray) (hx : a.eval x = .string str)
    (hfit : off + str.size ≤ l.length) (hle : str.size ≤ dLen) (B : Nat) (hB : B ≤ g)
    (h : ∀ w', MarkB w' g e (l.take off ++ str.data.toList ++ l.drop (off + str.size)) → Below B w w' → (∀ q : Addr, q.block ≠ g → w'.cell? q = w.cell? q) → wpList P ops Q rest (a.put o.dst (goInt str.size)) w') :
    wpList P ops Q (o :: rest) a w := by
  refine wpList_plain hgd fun K hK => ?_
  obtain ⟨w', hr, h2, h3, h4⟩ := hm.copyS (P := P) t tx o.type E off str hfit dLen dCap hle B hB
  unfold Oper.wp execOp
  simp only [ho, resolve, invoke, builtin, Sem.run_bind, Sem.run_pure, Result.andThen_ok, List.map_toArray, List.map_cons, List.map_nil, hd, hx, hr]
  exact hK _ _ (h w' h2 h3 h4)
end
end Go.Proofs.Ytjahgknehamlpaa
