/- Walks: PackBytes of spec. -/
import Derived.Test.YtjjcedodjoieoaaW24
import Derived.Test.YtjjcedodjoieoaaMem3
import Derived.Deep.DeepMust
namespace Go.Proofs.Ytjjcedodjoieoaa
open Go.RowKit
set_option linter.unusedVariables false

theorem ext_take (t : ByteArray) (n : Nat) : (t.extract 0 n).data.toList = t.data.toList.take n := by
  have := seg_eq t 0 n
  unfold seg at this
  rw [this, List.drop_zero, Nat.sub_zero]
theorem ext_drop (t : ByteArray) (n : Nat) : (t.extract n t.size).data.toList = t.data.toList.drop n := by
  have := seg_eq t n t.size
  unfold seg at this
  rw [this, List.take_of_length_le]
  rw [List.length_drop, Array.length_toList]
  exact Nat.le_refl _
theorem extsz (s : ByteArray) (a b : Nat) (h : b ≤ s.size) : (s.extract a b).size = b - a := by
  rw [ByteArray.size_extract]
  omega
theorem size_list' (o : ByteArray) : o.data.toList.length = o.size := by rw [Array.length_toList]; rfl
theorem plL_chunk (t : ByteArray) (l R : List UInt8) (n : Nat) (h : 0 < t.size) (hn : n = min t.size 128) (hr : l ++ plL t.data.toList = R) :
    ((l ++ [UInt8.ofNat (n - 1)]) ++ (t.extract 0 n).data.toList) ++ plL (t.extract n t.size).data.toList = R := by
  have hl : t.data.toList.length = t.size := by rw [Array.length_toList]; rfl
  rw [plL_step t.data.toList n (by omega) (by rw [hl]; exact hn)] at hr
  rw [ext_take, ext_drop, ← hr]
  simp

set_option maxRecDepth 100000 in
set_option maxHeartbeats 1000000 in
theorem l14Plain_any (v : Value) (l : List UInt8) (s : ByteArray) (w : World) (base : Nat) (hbase : base ≤ w.heap.size) (hown : OwnB w base 5 v l) (hs : s.size ≤ 100000) (hl : l.length ≤ 100000) :
    Calls Try.prog 99 #[v, .string s] w fun e w' => ∃ v', e = .returned v' ∧ OwnB w' base 5 v' (l ++ plL s.data.toList) ∧ Below base w w' := by
  obtain ⟨A0, c0, rfl⟩ := hown.form
  go_enter Try.func99, Try.ntmps99
  go_wp2
  go_loopw [0, 1, 5] (fun ov sv _ wr => ∃ (out : List UInt8) (t : ByteArray), sv = .string t ∧ out.length + 2 * t.size ≤ 300000 ∧ OwnB wr base 5 ov out ∧ Below base w wr ∧ Hid (out ++ plL t.data.toList = l ++ plL s.data.toList)) (fun _ sv _ _ => match sv with | .string t => t.size | _ => 0)
  case atStart => exact ⟨l, s, rfl, by omega, hown, Below.refl _ _, Lib.hid rfl⟩
  case round =>
    obtain ⟨out, t, rfl, hsz, ho, hb, HI⟩ := hrel
    have hbz : base ≤ wr.heap.size := Nat.le_trans hbase hb.size
    by_cases h0 : 0 < t.size
    · by_cases h128 : 128 < t.size
      · have HN := Lib.hid (plL_chunk t out _ 128 h0 (by omega) HI.out)
        have g1 : (128 : Int) < t.size := by omega
        have he := extsz t 0 128 (by omega)
        have he2 := extsz t 128 t.size (Nat.le_refl _)
        have hm : 128 - 1 < 256 := by omega
        go_wp2_with (first
          | fail
          | (at_builtin; refine wpList_appL rfl _ _ _ rfl eltB _ out rfl ho _ _ [UInt8.ofNat (128 - 1)] 1 1 rfl (impl_cells1 (128 - 1) _ (by omega) (by omega)) rfl (by simp; omega) hbz ?_; intro v1 w2 hown1 hg1 hat1 hbl1)
          | (at_builtin; go_must (refine wpList_appS rfl _ _ _ _ rfl eltB Try.underlying9 _ (out ++ [UInt8.ofNat (128 - 1)]) rfl hown1 (t.extract 0 128) rfl (by rw [he]; simp; omega) (Nat.le_trans hbz hbl1.size) ?_); intro v2 w3 hown2 hg2 hat2 hbl2))
        go_roundw
        case rel => exact ⟨_, t.extract 128 t.size, rfl, by rw [he2, List.length_append, List.length_append, size_list', he, List.length_singleton]; omega, hown2, (hb.trans hbl1).trans hbl2, HN⟩
        case measure => simp only [he2]; omega
      · have HN := Lib.hid (show ((out ++ [UInt8.ofNat (t.size - 1)]) ++ t.data.toList) ++ plL ByteArray.empty.data.toList = l ++ plL s.data.toList from by
          have := plL_chunk t out _ t.size h0 (by omega) HI.out
          rw [ext_take, List.take_of_length_le (by rw [size_list']; exact Nat.le_refl _)] at this
          have e : (t.extract t.size t.size).data.toList = ByteArray.empty.data.toList := List.eq_nil_of_length_eq_zero (by rw [size_list', extsz t t.size t.size (Nat.le_refl _)]; omega)
          rw [e] at this
          exact this)
        have hm : t.size - 1 < 256 := by omega
        go_wp2_with (first
          | fail
          | (at_builtin; refine wpList_appL rfl _ _ _ rfl eltB _ out rfl ho _ _ [UInt8.ofNat (t.size - 1)] 1 1 rfl (impl_cells1 (t.size - 1) _ (by omega) (by omega)) rfl (by simp; omega) hbz ?_; intro v1 w2 hown1 hg1 hat1 hbl1)
          | (at_builtin; go_must (refine wpList_appS rfl _ _ _ _ rfl eltB Try.underlying9 _ (out ++ [UInt8.ofNat (t.size - 1)]) rfl hown1 t rfl (by simp; omega) (Nat.le_trans hbz hbl1.size) ?_); intro v2 w3 hown2 hg2 hat2 hbl2))
        go_roundw
        case rel => exact ⟨_, ByteArray.empty, rfl, by rw [List.length_append, List.length_append, size_list', List.length_singleton]; simp; omega, hown2, (hb.trans hbl1).trans hbl2, HN⟩
        case measure => simp; omega
    · have ht : t.data.toList = [] := List.eq_nil_of_length_eq_zero (by rw [Array.length_toList]; show t.size = 0; omega)
      have HR := Lib.hid (show out = l ++ plL s.data.toList by rw [← HI.out, ht, plL_nil, List.append_nil])
      go_wp2
      go_ret
      exact ⟨_, rfl, by rw [← HR.out]; exact ho, hb⟩
end Go.Proofs.Ytjjcedodjoieoaa
