/- Walks: a disk of extents is laid out (impl). -/
import Derived.Test.YtjahgknehamlpaaXFm
import Derived.Test.YtjahgknehamlpaaXSp
import Derived.Test.YtjahgknehamlpaaDelM
import Derived.Test.YtjahgknehamlpaaW61
namespace Go.Proofs.Ytjahgknehamlpaa
open Go.RowKit
set_option linter.unusedVariables false

theorem flatS_map : ∀ l : List ByteArray, flat fS l = l.map Value.string
  | [] => rfl
  | x :: l => by
    show .string x :: flat fS l = .string x :: l.map Value.string
    rw [flatS_map l]
theorem exS_size (b s : Nat) (h : 8 ≤ s) : (exS b s).size = s := by
  unfold exS
  rw [ByteArray.size_append, ex5_size, zerosB_size]
  omega
theorem exS_list (b s : Nat) (h : 8 ≤ s) : (exS b s).data.toList.length = s := by
  rw [Array.length_toList]
  exact exS_size b s h
theorem chk_0 (E : List UInt8) (s m : Nat) (hE : E.length = s) : chk (E ++ List.replicate m 0) s 0 = ⟨E.toArray⟩ := by
  unfold chk
  rw [Nat.zero_mul, List.drop_zero, ← hE, List.take_left]
theorem chk_k (E : List UInt8) (s m k : Nat) (hE : E.length = s) (hk : k * s + s ≤ m) : chk (E ++ List.replicate m 0) s (k + 1) = zerosB s := by
  unfold chk zerosB
  rw [Nat.succ_mul, List.drop_append, List.drop_of_length_le (by omega), List.nil_append, hE, Nat.add_sub_cancel, List.drop_replicate, List.take_replicate, Nat.min_eq_left (by omega)]
theorem chk_all (b s len : Nat) (hb : 0 < b) (h8 : 8 ≤ s) (hlen : b * s = len) : chkV ((exS b s).data.toList ++ List.replicate (len - s) 0) s (List.finRange b) = flat fS (fxS b s (b - 1)) := by
  rw [flatS_map]
  unfold chkV
  refine List.ext_getElem (by rw [List.length_map, List.length_map, List.length_finRange, fxS_len]; omega) fun k h1 h2 => ?_
  rw [List.length_map, List.length_finRange] at h1
  rw [List.getElem_map, List.getElem_map, List.getElem_finRange]
  congr 1
  show chk _ s k = _
  cases k with
  | zero =>
    rw [chk_0 _ s _ (exS_list b s h8)]
    show _ = exS b s
    generalize exS b s = E
    obtain ⟨d⟩ := E
    simp
  | succ k =>
    have hm : (k + 2) * s ≤ b * s := Nat.mul_le_mul_right s (by omega)
    rw [Nat.succ_mul, Nat.succ_mul, hlen] at hm
    rw [chk_k _ s _ k (exS_list b s h8) (by omega)]
    simp [fxS]
theorem MarkB.of_cells (w : World) (cs : Array Value) (e : TypeId) (l : List UInt8) (h : cs.toList = bcells l) : MarkB (w.alloc (.cells cs e)) w.heap.size e l := by
  refine ⟨cs, (0, 0), heap_alloc_new w _, fun j hj => ?_, fun j hj => by simp⟩
  rw [← Array.getElem?_toList, h, bcells, List.getElem?_map, List.getElem?_eq_getElem hj]
  rfl

set_option maxRecDepth 100000 in
set_option maxHeartbeats 2000000 in
theorem impl_FormatExtents_any (B Z : Int) (w : World) :
    Calls Try.prog 28 #[.int .i64 B, .int .i64 Z] w fun e w' => ∃ v, e = .returned (.tuple #[v, .int .i64 (fxC B Z)]) ∧ w'.ownsRow w.heap.size 9 1 v (fxL B Z).length (flat fS (fxL B Z)) ∧ Below w.heap.size w w' := by
  cases hB : inB B 8 128
  · obtain ⟨h1, h2⟩ := fx_2 (Z := Z) hB
    have H1 := Lib.hid h1
    clear h1
    go_enter Try.func28, Try.ntmps28
    go_wp2_with (go_at_call 54; (with_reducible refine (within_any B 8 128 _).mono ?_); rintro e w1 ⟨rfl, rfl⟩; rw [hB])
    go_ret2
    exact ⟨_, by rw [H1.out]; rfl, by rw [h2]; exact World.ownsRow_nil _ _ _ _, Below.refl _ _⟩
  by_cases hZ : okZ Z
  case neg =>
    obtain ⟨h1, h2⟩ := fx_1 hB hZ
    have H1 := Lib.hid h1
    have n1 : (Z != 8) = true := by simp; intro h; exact hZ (.inl h)
    have n2 : (Z != 16) = true := by simp; intro h; exact hZ (.inr (.inl h))
    have n3 : (Z != 32) = true := by simp; intro h; exact hZ (.inr (.inr h))
    clear h1 hZ
    go_enter Try.func28, Try.ntmps28
    go_wp2_with (go_at_call 54; (with_reducible refine (within_any B 8 128 _).mono ?_); rintro e w1 ⟨rfl, rfl⟩; rw [hB])
    go_ret2
    exact ⟨_, by rw [H1.out]; rfl, by rw [h2]; exact World.ownsRow_nil _ _ _ _, Below.refl _ _⟩
  obtain ⟨hb1, hb2⟩ := inB_yes hB
  obtain ⟨b, rfl⟩ : ∃ b : Nat, B = (b : Int) := ⟨B.toNat, by omega⟩
  obtain ⟨s, rfl⟩ : ∃ s : Nat, Z = (s : Int) := ⟨Z.toNat, by unfold okZ at hZ; omega⟩
  have hs8 : 8 ≤ s := by unfold okZ at hZ; omega
  have hs32 : s ≤ 32 := by unfold okZ at hZ; omega
  have hs3 : ((s : Int) != 8) = false ∨ (((s : Int) != 8) = true ∧ ((s : Int) != 16) = false) ∨ (((s : Int) != 8) = true ∧ ((s : Int) != 16) = true ∧ ((s : Int) != 32) = false) := by
    unfold okZ at hZ
    simp
    omega
  obtain ⟨h1, h2⟩ := fx_0 hB hZ
  have H1 := Lib.hid h1
  have H2 := Lib.hid h2
  clear h1 h2 hZ
  obtain ⟨len, hlen⟩ : ∃ len, b * s = len := ⟨_, rfl⟩
  have hl1 : len ≤ 128 * 32 := by rw [← hlen]; exact Nat.mul_le_mul (by omega) hs32
  have hl2 : 8 * s ≤ len := by rw [← hlen]; exact Nat.mul_le_mul_right s (by omega)
  have hwl : IntKind.i64.wrap ((b : Int) * (s : Int)) = (len : Int) := by
    rw [← Int.natCast_mul, hlen]
    exact IntWalk.i64_in _ (by omega)
  have hwl2 : wrap64 ((b : Int) * (s : Int)) = (len : Int) := by
    rw [← Int.natCast_mul, hlen]
    exact IntWalk.wrap64_in _ (by omega)
  have HL := Lib.hid hlen
  clear hlen
  have hmk := fun W => eltB.make len (by omega) (by omega) W
  simp only [Nat.mul_one, show (Value.int .u8 0).cells = #[Value.int .u8 0] from rfl] at hmk
  have hall := Lib.hid (chk_all b s len (by omega) hs8 HL.out)
  have hes := exS_size b s hs8
  have lay := fun W => extentLayout_any b s W (by omega) (by omega) hs32
  obtain ⟨X, hX⟩ : ∃ X, exD b s = X := ⟨_, rfl⟩
  have hdr := fun W => extentHeader_any b s (X : Int) W (by omega) hs8 hs32
  obtain ⟨E, hE⟩ : ∃ E, b / 4 = E := ⟨_, rfl⟩
  rw [hX, hE] at lay
  rw [hE] at hdr
  clear hX hE
  have hqq : ((exS b s).data.toList ++ List.replicate (len - s) (0 : UInt8)).length = len := by rw [List.length_append, exS_list b s hs8, List.length_replicate]; omega
  rcases hs3 with q1 | ⟨q1, q2⟩ | ⟨q1, q2, q3⟩
  all_goals
    go_enter Try.func28, Try.ntmps28
    go_upto_region 7 with (first
      | (go_at_call 58; (with_reducible refine (lay _).mono ?_); rintro e w2 ⟨rfl, hx2⟩)
      | (go_at_call 54; (with_reducible refine (within_any b 8 128 _).mono ?_); rintro e w1 ⟨rfl, rfl⟩; rw [hB]))
    have F := (BX.made w2 93 [.int .i64 (b : Int), .int .i64 (s : Int), .int .i64 (E : Int), .int .i64 (X : Int)]).al (.cells (madeCells #[Value.int .u8 0] len) 5)
    have hm := MarkB.of_cells (w2.alloc (.cells #[.int .i64 (b : Int), .int .i64 (s : Int), .int .i64 (E : Int), .int .i64 (X : Int)] 93)) (madeCells #[Value.int .u8 0] len) 5 (List.replicate len 0) (made_bytes len)
    rw [World.size_alloc] at hm
    have hb4 : Below w.heap.size w ((w2.alloc (.cells #[.int .i64 (b : Int), .int .i64 (s : Int), .int .i64 (E : Int), .int .i64 (X : Int)] 93)).alloc (.cells (madeCells #[Value.int .u8 0] len) 5)) := (hx2.alloc hx2.size _).alloc (by rw [World.size_alloc]; exact Nat.le_succ_of_le hx2.size) _
    have hw2 := hx2.size
    clear hmk lay
    generalize (w2.alloc (.cells #[.int .i64 (b : Int), .int .i64 (s : Int), .int .i64 (E : Int), .int .i64 (X : Int)] 93)).alloc (.cells (madeCells #[Value.int .u8 0] len) 5) = w4 at F hm hb4 ⊢
    generalize w2.heap.size = G at F hm hw2 ⊢
    have f0 : (_ : Option Value) = some (.int .i64 (b : Int)) := F.cell 0 (by simp)
    have f1 : (_ : Option Value) = some (.int .i64 (s : Int)) := F.cell 1 (by simp)
    have f2 : (_ : Option Value) = some (.int .i64 (E : Int)) := F.cell 2 (by simp)
    have f3 : (_ : Option Value) = some (.int .i64 (X : Int)) := F.cell 3 (by simp)
    go_wp2_with (first
      | (with_reducible show wpList _ _ _ (Oper.mk (some 31) _ _ _ _ _ :: _) _ _; go_must (refine wpList_copyM rfl (.tmp 28) (.tmp 30) 22 9 rfl eltB hm5 0 len len rfl (exS b s) rfl (by rw [hes, List.length_replicate]; omega) (by rw [hes]; omega) w.heap.size (by omega) ?_); intro w6 hm6 hb6 _; rw [List.take_zero, List.nil_append, Nat.zero_add, hes, List.drop_replicate] at hm6)
      | (go_at_call 60; (with_reducible refine (splitBlocks_any (G + 1) b s len len ((exS b s).data.toList ++ List.replicate (len - s) 0) hqq (by omega) HL.out (by omega) (Nat.le_refl _) (by omega) _ hm6.lt (fun j hj => hm6.cell j hj)).mono ?_); rintro e w7 ⟨v, rfl, R, hx7⟩; rw [hall.out] at R)
      | (go_at_call 59; (with_reducible refine (hdr _).mono ?_); rintro e w5 ⟨rfl, hx5⟩; have hm5 := hm.below hx5 hm.lt; have hb5 := hb4.trans (hx5.mono hb4.size)))
    go_ret2
    exact ⟨v, by rw [H1.out]; rfl, by rw [H2.out, fxS_len, show b - 1 + 1 = b by omega]; exact own_base R (hb5.trans hb6).size, (hb5.trans hb6).trans (hx7.mono (hb5.trans hb6).size)⟩
end Go.Proofs.Ytjahgknehamlpaa
