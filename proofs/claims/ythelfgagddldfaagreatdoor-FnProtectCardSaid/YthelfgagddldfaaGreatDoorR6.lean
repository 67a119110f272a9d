/- Walks: ReadFeature (spec). -/
import Derived.Test.YthelfgagddldfaaGreatDoorR5
import Derived.Deep.CutBlock
namespace Go.Proofs.YthelfgagddldfaaGreatDoor
open Go.RowKit Go.Lib
set_option linter.unusedVariables false
set_option linter.unusedSimpArgs false

theorem mkR_tl (a : List UInt8) : (mkR a).toList = a := by rw [ByteArray.toList_eq]; rfl
theorem bl_mk (t : ByteArray) : t = mkR t.data.toList := rfl
theorem mkR_eq (a b : List UInt8) : ((mkR a).toList == (mkR b).toList) = decide (a = b) := by
  rw [mkR_tl, mkR_tl, Bool.eq_iff_iff]
  simp
theorem BX.dnR {w : World} {g : Nat} {t : TypeId} {xs : List Value} (h : BX w g t xs) (n : Nat) : BX (w.drewN n) g t xs := h
theorem BB.putR {w W : World} (h : BB w W) {a : Addr} (ha : w.heap.size ≤ a.block) (u : Value) : BB w (W.setCell a u) := Below.setCell h ha u
theorem bb3 {w W : World} {g : Nat} (hg : w.heap.size = g) (h : BB w W) (u0 u1 u2 : Value) : BB w (((W.setCell ⟨g, 0, none⟩ u0).setCell ⟨g, 1, none⟩ u1).setCell ⟨g, 2, none⟩ u2) := by
  subst hg
  exact BB.putR (BB.putR (BB.putR h (a := ⟨w.heap.size, 0, none⟩) (Nat.le_refl _) _) (a := ⟨w.heap.size, 1, none⟩) (Nat.le_refl _) _) (a := ⟨w.heap.size, 2, none⟩) (Nat.le_refl _) _
theorem spl_len : ∀ (l : List UInt8), ∀ x ∈ splL l, x.length ≤ l.length
  | [], x, hx => by
    simp [splL] at hx
    subst hx
    exact Nat.le_refl _
  | b :: r, x, hx => by
    unfold splL at hx
    split at hx
    · rcases List.mem_cons.1 hx with rfl | hx
      · exact Nat.zero_le _
      · have := spl_len r x hx
        rw [List.length_cons]
        omega
    · split at hx
      · rw [List.mem_singleton] at hx
        subst hx
        rw [List.length_cons, List.length_cons]
        exact Nat.succ_le_succ (Nat.zero_le _)
      · rename_i h t heq
        rcases List.mem_cons.1 hx with rfl | hx
        · have := spl_len r h (by rw [heq]; simp)
          rw [List.length_cons, List.length_cons]
          omega
        · have := spl_len r x (by rw [heq]; simp [hx])
          rw [List.length_cons]
          omega
theorem kindN_s {w : List UInt8} {k : Nat} : kindN w (k + 1) 0 = if kw (k + 1) = w then k + 1 else kindN w k 0 := rfl
theorem kindN_le (w : List UInt8) : ∀ n, kindN w n 0 ≤ n
  | 0 => Nat.le_refl _
  | n + 1 => by
    rw [kindN_s]
    split
    · exact Nat.le_refl _
    · exact Nat.le_succ_of_le (kindN_le w n)
theorem len_two {α : Type} {r : List α} (h : r.length = 2) : ∃ a b, r = [a, b] := by
  match r, h with
  | [a, b], _ => exact ⟨a, b, rfl⟩
theorem rfZ_2y {t x0 x1 : List UInt8} (h : splL t = [x0, x1]) (g : kindOf x0 = 8) : rfZ t = ((8 : Int), 0, numS x1) := by
  have e : rfP t = (8, 0, numS x1) := by
    unfold rfP
    rw [h]
    show (if kindOf x0 = 8 then ((8 : Nat), (0 : Int), numS x1) else (kindOf x0, numS x1, 0)) = _
    rw [if_pos g]
  unfold rfZ
  rw [e]
  rfl
theorem rfZ_2n {t x0 x1 : List UInt8} (h : splL t = [x0, x1]) (g : ¬ kindOf x0 = 8) : rfZ t = ((kindOf x0 : Int), numS x1, 0) := by
  have e : rfP t = (kindOf x0, numS x1, 0) := by
    unfold rfP
    rw [h]
    show (if kindOf x0 = 8 then ((8 : Nat), (0 : Int), numS x1) else (kindOf x0, numS x1, 0)) = _
    rw [if_neg g]
  unfold rfZ
  rw [e]
theorem rfZ_3 {t x0 x1 x2 : List UInt8} (h : splL t = [x0, x1, x2]) : rfZ t = ((kindOf x0 : Int), numS x1, numS x2) := by
  unfold rfZ rfP
  rw [h]
theorem rfZ_1 {t x0 : List UInt8} {r : List (List UInt8)} (h : splL t = x0 :: r) (h2 : ¬ r.length = 1) (h3 : ¬ r.length = 2) : rfZ t = ((kindOf x0 : Int), 0, 0) := by
  unfold rfZ rfP
  rw [h]
  rcases r with _ | ⟨a, _ | ⟨b, _ | ⟨c, r⟩⟩⟩
  · rfl
  · exact absurd rfl h2
  · exact absurd rfl h3
  · rfl
theorem rf_go {t : List UInt8} {f : Int × Int × Int} (h : rfZ t = f) : rfOk t = (decide (t ≠ []) && decide (ftx f = t)) := by rw [rfOk, h]
theorem own_cells {w : World} {B g n c : Nat} {l : List ByteArray} (O : w.ownsRow B 9 1 (.slice (some ⟨g, 0, none⟩) l.length c) l.length (flat fS l)) (j : Nat) (hj : j < l.length) : w.cell? ⟨g, j, none⟩ = some (.string l[j]) := by
  obtain ⟨b, off, e, _, hc⟩ := (RR.own O).at_ fS_len rfl j hj
  cases e
  have := hc 0 _ (by omega) rfl
  simpa using this
end Go.Proofs.YthelfgagddldfaaGreatDoor
