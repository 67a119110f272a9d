/- Walks: the text of a feature (spec). -/
import Derived.Test.YthelfgagddldfaaGreatDoorR4
namespace Go.Proofs.YthelfgagddldfaaGreatDoor
open Go.RowKit Go.Lib
set_option linter.unusedVariables false

theorem BX.drR {w : World} {g : Nat} {t : TypeId} {xs : List Value} (h : BX w g t xs) : BX w.drew g t xs := h
theorem mkR_size (l : List UInt8) : (mkR l).size = l.length := List.size_toArray
theorem mkR_app (a b : List UInt8) : mkR a ++ mkR b = mkR (a ++ b) := app_arr a b
theorem sp_mk : (⟨#[32]⟩ : ByteArray) = mkR [32] := rfl
theorem kwB_at {a : Nat} (h : a < kwB.length) : kwB[a] = mkR (kw a) := by
  have h2 : a < kwL.length := h
  refine Eq.trans (List.getElem_map (f := mkR) (l := kwL) (h := h)) ?_
  unfold kw
  rw [List.getD_eq_getElem?_getD, List.getElem?_eq_getElem h2]
  rfl
theorem kw_len (a : Nat) : (kw a).length ≤ 9 := by
  by_cases h : a < 9
  · have h9 : ∀ k : Fin 9, (kw k.val).length ≤ 9 := by decide
    exact h9 ⟨a, h⟩
  · unfold kw
    rw [List.getD_eq_getElem?_getD, List.getElem?_eq_none (by simp [kwL]; omega)]
    exact Nat.zero_le _
theorem tx_b {k s v : Nat} (h : k = 1 ∨ k = 7) : (mkR (kw k) ++ (⟨#[32]⟩ ++ mkR (decDigits s))) ++ (⟨#[32]⟩ ++ mkR (decDigits v)) = mkR (txL k s v) := by
  rw [txL_13 h, sp_mk, mkR_app, mkR_app, mkR_app, mkR_app]
  congr 1
  simp
theorem tx_8 {s v : Nat} : mkR (kw 8) ++ (⟨#[32]⟩ ++ mkR (decDigits v)) = mkR (txL 8 s v) := by
  rw [txL_8, sp_mk, mkR_app, mkR_app]
  congr 1
theorem tx_2 {k s v : Nat} (h : 2 ≤ k ∧ k ≤ 6) : mkR (kw k) ++ (⟨#[32]⟩ ++ mkR (decDigits s)) = mkR (txL k s v) := by
  rw [txL_2 h, sp_mk, mkR_app, mkR_app]
  congr 1
end Go.Proofs.YthelfgagddldfaaGreatDoor
