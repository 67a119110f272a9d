/- Walks: a disk of extents is laid out (spec). -/
import Derived.Test.YtjahgknehamlpaaXEx
import Derived.Test.YtjahgknehamlpaaSString
import Derived.Test.YtjahgknehamlpaaW30
import Derived.Test.YtjahgknehamlpaaMem5
namespace Go.Proofs.Ytjahgknehamlpaa
open Go.RowKit
set_option linter.unusedVariables false

def okZ (Z : Int) : Prop := Z = 8 ∨ Z = 16 ∨ Z = 32
instance (Z : Int) : Decidable (okZ Z) := by unfold okZ; infer_instance
/-- The code of FormatExtents, and its blocks. -/
def fxC (B Z : Int) : Int := if inB B 8 128 = false then 2 else if okZ Z then 0 else 1
def fxS (b s : Nat) (k : Nat) : List ByteArray := exS b s :: List.replicate k (zerosB s)
def fxL (B Z : Int) : List ByteArray := if fxC B Z = 0 then fxS B.toNat Z.toNat (B.toNat - 1) else []
theorem fxS_len (b s k : Nat) : (fxS b s k).length = k + 1 := by simp [fxS]
theorem fxS_snoc (b s k : Nat) : fxS b s k ++ [zerosB s] = fxS b s (k + 1) := by
  unfold fxS
  rw [List.cons_append, List.replicate_succ']
theorem fx_2 {B Z : Int} (h : inB B 8 128 = false) : fxC B Z = 2 ∧ fxL B Z = [] := by
  have : fxC B Z = 2 := by simp [fxC, h]
  exact ⟨this, by simp [fxL, this]⟩
theorem fx_1 {B Z : Int} (h : inB B 8 128 = true) (h2 : ¬ okZ Z) : fxC B Z = 1 ∧ fxL B Z = [] := by
  have : fxC B Z = 1 := by simp [fxC, h, h2]
  exact ⟨this, by simp [fxL, this]⟩
theorem fx_0 {b s : Nat} (h : inB (b : Int) 8 128 = true) (h2 : okZ (s : Int)) : fxC b s = 0 ∧ fxL b s = fxS b s (b - 1) := by
  have : fxC b s = 0 := by simp [fxC, h, h2]
  exact ⟨this, by simp [fxL, this]⟩

theorem oneS (x : ByteArray) : ∀ u ∈ fS x, u.oneCell' = true := by
  intro u hu
  simp only [fS, List.mem_cons, List.not_mem_nil, or_false] at hu
  subst hu
  rfl

set_option maxHeartbeats 1000000 in
theorem l17SizeI_any (Z : Int) (w : World) : Calls Try.prog 56 #[.int .i64 Z] w fun e w' => e = .returned (.bool (decide (okZ Z))) ∧ w = w' := by
  by_cases h1 : Z = 8
  · subst h1
    go_enter Try.func56, Try.ntmps56
    go_wp2
    go_ret
    exact ⟨rfl, rfl⟩
  by_cases h2 : Z = 16
  · subst h2
    go_enter Try.func56, Try.ntmps56
    go_wp2
    go_ret
    exact ⟨rfl, rfl⟩
  by_cases h3 : Z = 32
  · subst h3
    go_enter Try.func56, Try.ntmps56
    go_wp2
    go_ret
    exact ⟨rfl, rfl⟩
  have n1 : (Z == 8) = false := by simpa using h1
  have n2 : (Z == 16) = false := by simpa using h2
  have n3 : (Z == 32) = false := by simpa using h3
  have hn : ¬ okZ Z := by rintro (h | h | h) <;> contradiction
  rw [decide_eq_false hn]
  clear h1 h2 h3 hn
  go_enter Try.func56, Try.ntmps56
  go_wp2
  go_ret
  exact ⟨rfl, rfl⟩

set_option maxRecDepth 100000 in
set_option maxHeartbeats 2000000 in
theorem l17Format_any (b s : Nat) (w : World) (hb : 8 ≤ b) (hb2 : b ≤ 128) (h8 : 8 ≤ s) (hs : s ≤ 32) :
    Calls Try.prog 57 #[.int .i64 (b : Int), .int .i64 (s : Int)] w fun e w' => ∃ v, e = .returned v ∧ w'.ownsRow w.heap.size 9 1 v (fxS b s (b - 1)).length (flat fS (fxS b s (b - 1))) ∧ Below w.heap.size w w' := by
  have hmk := fun W => eltB.make s (by omega) (by omega) W
  simp only [Nat.mul_one, show (Value.int .u8 0).cells = #[Value.int .u8 0] from rfl] at hmk
  have hcv : ∀ W : World, (convert 22 9 (.slice (some ⟨W.heap.size, 0, none⟩) s s)).run Try.prog (W.alloc (.cells (madeCells #[Value.int .u8 0] s) 5)) = .ok (.string (zerosB s)) (W.alloc (.cells (madeCells #[Value.int .u8 0] s) 5)) := fun W => by
    have ho := OwnB.lit (e := 5) (base := 0) W (List.replicate s (0 : UInt8)) (madeCells #[Value.int .u8 0] s) (made_bytes s) (Nat.zero_le _) (by simp [maxLen]; omega)
    rw [List.length_replicate] at ho
    exact run_b2s (P := Try.prog) Try.underlying22 Try.underlying5 Try.underlying9 ho
  go_enter Try.func57, Try.ntmps57
  go_wp2_with (go_at_call 84; (with_reducible refine (l17Head_any b s _ hb2 h8 hs).mono ?_); rintro e w1 ⟨rfl, hx1⟩)
  have R0 : World.ownsRow (w1.alloc (.cells #[.string (exS b s)] 9)) w.heap.size 9 1 (.slice (some ⟨w1.heap.size, 0, none⟩) 1 1) 1 (flat fS (fxS b s 0)) :=
    World.ownsRow_lit (base := w.heap.size) (e := 9) (size := 1) w1 #[.string (exS b s)] 1 hx1.size (by simp [maxLen]) rfl
  have hb0 : Below w.heap.size w (w1.alloc (.cells #[.string (exS b s)] 9)) := hx1.alloc hx1.size _
  generalize w1.alloc (.cells #[.string (exS b s)] 9) = w2 at R0 hb0 ⊢
  go_loopw [5] (fun o wr => ∃ (k : Nat) (A : Option Addr) (c : Nat), o = .slice A (k + 1) c ∧ k + 1 ≤ b ∧ wr.ownsRow w.heap.size 9 1 (.slice A (k + 1) c) (k + 1) (flat fS (fxS b s k)) ∧ Below w.heap.size w wr) (fun o _ => match o with | .slice _ k _ => b - k | _ => 0)
  case atStart => exact ⟨0, _, _, rfl, by omega, R0, hb0⟩
  case round =>
    obtain ⟨k, A, c, rfl, hk, R, hbl⟩ := hrel
    by_cases hlt : k + 1 < b
    · have hd : (k : Int) + 1 < (b : Int) := by omega
      have R' : World.ownsRow wr w.heap.size 9 1 (.slice A (k + 1) c) (fxS b s k).length (flat fS (fxS b s k)) := by rw [fxS_len]; exact R
      have hl : (fxS b s k).length ≤ 100000000 := by rw [fxS_len]; omega
      have hcvw := hcv wr
      have hmkw := hmk wr
      have hsz := hbl.size
      go_wp2_with (at_builtin; go_must (refine wpList_appF (f := fS) rfl (.tmp 14) (.tmp 18) 36 rfl eltStr (by decide) _ (fxS b s k) rfl (World.ownsRow.alloc R' _) _ _ (zerosB s) 1 (by rw [World.size_alloc]; rfl) rfl rfl (oneS _) hl (by rw [World.size_alloc]; exact Nat.le_succ_of_le hsz) ?_); intro v' w' hown' hg' hat' hbl'; rw [fxS_snoc, fxS_len] at hown'; obtain ⟨A9, c9, rfl⟩ := own_form hown')
      go_roundw
      case rel => exact ⟨k + 1, A9, c9, rfl, by omega, hown', (below_alloc hbl _).trans hbl'⟩
      case measure => show b - (k + 1 + 1) < b - (k + 1); omega
    · have hd : ¬ (k : Int) + 1 < (b : Int) := by omega
      go_wp2
      go_ret
      exact ⟨_, rfl, by rw [show b - 1 = k by omega, fxS_len]; exact R, hbl⟩

set_option maxRecDepth 100000 in
set_option maxHeartbeats 2000000 in
theorem spec_FormatExtents_any (B Z : Int) (w : World) :
    Calls Try.prog 27 #[.int .i64 B, .int .i64 Z] w fun e w' => ∃ v, e = .returned (.tuple #[v, .int .i64 (fxC B Z)]) ∧ w'.ownsRow w.heap.size 9 1 v (fxL B Z).length (flat fS (fxL B Z)) ∧ Below w.heap.size w w' := by
  cases hB : inB B 8 128
  · obtain ⟨h1, h2⟩ := fx_2 (Z := Z) hB
    have H1 := Lib.hid h1
    clear h1
    go_enter Try.func27, Try.ntmps27
    go_wp2_with (go_at_call 34; (with_reducible refine (l00In_any B 8 128 _).mono ?_); rintro e w1 ⟨rfl, rfl⟩; rw [hB])
    go_ret2
    exact ⟨_, by rw [H1.out]; rfl, by rw [h2]; exact World.ownsRow_nil _ _ _ _, Below.refl _ _⟩
  by_cases hZ : okZ Z
  · obtain ⟨hb1, hb2⟩ := inB_yes hB
    obtain ⟨b, rfl⟩ : ∃ b : Nat, B = (b : Int) := ⟨B.toNat, by omega⟩
    obtain ⟨s, rfl⟩ : ∃ s : Nat, Z = (s : Int) := ⟨Z.toNat, by unfold okZ at hZ; omega⟩
    have hs8 : 8 ≤ s := by unfold okZ at hZ; omega
    have hs32 : s ≤ 32 := by unfold okZ at hZ; omega
    obtain ⟨h1, h2⟩ := fx_0 hB hZ
    have H1 := Lib.hid h1
    have H2 := Lib.hid h2
    have HZ := Lib.hid (decide_eq_true hZ)
    clear h1 h2 hZ
    go_enter Try.func27, Try.ntmps27
    go_wp2_with (first
      | (go_at_call 57; (with_reducible refine (l17Format_any b s _ (by omega) (by omega) hs8 hs32).mono ?_); rintro e w3 ⟨v, rfl, R, hx3⟩)
      | (go_at_call 56; (with_reducible refine (l17SizeI_any s _).mono ?_); rintro e w2 ⟨rfl, rfl⟩; rw [HZ.out])
      | (go_at_call 34; (with_reducible refine (l00In_any b 8 128 _).mono ?_); rintro e w1 ⟨rfl, rfl⟩; rw [hB]))
    go_ret2
    exact ⟨v, by rw [H1.out]; rfl, by rw [H2.out]; exact R, hx3⟩
  · obtain ⟨h1, h2⟩ := fx_1 hB hZ
    have H1 := Lib.hid h1
    have HZ := Lib.hid (decide_eq_false hZ)
    clear h1 hZ
    go_enter Try.func27, Try.ntmps27
    go_wp2_with (first
      | (go_at_call 56; (with_reducible refine (l17SizeI_any Z _).mono ?_); rintro e w2 ⟨rfl, rfl⟩; rw [HZ.out])
      | (go_at_call 34; (with_reducible refine (l00In_any B 8 128 _).mono ?_); rintro e w1 ⟨rfl, rfl⟩; rw [hB]))
    go_ret2
    exact ⟨_, by rw [H1.out]; rfl, by rw [h2]; exact World.ownsRow_nil _ _ _ _, Below.refl _ _⟩
end Go.Proofs.Ytjahgknehamlpaa
