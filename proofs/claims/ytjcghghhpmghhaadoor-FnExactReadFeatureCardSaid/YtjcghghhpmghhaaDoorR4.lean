/- Walks: a text cut at its blanks (spec), the words of the kinds. -/
import Derived.Test.YtjcghghhpmghhaaDoorR3
namespace Go.Proofs.YtjcghghhpmghhaaDoor
open Go.RowKit Go.Lib

def mkR (l : List UInt8) : ByteArray := ⟨l.toArray⟩
/-- The words of a text. -/
def wdL (l : List UInt8) : List ByteArray := (splL l).map mkR
theorem ext_mk (t : ByteArray) (a k : Nat) : t.extract a k = mkR ((t.data.toList.drop a).take (k - a)) := by
  have h : (t.extract a k).data.toList = (t.data.toList.drop a).take (k - a) := by rw [extract_data]
  unfold mkR
  rw [← h]
theorem wdL_at {l : List UInt8} {a k : Nat} (hk : k < l.length) (ha : a ≤ k) (h : l[k] = 32) (hn : ∀ b ∈ (l.drop a).take (k - a), b ≠ 32) : wdL (l.drop a) = mkR ((l.drop a).take (k - a)) :: wdL (l.drop (k + 1)) := by
  have e : l.drop a = (l.drop a).take (k - a) ++ 32 :: l.drop (k + 1) := by
    rw [← h, ← List.drop_eq_getElem_cons hk]
    conv => lhs; rw [← List.take_append_drop (k - a) (l.drop a)]
    rw [List.drop_drop]
    congr 2
    omega
  unfold wdL
  conv => lhs; rw [e]
  rw [splL_at _ _ hn]
  rfl
theorem wdL_end {l : List UInt8} {a k : Nat} (hk : k = l.length) (ha : a ≤ k) (hn : ∀ b ∈ (l.drop a).take (k - a), b ≠ 32) : wdL (l.drop a) = [mkR ((l.drop a).take (k - a))] := by
  have e : (l.drop a).take (k - a) = l.drop a := List.take_of_length_le (by rw [List.length_drop]; omega)
  rw [e] at hn ⊢
  unfold wdL
  rw [splL_no _ hn]
  rfl
theorem no_step {l : List UInt8} {a k : Nat} (hk : k < l.length) (ha : a ≤ k) (h : l[k] ≠ 32) (hn : ∀ b ∈ (l.drop a).take (k - a), b ≠ 32) : ∀ b ∈ (l.drop a).take (k + 1 - a), b ≠ 32 := by
  have e : k + 1 - a = (k - a) + 1 := by omega
  have hk2 : k - a < (l.drop a).length := by rw [List.length_drop]; omega
  rw [e, List.take_succ_eq_append_getElem hk2]
  intro b hb
  rw [List.mem_append, List.mem_singleton] at hb
  rcases hb with hb | hb
  · exact hn b hb
  · rw [hb, List.getElem_drop]
    have : l[a + (k - a)]'(by omega) = l[k] := by congr 1; omega
    rw [this]
    exact h
set_option maxRecDepth 100000 in
set_option maxHeartbeats 4000000 in
theorem l01Split_any (t : ByteArray) (w : World) (ht : t.size ≤ 1048576) : Calls Tryd.prog 7 #[.string t, .int .u8 32] w fun e w' => ∃ g c, e = .returned (.slice (some ⟨g, 0, none⟩) (wdL t.data.toList).length c) ∧ w'.ownsRow w.heap.size 9 1 (.slice (some ⟨g, 0, none⟩) (wdL t.data.toList).length c) (wdL t.data.toList).length (flat fS (wdL t.data.toList)) ∧ Below w.heap.size w w' := by
  have HL := Lib.hid (bl_len t)
  have hlit := own_lit0 (e := 9) (size := 1) w w.heap.size (Nat.le_refl _)
  have hB0 : BB w (w.alloc (.cells #[] 9)) := BB.al (BB.start w) _
  go_enter Tryd.func7, Tryd.ntmps7
  go_wp2_with fail
  generalize hW1 : w.alloc (.cells #[] 9) = w2 at hlit hB0 ⊢
  clear hW1
  go_loopw [5, 6, 7] (fun v f i wr => ∃ (k a : Nat) (A6 : Option Addr) (c6 : Nat) (P : List ByteArray), i = .int .i64 (k : Int) ∧ f = .int .i64 (a : Int) ∧ a ≤ k ∧ k ≤ t.size ∧ v = .slice A6 P.length c6 ∧ P.length ≤ k ∧ Hid (wdL t.data.toList = P ++ wdL (t.data.toList.drop a) ∧ ∀ b ∈ (t.data.toList.drop a).take (k - a), b ≠ 32) ∧ wr.ownsRow w.heap.size 9 1 v P.length (flat fS P) ∧ BB w wr) (fun _ _ i _ => t.size - (intOf i).toNat)
  case atStart => exact ⟨0, 0, _, _, [], rfl, rfl, Nat.le_refl _, Nat.zero_le _, rfl, Nat.le_refl _, Lib.hid ⟨by simp, fun b hb => by simp at hb⟩, hlit, hB0⟩
  case round =>
    clear hlit hB0
    obtain ⟨k, a, A6, c6, P, rfl, rfl, hak, hk, rfl, hPk, HI, O, hB⟩ := hrel
    have hz : w.heap.size ≤ wr.heap.size := Below.size hB
    have haki : (a : Int) ≤ (k : Int) := by omega
    have hP8 : P.length ≤ 100000000 := by omega
    have HIL := Lib.hid (fun (x : ByteArray) => (show (P ++ [x]).length = P.length + 1 by rw [List.length_append]; rfl))
    by_cases hlt : k < t.size
    · have hlti : (k : Int) < (t.size : Int) := by omega
      have hkl : k < t.data.toList.length := by rw [HL.out]; exact hlt
      have HE := Lib.hid (ext_mk t a k)
      have HAT := Lib.hid (fun h => wdL_at hkl hak h HI.out.2)
      have HNO := Lib.hid (fun h => no_step hkl hak h HI.out.2)
      have HX := Lib.hid (show t.data.toList[k] = t[k] from rfl)
      by_cases h32 : t[k] = 32
      · have hb : ((t[k].toNat : Int) == 32) = true := by rw [h32]; rfl
        have HU := Lib.hid (show wdL t.data.toList = (P ++ [t.extract a k]) ++ wdL (t.data.toList.drop (k + 1)) ∧ ∀ b ∈ (t.data.toList.drop (k + 1)).take (k + 1 - (k + 1)), b ≠ 32 from ⟨by rw [HI.out.1, HAT.out h32, HE.out, List.append_assoc]; rfl, fun b hb => by simp at hb⟩)
        clear HAT HNO HX h32 HE
        go_wp2_with (at_builtin; go_must (refine wpList_appF (f := fS) rfl (.tmp 20) (.tmp 25) 28 rfl eltStr (by decide) _ P rfl O _ _ (t.extract a k) 1 rfl (by rfl) rfl (fun u hu => by simp only [fS, List.mem_cons, List.not_mem_nil, or_false] at hu; subst hu; rfl) hP8 hz ?_); intro v5 w5 O5 hg5 hat5 hb5; obtain ⟨A5, c5, rfl⟩ := own_form O5; have hB5 : BB w w5 := Below.trans hB hb5)
        go_roundw
        case rel => exact ⟨k + 1, k + 1, A5, c5, P ++ [t.extract a k], by go_num, by go_num, Nat.le_refl _, by omega, by rw [HIL.out], by have := HIL.out (t.extract a k); omega, HU, by have h9 := O5; rw [HIL.out] at h9 ⊢; exact h9, hB5⟩
        case measure => simp [intOf]; omega
      · have hb : ((t[k].toNat : Int) == 32) = false := by
          rw [beq_eq_false_iff_ne]
          intro e
          apply h32
          apply UInt8.toNat_inj.1
          show t[k].toNat = 32
          omega
        have HU := Lib.hid (show wdL t.data.toList = P ++ wdL (t.data.toList.drop a) ∧ ∀ b ∈ (t.data.toList.drop a).take (k + 1 - a), b ≠ 32 from ⟨HI.out.1, HNO.out h32⟩)
        clear HAT HNO HX h32 HE
        go_wp2_with fail
        go_roundw
        case rel => exact ⟨k + 1, a, A6, c6, P, by go_num, rfl, by omega, by omega, rfl, by omega, HU, O, hB⟩
        case measure => simp [intOf]; omega
    · have hlti : ¬ (k : Int) < (t.size : Int) := by omega
      have hks : k = t.size := by omega
      have has : a ≤ t.size := by omega
      have HE := Lib.hid (ext_mk t a t.size)
      have HW := Lib.hid (show wdL t.data.toList = P ++ [t.extract a t.size] by
        rw [HI.out.1, wdL_end (by rw [HL.out]; exact hks) hak HI.out.2, HE.out, hks])
      clear HI
      go_wp2_with (at_builtin; go_must (refine wpList_appF (f := fS) rfl (.tmp 29) (.tmp 33) 28 rfl eltStr (by decide) _ P rfl O _ _ (t.extract a t.size) 1 rfl (by rfl) rfl (fun u hu => by simp only [fS, List.mem_cons, List.not_mem_nil, or_false] at hu; subst hu; rfl) hP8 hz ?_); intro v5 w5 O5 hg5 hat5 hb5; have hB5 : BB w w5 := Below.trans hB hb5)
      go_ret
      rcases O5.2 with ⟨_, h0⟩ | ⟨g', cap, cur, hv, _⟩
      · have := HIL.out (t.extract a t.size)
        omega
      · subst hv
        refine ⟨g', cap, by rw [HW.out]; rfl, by rw [HW.out]; exact O5, hB5⟩
def kwB : List ByteArray := kwL.map mkR
set_option maxRecDepth 100000 in
set_option maxHeartbeats 1000000 in
theorem l11Words_any (w : World) : Calls Tryd.prog 8 #[] w fun e w' => e = .returned (.slice (some ⟨w.heap.size, 0, none⟩) 9 9) ∧ (∀ k, (hk : k < kwB.length) → w'.cell? ⟨w.heap.size, k, none⟩ = some (.string kwB[k])) ∧ w.heap.size < w'.heap.size ∧ Below w.heap.size w w' := by
  go_enter Tryd.func8, Tryd.ntmps8
  go_wp2
  go_ret
  refine ⟨rfl, ?_, by simp, (by with_reducible repeat (first | exact Below.refl _ _ | assumption | refine below_step ?_ (by assumption) | refine Below.drew ?_ | refine below_drewN ?_ _ | refine below_alloc ?_ _ | refine Below.setCell ?_ (by simp; try omega) _))⟩
  intro k hk
  have h9 : k < 9 := hk
  simp only [World.cell?_alloc_new]
  have : k = 0 ∨ k = 1 ∨ k = 2 ∨ k = 3 ∨ k = 4 ∨ k = 5 ∨ k = 6 ∨ k = 7 ∨ k = 8 := by omega
  rcases this with rfl | rfl | rfl | rfl | rfl | rfl | rfl | rfl | rfl <;> rfl
end Go.Proofs.YtjcghghhpmghhaaDoor
