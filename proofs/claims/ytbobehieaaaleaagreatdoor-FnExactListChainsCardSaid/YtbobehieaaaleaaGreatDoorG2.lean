/- Walks: a name is put in its place (spec). -/
import Derived.Test.YtbobehieaaaleaaGreatDoorG1
import Derived.Test.YtbobehieaaaleaaGreatDoorMem5
namespace Go.Proofs.YtbobehieaaaleaaGreatDoor
open Go.RowKit
set_option linter.unusedVariables false

set_option maxRecDepth 100000 in
set_option maxHeartbeats 4000000 in
theorem l16Sorted_any (g c : Nat) (l : List ByteArray) (t : ByteArray) (w : World) (hr : RR w 1 (some ⟨g, 0, none⟩) l.length (flat fS l)) (hg : g < w.heap.size) (hcap : l.length ≤ c) (hn : l.length ≤ 1000) :
    Calls Tryz.prog 13 #[.slice (some ⟨g, 0, none⟩) l.length c, .string t] w fun e w' => ∃ g' c', e = .returned (.slice (some ⟨g', 0, none⟩) (insN l t).length c') ∧ w'.ownsRow w.heap.size 9 1 (.slice (some ⟨g', 0, none⟩) (insN l t).length c') (insN l t).length (flat fS (insN l t)) ∧ Below w.heap.size w w' := by
  have HC := Lib.hid (str_cells hr)
  have hB := BB.start w
  go_enter Tryz.func13, Tryz.ntmps13
  go_upto_block 0 with fail
  go_cut [5] (fun i wx => w = wx ∧ ∃ k : Nat, i = .int .i64 (k : Int) ∧ k ≤ l.length ∧ Hid (l.takeWhile (ltN t) = l.take k ∧ l.dropWhile (ltN t) = l.drop k))
  case first =>
    go_wp2_with fail
    go_loop [5] (fun i => ∃ k : Nat, i = .int .i64 (k : Int) ∧ k ≤ l.length ∧ Hid (∀ j, (hj : j < l.length) → j < k → ltN t l[j] = true)) (fun i => l.length - (intOf i).toNat)
    case atStart => exact ⟨0, rfl, Nat.zero_le _, Lib.hid (fun j hj h => absurd h (by omega))⟩
    case round =>
      obtain ⟨k, rfl, hk, HI⟩ := hrel
      by_cases hlt : k < l.length
      · have hlti : (k : Int) < (l.length : Int) := by omega
        have hd : decide ((k : Int) < (l.length : Int)) = true := decide_eq_true hlti
        have ck := HC.out k hlt
        have HT : ltN t l[k] = true → Hid (∀ j, (hj : j < l.length) → j < k + 1 → ltN t l[j] = true) := fun h => Lib.hid (fun j hj h2 => by
          by_cases hjk : j = k
          · subst hjk; exact h
          · exact HI.out j hj (by omega))
        have HF : ltN t l[k] = false → Hid (l.takeWhile (ltN t) = l.take k ∧ l.dropWhile (ltN t) = l.drop k) := fun h => Lib.hid (tw_dw l k HI.out (Or.inr ⟨hlt, h⟩))
        obtain ⟨x, hx⟩ : ∃ x, l[k] = x := ⟨_, rfl⟩
        rw [hx] at ck HT HF
        clear hx
        cases hbl : Op.bytesLess x.toList t.toList
        · have HN := HF hbl
          clear HF HT
          go_wp2_with fail
          go_meet
          exact ⟨rfl, k, rfl, hk, HN⟩
        · have HN := HT hbl
          clear HF HT
          go_wp2_with fail
          go_round
          case rel => exact ⟨k + 1, by go_num, by omega, HN⟩
          case measure => simp [intOf]; omega
      · have hlti : ¬ (k : Int) < (l.length : Int) := by omega
        have hd : decide ((k : Int) < (l.length : Int)) = false := decide_eq_false hlti
        have HN := Lib.hid (tw_dw l k HI.out (Or.inl (by omega)))
        go_wp2_with fail
        go_meet
        exact ⟨rfl, k, rfl, hk, HN⟩
  case rest =>
    obtain ⟨rfl, k, rfl, hk, HI⟩ := hcut
    have HL := Lib.hid (insN_at HI.out)
    clear HI
    have hown0 := own_lit0 (e := 9) (size := 1) w w.heap.size (Nat.le_refl _)
    have hw0 : ∀ j, (hj : j < l.length) → (w.alloc (.cells #[] 9)).cell? ⟨g, j, none⟩ = some (.string l[j]) := fun j hj => (Below.cell (BB.al hB (.cells #[] 9)) (p := ⟨g, j, none⟩) hg).trans (HC.out j hj)
    have hM1 : ∀ j u, (l.take k)[j]? = some u → l[0 + j]? = some u := fun j u h => by
      rw [List.getElem?_take] at h
      split at h
      · rwa [Nat.zero_add]
      · cases h
    have hk1 : k = (l.take k).length := by rw [List.length_take]; omega
    have HM2 := Lib.hid (show ∀ j u, (l.drop k)[j]? = some u → l[k + j]? = some u from fun j u h => by rwa [List.getElem?_drop] at h)
    have HK2 := Lib.hid (show l.length - k = (l.drop k).length by rw [List.length_drop])
    have hkc : k ≤ c := by omega
    have hkl : (k : Int) ≤ (l.length : Int) := by omega
    have s1 := src_str (P := Tryz.prog) (k := 0) (t := 22) Tryz.underlying22 hw0 (l.take k) k c hk1 hM1
    have HK1 := Lib.hid hk1
    clear hw0 hM1 hk1
    go_upto_region 5 with (at_builtin; go_must (refine wpList_app _ rfl _ _ _ _ rfl w.heap.size 9 _ 1 16 eltStr _ 0 [] rfl hown0 _ k (flat fS (l.take k)) rfl s1 (by unfold maxLen; omega) (by omega) (by rw [World.size_alloc]; omega) ?_); intro v3 w3 hown3 hg3 hat3; rw [Nat.zero_add, List.nil_append] at hown3; have hb3 := below_of_own hown0 (by rw [World.size_alloc]; omega) hg3)
    have hB3 : BB w w3 := Below.trans (BB.al hB (.cells #[] 9)) hb3
    have hown3 : w3.ownsRow w.heap.size 9 1 v3 (l.take k).length (flat fS (l.take k)) := by rw [← HK1.out]; exact hown3
    have hsz3 : w.heap.size ≤ w3.heap.size := Below.size hB3
    have htk : (l.take k).length ≤ 100000000 := by rw [← HK1.out]; omega
    clear s1 hown0 hb3 hg3 hat3
    obtain ⟨A3, c3, rfl⟩ := own_form hown3
    go_upto_region 6 with (at_builtin; go_must (refine wpList_appF (f := fS) rfl (.tmp 26) (.tmp 28) 22 rfl eltStr (by decide) _ (l.take k) rfl hown3 _ _ t 1 rfl (by rfl) rfl (fun u hu => by simp only [fS, List.mem_cons, List.not_mem_nil, or_false] at hu; subst hu; rfl) htk hsz3 ?_); intro v4 w4 hown4 hg4 hat4 hb4)
    have hB4 : BB w w4 := Below.trans hB3 hb4
    have hsz4 : w.heap.size ≤ w4.heap.size := Below.size hB4
    clear hown3 hg4 hat4 hb4 hsz3 htk
    have hw4 : ∀ j, (hj : j < l.length) → w4.cell? ⟨g, j, none⟩ = some (.string l[j]) := fun j hj => (Below.cell hB4 (p := ⟨g, j, none⟩) hg).trans (HC.out j hj)
    have HW4 := Lib.hid hw4
    clear hw4
    have hl4 : (l.take k ++ [t]).length + (l.length - k) ≤ 1001 := by rw [List.length_append, List.length_singleton, ← HK1.out]; omega
    have hl5 : ((l.take k ++ [t]).length + (l.length - k)) * 16 ≤ 140737488355328 := by omega
    have hl6 : (l.take k ++ [t]).length + (l.length - k) ≤ maxLen := by unfold maxLen; omega
    have fin0 : ∀ m v5 w5, m = l.length - k → w5.ownsRow w.heap.size 9 1 v5 ((l.take k ++ [t]).length + m) (flat fS (l.take k ++ [t]) ++ flat fS (l.drop k)) → BB w w5 → ∃ g' c', v5 = .slice (some ⟨g', 0, none⟩) (insN l t).length c' ∧ w5.ownsRow w.heap.size 9 1 (.slice (some ⟨g', 0, none⟩) (insN l t).length c') (insN l t).length (flat fS (insN l t)) ∧ Below w.heap.size w w5 := fun m v5 w5 hm h5 hB5 => by
      subst hm
      have e1 : (insN l t).length = (l.take k ++ [t]).length + (l.length - k) := by rw [HL.out, List.length_append, List.length_append, List.length_cons, List.length_singleton, ← HK2.out]; omega
      have e2 : flat fS (insN l t) = flat fS (l.take k ++ [t]) ++ flat fS (l.drop k) := by rw [HL.out, ← flat_append, List.append_assoc]; rfl
      rw [← e1, ← e2] at h5
      rcases h5.2 with ⟨_, h0⟩ | ⟨g', cap, cur, hv, _⟩
      · rw [e1, List.length_append, List.length_singleton] at h0
        omega
      · subst hv
        exact ⟨g', cap, rfl, h5, hB5⟩
    have fin := Lib.hid fin0
    clear HL fin0
    by_cases hck : c = k
    · have hkk : k = l.length := by omega
      have hnil : l.drop k = [] := List.drop_eq_nil_of_le (by omega)
      have s3 := src_str (P := Tryz.prog) (k := 0) (t := 22) Tryz.underlying22 HW4.out (l.drop k) 0 0 (by rw [hnil]; rfl) (fun j u h => by rw [hnil] at h; cases h)
      have hz : 0 = l.length - k := by omega
      have HZ := Lib.hid hz
      have hl4 : (l.take k ++ [t]).length + 0 ≤ 1001 := by omega
      have hl5 : ((l.take k ++ [t]).length + 0) * 16 ≤ 140737488355328 := by omega
      have hl6 : (l.take k ++ [t]).length + 0 ≤ maxLen := by unfold maxLen; omega
      subst hck
      clear hnil hkk HW4 HM2 HK1 HK2 hz
      go_wp2_with (at_builtin; go_must (refine wpList_app _ rfl _ _ _ _ rfl w.heap.size 9 _ 1 16 eltStr _ (l.take c ++ [t]).length (flat fS (l.take c ++ [t])) rfl hown4 _ 0 (flat fS (l.drop c)) rfl s3 hl6 hl5 hsz4 ?_); intro v5 w5 hown5 hg5 hat5; have hb5 := below_of_own hown4 hsz4 hg5)
      obtain ⟨g', c', rfl, h1, h2⟩ := fin.out _ _ _ HZ.out hown5 (Below.trans hB4 hb5)
      go_ret
      exact ⟨g', c', rfl, h1, h2⟩
    · have s3 := src_str (P := Tryz.prog) (k := k) (t := 22) Tryz.underlying22 HW4.out (l.drop k) (l.length - k) (c - k) HK2.out HM2.out
      clear HW4 HM2 HK1 HK2
      go_wp2_with (at_builtin; go_must (refine wpList_app _ rfl _ _ _ _ rfl w.heap.size 9 _ 1 16 eltStr _ (l.take k ++ [t]).length (flat fS (l.take k ++ [t])) rfl hown4 _ (l.length - k) (flat fS (l.drop k)) rfl s3 hl6 hl5 hsz4 ?_); intro v5 w5 hown5 hg5 hat5; have hb5 := below_of_own hown4 hsz4 hg5)
      obtain ⟨g', c', rfl, h1, h2⟩ := fin.out _ _ _ rfl hown5 (Below.trans hB4 hb5)
      go_ret
      exact ⟨g', c', rfl, h1, h2⟩
end Go.Proofs.YtbobehieaaaleaaGreatDoor
