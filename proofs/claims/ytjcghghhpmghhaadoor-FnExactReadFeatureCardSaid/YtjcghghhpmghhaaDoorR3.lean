/- Walks: numbers in decimal, a text cut at its blanks (spec). -/
import Derived.Test.YtjcghghhpmghhaaDoorR2
import Derived.Test.YtjcghghhpmghhaaDoorMem5
namespace Go.Proofs.YtjcghghhpmghhaaDoor
open Go.RowKit Go.Lib

theorem isDig_B (b : UInt8) : isDig (b.toNat : Int) = digB b := by
  unfold isDig digB
  congr 1 <;> rw [Bool.eq_iff_iff] <;> simp <;> omega
theorem numS_bad {t : List UInt8} (h : t = [] ∨ 7 < t.length ∨ (t.head? = some 48 ∧ 1 < t.length)) : numS t = -1 := by rw [numS, if_pos h]
theorem numS_ok {t : List UInt8} (h : ¬ (t = [] ∨ 7 < t.length ∨ (t.head? = some 48 ∧ 1 < t.length))) (g : t.all digB = true) : numS t = (numD t 0 : Int) := by rw [numS, if_neg h, if_pos g]
theorem numS_no {t : List UInt8} (h : ¬ (t = [] ∨ 7 < t.length ∨ (t.head? = some 48 ∧ 1 < t.length))) (g : ¬ t.all digB = true) : numS t = -1 := by rw [numS, if_neg h, if_neg g]
theorem numD_take {l : List UInt8} {k : Nat} (h : k < l.length) : numD (l.take (k + 1)) 0 = 10 * numD (l.take k) 0 + (l[k].toNat - 48) := by
  rw [List.take_succ_eq_append_getElem h, numD, List.foldl_append]
  rfl
theorem numD_lt : ∀ (k : Nat) (l : List UInt8), l.length ≤ k → (∀ b ∈ l, b.toNat ≤ 57) → numD l 0 < 10 ^ k
  | 0, l, h, _ => by
    have : l = [] := List.eq_nil_of_length_eq_zero (by omega)
    subst this
    decide
  | k + 1, l, h, g => by
    rcases List.eq_nil_or_concat l with rfl | ⟨m, x, rfl⟩
    · exact Nat.pow_pos (by decide)
    · rw [List.concat_eq_append] at h g ⊢
      have h1 := numD_lt k m (by simp at h; omega) fun b hb => g b (by simp [hb])
      have h2 := g x (by simp)
      have e : numD (m ++ [x]) 0 = 10 * numD m 0 + (x.toNat - 48) := by
        rw [numD, List.foldl_append]
        rfl
      rw [e, Nat.pow_succ]
      omega
set_option maxRecDepth 100000 in
set_option maxHeartbeats 4000000 in
theorem l01Number_any (t : ByteArray) (w : World) (ht : t.size ≤ 1048576) : Calls Tryd.prog 9 #[.string t] w fun e w' => e = .returned (.int .i64 (numS t.data.toList)) ∧ w = w' := by
  have hl := bl_len t
  have hnb := str_nilR t
  by_cases h0 : t.size = 0
  · have HR := Lib.hid (numS_bad (t := t.data.toList) (Or.inl (List.eq_nil_of_length_eq_zero (by omega))))
    rw [decide_eq_true h0] at hnb
    clear h0 hl
    go_enter Tryd.func9, Tryd.ntmps9
    go_wp2
    go_ret
    exact ⟨ret_int HR.out.symm, rfl⟩
  rw [decide_eq_false h0] at hnb
  have hpos : 0 < t.size := by omega
  have hposI : (0 : Int) < (t.size : Int) := by omega
  have hne : t.data.toList ≠ [] := fun e => by rw [e] at hl; simp at hl; omega
  by_cases h7 : 7 < t.size
  · have HR := Lib.hid (numS_bad (t := t.data.toList) (Or.inr (Or.inl (by omega))))
    have h7i : (7 : Int) < (t.size : Int) := by omega
    have h7d : decide ((7 : Int) < (t.size : Int)) = true := decide_eq_true h7i
    clear h0 hl hne
    go_enter Tryd.func9, Tryd.ntmps9
    go_wp2
    go_ret
    exact ⟨ret_int HR.out.symm, rfl⟩
  have h7i : ¬ (7 : Int) < (t.size : Int) := by omega
  have h7d : decide ((7 : Int) < (t.size : Int)) = false := decide_eq_false h7i
  have hhd : t.data.toList.head? = some t[0] := by
    rw [List.head?_eq_getElem?, List.getElem?_eq_getElem (by omega)]
    rfl
  by_cases hz : t[0] = 48 ∧ 1 < t.size
  · have HR := Lib.hid (numS_bad (t := t.data.toList) (Or.inr (Or.inr ⟨by rw [hhd, hz.1], by omega⟩)))
    have hz0 : ((t[0].toNat : Int) == 48) = true := by rw [hz.1]; rfl
    have h1i : (1 : Int) < (t.size : Int) := by omega
    have h1d : decide ((1 : Int) < (t.size : Int)) = true := decide_eq_true h1i
    clear h0 hl hne hhd hz
    go_enter Tryd.func9, Tryd.ntmps9
    go_wp2
    go_ret
    exact ⟨ret_int HR.out.symm, rfl⟩
  have hgood : ¬ (t.data.toList = [] ∨ 7 < t.data.toList.length ∨ (t.data.toList.head? = some 48 ∧ 1 < t.data.toList.length)) := by
    rintro (e | e | ⟨e1, e2⟩)
    · exact hne e
    · omega
    · rw [hhd] at e1
      exact hz ⟨Option.some.inj e1, by omega⟩
  have HY := Lib.hid (fun g => numS_ok hgood g)
  have HN := Lib.hid (fun g => numS_no hgood g)
  have hgz : (((t[0].toNat : Int) == 48) = true ∧ decide ((1 : Int) < (t.size : Int)) = false ∧ ¬ (1 : Int) < (t.size : Int)) ∨ ((t[0].toNat : Int) == 48) = false := by
    by_cases e : t[0] = 48
    · left
      have h1 : ¬ (1 : Int) < (t.size : Int) := fun h => hz ⟨e, by omega⟩
      exact ⟨by rw [e]; rfl, decide_eq_false h1, h1⟩
    · right
      rw [beq_eq_false_iff_ne]
      intro e2
      apply e
      apply UInt8.toNat_inj.1
      show t[0].toNat = 48
      omega
  have hs7 : t.size ≤ 7 := by omega
  have HL := Lib.hid hl
  clear hgood hhd hne hz h0 hl
  rcases hgz with ⟨hz0, h1d, h1i⟩ | hz0
  all_goals
    go_enter Tryd.func9, Tryd.ntmps9
    go_wp2
    go_loop [3, 4] (fun v i => ∃ k : Nat, i = .int .i64 (k : Int) ∧ k ≤ t.size ∧ v = .int .i64 ((numD (t.data.toList.take k) 0 : Nat) : Int) ∧ Hid (∀ b ∈ t.data.toList.take k, digB b = true)) (fun _ i => t.size - (intOf i).toNat)
    case atStart => exact ⟨0, rfl, Nat.zero_le _, rfl, Lib.hid (fun b hb => by simp at hb)⟩
    case round =>
      obtain ⟨k, rfl, hk, rfl, HI⟩ := hrel
      by_cases hlt : k < t.size
      · have hlti : (k : Int) < (t.size : Int) := by omega
        have hkl : k < t.data.toList.length := by rw [HL.out]; exact hlt
        have HT := Lib.hid (numD_take (l := t.data.toList) hkl)
        have HM := Lib.hid (show t.data.toList.take (k + 1) = t.data.toList.take k ++ [t[k]] by rw [List.take_succ_eq_append_getElem hkl]; rfl)
        have hN7 : numD (t.data.toList.take k) 0 < 10 ^ 7 := Nat.lt_of_lt_of_le (numD_lt k _ (List.length_take_le _ _) fun b hb => by
          have := HI.out b hb
          unfold digB at this
          rw [Bool.and_eq_true, decide_eq_true_eq, decide_eq_true_eq] at this
          exact this.2) (Nat.pow_le_pow_right (by decide) (by omega))
        have hN7 : numD (t.data.toList.take k) 0 < 10000000 := hN7
        have HX0 := Lib.hid (show t.data.toList[k] = t[k] from rfl)
        obtain ⟨y, hy⟩ : ∃ y, t[k] = y := ⟨_, rfl⟩
        have hkb : t[k].toNat = y.toNat := by rw [hy]
        have HX := Lib.hid (HX0.out.trans hy)
        rw [hy] at HM
        have HNN := Lib.hid (show numD (t.data.toList.take (k + 1)) 0 = 10 * numD (t.data.toList.take k) 0 + (y.toNat - 48) by rw [HT.out, HX.out])
        generalize numD (t.data.toList.take k) 0 = N at hN7 HNN ⊢
        have hdg := fun W => l01Digit_any (y.toNat : Int) W
        rw [isDig_B] at hdg
        cases hd : digB y
        · have HR := Lib.hid (HN.out (fun g => by
            rw [List.all_eq_true] at g
            have := g y (by
              have h9 : y ∈ t.data.toList.take (k + 1) := by rw [HM.out]; simp
              exact List.mem_of_mem_take h9)
            rw [hd] at this
            cases this))
          rw [hd] at hdg
          clear hd HT HX0 HX hy
          go_wp2_with (go_at_call 15; (with_reducible refine (hdg _).mono ?_); rintro e w9 ⟨rfl, rfl⟩)
          go_ret
          exact ⟨ret_int HR.out.symm, rfl⟩
        · have HJ := Lib.hid (show ∀ b ∈ t.data.toList.take (k + 1), digB b = true from fun b hb => by
            rw [HM.out, List.mem_append, List.mem_singleton] at hb
            rcases hb with hb | hb
            · exact HI.out b hb
            · rw [hb]; exact hd)
          rw [hd] at hdg
          have hy2 := hd
          unfold digB at hy2
          rw [Bool.and_eq_true, decide_eq_true_eq, decide_eq_true_eq] at hy2
          obtain ⟨y48, y57⟩ := hy2
          obtain ⟨x, hx⟩ : ∃ x, y.toNat = x := ⟨_, rfl⟩
          rw [hx] at y48 y57 hdg HNN hkb
          obtain ⟨q, hq⟩ : ∃ q, x - 48 = q := ⟨_, rfl⟩
          have wS : IntKind.u8.wrap ((x : Int) - 48) = (q : Int) := by rw [IntWalk.u8_in _ (by omega)]; omega
          have wC : IntKind.i64.wrap (q : Int) = (q : Int) := IntWalk.i64_in _ (by omega)
          have wM : IntKind.i64.wrap (10 * (N : Int)) = ((10 * N : Nat) : Int) := by rw [IntWalk.i64_in _ (by omega)]; omega
          obtain ⟨M, hM⟩ : ∃ M, 10 * N = M := ⟨_, rfl⟩
          rw [hM] at wM HNN
          rw [hq] at HNN
          have wA : IntKind.i64.wrap ((M : Int) + (q : Int)) = ((M + q : Nat) : Int) := by rw [IntWalk.i64_in _ (by omega)]; omega
          clear hd HT HX0 HX hy hx hq hM
          go_wp2_with (go_at_call 15; (with_reducible refine (hdg _).mono ?_); rintro e w9 ⟨rfl, rfl⟩)
          go_round
          case rel => exact ⟨k + 1, by go_num, by omega, by rw [HNN.out, Int.natCast_add], HJ⟩
          case measure => simp [intOf]; omega
      · have hlti : ¬ (k : Int) < (t.size : Int) := by omega
        have hkt : t.data.toList.take k = t.data.toList := List.take_of_length_le (by rw [HL.out]; omega)
        have HR := Lib.hid (show numS t.data.toList = ((numD (t.data.toList.take k) 0 : Nat) : Int) by
          rw [HY.out (by rw [List.all_eq_true]; intro b hb; exact HI.out b (by rw [hkt]; exact hb)), hkt])
        clear hkt
        go_wp2
        go_ret
        exact ⟨ret_int HR.out.symm, rfl⟩
end Go.Proofs.YtjcghghhpmghhaaDoor
