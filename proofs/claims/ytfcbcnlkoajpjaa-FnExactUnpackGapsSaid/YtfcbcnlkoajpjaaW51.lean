/- Walks: UnpackGaps of spec. -/
import Derived.Test.YtfcbcnlkoajpjaaW50
namespace Go.Proofs.Ytfcbcnlkoajpjaa
open Go.RowKit
set_option linter.unusedVariables false

set_option maxRecDepth 100000 in
set_option maxHeartbeats 4000000 in
theorem spec_UnpackGaps_any (s : ByteArray) (w : World) (hs : s.size ≤ 1048576) :
    Calls Try.prog 22 #[.string s] w fun e w' => ∃ v, e = .returned (.tuple #[v, .bool (ug s).isSome]) ∧ w'.ownsRow w.heap.size 2 1 v (ugL s).length (flat fI (ugL s)) ∧ Below w.heap.size w w' := by
  go_enter Try.func22, Try.ntmps22
  go_wp2
  go_loopw [4, 5, 6, 7, 8, 9] (fun v la nn sh ix _ wr => ∃ (f i n j : Nat) (last : Int) (out : List Int), i ≤ s.size ∧ s.size + 1 ≤ f + i ∧ ix = .int .i64 i ∧ la = .int .i64 last ∧ nn = .int .i64 n ∧ sh = .int .u64 (7 * j : Nat) ∧ out.length ≤ i ∧ -(34359738368 * i) ≤ last ∧ last ≤ 34359738368 * i ∧ wr.ownsRow w.heap.size 2 1 v out.length (flat fI out) ∧ Below w.heap.size w wr ∧ Hid (j ≤ 4 ∧ n < 128 ^ j ∧ ugG s f i n j last out = ug s)) (fun _ _ _ _ ix _ _ => s.size - (intOf ix).toNat)
  case atStart => exact ⟨s.size + 1, 0, 0, 0, 0, [], by omega, by omega, rfl, rfl, rfl, rfl, by simp, by omega, by omega, own_lit0 _ _, (by repeat (first | exact Below.refl _ _ | refine below_step ?_ (by assumption) | assumption | refine Below.drew ?_ | refine below_drewN ?_ _ | refine below_alloc ?_ _ | refine Below.setCell ?_ (by simp; try omega) _)), Lib.hid ⟨by omega, by decide, rfl⟩⟩
  case round =>
    obtain ⟨f, i, n, j, last, out, hi, hf, rfl, rfl, rfl, rfl, hol, hl1, hl2, hown, hb, HI⟩ := hrel
    have hsz := hb.size
    obtain ⟨f, rfl⟩ : ∃ f', f = f' + 1 := ⟨f - 1, by omega⟩
    by_cases hlt : i < s.size
    · have eb := bt_eq s i hlt
      have hbb := bt_lt s i
      obtain ⟨hj, hn, hg⟩ := HI.out
      obtain ⟨m, hm⟩ : ∃ m, bt s i % 128 = m := ⟨_, rfl⟩
      have hm2 : m < 128 := by omega
      have e1 : ((bt s i : Nat) : Int) % 128 = (m : Int) := by omega
      have e1' : ((bt s i : Nat) : Int).tmod 128 = (m : Int) := by rw [← hm]; rfl
      clear HI
      have hj5 : j = 0 ∨ j = 1 ∨ j = 2 ∨ j = 3 ∨ j = 4 := by omega
      clear hj
      rcases hj5 with rfl | rfl | rfl | rfl | rfl
      · have hn1 : n < 1 := by simpa using hn
        obtain ⟨x, hx⟩ : ∃ x, n + m * 1 = x := ⟨_, rfl⟩
        have e2 : (n : Int) + (m : Int) = (x : Int) := by omega
        have hx2 : x < 128 := by omega
        by_cases hc : 128 ≤ bt s i
        · have HN := Lib.hid (show 1 ≤ 4 ∧ x < 128 ^ 1 ∧ ugG s f (i + 1) x 1 last out = ug s from ⟨by omega, by simpa using hx2, by have := ug_more hg hlt hc (by omega); rw [hm, show n + m * 128 ^ 0 = x by simpa using hx] at this; exact this⟩)
          clear hg hn hm hx
          go_wp2
          go_roundw
          case rel => exact ⟨f, i + 1, x, 1, last, out, by omega, by omega, by go_num, rfl, by go_num, rfl, by omega, by omega, by omega, hown, hb, HN⟩
          case measure => (simp [intOf] <;> omega)
        · have hput := ug_put hg hlt hc x (by rw [hm]; simpa using hx)
          obtain ⟨y, hy⟩ : ∃ y, x / 2 = y := ⟨_, rfl⟩
          have t2 := td2 x
          rw [hy] at t2
          have hy2 : y < 17179869184 := by omega
          clear hg hn hm hx
          by_cases hp : x % 2 = 1
          · have t1 := tm2 x
            rw [show x % 2 = 1 by omega] at t1
            have t3 := td2n x y (by omega)
            rw [show last + zag x = last + -((y : Int) + 1) from by rw [zag_odd hp, hy]; omega] at hput
            by_cases h4 : 4000 < out.length + 1
            · have HR := Lib.hid (show ug s = none by rw [← hput]; exact ug_over s _ _ _ _ _ _ (by rw [List.length_append, List.length_singleton]; omega))
              clear hput hp hy
              go_wp2_with (at_builtin; go_must (refine wpList_appF (f := fI) rfl _ _ _ rfl eltI (by omega) _ out rfl hown _ _ _ _ rfl rfl rfl (by intro u hu; simp only [fI, List.mem_cons, List.not_mem_nil, or_false] at hu; subst hu; rfl) (by omega) hsz ?_); intro v3 w3 hown3 hg3 hat3 hbl3; obtain ⟨A3, c3, rfl⟩ := own_form hown3; rw [List.length_append, List.length_singleton] at hown3 ⊢)
              go_ret2
              exact ⟨_, by rw [HR.out]; rfl, by unfold ugL; rw [HR.out]; exact own_lit0 _ _ (hb.trans hbl3).size, below_alloc (hb.trans hbl3) _⟩
            · have HN := Lib.hid (show 0 ≤ 4 ∧ 0 < 128 ^ 0 ∧ ugG s f (i + 1) 0 0 _ _ = ug s from ⟨by omega, by decide, hput⟩)
              clear hput hp hy
              go_wp2_with (at_builtin; go_must (refine wpList_appF (f := fI) rfl _ _ _ rfl eltI (by omega) _ out rfl hown _ _ _ _ rfl rfl rfl (by intro u hu; simp only [fI, List.mem_cons, List.not_mem_nil, or_false] at hu; subst hu; rfl) (by omega) hsz ?_); intro v3 w3 hown3 hg3 hat3 hbl3; obtain ⟨A3, c3, rfl⟩ := own_form hown3; rw [List.length_append, List.length_singleton] at hown3 ⊢)
              go_roundw
              case rel => exact ⟨f, i + 1, 0, 0, _, _, by omega, by omega, by go_num, rfl, rfl, rfl, by rw [List.length_append, List.length_singleton]; omega, by omega, by omega, by rw [List.length_append, List.length_singleton]; exact hown3, hb.trans hbl3, HN⟩
              case measure => (simp [intOf] <;> omega)
          · have t1 := tm2 x
            rw [show x % 2 = 0 by omega] at t1
            rw [show last + zag x = last + (y : Int) from by rw [zag_even hp, hy]] at hput
            by_cases h4 : 4000 < out.length + 1
            · have HR := Lib.hid (show ug s = none by rw [← hput]; exact ug_over s _ _ _ _ _ _ (by rw [List.length_append, List.length_singleton]; omega))
              clear hput hp hy
              go_wp2_with (at_builtin; go_must (refine wpList_appF (f := fI) rfl _ _ _ rfl eltI (by omega) _ out rfl hown _ _ _ _ rfl rfl rfl (by intro u hu; simp only [fI, List.mem_cons, List.not_mem_nil, or_false] at hu; subst hu; rfl) (by omega) hsz ?_); intro v3 w3 hown3 hg3 hat3 hbl3; obtain ⟨A3, c3, rfl⟩ := own_form hown3; rw [List.length_append, List.length_singleton] at hown3 ⊢)
              go_ret2
              exact ⟨_, by rw [HR.out]; rfl, by unfold ugL; rw [HR.out]; exact own_lit0 _ _ (hb.trans hbl3).size, below_alloc (hb.trans hbl3) _⟩
            · have HN := Lib.hid (show 0 ≤ 4 ∧ 0 < 128 ^ 0 ∧ ugG s f (i + 1) 0 0 _ _ = ug s from ⟨by omega, by decide, hput⟩)
              clear hput hp hy
              go_wp2_with (at_builtin; go_must (refine wpList_appF (f := fI) rfl _ _ _ rfl eltI (by omega) _ out rfl hown _ _ _ _ rfl rfl rfl (by intro u hu; simp only [fI, List.mem_cons, List.not_mem_nil, or_false] at hu; subst hu; rfl) (by omega) hsz ?_); intro v3 w3 hown3 hg3 hat3 hbl3; obtain ⟨A3, c3, rfl⟩ := own_form hown3; rw [List.length_append, List.length_singleton] at hown3 ⊢)
              go_roundw
              case rel => exact ⟨f, i + 1, 0, 0, _, _, by omega, by omega, by go_num, rfl, rfl, rfl, by rw [List.length_append, List.length_singleton]; omega, by omega, by omega, by rw [List.length_append, List.length_singleton]; exact hown3, hb.trans hbl3, HN⟩
              case measure => (simp [intOf] <;> omega)
      · have hn1 : n < 128 := by simpa using hn
        obtain ⟨x, hx⟩ : ∃ x, n + m * 128 = x := ⟨_, rfl⟩
        have e2 : (n : Int) + (m : Int) * 128 = (x : Int) := by omega
        have hx2 : x < 16384 := by omega
        by_cases hc : 128 ≤ bt s i
        · have HN := Lib.hid (show 2 ≤ 4 ∧ x < 128 ^ 2 ∧ ugG s f (i + 1) x 2 last out = ug s from ⟨by omega, by simpa using hx2, by have := ug_more hg hlt hc (by omega); rw [hm, show n + m * 128 ^ 1 = x by simpa using hx] at this; exact this⟩)
          clear hg hn hm hx
          go_wp2
          go_roundw
          case rel => exact ⟨f, i + 1, x, 2, last, out, by omega, by omega, by go_num, rfl, by go_num, rfl, by omega, by omega, by omega, hown, hb, HN⟩
          case measure => (simp [intOf] <;> omega)
        · have hput := ug_put hg hlt hc x (by rw [hm]; simpa using hx)
          obtain ⟨y, hy⟩ : ∃ y, x / 2 = y := ⟨_, rfl⟩
          have t2 := td2 x
          rw [hy] at t2
          have hy2 : y < 17179869184 := by omega
          clear hg hn hm hx
          by_cases hp : x % 2 = 1
          · have t1 := tm2 x
            rw [show x % 2 = 1 by omega] at t1
            have t3 := td2n x y (by omega)
            rw [show last + zag x = last + -((y : Int) + 1) from by rw [zag_odd hp, hy]; omega] at hput
            by_cases h4 : 4000 < out.length + 1
            · have HR := Lib.hid (show ug s = none by rw [← hput]; exact ug_over s _ _ _ _ _ _ (by rw [List.length_append, List.length_singleton]; omega))
              clear hput hp hy
              go_wp2_with (at_builtin; go_must (refine wpList_appF (f := fI) rfl _ _ _ rfl eltI (by omega) _ out rfl hown _ _ _ _ rfl rfl rfl (by intro u hu; simp only [fI, List.mem_cons, List.not_mem_nil, or_false] at hu; subst hu; rfl) (by omega) hsz ?_); intro v3 w3 hown3 hg3 hat3 hbl3; obtain ⟨A3, c3, rfl⟩ := own_form hown3; rw [List.length_append, List.length_singleton] at hown3 ⊢)
              go_ret2
              exact ⟨_, by rw [HR.out]; rfl, by unfold ugL; rw [HR.out]; exact own_lit0 _ _ (hb.trans hbl3).size, below_alloc (hb.trans hbl3) _⟩
            · have HN := Lib.hid (show 0 ≤ 4 ∧ 0 < 128 ^ 0 ∧ ugG s f (i + 1) 0 0 _ _ = ug s from ⟨by omega, by decide, hput⟩)
              clear hput hp hy
              go_wp2_with (at_builtin; go_must (refine wpList_appF (f := fI) rfl _ _ _ rfl eltI (by omega) _ out rfl hown _ _ _ _ rfl rfl rfl (by intro u hu; simp only [fI, List.mem_cons, List.not_mem_nil, or_false] at hu; subst hu; rfl) (by omega) hsz ?_); intro v3 w3 hown3 hg3 hat3 hbl3; obtain ⟨A3, c3, rfl⟩ := own_form hown3; rw [List.length_append, List.length_singleton] at hown3 ⊢)
              go_roundw
              case rel => exact ⟨f, i + 1, 0, 0, _, _, by omega, by omega, by go_num, rfl, rfl, rfl, by rw [List.length_append, List.length_singleton]; omega, by omega, by omega, by rw [List.length_append, List.length_singleton]; exact hown3, hb.trans hbl3, HN⟩
              case measure => (simp [intOf] <;> omega)
          · have t1 := tm2 x
            rw [show x % 2 = 0 by omega] at t1
            rw [show last + zag x = last + (y : Int) from by rw [zag_even hp, hy]] at hput
            by_cases h4 : 4000 < out.length + 1
            · have HR := Lib.hid (show ug s = none by rw [← hput]; exact ug_over s _ _ _ _ _ _ (by rw [List.length_append, List.length_singleton]; omega))
              clear hput hp hy
              go_wp2_with (at_builtin; go_must (refine wpList_appF (f := fI) rfl _ _ _ rfl eltI (by omega) _ out rfl hown _ _ _ _ rfl rfl rfl (by intro u hu; simp only [fI, List.mem_cons, List.not_mem_nil, or_false] at hu; subst hu; rfl) (by omega) hsz ?_); intro v3 w3 hown3 hg3 hat3 hbl3; obtain ⟨A3, c3, rfl⟩ := own_form hown3; rw [List.length_append, List.length_singleton] at hown3 ⊢)
              go_ret2
              exact ⟨_, by rw [HR.out]; rfl, by unfold ugL; rw [HR.out]; exact own_lit0 _ _ (hb.trans hbl3).size, below_alloc (hb.trans hbl3) _⟩
            · have HN := Lib.hid (show 0 ≤ 4 ∧ 0 < 128 ^ 0 ∧ ugG s f (i + 1) 0 0 _ _ = ug s from ⟨by omega, by decide, hput⟩)
              clear hput hp hy
              go_wp2_with (at_builtin; go_must (refine wpList_appF (f := fI) rfl _ _ _ rfl eltI (by omega) _ out rfl hown _ _ _ _ rfl rfl rfl (by intro u hu; simp only [fI, List.mem_cons, List.not_mem_nil, or_false] at hu; subst hu; rfl) (by omega) hsz ?_); intro v3 w3 hown3 hg3 hat3 hbl3; obtain ⟨A3, c3, rfl⟩ := own_form hown3; rw [List.length_append, List.length_singleton] at hown3 ⊢)
              go_roundw
              case rel => exact ⟨f, i + 1, 0, 0, _, _, by omega, by omega, by go_num, rfl, rfl, rfl, by rw [List.length_append, List.length_singleton]; omega, by omega, by omega, by rw [List.length_append, List.length_singleton]; exact hown3, hb.trans hbl3, HN⟩
              case measure => (simp [intOf] <;> omega)
      · have hn1 : n < 16384 := by simpa using hn
        obtain ⟨x, hx⟩ : ∃ x, n + m * 16384 = x := ⟨_, rfl⟩
        have e2 : (n : Int) + (m : Int) * 16384 = (x : Int) := by omega
        have hx2 : x < 2097152 := by omega
        by_cases hc : 128 ≤ bt s i
        · have HN := Lib.hid (show 3 ≤ 4 ∧ x < 128 ^ 3 ∧ ugG s f (i + 1) x 3 last out = ug s from ⟨by omega, by simpa using hx2, by have := ug_more hg hlt hc (by omega); rw [hm, show n + m * 128 ^ 2 = x by simpa using hx] at this; exact this⟩)
          clear hg hn hm hx
          go_wp2
          go_roundw
          case rel => exact ⟨f, i + 1, x, 3, last, out, by omega, by omega, by go_num, rfl, by go_num, rfl, by omega, by omega, by omega, hown, hb, HN⟩
          case measure => (simp [intOf] <;> omega)
        · have hput := ug_put hg hlt hc x (by rw [hm]; simpa using hx)
          obtain ⟨y, hy⟩ : ∃ y, x / 2 = y := ⟨_, rfl⟩
          have t2 := td2 x
          rw [hy] at t2
          have hy2 : y < 17179869184 := by omega
          clear hg hn hm hx
          by_cases hp : x % 2 = 1
          · have t1 := tm2 x
            rw [show x % 2 = 1 by omega] at t1
            have t3 := td2n x y (by omega)
            rw [show last + zag x = last + -((y : Int) + 1) from by rw [zag_odd hp, hy]; omega] at hput
            by_cases h4 : 4000 < out.length + 1
            · have HR := Lib.hid (show ug s = none by rw [← hput]; exact ug_over s _ _ _ _ _ _ (by rw [List.length_append, List.length_singleton]; omega))
              clear hput hp hy
              go_wp2_with (at_builtin; go_must (refine wpList_appF (f := fI) rfl _ _ _ rfl eltI (by omega) _ out rfl hown _ _ _ _ rfl rfl rfl (by intro u hu; simp only [fI, List.mem_cons, List.not_mem_nil, or_false] at hu; subst hu; rfl) (by omega) hsz ?_); intro v3 w3 hown3 hg3 hat3 hbl3; obtain ⟨A3, c3, rfl⟩ := own_form hown3; rw [List.length_append, List.length_singleton] at hown3 ⊢)
              go_ret2
              exact ⟨_, by rw [HR.out]; rfl, by unfold ugL; rw [HR.out]; exact own_lit0 _ _ (hb.trans hbl3).size, below_alloc (hb.trans hbl3) _⟩
            · have HN := Lib.hid (show 0 ≤ 4 ∧ 0 < 128 ^ 0 ∧ ugG s f (i + 1) 0 0 _ _ = ug s from ⟨by omega, by decide, hput⟩)
              clear hput hp hy
              go_wp2_with (at_builtin; go_must (refine wpList_appF (f := fI) rfl _ _ _ rfl eltI (by omega) _ out rfl hown _ _ _ _ rfl rfl rfl (by intro u hu; simp only [fI, List.mem_cons, List.not_mem_nil, or_false] at hu; subst hu; rfl) (by omega) hsz ?_); intro v3 w3 hown3 hg3 hat3 hbl3; obtain ⟨A3, c3, rfl⟩ := own_form hown3; rw [List.length_append, List.length_singleton] at hown3 ⊢)
              go_roundw
              case rel => exact ⟨f, i + 1, 0, 0, _, _, by omega, by omega, by go_num, rfl, rfl, rfl, by rw [List.length_append, List.length_singleton]; omega, by omega, by omega, by rw [List.length_append, List.length_singleton]; exact hown3, hb.trans hbl3, HN⟩
              case measure => (simp [intOf] <;> omega)
          · have t1 := tm2 x
            rw [show x % 2 = 0 by omega] at t1
            rw [show last + zag x = last + (y : Int) from by rw [zag_even hp, hy]] at hput
            by_cases h4 : 4000 < out.length + 1
            · have HR := Lib.hid (show ug s = none by rw [← hput]; exact ug_over s _ _ _ _ _ _ (by rw [List.length_append, List.length_singleton]; omega))
              clear hput hp hy
              go_wp2_with (at_builtin; go_must (refine wpList_appF (f := fI) rfl _ _ _ rfl eltI (by omega) _ out rfl hown _ _ _ _ rfl rfl rfl (by intro u hu; simp only [fI, List.mem_cons, List.not_mem_nil, or_false] at hu; subst hu; rfl) (by omega) hsz ?_); intro v3 w3 hown3 hg3 hat3 hbl3; obtain ⟨A3, c3, rfl⟩ := own_form hown3; rw [List.length_append, List.length_singleton] at hown3 ⊢)
              go_ret2
              exact ⟨_, by rw [HR.out]; rfl, by unfold ugL; rw [HR.out]; exact own_lit0 _ _ (hb.trans hbl3).size, below_alloc (hb.trans hbl3) _⟩
            · have HN := Lib.hid (show 0 ≤ 4 ∧ 0 < 128 ^ 0 ∧ ugG s f (i + 1) 0 0 _ _ = ug s from ⟨by omega, by decide, hput⟩)
              clear hput hp hy
              go_wp2_with (at_builtin; go_must (refine wpList_appF (f := fI) rfl _ _ _ rfl eltI (by omega) _ out rfl hown _ _ _ _ rfl rfl rfl (by intro u hu; simp only [fI, List.mem_cons, List.not_mem_nil, or_false] at hu; subst hu; rfl) (by omega) hsz ?_); intro v3 w3 hown3 hg3 hat3 hbl3; obtain ⟨A3, c3, rfl⟩ := own_form hown3; rw [List.length_append, List.length_singleton] at hown3 ⊢)
              go_roundw
              case rel => exact ⟨f, i + 1, 0, 0, _, _, by omega, by omega, by go_num, rfl, rfl, rfl, by rw [List.length_append, List.length_singleton]; omega, by omega, by omega, by rw [List.length_append, List.length_singleton]; exact hown3, hb.trans hbl3, HN⟩
              case measure => (simp [intOf] <;> omega)
      · have hn1 : n < 2097152 := by simpa using hn
        obtain ⟨x, hx⟩ : ∃ x, n + m * 2097152 = x := ⟨_, rfl⟩
        have e2 : (n : Int) + (m : Int) * 2097152 = (x : Int) := by omega
        have hx2 : x < 268435456 := by omega
        by_cases hc : 128 ≤ bt s i
        · have HN := Lib.hid (show 4 ≤ 4 ∧ x < 128 ^ 4 ∧ ugG s f (i + 1) x 4 last out = ug s from ⟨by omega, by simpa using hx2, by have := ug_more hg hlt hc (by omega); rw [hm, show n + m * 128 ^ 3 = x by simpa using hx] at this; exact this⟩)
          clear hg hn hm hx
          go_wp2
          go_roundw
          case rel => exact ⟨f, i + 1, x, 4, last, out, by omega, by omega, by go_num, rfl, by go_num, rfl, by omega, by omega, by omega, hown, hb, HN⟩
          case measure => (simp [intOf] <;> omega)
        · have hput := ug_put hg hlt hc x (by rw [hm]; simpa using hx)
          obtain ⟨y, hy⟩ : ∃ y, x / 2 = y := ⟨_, rfl⟩
          have t2 := td2 x
          rw [hy] at t2
          have hy2 : y < 17179869184 := by omega
          clear hg hn hm hx
          by_cases hp : x % 2 = 1
          · have t1 := tm2 x
            rw [show x % 2 = 1 by omega] at t1
            have t3 := td2n x y (by omega)
            rw [show last + zag x = last + -((y : Int) + 1) from by rw [zag_odd hp, hy]; omega] at hput
            by_cases h4 : 4000 < out.length + 1
            · have HR := Lib.hid (show ug s = none by rw [← hput]; exact ug_over s _ _ _ _ _ _ (by rw [List.length_append, List.length_singleton]; omega))
              clear hput hp hy
              go_wp2_with (at_builtin; go_must (refine wpList_appF (f := fI) rfl _ _ _ rfl eltI (by omega) _ out rfl hown _ _ _ _ rfl rfl rfl (by intro u hu; simp only [fI, List.mem_cons, List.not_mem_nil, or_false] at hu; subst hu; rfl) (by omega) hsz ?_); intro v3 w3 hown3 hg3 hat3 hbl3; obtain ⟨A3, c3, rfl⟩ := own_form hown3; rw [List.length_append, List.length_singleton] at hown3 ⊢)
              go_ret2
              exact ⟨_, by rw [HR.out]; rfl, by unfold ugL; rw [HR.out]; exact own_lit0 _ _ (hb.trans hbl3).size, below_alloc (hb.trans hbl3) _⟩
            · have HN := Lib.hid (show 0 ≤ 4 ∧ 0 < 128 ^ 0 ∧ ugG s f (i + 1) 0 0 _ _ = ug s from ⟨by omega, by decide, hput⟩)
              clear hput hp hy
              go_wp2_with (at_builtin; go_must (refine wpList_appF (f := fI) rfl _ _ _ rfl eltI (by omega) _ out rfl hown _ _ _ _ rfl rfl rfl (by intro u hu; simp only [fI, List.mem_cons, List.not_mem_nil, or_false] at hu; subst hu; rfl) (by omega) hsz ?_); intro v3 w3 hown3 hg3 hat3 hbl3; obtain ⟨A3, c3, rfl⟩ := own_form hown3; rw [List.length_append, List.length_singleton] at hown3 ⊢)
              go_roundw
              case rel => exact ⟨f, i + 1, 0, 0, _, _, by omega, by omega, by go_num, rfl, rfl, rfl, by rw [List.length_append, List.length_singleton]; omega, by omega, by omega, by rw [List.length_append, List.length_singleton]; exact hown3, hb.trans hbl3, HN⟩
              case measure => (simp [intOf] <;> omega)
          · have t1 := tm2 x
            rw [show x % 2 = 0 by omega] at t1
            rw [show last + zag x = last + (y : Int) from by rw [zag_even hp, hy]] at hput
            by_cases h4 : 4000 < out.length + 1
            · have HR := Lib.hid (show ug s = none by rw [← hput]; exact ug_over s _ _ _ _ _ _ (by rw [List.length_append, List.length_singleton]; omega))
              clear hput hp hy
              go_wp2_with (at_builtin; go_must (refine wpList_appF (f := fI) rfl _ _ _ rfl eltI (by omega) _ out rfl hown _ _ _ _ rfl rfl rfl (by intro u hu; simp only [fI, List.mem_cons, List.not_mem_nil, or_false] at hu; subst hu; rfl) (by omega) hsz ?_); intro v3 w3 hown3 hg3 hat3 hbl3; obtain ⟨A3, c3, rfl⟩ := own_form hown3; rw [List.length_append, List.length_singleton] at hown3 ⊢)
              go_ret2
              exact ⟨_, by rw [HR.out]; rfl, by unfold ugL; rw [HR.out]; exact own_lit0 _ _ (hb.trans hbl3).size, below_alloc (hb.trans hbl3) _⟩
            · have HN := Lib.hid (show 0 ≤ 4 ∧ 0 < 128 ^ 0 ∧ ugG s f (i + 1) 0 0 _ _ = ug s from ⟨by omega, by decide, hput⟩)
              clear hput hp hy
              go_wp2_with (at_builtin; go_must (refine wpList_appF (f := fI) rfl _ _ _ rfl eltI (by omega) _ out rfl hown _ _ _ _ rfl rfl rfl (by intro u hu; simp only [fI, List.mem_cons, List.not_mem_nil, or_false] at hu; subst hu; rfl) (by omega) hsz ?_); intro v3 w3 hown3 hg3 hat3 hbl3; obtain ⟨A3, c3, rfl⟩ := own_form hown3; rw [List.length_append, List.length_singleton] at hown3 ⊢)
              go_roundw
              case rel => exact ⟨f, i + 1, 0, 0, _, _, by omega, by omega, by go_num, rfl, rfl, rfl, by rw [List.length_append, List.length_singleton]; omega, by omega, by omega, by rw [List.length_append, List.length_singleton]; exact hown3, hb.trans hbl3, HN⟩
              case measure => (simp [intOf] <;> omega)
      · have hn1 : n < 268435456 := by simpa using hn
        obtain ⟨x, hx⟩ : ∃ x, n + m * 268435456 = x := ⟨_, rfl⟩
        have e2 : (n : Int) + (m : Int) * 268435456 = (x : Int) := by omega
        have hx2 : x < 34359738368 := by omega
        by_cases hc : 128 ≤ bt s i
        · have HR := Lib.hid (ug_stop hg hlt hc)
          clear hg hn hm hx
          go_wp2
          go_ret2
          exact ⟨_, by rw [HR.out]; rfl, by unfold ugL; rw [HR.out]; exact own_lit0 _ _ hsz, below_alloc hb _⟩
        · have hput := ug_put hg hlt hc x (by rw [hm]; simpa using hx)
          obtain ⟨y, hy⟩ : ∃ y, x / 2 = y := ⟨_, rfl⟩
          have t2 := td2 x
          rw [hy] at t2
          have hy2 : y < 17179869184 := by omega
          clear hg hn hm hx
          by_cases hp : x % 2 = 1
          · have t1 := tm2 x
            rw [show x % 2 = 1 by omega] at t1
            have t3 := td2n x y (by omega)
            rw [show last + zag x = last + -((y : Int) + 1) from by rw [zag_odd hp, hy]; omega] at hput
            by_cases h4 : 4000 < out.length + 1
            · have HR := Lib.hid (show ug s = none by rw [← hput]; exact ug_over s _ _ _ _ _ _ (by rw [List.length_append, List.length_singleton]; omega))
              clear hput hp hy
              go_wp2_with (at_builtin; go_must (refine wpList_appF (f := fI) rfl _ _ _ rfl eltI (by omega) _ out rfl hown _ _ _ _ rfl rfl rfl (by intro u hu; simp only [fI, List.mem_cons, List.not_mem_nil, or_false] at hu; subst hu; rfl) (by omega) hsz ?_); intro v3 w3 hown3 hg3 hat3 hbl3; obtain ⟨A3, c3, rfl⟩ := own_form hown3; rw [List.length_append, List.length_singleton] at hown3 ⊢)
              go_ret2
              exact ⟨_, by rw [HR.out]; rfl, by unfold ugL; rw [HR.out]; exact own_lit0 _ _ (hb.trans hbl3).size, below_alloc (hb.trans hbl3) _⟩
            · have HN := Lib.hid (show 0 ≤ 4 ∧ 0 < 128 ^ 0 ∧ ugG s f (i + 1) 0 0 _ _ = ug s from ⟨by omega, by decide, hput⟩)
              clear hput hp hy
              go_wp2_with (at_builtin; go_must (refine wpList_appF (f := fI) rfl _ _ _ rfl eltI (by omega) _ out rfl hown _ _ _ _ rfl rfl rfl (by intro u hu; simp only [fI, List.mem_cons, List.not_mem_nil, or_false] at hu; subst hu; rfl) (by omega) hsz ?_); intro v3 w3 hown3 hg3 hat3 hbl3; obtain ⟨A3, c3, rfl⟩ := own_form hown3; rw [List.length_append, List.length_singleton] at hown3 ⊢)
              go_roundw
              case rel => exact ⟨f, i + 1, 0, 0, _, _, by omega, by omega, by go_num, rfl, rfl, rfl, by rw [List.length_append, List.length_singleton]; omega, by omega, by omega, by rw [List.length_append, List.length_singleton]; exact hown3, hb.trans hbl3, HN⟩
              case measure => (simp [intOf] <;> omega)
          · have t1 := tm2 x
            rw [show x % 2 = 0 by omega] at t1
            rw [show last + zag x = last + (y : Int) from by rw [zag_even hp, hy]] at hput
            by_cases h4 : 4000 < out.length + 1
            · have HR := Lib.hid (show ug s = none by rw [← hput]; exact ug_over s _ _ _ _ _ _ (by rw [List.length_append, List.length_singleton]; omega))
              clear hput hp hy
              go_wp2_with (at_builtin; go_must (refine wpList_appF (f := fI) rfl _ _ _ rfl eltI (by omega) _ out rfl hown _ _ _ _ rfl rfl rfl (by intro u hu; simp only [fI, List.mem_cons, List.not_mem_nil, or_false] at hu; subst hu; rfl) (by omega) hsz ?_); intro v3 w3 hown3 hg3 hat3 hbl3; obtain ⟨A3, c3, rfl⟩ := own_form hown3; rw [List.length_append, List.length_singleton] at hown3 ⊢)
              go_ret2
              exact ⟨_, by rw [HR.out]; rfl, by unfold ugL; rw [HR.out]; exact own_lit0 _ _ (hb.trans hbl3).size, below_alloc (hb.trans hbl3) _⟩
            · have HN := Lib.hid (show 0 ≤ 4 ∧ 0 < 128 ^ 0 ∧ ugG s f (i + 1) 0 0 _ _ = ug s from ⟨by omega, by decide, hput⟩)
              clear hput hp hy
              go_wp2_with (at_builtin; go_must (refine wpList_appF (f := fI) rfl _ _ _ rfl eltI (by omega) _ out rfl hown _ _ _ _ rfl rfl rfl (by intro u hu; simp only [fI, List.mem_cons, List.not_mem_nil, or_false] at hu; subst hu; rfl) (by omega) hsz ?_); intro v3 w3 hown3 hg3 hat3 hbl3; obtain ⟨A3, c3, rfl⟩ := own_form hown3; rw [List.length_append, List.length_singleton] at hown3 ⊢)
              go_roundw
              case rel => exact ⟨f, i + 1, 0, 0, _, _, by omega, by omega, by go_num, rfl, rfl, rfl, by rw [List.length_append, List.length_singleton]; omega, by omega, by omega, by rw [List.length_append, List.length_singleton]; exact hown3, hb.trans hbl3, HN⟩
              case measure => (simp [intOf] <;> omega)
    · have hfin : ugFin s out = ug s := ug_end HI.out.2.2 hlt
      obtain ⟨A, c, rfl⟩ := own_form hown
      have hgp := fun W h => l14Gaps_any A c out W w.heap.size h (show out.length ≤ 1048576 by omega)
      cases hok : okGaps out
      · rw [hok] at hgp
        have HR := Lib.hid (hfin.symm.trans (ugFin_bad hok))
        clear hfin HI
        go_wp2_with (go_at_call 64; refine (l14Gaps_any A c out _ _ (RR.own hown) (by omega)).mono ?_; rintro e w4 ⟨rfl, rfl⟩; rw [hok])
        go_ret2
        exact ⟨_, by rw [HR.out]; rfl, by unfold ugL; rw [HR.out]; exact own_lit0 _ _ hsz, below_alloc hb _⟩
      · have hpk := l14PackGaps_any A c out wr (RR.own hown) hok
        cases hq : (pgl 0 out == s.data.toList)
        · have HR := Lib.hid (hfin.symm.trans (ugFin_no hok hq))
          rw [← ByteArray.toList_eq] at hq
          clear hfin HI
          go_wp2_with (first | (go_at_call 64; refine (l14Gaps_any A c out _ _ (RR.own hown) (by omega)).mono ?_; rintro e w4 ⟨rfl, rfl⟩; rw [hok]) | (go_at_call 65; refine hpk.mono ?_; rintro e w5 ⟨rfl, hx5⟩))
          go_ret2
          exact ⟨_, by rw [HR.out]; rfl, by unfold ugL; rw [HR.out]; exact own_lit0 _ _ (below_step hb hx5).size, below_alloc (below_step hb hx5) _⟩
        · have HR := Lib.hid (hfin.symm.trans (ugFin_yes hok hq))
          rw [← ByteArray.toList_eq] at hq
          clear hfin HI
          go_wp2_with (first | (go_at_call 64; refine (l14Gaps_any A c out _ _ (RR.own hown) (by omega)).mono ?_; rintro e w4 ⟨rfl, rfl⟩; rw [hok]) | (go_at_call 65; refine hpk.mono ?_; rintro e w5 ⟨rfl, hx5⟩))
          go_ret2
          exact ⟨_, by rw [HR.out]; rfl, by unfold ugL; rw [HR.out]; exact own_later hown hx5 (Nat.le_refl _), below_step hb hx5⟩
end Go.Proofs.Ytfcbcnlkoajpjaa
