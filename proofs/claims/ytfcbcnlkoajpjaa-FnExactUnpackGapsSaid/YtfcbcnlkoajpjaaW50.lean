/- Walks: UnpackGaps of impl. -/
import Derived.Test.YtfcbcnlkoajpjaaUgM
import Derived.Test.YtfcbcnlkoajpjaaW17
import Derived.Test.YtfcbcnlkoajpjaaStep
import Derived.Test.YtfcbcnlkoajpjaaMath
namespace Go.Proofs.Ytfcbcnlkoajpjaa
open Go.RowKit
set_option linter.unusedVariables false

theorem bl_eq (l : List UInt8) (s : ByteArray) : ((⟨l.toArray⟩ : ByteArray).toList == s.toList) = (l == s.data.toList) := by
  rw [ByteArray.toList_eq, ByteArray.toList_eq]
theorem or_low (n m k : Nat) (hn : n < 2 ^ k) (hm : m * 2 ^ k < 9223372036854775808) (hk : k ≤ 62) : bits .or .i64 (n : Int) ((m * 2 ^ k : Nat) : Int) = ((n + m * 2 ^ k : Nat) : Int) := by
  have h1 : 2 ^ k ≤ 2 ^ 62 := Nat.pow_le_pow_right (by omega) hk
  have := i64_or_nat n (m * 2 ^ k) (by omega) hm
  have h2 := Nat.shiftLeft_add_eq_or_of_lt (i := k) hn m
  rw [Nat.shiftLeft_eq] at h2
  rw [Nat.or_comm, ← h2, Nat.add_comm] at this
  exact this
theorem tm2 (x : Nat) : (x : Int).tmod 2 = ((x % 2 : Nat) : Int) := rfl
theorem td2 (x : Nat) : (x : Int).tdiv 2 = ((x / 2 : Nat) : Int) := rfl
theorem td2n (x y : Nat) (h : x = 2 * y + 1) : (-((x : Int) + 1)).tdiv 2 = -((y : Int) + 1) := by
  rw [show -((x : Int) + 1) = 2 * (-((y : Int) + 1)) by omega]
  exact Int.mul_tdiv_cancel_left _ (by decide)
/-- The numbers so far; a number that has grown too long stands for no result. -/
def UgI (s : ByteArray) (f i n j : Nat) (last : Int) (out : List Int) : Prop :=
  (j ≤ 4 ∧ n < 128 ^ j ∧ ugG s f i n j last out = ug s) ∨ (j = 5 ∧ n < 128 ^ 5 ∧ 0 < i ∧ 128 ≤ bt s (i - 1) ∧ ug s = none)

set_option maxRecDepth 100000 in
set_option maxHeartbeats 4000000 in
theorem impl_UnpackGaps_any (s : ByteArray) (w : World) (hs : s.size ≤ 1048576) :
    Calls Try.prog 23 #[.string s] w fun e w' => ∃ v, e = .returned (.tuple #[v, .bool (ug s).isSome]) ∧ w'.ownsRow w.heap.size 2 1 v (ugL s).length (flat fI (ugL s)) ∧ Below w.heap.size w w' := by
  go_enter Try.func23, Try.ntmps23
  go_wp2
  go_loopw [4, 5, 6, 7, 8, 13] (fun v la nn sh _ ix wr => ∃ (f i n j : Nat) (last : Int) (out : List Int), i ≤ s.size ∧ s.size + 1 ≤ f + i ∧ ix = .int .i64 i ∧ la = .int .i64 last ∧ nn = .int .i64 n ∧ sh = .int .i64 (7 * j : Nat) ∧ out.length ≤ i ∧ -(34359738368 * i) ≤ last ∧ last ≤ 34359738368 * i ∧ wr.ownsRow w.heap.size 2 1 v out.length (flat fI out) ∧ Below w.heap.size w wr ∧ Hid (UgI s f i n j last out)) (fun _ _ _ _ _ ix _ => s.size - (intOf ix).toNat)
  case atStart => exact ⟨s.size + 1, 0, 0, 0, 0, [], by omega, by omega, rfl, rfl, rfl, rfl, by simp, by omega, by omega, World.ownsRow_nil _ _ _ _, Below.refl _ _, Lib.hid (.inl ⟨by omega, by decide, rfl⟩)⟩
  case round =>
    obtain ⟨f, i, n, j, last, out, hi, hf, rfl, rfl, rfl, rfl, hol, hl1, hl2, hown, hb, HI⟩ := hrel
    have hsz := hb.size
    by_cases hlt : i < s.size
    · have eb := bt_eq s i hlt
      have hbb := bt_lt s i
      rcases HI.out with ⟨hj, hn, hg⟩ | ⟨rfl, hn, h0, h1, hg⟩
      · obtain ⟨f, rfl⟩ : ∃ f', f = f' + 1 := ⟨f - 1, by omega⟩
        obtain ⟨m, hm⟩ : ∃ m, bt s i % 128 = m := ⟨_, rfl⟩
        have hm2 : m < 128 := by omega
        have e1 : bits .and .u8 ((bt s i : Nat) : Int) 127 = (m : Int) := by
          have := u8_and_nat (bt s i) 127 hbb (by omega)
          rw [and127, hm] at this
          exact this
        clear HI
        have hj5 : j = 0 ∨ j = 1 ∨ j = 2 ∨ j = 3 ∨ j = 4 := by omega
        clear hj
        rcases hj5 with rfl | rfl | rfl | rfl | rfl
        · have hn1 : n < 1 := by simpa using hn
          obtain ⟨x, hx⟩ : ∃ x, n + m * 1 = x := ⟨_, rfl⟩
          have e2 : bits .or .i64 (n : Int) (m : Int) = (x : Int) := by
            have := or_low n m 0 (by omega) (by omega) (by omega)
            rw [show n + m * 2 ^ 0 = x by omega] at this
            rw [← this]
            congr 1
            try simp
          have hx2 : x < 128 := by omega
          by_cases hc : 128 ≤ bt s i
          · have HN := Lib.hid (show UgI s f (i + 1) x 1 last out from .inl ⟨by omega, by simpa using hx2, by have := ug_more hg hlt hc (by omega); rw [hm, show n + m * 128 ^ 0 = x by simpa using hx] at this; exact this⟩)
            clear hg hn hm hx
            go_wp2
            go_roundw
            case rel => exact ⟨f, i + 1, x, 1, last, out, by omega, by omega, by go_num, rfl, by go_num, rfl, by omega, by omega, by omega, hown, hb, HN⟩
            case measure => (simp [intOf] <;> omega)
          · have hput := ug_put hg hlt hc x (by rw [hm]; simpa using hx)
            obtain ⟨y, hy⟩ : ∃ y, x / 2 = y := ⟨_, rfl⟩
            have t2 := td2 x
            rw [hy] at t2
            have hy2 : y < 17179869184 := by omega
            clear hg hn hm hx
            by_cases hp : x % 2 = 1
            · have t1 := tm2 x
              rw [show x % 2 = 1 by omega] at t1
              rw [show last + zag x = last - ((y : Int) + 1) from by rw [zag_odd hp, hy]; omega] at hput
              have HN := Lib.hid (show UgI s f (i + 1) 0 0 _ _ from .inl ⟨by omega, by decide, hput⟩)
              clear hput hp hy
              go_wp2_with (at_builtin; go_must (refine wpList_appF (f := fI) rfl _ _ _ rfl eltI (by omega) _ out rfl hown _ _ _ _ rfl rfl rfl (by intro u hu; simp only [fI, List.mem_cons, List.not_mem_nil, or_false] at hu; subst hu; rfl) (by omega) hsz ?_); intro v3 w3 hown3 hg3 hat3 hbl3)
              go_roundw
              case rel => exact ⟨f, i + 1, 0, 0, _, _, by omega, by omega, by go_num, rfl, rfl, rfl, by rw [List.length_append, List.length_singleton]; omega, by omega, by omega, hown3, hb.trans hbl3, HN⟩
              case measure => (simp [intOf] <;> omega)
            · have t1 := tm2 x
              rw [show x % 2 = 0 by omega] at t1
              rw [show last + zag x = last + (y : Int) from by rw [zag_even hp, hy]] at hput
              have HN := Lib.hid (show UgI s f (i + 1) 0 0 _ _ from .inl ⟨by omega, by decide, hput⟩)
              clear hput hp hy
              go_wp2_with (at_builtin; go_must (refine wpList_appF (f := fI) rfl _ _ _ rfl eltI (by omega) _ out rfl hown _ _ _ _ rfl rfl rfl (by intro u hu; simp only [fI, List.mem_cons, List.not_mem_nil, or_false] at hu; subst hu; rfl) (by omega) hsz ?_); intro v3 w3 hown3 hg3 hat3 hbl3)
              go_roundw
              case rel => exact ⟨f, i + 1, 0, 0, _, _, by omega, by omega, by go_num, rfl, rfl, rfl, by rw [List.length_append, List.length_singleton]; omega, by omega, by omega, hown3, hb.trans hbl3, HN⟩
              case measure => (simp [intOf] <;> omega)
        · have hn1 : n < 128 := by simpa using hn
          obtain ⟨x, hx⟩ : ∃ x, n + m * 128 = x := ⟨_, rfl⟩
          have e2 : bits .or .i64 (n : Int) ((m : Int) * 128) = (x : Int) := by
            have := or_low n m 7 (by omega) (by omega) (by omega)
            rw [show n + m * 2 ^ 7 = x by omega] at this
            rw [← this]
            congr 1
            try omega
          have hx2 : x < 16384 := by omega
          by_cases hc : 128 ≤ bt s i
          · have HN := Lib.hid (show UgI s f (i + 1) x 2 last out from .inl ⟨by omega, by simpa using hx2, by have := ug_more hg hlt hc (by omega); rw [hm, show n + m * 128 ^ 1 = x by simpa using hx] at this; exact this⟩)
            clear hg hn hm hx
            go_wp2
            go_roundw
            case rel => exact ⟨f, i + 1, x, 2, last, out, by omega, by omega, by go_num, rfl, by go_num, rfl, by omega, by omega, by omega, hown, hb, HN⟩
            case measure => (simp [intOf] <;> omega)
          · have hput := ug_put hg hlt hc x (by rw [hm]; simpa using hx)
            obtain ⟨y, hy⟩ : ∃ y, x / 2 = y := ⟨_, rfl⟩
            have t2 := td2 x
            rw [hy] at t2
            have hy2 : y < 17179869184 := by omega
            clear hg hn hm hx
            by_cases hp : x % 2 = 1
            · have t1 := tm2 x
              rw [show x % 2 = 1 by omega] at t1
              rw [show last + zag x = last - ((y : Int) + 1) from by rw [zag_odd hp, hy]; omega] at hput
              have HN := Lib.hid (show UgI s f (i + 1) 0 0 _ _ from .inl ⟨by omega, by decide, hput⟩)
              clear hput hp hy
              go_wp2_with (at_builtin; go_must (refine wpList_appF (f := fI) rfl _ _ _ rfl eltI (by omega) _ out rfl hown _ _ _ _ rfl rfl rfl (by intro u hu; simp only [fI, List.mem_cons, List.not_mem_nil, or_false] at hu; subst hu; rfl) (by omega) hsz ?_); intro v3 w3 hown3 hg3 hat3 hbl3)
              go_roundw
              case rel => exact ⟨f, i + 1, 0, 0, _, _, by omega, by omega, by go_num, rfl, rfl, rfl, by rw [List.length_append, List.length_singleton]; omega, by omega, by omega, hown3, hb.trans hbl3, HN⟩
              case measure => (simp [intOf] <;> omega)
            · have t1 := tm2 x
              rw [show x % 2 = 0 by omega] at t1
              rw [show last + zag x = last + (y : Int) from by rw [zag_even hp, hy]] at hput
              have HN := Lib.hid (show UgI s f (i + 1) 0 0 _ _ from .inl ⟨by omega, by decide, hput⟩)
              clear hput hp hy
              go_wp2_with (at_builtin; go_must (refine wpList_appF (f := fI) rfl _ _ _ rfl eltI (by omega) _ out rfl hown _ _ _ _ rfl rfl rfl (by intro u hu; simp only [fI, List.mem_cons, List.not_mem_nil, or_false] at hu; subst hu; rfl) (by omega) hsz ?_); intro v3 w3 hown3 hg3 hat3 hbl3)
              go_roundw
              case rel => exact ⟨f, i + 1, 0, 0, _, _, by omega, by omega, by go_num, rfl, rfl, rfl, by rw [List.length_append, List.length_singleton]; omega, by omega, by omega, hown3, hb.trans hbl3, HN⟩
              case measure => (simp [intOf] <;> omega)
        · have hn1 : n < 16384 := by simpa using hn
          obtain ⟨x, hx⟩ : ∃ x, n + m * 16384 = x := ⟨_, rfl⟩
          have e2 : bits .or .i64 (n : Int) ((m : Int) * 16384) = (x : Int) := by
            have := or_low n m 14 (by omega) (by omega) (by omega)
            rw [show n + m * 2 ^ 14 = x by omega] at this
            rw [← this]
            congr 1
            try omega
          have hx2 : x < 2097152 := by omega
          by_cases hc : 128 ≤ bt s i
          · have HN := Lib.hid (show UgI s f (i + 1) x 3 last out from .inl ⟨by omega, by simpa using hx2, by have := ug_more hg hlt hc (by omega); rw [hm, show n + m * 128 ^ 2 = x by simpa using hx] at this; exact this⟩)
            clear hg hn hm hx
            go_wp2
            go_roundw
            case rel => exact ⟨f, i + 1, x, 3, last, out, by omega, by omega, by go_num, rfl, by go_num, rfl, by omega, by omega, by omega, hown, hb, HN⟩
            case measure => (simp [intOf] <;> omega)
          · have hput := ug_put hg hlt hc x (by rw [hm]; simpa using hx)
            obtain ⟨y, hy⟩ : ∃ y, x / 2 = y := ⟨_, rfl⟩
            have t2 := td2 x
            rw [hy] at t2
            have hy2 : y < 17179869184 := by omega
            clear hg hn hm hx
            by_cases hp : x % 2 = 1
            · have t1 := tm2 x
              rw [show x % 2 = 1 by omega] at t1
              rw [show last + zag x = last - ((y : Int) + 1) from by rw [zag_odd hp, hy]; omega] at hput
              have HN := Lib.hid (show UgI s f (i + 1) 0 0 _ _ from .inl ⟨by omega, by decide, hput⟩)
              clear hput hp hy
              go_wp2_with (at_builtin; go_must (refine wpList_appF (f := fI) rfl _ _ _ rfl eltI (by omega) _ out rfl hown _ _ _ _ rfl rfl rfl (by intro u hu; simp only [fI, List.mem_cons, List.not_mem_nil, or_false] at hu; subst hu; rfl) (by omega) hsz ?_); intro v3 w3 hown3 hg3 hat3 hbl3)
              go_roundw
              case rel => exact ⟨f, i + 1, 0, 0, _, _, by omega, by omega, by go_num, rfl, rfl, rfl, by rw [List.length_append, List.length_singleton]; omega, by omega, by omega, hown3, hb.trans hbl3, HN⟩
              case measure => (simp [intOf] <;> omega)
            · have t1 := tm2 x
              rw [show x % 2 = 0 by omega] at t1
              rw [show last + zag x = last + (y : Int) from by rw [zag_even hp, hy]] at hput
              have HN := Lib.hid (show UgI s f (i + 1) 0 0 _ _ from .inl ⟨by omega, by decide, hput⟩)
              clear hput hp hy
              go_wp2_with (at_builtin; go_must (refine wpList_appF (f := fI) rfl _ _ _ rfl eltI (by omega) _ out rfl hown _ _ _ _ rfl rfl rfl (by intro u hu; simp only [fI, List.mem_cons, List.not_mem_nil, or_false] at hu; subst hu; rfl) (by omega) hsz ?_); intro v3 w3 hown3 hg3 hat3 hbl3)
              go_roundw
              case rel => exact ⟨f, i + 1, 0, 0, _, _, by omega, by omega, by go_num, rfl, rfl, rfl, by rw [List.length_append, List.length_singleton]; omega, by omega, by omega, hown3, hb.trans hbl3, HN⟩
              case measure => (simp [intOf] <;> omega)
        · have hn1 : n < 2097152 := by simpa using hn
          obtain ⟨x, hx⟩ : ∃ x, n + m * 2097152 = x := ⟨_, rfl⟩
          have e2 : bits .or .i64 (n : Int) ((m : Int) * 2097152) = (x : Int) := by
            have := or_low n m 21 (by omega) (by omega) (by omega)
            rw [show n + m * 2 ^ 21 = x by omega] at this
            rw [← this]
            congr 1
            try omega
          have hx2 : x < 268435456 := by omega
          by_cases hc : 128 ≤ bt s i
          · have HN := Lib.hid (show UgI s f (i + 1) x 4 last out from .inl ⟨by omega, by simpa using hx2, by have := ug_more hg hlt hc (by omega); rw [hm, show n + m * 128 ^ 3 = x by simpa using hx] at this; exact this⟩)
            clear hg hn hm hx
            go_wp2
            go_roundw
            case rel => exact ⟨f, i + 1, x, 4, last, out, by omega, by omega, by go_num, rfl, by go_num, rfl, by omega, by omega, by omega, hown, hb, HN⟩
            case measure => (simp [intOf] <;> omega)
          · have hput := ug_put hg hlt hc x (by rw [hm]; simpa using hx)
            obtain ⟨y, hy⟩ : ∃ y, x / 2 = y := ⟨_, rfl⟩
            have t2 := td2 x
            rw [hy] at t2
            have hy2 : y < 17179869184 := by omega
            clear hg hn hm hx
            by_cases hp : x % 2 = 1
            · have t1 := tm2 x
              rw [show x % 2 = 1 by omega] at t1
              rw [show last + zag x = last - ((y : Int) + 1) from by rw [zag_odd hp, hy]; omega] at hput
              have HN := Lib.hid (show UgI s f (i + 1) 0 0 _ _ from .inl ⟨by omega, by decide, hput⟩)
              clear hput hp hy
              go_wp2_with (at_builtin; go_must (refine wpList_appF (f := fI) rfl _ _ _ rfl eltI (by omega) _ out rfl hown _ _ _ _ rfl rfl rfl (by intro u hu; simp only [fI, List.mem_cons, List.not_mem_nil, or_false] at hu; subst hu; rfl) (by omega) hsz ?_); intro v3 w3 hown3 hg3 hat3 hbl3)
              go_roundw
              case rel => exact ⟨f, i + 1, 0, 0, _, _, by omega, by omega, by go_num, rfl, rfl, rfl, by rw [List.length_append, List.length_singleton]; omega, by omega, by omega, hown3, hb.trans hbl3, HN⟩
              case measure => (simp [intOf] <;> omega)
            · have t1 := tm2 x
              rw [show x % 2 = 0 by omega] at t1
              rw [show last + zag x = last + (y : Int) from by rw [zag_even hp, hy]] at hput
              have HN := Lib.hid (show UgI s f (i + 1) 0 0 _ _ from .inl ⟨by omega, by decide, hput⟩)
              clear hput hp hy
              go_wp2_with (at_builtin; go_must (refine wpList_appF (f := fI) rfl _ _ _ rfl eltI (by omega) _ out rfl hown _ _ _ _ rfl rfl rfl (by intro u hu; simp only [fI, List.mem_cons, List.not_mem_nil, or_false] at hu; subst hu; rfl) (by omega) hsz ?_); intro v3 w3 hown3 hg3 hat3 hbl3)
              go_roundw
              case rel => exact ⟨f, i + 1, 0, 0, _, _, by omega, by omega, by go_num, rfl, rfl, rfl, by rw [List.length_append, List.length_singleton]; omega, by omega, by omega, hown3, hb.trans hbl3, HN⟩
              case measure => (simp [intOf] <;> omega)
        · have hn1 : n < 268435456 := by simpa using hn
          obtain ⟨x, hx⟩ : ∃ x, n + m * 268435456 = x := ⟨_, rfl⟩
          have e2 : bits .or .i64 (n : Int) ((m : Int) * 268435456) = (x : Int) := by
            have := or_low n m 28 (by omega) (by omega) (by omega)
            rw [show n + m * 2 ^ 28 = x by omega] at this
            rw [← this]
            congr 1
            try omega
          have hx2 : x < 34359738368 := by omega
          by_cases hc : 128 ≤ bt s i
          · have HN := Lib.hid (show UgI s f (i + 1) x 5 last out from .inr ⟨rfl, by simpa using hx2, by omega, by simpa using hc, ug_stop hg hlt hc⟩)
            clear hg hn hm hx
            go_wp2
            go_roundw
            case rel => exact ⟨f, i + 1, x, 5, last, out, by omega, by omega, by go_num, rfl, by go_num, rfl, by omega, by omega, by omega, hown, hb, HN⟩
            case measure => (simp [intOf] <;> omega)
          · have hput := ug_put hg hlt hc x (by rw [hm]; simpa using hx)
            obtain ⟨y, hy⟩ : ∃ y, x / 2 = y := ⟨_, rfl⟩
            have t2 := td2 x
            rw [hy] at t2
            have hy2 : y < 17179869184 := by omega
            clear hg hn hm hx
            by_cases hp : x % 2 = 1
            · have t1 := tm2 x
              rw [show x % 2 = 1 by omega] at t1
              rw [show last + zag x = last - ((y : Int) + 1) from by rw [zag_odd hp, hy]; omega] at hput
              have HN := Lib.hid (show UgI s f (i + 1) 0 0 _ _ from .inl ⟨by omega, by decide, hput⟩)
              clear hput hp hy
              go_wp2_with (at_builtin; go_must (refine wpList_appF (f := fI) rfl _ _ _ rfl eltI (by omega) _ out rfl hown _ _ _ _ rfl rfl rfl (by intro u hu; simp only [fI, List.mem_cons, List.not_mem_nil, or_false] at hu; subst hu; rfl) (by omega) hsz ?_); intro v3 w3 hown3 hg3 hat3 hbl3)
              go_roundw
              case rel => exact ⟨f, i + 1, 0, 0, _, _, by omega, by omega, by go_num, rfl, rfl, rfl, by rw [List.length_append, List.length_singleton]; omega, by omega, by omega, hown3, hb.trans hbl3, HN⟩
              case measure => (simp [intOf] <;> omega)
            · have t1 := tm2 x
              rw [show x % 2 = 0 by omega] at t1
              rw [show last + zag x = last + (y : Int) from by rw [zag_even hp, hy]] at hput
              have HN := Lib.hid (show UgI s f (i + 1) 0 0 _ _ from .inl ⟨by omega, by decide, hput⟩)
              clear hput hp hy
              go_wp2_with (at_builtin; go_must (refine wpList_appF (f := fI) rfl _ _ _ rfl eltI (by omega) _ out rfl hown _ _ _ _ rfl rfl rfl (by intro u hu; simp only [fI, List.mem_cons, List.not_mem_nil, or_false] at hu; subst hu; rfl) (by omega) hsz ?_); intro v3 w3 hown3 hg3 hat3 hbl3)
              go_roundw
              case rel => exact ⟨f, i + 1, 0, 0, _, _, by omega, by omega, by go_num, rfl, rfl, rfl, by rw [List.length_append, List.length_singleton]; omega, by omega, by omega, hown3, hb.trans hbl3, HN⟩
              case measure => (simp [intOf] <;> omega)
      · have HR := Lib.hid hg
        clear hg HI
        go_wp2
        go_ret2
        exact ⟨_, by rw [HR.out]; rfl, by unfold ugL; rw [HR.out]; exact World.ownsRow_nil _ _ _ _, hb⟩
    · have hfin : ugFin s out = ug s := by
        rcases HI.out with ⟨hj, hn, hg⟩ | ⟨rfl, hn, h0, h1, hg⟩
        · obtain ⟨f, rfl⟩ : ∃ f', f = f' + 1 := ⟨f - 1, by omega⟩
          exact ug_end hg hlt
        · rw [hg, ugFin_half s out i (by omega) h0 h1]
      obtain ⟨A, c, rfl⟩ := own_form hown
      have hpg := impl_PackGaps_any A c out wr (RR.own hown) (by omega)
      cases hok : okGaps out
      · rw [packGaps_no out hok] at hpg
        have HR := Lib.hid (hfin.symm.trans (ugFin_bad hok))
        clear hfin HI
        go_wp2_with (go_at_call 66; refine hpg.mono ?_; unfold resB; rintro e w4 ⟨rfl, hx4⟩)
        go_ret2
        exact ⟨_, by rw [HR.out]; rfl, by unfold ugL; rw [HR.out]; exact World.ownsRow_nil _ _ _ _, below_step hb hx4⟩
      · rw [packGaps_yes out hok] at hpg
        cases hq : (pgl 0 out == s.data.toList)
        · have HR := Lib.hid (hfin.symm.trans (ugFin_no hok hq))
          rw [← ByteArray.toList_eq] at hq
          clear hfin HI
          go_wp2_with (go_at_call 66; refine hpg.mono ?_; unfold resB; rintro e w4 ⟨rfl, hx4⟩)
          go_ret2
          exact ⟨_, by rw [HR.out]; rfl, by unfold ugL; rw [HR.out]; exact World.ownsRow_nil _ _ _ _, below_step hb hx4⟩
        · have HR := Lib.hid (hfin.symm.trans (ugFin_yes hok hq))
          rw [← ByteArray.toList_eq] at hq
          clear hfin HI
          go_wp2_with (go_at_call 66; refine hpg.mono ?_; unfold resB; rintro e w4 ⟨rfl, hx4⟩)
          go_ret2
          exact ⟨_, by rw [HR.out]; rfl, by unfold ugL; rw [HR.out]; exact own_later hown hx4 (Nat.le_refl _), below_step hb hx4⟩
end Go.Proofs.Ytfcbcnlkoajpjaa
