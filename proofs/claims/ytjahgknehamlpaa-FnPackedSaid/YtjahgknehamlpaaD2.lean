/- Walks: drawn data. -/
import Derived.Test.YtjahgknehamlpaaD1
import Derived.Test.YtjahgknehamlpaaMem3
import Derived.Test.YtjahgknehamlpaaW10
namespace Go.Proofs.Ytjahgknehamlpaa
open Go.RowKit
set_option linter.unusedVariables false

theorem SR.al {w : World} {g n c N : Nat} {A : Option Addr} (h : SR w g A n c N) (o : Obj) : SR (w.alloc o) g A n c N := h.grown (World.grownBy_alloc w o none) (by simp)
theorem drawn_cells (y : Nat) (hy : y ≤ 255) : (#[Value.int .u8 (y : Int)] : Array Value).toList = bcells [UInt8.ofNat y] := by
  have : ((UInt8.ofNat y).toNat : Int) = y := by rw [UInt8.toNat_ofNat']; omega
  simp only [bcells, List.map_cons, List.map_nil, this]
theorem OwnB.far {w w' : World} {base g : Nat} {e : TypeId} {v : Value} {l : List UInt8} (h : OwnB w base e v l) (hg : w.grownBy w' (some g)) (hb : g < base) : OwnB w' base e v l := h.kept hg (.inr (fun hv => by have := (h.lt g hv).1; omega))
theorem gr_below {a w w' : World} {g : Nat} (h : a.grownBy w (some g)) (hb : Below a.heap.size w w') : a.grownBy w' (some g) :=
  ⟨hb.os.trans h.os, hb.tape.trans h.tape, hb.output.trans h.output, Nat.le_trans h.size hb.size, fun i hi hne => (hb.block i hi).trans (h.block i hi hne)⟩
theorem gr_own {a w w' : World} {g : Nat} {row : Option Nat} (h : a.grownBy w (some g)) (k : w.grownBy w' row) (hr : ∀ j, row = some j → a.heap.size ≤ j) : a.grownBy w' (some g) := h.andThen k (fun j hj => .inl (hr j hj))

set_option maxRecDepth 100000 in
set_option maxHeartbeats 2000000 in
theorem drawData_any (m : Nat) (g n c N B : Nat) (A : Option Addr) (l : List UInt8) (w : World) (S : SR w g A n c N) (hn : l.length = n) (hr : Rd w B 1 A n (flat fU l)) (hBg : B ≤ g) (hB : B ≤ w.heap.size) (hN : N ≤ 800000000) (hn2 : n ≤ maxLen) (hm : m ≤ 1000000) :
    Calls Try.prog 36 #[.pointer (some ⟨g, 0, none⟩), .int .i64 (m : Int)] w fun e w' => ∃ d : ByteArray, e = .returned (.string d) ∧ d.size = m ∧ SR w' g A n c (N + 2 + 3 * m) ∧ w.grownBy w' (some g) := by
  have hgl := S.lt
  have am := among_any [0, 65, 229, 78] w.heap.size 4 4 rfl g n c N B A l (w.alloc (.cells #[.int .i64 0, .int .i64 65, .int .i64 229, .int .i64 78] 2)) (S.al _) hn (hr.alloc hB _) hBg (by rw [World.size_alloc]; omega) (by omega) hn2 (by decide) (by decide) (CP.made w [.int .i64 0, .int .i64 65, .int .i64 229, .int .i64 78] 2) (by omega)
  go_enter Try.func36, Try.ntmps36
  go_wp2_with (go_at_call 53; with_reducible refine am.mono ?_; rintro e w1 ⟨x, rfl, hx, S1, hg1⟩; obtain ⟨y, rfl, hy⟩ : ∃ y : Nat, x = (y : Int) ∧ y ≤ 255 := ⟨x.toNat, (by simp at hx; omega)⟩; have hwy : IntKind.u8.wrap (y : Int) = (y : Int) := IntWalk.u8_in _ (by omega))
  have hsz1 : w.heap.size + 1 ≤ w1.heap.size := by have := hg1.size; rw [World.size_alloc] at this; exact this
  have hg2 : w.grownBy w1 (some g) := gr_trans (World.grownBy_alloc w _ _) hg1
  have hO := OwnB.lit (e := 5) (base := w.heap.size) w1 [] #[] rfl (by omega) (by simp)
  have S2 := S1.al (.cells #[] 5)
  have hg3 : w.grownBy (w1.alloc (.cells #[] 5)) (some g) := gr_trans hg2 (World.grownBy_alloc w1 _ _)
  generalize (w1.alloc (.cells #[] 5)) = w2 at hO S2 hg3 ⊢
  go_loopw [5, 6] (fun b o wr => ∃ (y : Nat) (out : List UInt8), y ≤ 255 ∧ b = .int .u8 (y : Int) ∧ out.length ≤ m ∧ OwnB wr w.heap.size 5 o out ∧ SR wr g A n c (N + 2 + 3 * out.length) ∧ w.grownBy wr (some g)) (fun _ o _ => match o with | .slice _ k _ => m - k | _ => 0)
  case atStart => exact ⟨y, [], hy, rfl, by simp, hO, S2, hg3⟩
  case round =>
    obtain ⟨y, out, hy, rfl, hlen, hown, S3, hg4⟩ := hrel
    obtain ⟨A0, c0, rfl⟩ := hown.form
    by_cases hlt : out.length < m
    · have hd : decide ((out.length : Int) < (m : Int)) = true := decide_eq_true (by omega)
      have on := one_any 9 g n c (N + 2 + 3 * out.length) B A l wr S3 hn (grown_rd hr hg4 hBg hB) hBg (Nat.le_trans hB hg4.size) (by omega) hn2 (by decide)
      go_wp2_with (first
        | (go_at_call 37; with_reducible refine on.mono ?_; rintro e w5 ⟨z, rfl, S5, hg5⟩)
        | (go_at_call 66; have nx := next_any g n c _ B A l _ S5 hn (grown_rd hr (gr_trans hg4 hg5) hBg hB) hBg (Nat.le_trans hB (Nat.le_trans hg4.size hg5.size)) (by omega) hn2; with_reducible refine nx.mono ?_; rintro e w6 ⟨x, rfl, hx0, hx1, S6, hg6⟩; obtain ⟨y2, rfl⟩ : ∃ y2 : Nat, x = (y2 : Int) := ⟨x.toNat, (by omega)⟩; have hy2 : y2 ≤ 255 := (by omega); have hwy2 : IntKind.u8.wrap (y2 : Int) = (y2 : Int) := IntWalk.u8_in _ (by omega); replace S5 := S6; replace hg5 := gr_trans hg5 hg6)
        | (at_builtin; refine wpList_appL rfl (.tmp 21) (.tmp 23) 22 rfl eltB _ out rfl (hown.far hg5 hgl) _ _ [UInt8.ofNat y2] 1 1 rfl (drawn_cells y2 (by omega)) rfl (by simp; omega) (Nat.le_trans hg4.size hg5.size) ?_; intro v' w' hown' hg' hat' hbl; obtain ⟨A9, c9, rfl⟩ := hown'.form)
        | (at_builtin; go_must (refine wpList_appL rfl (.tmp 21) (.tmp 23) 22 rfl eltB _ out rfl (hown.far hg5 hgl) _ _ [UInt8.ofNat y] 1 1 rfl (drawn_cells y (by omega)) rfl (by simp; omega) (Nat.le_trans hg4.size hg5.size) ?_); intro v' w' hown' hg' hat' hbl; obtain ⟨A9, c9, rfl⟩ := hown'.form))
      all_goals
        go_roundw
        case rel => first | exact ⟨y2, out ++ [UInt8.ofNat y2], hy2, rfl, (by rw [List.length_append]; exact hlt), (by have h := hown'; rw [List.length_append] at h; exact h), (SR.below S5 hbl hgl).more (by rw [List.length_append, List.length_singleton]; omega), gr_below (gr_trans hg4 hg5) hbl⟩ | exact ⟨y, out ++ [UInt8.ofNat y], hy, rfl, (by rw [List.length_append]; exact hlt), (by have h := hown'; rw [List.length_append] at h; exact h), (SR.below S5 hbl hgl).more (by rw [List.length_append, List.length_singleton]; omega), gr_below (gr_trans hg4 hg5) hbl⟩
        case measure => show m - (out.length + 1) < m - out.length; omega
    · have hd : decide ((out.length : Int) < (m : Int)) = false := decide_eq_false (by omega)
      obtain rfl : out.length = m := by omega
      have hcv := run_b2s (P := Try.prog) (dst := 9) Try.underlying22 Try.underlying5 Try.underlying9 hown
      go_wp2
      go_ret
      exact ⟨_, rfl, by first | rfl | simp [ByteArray.size], S3, hg4⟩
end Go.Proofs.Ytjahgknehamlpaa
