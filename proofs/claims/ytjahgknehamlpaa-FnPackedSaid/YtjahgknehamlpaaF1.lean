/- Walks: the texts D9 D10 D11 D12 D13 D14 as one text. -/
import Derived.Test.YtjahgknehamlpaaD2
import Derived.Test.YtjahgknehamlpaaW15
import Derived.Test.YtjahgknehamlpaaD5
import Derived.StillTailTactics
import Derived.Deep.DeepMust
namespace Go.Proofs.Ytjahgknehamlpaa
set_option linter.unusedVariables false
open Go.RowKit

theorem u8_byte (v : Int) : ∃ y : Nat, y ≤ 255 ∧ IntKind.u8.wrap v = (y : Int) := ⟨(v % 256).toNat, by omega, by rw [IntKind.wrap_u8]; omega⟩

set_option maxRecDepth 100000 in
set_option maxHeartbeats 2000000 in
theorem l01Draw_any (mi : Int) (m : Nat) (hmi : mi = (m : Int)) (g n c N B : Nat) (A : Option Addr) (l : List UInt8) (w : World) (S : SR w g A n c N) (hn : l.length = n) (hr : Rd w B 1 A n (flat fU l)) (hBg : B ≤ g) (hB : B ≤ w.heap.size) (hN : N ≤ 800000000) (hn2 : n ≤ maxLen) (hm : m ≤ 1000000) :
    Calls Try.prog 75 #[.pointer (some ⟨g, 0, none⟩), .int .i64 mi] w fun e w' => ∃ d : ByteArray, e = .returned (.string d) ∧ d.size ≤ m ∧ SR w' g A n c (N + 2 + 4 * m) ∧ w.grownBy w' (some g) := by
  subst hmi
  have hgl := S.lt
  have hO := OwnB.lit (e := 5) (base := w.heap.size) w [] #[] rfl (by omega) (by simp)
  have S1 := S.al (.cells #[] 5)
  have hg1 : w.grownBy (w.alloc (.cells #[] 5)) (some g) := World.grownBy_alloc w _ _
  have pk := pick_any ((m : Int) + 1) g n c N B A l (w.alloc (.cells #[] 5)) S1 hn (hr.alloc hB _) hBg (by rw [World.size_alloc]; omega) (by omega) hn2 (by omega)
  have hwm : IntKind.i64.wrap ((m : Int) + 1) = (m : Int) + 1 := IntWalk.i64_in _ (by omega)
  go_enter Try.func75, Try.ntmps75
  go_wp2_with (go_at_call 38; with_reducible refine pk.mono ?_; rintro e w1 ⟨x, rfl, hx0, hx1, S2, hg2⟩; obtain ⟨k, rfl⟩ : ∃ k : Nat, x = (k : Int) := ⟨x.toNat, by omega⟩)
  have hk : k ≤ m := by omega
  have hO1 := hO.far hg2 hgl
  have hg3 := gr_trans hg1 hg2
  clear hO S1 hg1 pk hg2 hx0 hx1
  go_loopw [5, 6] (fun o b wr => ∃ (k : Nat) (out : List UInt8), b = .int .i64 (k : Int) ∧ out.length + k ≤ m ∧ OwnB wr w.heap.size 5 o out ∧ SR wr g A n c (N + 2 + 4 * out.length) ∧ w.grownBy wr (some g)) (fun _ b _ => match b with | .int _ k => k.toNat | _ => 0)
  case atStart => exact ⟨k, [], rfl, by simpa using hk, hO1, S2, hg3⟩
  case round =>
    obtain ⟨k, out, rfl, hlen, hown, S3, hg4⟩ := hrel
    obtain ⟨A0, c0, rfl⟩ := hown.form
    cases k with
    | zero =>
      have hcv := run_b2s (P := Try.prog) (dst := 9) Try.underlying22 Try.underlying5 Try.underlying9 hown
      go_wp2
      go_ret
      exact ⟨_, rfl, by show out.toArray.size ≤ m; rw [List.size_toArray]; omega, S3.more (by omega), hg4⟩
    | succ k =>
      have hd : (0 : Int) < ((k + 1 : Nat) : Int) := by omega
      have hwk : IntKind.i64.wrap (((k + 1 : Nat) : Int) - 1) = (k : Int) := by rw [IntWalk.i64_in _ (by omega)]; omega
      go_wp2_with (first
        | (at_builtin; go_must (refine wpList_appL rfl (.tmp 16) (.tmp 24) 22 rfl eltB _ out rfl ((hown.far hg6 hgl)) _ _ [UInt8.ofNat y] 1 1 rfl (drawn_cells y hy) rfl (by simp; omega) (Nat.le_trans hg4.size hg6.size) ?_); intro v' w' hown' hg' hat' hbl; obtain ⟨A9, c9, rfl⟩ := hown'.form)
        | (go_at_call 38; have pk := pick_any 3 g n c _ B A l _ S5 hn (grown_rd hr (gr_trans hg4 hg5) hBg hB) hBg (Nat.le_trans hB (Nat.le_trans hg4.size hg5.size)) (by omega) hn2 (by decide); with_reducible refine pk.mono ?_; rintro e w6 ⟨z, rfl, hz0, hz1, S6, hg6⟩; replace hg6 := gr_trans hg5 hg6; have hwx : IntKind.i64.wrap (x + z) = x + z := IntWalk.i64_in _ (by simp at hx; omega); obtain ⟨y, hy, hyw⟩ := u8_byte (x + z))
        | (go_at_call 53; have am := among_any [0, 1, 65, 78, 161, 255, 229, 16] wr.heap.size 8 8 rfl g n c (N + 2 + 4 * out.length) B A l _ (S3.al (.cells #[.int .i64 0, .int .i64 1, .int .i64 65, .int .i64 78, .int .i64 161, .int .i64 255, .int .i64 229, .int .i64 16] 2)) hn ((grown_rd hr hg4 hBg hB).alloc (Nat.le_trans hB hg4.size) _) hBg (by rw [World.size_alloc]; exact Nat.le_succ_of_le (Nat.le_trans hB hg4.size)) (by omega) hn2 (by decide) (by decide) (CP.made wr [.int .i64 0, .int .i64 1, .int .i64 65, .int .i64 78, .int .i64 161, .int .i64 255, .int .i64 229, .int .i64 16] 2) (by have := S3.lt; omega); with_reducible refine am.mono ?_; rintro e w5 ⟨x, rfl, hx, S5, hg5⟩; replace hg5 := gr_trans (World.grownBy_alloc wr _ (some g)) hg5))
      go_roundw
      case rel => exact ⟨k, out ++ [UInt8.ofNat y], rfl, (by rw [List.length_append]; simp; omega), (by have h := hown'; rw [List.length_append] at h; exact h), (SR.below S6 hbl hgl).more (by rw [List.length_append, List.length_singleton]; omega), gr_below (gr_trans hg4 hg6) hbl⟩
      case measure => show k < k + 1; omega

set_option maxRecDepth 100000 in
set_option maxHeartbeats 2000000 in
theorem l14Draw_any (g n c N B : Nat) (A : Option Addr) (l : List UInt8) (w : World) (S : SR w g A n c N) (hn : l.length = n) (hr : Rd w B 1 A n (flat fU l)) (hBg : B ≤ g) (hB : B ≤ w.heap.size) (hN : N ≤ 700000000) (hn2 : n ≤ maxLen) :
    Calls Try.prog 48 #[.pointer (some ⟨g, 0, none⟩)] w fun e w' => ∃ d : ByteArray, e = .returned (.string d) ∧ d.size ≤ 598 ∧ SR w' g A n c (N + 1000) ∧ w.grownBy w' (some g) := by
  have hgl := S.lt
  have pk := pick_any 7 g n c N B A l w S hn hr hBg hB (by omega) hn2 (by decide)
  go_enter Try.func48, Try.ntmps48
  go_wp2_with (go_at_call 38; with_reducible refine pk.mono ?_; rintro e w1 ⟨x, rfl, hx0, hx1, S2, hg2⟩; obtain ⟨k, rfl⟩ : ∃ k : Nat, x = (k : Int) := ⟨x.toNat, by omega⟩)
  have hk : k ≤ 6 := by omega
  clear pk hx0 hx1
  go_loopw [3, 4] (fun o b wr => ∃ (k : Nat) (d : ByteArray), o = .string d ∧ b = .int .i64 (k : Int) ∧ k ≤ 6 ∧ d.size ≤ 598 ∧ SR wr g A n c (N + 2 + 100 * (6 - k)) ∧ w.grownBy wr (some g)) (fun _ b _ => match b with | .int _ k => k.toNat | _ => 0)
  case atStart => exact ⟨k, _, rfl, rfl, hk, by decide, S2.more (by omega), hg2⟩
  case round =>
    obtain ⟨k, d, rfl, rfl, hk6, hd, S3, hg3⟩ := hrel
    cases k with
    | zero =>
      go_wp2
      go_ret
      exact ⟨d, rfl, hd, S3.more (by omega), hg3⟩
    | succ k =>
      have hk0 : (0 : Int) < ((k + 1 : Nat) : Int) := by omega
      have hwk : IntKind.i64.wrap (((k + 1 : Nat) : Int) - 1) = (k : Int) := by rw [IntWalk.i64_in _ (by omega)]; omega
      obtain ⟨M, hM⟩ : ∃ M, M = N + 2 + 100 * (6 - (k + 1)) := ⟨_, rfl⟩
      rw [← hM] at S3
      by_cases h0 : 0 < d.size
      · have hd0 : (0 : Int) < (d.size : Int) := by omega
        go_wp2_with (first
          | (go_at_call 38; have pk := pick_any (d.size : Int) g n c _ B A l _ S5 hn (grown_rd hr hg5 hBg hB) hBg (Nat.le_trans hB hg5.size) (by omega) hn2 (by omega); with_reducible refine pk.mono ?_; rintro e w6 ⟨x, rfl, hx0, hx1, S6, hg6⟩; obtain ⟨i, rfl⟩ : ∃ i : Nat, x = (i : Int) := ⟨x.toNat, by omega⟩; have hi : i < d.size := (by omega); replace hg6 := gr_trans hg5 hg6)
          | (go_at_call 37; have on := one_any 3 g n c _ B A l _ S4 hn (grown_rd hr hg4 hBg hB) hBg (Nat.le_trans hB hg4.size) (by omega) hn2 (by decide); with_reducible refine on.mono ?_; rintro e w5 ⟨z, rfl, S5, hg5⟩; replace hg5 := gr_trans hg4 hg5)
          | (go_at_call 75; have ld := l01Draw_any 5 5 rfl g n c _ B A l _ S3 hn (grown_rd hr hg3 hBg hB) hBg (Nat.le_trans hB hg3.size) (by omega) hn2 (by omega); with_reducible refine ld.mono ?_; rintro e w4 ⟨p, rfl, hp5, S4, hg4⟩; replace hg4 := gr_trans hg3 hg4))
        · --BEGIN
          generalize hqe : d.extract i d.size = q
          have hq : d.size < 300 → q.size ≤ 299 := fun h => by rw [← hqe, ByteArray.size_extract]; omega
          clear hqe
          go_wp2_with (go_at_call 53; have am := among_any [1, 1, 2, 5, 40] w6.heap.size 5 5 rfl g n c _ B A l _ (S6.al (.cells #[.int .i64 1, .int .i64 1, .int .i64 2, .int .i64 5, .int .i64 40] 2)) hn ((grown_rd hr hg6 hBg hB).alloc (Nat.le_trans hB hg6.size) _) hBg (by rw [World.size_alloc]; exact Nat.le_succ_of_le (Nat.le_trans hB hg6.size)) (by omega) hn2 (by decide) (by decide) (CP.made w6 [.int .i64 1, .int .i64 1, .int .i64 2, .int .i64 5, .int .i64 40] 2) (by have := S6.lt; omega); with_reducible refine am.mono ?_; rintro e w7 ⟨x, rfl, hx, S7, hg7⟩; replace hg7 := gr_trans hg6 (gr_trans (World.grownBy_alloc w6 _ (some g)) hg7); obtain ⟨r, rfl, hr40⟩ : ∃ r : Nat, x = (r : Int) ∧ r ≤ 40 := ⟨x.toNat, (by simp at hx; omega)⟩)
          go_loopw [3, 7] (fun o b wr => ∃ (r : Nat) (e : ByteArray), o = .string e ∧ b = .int .i64 (r : Int) ∧ r ≤ 40 ∧ e.size ≤ 598 ∧ (e.size < 300 → q.size ≤ 299) ∧ SR wr g A n c (N + 2 + 100 * (6 - k)) ∧ w.grownBy wr (some g)) (fun _ b _ => match b with | .int _ r => r.toNat | _ => 0)
          case atStart => exact ⟨r, d, rfl, rfl, hr40, hd, hq, S7.more (by omega), hg7⟩
          case round =>
            obtain ⟨r, e, rfl, rfl, hr40, he, hq, S8, hg8⟩ := hrel
            cases r with
            | zero =>
              go_wp2
              go_roundw
              case rel => exact ⟨k, e, rfl, rfl, by omega, he, S8, hg8⟩
              case measure => show k < k + 1; omega
            | succ r =>
              have hr0 : (0 : Int) < ((r + 1 : Nat) : Int) := by omega
              have hwr : IntKind.i64.wrap (((r + 1 : Nat) : Int) - 1) = (r : Int) := by rw [IntWalk.i64_in _ (by omega)]; omega
              by_cases he3 : e.size < 300
              · have he4 : (e.size : Int) < 300 := by omega
                have hq2 := hq he3
                have hadd : ¬ 9223372036854775807 < e.size + q.size := by omega
                go_wp2
                go_roundw
                case rel => exact ⟨r, e ++ q, rfl, rfl, by omega, by rw [ByteArray.size_append]; omega, fun _ => hq2, S8, hg8⟩
                case measure => show r < r + 1; omega
              · have he4 : ¬ (e.size : Int) < 300 := by omega
                go_wp2
                go_roundw
                case rel => exact ⟨k, e, rfl, rfl, by omega, he, S8, hg8⟩
                case measure => show k < k + 1; omega
        · have hq : d.size < 300 → p.size ≤ 299 := fun h => by omega
          go_wp2_with (go_at_call 53; have am := among_any [1, 1, 2, 5, 40] w5.heap.size 5 5 rfl g n c _ B A l _ (S5.al (.cells #[.int .i64 1, .int .i64 1, .int .i64 2, .int .i64 5, .int .i64 40] 2)) hn ((grown_rd hr hg5 hBg hB).alloc (Nat.le_trans hB hg5.size) _) hBg (by rw [World.size_alloc]; exact Nat.le_succ_of_le (Nat.le_trans hB hg5.size)) (by omega) hn2 (by decide) (by decide) (CP.made w5 [.int .i64 1, .int .i64 1, .int .i64 2, .int .i64 5, .int .i64 40] 2) (by have := S5.lt; omega); with_reducible refine am.mono ?_; rintro e w7 ⟨x, rfl, hx, S7, hg7⟩; replace hg7 := gr_trans hg5 (gr_trans (World.grownBy_alloc w5 _ (some g)) hg7); obtain ⟨r, rfl, hr40⟩ : ∃ r : Nat, x = (r : Int) ∧ r ≤ 40 := ⟨x.toNat, (by simp at hx; omega)⟩)
          go_loopw [3, 7] (fun o b wr => ∃ (r : Nat) (e : ByteArray), o = .string e ∧ b = .int .i64 (r : Int) ∧ r ≤ 40 ∧ e.size ≤ 598 ∧ (e.size < 300 → p.size ≤ 299) ∧ SR wr g A n c (N + 2 + 100 * (6 - k)) ∧ w.grownBy wr (some g)) (fun _ b _ => match b with | .int _ r => r.toNat | _ => 0)
          case atStart => exact ⟨r, d, rfl, rfl, hr40, hd, hq, S7.more (by omega), hg7⟩
          case round =>
            obtain ⟨r, e, rfl, rfl, hr40, he, hq, S8, hg8⟩ := hrel
            cases r with
            | zero =>
              go_wp2
              go_roundw
              case rel => exact ⟨k, e, rfl, rfl, by omega, he, S8, hg8⟩
              case measure => show k < k + 1; omega
            | succ r =>
              have hr0 : (0 : Int) < ((r + 1 : Nat) : Int) := by omega
              have hwr : IntKind.i64.wrap (((r + 1 : Nat) : Int) - 1) = (r : Int) := by rw [IntWalk.i64_in _ (by omega)]; omega
              by_cases he3 : e.size < 300
              · have he4 : (e.size : Int) < 300 := by omega
                have hq2 := hq he3
                have hadd : ¬ 9223372036854775807 < e.size + p.size := by omega
                go_wp2
                go_roundw
                case rel => exact ⟨r, e ++ p, rfl, rfl, by omega, by rw [ByteArray.size_append]; omega, fun _ => hq2, S8, hg8⟩
                case measure => show r < r + 1; omega
              · have he4 : ¬ (e.size : Int) < 300 := by omega
                go_wp2
                go_roundw
                case rel => exact ⟨k, e, rfl, rfl, by omega, he, S8, hg8⟩
                case measure => show k < k + 1; omega
      · have hd0 : ¬ (0 : Int) < (d.size : Int) := by omega
        go_wp2_with (first
          | (go_at_call 37; have on := one_any 3 g n c _ B A l _ S4 hn (grown_rd hr hg4 hBg hB) hBg (Nat.le_trans hB hg4.size) (by omega) hn2 (by decide); with_reducible refine on.mono ?_; rintro e w5 ⟨z, rfl, S5, hg5⟩; replace hg5 := gr_trans hg4 hg5)
          | (go_at_call 75; have ld := l01Draw_any 5 5 rfl g n c _ B A l _ S3 hn (grown_rd hr hg3 hBg hB) hBg (Nat.le_trans hB hg3.size) (by omega) hn2 (by omega); with_reducible refine ld.mono ?_; rintro e w4 ⟨p, rfl, hp5, S4, hg4⟩; replace hg4 := gr_trans hg3 hg4))
        all_goals
          have hq : d.size < 300 → p.size ≤ 299 := fun h => by omega
          go_wp2_with (go_at_call 53; have am := among_any [1, 1, 2, 5, 40] w5.heap.size 5 5 rfl g n c _ B A l _ (S5.al (.cells #[.int .i64 1, .int .i64 1, .int .i64 2, .int .i64 5, .int .i64 40] 2)) hn ((grown_rd hr hg5 hBg hB).alloc (Nat.le_trans hB hg5.size) _) hBg (by rw [World.size_alloc]; exact Nat.le_succ_of_le (Nat.le_trans hB hg5.size)) (by omega) hn2 (by decide) (by decide) (CP.made w5 [.int .i64 1, .int .i64 1, .int .i64 2, .int .i64 5, .int .i64 40] 2) (by have := S5.lt; omega); with_reducible refine am.mono ?_; rintro e w7 ⟨x, rfl, hx, S7, hg7⟩; replace hg7 := gr_trans hg5 (gr_trans (World.grownBy_alloc w5 _ (some g)) hg7); obtain ⟨r, rfl, hr40⟩ : ∃ r : Nat, x = (r : Int) ∧ r ≤ 40 := ⟨x.toNat, (by simp at hx; omega)⟩)
          go_loopw [3, 7] (fun o b wr => ∃ (r : Nat) (e : ByteArray), o = .string e ∧ b = .int .i64 (r : Int) ∧ r ≤ 40 ∧ e.size ≤ 598 ∧ (e.size < 300 → p.size ≤ 299) ∧ SR wr g A n c (N + 2 + 100 * (6 - k)) ∧ w.grownBy wr (some g)) (fun _ b _ => match b with | .int _ r => r.toNat | _ => 0)
          case atStart => exact ⟨r, d, rfl, rfl, hr40, hd, hq, S7.more (by omega), hg7⟩
          case round =>
            obtain ⟨r, e, rfl, rfl, hr40, he, hq, S8, hg8⟩ := hrel
            cases r with
            | zero =>
              go_wp2
              go_roundw
              case rel => exact ⟨k, e, rfl, rfl, by omega, he, S8, hg8⟩
              case measure => show k < k + 1; omega
            | succ r =>
              have hr0 : (0 : Int) < ((r + 1 : Nat) : Int) := by omega
              have hwr : IntKind.i64.wrap (((r + 1 : Nat) : Int) - 1) = (r : Int) := by rw [IntWalk.i64_in _ (by omega)]; omega
              by_cases he3 : e.size < 300
              · have he4 : (e.size : Int) < 300 := by omega
                have hq2 := hq he3
                have hadd : ¬ 9223372036854775807 < e.size + p.size := by omega
                go_wp2
                go_roundw
                case rel => exact ⟨r, e ++ p, rfl, rfl, by omega, by rw [ByteArray.size_append]; omega, fun _ => hq2, S8, hg8⟩
                case measure => show r < r + 1; omega
              · have he4 : ¬ (e.size : Int) < 300 := by omega
                go_wp2
                go_roundw
                case rel => exact ⟨k, e, rfl, rfl, by omega, he, S8, hg8⟩
                case measure => show k < k + 1; omega

set_option maxHeartbeats 1000000 in
theorem drawPackBytes_any (from_ : ∀ (A : Option Addr) (n c : Nat) (w : World), Calls Try.prog 32 #[.slice A n c] w fun e w' => ∃ g, e = .returned (.pointer (some ⟨g, 0, none⟩)) ∧ w.heap.size ≤ g ∧ SR w' g A n c 0 ∧ Below w.heap.size w w') (A : Option Addr) (n cc : Nat) (l : List UInt8) (w : World) (hn : l.length = n) (hr : Rd w w.heap.size 1 A n (flat fU l)) (hn2 : n ≤ maxLen) :
    Calls Try.prog 15 #[.slice A n cc] w fun e w' => ∃ d : ByteArray, e = .returned (.string d) ∧ d.size ≤ 598 ∧ Below w.heap.size w w' := by
  go_enter Try.func15, Try.ntmps15
  go_wp2_with (first
    | (go_at_call 48; (with_reducible refine (l14Draw_any g n cc 0 w.heap.size A l w1 S1 hn (hr.below hx1) hg0 hx1.size (by omega) hn2).mono ?_); rintro e w2 ⟨d, rfl, hd, S2, hg2⟩)
    | (go_at_call 32; (with_reducible refine (from_ A n cc _).mono ?_); rintro e w1 ⟨g, rfl, hg0, S1, hx1⟩))
  go_ret
  exact ⟨d, rfl, hd, hx1.trans ((Below.refl _ _).grown hg2 hx1.size (fun k hk => by injection hk with hk; omega))⟩
end Go.Proofs.Ytjahgknehamlpaa
namespace Go.Proofs.Ytjahgknehamlpaa
set_option linter.unusedVariables false
open Go.RowKit

/-- How many bytes from i on are '1'. -/
def onesF (s : ByteArray) (i : Nat) : Nat := (s.data.toList.drop i).countP (fun b => decide (b.toNat = 49))
theorem onesF_step (s : ByteArray) (i : Nat) (h : i < s.size) : onesF s i = onesF s (i + 1) + (if bt s i = 49 then 1 else 0) := by
  have h2 : i < s.data.toList.length := by rw [Array.length_toList]; exact h
  have hb : bt s i = (s.data.toList[i]).toNat := by
    unfold bt
    rw [List.getD_eq_getElem?_getD, List.getElem?_eq_getElem h2]
    rfl
  unfold onesF
  rw [List.drop_eq_getElem_cons h2, List.countP_cons, hb]
  simp
theorem onesF_end (s : ByteArray) (i : Nat) (h : s.size ≤ i) : onesF s i = 0 := by
  unfold onesF
  rw [List.drop_eq_nil_of_le (by rw [Array.length_toList]; exact h)]
  rfl
theorem onesF_le (s : ByteArray) : onesF s 0 ≤ s.size := by
  unfold onesF
  have := List.countP_le_length (p := fun b : UInt8 => decide (b.toNat = 49)) (l := s.data.toList.drop 0)
  rw [List.drop_zero, Array.length_toList] at this
  exact this

set_option maxRecDepth 100000 in
set_option maxHeartbeats 1000000 in
theorem l02Ones_any (s : ByteArray) (w : World) (hs : s.size ≤ 1000) :
    Calls Try.prog 81 #[.string s] w fun e w' => e = .returned (.int .i64 (onesF s 0 : Nat)) ∧ Below w.heap.size w w' := by
  have hle := onesF_le s
  go_enter Try.func81, Try.ntmps81
  go_wp2
  go_loopw [3, 4] (fun a b wr => ∃ (m i : Nat), a = .int .i64 (m : Int) ∧ b = .int .i64 (i : Int) ∧ i ≤ s.size ∧ Below w.heap.size w wr ∧ Hid (m + onesF s i = onesF s 0)) (fun _ b _ => s.size - (intOf b).toNat)
  case atStart => exact ⟨0, 0, rfl, rfl, by omega, Below.refl _ _, Lib.hid (by omega)⟩
  case round =>
    obtain ⟨m, i, rfl, rfl, hi, hb0, HM⟩ := hrel
    by_cases hlt : i < s.size
    · have hil : (i : Int) < (s.size : Int) := by omega
      have hb := bt_eq s i hlt
      have hbl := bt_lt s i
      have hwi : IntKind.i64.wrap ((i : Int) + 1) = ((i + 1 : Nat) : Int) := by rw [IntWalk.i64_in _ (by omega)]; omega
      have hst := onesF_step s i hlt
      by_cases h1 : bt s i = 49
      · have hm : m ≤ 1000 := by have := HM.out; omega
        have hwm : IntKind.i64.wrap ((m : Int) + 1) = ((m + 1 : Nat) : Int) := by rw [IntWalk.i64_in _ (by omega)]; omega
        have HM2 := Lib.hid (show m + 1 + onesF s (i + 1) = onesF s 0 by rw [if_pos h1] at hst; have := HM.out; omega)
        have g1 : (((bt s i : Nat) : Int) == 49) = true := by simp; omega
        have g2 : (bt s i == 49) = true := by simp; omega
        clear hst h1
        go_wp2
        go_roundw
        case rel => exact ⟨m + 1, i + 1, by go_num, by go_num, by omega, hb0, HM2⟩
        case measure => (simp [intOf] <;> omega)
      · have HM2 := Lib.hid (show m + onesF s (i + 1) = onesF s 0 by rw [if_neg h1] at hst; have := HM.out; omega)
        have g1 : (((bt s i : Nat) : Int) == 49) = false := by simp; omega
        have g2 : (bt s i == 49) = false := by simp; omega
        clear hst h1
        go_wp2
        go_roundw
        case rel => exact ⟨m, i + 1, rfl, by go_num, by omega, hb0, HM2⟩
        case measure => (simp [intOf] <;> omega)
    · have HE := Lib.hid (show m = onesF s 0 by have h0 := onesF_end s i (by omega); have := HM.out; omega)
      have hil : ¬ (i : Int) < (s.size : Int) := by omega
      go_wp2
      go_ret
      exact ⟨by rw [← HE.out]; rfl, hb0⟩

set_option maxHeartbeats 1000000 in
theorem l02DrawCell_any (g n c N B : Nat) (A : Option Addr) (l : List UInt8) (w : World) (S : SR w g A n c N) (hn : l.length = n) (hr : Rd w B 1 A n (flat fU l)) (hBg : B ≤ g) (hB : B ≤ w.heap.size) (hN : N ≤ 800000000) (hn2 : n ≤ maxLen) :
    Calls Try.prog 83 #[.pointer (some ⟨g, 0, none⟩)] w fun e w' => ∃ x : Int, e = .returned (.int .i64 x) ∧ 4 ≤ x ∧ x ≤ 200 ∧ SR w' g A n c (N + 2) ∧ w.grownBy w' (some g) := by
  have hgl := S.lt
  have am := among_any [4, 10, 16, 20, 25, 40, 200] w.heap.size 7 7 rfl g n c N B A l (w.alloc (.cells #[.int .i64 4, .int .i64 10, .int .i64 16, .int .i64 20, .int .i64 25, .int .i64 40, .int .i64 200] 2)) (S.al _) hn (hr.alloc hB _) hBg (by rw [World.size_alloc]; omega) (by omega) hn2 (by decide) (by decide) (CP.made w [.int .i64 4, .int .i64 10, .int .i64 16, .int .i64 20, .int .i64 25, .int .i64 40, .int .i64 200] 2) (by omega)
  go_enter Try.func83, Try.ntmps83
  go_wp2_with (go_at_call 53; with_reducible refine am.mono ?_; rintro e w1 ⟨x, rfl, hx, S1, hg1⟩)
  go_ret
  exact ⟨x, rfl, by simp at hx; omega, by simp at hx; omega, S1, gr_trans (World.grownBy_alloc w _ _) hg1⟩

set_option maxRecDepth 100000 in
set_option maxHeartbeats 4000000 in
theorem l02Draw_any (g n c N B : Nat) (A : Option Addr) (l : List UInt8) (w : World) (S : SR w g A n c N) (hn : l.length = n) (hr : Rd w B 1 A n (flat fU l)) (hBg : B ≤ g) (hB : B ≤ w.heap.size) (hN : N ≤ 700000000) (hn2 : n ≤ maxLen) :
    Calls Try.prog 80 #[.pointer (some ⟨g, 0, none⟩), .int .i64 20] w fun e w' => ∃ d : ByteArray, e = .returned (.string d) ∧ d.size ≤ 83 ∧ SR w' g A n c (N + 100) ∧ w.grownBy w' (some g) := by
  have hgl := S.lt
  have hO := OwnB.lit (e := 5) (base := w.heap.size) w [] #[] rfl (by omega) (by simp)
  have S1 := S.al (.cells #[] 5)
  have hg1 : w.grownBy (w.alloc (.cells #[] 5)) (some g) := World.grownBy_alloc w _ _
  have pk := pick_any 20 g n c N B A l (w.alloc (.cells #[] 5)) S1 hn (hr.alloc hB _) hBg (by rw [World.size_alloc]; omega) (by omega) hn2 (by decide)
  go_enter Try.func80, Try.ntmps80
  go_wp2_with (go_at_call 38; with_reducible refine pk.mono ?_; rintro e w1 ⟨x, rfl, hx0, hx1, S2, hg2⟩; obtain ⟨k, rfl⟩ : ∃ k : Nat, x = (k : Int) := ⟨x.toNat, by omega⟩; have hk : k ≤ 19 := (by omega); have hwk : IntKind.i64.wrap (1 + (k : Int)) = ((k + 1 : Nat) : Int) := (by rw [IntWalk.i64_in _ (by omega)]; omega))
  have hO1 := hO.far hg2 hgl
  have hg3 := gr_trans hg1 hg2
  clear hO S1 hg1 pk hg2 hx0 hx1
  go_loopw [5, 6] (fun o b wr => ∃ (k : Nat) (out : List UInt8), b = .int .i64 (k : Int) ∧ out.length + 4 * k ≤ 80 ∧ OwnB wr w.heap.size 5 o out ∧ SR wr g A n c (N + 2 + 2 * (20 - k)) ∧ w.grownBy wr (some g)) (fun _ b _ => match b with | .int _ k => k.toNat | _ => 0)
  case atStart => exact ⟨k + 1, [], by rfl, by simp; omega, hO1, S2.more (by omega), hg3⟩
  case round =>
    obtain ⟨k, out, rfl, hlen, hown, S3, hg4⟩ := hrel
    obtain ⟨A0, c0, rfl⟩ := hown.form
    cases k with
    | zero =>
      have pk := pick_any 4 g n c _ B A l _ S3 hn (grown_rd hr hg4 hBg hB) hBg (Nat.le_trans hB hg4.size) (by omega) hn2 (by decide)
      go_wp2_with (go_at_call 38; with_reducible refine pk.mono ?_; rintro e w5 ⟨x, rfl, hx0, hx1, S5, hg5⟩; obtain ⟨z, rfl⟩ : ∃ z : Nat, x = (z : Int) := ⟨x.toNat, by omega⟩; have hz : z ≤ 3 := (by omega))
      have hown5 := hown.far hg5 hgl
      replace hg5 := gr_trans hg4 hg5
      clear pk hx0 hx1 hown S3 hg4
      go_loopw [5, 8] (fun o b wr => ∃ (z : Nat) (out : List UInt8), b = .int .i64 (z : Int) ∧ out.length + z ≤ 83 ∧ OwnB wr w.heap.size 5 o out ∧ SR wr g A n c (N + 80) ∧ w.grownBy wr (some g)) (fun _ b _ => match b with | .int _ k => k.toNat | _ => 0)
      case atStart => exact ⟨z, out, rfl, by omega, hown5, S5.more (by omega), hg5⟩
      case round =>
        obtain ⟨z, out, rfl, hlen, hown, S3, hg4⟩ := hrel
        obtain ⟨A0, c0, rfl⟩ := hown.form
        cases z with
        | zero =>
          have on := one_any 40 g n c _ B A l _ S3 hn (grown_rd hr hg4 hBg hB) hBg (Nat.le_trans hB hg4.size) (by omega) hn2 (by decide)
          go_upto_region 14 with fail
          go_wp2_with (go_at_call 37; with_reducible refine on.mono ?_; rintro e w6 ⟨y, rfl, S6, hg6⟩; have hcv := run_b2s (P := Try.prog) (dst := 9) Try.underlying22 Try.underlying5 Try.underlying9 (hown.far hg6 hgl))
          all_goals
            go_ret
            first
              | exact ⟨_, rfl, by decide, S6.more (by omega), gr_trans hg4 hg6⟩
              | exact ⟨_, rfl, by show out.toArray.size ≤ 83; rw [List.size_toArray]; omega, S6.more (by omega), gr_trans hg4 hg6⟩
        | succ z =>
          have hz0 : (0 : Int) < ((z + 1 : Nat) : Int) := by omega
          have hwz : IntKind.i64.wrap (((z + 1 : Nat) : Int) - 1) = (z : Int) := by rw [IntWalk.i64_in _ (by omega)]; omega
          go_wp2_with (at_builtin; go_must (refine wpList_appL rfl (.tmp 36) (.tmp 37) 22 rfl eltB _ out rfl hown _ _ [48] 1 1 rfl (drawn_cells 48 (by omega)) rfl (by simp; omega) hg4.size ?_); intro v' w' hown' hg' hat' hbl; obtain ⟨A9, c9, rfl⟩ := hown'.form)
          go_roundw
          case rel => exact ⟨z, out ++ [48], rfl, (by rw [List.length_append]; simp; omega), (by have h := hown'; rw [List.length_append] at h; exact h), SR.below S3 hbl hgl, gr_below hg4 hbl⟩
          case measure => show z < z + 1; omega
    | succ k =>
      have hk0 : (0 : Int) < ((k + 1 : Nat) : Int) := by omega
      have hwk : IntKind.i64.wrap (((k + 1 : Nat) : Int) - 1) = (k : Int) := by rw [IntWalk.i64_in _ (by omega)]; omega
      have pk := pick_any 4 g n c _ B A l _ S3 hn (grown_rd hr hg4 hBg hB) hBg (Nat.le_trans hB hg4.size) (by omega) hn2 (by decide)
      go_wp2_with (go_at_call 38; with_reducible refine pk.mono ?_; rintro e w5 ⟨x, rfl, hx0, hx1, S5, hg5⟩; obtain ⟨z, rfl⟩ : ∃ z : Nat, x = (z : Int) := ⟨x.toNat, by omega⟩; have hz : z ≤ 3 := (by omega))
      have hown5 := hown.far hg5 hgl
      replace hg5 := gr_trans hg4 hg5
      clear pk hx0 hx1 hown S3 hg4
      go_loopw [5, 7] (fun o b wr => ∃ (z : Nat) (out : List UInt8), b = .int .i64 (z : Int) ∧ out.length + z + 1 + 4 * k ≤ 80 ∧ OwnB wr w.heap.size 5 o out ∧ SR wr g A n c (N + 2 + 2 * (20 - k)) ∧ w.grownBy wr (some g)) (fun _ b _ => match b with | .int _ k => k.toNat | _ => 0)
      case atStart => exact ⟨z, out, rfl, by omega, hown5, S5.more (by omega), hg5⟩
      case round =>
        obtain ⟨z, out, rfl, hlen, hown, S3, hg4⟩ := hrel
        obtain ⟨A0, c0, rfl⟩ := hown.form
        cases z with
        | zero =>
          go_wp2_with (at_builtin; go_must (refine wpList_appL rfl (.tmp 27) (.tmp 28) 22 rfl eltB _ out rfl hown _ _ [49] 1 1 rfl (drawn_cells 49 (by omega)) rfl (by simp; omega) hg4.size ?_); intro v' w' hown' hg' hat' hbl; obtain ⟨A9, c9, rfl⟩ := hown'.form)
          go_roundw
          case rel => exact ⟨k, out ++ [49], rfl, (by rw [List.length_append]; simp; omega), (by have h := hown'; rw [List.length_append] at h; exact h), SR.below S3 hbl hgl, gr_below hg4 hbl⟩
          case measure => show k < k + 1; omega
        | succ z =>
          have hz0 : (0 : Int) < ((z + 1 : Nat) : Int) := by omega
          have hwz : IntKind.i64.wrap (((z + 1 : Nat) : Int) - 1) = (z : Int) := by rw [IntWalk.i64_in _ (by omega)]; omega
          go_wp2_with (at_builtin; go_must (refine wpList_appL rfl (.tmp 24) (.tmp 25) 22 rfl eltB _ out rfl hown _ _ [48] 1 1 rfl (drawn_cells 48 (by omega)) rfl (by simp; omega) hg4.size ?_); intro v' w' hown' hg' hat' hbl; obtain ⟨A9, c9, rfl⟩ := hown'.form)
          go_roundw
          case rel => exact ⟨z, out ++ [48], rfl, (by rw [List.length_append]; simp; omega), (by have h := hown'; rw [List.length_append] at h; exact h), SR.below S3 hbl hgl, gr_below hg4 hbl⟩
          case measure => show z < z + 1; omega
end Go.Proofs.Ytjahgknehamlpaa
namespace Go.Proofs.Ytjahgknehamlpaa
set_option linter.unusedVariables false
open Go.RowKit

theorem BX.dr1 {w : World} {g : Nat} {t : TypeId} {vs : List Value} (h : BX w g t vs) : BX w.drew g t vs := h
theorem oneI (x : Int) : ∀ u ∈ fI x, u.oneCell' = true := by
  intro u hu
  simp only [fI, List.mem_cons, List.not_mem_nil, or_false] at hu
  subst hu
  rfl

set_option maxRecDepth 100000 in
set_option maxHeartbeats 4000000 in
theorem l02Times_any (ce rv : Int) (A : Option Addr) (cp : Nat) (T : List Int) (w : World) (hr : Rd w w.heap.size 1 A T.length (flat fI T)) (h0 : 0 < T.length) (hT : T.length ≤ 1000) :
    Calls Try.prog 107 #[.int .i64 ce, .slice A T.length cp, .int .i64 rv] w fun e w' => ∃ (fi : Int) (L : List Int) (v : Value), e = .returned (.agg #[.int .i64 ce, .int .i64 fi, v]) ∧ L.length = T.length ∧ w'.ownsRow w.heap.size 2 1 v L.length (flat fI L) ∧ Below w.heap.size w w' := by
  have cell : ∀ (W : World), Below w.heap.size w W → ∀ (j : Nat) (hj : j < T.length), ∃ b off, A = some ⟨b, off, none⟩ ∧ W.cell? ⟨b, off + j, none⟩ = some (.int .i64 T[j]) := by
    intro W hb j hj
    obtain ⟨b, off, rfl, hbb, hc⟩ := (hr.below hb).at_ (f := fI) (fun _ => rfl) rfl j hj
    have hc0 := hc 0 _ (by omega) rfl
    simp only [Nat.mul_one, Nat.add_zero] at hc0
    exact ⟨b, off, rfl, hc0⟩
  obtain ⟨b, off, rfl, -⟩ := cell w (Below.refl _ _) 0 h0
  have cell2 : ∀ (W : World), Below w.heap.size w W → ∀ (j : Nat) (hj : j < T.length), W.cell? ⟨b, off + j, none⟩ = some (.int .i64 T[j]) := by
    intro W hb j hj
    obtain ⟨b', off', e, hc⟩ := cell W hb j hj
    cases e
    exact hc
  clear cell hr
  obtain ⟨t0, ht0⟩ : ∃ t0, T[0] = t0 := ⟨_, rfl⟩
  have ob0 : Below w.heap.size w (w.alloc (.cells #[.int .i64 0, .int .i64 0, .slice none 0 0] 84)) := (by repeat (first | exact Below.refl _ _ | refine below_step ?_ (by assumption) | assumption | refine Below.drew ?_ | refine below_drewN ?_ _ | refine below_alloc ?_ _ | refine Below.setCell ?_ (by simp; try omega) _))
  have c0 := cell2 _ ob0 0 h0
  rw [ht0, Nat.add_zero] at c0
  have hi0 : (0 : Int) < (T.length : Int) := by omega
  have F0 := (BX.made w 84 [.int .i64 0, .int .i64 0, .slice none 0 0]).al (.cells #[.int .i64 ce, .int .i64 t0, .slice none 0 0] 84)
  have F1 := BX.made1 w (.cells #[.int .i64 0, .int .i64 0, .slice none 0 0] 84) 84 [.int .i64 ce, .int .i64 t0, .slice none 0 0]
  have hb1 : Below w.heap.size w ((w.alloc (.cells #[.int .i64 0, .int .i64 0, .slice none 0 0] 84)).alloc (.cells #[.int .i64 ce, .int .i64 t0, .slice none 0 0] 84)) := (by repeat (first | exact Below.refl _ _ | refine below_step ?_ (by assumption) | assumption | refine Below.drew ?_ | refine below_drewN ?_ _ | refine below_alloc ?_ _ | refine Below.setCell ?_ (by simp; try omega) _))
  go_enter Try.func107, Try.ntmps107
  go_wp2_with fail
  generalize (w.alloc (.cells #[.int .i64 0, .int .i64 0, .slice none 0 0] 84)).alloc (.cells #[.int .i64 ce, .int .i64 t0, .slice none 0 0] 84) = w1 at F0 F1 hb1 ⊢
  clear c0 ob0
  go_loopw [8] (fun a wr => ∃ (i : Nat) (L : List Int) (A1 : Option Addr) (c1 : Nat), a = .int .i64 (i : Int) ∧ 1 ≤ i ∧ i ≤ T.length ∧ L.length + 1 = i ∧ BX wr w.heap.size 84 [.int .i64 0, .int .i64 0, .slice none 0 0] ∧ BX wr (w.heap.size + 1) 84 [.int .i64 ce, .int .i64 t0, .slice A1 L.length c1] ∧ wr.ownsRow (w.heap.size + 2) 2 1 (.slice A1 L.length c1) L.length (flat fI L) ∧ Below w.heap.size w wr) (fun a _ => T.length - (intOf a).toNat)
  case atStart => exact ⟨1, [], none, 0, rfl, by omega, by omega, rfl, F0, F1, World.ownsRow_nil _ _ _ _, hb1⟩
  case round =>
    obtain ⟨i, L, A1, c1, rfl, hi1, hi2, hL, F0, F1, R, hb⟩ := hrel
    have hsz : w.heap.size + 2 ≤ wr.heap.size := F1.lt
    have hb2 : w.heap.size ≤ w.heap.size + 2 := by omega
    have hLn : L.length ≤ 100000000 := by omega
    by_cases hlt : i < T.length
    · have hil : (i : Int) < (T.length : Int) := by omega
      obtain ⟨j, hj⟩ : ∃ j, j + 1 = i := ⟨i - 1, by omega⟩
      have hjl : (j : Int) < (T.length : Int) := by omega
      have hwj : IntKind.i64.wrap ((i : Int) - 1) = (j : Int) := by rw [IntWalk.i64_in _ (by omega)]; omega
      have hwi : IntKind.i64.wrap ((i : Int) + 1) = ((i + 1 : Nat) : Int) := by rw [IntWalk.i64_in _ (by omega)]; omega
      have ci := cell2 wr.drew (Below.drew hb) i hlt
      have cj := cell2 wr.drew (Below.drew hb) j (by omega)
      have di := fun o => cell2 (World.drew (wr.alloc o)) (Below.drew (below_alloc hb o)) i hlt
      have dj := fun o => cell2 (World.drew (wr.alloc o)) (Below.drew (below_alloc hb o)) j (by omega)
      obtain ⟨x, hx⟩ : ∃ x, T[i] = x := ⟨_, rfl⟩
      obtain ⟨y, hy⟩ : ∃ y, T[j] = y := ⟨_, rfl⟩
      rw [hx] at ci di
      rw [hy] at cj dj
      clear hx hy
      obtain ⟨z, hz⟩ : ∃ z, IntKind.i64.wrap (x - y) = z := ⟨_, rfl⟩
      have f2 : (World.drew wr).cell? _ = some (.slice A1 L.length c1) := F1.cell 2 (by simp)
      have g2 := fun (o : Obj) => (show (_ : Option Value) = some (.slice A1 L.length c1) from (BX.dr1 (F1.al o)).cell 2 (by simp))
      have hown1 : World.ownsRow wr.drew (w.heap.size + 2) 2 1 (.slice A1 L.length c1) L.length (flat fI L) := R
      go_upto_region 5 with fail
      go_region_law (refine step_appF (f := fI) rfl (.tmp 21) (.tmp 32) 27 rfl eltI (by decide) _ L L.length rfl (by rfl) hown1 _ _ z _ (by rfl) (by rfl) (by rfl) (oneI z) hLn hsz ?_; intro v5 w5 R5 hbl5; obtain ⟨A5, c5, rfl⟩ := own_form R5; have F15 := (BX.dr1 F1).below hbl5 (Nat.lt_succ_self _); have F05 := (BX.dr1 F0).below hbl5 (Nat.lt_of_lt_of_le (Nat.lt_succ_self _) (Nat.le_succ _)); have hfz5 := fun j => F15.free j; have q2 : (_ : Option Value) = some (.slice A1 L.length c1) := F15.cell 2 (by simp); have hbb5 := (Below.drew hb).trans (hbl5.mono hb2))
      all_goals
        clear ci cj di dj f2 g2 hwj
        go_wp2
        go_roundw
        case rel => exact ⟨i + 1, L ++ [z], A5, c5, by go_num, by omega, by omega, by rw [List.length_append]; simp; omega, F05.far (a := ⟨w.heap.size + 1, 2, none⟩) (by simp) _, by rw [List.length_append, List.length_singleton, hL]; exact F15.put 2 _, by rw [List.length_append, List.length_singleton, hL]; rw [hL] at R5; exact ownsRow_setCell_below R5 (Nat.lt_succ_self _) _, Below.setCell hbb5 (by simp) _⟩
        case measure => (simp [intOf] <;> omega)
    · obtain rfl : i = T.length := by omega
      obtain ⟨j, hj⟩ : ∃ j, j + 1 = T.length := ⟨T.length - 1, by omega⟩
      have hjl : (j : Int) < (T.length : Int) := by omega
      have hwj : IntKind.i64.wrap ((T.length : Int) - 1) = (j : Int) := by rw [IntWalk.i64_in _ (by omega)]; omega
      have ci := cell2 wr.drew (Below.drew hb) 0 h0
      have cj := cell2 wr.drew (Below.drew hb) j (by omega)
      have di := fun o => cell2 (World.drew (wr.alloc o)) (Below.drew (below_alloc hb o)) 0 h0
      have dj := fun o => cell2 (World.drew (wr.alloc o)) (Below.drew (below_alloc hb o)) j (by omega)
      rw [ht0, Nat.add_zero] at ci
      obtain ⟨y, hy⟩ : ∃ y, T[j] = y := ⟨_, rfl⟩
      rw [hy] at cj dj
      rw [ht0, Nat.add_zero] at di
      clear hy
      obtain ⟨z1, hz1⟩ : ∃ z, IntKind.i64.wrap (rv - y) = z := ⟨_, rfl⟩
      obtain ⟨z, hz⟩ : ∃ z, IntKind.i64.wrap (z1 + t0) = z := ⟨_, rfl⟩
      have f2 : (World.drew wr).cell? _ = some (.slice A1 L.length c1) := F1.cell 2 (by simp)
      have g2 := fun (o : Obj) => (show (_ : Option Value) = some (.slice A1 L.length c1) from (BX.dr1 (F1.al o)).cell 2 (by simp))
      have hown1 : World.ownsRow wr.drew (w.heap.size + 2) 2 1 (.slice A1 L.length c1) L.length (flat fI L) := R
      go_upto_region 6 with fail
      go_region_law (refine step_appF (f := fI) rfl (.tmp 36) (.tmp 49) 27 rfl eltI (by decide) _ L L.length rfl (by rfl) hown1 _ _ z _ (by rfl) (by rfl) (by rfl) (oneI z) hLn hsz ?_; intro v5 w5 R5 hbl5; obtain ⟨A5, c5, rfl⟩ := own_form R5; have F15 := (BX.dr1 F1).below hbl5 (Nat.lt_succ_self _); have F05 := (BX.dr1 F0).below hbl5 (Nat.lt_of_lt_of_le (Nat.lt_succ_self _) (Nat.le_succ _)); have hfz5 := fun j => F15.free j; have q2 : (_ : Option Value) = some (.slice A1 L.length c1) := F15.cell 2 (by simp); have hbb5 := (Below.drew hb).trans (hbl5.mono hb2))
      all_goals
        rw [hL] at R5
        have F6 := F15.put 2 (.slice A5 T.length c5)
        have F7 := F05.far (a := ⟨w.heap.size + 1, 2, none⟩) (by simp) (.slice A5 T.length c5)
        have R6 := ownsRow_setCell_below R5 (a := ⟨w.heap.size + 1, 2, none⟩) (Nat.lt_succ_self _) (.slice A5 T.length c5)
        have hb6 := Below.setCell hbb5 (p := ⟨w.heap.size + 1, 2, none⟩) (by simp) (.slice A5 T.length c5)
        generalize w5.setCell ⟨w.heap.size + 1, 2, none⟩ (.slice A5 T.length c5) = w6 at F6 F7 R6 hb6 ⊢
        clear ci cj di dj f2 g2 hwj F15 F05 hfz5 q2 hown1 hbb5
        have f0 : (_ : Option Value) = some (.int .i64 ce) := F6.cell 0 (by simp)
        have f1 : (_ : Option Value) = some (.int .i64 t0) := F6.cell 1 (by simp)
        have f2 : (_ : Option Value) = some (.slice A5 T.length c5) := F6.cell 2 (by simp)
        have z0 : (_ : Option Value) = some (.int .i64 0) := F7.cell 0 (by simp)
        have z1 : (_ : Option Value) = some (.int .i64 0) := F7.cell 1 (by simp)
        have z2 : (_ : Option Value) = some (.slice none 0 0) := F7.cell 2 (by simp)
        have hfz := fun j => F7.free j
        go_wp2
        refine bodyPost_ret (v := .agg #[.int .i64 ce, .int .i64 t0, .slice A5 T.length c5]) (by simp [results, Try.results107, go_sem, World.cell?_setCell_other, z0, z1, z2]) rfl ⟨t0, L ++ [z], _, rfl, by rw [List.length_append]; simpa using hL, ?_, (by with_reducible repeat (first | exact Below.refl _ _ | assumption | refine below_step ?_ (by assumption) | refine Below.drew ?_ | refine below_drewN ?_ _ | refine below_alloc ?_ _ | refine Below.setCell ?_ (by simp; try omega) _))⟩
        rw [List.length_append, List.length_singleton, hL]
        exact own_base (ownsRow_setCell_below (ownsRow_setCell_below (ownsRow_setCell_below R6 (by simp) _) (by simp) _) (by simp) _) hb2
end Go.Proofs.Ytjahgknehamlpaa
namespace Go.Proofs.Ytjahgknehamlpaa
set_option linter.unusedVariables false
open Go.RowKit

theorem cellsI (x : Int) : (#[Value.int .i64 x] : Array Value).toList = fI x := rfl

set_option maxRecDepth 100000 in
set_option maxHeartbeats 4000000 in
theorem l02Flux_any (d : ByteArray) (ce : Int) (w : World) (hd : d.size ≤ 1000) (h0 : 0 < onesF d 0) (hc1 : 4 ≤ ce) (hc2 : ce ≤ 200) :
    Calls Try.prog 82 #[.string d, .int .i64 ce] w fun e w' => ∃ (fi : Int) (L : List Int) (v : Value), e = .returned (.agg #[.int .i64 ce, .int .i64 fi, v]) ∧ L.length = onesF d 0 ∧ w'.ownsRow w.heap.size 2 1 v L.length (flat fI L) ∧ Below w.heap.size w w' := by
  have hle := onesF_le d
  have F0 := (BX.made w 84 [.int .i64 0, .int .i64 0, .slice none 0 0]).al (.cells #[] 2)
  have hb1 : Below w.heap.size w ((w.alloc (.cells #[.int .i64 0, .int .i64 0, .slice none 0 0] 84)).alloc (.cells #[] 2)) := (by repeat (first | exact Below.refl _ _ | refine below_step ?_ (by assumption) | assumption | refine Below.drew ?_ | refine below_drewN ?_ _ | refine below_alloc ?_ _ | refine Below.setCell ?_ (by simp; try omega) _))
  have R0 : World.ownsRow ((w.alloc (.cells #[.int .i64 0, .int .i64 0, .slice none 0 0] 84)).alloc (.cells #[] 2)) (w.heap.size + 1) 2 1 (.slice (some ⟨w.heap.size + 1, 0, none⟩) 0 0) 0 (flat fI []) := by
    have := World.ownsRow_lit (base := w.heap.size + 1) (e := 2) (size := 1) (w.alloc (.cells #[.int .i64 0, .int .i64 0, .slice none 0 0] 84)) #[] 0 (by rw [World.size_alloc]; exact Nat.le_refl _) (by simp) (by simp)
    rw [World.size_alloc] at this
    exact this
  go_enter Try.func82, Try.ntmps82
  go_wp2_with fail
  go_loopw [5, 6] (fun o a wr => ∃ (i : Nat) (T : List Int), a = .int .i64 (i : Int) ∧ i ≤ d.size ∧ Hid (T.length + onesF d i = onesF d 0) ∧ BX wr w.heap.size 84 [.int .i64 0, .int .i64 0, .slice none 0 0] ∧ wr.ownsRow (w.heap.size + 1) 2 1 o T.length (flat fI T) ∧ Below w.heap.size w wr) (fun _ a _ => d.size - (intOf a).toNat)
  case atStart => exact ⟨0, [], rfl, by omega, Lib.hid (by simp), F0, R0, hb1⟩
  case round =>
    obtain ⟨i, T, rfl, hi, HT, F0, R, hb⟩ := hrel
    obtain ⟨A1, c1, rfl⟩ := own_form R
    have hsz : w.heap.size + 1 ≤ wr.heap.size := F0.lt
    have hTn : T.length ≤ 1000 := by have := HT.out; omega
    by_cases hlt : i < d.size
    · have hil : (i : Int) < (d.size : Int) := by omega
      have hb' := bt_eq d i hlt
      have hbl := bt_lt d i
      have hwi : IntKind.i64.wrap ((i : Int) + 1) = ((i + 1 : Nat) : Int) := by rw [IntWalk.i64_in _ (by omega)]; omega
      have hst := onesF_step d i hlt
      by_cases h1 : bt d i = 49
      · have HM2 := Lib.hid (show T.length + 1 + onesF d (i + 1) = onesF d 0 by rw [if_pos h1] at hst; have := HT.out; omega)
        have g1 : (((bt d i : Nat) : Int) == 49) = true := by simp; omega
        have g2 : (bt d i == 49) = true := by simp; omega
        clear hst h1
        go_wp2_with (at_builtin; go_must (refine wpList_appF (f := fI) rfl (.tmp 18) (.tmp 25) 27 rfl eltI (by decide) _ T rfl R _ _ _ 1 rfl (cellsI _) rfl (oneI _) (by omega) hsz ?_); intro v' w' hown' hg' hat' hbl'; obtain ⟨A9, c9, rfl⟩ := own_form hown')
        go_roundw
        case rel => exact ⟨i + 1, T ++ [wrap64 (wrap64 ((i : Int) * ce) + ce / 2)], by go_num, by omega, Lib.hid (by rw [List.length_append, List.length_singleton]; exact HM2.out), F0.below hbl' (Nat.lt_succ_self _), by have h := hown'; rw [List.length_append] at h ⊢; exact h, hb.trans (hbl'.mono (Nat.le_succ _))⟩
        case measure => (simp [intOf] <;> omega)
      · have HM2 := Lib.hid (show T.length + onesF d (i + 1) = onesF d 0 by rw [if_neg h1] at hst; have := HT.out; omega)
        have g1 : (((bt d i : Nat) : Int) == 49) = false := by simp; omega
        have g2 : (bt d i == 49) = false := by simp; omega
        clear hst h1
        go_wp2
        go_roundw
        case rel => exact ⟨i + 1, T, by go_num, by omega, HM2, F0, R, hb⟩
        case measure => (simp [intOf] <;> omega)
    · have HE : T.length = onesF d 0 := by have h0 := onesF_end d i (by omega); have := HT.out; omega
      have hil : ¬ (i : Int) < (d.size : Int) := by omega
      have hTp : 0 < T.length := by omega
      have HEh := Lib.hid HE
      clear HE
      go_wp2_with (go_at_call 107; (with_reducible refine (l02Times_any ce _ A1 c1 T wr (Rd.of_own R) hTp hTn).mono ?_); rintro e w5 ⟨fi, L, v, rfl, hL, R5, hx5⟩; obtain ⟨A5, c5, rfl⟩ := own_form R5; have hLh := Lib.hid hL; clear hL; have F5 := F0.below hx5 F0.lt; have z0 : (_ : Option Value) = some (.int .i64 0) := F5.cell 0 (by simp); have z1 : (_ : Option Value) = some (.int .i64 0) := F5.cell 1 (by simp); have z2 : (_ : Option Value) = some (.slice none 0 0) := F5.cell 2 (by simp); have hfz := fun j => F5.free j; have hb5 := hb.trans (hx5.mono hb.size))
      refine bodyPost_ret (v := .agg #[.int .i64 ce,   .int .i64 fi, .slice A5 L.length c5]) (by simp [results, Try.results82, go_sem, World.cell?_setCell_other, z0, z1, z2]) rfl ⟨fi, L, _, rfl, hLh.out.trans HEh.out, ?_, (by with_reducible repeat (first | exact Below.refl _ _ | assumption | refine below_step ?_ (by assumption) | refine Below.drew ?_ | refine below_drewN ?_ _ | refine below_alloc ?_ _ | refine Below.setCell ?_ (by simp; try omega) _))⟩
      exact own_base (ownsRow_setCell_below (ownsRow_setCell_below (ownsRow_setCell_below R5 F0.lt _) F0.lt _) F0.lt _) hb.size
end Go.Proofs.Ytjahgknehamlpaa
namespace Go.Proofs.Ytjahgknehamlpaa
set_option linter.unusedVariables false
open Go.RowKit

theorem flatI_set : ∀ (L : List Int) (k : Nat) (x : Int), (flat fI L).set k (.int .i64 x) = flat fI (L.set k x)
  | [], _, _ => rfl
  | _ :: _, 0, _ => rfl
  | a :: L, k + 1, x => by
    show .int .i64 a :: (flat fI L).set k (.int .i64 x) = .int .i64 a :: flat fI (L.set k x)
    rw [flatI_set L k x]
/-- A flux in block f (its gaps in block b), an empty one at the start of the call, and the source. -/
structure FX (w0 W : World) (f g b c : Nat) (ce fi : Int) (L : List Int) (A : Option Addr) (n cc N : Nat) : Prop where
  Z : BX W w0.heap.size 84 [.int .i64 0, .int .i64 0, .slice none 0 0]
  F : BX W f 84 [.int .i64 ce, .int .i64 fi, .slice (some ⟨b, 0, none⟩) L.length c]
  R : World.ownsRow W (w0.heap.size + 1) 2 1 (.slice (some ⟨b, 0, none⟩) L.length c) L.length (flat fI L)
  S : SR W g A n cc N
  G : w0.grownBy W (some g)
  hg : g < w0.heap.size
  hf : w0.heap.size < f
  hb : w0.heap.size < b
  hbf : b ≠ f
section
variable {w0 W W' : World} {f g b c n cc N M : Nat} {ce fi : Int} {L : List Int} {A : Option Addr}
theorem FX.grown (X : FX w0 W f g b c ce fi L A n cc N) (h : W.grownBy W' (some g)) (S' : SR W' g A n cc M) : FX w0 W' f g b c ce fi L A n cc M :=
  ⟨BX.past X.Z h (Nat.ne_of_gt X.hg), BX.past X.F h (Nat.ne_of_gt (Nat.lt_trans X.hg X.hf)), OO.past X.R h (Nat.ne_of_gt (Nat.lt_trans X.hg X.hb)), S', gr_trans X.G h, X.hg, X.hf, X.hb, X.hbf⟩
theorem FX.al (X : FX w0 W f g b c ce fi L A n cc N) (o : Obj) : FX w0 (W.alloc o) f g b c ce fi L A n cc N :=
  ⟨X.Z.al o, X.F.al o, World.ownsRow.alloc X.R o, X.S.al o, gr_trans X.G (World.grownBy_alloc W o _), X.hg, X.hf, X.hb, X.hbf⟩
theorem FX.dr (X : FX w0 W f g b c ce fi L A n cc N) : FX w0 W.drew f g b c ce fi L A n cc N :=
  ⟨X.Z, X.F, X.R, X.S, only_drew X.G, X.hg, X.hf, X.hb, X.hbf⟩
theorem FX.below (X : FX w0 W f g b c ce fi L A n cc N) (h : Below W.heap.size W W') : FX w0 W' f g b c ce fi L A n cc N :=
  ⟨X.Z.below h X.Z.lt, X.F.below h X.F.lt, own_later X.R h (Nat.le_refl _), X.S.below h X.S.lt, gr_below X.G (h.mono X.G.size), X.hg, X.hf, X.hb, X.hbf⟩
theorem FX.more (X : FX w0 W f g b c ce fi L A n cc N) (h : N ≤ M) : FX w0 W f g b c ce fi L A n cc M :=
  ⟨X.Z, X.F, X.R, X.S.more h, X.G, X.hg, X.hf, X.hb, X.hbf⟩
theorem FX.get (X : FX w0 W f g b c ce fi L A n cc N) (i : Nat) (hi : i < L.length) : W.cell? ⟨b, i, none⟩ = some (.int .i64 L[i]) := by
  obtain ⟨b', off, e, _, hc⟩ := (Rd.of_own X.R).at_ (f := fI) (fun _ => rfl) rfl i hi
  cases e
  have hc0 := hc 0 _ (by omega) rfl
  simpa using hc0
theorem FX.free (X : FX w0 W f g b c ce fi L A n cc N) (i : Nat) : W.frozen? ⟨b, i, none⟩ = false := World.ownsRow.frozenAt X.R i
theorem FX.setL (X : FX w0 W f g b c ce fi L A n cc N) (i : Nat) (x : Int) : FX w0 (W.setCell ⟨b, i, none⟩ (.int .i64 x)) f g b c ce fi (L.set i x) A n cc N := by
  have h := World.ownsRow.stored X.R i (.int .i64 x)
  have hb := X.hb
  have hf := X.hf
  have hg := X.hg
  have hbf := X.hbf
  refine ⟨X.Z.far (by simp; omega) _, by rw [List.length_set]; exact X.F.far (by simp; omega) _, by rw [List.length_set, ← flatI_set]; exact h.1, X.S.grown h.2 (fun e => by have := Option.some.inj e; omega), gr_own X.G h.2 (fun j e => by have := Option.some.inj e; omega), hg, hf, hb, hbf⟩
theorem FX.set0 (X : FX w0 W f g b c ce fi L A n cc N) (x : Int) : FX w0 (W.setCell ⟨f, 0, none⟩ (.int .i64 x)) f g b c x fi L A n cc N :=
  ⟨X.Z.far (Nat.ne_of_lt X.hf) _, X.F.put 0 _, OO.past X.R (grownBy_set0 W f 0 _) X.hbf, X.S.grown (grownBy_set0 W f 0 _) (fun e => by have := Option.some.inj e; have h1 := X.hf; have h2 := X.hg; omega), only_setCell X.G (.inr (Nat.le_of_lt X.hf)) _, X.hg, X.hf, X.hb, X.hbf⟩
theorem FX.set1 (X : FX w0 W f g b c ce fi L A n cc N) (x : Int) : FX w0 (W.setCell ⟨f, 1, none⟩ (.int .i64 x)) f g b c ce x L A n cc N :=
  ⟨X.Z.far (Nat.ne_of_lt X.hf) _, X.F.put 1 _, OO.past X.R (grownBy_set0 W f 1 _) X.hbf, X.S.grown (grownBy_set0 W f 1 _) (fun e => by have := Option.some.inj e; have h1 := X.hf; have h2 := X.hg; omega), only_setCell X.G (.inr (Nat.le_of_lt X.hf)) _, X.hg, X.hf, X.hb, X.hbf⟩
theorem FX.all {b' c' : Nat} {ce' fi' : Int} {L' : List Int} {base : Nat} (X : FX w0 W f g b c ce fi L A n cc N) (R : World.ownsRow W base 2 1 (.slice (some ⟨b', 0, none⟩) L'.length c') L'.length (flat fI L')) (hfb : f < base) :
    FX w0 (((W.setCell ⟨f, 0, none⟩ (.int .i64 ce')).setCell ⟨f, 1, none⟩ (.int .i64 fi')).setCell ⟨f, 2, none⟩ (.slice (some ⟨b', 0, none⟩) L'.length c')) f g b' c' ce' fi' L' A n cc N := by
  have hb := X.hb
  have hf := X.hf
  have hg := X.hg
  have hbb := (World.ownsRow.lt R b' rfl).1
  have hne : b' ≠ f := by omega
  have X2 := (X.set0 ce').set1 fi'
  have R2 := OO.past (OO.past (OO.past R (grownBy_set0 W f 0 (.int .i64 ce')) hne) (grownBy_set0 _ f 1 (.int .i64 fi')) hne) (grownBy_set0 _ f 2 (.slice (some ⟨b', 0, none⟩) L'.length c')) hne
  exact ⟨X2.Z.far (by simp; omega) _, X2.F.put 2 _, own_base R2 (by omega), X2.S.grown (grownBy_set0 _ f 2 _) (fun e => by have := Option.some.inj e; omega), only_setCell X2.G (.inr (Nat.le_of_lt hf)) _, hg, hf, by omega, hne⟩
theorem set3 {w W : World} {g z base size m n cc N : Nat} {A : Option Addr} {e : TypeId} {v : Value} {xs : List Value} (hz : w.heap.size ≤ z) (S : SR W g A n cc N) (hg : w.grownBy W (some g)) (O : OO W base e size v m xs) (hzb : z < base) (hgz : z ≠ g) (u0 u1 u2 : Value) :
    World.ownsRow (((W.setCell ⟨z, 0, none⟩ u0).setCell ⟨z, 1, none⟩ u1).setCell ⟨z, 2, none⟩ u2) z e size v m xs ∧ SR (((W.setCell ⟨z, 0, none⟩ u0).setCell ⟨z, 1, none⟩ u1).setCell ⟨z, 2, none⟩ u2) g A n cc N ∧ w.grownBy (((W.setCell ⟨z, 0, none⟩ u0).setCell ⟨z, 1, none⟩ u1).setCell ⟨z, 2, none⟩ u2) (some g) := by
  have h1 : ∀ (W : World) (j : Nat) (u : Value), OO W base e size v m xs → OO (W.setCell ⟨z, j, none⟩ u) base e size v m xs := fun W j u h => ownsRow_setCell_below h hzb u
  have h2 : ∀ (W : World) (j : Nat) (u : Value), SR W g A n cc N → SR (W.setCell ⟨z, j, none⟩ u) g A n cc N := fun W j u h => h.grown (grownBy_set0 W z j u) (fun e => hgz (Option.some.inj e))
  have h3 : ∀ (W : World) (j : Nat) (u : Value), w.grownBy W (some g) → w.grownBy (W.setCell ⟨z, j, none⟩ u) (some g) := fun W j u h => only_setCell h (.inr hz) u
  exact ⟨own_base (h1 _ _ _ (h1 _ _ _ (h1 _ _ _ O))) (Nat.le_of_lt hzb), h2 _ _ _ (h2 _ _ _ (h2 _ _ _ S)), h3 _ _ _ (h3 _ _ _ (h3 _ _ _ hg))⟩
end

set_option maxRecDepth 100000 in
set_option maxHeartbeats 4000000 in
theorem l02DrawFlux_any (g n cc N B : Nat) (A : Option Addr) (l : List UInt8) (w : World) (S : SR w g A n cc N) (hn : l.length = n) (hr : Rd w B 1 A n (flat fU l)) (hBg : B ≤ g) (hB : B ≤ w.heap.size) (hN : N ≤ 600000000) (hn2 : n ≤ maxLen) :
    Calls Try.prog 52 #[.pointer (some ⟨g, 0, none⟩)] w fun e w' => ∃ (ce fi : Int) (L : List Int) (v : Value), e = .returned (.agg #[.int .i64 ce, .int .i64 fi, v]) ∧ L.length ≤ 100 ∧ w'.ownsRow w.heap.size 2 1 v L.length (flat fI L) ∧ SR w' g A n cc (N + 400) ∧ w.grownBy w' (some g) := by
  have hgl := S.lt
  have Z0 := BX.made w 84 [.int .i64 0, .int .i64 0, .slice none 0 0]
  have S1 := S.al (.cells #[.int .i64 0, .int .i64 0, .slice none 0 0] 84)
  have hg1 : w.grownBy (w.alloc (.cells #[.int .i64 0, .int .i64 0, .slice none 0 0] 84)) (some g) := World.grownBy_alloc w _ _
  have hs1 : w.heap.size + 1 ≤ (w.alloc (.cells #[.int .i64 0, .int .i64 0, .slice none 0 0] 84)).heap.size := by rw [World.size_alloc]; exact Nat.le_refl _
  have ld := l02Draw_any g n cc N B A l (w.alloc (.cells #[.int .i64 0, .int .i64 0, .slice none 0 0] 84)) S1 hn (hr.alloc hB _) hBg (by rw [World.size_alloc]; omega) (by omega) hn2
  go_enter Try.func52, Try.ntmps52
  go_upto_region 3 with (go_at_call 80; (with_reducible refine ld.mono ?_); rintro e w1 ⟨d, rfl, hd, S2, hg2⟩)
  have Z1 := BX.past Z0 hg2 (Nat.ne_of_gt hgl)
  have hs2 : w.heap.size + 1 ≤ w1.heap.size := Nat.le_trans hs1 hg2.size
  have X : FX w ((w1.alloc (.cells #[.int .i64 30] 2)).alloc (.cells #[.int .i64 10, .int .i64 5, .slice (some ⟨w1.heap.size, 0, none⟩) 1 1] 84)) (w1.heap.size + 1) g w1.heap.size 1 10 5 [30] A n cc (N + 100) :=
    ⟨(Z1.al _).al _, BX.made1 w1 _ 84 [.int .i64 10, .int .i64 5, .slice (some ⟨w1.heap.size, 0, none⟩) 1 1], World.ownsRow.alloc (World.ownsRow_lit (base := w.heap.size + 1) (e := 2) (size := 1) w1 #[.int .i64 30] 1 hs2 (by decide) rfl) _, (S2.al _).al _, gr_trans (gr_trans (gr_trans hg1 hg2) (World.grownBy_alloc w1 _ _)) (World.grownBy_alloc _ _ _), hgl, by omega, by omega, by omega⟩
  clear Z0 Z1 S1 S2 hg1 hg2 ld
  generalize (w1.alloc (.cells #[.int .i64 30] 2)).alloc (.cells #[.int .i64 10, .int .i64 5, .slice (some ⟨w1.heap.size, 0, none⟩) 1 1] 84) = w2 at X ⊢
  obtain ⟨f, hf⟩ : ∃ f, f = w1.heap.size + 1 := ⟨_, rfl⟩
  rw [show w1.heap.size + 1 = f from hf.symm] at X ⊢
  clear hf
  generalize w1.heap.size = b0 at X hs2 ⊢
  have ON := fun W => l02Ones_any d W (by omega)
  have hol := onesF_le d
  by_cases h0 : 0 < onesF d 0
  · have h0i : (0 : Int) < ((onesF d 0 : Nat) : Int) := by omega
    go_upto_region 5 with (first
      | (go_at_call 82; (with_reducible refine (l02Flux_any d ce _ (by omega) h0 hc1 hc2).mono ?_); rintro e w5 ⟨fi, L, v, rfl, hL, R5, hx5⟩; have hft := X.F.lt; replace X := X.below hx5; obtain ⟨b5, c5, rfl, hb5, hb6⟩ := World.ownsRow.form R5 (by omega); have hL0 : 0 < L.length := (by omega); have hL1 : L.length ≤ 90 := (by omega); clear hL; have q0 : (_ : Option Value) = some (.int .i64 10) := X.F.cell 0 (by simp); have q1 : (_ : Option Value) = some (.int .i64 5) := X.F.cell 1 (by simp); have q2 : (_ : Option Value) = some (.slice (some ⟨b0, 0, none⟩) ([30] : List Int).length 1) := X.F.cell 2 (by simp); have hff := fun j => X.F.free j; have X9 := X.all (ce' := ce) (fi' := fi) R5 hft)
      | (go_at_call 83; (with_reducible refine (l02DrawCell_any g n cc _ B A l _ X.S hn (grown_rd hr X.G hBg hB) hBg (Nat.le_trans hB X.G.size) (by omega) hn2).mono ?_); rintro e w4 ⟨ce, rfl, hc1, hc2, S4, hg4⟩; replace X := X.grown hg4 S4)
      | (go_at_call 81; (with_reducible refine (ON _).mono ?_); rintro e w3 ⟨rfl, hx3⟩; replace X := X.below hx3))
    clear q0 q1 q2 hff X ON hc1 hc2
    generalize ((w5.setCell ⟨f, 0, none⟩ (.int .i64 ce)).setCell ⟨f, 1, none⟩ (.int .i64 fi)).setCell ⟨f, 2, none⟩ (.slice (some ⟨b5, 0, none⟩) L.length c5) = w3 at X9 ⊢
    have X := X9
    clear X9
    have hrx : ∀ W : World, w.grownBy W (some g) → Rd W B 1 A n (flat fU l) := fun W h => grown_rd hr h hBg hB
    have hBx : ∀ W : World, w.grownBy W (some g) → B ≤ W.heap.size := fun W h => Nat.le_trans hB h.size
    have pk := pick_any 4 g n cc _ B A l _ X.S hn (hrx _ X.G) hBg (hBx _ X.G) (by omega) hn2 (by decide)
    go_wp2_with (go_at_call 38; (with_reducible refine pk.mono ?_); rintro e w6 ⟨x, rfl, hx0, hx1, S6, hg6⟩; replace X := X.grown hg6 S6; obtain ⟨k, rfl⟩ : ∃ k : Nat, x = (k : Int) := ⟨x.toNat, by omega⟩; have hk : k ≤ 3 := (by omega))
    clear pk S6 hg6 hx0 hx1
    go_loopw [5] (fun a wr => ∃ (k b c : Nat) (ce fi : Int) (L : List Int), a = .int .i64 (k : Int) ∧ k ≤ 3 ∧ 0 < L.length ∧ L.length ≤ 90 ∧ FX w wr f g b c ce fi L A n cc (N + 150 + 10 * (3 - k))) (fun a _ => match a with | .int _ k => k.toNat | _ => 0)
    case atStart => exact ⟨k, _, _, _, _, _, rfl, hk, hL0, hL1, X.more (by omega)⟩
    case round =>
      obtain ⟨k, b, c, ce, fi, L, rfl, hk, hL0, hL1, X⟩ := hrel
      have hLi : (0 : Int) < (L.length : Int) := by omega
      cases k with
      | succ k =>
        have hk0 : (0 : Int) < ((k + 1 : Nat) : Int) := by omega
        have hwk : IntKind.i64.wrap (((k + 1 : Nat) : Int) - 1) = (k : Int) := by rw [IntWalk.i64_in _ (by omega)]; omega
        have f2 : (_ : Option Value) = some (.slice (some ⟨b, 0, none⟩) L.length c) := X.F.cell 2 (by simp)
        have pk := pick_any (L.length : Int) g n cc _ B A l _ X.S hn (hrx _ X.G) hBg (hBx _ X.G) (by omega) hn2 (by omega)
        go_upto_region 9 with (go_at_call 38; (with_reducible refine pk.mono ?_); rintro e w5 ⟨x, rfl, hx0, hx1, S5, hg5⟩; replace X := X.grown hg5 S5; obtain ⟨i, rfl⟩ : ∃ i : Nat, x = (i : Int) := ⟨x.toNat, by omega⟩; have hi : i < L.length := (by omega))
        clear f2 pk S5 hg5 hx0 hx1
        have hii : (i : Int) < (L.length : Int) := by omega
        have X5 := X.dr
        have f2 : (World.drew w5).cell? _ = some (.slice (some ⟨b, 0, none⟩) L.length c) := X5.F.cell 2 (by simp)
        have ci := X5.get i hi
        have pk := pick_any 5 g n cc _ B A l _ X5.S hn (hrx _ X5.G) hBg (hBx _ X5.G) (by omega) hn2 (by decide)
        obtain ⟨q, hq⟩ : ∃ q, L[i] = q := ⟨_, rfl⟩
        rw [hq] at ci
        have hqh := Lib.hid hq
        clear hq
        go_region_law (go_simp; (go_at_call 38; (with_reducible refine pk.mono ?_); rintro e w6 ⟨y, rfl, hy0, hy1, S6, hg6⟩; have X6 := X5.grown hg6 S6; have g2 : (_ : Option Value) = some (.slice (some ⟨b, 0, none⟩) L.length c) := X6.F.cell 2 (by simp); have ci6 := X6.get i hi; rw [hqh.out] at ci6; have hfi := X6.free i; have hwy : IntKind.i64.wrap (y - 2) = y - 2 := IntWalk.i64_in _ (by omega)))
        all_goals
          clear f2 ci pk
          go_wp2
          go_roundw
          case rel => exact ⟨k, b, c, ce, fi, L.set i (wrap64 (q + (y - 2))), rfl, by omega, by rw [List.length_set]; omega, by rw [List.length_set]; omega, (X6.setL i _).more (by omega)⟩
          case measure => show k < k + 1; omega
      | zero =>
        have pk := pick_any 20 g n cc _ B A l _ X.S hn (hrx _ X.G) hBg (hBx _ X.G) (by omega) hn2 (by decide)
        go_upto_region 11 with (go_at_call 38; (with_reducible refine pk.mono ?_); rintro e w7 ⟨x, rfl, hx0, hx1, S7, hg7⟩; replace X := X.grown hg7 S7)
        clear pk S7 hg7 hk
        have hfl := X.hf
        have hbl := X.hb
        have hbf := X.hbf
        have f0 : (_ : Option Value) = some (.int .i64 ce) := X.F.cell 0 (by simp)
        have f1 : (_ : Option Value) = some (.int .i64 fi) := X.F.cell 1 (by simp)
        have f2 : (_ : Option Value) = some (.slice (some ⟨b, 0, none⟩) L.length c) := X.F.cell 2 (by simp)
        have hff := fun j => X.F.free j
        have z0 : (_ : Option Value) = some (.int .i64 0) := X.Z.cell 0 (by simp)
        have z1 : (_ : Option Value) = some (.int .i64 0) := X.Z.cell 1 (by simp)
        have z2 : (_ : Option Value) = some (.slice none 0 0) := X.Z.cell 2 (by simp)
        have hfz := fun j => X.Z.free j
        have hx : x = 0 ∨ x = 1 ∨ x = 2 ∨ x = 3 ∨ 4 ≤ x := by omega
        rcases hx with rfl | rfl | rfl | rfl | hx
        · have am := among_any [3, 201, 0] w7.heap.size 3 3 rfl g n cc _ B A l (w7.alloc (.cells #[.int .i64 3, .int .i64 201, .int .i64 0] 2)) (X.al (.cells #[.int .i64 3, .int .i64 201, .int .i64 0] 2)).S hn (hrx _ (X.al (.cells #[.int .i64 3, .int .i64 201, .int .i64 0] 2)).G) hBg (hBx _ (X.al (.cells #[.int .i64 3, .int .i64 201, .int .i64 0] 2)).G) (by omega) hn2 (by simp) (by simp) (CP.made w7 [.int .i64 3, .int .i64 201, .int .i64 0] 2) (by have := X.S.lt; omega)
          go_wp2_with (go_at_call 53; (with_reducible refine am.mono ?_); rintro e w8 ⟨y, rfl, hy, S8, hg8⟩; clear f0 f1 f2 hff z0 z1 z2 hfz; have X8 := (X.al _).grown hg8 S8; have c0 : (_ : Option Value) = some (.int .i64 ce) := X8.F.cell 0 (by simp); have c0f := X8.F.free 0; have X9 := X8.set0 y; have f0 : (_ : Option Value) = some (.int .i64 y) := X9.F.cell 0 (by simp); have f1 : (_ : Option Value) = some (.int .i64 fi) := X9.F.cell 1 (by simp); have f2 : (_ : Option Value) = some (.slice (some ⟨b, 0, none⟩) (L).length c) := X9.F.cell 2 (by simp); have z0 : (_ : Option Value) = some (.int .i64 0) := X9.Z.cell 0 (by simp); have z1 : (_ : Option Value) = some (.int .i64 0) := X9.Z.cell 1 (by simp); have z2 : (_ : Option Value) = some (.slice none 0 0) := X9.Z.cell 2 (by simp); have hfz := fun j => X9.Z.free j)
          have E := set3 (z := w.heap.size) (Nat.le_refl _) X9.S X9.G X9.R (Nat.lt_succ_self _) (Nat.ne_of_gt hgl) (.int .i64 y) (.int .i64 fi) (.slice (some ⟨b, 0, none⟩) (L).length c)
          refine bodyPost_ret (v := .agg #[.int .i64 y, .int .i64 fi, .slice (some ⟨b, 0, none⟩) (L).length c]) (by simp [results, Try.results52, go_sem, World.cell?_setCell_other, z0, z1, z2]) rfl ⟨y, fi, L, _, rfl, by omega, E.1, E.2.1.more (by omega), E.2.2⟩
        · obtain ⟨j, hj⟩ : ∃ j, j + 1 = L.length := ⟨L.length - 1, by omega⟩
          have hjl : (j : Int) < (L.length : Int) := by omega
          have hwj : IntKind.i64.wrap ((L.length : Int) - 1) = (j : Int) := by rw [IntWalk.i64_in _ (by omega)]; omega
          have cj := X.get j (by omega)
          obtain ⟨q, hq⟩ : ∃ q, L[j] = q := ⟨_, rfl⟩
          rw [hq] at cj
          clear hq
          have am := among_any [-1, 1000, q] w7.heap.size 3 3 rfl g n cc _ B A l (w7.alloc (.cells #[.int .i64 (-1), .int .i64 1000, .int .i64 q] 2)) (X.al (.cells #[.int .i64 (-1), .int .i64 1000, .int .i64 q] 2)).S hn (hrx _ (X.al (.cells #[.int .i64 (-1), .int .i64 1000, .int .i64 q] 2)).G) hBg (hBx _ (X.al (.cells #[.int .i64 (-1), .int .i64 1000, .int .i64 q] 2)).G) (by omega) hn2 (by simp) (by simp) (CP.made w7 [.int .i64 (-1), .int .i64 1000, .int .i64 q] 2) (by have := X.S.lt; omega)
          go_wp2_with (go_at_call 53; (with_reducible refine am.mono ?_); rintro e w8 ⟨y, rfl, hy, S8, hg8⟩; clear f0 f1 f2 hff z0 z1 z2 hfz; have X8 := (X.al _).grown hg8 S8; have c0 : (_ : Option Value) = some (.int .i64 fi) := X8.F.cell 1 (by simp); have c0f := X8.F.free 1; have X9 := X8.set1 y; have f0 : (_ : Option Value) = some (.int .i64 ce) := X9.F.cell 0 (by simp); have f1 : (_ : Option Value) = some (.int .i64 y) := X9.F.cell 1 (by simp); have f2 : (_ : Option Value) = some (.slice (some ⟨b, 0, none⟩) (L).length c) := X9.F.cell 2 (by simp); have z0 : (_ : Option Value) = some (.int .i64 0) := X9.Z.cell 0 (by simp); have z1 : (_ : Option Value) = some (.int .i64 0) := X9.Z.cell 1 (by simp); have z2 : (_ : Option Value) = some (.slice none 0 0) := X9.Z.cell 2 (by simp); have hfz := fun j => X9.Z.free j)
          have E := set3 (z := w.heap.size) (Nat.le_refl _) X9.S X9.G X9.R (Nat.lt_succ_self _) (Nat.ne_of_gt hgl) (.int .i64 ce) (.int .i64 y) (.slice (some ⟨b, 0, none⟩) (L).length c)
          refine bodyPost_ret (v := .agg #[.int .i64 ce, .int .i64 y, .slice (some ⟨b, 0, none⟩) (L).length c]) (by simp [results, Try.results52, go_sem, World.cell?_setCell_other, z0, z1, z2]) rfl ⟨ce, y, L, _, rfl, by omega, E.1, E.2.1.more (by omega), E.2.2⟩
        · go_upto_region 16 with fail
          clear f0 f1 f2 hff z0 z1 z2 hfz
          have d2 : (World.drew w7).cell? _ = some (.slice (some ⟨b, 0, none⟩) L.length c) := X.dr.F.cell 2 (by simp)
          have e2 := fun (o : Obj) => (show (_ : Option Value) = some (.slice (some ⟨b, 0, none⟩) L.length c) from (X.al o).dr.F.cell 2 (by simp))
          have am := among_any [0, -5, 2000000, 2000001] w7.heap.size 4 4 rfl g n cc _ B A l ((w7.alloc (.cells #[.int .i64 0, .int .i64 (-5), .int .i64 2000000, .int .i64 2000001] 2)).drew) (X.al (.cells #[.int .i64 0, .int .i64 (-5), .int .i64 2000000, .int .i64 2000001] 2)).dr.S hn (hrx _ (X.al (.cells #[.int .i64 0, .int .i64 (-5), .int .i64 2000000, .int .i64 2000001] 2)).dr.G) hBg (hBx _ (X.al (.cells #[.int .i64 0, .int .i64 (-5), .int .i64 2000000, .int .i64 2000001] 2)).dr.G) (by omega) hn2 (by simp) (by simp) (CP.dr (CP.made w7 [.int .i64 0, .int .i64 (-5), .int .i64 2000000, .int .i64 2000001] 2)) (by have := X.S.lt; omega)
          go_region_law (go_simp; (go_at_call 53; (with_reducible refine am.mono ?_); rintro e w8 ⟨y, rfl, hy, S8, hg8⟩; have X8 := (X.al _).dr.grown hg8 S8; have g2 : (_ : Option Value) = some (.slice (some ⟨b, 0, none⟩) L.length c) := X8.F.cell 2 (by simp); have c0 := X8.get 0 hL0; have c0f := X8.free 0))
          all_goals
            have X9 := X8.setL 0 y
            obtain ⟨L2, hL2⟩ : ∃ L2, L2 = L.set 0 y := ⟨_, rfl⟩
            rw [← hL2] at X9
            have H9 := Lib.hid (show L2.length ≤ 100 by rw [hL2, List.length_set]; omega)
            clear hL2
            clear d2 e2 g2 c0 c0f
            generalize w8.setCell ⟨b, 0, none⟩ (.int .i64 y) = w9 at X9 ⊢
            have f0 : (_ : Option Value) = some (.int .i64 ce) := X9.F.cell 0 (by simp)
            have f1 : (_ : Option Value) = some (.int .i64 fi) := X9.F.cell 1 (by simp)
            have f2 : (_ : Option Value) = some (.slice (some ⟨b, 0, none⟩) (L2).length c) := X9.F.cell 2 (by simp)
            have z0 : (_ : Option Value) = some (.int .i64 0) := X9.Z.cell 0 (by simp)
            have z1 : (_ : Option Value) = some (.int .i64 0) := X9.Z.cell 1 (by simp)
            have z2 : (_ : Option Value) = some (.slice none 0 0) := X9.Z.cell 2 (by simp)
            have hfz := fun j => X9.Z.free j
            go_wp2
            have E := set3 (z := w.heap.size) (Nat.le_refl _) X9.S X9.G X9.R (Nat.lt_succ_self _) (Nat.ne_of_gt hgl) (.int .i64 ce) (.int .i64 fi) (.slice (some ⟨b, 0, none⟩) (L2).length c)
            refine bodyPost_ret (v := .agg #[.int .i64 ce, .int .i64 fi, .slice (some ⟨b, 0, none⟩) (L2).length c]) (by simp [results, Try.results52, go_sem, World.cell?_setCell_other, z0, z1, z2]) rfl ⟨ce, fi, L2, _, rfl, by exact H9.out, E.1, E.2.1.more (by omega), E.2.2⟩
        · have F9 := X.F.put 2 (.slice none 0 0)
          have Z9 := X.Z.far (a := ⟨f, 2, none⟩) (Nat.ne_of_lt hfl) (.slice none 0 0)
          have S9 := X.S.grown (grownBy_set0 w7 f 2 (.slice none 0 0)) (fun e => by have := Option.some.inj e; omega)
          have G9 := only_setCell (p := ⟨f, 2, none⟩) X.G (.inr (Nat.le_of_lt hfl)) (.slice none 0 0)
          have y0 : (_ : Option Value) = some (.int .i64 ce) := F9.cell 0 (by simp)
          have y1 : (_ : Option Value) = some (.int .i64 fi) := F9.cell 1 (by simp)
          have y2 : (_ : Option Value) = some (.slice none 0 0) := F9.cell 2 (by simp)
          have x0 : (_ : Option Value) = some (.int .i64 0) := Z9.cell 0 (by simp)
          have x1 : (_ : Option Value) = some (.int .i64 0) := Z9.cell 1 (by simp)
          have x2 : (_ : Option Value) = some (.slice none 0 0) := Z9.cell 2 (by simp)
          have hfx := fun j => Z9.free j
          go_wp2
          have E := set3 (z := w.heap.size) (Nat.le_refl _) S9 G9 (World.ownsRow_nil _ (w.heap.size + 1) 2 1) (Nat.lt_succ_self _) (Nat.ne_of_gt hgl) (.int .i64 ce) (.int .i64 fi) (.slice none 0 0)
          refine bodyPost_ret (v := .agg #[.int .i64 ce, .int .i64 fi, .slice none 0 0]) (by simp [results, Try.results52, go_sem, World.cell?_setCell_other, x0, x1, x2]) rfl ⟨ce, fi, [], _, rfl, by simp, E.1, E.2.1.more (by omega), E.2.2⟩
        · have n0 : (x == 0) = false := by simp; omega
          have n1 : (x == 1) = false := by simp; omega
          have n2 : (x == 2) = false := by simp; omega
          have n3 : (x == 3) = false := by simp; omega
          have X9 := X
          clear f0 f1 f2 hff z0 z1 z2 hfz
          have f0 : (_ : Option Value) = some (.int .i64 ce) := X9.F.cell 0 (by simp)
          have f1 : (_ : Option Value) = some (.int .i64 fi) := X9.F.cell 1 (by simp)
          have f2 : (_ : Option Value) = some (.slice (some ⟨b, 0, none⟩) (L).length c) := X9.F.cell 2 (by simp)
          have z0 : (_ : Option Value) = some (.int .i64 0) := X9.Z.cell 0 (by simp)
          have z1 : (_ : Option Value) = some (.int .i64 0) := X9.Z.cell 1 (by simp)
          have z2 : (_ : Option Value) = some (.slice none 0 0) := X9.Z.cell 2 (by simp)
          have hfz := fun j => X9.Z.free j
          go_wp2
          have E := set3 (z := w.heap.size) (Nat.le_refl _) X9.S X9.G X9.R (Nat.lt_succ_self _) (Nat.ne_of_gt hgl) (.int .i64 ce) (.int .i64 fi) (.slice (some ⟨b, 0, none⟩) (L).length c)
          refine bodyPost_ret (v := .agg #[.int .i64 ce, .int .i64 fi, .slice (some ⟨b, 0, none⟩) (L).length c]) (by simp [results, Try.results52, go_sem, World.cell?_setCell_other, z0, z1, z2]) rfl ⟨ce, fi, L, _, rfl, by omega, E.1, E.2.1.more (by omega), E.2.2⟩
  have h0i : ¬ (0 : Int) < ((onesF d 0 : Nat) : Int) := by omega
  go_upto_region 5 with (go_at_call 81; (with_reducible refine (ON _).mono ?_); rintro e w3 ⟨rfl, hx3⟩; replace X := X.below hx3)
  have hL0 : 0 < ([30] : List Int).length := by decide
  have hL1 : ([30] : List Int).length ≤ 90 := by decide
  have hrx : ∀ W : World, w.grownBy W (some g) → Rd W B 1 A n (flat fU l) := fun W h => grown_rd hr h hBg hB
  have hBx : ∀ W : World, w.grownBy W (some g) → B ≤ W.heap.size := fun W h => Nat.le_trans hB h.size
  have pk := pick_any 4 g n cc _ B A l _ X.S hn (hrx _ X.G) hBg (hBx _ X.G) (by omega) hn2 (by decide)
  go_wp2_with (go_at_call 38; (with_reducible refine pk.mono ?_); rintro e w6 ⟨x, rfl, hx0, hx1, S6, hg6⟩; replace X := X.grown hg6 S6; obtain ⟨k, rfl⟩ : ∃ k : Nat, x = (k : Int) := ⟨x.toNat, by omega⟩; have hk : k ≤ 3 := (by omega))
  clear pk S6 hg6 hx0 hx1
  go_loopw [5] (fun a wr => ∃ (k b c : Nat) (ce fi : Int) (L : List Int), a = .int .i64 (k : Int) ∧ k ≤ 3 ∧ 0 < L.length ∧ L.length ≤ 90 ∧ FX w wr f g b c ce fi L A n cc (N + 150 + 10 * (3 - k))) (fun a _ => match a with | .int _ k => k.toNat | _ => 0)
  case atStart => exact ⟨k, _, _, _, _, _, rfl, hk, hL0, hL1, X.more (by omega)⟩
  case round =>
    obtain ⟨k, b, c, ce, fi, L, rfl, hk, hL0, hL1, X⟩ := hrel
    have hLi : (0 : Int) < (L.length : Int) := by omega
    cases k with
    | succ k =>
      have hk0 : (0 : Int) < ((k + 1 : Nat) : Int) := by omega
      have hwk : IntKind.i64.wrap (((k + 1 : Nat) : Int) - 1) = (k : Int) := by rw [IntWalk.i64_in _ (by omega)]; omega
      have f2 : (_ : Option Value) = some (.slice (some ⟨b, 0, none⟩) L.length c) := X.F.cell 2 (by simp)
      have pk := pick_any (L.length : Int) g n cc _ B A l _ X.S hn (hrx _ X.G) hBg (hBx _ X.G) (by omega) hn2 (by omega)
      go_upto_region 9 with (go_at_call 38; (with_reducible refine pk.mono ?_); rintro e w5 ⟨x, rfl, hx0, hx1, S5, hg5⟩; replace X := X.grown hg5 S5; obtain ⟨i, rfl⟩ : ∃ i : Nat, x = (i : Int) := ⟨x.toNat, by omega⟩; have hi : i < L.length := (by omega))
      clear f2 pk S5 hg5 hx0 hx1
      have hii : (i : Int) < (L.length : Int) := by omega
      have X5 := X.dr
      have f2 : (World.drew w5).cell? _ = some (.slice (some ⟨b, 0, none⟩) L.length c) := X5.F.cell 2 (by simp)
      have ci := X5.get i hi
      have pk := pick_any 5 g n cc _ B A l _ X5.S hn (hrx _ X5.G) hBg (hBx _ X5.G) (by omega) hn2 (by decide)
      obtain ⟨q, hq⟩ : ∃ q, L[i] = q := ⟨_, rfl⟩
      rw [hq] at ci
      have hqh := Lib.hid hq
      clear hq
      go_region_law (go_simp; (go_at_call 38; (with_reducible refine pk.mono ?_); rintro e w6 ⟨y, rfl, hy0, hy1, S6, hg6⟩; have X6 := X5.grown hg6 S6; have g2 : (_ : Option Value) = some (.slice (some ⟨b, 0, none⟩) L.length c) := X6.F.cell 2 (by simp); have ci6 := X6.get i hi; rw [hqh.out] at ci6; have hfi := X6.free i; have hwy : IntKind.i64.wrap (y - 2) = y - 2 := IntWalk.i64_in _ (by omega)))
      all_goals
        clear f2 ci pk
        go_wp2
        go_roundw
        case rel => exact ⟨k, b, c, ce, fi, L.set i (wrap64 (q + (y - 2))), rfl, by omega, by rw [List.length_set]; omega, by rw [List.length_set]; omega, (X6.setL i _).more (by omega)⟩
        case measure => show k < k + 1; omega
    | zero =>
      have pk := pick_any 20 g n cc _ B A l _ X.S hn (hrx _ X.G) hBg (hBx _ X.G) (by omega) hn2 (by decide)
      go_upto_region 11 with (go_at_call 38; (with_reducible refine pk.mono ?_); rintro e w7 ⟨x, rfl, hx0, hx1, S7, hg7⟩; replace X := X.grown hg7 S7)
      clear pk S7 hg7 hk
      have hfl := X.hf
      have hbl := X.hb
      have hbf := X.hbf
      have f0 : (_ : Option Value) = some (.int .i64 ce) := X.F.cell 0 (by simp)
      have f1 : (_ : Option Value) = some (.int .i64 fi) := X.F.cell 1 (by simp)
      have f2 : (_ : Option Value) = some (.slice (some ⟨b, 0, none⟩) L.length c) := X.F.cell 2 (by simp)
      have hff := fun j => X.F.free j
      have z0 : (_ : Option Value) = some (.int .i64 0) := X.Z.cell 0 (by simp)
      have z1 : (_ : Option Value) = some (.int .i64 0) := X.Z.cell 1 (by simp)
      have z2 : (_ : Option Value) = some (.slice none 0 0) := X.Z.cell 2 (by simp)
      have hfz := fun j => X.Z.free j
      have hx : x = 0 ∨ x = 1 ∨ x = 2 ∨ x = 3 ∨ 4 ≤ x := by omega
      rcases hx with rfl | rfl | rfl | rfl | hx
      · have am := among_any [3, 201, 0] w7.heap.size 3 3 rfl g n cc _ B A l (w7.alloc (.cells #[.int .i64 3, .int .i64 201, .int .i64 0] 2)) (X.al (.cells #[.int .i64 3, .int .i64 201, .int .i64 0] 2)).S hn (hrx _ (X.al (.cells #[.int .i64 3, .int .i64 201, .int .i64 0] 2)).G) hBg (hBx _ (X.al (.cells #[.int .i64 3, .int .i64 201, .int .i64 0] 2)).G) (by omega) hn2 (by simp) (by simp) (CP.made w7 [.int .i64 3, .int .i64 201, .int .i64 0] 2) (by have := X.S.lt; omega)
        go_wp2_with (go_at_call 53; (with_reducible refine am.mono ?_); rintro e w8 ⟨y, rfl, hy, S8, hg8⟩; clear f0 f1 f2 hff z0 z1 z2 hfz; have X8 := (X.al _).grown hg8 S8; have c0 : (_ : Option Value) = some (.int .i64 ce) := X8.F.cell 0 (by simp); have c0f := X8.F.free 0; have X9 := X8.set0 y; have f0 : (_ : Option Value) = some (.int .i64 y) := X9.F.cell 0 (by simp); have f1 : (_ : Option Value) = some (.int .i64 fi) := X9.F.cell 1 (by simp); have f2 : (_ : Option Value) = some (.slice (some ⟨b, 0, none⟩) (L).length c) := X9.F.cell 2 (by simp); have z0 : (_ : Option Value) = some (.int .i64 0) := X9.Z.cell 0 (by simp); have z1 : (_ : Option Value) = some (.int .i64 0) := X9.Z.cell 1 (by simp); have z2 : (_ : Option Value) = some (.slice none 0 0) := X9.Z.cell 2 (by simp); have hfz := fun j => X9.Z.free j)
        have E := set3 (z := w.heap.size) (Nat.le_refl _) X9.S X9.G X9.R (Nat.lt_succ_self _) (Nat.ne_of_gt hgl) (.int .i64 y) (.int .i64 fi) (.slice (some ⟨b, 0, none⟩) (L).length c)
        refine bodyPost_ret (v := .agg #[.int .i64 y, .int .i64 fi, .slice (some ⟨b, 0, none⟩) (L).length c]) (by simp [results, Try.results52, go_sem, World.cell?_setCell_other, z0, z1, z2]) rfl ⟨y, fi, L, _, rfl, by omega, E.1, E.2.1.more (by omega), E.2.2⟩
      · obtain ⟨j, hj⟩ : ∃ j, j + 1 = L.length := ⟨L.length - 1, by omega⟩
        have hjl : (j : Int) < (L.length : Int) := by omega
        have hwj : IntKind.i64.wrap ((L.length : Int) - 1) = (j : Int) := by rw [IntWalk.i64_in _ (by omega)]; omega
        have cj := X.get j (by omega)
        obtain ⟨q, hq⟩ : ∃ q, L[j] = q := ⟨_, rfl⟩
        rw [hq] at cj
        clear hq
        have am := among_any [-1, 1000, q] w7.heap.size 3 3 rfl g n cc _ B A l (w7.alloc (.cells #[.int .i64 (-1), .int .i64 1000, .int .i64 q] 2)) (X.al (.cells #[.int .i64 (-1), .int .i64 1000, .int .i64 q] 2)).S hn (hrx _ (X.al (.cells #[.int .i64 (-1), .int .i64 1000, .int .i64 q] 2)).G) hBg (hBx _ (X.al (.cells #[.int .i64 (-1), .int .i64 1000, .int .i64 q] 2)).G) (by omega) hn2 (by simp) (by simp) (CP.made w7 [.int .i64 (-1), .int .i64 1000, .int .i64 q] 2) (by have := X.S.lt; omega)
        go_wp2_with (go_at_call 53; (with_reducible refine am.mono ?_); rintro e w8 ⟨y, rfl, hy, S8, hg8⟩; clear f0 f1 f2 hff z0 z1 z2 hfz; have X8 := (X.al _).grown hg8 S8; have c0 : (_ : Option Value) = some (.int .i64 fi) := X8.F.cell 1 (by simp); have c0f := X8.F.free 1; have X9 := X8.set1 y; have f0 : (_ : Option Value) = some (.int .i64 ce) := X9.F.cell 0 (by simp); have f1 : (_ : Option Value) = some (.int .i64 y) := X9.F.cell 1 (by simp); have f2 : (_ : Option Value) = some (.slice (some ⟨b, 0, none⟩) (L).length c) := X9.F.cell 2 (by simp); have z0 : (_ : Option Value) = some (.int .i64 0) := X9.Z.cell 0 (by simp); have z1 : (_ : Option Value) = some (.int .i64 0) := X9.Z.cell 1 (by simp); have z2 : (_ : Option Value) = some (.slice none 0 0) := X9.Z.cell 2 (by simp); have hfz := fun j => X9.Z.free j)
        have E := set3 (z := w.heap.size) (Nat.le_refl _) X9.S X9.G X9.R (Nat.lt_succ_self _) (Nat.ne_of_gt hgl) (.int .i64 ce) (.int .i64 y) (.slice (some ⟨b, 0, none⟩) (L).length c)
        refine bodyPost_ret (v := .agg #[.int .i64 ce, .int .i64 y, .slice (some ⟨b, 0, none⟩) (L).length c]) (by simp [results, Try.results52, go_sem, World.cell?_setCell_other, z0, z1, z2]) rfl ⟨ce, y, L, _, rfl, by omega, E.1, E.2.1.more (by omega), E.2.2⟩
      · go_upto_region 16 with fail
        clear f0 f1 f2 hff z0 z1 z2 hfz
        have d2 : (World.drew w7).cell? _ = some (.slice (some ⟨b, 0, none⟩) L.length c) := X.dr.F.cell 2 (by simp)
        have e2 := fun (o : Obj) => (show (_ : Option Value) = some (.slice (some ⟨b, 0, none⟩) L.length c) from (X.al o).dr.F.cell 2 (by simp))
        have am := among_any [0, -5, 2000000, 2000001] w7.heap.size 4 4 rfl g n cc _ B A l ((w7.alloc (.cells #[.int .i64 0, .int .i64 (-5), .int .i64 2000000, .int .i64 2000001] 2)).drew) (X.al (.cells #[.int .i64 0, .int .i64 (-5), .int .i64 2000000, .int .i64 2000001] 2)).dr.S hn (hrx _ (X.al (.cells #[.int .i64 0, .int .i64 (-5), .int .i64 2000000, .int .i64 2000001] 2)).dr.G) hBg (hBx _ (X.al (.cells #[.int .i64 0, .int .i64 (-5), .int .i64 2000000, .int .i64 2000001] 2)).dr.G) (by omega) hn2 (by simp) (by simp) (CP.dr (CP.made w7 [.int .i64 0, .int .i64 (-5), .int .i64 2000000, .int .i64 2000001] 2)) (by have := X.S.lt; omega)
        go_region_law (go_simp; (go_at_call 53; (with_reducible refine am.mono ?_); rintro e w8 ⟨y, rfl, hy, S8, hg8⟩; have X8 := (X.al _).dr.grown hg8 S8; have g2 : (_ : Option Value) = some (.slice (some ⟨b, 0, none⟩) L.length c) := X8.F.cell 2 (by simp); have c0 := X8.get 0 hL0; have c0f := X8.free 0))
        all_goals
          have X9 := X8.setL 0 y
          obtain ⟨L2, hL2⟩ : ∃ L2, L2 = L.set 0 y := ⟨_, rfl⟩
          rw [← hL2] at X9
          have H9 := Lib.hid (show L2.length ≤ 100 by rw [hL2, List.length_set]; omega)
          clear hL2
          clear d2 e2 g2 c0 c0f
          generalize w8.setCell ⟨b, 0, none⟩ (.int .i64 y) = w9 at X9 ⊢
          have f0 : (_ : Option Value) = some (.int .i64 ce) := X9.F.cell 0 (by simp)
          have f1 : (_ : Option Value) = some (.int .i64 fi) := X9.F.cell 1 (by simp)
          have f2 : (_ : Option Value) = some (.slice (some ⟨b, 0, none⟩) (L2).length c) := X9.F.cell 2 (by simp)
          have z0 : (_ : Option Value) = some (.int .i64 0) := X9.Z.cell 0 (by simp)
          have z1 : (_ : Option Value) = some (.int .i64 0) := X9.Z.cell 1 (by simp)
          have z2 : (_ : Option Value) = some (.slice none 0 0) := X9.Z.cell 2 (by simp)
          have hfz := fun j => X9.Z.free j
          go_wp2
          have E := set3 (z := w.heap.size) (Nat.le_refl _) X9.S X9.G X9.R (Nat.lt_succ_self _) (Nat.ne_of_gt hgl) (.int .i64 ce) (.int .i64 fi) (.slice (some ⟨b, 0, none⟩) (L2).length c)
          refine bodyPost_ret (v := .agg #[.int .i64 ce, .int .i64 fi, .slice (some ⟨b, 0, none⟩) (L2).length c]) (by simp [results, Try.results52, go_sem, World.cell?_setCell_other, z0, z1, z2]) rfl ⟨ce, fi, L2, _, rfl, by exact H9.out, E.1, E.2.1.more (by omega), E.2.2⟩
      · have F9 := X.F.put 2 (.slice none 0 0)
        have Z9 := X.Z.far (a := ⟨f, 2, none⟩) (Nat.ne_of_lt hfl) (.slice none 0 0)
        have S9 := X.S.grown (grownBy_set0 w7 f 2 (.slice none 0 0)) (fun e => by have := Option.some.inj e; omega)
        have G9 := only_setCell (p := ⟨f, 2, none⟩) X.G (.inr (Nat.le_of_lt hfl)) (.slice none 0 0)
        have y0 : (_ : Option Value) = some (.int .i64 ce) := F9.cell 0 (by simp)
        have y1 : (_ : Option Value) = some (.int .i64 fi) := F9.cell 1 (by simp)
        have y2 : (_ : Option Value) = some (.slice none 0 0) := F9.cell 2 (by simp)
        have x0 : (_ : Option Value) = some (.int .i64 0) := Z9.cell 0 (by simp)
        have x1 : (_ : Option Value) = some (.int .i64 0) := Z9.cell 1 (by simp)
        have x2 : (_ : Option Value) = some (.slice none 0 0) := Z9.cell 2 (by simp)
        have hfx := fun j => Z9.free j
        go_wp2
        have E := set3 (z := w.heap.size) (Nat.le_refl _) S9 G9 (World.ownsRow_nil _ (w.heap.size + 1) 2 1) (Nat.lt_succ_self _) (Nat.ne_of_gt hgl) (.int .i64 ce) (.int .i64 fi) (.slice none 0 0)
        refine bodyPost_ret (v := .agg #[.int .i64 ce, .int .i64 fi, .slice none 0 0]) (by simp [results, Try.results52, go_sem, World.cell?_setCell_other, x0, x1, x2]) rfl ⟨ce, fi, [], _, rfl, by simp, E.1, E.2.1.more (by omega), E.2.2⟩
      · have n0 : (x == 0) = false := by simp; omega
        have n1 : (x == 1) = false := by simp; omega
        have n2 : (x == 2) = false := by simp; omega
        have n3 : (x == 3) = false := by simp; omega
        have X9 := X
        clear f0 f1 f2 hff z0 z1 z2 hfz
        have f0 : (_ : Option Value) = some (.int .i64 ce) := X9.F.cell 0 (by simp)
        have f1 : (_ : Option Value) = some (.int .i64 fi) := X9.F.cell 1 (by simp)
        have f2 : (_ : Option Value) = some (.slice (some ⟨b, 0, none⟩) (L).length c) := X9.F.cell 2 (by simp)
        have z0 : (_ : Option Value) = some (.int .i64 0) := X9.Z.cell 0 (by simp)
        have z1 : (_ : Option Value) = some (.int .i64 0) := X9.Z.cell 1 (by simp)
        have z2 : (_ : Option Value) = some (.slice none 0 0) := X9.Z.cell 2 (by simp)
        have hfz := fun j => X9.Z.free j
        go_wp2
        have E := set3 (z := w.heap.size) (Nat.le_refl _) X9.S X9.G X9.R (Nat.lt_succ_self _) (Nat.ne_of_gt hgl) (.int .i64 ce) (.int .i64 fi) (.slice (some ⟨b, 0, none⟩) (L).length c)
        refine bodyPost_ret (v := .agg #[.int .i64 ce, .int .i64 fi, .slice (some ⟨b, 0, none⟩) (L).length c]) (by simp [results, Try.results52, go_sem, World.cell?_setCell_other, z0, z1, z2]) rfl ⟨ce, fi, L, _, rfl, by omega, E.1, E.2.1.more (by omega), E.2.2⟩
end Go.Proofs.Ytjahgknehamlpaa
namespace Go.Proofs.Ytjahgknehamlpaa
set_option linter.unusedVariables false
open Go.RowKit

theorem MarkB.grown {w w' : World} {m g : Nat} {e : TypeId} {l : List UInt8} (h : MarkB w m e l) (hg : w.grownBy w' (some g)) (hne : m ≠ g) : MarkB w' m e l := by
  have hlt := h.lt
  unfold MarkB at h ⊢
  rwa [hg.block m hlt (fun e => hne (Option.some.inj e))]
theorem xor_all : ∀ n : Fin 256, ∀ k : Fin 3, bits .xor .u8 (n.val : Int) (k.val : Int) = ((n.val ^^^ k.val : Nat) : Int) ∧ n.val ^^^ k.val < 256 := by decide +kernel
theorem xor_byte (n k : Nat) (hn : n < 256) (hk : k < 3) : ∃ b : UInt8, bits .xor .u8 (n : Int) (k : Int) = (b.toNat : Int) := by
  obtain ⟨h1, h2⟩ := xor_all ⟨n, hn⟩ ⟨k, hk⟩
  exact ⟨UInt8.ofNat (n ^^^ k), by rw [UInt8.toNat_ofNat', Nat.mod_eq_of_lt h2]; exact h1⟩

set_option maxRecDepth 100000 in
set_option maxHeartbeats 4000000 in
theorem drawPackGaps_any (A : Option Addr) (n cc : Nat) (l : List UInt8) (w : World) (hn : l.length = n) (hr : Rd w w.heap.size 1 A n (flat fU l)) (hn2 : n ≤ maxLen) :
    Calls Try.prog 20 #[.slice A n cc] w fun e w' => ∃ (L : List Int) (v : Value), e = .returned v ∧ L.length ≤ 101 ∧ w'.ownsRow w.heap.size 2 1 v L.length (flat fI L) ∧ Below w.heap.size w w' := by
  go_enter Try.func20, Try.ntmps20
  go_wp2_with (first
    | (go_at_call 37; have on := one_any 6 g n cc _ w.heap.size A l _ S3 hn (hr.below (below_alloc hb2 _)) hg0 (by rw [World.size_alloc]; exact Nat.le_succ_of_le hb2.size) (by omega) hn2 (by decide); (with_reducible refine on.mono ?_); rintro e w3 ⟨z, rfl, S4, hg3⟩; have F3 := BX.past FB hg3 hfg; have R4 : World.ownsRow w3 w.heap.size 2 1 (.slice A1 L.length c1) L.length (flat fI L) := World.ownsRow.kept R3 hg3 (.inr hgr); have hb3 : Below w.heap.size w w3 := (below_alloc hb2 _).trans (below_gr hg3 (by rw [World.size_alloc]; exact Nat.le_succ_of_le hb2.size) hg0); have hff3 := fun j => F3.free j; have k2 : (_ : Option Value) = some (.slice A1 L.length c1) := F3.cell 2 (by simp))
    | (go_at_call 52; (with_reducible refine (l02DrawFlux_any g n cc 0 w.heap.size A l w1 S1 hn (hr.below hx1) hg0 hx1.size (by omega) hn2).mono ?_); rintro e w2 ⟨ce, fi, L, v, rfl, hL, R2, S2, hg2⟩; obtain ⟨A1, c1, rfl⟩ := own_form R2; have hb2 : Below w.heap.size w w2 := hx1.trans (below_gr hg2 hx1.size hg0); have FB := BX.made w2 84 [.int .i64 ce, .int .i64 fi, .slice A1 L.length c1]; have R3 := own_base (base' := w.heap.size) (World.ownsRow.alloc R2 (.cells #[.int .i64 ce, .int .i64 fi, .slice A1 L.length c1] 84)) hx1.size; have hne : (Value.slice A1 L.length c1).ownBlock ≠ some w2.heap.size := OO.ne_box R2; have hgl := S1.lt; have hgr : (Value.slice A1 L.length c1).ownBlock ≠ some g := (fun hv => by have := (World.ownsRow.lt R2 g hv).1; omega); have hfg : w2.heap.size ≠ g := (by have := S2.lt; omega); have S3 := S2.al (.cells #[.int .i64 ce, .int .i64 fi, .slice A1 L.length c1] 84))
    | (go_at_call 32; (with_reducible refine (from_any A n cc _).mono ?_); rintro e w1 ⟨g, rfl, hg0, S1, hx1⟩))
  · have d2 : (World.drew w3).cell? _ = some (.slice A1 L.length c1) := F3.cell 2 (by simp)
    have e2 := fun (o : Obj) => (show (World.drew (w3.alloc o)).cell? _ = some (.slice A1 L.length c1) from (F3.al o).cell 2 (by simp))
    have hs3 : w.heap.size ≤ (World.drew (w3.alloc (.cells #[.int .i64 2000000, .int .i64 2000001, .int .i64 0, .int .i64 1] 2))).heap.size := by show _ ≤ (w3.alloc _).heap.size; rw [World.size_alloc]; exact Nat.le_succ_of_le hb3.size
    have am := among_any [2000000, 2000001, 0, 1] w3.heap.size 4 4 rfl g n cc _ w.heap.size A l (World.drew (w3.alloc (.cells #[.int .i64 2000000, .int .i64 2000001, .int .i64 0, .int .i64 1] 2))) (S4.al _).dr hn (hr.below (Below.drew (below_alloc hb3 _))) hg0 hs3 (by omega) hn2 (by decide) (by decide) (CP.dr (CP.made w3 [.int .i64 2000000, .int .i64 2000001, .int .i64 0, .int .i64 1] 2)) (by have := S4.lt; omega)
    have hne4 : (Value.slice A1 L.length c1).ownBlock ≠ some w2.heap.size := hne
    clear hff3 k2
    go_region_law (first
      | (refine step_appG (w := w4) (f := fI) rfl (.tmp 12) (.tmp 16) 27 rfl eltI (by decide) _ L L.length rfl (by rfl) R5 _ _ y _ (by rfl) (by rfl) (by rfl) (oneI y) (by omega) hb4.size ?_; intro v5 w5 R6 hgr5 hat5 hbl5; obtain ⟨A5, c5, rfl⟩ := own_form R6; rw [List.length_append, List.length_singleton] at R6 hat5; have F6 := (F5.al _).grown hgr5 hne4; have q2 : (_ : Option Value) = some (.slice A1 L.length c1) := F6.cell 2 (by simp); have hff6 := fun j => F6.free j)
      | (go_simp; go_at_call 53; (with_reducible refine am.mono ?_); rintro e w4 ⟨y, rfl, hy, S5, hg4⟩; have F5 := BX.past (BX.drx (BX.al F3 _)) hg4 hfg; have R5 : World.ownsRow w4 w.heap.size 2 1 (.slice A1 L.length c1) L.length (flat fI L) := World.ownsRow.kept (OO.dr (World.ownsRow.alloc R4 (.cells #[.int .i64 2000000, .int .i64 2000001, .int .i64 0, .int .i64 1] 2))) hg4 (.inr hgr); have hb4 : Below w.heap.size w w4 := (Below.drew (below_alloc hb3 _)).trans (below_gr hg4 hs3 hg0); have g2 : (_ : Option Value) = some (.slice A1 L.length c1) := F5.cell 2 (by simp); have h2 := fun (o : Obj) => (show (_ : Option Value) = some (.slice A1 L.length c1) from (F5.al o).cell 2 (by simp))))
    all_goals
      have hl4 := F5.lt
      have hne6 : (Value.slice A5 (L.length + 1) c5).ownBlock ≠ some w2.heap.size := by
        rcases hat5 with e | e
        · rw [show (Value.slice A5 (L.length + 1) c5).ownBlock = _ from e]; exact hne
        · rw [show (Value.slice A5 (L.length + 1) c5).ownBlock = _ from e]; intro e2; have := Option.some.inj e2; omega
      have F7 := F6.put 2 (.slice A5 (L.length + 1) c5)
      have R7 := World.ownsRow.kept R6 (grownBy_set0 w5 w2.heap.size 2 (.slice A5 (L.length + 1) c5)) (.inr hne6)
      have hb7 := Below.setCell (hb4.trans hbl5) (p := ⟨w2.heap.size, 2, none⟩) hb2.size (.slice A5 (L.length + 1) c5)
      generalize w5.setCell ⟨w2.heap.size, 2, none⟩ (.slice A5 (L.length + 1) c5) = w7 at F7 R7 hb7 ⊢
      clear d2 e2 am q2 hff6 g2 h2
      have f2 : (_ : Option Value) = some (.slice A5 (L.length + 1) c5) := F7.cell 2 (by simp)
      go_wp2
      go_ret
      exact ⟨L ++ [y], _, rfl, by rw [List.length_append]; simpa using hL, by rw [List.length_append]; exact R7, hb7⟩
  · go_ret
    exact ⟨L, _, rfl, by omega, R4, hb3⟩

set_option maxRecDepth 100000 in
set_option maxHeartbeats 4000000 in
theorem drawDeltasOf_any (A : Option Addr) (n cc : Nat) (l : List UInt8) (w : World) (hn : l.length = n) (hr : Rd w w.heap.size 1 A n (flat fU l)) (hn2 : n ≤ maxLen) :
    Calls Try.prog 24 #[.slice A n cc] w fun e w' => ∃ (p q : ByteArray), e = .returned (.tuple #[.string p, .string q]) ∧ p.size ≤ 598 ∧ q.size ≤ 599 ∧ Below w.heap.size w w' := by
  go_enter Try.func24, Try.ntmps24
  have hcv := fun (W : World) (d : ByteArray) => run_bytes_of_string (P := Try.prog) W 9 22 5 d Try.underlying9 Try.underlying22 Try.underlying5
  go_upto_region 4 with (first
    | (go_at_call 48; (with_reducible refine (l14Draw_any g n cc 0 w.heap.size A l w1 S1 hn (hr.below hx1) hg0 hx1.size (by omega) hn2).mono ?_); rintro e w2 ⟨d, rfl, hd, S2, hg2⟩; have hb2 : Below w.heap.size w w2 := hx1.trans (below_gr hg2 hx1.size hg0); have hcap := grownCap_ge w2 d.size 0 5; have hmk := MarkB.made (e := 5) w2.drew d (grownCap w2 d.size 0 5); have hcv2 := hcv w2 d)
    | (go_at_call 32; (with_reducible refine (from_any A n cc _).mono ?_); rintro e w1 ⟨g, rfl, hg0, S1, hx1⟩))
  have hb3 : Below w.heap.size w (World.drew (w2.alloc (.cells (bytesRow d (grownCap w2 d.size 0 5)) 5 ((bytesRow d (grownCap w2 d.size 0 5)).size, (bytesRow d (grownCap w2 d.size 0 5)).size + 1)))) := Below.drew (below_alloc hb2 _)
  have S3 : SR (World.drew (w2.alloc (.cells (bytesRow d (grownCap w2 d.size 0 5)) 5 ((bytesRow d (grownCap w2 d.size 0 5)).size, (bytesRow d (grownCap w2 d.size 0 5)).size + 1)))) g A n cc 1000 := SR.dr (SR.al (S2.more (by omega)) _)
  have hmw : w.heap.size ≤ w2.heap.size := hb2.size
  have hmg : w2.heap.size ≠ g := by have := S2.lt; omega
  replace hmk : MarkB (World.drew (w2.alloc (.cells (bytesRow d (grownCap w2 d.size 0 5)) 5 ((bytesRow d (grownCap w2 d.size 0 5)).size, (bytesRow d (grownCap w2 d.size 0 5)).size + 1)))) w2.heap.size 5 d.data.toList := hmk
  have hdl : d.data.toList.length = d.size := by rw [Array.length_toList]; rfl
  have hcv3 := fun (W : World) (q : List UInt8) (hq : q.length = d.size) (hm : MarkB W w2.heap.size 5 q) (cap : Nat) => MarkB.b2s (P := Try.prog) (dst := 9) Try.underlying22 Try.underlying5 Try.underlying9 hm cap d.size hq.symm
  clear hcv hcv2
  generalize World.drew (w2.alloc (.cells (bytesRow d (grownCap w2 d.size 0 5)) 5 ((bytesRow d (grownCap w2 d.size 0 5)).size, (bytesRow d (grownCap w2 d.size 0 5)).size + 1))) = w3 at hb3 S3 hmk ⊢
  generalize grownCap w2 d.size 0 5 = cap at hcap ⊢
  have pk := pick_any 6 g n cc _ w.heap.size A l _ S3 hn (hr.below hb3) hg0 hb3.size (by omega) hn2 (by decide)
  go_wp2_with (go_at_call 38; (with_reducible refine pk.mono ?_); rintro e w4 ⟨x, rfl, hx0, hx1, S4, hg4⟩; obtain ⟨k, rfl⟩ : ∃ k : Nat, x = (k : Int) := ⟨x.toNat, by omega⟩; have hk : k ≤ 5 := (by omega); have hb4 := hb3.trans (below_gr hg4 hb3.size hg0); have hm4 := hmk.grown hg4 hmg)
  clear pk hx0 hx1 hmk S3 hg4
  generalize w2.heap.size = m at hmw hmg hm4 hcv3 ⊢
  go_loopw [7] (fun a wr => ∃ (k : Nat) (q : List UInt8), a = .int .i64 (k : Int) ∧ k ≤ 5 ∧ Hid (q.length = d.size) ∧ MarkB wr m 5 q ∧ SR wr g A n cc (1010 + 10 * (5 - k)) ∧ Below w.heap.size w wr) (fun a _ => match a with | .int _ k => k.toNat | _ => 0)
  case atStart => exact ⟨k, d.data.toList, rfl, hk, Lib.hid hdl, hm4, S4.more (by omega), hb4⟩
  case round =>
    obtain ⟨k, q, rfl, hk, HQ, hm, S5, hb5⟩ := hrel
    by_cases hkd : 0 < k ∧ 0 < d.size
    · obtain ⟨hk1, hd1⟩ := hkd
      have hk0 : (0 : Int) < (k : Int) := by omega
      have hd0 : (0 : Int) < (d.size : Int) := by omega
      obtain ⟨j, hj⟩ : ∃ j, j + 1 = k := ⟨k - 1, by omega⟩
      have hwk : IntKind.i64.wrap ((k : Int) - 1) = (j : Int) := by rw [IntWalk.i64_in _ (by omega)]; omega
      have pk := pick_any (d.size : Int) g n cc _ w.heap.size A l _ S5 hn (hr.below hb5) hg0 hb5.size (by omega) hn2 (by omega)
      go_upto_region 8 with (go_at_call 38; (with_reducible refine pk.mono ?_); rintro e w6 ⟨x, rfl, hx0, hx1, S6, hg6⟩; obtain ⟨i, rfl⟩ : ∃ i : Nat, x = (i : Int) := ⟨x.toNat, by omega⟩; have hi : i < d.size := (by omega); have hb6 := hb5.trans (below_gr hg6 hb5.size hg0); have hm6 := hm.grown hg6 hmg)
      have hii : (i : Int) < (d.size : Int) := by omega
      have hiq : i < q.length := by rw [HQ.out]; exact hi
      have ci : (World.drew w6).cell? _ = _ := hm6.cell i hiq
      have hql := (q[i]).toNat_lt
      obtain ⟨x, hx⟩ : ∃ x, (q[i]).toNat = x := ⟨_, rfl⟩
      rw [hx] at ci hql
      clear pk hx0 hx1
      have hxh := Lib.hid hx
      clear hx
      have pk := pick_any 3 g n cc _ w.heap.size A l _ S6.dr hn (hr.below (Below.drew hb6)) hg0 (Below.drew hb6).size (by omega) hn2 (by decide)
      go_region_law (go_simp; (go_at_call 38; (with_reducible refine pk.mono ?_); rintro e w7 ⟨y0, rfl, hy0, hy1, S7, hg7⟩; obtain ⟨y, rfl⟩ : ∃ y : Nat, y0 = (y : Int) := ⟨y0.toNat, by omega⟩; have hwy : IntKind.u8.wrap (y : Int) = (y : Int) := IntWalk.u8_in _ (by omega); have hb7 := (Below.drew hb6).trans (below_gr hg7 (Below.drew hb6).size hg0); have hm7 : MarkB w7 m 5 q := MarkB.grown (show MarkB w6.drew m 5 q from hm6) hg7 hmg; have ci7 := hm7.cell i hiq; have cf7 := hm7.free i hiq; rw [hxh.out] at ci7))
      all_goals
        obtain ⟨bb, hbb⟩ := xor_byte x y (by omega) (by omega)
        have hm8 := hm7.set_ i bb _ hbb
        have S8 := S7.grown (grownBy_set0 w7 m i (.int .u8 (bits .xor .u8 (x : Int) (y : Int)))) (fun e => hmg (Option.some.inj e))
        have hb8 := Below.setCell hb7 (p := ⟨m, i, none⟩) hmw (.int .u8 (bits .xor .u8 (x : Int) (y : Int)))
        clear hbb ci pk
        generalize w7.setCell ⟨m, i, none⟩ (.int .u8 (bits .xor .u8 (x : Int) (y : Int))) = w9 at hm8 S8 hb8 ⊢
        go_wp2
        go_roundw
        case rel => exact ⟨j, q.set i bb, rfl, by omega, Lib.hid (by rw [List.length_set]; exact HQ.out), hm8, S8.more (by omega), hb8⟩
        case measure => show j < k; omega
    · by_cases hk0 : k = 0
      · subst hk0
        have hk0 : ¬ (0 : Int) < ((0 : Nat) : Int) := by decide
        have on := one_any 9 g n cc _ w.heap.size A l _ S5 hn (hr.below hb5) hg0 hb5.size (by omega) hn2 (by decide)
        have hQs := Lib.hid (show q.length ≤ 598 by rw [HQ.out]; exact hd)
        have hQ1 : ¬ 9223372036854775807 < q.length + 1 := by have := hQs.out; omega
        go_wp2_with (go_at_call 37; (with_reducible refine on.mono ?_); rintro e w8 ⟨z, rfl, S8, hg8⟩; have hb8 := hb5.trans (below_gr hg8 hb5.size hg0); have hm8 := hm.grown hg8 hmg; have hcv := hcv3 (World.drew w8) q HQ.out hm8 cap)
        all_goals
          go_region_law (fail)
          go_wp2
          go_ret2
          first
            | exact ⟨d, ⟨q.toArray⟩, rfl, hd, by show q.toArray.size ≤ 599; rw [List.size_toArray]; have := hQs.out; omega, Below.drew hb8⟩
            | exact ⟨d, ⟨q.toArray⟩ ++ ⟨#[120]⟩, rfl, hd, by rw [ByteArray.size_append]; show q.toArray.size + 1 ≤ 599; rw [List.size_toArray]; have := hQs.out; omega, Below.drew hb8⟩
      · have hk1 : (0 : Int) < (k : Int) := by omega
        have hd0 : ¬ (0 : Int) < (d.size : Int) := by omega
        have on := one_any 9 g n cc _ w.heap.size A l _ S5 hn (hr.below hb5) hg0 hb5.size (by omega) hn2 (by decide)
        have hQs := Lib.hid (show q.length ≤ 598 by rw [HQ.out]; exact hd)
        have hQ1 : ¬ 9223372036854775807 < q.length + 1 := by have := hQs.out; omega
        go_wp2_with (go_at_call 37; (with_reducible refine on.mono ?_); rintro e w8 ⟨z, rfl, S8, hg8⟩; have hb8 := hb5.trans (below_gr hg8 hb5.size hg0); have hm8 := hm.grown hg8 hmg; have hcv := hcv3 (World.drew w8) q HQ.out hm8 cap)
        all_goals
          go_region_law (fail)
          go_wp2
          go_ret2
          first
            | exact ⟨d, ⟨q.toArray⟩, rfl, hd, by show q.toArray.size ≤ 599; rw [List.size_toArray]; have := hQs.out; omega, Below.drew hb8⟩
            | exact ⟨d, ⟨q.toArray⟩ ++ ⟨#[120]⟩, rfl, hd, by rw [ByteArray.size_append]; show q.toArray.size + 1 ≤ 599; rw [List.size_toArray]; have := hQs.out; omega, Below.drew hb8⟩
end Go.Proofs.Ytjahgknehamlpaa
