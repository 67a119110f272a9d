/- Walks: DeltasOf. -/
import Derived.Test.YtepipnigcgpncaaW20
namespace Go.Proofs.Ytepipnigcgpncaa
open Go.RowKit
set_option linter.unusedVariables false

set_option maxRecDepth 100000 in
set_option maxHeartbeats 1000000 in
theorem impl_DeltasOf_no (a b : ByteArray) (w : World) (h : deltas a b = none) (hs : a.size ≤ 1048576) (hs2 : b.size ≤ 1048576) :
    Calls Try.prog 41 #[.string a, .string b] w fun e w' => ∃ v, e = .returned (.tuple #[v, .bool false]) ∧ w'.ownsRow w.heap.size 72 2 v 0 [] ∧ Below w.heap.size w w' := by
  by_cases h1 : a.size = b.size
  · have h2 : 4096 < a.size := by
      rcases Nat.lt_or_ge 4096 a.size with h2 | h2
      · exact h2
      · rw [deltas_yes a b h1 (by omega)] at h
        cases h
    have g2 : 4096 < b.size := by omega
    have g3 : (4096 : Int) < (b.size : Int) := by omega
    have g4 : (4096 : Int) < (a.size : Int) := by omega
    go_enter Try.func41, Try.ntmps41
    go_wp2
    go_ret2
    exact ⟨_, rfl, World.ownsRow_nil _ _ _ _, Below.refl _ _⟩
  · have g1 : (((a.size : Nat) : Int) != ((b.size : Nat) : Int)) = true := by simp; omega
    have g2 : (a.size != b.size) = true := by simp; omega
    have g3 : (((a.size : Nat) : Int) == ((b.size : Nat) : Int)) = false := by simp; omega
    have g4 : (a.size == b.size) = false := by simp; omega
    go_enter Try.func41, Try.ntmps41
    go_wp2
    go_ret2
    exact ⟨_, rfl, World.ownsRow_nil _ _ _ _, Below.refl _ _⟩

set_option maxRecDepth 100000 in
set_option maxHeartbeats 1000000 in
theorem impl_DeltasOf_yes (a b : ByteArray) (w : World) (l : List DDelta) (h : deltas a b = some l) (hs : a.size ≤ 1048576) (hs2 : b.size ≤ 1048576) :
    Calls Try.prog 41 #[.string a, .string b] w fun e w' => ∃ v, e = .returned (.tuple #[v, .bool true]) ∧ w'.ownsRow w.heap.size 72 2 v l.length (flat fDelta l) ∧ Below w.heap.size w w' := by
  obtain ⟨h1, h2⟩ : a.size = b.size ∧ ¬ 4096 < a.size := by
    by_cases hc : ¬ a.size = b.size ∨ 4096 < a.size
    · rw [deltas_no a b hc] at h; cases h
    · omega
  have hl : l = dls a b 0 := by rw [deltas_yes a b h1 h2] at h; injection h with h; exact h.symm
  have HL := Lib.hid hl
  clear h hl
  go_enter Try.func41, Try.ntmps41
  go_wp2_with (first | (go_at_call 72; refine (deltasOf_any a b _ h1 (by omega)).mono ?_; rintro e w1 ⟨v1, rfl, ho1, hx⟩))
  go_ret2
  exact ⟨_, rfl, by rw [HL.out]; exact ho1, hx⟩

set_option maxRecDepth 100000 in
set_option maxHeartbeats 1000000 in
theorem spec_DeltasOf_no (a b : ByteArray) (w : World) (h : deltas a b = none) (hs : a.size ≤ 1048576) (hs2 : b.size ≤ 1048576) :
    Calls Try.prog 40 #[.string a, .string b] w fun e w' => ∃ v, e = .returned (.tuple #[v, .bool false]) ∧ w'.ownsRow w.heap.size 72 2 v 0 [] ∧ Below w.heap.size w w' := by
  by_cases h1 : a.size = b.size
  · have h2 : 4096 < a.size := by
      rcases Nat.lt_or_ge 4096 a.size with h2 | h2
      · exact h2
      · rw [deltas_yes a b h1 (by omega)] at h
        cases h
    have g2 : 4096 < b.size := by omega
    have g3 : (4096 : Int) < (b.size : Int) := by omega
    have g4 : (4096 : Int) < (a.size : Int) := by omega
    go_enter Try.func40, Try.ntmps40
    go_wp2
    go_ret2
    exact ⟨_, rfl, own_lit0 _ _, (by repeat (first | exact Below.refl _ _ | refine below_step ?_ (by assumption) | assumption | refine Below.drew ?_ | refine below_drewN ?_ _ | refine below_alloc ?_ _ | refine Below.setCell ?_ (by simp; try omega) _))⟩
  · have g1 : (((a.size : Nat) : Int) != ((b.size : Nat) : Int)) = true := by simp; omega
    have g2 : (a.size != b.size) = true := by simp; omega
    have g3 : (((a.size : Nat) : Int) == ((b.size : Nat) : Int)) = false := by simp; omega
    have g4 : (a.size == b.size) = false := by simp; omega
    go_enter Try.func40, Try.ntmps40
    go_wp2
    go_ret2
    exact ⟨_, rfl, own_lit0 _ _, (by repeat (first | exact Below.refl _ _ | refine below_step ?_ (by assumption) | assumption | refine Below.drew ?_ | refine below_drewN ?_ _ | refine below_alloc ?_ _ | refine Below.setCell ?_ (by simp; try omega) _))⟩

set_option maxRecDepth 100000 in
set_option maxHeartbeats 1000000 in
theorem spec_DeltasOf_yes (a b : ByteArray) (w : World) (l : List DDelta) (h : deltas a b = some l) (hs : a.size ≤ 1048576) (hs2 : b.size ≤ 1048576) :
    Calls Try.prog 40 #[.string a, .string b] w fun e w' => ∃ v, e = .returned (.tuple #[v, .bool true]) ∧ w'.ownsRow w.heap.size 72 2 v l.length (flat fDelta l) ∧ Below w.heap.size w w' := by
  obtain ⟨h1, h2⟩ : a.size = b.size ∧ ¬ 4096 < a.size := by
    by_cases hc : ¬ a.size = b.size ∨ 4096 < a.size
    · rw [deltas_no a b hc] at h; cases h
    · omega
  have hl : l = dls a b 0 := by rw [deltas_yes a b h1 h2] at h; injection h with h; exact h.symm
  have HL := Lib.hid hl
  clear h hl
  go_enter Try.func40, Try.ntmps40
  go_wp2
  go_loopw [6, 7, 8] (fun v i _ wr => ∃ (p : Nat) (out : List DDelta), p ≤ a.size + 1 ∧ out.length ≤ p ∧ i = .int .i64 p ∧ wr.ownsRow w.heap.size 72 2 v out.length (flat fDelta out) ∧ Below w.heap.size w wr ∧ Hid (out ++ dls a b p = dls a b 0)) (fun _ i _ _ => a.size + 1 - (intOf i).toNat)
  case atStart => exact ⟨0, [], by omega, by simp, rfl, own_lit0 _ _, (by repeat (first | exact Below.refl _ _ | refine below_step ?_ (by assumption) | assumption | refine Below.drew ?_ | refine below_drewN ?_ _ | refine below_alloc ?_ _ | refine Below.setCell ?_ (by simp; try omega) _)), Lib.hid rfl⟩
  case round =>
    obtain ⟨p, out, hp, hol, rfl, hown, hb, HI⟩ := hrel
    have hsz := hb.size
    by_cases hlt : p < a.size
    · go_wp2
      go_loopw [8] (fun j wr' => ∃ n q : Nat, p ≤ n ∧ n ≤ a.size ∧ j = .int .i64 n ∧ wr' = wr.drewN q ∧ Hid (n - p + dif a b n = dif a b p)) (fun j _ => a.size - (intOf j).toNat)
      case atStart => exact ⟨p, 0, by omega, by omega, rfl, rfl, Lib.hid (by simp)⟩
      case round =>
        obtain ⟨n, q, hn0, hn, rfl, rfl, HL2⟩ := hrel
        by_cases hl2 : n < a.size
        · have ea := bt_eq a n hl2
          have eb := bt_eq b n (by omega)
          have hba := bt_lt a n
          have hbb := bt_lt b n
          have hi1 : (n : Int) < a.size := by omega
          have hi3 : (n : Int) < b.size := by omega
          by_cases heq : bt a n = bt b n
          · have HD := Lib.hid (show n - p = dif a b p by have := dif_eq a b n heq; have h2 := HL2.out; omega)
            have g1 : (((bt a n : Nat) : Int) != ((bt b n : Nat) : Int)) = false := by simp; omega
            have g2 : (bt a n != bt b n) = false := by simp; omega
            have g3 : (((bt a n : Nat) : Int) == ((bt b n : Nat) : Int)) = true := by simp; omega
            have g4 : (bt a n == bt b n) = true := by simp; omega
            clear heq
            by_cases hn0 : n = p
            · have HN := Lib.hid (dls_none a b p out _ hlt (by have := HD.out; omega) HI.out)
              have gn : decide ((p : Int) < (n : Int)) = false := by simp; omega
              have gn2 : decide (p < n) = false := by simp; omega
              have gn3 : ¬ p < n := by omega
              obtain rfl := hn0
              go_wp2_with fail
              go_quiet (fail)
              go_wp2
              go_roundw
              case rel => exact ⟨n + 1, out, by omega, by omega, by go_num, own_drew1 hown _, (by repeat (first | exact Below.refl _ _ | refine below_step ?_ (by assumption) | assumption | refine Below.drew ?_ | refine below_drewN ?_ _ | refine below_alloc ?_ _ | refine Below.setCell ?_ (by simp; try omega) _)), HN⟩
              case measure => (simp [intOf] <;> omega)
            · have HN := Lib.hid (dls_some a b p (n - p) out _ hlt (by omega) HD.out HI.out)
              rw [show p + (n - p) = n by omega] at HN
              have gn : (p : Int) < (n : Int) := by omega
              have gn2 : p < n := by omega
              have gn3 : decide (p < n) = true := by simp; omega
              have hpn : n ≤ b.size := by omega
              go_wp2_with fail
              go_quiet (fail)
              go_wp2_with (first
                | fail
                | (at_builtin; refine wpList_appF rfl _ _ _ rfl eltDelta (by omega) _ out rfl (own_drew1 hown _) _ _ ⟨(p : Int), b.extract p n⟩ _ rfl rfl rfl (by intro u hu; simp only [fDelta, List.mem_cons, List.not_mem_nil, or_false] at hu; rcases hu with rfl | rfl <;> rfl) (by omega) hsz ?_; intro v3 w3 hown3 hg3 hat3 hbl3))
              go_roundw
              case rel => exact ⟨n + 1, _, by omega, by simp; omega, by go_num, hown3, (below_drewN hb _).trans hbl3, HN⟩
              case measure => (simp [intOf] <;> omega)
          · have HN := Lib.hid (show (n + 1) - p + dif a b (n + 1) = dif a b p by have := dif_yes a b n hl2 heq; have h2 := HL2.out; omega)
            have g1 : (((bt a n : Nat) : Int) != ((bt b n : Nat) : Int)) = true := by simp; omega
            have g2 : (bt a n != bt b n) = true := by simp; omega
            have g3 : (((bt a n : Nat) : Int) == ((bt b n : Nat) : Int)) = false := by simp; omega
            have g4 : (bt a n == bt b n) = false := by simp; omega
            clear heq
            go_wp2_with fail
            go_quiet (fail)
            go_wp2
            go_roundw
            case rel => exact ⟨n + 1, _, by omega, by omega, by go_num, rfl, HN⟩
            case measure => (simp [intOf] <;> omega)
        · have HD := Lib.hid (show n - p = dif a b p by have := dif_end a b n hl2; have h2 := HL2.out; omega)
          have g3 : decide ((n : Int) < a.size) = false := by simp; omega
          have g4 : decide (n < b.size) = false := by simp; omega
          have hn0 : ¬ n = p := by omega
          have HN := Lib.hid (dls_some a b p (n - p) out _ hlt (by omega) HD.out HI.out)
          rw [show p + (n - p) = n by omega] at HN
          have gn : (p : Int) < (n : Int) := by omega
          have gn2 : p < n := by omega
          have gn3 : decide (p < n) = true := by simp; omega
          have hpn : n ≤ b.size := by omega
          go_wp2_with fail
          go_quiet (fail)
          go_wp2_with (first
            | fail
            | (at_builtin; refine wpList_appF rfl _ _ _ rfl eltDelta (by omega) _ out rfl (own_drew1 hown _) _ _ ⟨(p : Int), b.extract p n⟩ _ rfl rfl rfl (by intro u hu; simp only [fDelta, List.mem_cons, List.not_mem_nil, or_false] at hu; rcases hu with rfl | rfl <;> rfl) (by omega) hsz ?_; intro v3 w3 hown3 hg3 hat3 hbl3))
          go_roundw
          case rel => exact ⟨n + 1, _, by omega, by simp; omega, by go_num, hown3, (below_drewN hb _).trans hbl3, HN⟩
          case measure => (simp [intOf] <;> omega)
    · have HR := Lib.hid (dls_end a b p out _ hlt HI.out)
      go_wp2
      go_ret2
      exact ⟨_, rfl, by rw [HL.out, ← HR.out]; exact hown, hb⟩

theorem dls_len (a b : ByteArray) : ∀ n p, a.size - p ≤ n → (dls a b p).length ≤ n
  | 0, p, h => by rw [dls, dif_neg (by omega)]; simp
  | n + 1, p, h => by
    by_cases hp : p < a.size
    · rw [dls, dif_pos hp, List.length_append]
      have := dls_len a b n (p + dif a b p + 1) (by omega)
      have h2 : (difItem a b p).length ≤ 1 := by unfold difItem; split <;> simp
      omega
    · rw [dls, dif_neg hp]; simp
def dlL (a b : ByteArray) : List DDelta := (deltas a b).getD []
theorem dlL_len (a b : ByteArray) : (dlL a b).length ≤ 4096 := by
  unfold dlL
  by_cases hc : ¬ a.size = b.size ∨ 4096 < a.size
  · rw [deltas_no a b hc]; simp
  · rw [deltas_yes a b (by omega) (by omega)]
    have := dls_len a b a.size 0 (by omega)
    simp only [Option.getD_some]
    omega
theorem impl_DeltasOf_any (a b : ByteArray) (w : World) (hs : a.size ≤ 1048576) (hs2 : b.size ≤ 1048576) :
    Calls Try.prog 41 #[.string a, .string b] w fun e w' => ∃ v, e = .returned (.tuple #[v, .bool (deltas a b).isSome]) ∧ w'.ownsRow w.heap.size 72 2 v (dlL a b).length (flat fDelta (dlL a b)) ∧ Below w.heap.size w w' := by
  unfold dlL
  cases h : deltas a b with
  | none => exact impl_DeltasOf_no a b w h hs hs2
  | some l => exact impl_DeltasOf_yes a b w l h hs hs2
theorem spec_DeltasOf_any (a b : ByteArray) (w : World) (hs : a.size ≤ 1048576) (hs2 : b.size ≤ 1048576) :
    Calls Try.prog 40 #[.string a, .string b] w fun e w' => ∃ v, e = .returned (.tuple #[v, .bool (deltas a b).isSome]) ∧ w'.ownsRow w.heap.size 72 2 v (dlL a b).length (flat fDelta (dlL a b)) ∧ Below w.heap.size w w' := by
  unfold dlL
  cases h : deltas a b with
  | none => exact spec_DeltasOf_no a b w h hs hs2
  | some l => exact spec_DeltasOf_yes a b w l h hs hs2
end Go.Proofs.Ytepipnigcgpncaa
