/- Walks: the texts T14 T15 T16 A3 T17 as one text. -/
import Derived.Test.YtlfmpgfobkmgfaaGreatDoorZA
import Derived.Test.YtlfmpgfobkmgfaaGreatDoorSFound
import Derived.Test.YtlfmpgfobkmgfaaGreatDoorSFeature
namespace Go.Proofs.YtlfmpgfobkmgfaaGreatDoor
open Go.RowKit
set_option linter.unusedVariables false
set_option linter.unusedSimpArgs false

def nibD (p : Nat) : Nat → List UInt8
  | 0 => []
  | n + 1 => UInt8.ofNat (48 + bitOf p n) :: nibD p n
theorem nibD_4 (p : Nat) : nibD p 4 = nib p := by
  unfold nib
  simp only [nibD, bitOf, Nat.and_one_is_mod]
  rw [show (2 : Nat) ^ 3 = 8 from rfl, show (2 : Nat) ^ 2 = 4 from rfl, show (2 : Nat) ^ 1 = 2 from rfl, show (2 : Nat) ^ 0 = 1 from rfl, Nat.div_one]
theorem nib_bits (p : Nat) : bitsB (nib p) := by
  have h : ∀ k, UInt8.ofNat (48 + k % 2) = 48 ∨ UInt8.ofNat (48 + k % 2) = 49 := by
    intro k
    rcases Nat.mod_two_eq_zero_or_one k with e | e <;> rw [e]
    · exact .inl rfl
    · exact .inr rfl
  intro x hx
  unfold nib at hx
  simp only [List.mem_cons, List.not_mem_nil, or_false] at hx
  rcases hx with rfl | rfl | rfl | rfl <;> exact h _
theorem gbits_bits (c : List UInt8) (j : Nat) : bitsB (gbits c j) := by
  intro x hx
  unfold gbits at hx
  obtain ⟨i, _, h⟩ := List.mem_flatMap.1 hx
  exact nib_bits _ x h
theorem odds_bits {c : List UInt8} (h : bitsB c) : bitsB (odds c) := by
  intro x hx
  unfold odds at hx
  obtain ⟨i, hi, rfl⟩ := List.mem_map.1 hx
  have hi := List.mem_range.1 hi
  rw [List.getD_eq_getElem?_getD, List.getElem?_eq_getElem (by omega), Option.getD_some]
  exact bits_get h _
def oddK (c : List UInt8) (k : Nat) : List UInt8 := (List.range k).map fun i => c.getD (2 * i + 1) 48
theorem oddK_s (c : List UInt8) (k : Nat) : oddK c (k + 1) = oddK c k ++ [c.getD (2 * k + 1) 48] := by
  unfold oddK
  rw [List.range_succ, List.map_append]
  rfl
theorem bl_ext (s : ByteArray) (a b : Nat) : bl (s.extract a b) = ((bl s).drop a).take (b - a) := by
  unfold bl
  rw [ByteArray.data_extract, Array.toList_extract, List.extract_eq_take_drop]
theorem grp_ext (s : ByteArray) (q k : Nat) (h : q = 5 * k) : bl (s.extract q (q + 5)) = grp (bl s) k := by
  rw [bl_ext, h]
  unfold grp
  rw [Nat.add_sub_cancel_left]
def okK (c : List UInt8) (k : Nat) : Bool := (List.range k).all fun j => decide (0 ≤ gvI (grp c j))
theorem okK_s (c : List UInt8) (k : Nat) : okK c (k + 1) = (okK c k && decide (0 ≤ gvI (grp c k))) := by
  unfold okK
  rw [List.range_succ, List.all_append]
  simp

set_option maxRecDepth 100000 in
set_option maxHeartbeats 8000000 in
theorem l09Raw_3 (s : ByteArray) (m : Nat) (w : World) (hm : m ≤ 4096) (hs : s.size = 10 * m) :
    Calls Tryz.prog 68 #[.int .i64 3, .string s] w fun e w' => e = .returned (.tuple #[.string (str1 (rawF 3 (bl s)).1), .bool (rawF 3 (bl s)).2]) ∧ Below w.heap.size w w' := by
  have HS := Lib.hid hs
  obtain ⟨R1, hR1⟩ : ∃ R, (rawF 3 (bl s)).1 = R := ⟨_, rfl⟩
  obtain ⟨R2, hR2⟩ : ∃ R, (rawF 3 (bl s)).2 = R := ⟨_, rfl⟩
  rw [hR1, hR2]
  have HR1 := Lib.hid (show bytesL (gbits (bl s) (2 * m)) m = R1 by rw [← hR1]; unfold rawF; rw [if_pos rfl, blen, hs, show 10 * m / 5 = 2 * m by omega, show 10 * m / 10 = m by omega])
  have HR2 := Lib.hid (show okK (bl s) (2 * m) = R2 by rw [← hR2]; unfold rawF okK; rw [if_pos rfl, blen, hs, show 10 * m / 5 = 2 * m by omega])
  clear hR1 hR2
  have hsl : s.size ≤ 40960 := by omega
  have gv := fun (x : ByteArray) (W : World) => spec_GcrValue_any x W
  have bo := fun (x : ByteArray) (W : World) (hx : x.size = 8 * m) (hb : bitsB (bl x)) => BytesOf_any x m W hm hx hb
  clear hs
  go_enter Tryz.func68, Tryz.ntmps68
  go_wp2
  have O0 := OwnB.lit (e := 5) (base := w.heap.size) w [] #[] rfl (Nat.le_refl _) (by simp)
  have hB0 : BB w (w.alloc (.cells #[] 5)) := BB.al (BB.start w) _
  generalize (w.alloc (.cells #[] 5)) = w1 at O0 hB0 ⊢
  go_loopw [6, 7, 8, 9, 10] (fun v ok i _ _ wr => ∃ (k q : Nat) (l : List UInt8) (B : Bool), i = .int .i64 (q : Int) ∧ q ≤ s.size ∧ Hid (q = 5 * k) ∧ l.length ≤ q ∧ ok = .bool B ∧ OwnB wr w.heap.size 5 v l ∧ BB w wr ∧ Hid (l = gbits (bl s) k) ∧ Hid (B = okK (bl s) k)) (fun _ _ i _ _ _ => s.size - (intOf i).toNat)
  case atStart => exact ⟨0, 0, [], true, rfl, Nat.zero_le _, Lib.hid rfl, by simp, rfl, O0, hB0, Lib.hid rfl, Lib.hid rfl⟩
  case round =>
    obtain ⟨k, q, l, B, rfl, hk, HQ, hl, rfl, O, hB, HL, HB⟩ := hrel
    clear O0 hB0
    obtain ⟨A2, c2, rfl⟩ := O.form
    have hw1 : IntKind.i64.wrap ((q : Int) + 5) = (q : Int) + 5 := IntWalk.i64_in _ (by omega)
    by_cases hlt : q < s.size
    · have hq5 : q + 5 ≤ s.size := by have h1 := HQ.out; have h2 := HS.out; omega
      have hlti : decide ((q : Int) + 5 ≤ (s.size : Int)) = true := decide_eq_true (by omega)
      have hlti2 : (q : Int) + 5 ≤ (s.size : Int) := by omega
      have HQ2 := Lib.hid (show q + 5 = 5 * (k + 1) by have := HQ.out; omega)
      obtain ⟨g, hg⟩ : ∃ g, gvI (grp (bl s) k) = g := ⟨_, rfl⟩
      have gv1 := fun W => gv (s.extract q (q + 5)) W
      rw [grp_ext s q k HQ.out, hg] at gv1
      have hgl := gvI_lt (grp (bl s) k)
      rw [hg] at hgl
      have HOKS := Lib.hid (show (B && decide (0 ≤ g)) = okK (bl s) (k + 1) by rw [okK_s, HB.out, hg])
      obtain ⟨p, hp⟩ : ∃ p, gvP (grp (bl s) k) = p := ⟨_, rfl⟩
      have hpl := gvP_lt (grp (bl s) k)
      rw [hp] at hpl
      have HP := Lib.hid hp
      have HGP := Lib.hid (show p = g.toNat by rw [← hp, ← hg]; rfl)
      clear hg hp
      by_cases hneg : g < 0
      · have hnegi : decide (g < 0) = true := decide_eq_true hneg
        have HOK := Lib.hid (show false = okK (bl s) (k + 1) by rw [← HOKS.out, decide_eq_false (by omega), Bool.and_false])
        obtain rfl : p = 0 := by have := HGP.out; omega
        go_upto_region 11 with (go_at_call 92; (with_reducible refine (gv1 _).mono ?_); rintro e w9 ⟨rfl, hx9⟩; have O9 := OwnB.later O hx9 (Nat.le_refl _); have hB9 : BB w w9 := BB.next hB hx9)
        go_wp2
        go_loopw [6, 10] (fun v j wx => ∃ (n : Nat) (l2 : List UInt8), j = .int .i64 ((n : Int) - 1) ∧ n ≤ 4 ∧ Hid (l2.length + n = l.length + 4) ∧ OwnB wx w.heap.size 5 v l2 ∧ BB w wx ∧ Hid (l2 ++ nibD 0 n = l ++ nib 0)) (fun _ j _ => (intOf j + 1).toNat)
        case atStart => exact ⟨4, l, rfl, by omega, Lib.hid rfl, O9, hB9, Lib.hid (by rw [nibD_4])⟩
        case round =>
          obtain ⟨n, l2, hbv, hn, HL2, O2, hB2, HE⟩ := hrel
          clear O9 hB9
          obtain ⟨A3, c3, rfl⟩ := O2.form
          rcases n with _ | n
          · obtain rfl := hbv.trans (show Value.int .i64 (((0 : Nat) : Int) - 1) = .int .i64 (-1) from rfl)
            have HN := Lib.hid (show l2 = gbits (bl s) (k + 1) by rw [gbits_s, ← HL.out, HP.out]; have := HE.out; unfold nibD at this; rw [List.append_nil] at this; exact this)
            have HLN := Lib.hid (show l2.length = l.length + 4 by have := HL2.out; omega)
            go_wp2
            go_roundw
            case rel => exact ⟨k + 1, q + 5, l2, _, by go_num, hq5, HQ2, by have := HLN.out; omega, rfl, O2, hB2, HN, HOK⟩
            case measure => simp [intOf]; omega
          · obtain rfl := hbv.trans (show Value.int .i64 (((n + 1 : Nat) : Int) - 1) = .int .i64 (n : Int) from congrArg (Value.int .i64) (by omega))
            have hz : bits .and .i64 0 1 = 0 := by decide
            have hb0 : bitOf 0 n = 0 := by unfold bitOf; rw [Nat.zero_div]; rfl
            have hbs := Below.size hB2
            have HN := Lib.hid (show (l2 ++ [UInt8.ofNat (48 + bitOf 0 n)]) ++ nibD 0 n = l ++ nib 0 by rw [← HE.out, List.append_assoc]; rfl)
            have hlb : l2.length ≤ 200000 := by have := HL2.out; omega
            rw [hb0] at HN
            clear hb0
            go_wp2_with (first
              | (at_builtin; go_must (refine wpList_appL (by rfl) (.tmp 36) (.tmp 44) 85 (by rfl) eltB _ l2 (by rfl) O2 _ _ [UInt8.ofNat 48] 1 1 (by rfl) (byte_lit2 48 (by omega)) (by rfl) (by simp; omega) hbs ?_); intro v' w' hown' hg' hat' hbl'))
            go_roundw
            case rel => exact ⟨n, _, congrArg (Value.int .i64) (by omega), by omega, Lib.hid (by rw [List.length_append, List.length_singleton]; have := HL2.out; omega), hown', Below.trans hB2 hbl', HN⟩
            case measure => first | (simp [intOf]; done) | (simp [intOf]; omega)

      · have hnegi : decide (g < 0) = false := decide_eq_false hneg
        have HOK := Lib.hid (show B = okK (bl s) (k + 1) by rw [← HOKS.out, decide_eq_true (by omega), Bool.and_true])
        obtain rfl : g = (p : Int) := by have := HGP.out; omega
        go_upto_region 11 with (go_at_call 92; (with_reducible refine (gv1 _).mono ?_); rintro e w9 ⟨rfl, hx9⟩; have O9 := OwnB.later O hx9 (Nat.le_refl _); have hB9 : BB w w9 := BB.next hB hx9)
        go_wp2
        go_loopw [6, 10] (fun v j wx => ∃ (n : Nat) (l2 : List UInt8), j = .int .i64 ((n : Int) - 1) ∧ n ≤ 4 ∧ Hid (l2.length + n = l.length + 4) ∧ OwnB wx w.heap.size 5 v l2 ∧ BB w wx ∧ Hid (l2 ++ nibD p n = l ++ nib p)) (fun _ j _ => (intOf j + 1).toNat)
        case atStart => exact ⟨4, l, rfl, by omega, Lib.hid rfl, O9, hB9, Lib.hid (by rw [nibD_4])⟩
        case round =>
          obtain ⟨n, l2, hbv, hn, HL2, O2, hB2, HE⟩ := hrel
          clear O9 hB9
          obtain ⟨A3, c3, rfl⟩ := O2.form
          rcases n with _ | n
          · obtain rfl := hbv.trans (show Value.int .i64 (((0 : Nat) : Int) - 1) = .int .i64 (-1) from rfl)
            have HN := Lib.hid (show l2 = gbits (bl s) (k + 1) by rw [gbits_s, ← HL.out, HP.out]; have := HE.out; unfold nibD at this; rw [List.append_nil] at this; exact this)
            have HLN := Lib.hid (show l2.length = l.length + 4 by have := HL2.out; omega)
            go_wp2
            go_roundw
            case rel => exact ⟨k + 1, q + 5, l2, _, by go_num, hq5, HQ2, by have := HLN.out; omega, rfl, O2, hB2, HN, HOK⟩
            case measure => simp [intOf]; omega
          · obtain rfl := hbv.trans (show Value.int .i64 (((n + 1 : Nat) : Int) - 1) = .int .i64 (n : Int) from congrArg (Value.int .i64) (by omega))
            have e2 := crc_e2' p n (by omega)
            have b2 := bitOf_lt p n
            have hbs := Below.size hB2
            have HN := Lib.hid (show (l2 ++ [UInt8.ofNat (48 + bitOf p n)]) ++ nibD p n = l ++ nib p by rw [← HE.out, List.append_assoc]; rfl)
            have hlb : l2.length ≤ 200000 := by have := HL2.out; omega
            obtain ⟨b, hb⟩ : ∃ b, bitOf p n = b := ⟨_, rfl⟩
            rw [hb] at e2 b2 HN
            clear hb hbv
            have hb01 : b = 0 ∨ b = 1 := by omega
            rcases hb01 with rfl | rfl
            · go_wp2_with (first
                | (at_builtin; go_must (refine wpList_appL (by rfl) (.tmp 36) (.tmp 44) 85 (by rfl) eltB _ l2 (by rfl) O2 _ _ [UInt8.ofNat 48] 1 1 (by rfl) (byte_lit2 48 (by omega)) (by rfl) (by simp; omega) hbs ?_); intro v' w' hown' hg' hat' hbl'))
              go_roundw
              case rel => exact ⟨n, _, congrArg (Value.int .i64) (by omega), by omega, Lib.hid (by rw [List.length_append, List.length_singleton]; have := HL2.out; omega), hown', Below.trans hB2 hbl', HN⟩
              case measure => first | (simp [intOf]; done) | (simp [intOf]; omega)
            · go_wp2_with (first
                | (at_builtin; go_must (refine wpList_appL (by rfl) (.tmp 36) (.tmp 44) 85 (by rfl) eltB _ l2 (by rfl) O2 _ _ [UInt8.ofNat 49] 1 1 (by rfl) (byte_lit2 49 (by omega)) (by rfl) (by simp; omega) hbs ?_); intro v' w' hown' hg' hat' hbl'))
              go_roundw
              case rel => exact ⟨n, _, congrArg (Value.int .i64) (by omega), by omega, Lib.hid (by rw [List.length_append, List.length_singleton]; have := HL2.out; omega), hown', Below.trans hB2 hbl', HN⟩
              case measure => first | (simp [intOf]; done) | (simp [intOf]; omega)
    · have hlti : decide ((q : Int) + 5 ≤ (s.size : Int)) = false := decide_eq_false (by omega)
      have hlti2 : ¬ (q : Int) + 5 ≤ (s.size : Int) := by omega
      have hk2 : k = 2 * m := by have h1 := HQ.out; have h2 := HS.out; omega
      have HN := Lib.hid (show bytesL l m = R1 by rw [HL.out, hk2]; exact HR1.out)
      have HN2 := Lib.hid (show B = R2 by rw [HB.out, hk2]; exact HR2.out)
      have hcv0 := run_b2s (P := Tryz.prog) (dst := 9) Tryz.underlying85 Tryz.underlying5 Tryz.underlying9 O
      have bo1 := fun W => bo (str1 l) W (by rw [str1_size, HL.out, gbits_len, hk2]; omega) (by rw [show bl (str1 l) = l from rfl, HL.out]; exact gbits_bits _ _)
      rw [show bl (str1 l) = l from rfl, HN.out] at bo1
      have hcv1 : (convert 85 9 (.slice A2 l.length c2)).run Tryz.prog wr = .ok (.string (str1 l)) wr := hcv0
      clear hcv0 hk2
      go_wp2_with (go_at_call 93; (with_reducible refine (bo1 _).mono ?_); rintro e w9 ⟨rfl, hx9⟩)
      go_ret2
      exact ⟨by rw [HN2.out]; rfl, BB.next hB hx9⟩
theorem odd_get (s : ByteArray) (k q : Nat) (h : q = 2 * k + 1) (hq : q < s.size) : s[q] = (bl s).getD (2 * k + 1) 48 := by
  rw [← h, ← bl_get s q hq, List.getD_eq_getElem?_getD, List.getElem?_eq_getElem (by rw [blen]; exact hq), Option.getD_some]
set_option maxRecDepth 100000 in
set_option maxHeartbeats 8000000 in
theorem l09Raw_o (f : Int) (s : ByteArray) (m : Nat) (w : World) (hf : ¬ f = 3) (hm : m ≤ 4096) (hs : s.size = 16 * m) (hb : bitsB (bl s)) :
    Calls Tryz.prog 68 #[.int .i64 f, .string s] w fun e w' => e = .returned (.tuple #[.string (str1 (rawF f (bl s)).1), .bool (rawF f (bl s)).2]) ∧ Below w.heap.size w w' := by
  have HS := Lib.hid hs
  have e3 : (f == 3) = false := by simp [hf]
  obtain ⟨R1, hR1⟩ : ∃ R, (rawF f (bl s)).1 = R := ⟨_, rfl⟩
  have hR2 : (rawF f (bl s)).2 = true := by unfold rawF; rw [if_neg hf]
  rw [hR1, hR2]
  have HR1 := Lib.hid (show bytesL (oddK (bl s) (8 * m)) m = R1 by rw [← hR1]; unfold rawF; rw [if_neg hf, blen, hs, show 16 * m / 16 = m by omega]; unfold odds oddK; rw [blen, hs, show 16 * m / 2 = 8 * m by omega])
  have HOB := Lib.hid (show bitsB (oddK (bl s) (8 * m)) by have := odds_bits hb; unfold odds at this; rw [blen, hs, show 16 * m / 2 = 8 * m by omega] at this; exact this)
  clear hR1 hR2 hf hb
  have hsl : s.size ≤ 65536 := by omega
  have bo := fun (x : ByteArray) (W : World) (hx : x.size = 8 * m) (hb : bitsB (bl x)) => BytesOf_any x m W hm hx hb
  clear hs
  go_enter Tryz.func68, Tryz.ntmps68
  go_wp2
  have O0 := OwnB.lit (e := 5) (base := w.heap.size) w [] #[] rfl (Nat.le_refl _) (by simp)
  have hB0 : BB w (w.alloc (.cells #[] 5)) := BB.al (BB.start w) _
  generalize (w.alloc (.cells #[] 5)) = w1 at O0 hB0 ⊢
  go_loopw [6, 11] (fun v i wr => ∃ (k q : Nat) (l : List UInt8), i = .int .i64 (q : Int) ∧ q ≤ s.size + 1 ∧ Hid (q = 2 * k + 1) ∧ l.length ≤ q ∧ OwnB wr w.heap.size 5 v l ∧ BB w wr ∧ Hid (l = oddK (bl s) k)) (fun _ i _ => s.size + 1 - (intOf i).toNat)
  case atStart => exact ⟨0, 1, [], rfl, by omega, Lib.hid rfl, by simp, O0, hB0, Lib.hid rfl⟩
  case round =>
    obtain ⟨k, q, l, rfl, hk, HQ, hl, O, hB, HL⟩ := hrel
    clear O0 hB0
    obtain ⟨A2, c2, rfl⟩ := O.form
    by_cases hlt : q < s.size
    · have hlti : decide ((q : Int) < (s.size : Int)) = true := decide_eq_true (by omega)
      have hw1 : IntKind.i64.wrap ((q : Int) + 2) = (q : Int) + 2 := IntWalk.i64_in _ (by omega)
      have hgd := odd_get s k q HQ.out hlt
      obtain ⟨y, hy⟩ : ∃ y, (bl s).getD (2 * k + 1) 48 = y := ⟨_, rfl⟩
      rw [hy] at hgd
      have HN := Lib.hid (show l ++ [y] = oddK (bl s) (k + 1) by rw [oddK_s, hy, HL.out])
      have HQ2 := Lib.hid (show q + 2 = 2 * (k + 1) + 1 by have := HQ.out; omega)
      have hbs := Below.size hB
      have hlb : l.length ≤ 100000 := by omega
      clear hy
      go_wp2_with (first
        | (at_builtin; go_must (refine wpList_appL (by rfl) (.tmp 52) (.tmp 56) 85 (by rfl) eltB _ l (by rfl) O _ _ [y] 1 1 (by rfl) (byte_lit _) (by rfl) (by simp; omega) hbs ?_); intro v' w' hown' hg' hat' hbl'))
      have hl1 : (l ++ [y]).length ≤ q + 2 := by rw [List.length_append, List.length_singleton]; omega
      have hq2 : q + 2 ≤ s.size + 1 := by have h1 := HQ.out; have h2 := HS.out; omega
      go_roundw
      case rel => exact ⟨k + 1, q + 2, l ++ [y], by go_num, hq2, HQ2, hl1, hown', Below.trans hB hbl', HN⟩
      case measure => simp [intOf]; omega
    · have hlti : decide ((q : Int) < (s.size : Int)) = false := decide_eq_false (by omega)
      have hk2 : k = 8 * m := by have h1 := HQ.out; have h2 := HS.out; omega
      have HN := Lib.hid (show bytesL l m = R1 by rw [HL.out, hk2]; exact HR1.out)
      have hcv0 := run_b2s (P := Tryz.prog) (dst := 9) Tryz.underlying85 Tryz.underlying5 Tryz.underlying9 O
      have bo1 := fun W => bo (str1 l) W (by rw [str1_size, HL.out, hk2]; unfold oddK; rw [List.length_map, List.length_range]) (by rw [show bl (str1 l) = l from rfl, HL.out, hk2]; exact HOB.out)
      rw [show bl (str1 l) = l from rfl, HN.out] at bo1
      have hcv1 : (convert 85 9 (.slice A2 l.length c2)).run Tryz.prog wr = .ok (.string (str1 l)) wr := hcv0
      clear hcv0 hk2
      go_wp2_with (go_at_call 93; (with_reducible refine (bo1 _).mono ?_); rintro e w9 ⟨rfl, hx9⟩)
      go_ret2
      exact ⟨by rfl, BB.next hB hx9⟩
theorem l09Raw_any (f : Int) (s : ByteArray) (m : Nat) (w : World) (hm : m ≤ 4096) (hs : s.size = cpb f * m) (hb : bitsB (bl s)) :
    Calls Tryz.prog 68 #[.int .i64 f, .string s] w fun e w' => e = .returned (.tuple #[.string (str1 (rawF f (bl s)).1), .bool (rawF f (bl s)).2]) ∧ Below w.heap.size w w' := by
  unfold cpb at hs
  by_cases h : f = 3
  · subst h
    rw [if_pos rfl] at hs
    exact l09Raw_3 s m w hm hs
  · rw [if_neg h] at hs
    exact l09Raw_o f s m w h hm hs hb
end Go.Proofs.YtlfmpgfobkmgfaaGreatDoor
namespace Go.Proofs.YtlfmpgfobkmgfaaGreatDoor
open Go.RowKit Go.Deep
set_option linter.unusedVariables false
set_option linter.unusedSimpArgs false

def fldV : Option (List UInt8 × Bool) → Value
  | none => .tuple #[.string ⟨#[]⟩, .bool false, .bool false]
  | some (l, b) => .tuple #[.string (str1 l), .bool b, .bool true]
theorem cw_bits {s : ByteArray} (h0 : 0 < s.size) (h : bitsB (bl s)) (k : Nat) : cw (bl s) k = 48 ∨ cw (bl s) k = 49 := by
  rw [cw_get s k h0, ← bl_get s _ (Nat.mod_lt _ h0)]
  exact bits_get h _
theorem cir_bits {s : ByteArray} (h0 : 0 < s.size) (h : bitsB (bl s)) (a n : Nat) : bitsB (cir (bl s) a n) := by
  intro x hx
  unfold cir at hx
  obtain ⟨i, _, rfl⟩ := List.mem_map.1 hx
  exact cw_bits h0 h _
theorem cpb_cases (f : Int) : cpb f = 10 ∨ cpb f = 16 := by
  unfold cpb
  split
  · exact .inl rfl
  · exact .inr rfl
theorem rawF_n (f : Int) (l : List UInt8) (m : Nat) (h : l.length = cpb f * m) : (rawF f l).1.length = m := by
  rw [rawF_len, h]
  unfold cpb
  split <;> omega
theorem preL_len (f : Int) (k : Nat) : (preL f k).length ≤ 4 := by
  unfold preL
  split <;> simp
theorem ext0 (l : List UInt8) (n : Nat) : (str1 l).extract 0 n = str1 (l.take n) := by
  apply ByteArray.ext
  apply Array.ext'
  show bl ((str1 l).extract 0 n) = l.take n
  rw [bl_ext, List.drop_zero, Nat.sub_zero]
  rfl

set_option maxRecDepth 100000 in
set_option maxHeartbeats 8000000 in
theorem l09Field_any (f : Int) (s : ByteArray) (k a body n : Nat) (w : World) (h0 : 0 < s.size) (hs : s.size ≤ 8000) (hbits : bitsB (bl s)) (hk : k = 1 ∨ k = 2 ∨ k = 3) (hb : body < s.size) (hn : n ≤ 32) :
    Calls Tryz.prog 46 #[.string s, .int .i64 f, .agg #[.int .i64 (k : Int), .int .i64 (a : Int), .int .i64 (body : Int)], .int .i64 (n : Int)] w fun e w' => e = .returned (fldV (fldL f (bl s) k body n)) ∧ Below w.heap.size w w' := by
  have F := BX.made w 49 [.int .i64 (k : Int), .int .i64 (a : Int), .int .i64 (body : Int)]
  have hB : BB w (w.alloc (.cells #[.int .i64 (k : Int), .int .i64 (a : Int), .int .i64 (body : Int)] 49)) := BB.al (BB.start w) _
  have k0 : (_ : Option Value) = some (.int .i64 (k : Int)) := F.cell 0 (by simp)
  have k2 : (_ : Option Value) = some (.int .i64 (body : Int)) := F.cell 2 (by simp)
  have lc := fun W => l08Cell_any f W
  obtain ⟨R, hR⟩ : ∃ R, fldL f (bl s) k body n = R := ⟨_, rfl⟩
  rw [hR]
  have HR := Lib.hid hR
  clear hR
  obtain ⟨c, hc⟩ : ∃ c, cpb f = c := ⟨_, rfl⟩
  have hcc := cpb_cases f
  have HC := Lib.hid hc
  rw [hc] at lc hcc
  clear hc
  obtain ⟨T, hT⟩ : ∃ T, (n + 2) * c = T := ⟨_, rfl⟩
  have hTl : T ≤ 600 := by rcases hcc with rfl | rfl <;> omega
  have HT := Lib.hid hT
  have hw0 : IntKind.i64.wrap ((n : Int) + 2) = (n : Int) + 2 := IntWalk.i64_in _ (by omega)
  have hw1 : IntKind.i64.wrap (((n : Int) + 2) * (c : Int)) = (T : Int) := by
    have h : ((n : Int) + 2) * (c : Int) = (T : Int) := by rw [← hT, Int.natCast_mul, Int.natCast_add]; rfl
    rw [h]
    exact IntWalk.i64_in _ (by omega)
  clear hT hcc
  by_cases hbig : s.size < T
  · have hbi : decide ((s.size : Int) < (T : Int)) = true := decide_eq_true (by omega)
    have HN := Lib.hid (show none = R by rw [← HR.out]; unfold fldL; rw [if_pos (by rw [blen, HC.out, HT.out]; exact hbig)])
    go_enter Tryz.func46, Tryz.ntmps46
    go_wp2_with (go_at_call 67; (with_reducible refine (lc _).mono ?_); rintro e w2 ⟨rfl, rfl⟩)
    go_ret3
    rw [← HN.out]
    exact ⟨rfl, hB⟩
  · have hbi : decide ((s.size : Int) < (T : Int)) = false := decide_eq_false (by omega)
    obtain ⟨x, hx⟩ : ∃ x, str1 (cir (bl s) body T) = x := ⟨_, rfl⟩
    obtain ⟨r, hr⟩ : ∃ r, (rawF f (cir (bl s) body T)).1 = r := ⟨_, rfl⟩
    obtain ⟨ok, hok⟩ : ∃ r, (rawF f (cir (bl s) body T)).2 = r := ⟨_, rfl⟩
    have hxb : bl x = cir (bl s) body T := by rw [← hx]; rfl
    have hxs : x.size = cpb f * (n + 2) := by rw [← blen, hxb, cir_len, HC.out, ← HT.out, Nat.mul_comm]
    have hrl : r.length = n + 2 := by rw [← hr]; exact rawF_n f _ _ (by rw [← hxb, blen]; exact hxs)
    have sl := fun W => l07Slice_any s body T W hs h0 (by omega) (by omega)
    rw [hx] at sl
    have rw1 := fun W => l09Raw_any f x (n + 2) W (by omega) hxs (by rw [hxb]; exact cir_bits h0 hbits _ _)
    rw [hxb, hr, hok] at rw1
    obtain ⟨y, hy⟩ : ∃ y, str1 r = y := ⟨_, rfl⟩
    have hys : y.size = n + 2 := by rw [← hy, str1_size, hrl]
    have gw := fun W => spec_GetWord_any y n W (by omega) (by omega)
    have hyb : bl y = r := by rw [← hy]; rfl
    rw [hyb] at gw
    rw [hy] at rw1
    obtain ⟨p, hp⟩ : ∃ p, y.extract 0 n = p := ⟨_, rfl⟩
    have hpe : p = str1 (r.take n) := by rw [← hp, ← hy, ext0]
    have hps : p.size = n := by rw [hpe, str1_size, List.length_take]; omega
    have pf := fun W => l08Prefix_any f k W hk
    obtain ⟨z, hz⟩ : ∃ z, str1 (preL f k) = z := ⟨_, rfl⟩
    have hzs : z.size ≤ 4 := by rw [← hz, str1_size]; exact preL_len f k
    have cr := fun W => spec_Crc16_k (z ++ p) W (by rw [ByteArray.size_append]; omega)
    have hzp : bl (z ++ p) = preL f k ++ r.take n := by rw [← hz, hpe, str_app]; rfl
    rw [hzp] at cr
    rw [hz] at pf
    have hz3 : ¬ 9223372036854775807 < z.size + n := by omega
    obtain ⟨C, hC⟩ : ∃ C, crcL (preL f k ++ r.take n) 65535 = C := ⟨_, rfl⟩
    obtain ⟨V, hV⟩ : ∃ V, wdL r n = V := ⟨_, rfl⟩
    rw [hC] at cr
    rw [hV] at gw
    have hE : ((C : Int) == (V : Int)) = decide (C = V) := by
      by_cases e : C = V
      · rw [e]; simp
      · rw [decide_eq_false e, beq_eq_false_iff_ne]; omega
    obtain ⟨E, hEE⟩ : ∃ E, decide (C = V) = E := ⟨_, rfl⟩
    rw [hEE] at hE
    have HN := Lib.hid (show some (r.take n, ok && E) = R by rw [← HR.out]; unfold fldL; rw [if_neg (by rw [blen, HC.out, HT.out]; exact hbig), HC.out, HT.out, hr, hok, hC, hV, hEE])
    have HPV := Lib.hid (show fldV R = .tuple #[.string p, .bool (ok && E), .bool true] by rw [← HN.out, hpe]; rfl)
    clear hx hr hok hxb hxs hrl hy hyb hpe hz hzp hC hV hEE
    have hle2 : (n : Int) ≤ (n : Int) + 2 := by omega
    have hnw : IntKind.i64.wrap (n : Int) = (n : Int) := IntWalk.i64_in _ (by omega)
    cases ok
    · skip
      go_enter Tryz.func46, Tryz.ntmps46
      go_upto_region 6 with (first
        | (go_at_call 67; (with_reducible refine (lc _).mono ?_); rintro e w2 ⟨rfl, rfl⟩)
        | (go_at_call 69; (with_reducible refine (sl _).mono ?_); rintro e w2 ⟨rfl, hx2⟩; have hB2 : BB w w2 := BB.next hB hx2; have F2 := F.below hx2 F.lt; have c2 : (_ : Option Value) = some (.int .i64 (k : Int)) := F2.cell 0 (by simp))
        | (go_at_call 68; (with_reducible refine (rw1 _).mono ?_); rintro e w3 ⟨rfl, hx3⟩; have hB3 : BB w w3 := BB.next hB2 hx3; have F3 := F2.below hx3 F2.lt)
        | (go_at_call 70; (with_reducible refine (gw _).mono ?_); rintro e w4 ⟨rfl, n4, rfl⟩))
      have hB4 : BB w (w3.drewN n4) := BB.dn hB3 _
      have c4 : (w3.drewN n4).cell? ⟨w.heap.size, 0, none⟩ = some (.int .i64 (k : Int)) := F3.cell 0 (by simp)
      have hlt4 : w.heap.size < (w3.drewN n4).heap.size := F3.lt
      clear hB hB2 hB3 F F2 F3 hx2 hx3 k0 k2
      generalize w3.drewN n4 = wy at hB4 c4 hlt4 ⊢
      have hB3 := hB4
      have c0 := c4
      have hlt3 : w.heap.size < wy.drew.heap.size := hlt4
      clear hB4 c4 hlt4
      refine wp_region_held_drew (S := (fun W => W.cell? ⟨w.heap.size, 0, none⟩ = some (.int .i64 (k : Int)))) (by kernel_rfl) ?hS1 (fun hHeld => ?rest2)
      case hS1 => (exact c0)
      refine wpAnyH_take (i := 0) (oi := _) (v := ?v3) rfl (by kernel_rfl) (by kernel_rfl) (by kernel_rfl) (fun _ _ _ h => h) (Or.inl ⟨by rfl, ?hy4⟩) hHeld ?rest5
      case hy4 => (intro w hSw; (try dsimp only at hSw); go_simp; (try with_reducible rfl))
      try simp only [Act.put, List.setIfInBounds_toArray, List.set_cons_zero, List.set_cons_succ]
      refine wpAnyH_take (i := 1) (oi := _) (v := ?v6) rfl (by kernel_rfl) (by kernel_rfl) (by kernel_rfl) (fun _ _ _ h => h) (Or.inl ⟨by rfl, ?hy7⟩) hHeld ?rest8
      case hy7 => (intro w hSw; (try dsimp only at hSw); go_simp; (try with_reducible rfl))
      try simp only [Act.put, List.setIfInBounds_toArray, List.set_cons_zero, List.set_cons_succ]
      refine wpAnyH_take (i := 2) (oi := _) (v := ?v9) rfl (by kernel_rfl) (by kernel_rfl) (by kernel_rfl) (fun _ _ _ h => h) (Or.inl ⟨by rfl, ?hy10⟩) hHeld ?rest11
      case hy10 => (intro w hSw; (try dsimp only at hSw); go_simp; (try with_reducible rfl))
      try simp only [Act.put, List.setIfInBounds_toArray, List.set_cons_zero, List.set_cons_succ]
      refine wpAnyH_take (i := 4) (oi := _) (v := ?v12) rfl (by kernel_rfl) (by kernel_rfl) (by kernel_rfl) (fun _ _ _ h => h) (Or.inl ⟨by rfl, ?hy13⟩) hHeld ?rest14
      case hy13 => (intro w hSw; (try dsimp only at hSw); go_simp; (try with_reducible rfl))
      try simp only [Act.put, List.setIfInBounds_toArray, List.set_cons_zero, List.set_cons_succ]
      refine wpAnyH_take (i := 5) (oi := _) (v := ?v15) rfl (by kernel_rfl) (by kernel_rfl) (by kernel_rfl) (fun _ _ _ h => h) (Or.inl ⟨by rfl, ?hy16⟩) hHeld ?rest17
      case hy16 => (intro w hSw; (try dsimp only at hSw); go_simp; (try with_reducible rfl))
      try simp only [Act.put, List.setIfInBounds_toArray, List.set_cons_zero, List.set_cons_succ]
      refine wpAnyH_take (i := 6) (oi := _) (v := ?v18) rfl (by kernel_rfl) (by kernel_rfl) (by kernel_rfl) (fun _ _ _ h => h) (Or.inl ⟨by rfl, ?hy19⟩) hHeld ?rest20
      case hy19 => (intro w hSw; (try dsimp only at hSw); go_simp; (try with_reducible rfl))
      try simp only [Act.put, List.setIfInBounds_toArray, List.set_cons_zero, List.set_cons_succ]
      refine wpAnyH_take (i := 9) (oi := _) (v := ?v21) rfl (by kernel_rfl) (by kernel_rfl) (by kernel_rfl) (fun _ _ _ h => h) (Or.inl ⟨by rfl, ?hy22⟩) hHeld ?rest23
      case hy22 => (intro w hSw; (try dsimp only at hSw); go_simp; (try with_reducible rfl))
      try simp only [Act.put, List.setIfInBounds_toArray, List.set_cons_zero, List.set_cons_succ]
      refine wpAnyH_ready (rs := [3]) (by kernel_rfl) (by simp) ?_
      refine AllReadyH.cons (o := _) rfl (fun K hK => ?stp40) ?more41
      case stp40 =>
        go_simp
        refine (pf _).mono ?_
        rintro e w5 ⟨rfl, hx5⟩
        have k5 : w5.cell? ⟨w.heap.size, 0, none⟩ = some (.int .i64 (k : Int)) := (Below.cell hx5 (p := ⟨w.heap.size, 0, none⟩) hlt3).trans c0
        have hB5 : BB w w5 := BB.next (BB.dr hB3) hx5
        (try go_wp2_with fail)
        refine hK.out _ _ ?hS42 (fun hHeld2 => ?rest43)
        case hS42 => (exact k5)
        clear hK K hHeld
        have hHeld := hHeld2
        clear hHeld2
        try simp only [Act.put, List.setIfInBounds_toArray, List.set_cons_zero, List.set_cons_succ]
        refine wpAnyH_ready (rs := [7]) (by kernel_rfl) (by simp) ?_
        refine AllReadyH.cons (o := _) rfl (fun K hK => ?stp36) ?more37
        case stp36 =>
          go_simp
          refine hK.out _ _ ?hS38 (fun hHeld2 => ?rest39)
          case hS38 => (exact hHeld)
          clear hK K hHeld
          have hHeld := hHeld2
          clear hHeld2
          try simp only [Act.put, List.setIfInBounds_toArray, List.set_cons_zero, List.set_cons_succ]
          refine wpAnyH_ready (rs := [8]) (by kernel_rfl) (by simp) ?_
          refine AllReadyH.cons (o := _) rfl (fun K hK => ?stp32) ?more33
          case stp32 =>
            go_simp
            refine (cr _).mono ?_
            rintro e w6 ⟨rfl, rfl⟩
            (try go_wp2_with fail)
            refine hK.out _ _ ?hS34 (fun hHeld2 => ?rest35)
            case hS34 => (exact k5)
            clear hK K hHeld
            have hHeld := hHeld2
            clear hHeld2
            try simp only [Act.put, List.setIfInBounds_toArray, List.set_cons_zero, List.set_cons_succ]
            refine wpAnyH_ready (rs := [10]) (by kernel_rfl) (by simp) ?_
            refine AllReadyH.cons (o := _) rfl (fun K hK => ?stp28) ?more29
            case stp28 =>
              go_simp
              refine hK.out _ _ ?hS30 (fun hHeld2 => ?rest31)
              case hS30 => (exact hHeld)
              clear hK K hHeld
              have hHeld := hHeld2
              clear hHeld2
              try simp only [Act.put, List.setIfInBounds_toArray, List.set_cons_zero, List.set_cons_succ]
              refine wpAnyH_ready (rs := [11]) (by kernel_rfl) (by simp) ?_
              refine AllReadyH.cons (o := _) rfl (fun K hK => ?stp24) ?more25
              case stp24 =>
                go_simp
                refine hK.out _ _ ?hS26 (fun hHeld2 => ?rest27)
                case hS26 => (exact hHeld)
                clear hK K hHeld
                have hHeld := hHeld2
                clear hHeld2
                try simp only [Act.put, List.setIfInBounds_toArray, List.set_cons_zero, List.set_cons_succ]
                refine wpAnyH_done (by kernel_rfl) ?_ _
                go_wp2_with fail
                go_ret3
                rw [HPV.out]
                exact ⟨rfl, hB5⟩
              exact AllReadyH.nil
            exact AllReadyH.nil
          exact AllReadyH.nil
        exact AllReadyH.nil
      exact AllReadyH.nil
    · skip
      go_enter Tryz.func46, Tryz.ntmps46
      go_upto_region 6 with (first
        | (go_at_call 67; (with_reducible refine (lc _).mono ?_); rintro e w2 ⟨rfl, rfl⟩)
        | (go_at_call 69; (with_reducible refine (sl _).mono ?_); rintro e w2 ⟨rfl, hx2⟩; have hB2 : BB w w2 := BB.next hB hx2; have F2 := F.below hx2 F.lt; have c2 : (_ : Option Value) = some (.int .i64 (k : Int)) := F2.cell 0 (by simp))
        | (go_at_call 68; (with_reducible refine (rw1 _).mono ?_); rintro e w3 ⟨rfl, hx3⟩; have hB3 : BB w w3 := BB.next hB2 hx3; have F3 := F2.below hx3 F2.lt)
        | (go_at_call 70; (with_reducible refine (gw _).mono ?_); rintro e w4 ⟨rfl, n4, rfl⟩))
      have hB4 : BB w (w3.drewN n4) := BB.dn hB3 _
      have c4 : (w3.drewN n4).cell? ⟨w.heap.size, 0, none⟩ = some (.int .i64 (k : Int)) := F3.cell 0 (by simp)
      have hlt4 : w.heap.size < (w3.drewN n4).heap.size := F3.lt
      clear hB hB2 hB3 F F2 F3 hx2 hx3 k0 k2
      generalize w3.drewN n4 = wy at hB4 c4 hlt4 ⊢
      have hB3 := hB4
      have c0 := c4
      have hlt3 : w.heap.size < wy.drew.heap.size := hlt4
      clear hB4 c4 hlt4
      refine wp_region_held_drew (S := (fun W => W.cell? ⟨w.heap.size, 0, none⟩ = some (.int .i64 (k : Int)))) (by kernel_rfl) ?hS44 (fun hHeld => ?rest45)
      case hS44 => (exact c0)
      refine wpAnyH_take (i := 0) (oi := _) (v := ?v46) rfl (by kernel_rfl) (by kernel_rfl) (by kernel_rfl) (fun _ _ _ h => h) (Or.inl ⟨by rfl, ?hy47⟩) hHeld ?rest48
      case hy47 => (intro w hSw; (try dsimp only at hSw); go_simp; (try with_reducible rfl))
      try simp only [Act.put, List.setIfInBounds_toArray, List.set_cons_zero, List.set_cons_succ]
      refine wpAnyH_take (i := 1) (oi := _) (v := ?v49) rfl (by kernel_rfl) (by kernel_rfl) (by kernel_rfl) (fun _ _ _ h => h) (Or.inl ⟨by rfl, ?hy50⟩) hHeld ?rest51
      case hy50 => (intro w hSw; (try dsimp only at hSw); go_simp; (try with_reducible rfl))
      try simp only [Act.put, List.setIfInBounds_toArray, List.set_cons_zero, List.set_cons_succ]
      refine wpAnyH_take (i := 2) (oi := _) (v := ?v52) rfl (by kernel_rfl) (by kernel_rfl) (by kernel_rfl) (fun _ _ _ h => h) (Or.inl ⟨by rfl, ?hy53⟩) hHeld ?rest54
      case hy53 => (intro w hSw; (try dsimp only at hSw); go_simp; (try with_reducible rfl))
      try simp only [Act.put, List.setIfInBounds_toArray, List.set_cons_zero, List.set_cons_succ]
      refine wpAnyH_take (i := 4) (oi := _) (v := ?v55) rfl (by kernel_rfl) (by kernel_rfl) (by kernel_rfl) (fun _ _ _ h => h) (Or.inl ⟨by rfl, ?hy56⟩) hHeld ?rest57
      case hy56 => (intro w hSw; (try dsimp only at hSw); go_simp; (try with_reducible rfl))
      try simp only [Act.put, List.setIfInBounds_toArray, List.set_cons_zero, List.set_cons_succ]
      refine wpAnyH_take (i := 5) (oi := _) (v := ?v58) rfl (by kernel_rfl) (by kernel_rfl) (by kernel_rfl) (fun _ _ _ h => h) (Or.inl ⟨by rfl, ?hy59⟩) hHeld ?rest60
      case hy59 => (intro w hSw; (try dsimp only at hSw); go_simp; (try with_reducible rfl))
      try simp only [Act.put, List.setIfInBounds_toArray, List.set_cons_zero, List.set_cons_succ]
      refine wpAnyH_take (i := 6) (oi := _) (v := ?v61) rfl (by kernel_rfl) (by kernel_rfl) (by kernel_rfl) (fun _ _ _ h => h) (Or.inl ⟨by rfl, ?hy62⟩) hHeld ?rest63
      case hy62 => (intro w hSw; (try dsimp only at hSw); go_simp; (try with_reducible rfl))
      try simp only [Act.put, List.setIfInBounds_toArray, List.set_cons_zero, List.set_cons_succ]
      refine wpAnyH_take (i := 9) (oi := _) (v := ?v64) rfl (by kernel_rfl) (by kernel_rfl) (by kernel_rfl) (fun _ _ _ h => h) (Or.inl ⟨by rfl, ?hy65⟩) hHeld ?rest66
      case hy65 => (intro w hSw; (try dsimp only at hSw); go_simp; (try with_reducible rfl))
      try simp only [Act.put, List.setIfInBounds_toArray, List.set_cons_zero, List.set_cons_succ]
      refine wpAnyH_ready (rs := [3]) (by kernel_rfl) (by simp) ?_
      refine AllReadyH.cons (o := _) rfl (fun K hK => ?stp83) ?more84
      case stp83 =>
        go_simp
        refine (pf _).mono ?_
        rintro e w5 ⟨rfl, hx5⟩
        have k5 : w5.cell? ⟨w.heap.size, 0, none⟩ = some (.int .i64 (k : Int)) := (Below.cell hx5 (p := ⟨w.heap.size, 0, none⟩) hlt3).trans c0
        have hB5 : BB w w5 := BB.next (BB.dr hB3) hx5
        (try go_wp2_with fail)
        refine hK.out _ _ ?hS85 (fun hHeld2 => ?rest86)
        case hS85 => (exact k5)
        clear hK K hHeld
        have hHeld := hHeld2
        clear hHeld2
        try simp only [Act.put, List.setIfInBounds_toArray, List.set_cons_zero, List.set_cons_succ]
        refine wpAnyH_ready (rs := [7]) (by kernel_rfl) (by simp) ?_
        refine AllReadyH.cons (o := _) rfl (fun K hK => ?stp79) ?more80
        case stp79 =>
          go_simp
          refine hK.out _ _ ?hS81 (fun hHeld2 => ?rest82)
          case hS81 => (exact hHeld)
          clear hK K hHeld
          have hHeld := hHeld2
          clear hHeld2
          try simp only [Act.put, List.setIfInBounds_toArray, List.set_cons_zero, List.set_cons_succ]
          refine wpAnyH_ready (rs := [8]) (by kernel_rfl) (by simp) ?_
          refine AllReadyH.cons (o := _) rfl (fun K hK => ?stp75) ?more76
          case stp75 =>
            go_simp
            refine (cr _).mono ?_
            rintro e w6 ⟨rfl, rfl⟩
            (try go_wp2_with fail)
            refine hK.out _ _ ?hS77 (fun hHeld2 => ?rest78)
            case hS77 => (exact k5)
            clear hK K hHeld
            have hHeld := hHeld2
            clear hHeld2
            try simp only [Act.put, List.setIfInBounds_toArray, List.set_cons_zero, List.set_cons_succ]
            refine wpAnyH_ready (rs := [10]) (by kernel_rfl) (by simp) ?_
            refine AllReadyH.cons (o := _) rfl (fun K hK => ?stp71) ?more72
            case stp71 =>
              go_simp
              refine hK.out _ _ ?hS73 (fun hHeld2 => ?rest74)
              case hS73 => (exact hHeld)
              clear hK K hHeld
              have hHeld := hHeld2
              clear hHeld2
              try simp only [Act.put, List.setIfInBounds_toArray, List.set_cons_zero, List.set_cons_succ]
              refine wpAnyH_ready (rs := [11]) (by kernel_rfl) (by simp) ?_
              refine AllReadyH.cons (o := _) rfl (fun K hK => ?stp67) ?more68
              case stp67 =>
                go_simp
                refine hK.out _ _ ?hS69 (fun hHeld2 => ?rest70)
                case hS69 => (exact hHeld)
                clear hK K hHeld
                have hHeld := hHeld2
                clear hHeld2
                try simp only [Act.put, List.setIfInBounds_toArray, List.set_cons_zero, List.set_cons_succ]
                refine wpAnyH_done (by kernel_rfl) ?_ _
                go_wp2_with fail
                go_ret3
                rw [HPV.out]
                exact ⟨rfl, hB5⟩
              exact AllReadyH.nil
            exact AllReadyH.nil
          exact AllReadyH.nil
        exact AllReadyH.nil
      exact AllReadyH.nil
end Go.Proofs.YtlfmpgfobkmgfaaGreatDoor
namespace Go.Proofs.YtlfmpgfobkmgfaaGreatDoor
open Go.RowKit
set_option linter.unusedVariables false
set_option linter.unusedSimpArgs false

def mkD (ms : List MK) (i : Nat) : MK := ms.getD i (0, 0, 0)
def nxD (ms : List MK) (i : Nat) : Nat := (i + 1) % ms.length
/-- The number of the data mark that belongs to the header i. -/
def dmF (n : Nat) (ms : List MK) (i : Nat) : Option Nat := if (mkD ms (nxD ms i)).1 = 1 ∨ 320 < ((mkD ms (nxD ms i)).2.1 + n - (mkD ms i).2.2) % n then none else some (nxD ms i)
def dmV : Option Nat → Int
  | none => -1
  | some j => (j : Int)
theorem mkD_get {ms : List MK} {i : Nat} (h : i < ms.length) : ms[i] = mkD ms i := by
  unfold mkD
  rw [List.getD_eq_getElem?_getD, List.getElem?_eq_getElem h, Option.getD_some]
/-- Marks inside a track of n cells. -/
def inM (n : Nat) (ms : List MK) : Prop := ∀ m ∈ ms, (m.1 = 1 ∨ m.1 = 2 ∨ m.1 = 3) ∧ m.2.1 < n ∧ m.2.2 < n
theorem inM_at {n : Nat} {ms : List MK} (h : inM n ms) {i : Nat} (hi : i < ms.length) : ((mkD ms i).1 = 1 ∨ (mkD ms i).1 = 2 ∨ (mkD ms i).1 = 3) ∧ (mkD ms i).2.1 < n ∧ (mkD ms i).2.2 < n := by
  rw [← mkD_get hi]
  exact h _ (List.getElem_mem hi)
theorem nxD_lt {ms : List MK} {i : Nat} (h : i < ms.length) : nxD ms i < ms.length := Nat.mod_lt _ (by omega)

set_option maxRecDepth 100000 in
set_option maxHeartbeats 4000000 in
theorem l09DataMark_any (n : Nat) (ms : List MK) (A : Option Addr) (q i : Nat) (w : World) (hr : Rd w w.heap.size 3 A ms.length (flat fM ms)) (hi : i < ms.length) (hl : ms.length ≤ 100000) (h0 : 0 < n) (hn : n ≤ 8000) (hms : inM n ms) :
    Calls Tryz.prog 47 #[.int .i64 (n : Int), .slice A ms.length q, .int .i64 (i : Int)] w fun e w' => e = .returned (.int .i64 (dmV (dmF n ms i))) ∧ ∃ k, w' = w.drewN k := by
  obtain ⟨j, hj⟩ : ∃ j, nxD ms i = j := ⟨_, rfl⟩
  have hjl : j < ms.length := by rw [← hj]; exact nxD_lt hi
  obtain ⟨b, off, rfl, hb0, hci⟩ := hr.at_ fM_len rfl i hi
  obtain ⟨b', off', he, hb0', hcj⟩ := hr.at_ fM_len rfl j hjl
  cases he
  rw [mkD_get hi] at hci
  rw [mkD_get hjl] at hcj
  obtain ⟨hki, hpi, hbi⟩ := inM_at hms hi
  obtain ⟨hkj, hpj, hbj⟩ := inM_at hms hjl
  obtain ⟨⟨ki, pi, bi⟩, hmi⟩ : ∃ m, mkD ms i = m := ⟨_, rfl⟩
  obtain ⟨⟨kj, pj, bj⟩, hmj⟩ : ∃ m, mkD ms j = m := ⟨_, rfl⟩
  obtain ⟨R, hR⟩ : ∃ R, dmV (dmF n ms i) = R := ⟨_, rfl⟩
  rw [hR]
  have HR := Lib.hid (show dmV (if kj = 1 ∨ 320 < (pj + n - bi) % n then none else some j) = R by
    rw [← hR]
    unfold dmF
    rw [hj, hmi, hmj])
  rw [hmi] at hci hki hpi hbi
  rw [hmj] at hcj hkj hpj hbj
  have hc2 := hci 2 _ (by omega) rfl
  have hd0 := hcj 0 _ (by omega) rfl
  have hd1 := hcj 1 _ (by omega) rfl
  simp only [← Nat.add_assoc, Nat.add_zero] at hc2 hd0 hd1
  dsimp only at hki hpi hbi hkj hpj hbj
  clear hci hcj hmi hmj hR hms
  obtain ⟨N, hN⟩ : ∃ N, ms.length = N := ⟨_, rfl⟩
  have hjm : (i + 1) % N = j := by rw [← hj, ← hN]; rfl
  rw [hN] at hi hjl hl ⊢
  clear hj hN hr
  have hw0 : IntKind.i64.wrap ((i : Int) + 1) = (i : Int) + 1 := IntWalk.i64_in _ (by omega)
  have hrm : ((i : Int) + 1).tmod (N : Int) = (j : Int) := by rw [show (i : Int) + 1 = ((i + 1 : Nat) : Int) by omega, rem_nat, hjm]
  have hwr : IntKind.i64.wrap (j : Int) = (j : Int) := IntWalk.i64_in _ (by omega)
  have hnz : ¬ (N : Int) = 0 := by omega
  have hnn : ¬ N = 0 := by omega
  have hnz2 : ((N : Int) == 0) = false := by rw [beq_eq_false_iff_ne]; omega
  obtain ⟨r, hrr⟩ : ∃ r, (pj + n - bi) % n = r := ⟨_, rfl⟩
  have cb := fun W => CellsBetween_any n bi pj W h0 hn hbi hpj
  rw [hrr] at cb HR
  clear hrr hjm
  by_cases h1 : kj = 1
  · have e1 : ((kj : Int) == 1) = true := by rw [h1]; rfl
    have HN := Lib.hid (show -1 = R by rw [← HR.out, if_pos (.inl h1)]; rfl)
    clear h1 hkj
    go_enter Tryz.func47, Tryz.ntmps47
    go_wp2_with fail
    go_quiet (fail)
    go_wp2
    go_ret
    exact ⟨ret_int HN.out, _, rfl⟩
  · have e1 : ((kj : Int) == 1) = false := by rw [beq_eq_false_iff_ne]; omega
    have HK := Lib.hid h1
    clear h1 hkj
    by_cases h2 : 320 < r
    · have e2 : decide ((320 : Int) < (r : Int)) = true := decide_eq_true (by omega)
      have HN := Lib.hid (show -1 = R by rw [← HR.out, if_pos (.inr h2)]; rfl)
      go_enter Tryz.func47, Tryz.ntmps47
      go_wp2_with fail
      go_quiet ((go_at_call 73; with_reducible exact quiet_left (cb _)))
      go_wp2
      go_ret
      exact ⟨ret_int HN.out, _, rfl⟩
    · have e2 : decide ((320 : Int) < (r : Int)) = false := decide_eq_false (by omega)
      have HN := Lib.hid (show (j : Int) = R by rw [← HR.out, if_neg (by rintro (h | h); exact HK.out h; exact h2 h)]; rfl)
      go_enter Tryz.func47, Tryz.ntmps47
      go_wp2_with fail
      go_quiet ((go_at_call 73; with_reducible exact quiet_left (cb _)))
      go_wp2
      go_ret
      exact ⟨ret_int HN.out, _, rfl⟩
end Go.Proofs.YtlfmpgfobkmgfaaGreatDoor
namespace Go.Proofs.YtlfmpgfobkmgfaaGreatDoor
set_option linter.unusedVariables false
set_option linter.unusedSimpArgs false

/-- g is read and has f's address. -/
def sameF (f g : DFound) : Bool := decide (g.f5 ≠ 2) && (decide (g.f0 = f.f0) && (decide (g.f1 = f.f1) && (decide (g.f2 = f.f2) && decide (g.f3 = f.f3))))
def idxF (o : Option Nat) : Int := match o with | some j => (j : Int) | none => -1
theorem find_none {α : Type} {p : α → Bool} {l : List α} {n : Nat} (hn : n = l.length) (h : ∀ j (hj : j < l.length), j < n → p l[j] = false) : l.findIdx? p = none := by
  rw [List.findIdx?_eq_none_iff]
  intro x hx
  obtain ⟨j, hj, rfl⟩ := List.getElem_of_mem hx
  exact h j hj (by omega)
theorem find_some {α : Type} {p : α → Bool} {l : List α} {k : Nat} (hk : k < l.length) (hp : p l[k] = true) (h : ∀ j (hj : j < l.length), j < k → p l[j] = false) : l.findIdx? p = some k := by
  rw [List.findIdx?_eq_some_iff_getElem]
  exact ⟨hk, hp, fun j hj => by rw [h j (by omega) hj]; decide⟩
/-- The first sector before k with y's address. -/
def ftD (zs : List DFound) (k : Nat) (y : DFound) : Option Nat := (zs.take k).findIdx? (sameF y)
def dupF (k : Nat) : Option Nat → List DFeature
  | some j => [⟨1, (k : Int), (j : Int)⟩]
  | none => []
def adF (cy hd : Int) (k : Nat) (y : DFound) : List DFeature := if y.f0 = cy ∧ y.f1 = hd then [] else [⟨2, (k : Int), 0⟩]
def stF (k : Nat) (y : DFound) : List DFeature := if y.f5 = 3 then [⟨4, (k : Int), 0⟩] else if y.f5 = 4 then [⟨5, (k : Int), 0⟩] else []
def deF (k : Nat) (y : DFound) : List DFeature := if y.f6 = true then [⟨6, (k : Int), 0⟩] else []
def ftF (zs : List DFound) (cy hd : Int) (k : Nat) (y : DFound) : List DFeature :=
  if y.f5 = 2 then [⟨3, (k : Int), 0⟩] else dupF k (ftD zs k y) ++ (adF cy hd k y ++ (stF k y ++ deF k y))
def dF0 : DFound := ⟨0, 0, 0, 0, ⟨#[]⟩, 0, false, 0⟩
def ftK (zs : List DFound) (cy hd : Int) : Nat → List DFeature
  | 0 => []
  | k + 1 => ftK zs cy hd k ++ ftF zs cy hd k (zs.getD k dF0)
theorem dupF_len (k : Nat) (o : Option Nat) : (dupF k o).length ≤ 1 := by cases o <;> simp [dupF]
theorem ftF_len (zs : List DFound) (cy hd : Int) (k : Nat) (y : DFound) : (ftF zs cy hd k y).length ≤ 4 := by
  have h1 := dupF_len k (ftD zs k y)
  have h2 : (adF cy hd k y).length ≤ 1 := by unfold adF; split <;> simp
  have h3 : (stF k y).length ≤ 1 := by unfold stF; split; simp; split <;> simp
  have h4 : (deF k y).length ≤ 1 := by unfold deF; split <;> simp
  unfold ftF
  split
  · simp
  · rw [List.length_append, List.length_append, List.length_append]
    omega
theorem ftK_len (zs : List DFound) (cy hd : Int) : ∀ k, (ftK zs cy hd k).length ≤ 4 * k
  | 0 => by simp [ftK]
  | k + 1 => by
    have h := ftK_len zs cy hd k
    have h2 := ftF_len zs cy hd k (zs.getD k dF0)
    unfold ftK
    rw [List.length_append]
    omega
theorem ftD_lt {zs : List DFound} {k j : Nat} {y : DFound} (h : ftD zs k y = some j) : j < k := by
  unfold ftD at h
  obtain ⟨h1, _⟩ := List.findIdx?_eq_some_iff_getElem.1 h
  rw [List.length_take] at h1
  omega
theorem ftD_none {zs : List DFound} {k : Nat} {y : DFound} (hk : k ≤ zs.length) (h : ∀ j (hj : j < zs.length), j < k → sameF y zs[j] = false) : ftD zs k y = none := by
  unfold ftD
  refine find_none rfl (fun j hj _ => ?_)
  rw [List.length_take] at hj
  rw [List.getElem_take]
  exact h j (by omega) (by omega)
theorem ftD_some {zs : List DFound} {k m : Nat} {y : DFound} (hk : k ≤ zs.length) (hm : m < k) (hy : sameF y (zs[m]'(by omega)) = true) (h : ∀ j (hj : j < zs.length), j < m → sameF y zs[j] = false) : ftD zs k y = some m := by
  unfold ftD
  refine find_some (by rw [List.length_take]; omega) ?_ (fun j hj hjm => ?_)
  · rw [List.getElem_take]; exact hy
  · rw [List.length_take] at hj
    rw [List.getElem_take]
    exact h j (by omega) hjm
/-- The headers' sectors up to the mark k. -/
def hdK (ms : List MK) (k : Nat) : List Nat := (List.range k).filter fun i => (ms.getD i (0, 0, 0)).1 == 1
theorem hdK_s (ms : List MK) (k : Nat) : hdK ms (k + 1) = hdK ms k ++ (if ((ms.getD k (0, 0, 0)).1 == 1) = true then [k] else []) := by
  unfold hdK
  rw [List.range_succ, List.filter_append]
  congr 1
  cases h : ((ms.getD k (0, 0, 0)).1 == 1) <;> simp only [List.filter, h] <;> rfl
theorem hdK_len (ms : List MK) (k : Nat) : (hdK ms k).length ≤ k := by
  have h : (hdK ms k).length ≤ (List.range k).length := List.length_filter_le _ _
  rw [List.length_range] at h
  exact h
end Go.Proofs.YtlfmpgfobkmgfaaGreatDoor
namespace Go.Proofs.YtlfmpgfobkmgfaaGreatDoor
open Go.RowKit Go.Deep
set_option linter.unusedVariables false
set_option linter.unusedSimpArgs false

def gD (l : List UInt8) (i : Nat) : Nat := (l.getD i 0).toNat
/-- A sector that is read. -/
def secF (f : Int) (c : List UInt8) (ms : List MK) (i : Nat) : DFound :=
  match fldL f c (mkD ms i).1 (mkD ms i).2.2 4 with
  | none => ⟨0, 0, 0, 0, ⟨#[]⟩, 2, false, (mkD ms i).2.1⟩
  | some (l, ok) =>
    if ok = false ∨ 2 < gD l 3 then ⟨gD l 0, gD l 1, gD l 2, gD l 3, ⟨#[]⟩, 2, false, (mkD ms i).2.1⟩
    else match dmF c.length ms i with
      | none => ⟨gD l 0, gD l 1, gD l 2, gD l 3, ⟨#[]⟩, 4, false, (mkD ms i).2.1⟩
      | some j => match fldL f c (mkD ms j).1 (mkD ms j).2.2 (8 * 2 ^ gD l 3) with
        | none => ⟨gD l 0, gD l 1, gD l 2, gD l 3, ⟨#[]⟩, 4, false, (mkD ms i).2.1⟩
        | some (d, ok2) => ⟨gD l 0, gD l 1, gD l 2, gD l 3, str1 d, if ok2 = true then 1 else 3, (mkD ms j).1 == 3, (mkD ms i).2.1⟩
def zF : List Value := [.int .i64 0, .int .i64 0, .int .i64 0, .int .i64 0, .string ⟨#[]⟩, .int .i64 0, .bool false, .int .i64 0]
/-- The two boxes of a reader of sectors. -/
structure ZX (w W : World) (vs : List Value) : Prop where
  Z : BX W w.heap.size 45 zF
  F : BX W (w.heap.size + 1) 45 vs
  B : BB w W
section
variable {w W W' : World} {vs : List Value}
theorem ZX.next (h : ZX w W vs) (hx : Below W.heap.size W W') : ZX w W' vs := ⟨h.Z.below hx h.Z.lt, h.F.below hx h.F.lt, BB.next h.B hx⟩
theorem ZX.dn (h : ZX w W vs) (n : Nat) : ZX w (W.drewN n) vs := ⟨h.Z, h.F, BB.dn h.B n⟩
theorem ZX.dr (h : ZX w W vs) : ZX w W.drew vs := ⟨h.Z, h.F, BB.dr h.B⟩
theorem ZX.put (h : ZX w W vs) (j : Nat) (u : Value) : ZX w (W.setCell ⟨w.heap.size + 1, j, none⟩ u) (vs.set j u) := ⟨h.Z.far (a := ⟨w.heap.size + 1, j, none⟩) (by show w.heap.size ≠ w.heap.size + 1; omega) u, h.F.put j u, h.B.put (a := ⟨w.heap.size + 1, j, none⟩) (by show w.heap.size ≤ w.heap.size + 1; omega) u⟩
theorem ZX.made (w : World) (vs : List Value) : ZX w ((w.alloc (.cells zF.toArray 45)).alloc (.cells vs.toArray 45)) vs := ⟨(BX.made w 45 zF).al _, BX.made1 w _ 45 vs, BB.al (BB.al (BB.start w) _) _⟩
theorem bb8 (h : BB w W) (v0 v1 v2 v3 v4 v5 v6 v7 : Value) : BB w ((((((((W.setCell ⟨w.heap.size, 0, none⟩ v0).setCell ⟨w.heap.size, 1, none⟩ v1).setCell ⟨w.heap.size, 2, none⟩ v2).setCell ⟨w.heap.size, 3, none⟩ v3).setCell ⟨w.heap.size, 4, none⟩ v4).setCell ⟨w.heap.size, 5, none⟩ v5).setCell ⟨w.heap.size, 6, none⟩ v6).setCell ⟨w.heap.size, 7, none⟩ v7) :=
  (((((((h.put (Nat.le_refl _) v0).put (Nat.le_refl _) v1).put (Nat.le_refl _) v2).put (Nat.le_refl _) v3).put (Nat.le_refl _) v4).put (Nat.le_refl _) v5).put (Nat.le_refl _) v6).put (Nat.le_refl _) v7
end
theorem str1_get (l : List UInt8) (k : Nat) (h : k < (str1 l).size) : (str1 l)[k] = l.getD k 0 := getD_b (str1 l) k h
theorem fld_len {f : Int} {c : List UInt8} {k b n : Nat} {l : List UInt8} {ok : Bool} (h : fldL f c k b n = some (l, ok)) : l.length = n := by
  unfold fldL at h
  split at h
  · cases h
  · cases h
    rw [List.length_take, rawF_n f _ (n + 2) (by rw [cir_len, Nat.mul_comm])]
    omega

set_option maxRecDepth 100000 in
set_option maxHeartbeats 8000000 in
theorem l09Sector_any (f : Int) (s : ByteArray) (ms : List MK) (A : Option Addr) (q i : Nat) (w : World) (h0 : 0 < s.size) (hs : s.size ≤ 8000) (hbits : bitsB (bl s)) (hr : Rd w w.heap.size 3 A ms.length (flat fM ms)) (hi : i < ms.length) (hl : ms.length ≤ 100000) (hms : inM s.size ms) :
    Calls Tryz.prog 33 #[.string s, .int .i64 f, .slice A ms.length q, .int .i64 (i : Int)] w fun e w' => e = .returned (vFound (secF f (bl s) ms i)) ∧ Below w.heap.size w w' := by
  have hcn := blen s
  obtain ⟨b, off, rfl, hb0, hci⟩ := hr.at_ fM_len rfl i hi
  rw [mkD_get hi] at hci
  obtain ⟨hki, hpi, hbi⟩ := inM_at hms hi
  have fl := fun W => l09Field_any f s (mkD ms i).1 (mkD ms i).2.1 (mkD ms i).2.2 4 W h0 hs hbits hki hbi (by omega)
  obtain ⟨⟨ki, pi, bi⟩, hmi⟩ : ∃ m, mkD ms i = m := ⟨_, rfl⟩
  rw [hmi] at hci hki hpi hbi fl
  rw [show ((4 : Nat) : Int) = 4 from rfl] at fl
  obtain ⟨R, hR⟩ : ∃ R, secF f (bl s) ms i = R := ⟨_, rfl⟩
  rw [hR]
  have HMI := Lib.hid hmi
  have HR := Lib.hid hR
  have hc0 := hci 0 _ (by omega) rfl
  have hc1 := hci 1 _ (by omega) rfl
  have hc2 := hci 2 _ (by omega) rfl
  simp only [← Nat.add_assoc, Nat.add_zero] at hc0 hc1 hc2
  dsimp only at hki hpi hbi fl
  clear hci hR hmi
  have D0 := ZX.made w [.int .i64 0, .int .i64 0, .int .i64 0, .int .i64 0, .string ⟨#[]⟩, .int .i64 2, .bool false, .int .i64 (pi : Int)]
  have kk0 := (Below.alloc (Below.refl w.heap.size w) (Nat.le_refl _) (.cells zF.toArray 45)).cell (p := ⟨b, off + i * 3, none⟩) hb0
  obtain ⟨H, hH⟩ : ∃ H, fldL f (bl s) ki bi 4 = H := ⟨_, rfl⟩
  rw [hH] at fl
  have HH := Lib.hid hH
  go_enter Tryz.func33, Tryz.ntmps33
  go_upto_region 2 with fail
  have D1 : ZX w ((w.alloc (.cells #[.int .i64 0, .int .i64 0, .int .i64 0, .int .i64 0, .string ⟨#[]⟩, .int .i64 0, .bool false, .int .i64 0] 45)).alloc (.cells #[.int .i64 0, .int .i64 0, .int .i64 0, .int .i64 0, .string ⟨#[]⟩, .int .i64 2, .bool false, .int .i64 (pi : Int)] 45)) _ := D0
  clear D0
  generalize ((w.alloc (.cells #[.int .i64 0, .int .i64 0, .int .i64 0, .int .i64 0, .string ⟨#[]⟩, .int .i64 0, .bool false, .int .i64 0] 45)).alloc (.cells #[.int .i64 0, .int .i64 0, .int .i64 0, .int .i64 0, .string ⟨#[]⟩, .int .i64 2, .bool false, .int .i64 (pi : Int)] 45)) = W1 at D1 ⊢
  have y0 := (D1.B.cell (p := ⟨b, off + i * 3, none⟩) hb0).trans hc0
  have y1 := (D1.B.cell (p := ⟨b, off + i * 3 + 1, none⟩) hb0).trans hc1
  have y2 := (D1.B.cell (p := ⟨b, off + i * 3 + 2, none⟩) hb0).trans hc2
  clear hc0 hc1 hc2
  rcases H with _ | ⟨l, ok⟩
  · have HN := Lib.hid (show (⟨0, 0, 0, 0, ⟨#[]⟩, 2, false, (pi : Int)⟩ : DFound) = R by rw [← HR.out]; unfold secF; rw [HMI.out, HH.out])
    dsimp only [fldV] at fl
    go_wp2_with (go_at_call 46; (with_reducible refine (fl _).mono ?_); rintro e w2 ⟨rfl, hx2⟩; have D2 := D1.next hx2; have z0 : (_ : Option Value) = some (.int .i64 0) := D2.Z.cell 0 (by simp [zF]); have z1 : (_ : Option Value) = some (.int .i64 0) := D2.Z.cell 1 (by simp [zF]); have z2 : (_ : Option Value) = some (.int .i64 0) := D2.Z.cell 2 (by simp [zF]); have z3 : (_ : Option Value) = some (.int .i64 0) := D2.Z.cell 3 (by simp [zF]); have z4 : (_ : Option Value) = some (.string ⟨#[]⟩) := D2.Z.cell 4 (by simp [zF]); have z5 : (_ : Option Value) = some (.int .i64 0) := D2.Z.cell 5 (by simp [zF]); have z6 : (_ : Option Value) = some (.bool false) := D2.Z.cell 6 (by simp [zF]); have z7 : (_ : Option Value) = some (.int .i64 0) := D2.Z.cell 7 (by simp [zF]); have hfz := fun j => D2.Z.free j; have x0 : (_ : Option Value) = some (.int .i64 0) := D2.F.cell 0 (by simp); have x1 : (_ : Option Value) = some (.int .i64 0) := D2.F.cell 1 (by simp); have x2 : (_ : Option Value) = some (.int .i64 0) := D2.F.cell 2 (by simp); have x3 : (_ : Option Value) = some (.int .i64 0) := D2.F.cell 3 (by simp); have x4 : (_ : Option Value) = some (.string ⟨#[]⟩) := D2.F.cell 4 (by simp); have x5 : (_ : Option Value) = some (.int .i64 2) := D2.F.cell 5 (by simp); have x6 : (_ : Option Value) = some (.bool false) := D2.F.cell 6 (by simp); have x7 : (_ : Option Value) = some (.int .i64 (pi : Int)) := D2.F.cell 7 (by simp); have hfx := fun j => D2.F.free j)
    refine bodyPost_ret (v := vFound ⟨0, 0, 0, 0, ⟨#[]⟩, 2, false, (pi : Int)⟩) (by simp [results, Tryz.results33, go_sem, World.cell?_setCell_other, z0, z1, z2, z3, z4, z5, z6, z7, vFound]) rfl ⟨by rw [HN.out], bb8 D2.B _ _ _ _ _ _ _ _⟩
  · dsimp only [fldV] at fl
    have hll := fld_len hH
    obtain ⟨y, hy⟩ : ∃ y, str1 l = y := ⟨_, rfl⟩
    have hys : y.size = 4 := by rw [← hy, str1_size, hll]
    have e0 : y[0]'(by omega) = l.getD 0 0 := by subst hy; exact str1_get l 0 _
    have e1 : y[1]'(by omega) = l.getD 1 0 := by subst hy; exact str1_get l 1 _
    have e2 : y[2]'(by omega) = l.getD 2 0 := by subst hy; exact str1_get l 2 _
    have e3 : y[3]'(by omega) = l.getD 3 0 := by subst hy; exact str1_get l 3 _
    obtain ⟨b0, hb0'⟩ : ∃ x, l.getD 0 0 = x := ⟨_, rfl⟩
    obtain ⟨b1, hb1'⟩ : ∃ x, l.getD 1 0 = x := ⟨_, rfl⟩
    obtain ⟨b2, hb2'⟩ : ∃ x, l.getD 2 0 = x := ⟨_, rfl⟩
    obtain ⟨b3, hb3'⟩ : ∃ x, l.getD 3 0 = x := ⟨_, rfl⟩
    have HR1 := Lib.hid (show (if ok = false ∨ 2 < b3.toNat then ⟨b0.toNat, b1.toNat, b2.toNat, b3.toNat, ⟨#[]⟩, 2, false, (pi : Int)⟩
      else match dmF s.size ms i with
        | none => ⟨b0.toNat, b1.toNat, b2.toNat, b3.toNat, ⟨#[]⟩, 4, false, (pi : Int)⟩
        | some j => match fldL f (bl s) (mkD ms j).1 (mkD ms j).2.2 (8 * 2 ^ b3.toNat) with
          | none => ⟨b0.toNat, b1.toNat, b2.toNat, b3.toNat, ⟨#[]⟩, 4, false, (pi : Int)⟩
          | some (d, ok2) => (⟨b0.toNat, b1.toNat, b2.toNat, b3.toNat, str1 d, if ok2 = true then 1 else 3, (mkD ms j).1 == 3, (pi : Int)⟩ : DFound)) = R by
      have h := HR.out
      unfold secF at h
      rw [HMI.out] at h
      dsimp only at h
      rw [HH.out] at h
      dsimp only at h
      unfold gD at h
      rw [hb0', hb1', hb2', hb3', hcn] at h
      exact h)
    rw [hy] at fl
    rw [hb0'] at e0
    rw [hb1'] at e1
    rw [hb2'] at e2
    rw [hb3'] at e3
    have hb0l := b0.toNat_lt
    have hb1l := b1.toNat_lt
    have hb2l := b2.toNat_lt
    have hb3l := b3.toNat_lt
    clear hy hb0' hb1' hb2' hb3' hH HR HH HMI hll
    go_upto_region 9 with (go_at_call 46; (with_reducible refine (fl _).mono ?_); rintro e w2 ⟨rfl, hx2⟩; have D2 := D1.next hx2; have z0 : (_ : Option Value) = some (.int .i64 0) := D2.Z.cell 0 (by simp [zF]); have z1 : (_ : Option Value) = some (.int .i64 0) := D2.Z.cell 1 (by simp [zF]); have z2 : (_ : Option Value) = some (.int .i64 0) := D2.Z.cell 2 (by simp [zF]); have z3 : (_ : Option Value) = some (.int .i64 0) := D2.Z.cell 3 (by simp [zF]); have z4 : (_ : Option Value) = some (.string ⟨#[]⟩) := D2.Z.cell 4 (by simp [zF]); have z5 : (_ : Option Value) = some (.int .i64 0) := D2.Z.cell 5 (by simp [zF]); have z6 : (_ : Option Value) = some (.bool false) := D2.Z.cell 6 (by simp [zF]); have z7 : (_ : Option Value) = some (.int .i64 0) := D2.Z.cell 7 (by simp [zF]); have hfz := fun j => D2.Z.free j; have x0 : (_ : Option Value) = some (.int .i64 0) := D2.F.cell 0 (by simp); have x1 : (_ : Option Value) = some (.int .i64 0) := D2.F.cell 1 (by simp); have x2 : (_ : Option Value) = some (.int .i64 0) := D2.F.cell 2 (by simp); have x3 : (_ : Option Value) = some (.int .i64 0) := D2.F.cell 3 (by simp); have x4 : (_ : Option Value) = some (.string ⟨#[]⟩) := D2.F.cell 4 (by simp); have x5 : (_ : Option Value) = some (.int .i64 2) := D2.F.cell 5 (by simp); have x6 : (_ : Option Value) = some (.bool false) := D2.F.cell 6 (by simp); have x7 : (_ : Option Value) = some (.int .i64 (pi : Int)) := D2.F.cell 7 (by simp); have hfx := fun j => D2.F.free j)
    have D3 : ZX w ((((w2.setCell ⟨w.heap.size + 1, 0, none⟩ (.int .i64 (b0.toNat : Int))).setCell ⟨w.heap.size + 1, 1, none⟩ (.int .i64 (b1.toNat : Int))).setCell ⟨w.heap.size + 1, 2, none⟩ (.int .i64 (b2.toNat : Int))).setCell ⟨w.heap.size + 1, 3, none⟩ (.int .i64 (b3.toNat : Int))) [.int .i64 (b0.toNat : Int), .int .i64 (b1.toNat : Int), .int .i64 (b2.toNat : Int), .int .i64 (b3.toNat : Int), .string ⟨#[]⟩, .int .i64 2, .bool false, .int .i64 (pi : Int)] := (((D2.put 0 _).put 1 _).put 2 _).put 3 _
    clear z0 z1 z2 z3 z4 z5 z6 z7 hfz hfx hx2 D2 D1 fl e0 e1 e2 e3 y0 y1 y2
    generalize ((((w2.setCell ⟨w.heap.size + 1, 0, none⟩ (.int .i64 (b0.toNat : Int))).setCell ⟨w.heap.size + 1, 1, none⟩ (.int .i64 (b1.toNat : Int))).setCell ⟨w.heap.size + 1, 2, none⟩ (.int .i64 (b2.toNat : Int))).setCell ⟨w.heap.size + 1, 3, none⟩ (.int .i64 (b3.toNat : Int))) = W3 at D3 ⊢
    have z0 : (_ : Option Value) = some (.int .i64 0) := D3.Z.cell 0 (by simp [zF])
    have z1 : (_ : Option Value) = some (.int .i64 0) := D3.Z.cell 1 (by simp [zF])
    have z2 : (_ : Option Value) = some (.int .i64 0) := D3.Z.cell 2 (by simp [zF])
    have z3 : (_ : Option Value) = some (.int .i64 0) := D3.Z.cell 3 (by simp [zF])
    have z4 : (_ : Option Value) = some (.string ⟨#[]⟩) := D3.Z.cell 4 (by simp [zF])
    have z5 : (_ : Option Value) = some (.int .i64 0) := D3.Z.cell 5 (by simp [zF])
    have z6 : (_ : Option Value) = some (.bool false) := D3.Z.cell 6 (by simp [zF])
    have z7 : (_ : Option Value) = some (.int .i64 0) := D3.Z.cell 7 (by simp [zF])
    have hfz := fun j => D3.Z.free j
    have x0 : (_ : Option Value) = some (.int .i64 (b0.toNat : Int)) := D3.F.cell 0 (by simp)
    have x1 : (_ : Option Value) = some (.int .i64 (b1.toNat : Int)) := D3.F.cell 1 (by simp)
    have x2 : (_ : Option Value) = some (.int .i64 (b2.toNat : Int)) := D3.F.cell 2 (by simp)
    have x3 : (_ : Option Value) = some (.int .i64 (b3.toNat : Int)) := D3.F.cell 3 (by simp)
    have x4 : (_ : Option Value) = some (.string ⟨#[]⟩) := D3.F.cell 4 (by simp)
    have x5 : (_ : Option Value) = some (.int .i64 2) := D3.F.cell 5 (by simp)
    have x6 : (_ : Option Value) = some (.bool false) := D3.F.cell 6 (by simp)
    have x7 : (_ : Option Value) = some (.int .i64 (pi : Int)) := D3.F.cell 7 (by simp)
    have hfx := fun j => D3.F.free j
    have hstop : ok = false ∨ 2 < b3.toNat → (⟨b0.toNat, b1.toNat, b2.toNat, b3.toNat, ⟨#[]⟩, 2, false, (pi : Int)⟩ : DFound) = R := fun h => by rw [← HR1.out, if_pos h]
    cases ok
    · have HN := Lib.hid (hstop (.inl rfl))
      clear hstop
      go_wp2_with fail
      refine bodyPost_ret (v := vFound ⟨b0.toNat, b1.toNat, b2.toNat, b3.toNat, ⟨#[]⟩, 2, false, (pi : Int)⟩) (by simp [results, Tryz.results33, go_sem, World.cell?_setCell_other, z0, z1, z2, z3, z4, z5, z6, z7, vFound]) rfl ⟨by rw [HN.out], bb8 D3.B _ _ _ _ _ _ _ _⟩
    · by_cases h2 : 2 < b3.toNat
      · have HN := Lib.hid (hstop (.inr h2))
        have h2i : decide ((2 : Int) < (b3.toNat : Int)) = true := decide_eq_true (by omega)
        clear hstop
        go_wp2_with fail
        refine bodyPost_ret (v := vFound ⟨b0.toNat, b1.toNat, b2.toNat, b3.toNat, ⟨#[]⟩, 2, false, (pi : Int)⟩) (by simp [results, Tryz.results33, go_sem, World.cell?_setCell_other, z0, z1, z2, z3, z4, z5, z6, z7, vFound]) rfl ⟨by rw [HN.out], bb8 D3.B _ _ _ _ _ _ _ _⟩
      · have h2i : decide ((2 : Int) < (b3.toNat : Int)) = false := decide_eq_false (by omega)
        have HR2 := Lib.hid ((if_neg (show ¬ (true = false ∨ 2 < b3.toNat) by rintro (h | h); cases h; exact h2 h)).symm.trans HR1.out)
        clear hstop HR1
        have D4 := D3.put 5 (.int .i64 4)
        have dm := l09DataMark_any s.size ms (some ⟨b, off, none⟩) q i _ ((hr.below D4.B).more D4.B.size) hi hl h0 hs hms
        have hdj : ∀ j, dmF s.size ms i = some j → j < ms.length := fun j h => by
          unfold dmF at h
          split at h
          · cases h
          · cases h
            exact nxD_lt hi
        obtain ⟨dj, hj⟩ : ∃ x, dmF s.size ms i = x := ⟨_, rfl⟩
        rw [hj] at dm HR2 hdj
        clear hj
        go_upto_region 13 with (go_at_call 47; (with_reducible refine dm.mono ?_); rintro e w5 ⟨rfl, n5, rfl⟩)
        have D5 : ZX w ((W3.setCell ⟨w.heap.size + 1, 5, none⟩ (.int .i64 4)).drewN n5) [.int .i64 (b0.toNat : Int), .int .i64 (b1.toNat : Int), .int .i64 (b2.toNat : Int), .int .i64 (b3.toNat : Int), .string ⟨#[]⟩, .int .i64 4, .bool false, .int .i64 (pi : Int)] := D4.dn n5
        clear z0 z1 z2 z3 z4 z5 z6 z7 x0 x1 x2 x3 x4 x5 x6 x7 hfz hfx D3 D4 dm
        generalize ((W3.setCell ⟨w.heap.size + 1, 5, none⟩ (.int .i64 4)).drewN n5) = W5 at D5 ⊢
        have z0 : (_ : Option Value) = some (.int .i64 0) := D5.Z.cell 0 (by simp [zF])
        have z1 : (_ : Option Value) = some (.int .i64 0) := D5.Z.cell 1 (by simp [zF])
        have z2 : (_ : Option Value) = some (.int .i64 0) := D5.Z.cell 2 (by simp [zF])
        have z3 : (_ : Option Value) = some (.int .i64 0) := D5.Z.cell 3 (by simp [zF])
        have z4 : (_ : Option Value) = some (.string ⟨#[]⟩) := D5.Z.cell 4 (by simp [zF])
        have z5 : (_ : Option Value) = some (.int .i64 0) := D5.Z.cell 5 (by simp [zF])
        have z6 : (_ : Option Value) = some (.bool false) := D5.Z.cell 6 (by simp [zF])
        have z7 : (_ : Option Value) = some (.int .i64 0) := D5.Z.cell 7 (by simp [zF])
        have hfz := fun j => D5.Z.free j
        have x0 : (_ : Option Value) = some (.int .i64 (b0.toNat : Int)) := D5.F.cell 0 (by simp)
        have x1 : (_ : Option Value) = some (.int .i64 (b1.toNat : Int)) := D5.F.cell 1 (by simp)
        have x2 : (_ : Option Value) = some (.int .i64 (b2.toNat : Int)) := D5.F.cell 2 (by simp)
        have x3 : (_ : Option Value) = some (.int .i64 (b3.toNat : Int)) := D5.F.cell 3 (by simp)
        have x4 : (_ : Option Value) = some (.string ⟨#[]⟩) := D5.F.cell 4 (by simp)
        have x5 : (_ : Option Value) = some (.int .i64 4) := D5.F.cell 5 (by simp)
        have x6 : (_ : Option Value) = some (.bool false) := D5.F.cell 6 (by simp)
        have x7 : (_ : Option Value) = some (.int .i64 (pi : Int)) := D5.F.cell 7 (by simp)
        have hfx := fun j => D5.F.free j
        rcases dj with _ | j
        · have HN := Lib.hid HR2.out
          dsimp only [dmV]
          go_wp2_with fail
          refine bodyPost_ret (v := vFound ⟨b0.toNat, b1.toNat, b2.toNat, b3.toNat, ⟨#[]⟩, 4, false, (pi : Int)⟩) (by simp [results, Tryz.results33, go_sem, World.cell?_setCell_other, z0, z1, z2, z3, z4, z5, z6, z7, vFound]) rfl ⟨by rw [← HN.out], bb8 D5.B _ _ _ _ _ _ _ _⟩
        · have hjl := hdj j rfl
          have hjn : decide ((j : Int) < 0) = false := decide_eq_false (by omega)
          have hjn2 : ¬ (j : Int) < 0 := by omega
          obtain ⟨b', off', he, _, hcj⟩ := hr.at_ fM_len rfl j hjl
          cases he
          rw [mkD_get hjl] at hcj
          obtain ⟨hkj, hpj, hbj⟩ := inM_at hms hjl
          have fl := fun (n : Nat) (W : World) (hn : n ≤ 32) => l09Field_any f s (mkD ms j).1 (mkD ms j).2.1 (mkD ms j).2.2 n W h0 hs hbits hkj hbj hn
          obtain ⟨⟨kj, pj, bj⟩, hmj⟩ : ∃ m, mkD ms j = m := ⟨_, rfl⟩
          have HR3 := Lib.hid HR2.out
          have HR4 := HR3.out
          dsimp only at HR4
          rw [hmj] at hcj hkj hpj hbj fl HR4
          have hc0 := hcj 0 _ (by omega) rfl
          have hc1 := hcj 1 _ (by omega) rfl
          have hc2 := hcj 2 _ (by omega) rfl
          simp only [← Nat.add_assoc, Nat.add_zero] at hc0 hc1 hc2
          dsimp only at hkj hpj hbj fl HR4
          have y0 := (D5.B.cell (p := ⟨b, off + j * 3, none⟩) hb0).trans hc0
          have y1 := (D5.B.cell (p := ⟨b, off + j * 3 + 1, none⟩) hb0).trans hc1
          have y2 := (D5.B.cell (p := ⟨b, off + j * 3 + 2, none⟩) hb0).trans hc2
          have hcw0 := hc0
          have hcw1 := hc1
          have hcw2 := hc2
          have hk3 : ((kj : Int) == 3) = (kj == 3) := by
            rcases hkj with rfl | rfl | rfl <;> rfl
          obtain ⟨K3, hK3⟩ : ∃ K, (kj == 3) = K := ⟨_, rfl⟩
          rw [hK3] at hk3 HR4
          clear hmj HR3 HR2 hcj hc0 hc1 hc2 hK3 hb3l h2i
          dsimp only [dmV]
          generalize b3.toNat = t3 at h2 HR4 x3 D5 ⊢
          have ht3 : t3 = 0 ∨ t3 = 1 ∨ t3 = 2 := by omega
          clear h2
          rcases ht3 with rfl | rfl | rfl
          · have fl := fun W => fl 8 W (by omega)
            rw [show ((8 : Nat) : Int) = 8 from rfl] at fl
            rw [show 8 * 2 ^ 0 = 8 from rfl] at HR4
            obtain ⟨H2, hH2⟩ : ∃ H, fldL f (bl s) kj bj 8 = H := ⟨_, rfl⟩
            rw [hH2] at fl HR4
            have HR5 := Lib.hid HR4
            clear hH2 HR4
            go_upto_region 15 with fail
            rcases H2 with _ | ⟨d, ok2⟩
            · dsimp only [fldV] at fl
              refine wp_region_held_drew (S := (fun W => W.cell? ⟨b, off + j * 3, none⟩ = some (.int .i64 (kj : Int)) ∧ W.cell? ⟨b, off + j * 3 + 1, none⟩ = some (.int .i64 (pj : Int)) ∧ W.cell? ⟨b, off + j * 3 + 2, none⟩ = some (.int .i64 (bj : Int)) ∧ W.cell? ⟨w.heap.size + 1, 3, none⟩ = some (.int .i64 0))) (by kernel_rfl) ?hS1 (fun hHeld => ?rest2)
              case hS1 => (exact ⟨y0, y1, y2, x3⟩)
              refine wpAnyH_take (i := 0) (oi := _) (v := ?v3) rfl (by kernel_rfl) (by kernel_rfl) (by kernel_rfl) (fun _ _ _ h => h) (Or.inl ⟨by rfl, ?hy4⟩) hHeld ?rest5
              case hy4 => (intro w hSw; (try dsimp only at hSw); go_simp; (try with_reducible rfl))
              try simp only [Act.put, List.setIfInBounds_toArray, List.set_cons_zero, List.set_cons_succ]
              refine wpAnyH_take (i := 1) (oi := _) (v := ?v6) rfl (by kernel_rfl) (by kernel_rfl) (by kernel_rfl) (fun _ _ _ h => h) (Or.inl ⟨by rfl, ?hy7⟩) hHeld ?rest8
              case hy7 => (intro w hSw; (try dsimp only at hSw); go_simp; (try with_reducible rfl))
              try simp only [Act.put, List.setIfInBounds_toArray, List.set_cons_zero, List.set_cons_succ]
              refine wpAnyH_take (i := 2) (oi := _) (v := ?v9) rfl (by kernel_rfl) (by kernel_rfl) (by kernel_rfl) (fun _ _ _ h => h) (Or.inl ⟨by rfl, ?hy10⟩) hHeld ?rest11
              case hy10 => (intro w hSw; (try dsimp only at hSw); go_simp; (try with_reducible rfl))
              try simp only [Act.put, List.setIfInBounds_toArray, List.set_cons_zero, List.set_cons_succ]
              refine wpAnyH_take (i := 3) (oi := _) (v := ?v12) rfl (by kernel_rfl) (by kernel_rfl) (by kernel_rfl) (fun _ _ _ h => h) (Or.inl ⟨by rfl, ?hy13⟩) hHeld ?rest14
              case hy13 => (intro w hSw; (try dsimp only at hSw); go_simp; (try with_reducible rfl))
              try simp only [Act.put, List.setIfInBounds_toArray, List.set_cons_zero, List.set_cons_succ]
              refine wpAnyH_take (i := 4) (oi := _) (v := ?v15) rfl (by kernel_rfl) (by kernel_rfl) (by kernel_rfl) (fun _ _ _ h => h) (Or.inl ⟨by rfl, ?hy16⟩) hHeld ?rest17
              case hy16 => (intro w hSw; (try dsimp only at hSw); go_simp; (try with_reducible rfl))
              try simp only [Act.put, List.setIfInBounds_toArray, List.set_cons_zero, List.set_cons_succ]
              refine wpAnyH_take (i := 5) (oi := _) (v := ?v18) rfl (by kernel_rfl) (by kernel_rfl) (by kernel_rfl) (fun _ _ _ h => h) (Or.inl ⟨by rfl, ?hy19⟩) hHeld ?rest20
              case hy19 => (intro w hSw; (try dsimp only at hSw); go_simp; (try with_reducible rfl))
              try simp only [Act.put, List.setIfInBounds_toArray, List.set_cons_zero, List.set_cons_succ]
              refine wpAnyH_take (i := 6) (oi := _) (v := ?v21) rfl (by kernel_rfl) (by kernel_rfl) (by kernel_rfl) (fun _ _ _ h => h) (Or.inl ⟨by rfl, ?hy22⟩) hHeld ?rest23
              case hy22 => (intro w hSw; (try dsimp only at hSw); go_simp; (try with_reducible rfl))
              try simp only [Act.put, List.setIfInBounds_toArray, List.set_cons_zero, List.set_cons_succ]
              refine wpAnyH_take (i := 7) (oi := _) (v := ?v24) rfl (by kernel_rfl) (by kernel_rfl) (by kernel_rfl) (fun _ _ _ h => h) (Or.inl ⟨by rfl, ?hy25⟩) hHeld ?rest26
              case hy25 => (intro w hSw; (try dsimp only at hSw); go_simp; (try with_reducible rfl))
              try simp only [Act.put, List.setIfInBounds_toArray, List.set_cons_zero, List.set_cons_succ]
              refine wpAnyH_take (i := 8) (oi := _) (v := ?v27) rfl (by kernel_rfl) (by kernel_rfl) (by kernel_rfl) (fun _ _ _ h => h) (Or.inl ⟨by rfl, ?hy28⟩) hHeld ?rest29
              case hy28 => (intro w hSw; (try dsimp only at hSw); go_simp; (try with_reducible rfl))
              try simp only [Act.put, List.setIfInBounds_toArray, List.set_cons_zero, List.set_cons_succ]
              refine wpAnyH_take (i := 9) (oi := _) (v := ?v30) rfl (by kernel_rfl) (by kernel_rfl) (by kernel_rfl) (fun _ _ _ h => h) (Or.inl ⟨by rfl, ?hy31⟩) hHeld ?rest32
              case hy31 => (intro w hSw; (try dsimp only at hSw); go_simp; (try with_reducible rfl))
              try simp only [Act.put, List.setIfInBounds_toArray, List.set_cons_zero, List.set_cons_succ]
              refine wpAnyH_ready (rs := [10]) (by kernel_rfl) (by simp) ?_
              refine AllReadyH.cons (o := _) rfl (fun K hK => ?stp57) ?more58
              case stp57 =>
                go_simp
                refine (fl _).mono ?_
                rintro e w6 ⟨rfl, hx6⟩
                have D6 := D5.dr.next hx6
                (try go_wp2_with fail)
                refine hK.out _ _ ?hS59 (fun hHeld2 => ?rest60)
                case hS59 => (exact ⟨(D6.B.cell (p := ⟨b, off + j * 3, none⟩) hb0).trans hcw0, (D6.B.cell (p := ⟨b, off + j * 3 + 1, none⟩) hb0).trans hcw1, (D6.B.cell (p := ⟨b, off + j * 3 + 2, none⟩) hb0).trans hcw2, D6.F.cell 3 (by simp)⟩)
                clear hK K hHeld
                have hHeld := hHeld2
                clear hHeld2
                try simp only [Act.put, List.setIfInBounds_toArray, List.set_cons_zero, List.set_cons_succ]
                refine wpAnyH_take (i := 11) (oi := _) (v := ?v33) rfl (by kernel_rfl) (by kernel_rfl) (by kernel_rfl) (fun _ _ _ h => h) (Or.inl ⟨by rfl, ?hy34⟩) hHeld ?rest35
                case hy34 => (intro w hSw; (try dsimp only at hSw); go_simp; (try with_reducible rfl))
                try simp only [Act.put, List.setIfInBounds_toArray, List.set_cons_zero, List.set_cons_succ]
                refine wpAnyH_take (i := 12) (oi := _) (v := ?v36) rfl (by kernel_rfl) (by kernel_rfl) (by kernel_rfl) (fun _ _ _ h => h) (Or.inl ⟨by rfl, ?hy37⟩) hHeld ?rest38
                case hy37 => (intro w hSw; (try dsimp only at hSw); go_simp; (try with_reducible rfl))
                try simp only [Act.put, List.setIfInBounds_toArray, List.set_cons_zero, List.set_cons_succ]
                refine wpAnyH_take (i := 13) (oi := _) (v := ?v39) rfl (by kernel_rfl) (by kernel_rfl) (by kernel_rfl) (fun _ _ _ h => h) (Or.inl ⟨by rfl, ?hy40⟩) hHeld ?rest41
                case hy40 => (intro w hSw; (try dsimp only at hSw); go_simp; (try with_reducible rfl))
                try simp only [Act.put, List.setIfInBounds_toArray, List.set_cons_zero, List.set_cons_succ]
                refine wpAnyH_take (i := 14) (oi := _) (v := ?v42) rfl (by kernel_rfl) (by kernel_rfl) (by kernel_rfl) (fun _ _ _ h => h) (Or.inl ⟨by rfl, ?hy43⟩) hHeld ?rest44
                case hy43 => (intro w hSw; (try dsimp only at hSw); go_simp; (try with_reducible rfl))
                try simp only [Act.put, List.setIfInBounds_toArray, List.set_cons_zero, List.set_cons_succ]
                refine wpAnyH_ready (rs := [15]) (by kernel_rfl) (by simp) ?_
                refine AllReadyH.cons (o := _) rfl (fun K hK => ?stp53) ?more54
                case stp53 =>
                  go_simp
                  refine hK.out _ _ ?hS55 (fun hHeld2 => ?rest56)
                  case hS55 => (exact hHeld)
                  clear hK K hHeld
                  have hHeld := hHeld2
                  clear hHeld2
                  try simp only [Act.put, List.setIfInBounds_toArray, List.set_cons_zero, List.set_cons_succ]
                  refine wpAnyH_ready (rs := [16]) (by kernel_rfl) (by simp) ?_
                  refine AllReadyH.cons (o := _) rfl (fun K hK => ?stp49) ?more50
                  case stp49 =>
                    go_simp
                    refine hK.out _ _ ?hS51 (fun hHeld2 => ?rest52)
                    case hS51 => (exact hHeld)
                    clear hK K hHeld
                    have hHeld := hHeld2
                    clear hHeld2
                    try simp only [Act.put, List.setIfInBounds_toArray, List.set_cons_zero, List.set_cons_succ]
                    refine wpAnyH_ready (rs := [17]) (by kernel_rfl) (by simp) ?_
                    refine AllReadyH.cons (o := _) rfl (fun K hK => ?stp45) ?more46
                    case stp45 =>
                      go_simp
                      refine hK.out _ _ ?hS47 (fun hHeld2 => ?rest48)
                      case hS47 => (exact hHeld)
                      clear hK K hHeld
                      have hHeld := hHeld2
                      clear hHeld2
                      try simp only [Act.put, List.setIfInBounds_toArray, List.set_cons_zero, List.set_cons_succ]
                      refine wpAnyH_done (by kernel_rfl) ?_ _
                      have HN := Lib.hid HR5.out
                      have z0 : (_ : Option Value) = some (.int .i64 0) := D6.Z.cell 0 (by simp [zF])
                      have z1 : (_ : Option Value) = some (.int .i64 0) := D6.Z.cell 1 (by simp [zF])
                      have z2 : (_ : Option Value) = some (.int .i64 0) := D6.Z.cell 2 (by simp [zF])
                      have z3 : (_ : Option Value) = some (.int .i64 0) := D6.Z.cell 3 (by simp [zF])
                      have z4 : (_ : Option Value) = some (.string ⟨#[]⟩) := D6.Z.cell 4 (by simp [zF])
                      have z5 : (_ : Option Value) = some (.int .i64 0) := D6.Z.cell 5 (by simp [zF])
                      have z6 : (_ : Option Value) = some (.bool false) := D6.Z.cell 6 (by simp [zF])
                      have z7 : (_ : Option Value) = some (.int .i64 0) := D6.Z.cell 7 (by simp [zF])
                      have hfz := fun j => D6.Z.free j
                      have x0 : (_ : Option Value) = some (.int .i64 (b0.toNat : Int)) := D6.F.cell 0 (by simp)
                      have x1 : (_ : Option Value) = some (.int .i64 (b1.toNat : Int)) := D6.F.cell 1 (by simp)
                      have x2 : (_ : Option Value) = some (.int .i64 (b2.toNat : Int)) := D6.F.cell 2 (by simp)
                      have x3 : (_ : Option Value) = some (.int .i64 0) := D6.F.cell 3 (by simp)
                      have x4 : (_ : Option Value) = some (.string ⟨#[]⟩) := D6.F.cell 4 (by simp)
                      have x5 : (_ : Option Value) = some (.int .i64 4) := D6.F.cell 5 (by simp)
                      have x6 : (_ : Option Value) = some (.bool false) := D6.F.cell 6 (by simp)
                      have x7 : (_ : Option Value) = some (.int .i64 (pi : Int)) := D6.F.cell 7 (by simp)
                      have hfx := fun j => D6.F.free j
                      go_wp2_with fail
                      refine bodyPost_ret (v := vFound ⟨b0.toNat, b1.toNat, b2.toNat, 0, ⟨#[]⟩, 4, false, (pi : Int)⟩) (by simp [results, Tryz.results33, go_sem, World.cell?_setCell_other, z0, z1, z2, z3, z4, z5, z6, z7, vFound]) rfl ⟨by rw [← HN.out]; rfl, bb8 D6.B _ _ _ _ _ _ _ _⟩
                    exact AllReadyH.nil
                  exact AllReadyH.nil
                exact AllReadyH.nil
              exact AllReadyH.nil
            · dsimp only [fldV] at fl
              obtain ⟨z, hz⟩ : ∃ z, str1 d = z := ⟨_, rfl⟩
              have HR6 := HR5.out
              dsimp only at HR6
              rw [hz] at fl HR6
              have HR5 := Lib.hid HR6
              clear HR6 hz
              cases ok2
              · skip
                refine wp_region_held_drew (S := (fun W => W.cell? ⟨b, off + j * 3, none⟩ = some (.int .i64 (kj : Int)) ∧ W.cell? ⟨b, off + j * 3 + 1, none⟩ = some (.int .i64 (pj : Int)) ∧ W.cell? ⟨b, off + j * 3 + 2, none⟩ = some (.int .i64 (bj : Int)) ∧ W.cell? ⟨w.heap.size + 1, 3, none⟩ = some (.int .i64 0))) (by kernel_rfl) ?hS61 (fun hHeld => ?rest62)
                case hS61 => (exact ⟨y0, y1, y2, x3⟩)
                refine wpAnyH_take (i := 0) (oi := _) (v := ?v63) rfl (by kernel_rfl) (by kernel_rfl) (by kernel_rfl) (fun _ _ _ h => h) (Or.inl ⟨by rfl, ?hy64⟩) hHeld ?rest65
                case hy64 => (intro w hSw; (try dsimp only at hSw); go_simp; (try with_reducible rfl))
                try simp only [Act.put, List.setIfInBounds_toArray, List.set_cons_zero, List.set_cons_succ]
                refine wpAnyH_take (i := 1) (oi := _) (v := ?v66) rfl (by kernel_rfl) (by kernel_rfl) (by kernel_rfl) (fun _ _ _ h => h) (Or.inl ⟨by rfl, ?hy67⟩) hHeld ?rest68
                case hy67 => (intro w hSw; (try dsimp only at hSw); go_simp; (try with_reducible rfl))
                try simp only [Act.put, List.setIfInBounds_toArray, List.set_cons_zero, List.set_cons_succ]
                refine wpAnyH_take (i := 2) (oi := _) (v := ?v69) rfl (by kernel_rfl) (by kernel_rfl) (by kernel_rfl) (fun _ _ _ h => h) (Or.inl ⟨by rfl, ?hy70⟩) hHeld ?rest71
                case hy70 => (intro w hSw; (try dsimp only at hSw); go_simp; (try with_reducible rfl))
                try simp only [Act.put, List.setIfInBounds_toArray, List.set_cons_zero, List.set_cons_succ]
                refine wpAnyH_take (i := 3) (oi := _) (v := ?v72) rfl (by kernel_rfl) (by kernel_rfl) (by kernel_rfl) (fun _ _ _ h => h) (Or.inl ⟨by rfl, ?hy73⟩) hHeld ?rest74
                case hy73 => (intro w hSw; (try dsimp only at hSw); go_simp; (try with_reducible rfl))
                try simp only [Act.put, List.setIfInBounds_toArray, List.set_cons_zero, List.set_cons_succ]
                refine wpAnyH_take (i := 4) (oi := _) (v := ?v75) rfl (by kernel_rfl) (by kernel_rfl) (by kernel_rfl) (fun _ _ _ h => h) (Or.inl ⟨by rfl, ?hy76⟩) hHeld ?rest77
                case hy76 => (intro w hSw; (try dsimp only at hSw); go_simp; (try with_reducible rfl))
                try simp only [Act.put, List.setIfInBounds_toArray, List.set_cons_zero, List.set_cons_succ]
                refine wpAnyH_take (i := 5) (oi := _) (v := ?v78) rfl (by kernel_rfl) (by kernel_rfl) (by kernel_rfl) (fun _ _ _ h => h) (Or.inl ⟨by rfl, ?hy79⟩) hHeld ?rest80
                case hy79 => (intro w hSw; (try dsimp only at hSw); go_simp; (try with_reducible rfl))
                try simp only [Act.put, List.setIfInBounds_toArray, List.set_cons_zero, List.set_cons_succ]
                refine wpAnyH_take (i := 6) (oi := _) (v := ?v81) rfl (by kernel_rfl) (by kernel_rfl) (by kernel_rfl) (fun _ _ _ h => h) (Or.inl ⟨by rfl, ?hy82⟩) hHeld ?rest83
                case hy82 => (intro w hSw; (try dsimp only at hSw); go_simp; (try with_reducible rfl))
                try simp only [Act.put, List.setIfInBounds_toArray, List.set_cons_zero, List.set_cons_succ]
                refine wpAnyH_take (i := 7) (oi := _) (v := ?v84) rfl (by kernel_rfl) (by kernel_rfl) (by kernel_rfl) (fun _ _ _ h => h) (Or.inl ⟨by rfl, ?hy85⟩) hHeld ?rest86
                case hy85 => (intro w hSw; (try dsimp only at hSw); go_simp; (try with_reducible rfl))
                try simp only [Act.put, List.setIfInBounds_toArray, List.set_cons_zero, List.set_cons_succ]
                refine wpAnyH_take (i := 8) (oi := _) (v := ?v87) rfl (by kernel_rfl) (by kernel_rfl) (by kernel_rfl) (fun _ _ _ h => h) (Or.inl ⟨by rfl, ?hy88⟩) hHeld ?rest89
                case hy88 => (intro w hSw; (try dsimp only at hSw); go_simp; (try with_reducible rfl))
                try simp only [Act.put, List.setIfInBounds_toArray, List.set_cons_zero, List.set_cons_succ]
                refine wpAnyH_take (i := 9) (oi := _) (v := ?v90) rfl (by kernel_rfl) (by kernel_rfl) (by kernel_rfl) (fun _ _ _ h => h) (Or.inl ⟨by rfl, ?hy91⟩) hHeld ?rest92
                case hy91 => (intro w hSw; (try dsimp only at hSw); go_simp; (try with_reducible rfl))
                try simp only [Act.put, List.setIfInBounds_toArray, List.set_cons_zero, List.set_cons_succ]
                refine wpAnyH_ready (rs := [10]) (by kernel_rfl) (by simp) ?_
                refine AllReadyH.cons (o := _) rfl (fun K hK => ?stp117) ?more118
                case stp117 =>
                  go_simp
                  refine (fl _).mono ?_
                  rintro e w6 ⟨rfl, hx6⟩
                  have D6 := D5.dr.next hx6
                  (try go_wp2_with fail)
                  refine hK.out _ _ ?hS119 (fun hHeld2 => ?rest120)
                  case hS119 => (exact ⟨(D6.B.cell (p := ⟨b, off + j * 3, none⟩) hb0).trans hcw0, (D6.B.cell (p := ⟨b, off + j * 3 + 1, none⟩) hb0).trans hcw1, (D6.B.cell (p := ⟨b, off + j * 3 + 2, none⟩) hb0).trans hcw2, D6.F.cell 3 (by simp)⟩)
                  clear hK K hHeld
                  have hHeld := hHeld2
                  clear hHeld2
                  try simp only [Act.put, List.setIfInBounds_toArray, List.set_cons_zero, List.set_cons_succ]
                  refine wpAnyH_take (i := 11) (oi := _) (v := ?v93) rfl (by kernel_rfl) (by kernel_rfl) (by kernel_rfl) (fun _ _ _ h => h) (Or.inl ⟨by rfl, ?hy94⟩) hHeld ?rest95
                  case hy94 => (intro w hSw; (try dsimp only at hSw); go_simp; (try with_reducible rfl))
                  try simp only [Act.put, List.setIfInBounds_toArray, List.set_cons_zero, List.set_cons_succ]
                  refine wpAnyH_take (i := 12) (oi := _) (v := ?v96) rfl (by kernel_rfl) (by kernel_rfl) (by kernel_rfl) (fun _ _ _ h => h) (Or.inl ⟨by rfl, ?hy97⟩) hHeld ?rest98
                  case hy97 => (intro w hSw; (try dsimp only at hSw); go_simp; (try with_reducible rfl))
                  try simp only [Act.put, List.setIfInBounds_toArray, List.set_cons_zero, List.set_cons_succ]
                  refine wpAnyH_take (i := 13) (oi := _) (v := ?v99) rfl (by kernel_rfl) (by kernel_rfl) (by kernel_rfl) (fun _ _ _ h => h) (Or.inl ⟨by rfl, ?hy100⟩) hHeld ?rest101
                  case hy100 => (intro w hSw; (try dsimp only at hSw); go_simp; (try with_reducible rfl))
                  try simp only [Act.put, List.setIfInBounds_toArray, List.set_cons_zero, List.set_cons_succ]
                  refine wpAnyH_take (i := 14) (oi := _) (v := ?v102) rfl (by kernel_rfl) (by kernel_rfl) (by kernel_rfl) (fun _ _ _ h => h) (Or.inl ⟨by rfl, ?hy103⟩) hHeld ?rest104
                  case hy103 => (intro w hSw; (try dsimp only at hSw); go_simp; (try with_reducible rfl))
                  try simp only [Act.put, List.setIfInBounds_toArray, List.set_cons_zero, List.set_cons_succ]
                  refine wpAnyH_ready (rs := [15]) (by kernel_rfl) (by simp) ?_
                  refine AllReadyH.cons (o := _) rfl (fun K hK => ?stp113) ?more114
                  case stp113 =>
                    go_simp
                    refine hK.out _ _ ?hS115 (fun hHeld2 => ?rest116)
                    case hS115 => (exact hHeld)
                    clear hK K hHeld
                    have hHeld := hHeld2
                    clear hHeld2
                    try simp only [Act.put, List.setIfInBounds_toArray, List.set_cons_zero, List.set_cons_succ]
                    refine wpAnyH_ready (rs := [16]) (by kernel_rfl) (by simp) ?_
                    refine AllReadyH.cons (o := _) rfl (fun K hK => ?stp109) ?more110
                    case stp109 =>
                      go_simp
                      refine hK.out _ _ ?hS111 (fun hHeld2 => ?rest112)
                      case hS111 => (exact hHeld)
                      clear hK K hHeld
                      have hHeld := hHeld2
                      clear hHeld2
                      try simp only [Act.put, List.setIfInBounds_toArray, List.set_cons_zero, List.set_cons_succ]
                      refine wpAnyH_ready (rs := [17]) (by kernel_rfl) (by simp) ?_
                      refine AllReadyH.cons (o := _) rfl (fun K hK => ?stp105) ?more106
                      case stp105 =>
                        go_simp
                        refine hK.out _ _ ?hS107 (fun hHeld2 => ?rest108)
                        case hS107 => (exact hHeld)
                        clear hK K hHeld
                        have hHeld := hHeld2
                        clear hHeld2
                        try simp only [Act.put, List.setIfInBounds_toArray, List.set_cons_zero, List.set_cons_succ]
                        refine wpAnyH_done (by kernel_rfl) ?_ _
                        have HN := Lib.hid HR5.out
                        have z0 : (_ : Option Value) = some (.int .i64 0) := D6.Z.cell 0 (by simp [zF])
                        have z1 : (_ : Option Value) = some (.int .i64 0) := D6.Z.cell 1 (by simp [zF])
                        have z2 : (_ : Option Value) = some (.int .i64 0) := D6.Z.cell 2 (by simp [zF])
                        have z3 : (_ : Option Value) = some (.int .i64 0) := D6.Z.cell 3 (by simp [zF])
                        have z4 : (_ : Option Value) = some (.string ⟨#[]⟩) := D6.Z.cell 4 (by simp [zF])
                        have z5 : (_ : Option Value) = some (.int .i64 0) := D6.Z.cell 5 (by simp [zF])
                        have z6 : (_ : Option Value) = some (.bool false) := D6.Z.cell 6 (by simp [zF])
                        have z7 : (_ : Option Value) = some (.int .i64 0) := D6.Z.cell 7 (by simp [zF])
                        have hfz := fun j => D6.Z.free j
                        have x0 : (_ : Option Value) = some (.int .i64 (b0.toNat : Int)) := D6.F.cell 0 (by simp)
                        have x1 : (_ : Option Value) = some (.int .i64 (b1.toNat : Int)) := D6.F.cell 1 (by simp)
                        have x2 : (_ : Option Value) = some (.int .i64 (b2.toNat : Int)) := D6.F.cell 2 (by simp)
                        have x3 : (_ : Option Value) = some (.int .i64 0) := D6.F.cell 3 (by simp)
                        have x4 : (_ : Option Value) = some (.string ⟨#[]⟩) := D6.F.cell 4 (by simp)
                        have x5 : (_ : Option Value) = some (.int .i64 4) := D6.F.cell 5 (by simp)
                        have x6 : (_ : Option Value) = some (.bool false) := D6.F.cell 6 (by simp)
                        have x7 : (_ : Option Value) = some (.int .i64 (pi : Int)) := D6.F.cell 7 (by simp)
                        have hfx := fun j => D6.F.free j
                        have yk0 := (D6.B.cell (p := ⟨b, off + j * 3, none⟩) hb0).trans hcw0
                        go_upto_region 23 with fail
                        have D7 : ZX w (((w6.setCell ⟨w.heap.size + 1, 5, none⟩ (.int .i64 3)).setCell ⟨w.heap.size + 1, 4, none⟩ (.string z)).setCell ⟨w.heap.size + 1, 6, none⟩ (.bool K3)) [.int .i64 (b0.toNat : Int), .int .i64 (b1.toNat : Int), .int .i64 (b2.toNat : Int), .int .i64 0, .string z, .int .i64 3, .bool K3, .int .i64 (pi : Int)] := (((D6.put 5 _).put 4 _).put 6 _)
                        clear z0 z1 z2 z3 z4 z5 z6 z7 x0 x1 x2 x3 x4 x5 x6 x7 hfz hfx yk0
                        generalize (((w6.setCell ⟨w.heap.size + 1, 5, none⟩ (.int .i64 3)).setCell ⟨w.heap.size + 1, 4, none⟩ (.string z)).setCell ⟨w.heap.size + 1, 6, none⟩ (.bool K3)) = W7 at D7 ⊢
                        have z0 : (_ : Option Value) = some (.int .i64 0) := D7.Z.cell 0 (by simp [zF])
                        have z1 : (_ : Option Value) = some (.int .i64 0) := D7.Z.cell 1 (by simp [zF])
                        have z2 : (_ : Option Value) = some (.int .i64 0) := D7.Z.cell 2 (by simp [zF])
                        have z3 : (_ : Option Value) = some (.int .i64 0) := D7.Z.cell 3 (by simp [zF])
                        have z4 : (_ : Option Value) = some (.string ⟨#[]⟩) := D7.Z.cell 4 (by simp [zF])
                        have z5 : (_ : Option Value) = some (.int .i64 0) := D7.Z.cell 5 (by simp [zF])
                        have z6 : (_ : Option Value) = some (.bool false) := D7.Z.cell 6 (by simp [zF])
                        have z7 : (_ : Option Value) = some (.int .i64 0) := D7.Z.cell 7 (by simp [zF])
                        have hfz := fun j => D7.Z.free j
                        have x0 : (_ : Option Value) = some (.int .i64 (b0.toNat : Int)) := D7.F.cell 0 (by simp)
                        have x1 : (_ : Option Value) = some (.int .i64 (b1.toNat : Int)) := D7.F.cell 1 (by simp)
                        have x2 : (_ : Option Value) = some (.int .i64 (b2.toNat : Int)) := D7.F.cell 2 (by simp)
                        have x3 : (_ : Option Value) = some (.int .i64 0) := D7.F.cell 3 (by simp)
                        have x4 : (_ : Option Value) = some (.string z) := D7.F.cell 4 (by simp)
                        have x5 : (_ : Option Value) = some (.int .i64 3) := D7.F.cell 5 (by simp)
                        have x6 : (_ : Option Value) = some (.bool K3) := D7.F.cell 6 (by simp)
                        have x7 : (_ : Option Value) = some (.int .i64 (pi : Int)) := D7.F.cell 7 (by simp)
                        have hfx := fun j => D7.F.free j
                        go_wp2_with fail
                        refine bodyPost_ret (v := vFound ⟨b0.toNat, b1.toNat, b2.toNat, 0, z, 3, K3, (pi : Int)⟩) (by simp [results, Tryz.results33, go_sem, World.cell?_setCell_other, z0, z1, z2, z3, z4, z5, z6, z7, vFound]) rfl ⟨by rw [← HN.out]; rfl, bb8 D7.B _ _ _ _ _ _ _ _⟩
                      exact AllReadyH.nil
                    exact AllReadyH.nil
                  exact AllReadyH.nil
                exact AllReadyH.nil
              · skip
                refine wp_region_held_drew (S := (fun W => W.cell? ⟨b, off + j * 3, none⟩ = some (.int .i64 (kj : Int)) ∧ W.cell? ⟨b, off + j * 3 + 1, none⟩ = some (.int .i64 (pj : Int)) ∧ W.cell? ⟨b, off + j * 3 + 2, none⟩ = some (.int .i64 (bj : Int)) ∧ W.cell? ⟨w.heap.size + 1, 3, none⟩ = some (.int .i64 0))) (by kernel_rfl) ?hS121 (fun hHeld => ?rest122)
                case hS121 => (exact ⟨y0, y1, y2, x3⟩)
                refine wpAnyH_take (i := 0) (oi := _) (v := ?v123) rfl (by kernel_rfl) (by kernel_rfl) (by kernel_rfl) (fun _ _ _ h => h) (Or.inl ⟨by rfl, ?hy124⟩) hHeld ?rest125
                case hy124 => (intro w hSw; (try dsimp only at hSw); go_simp; (try with_reducible rfl))
                try simp only [Act.put, List.setIfInBounds_toArray, List.set_cons_zero, List.set_cons_succ]
                refine wpAnyH_take (i := 1) (oi := _) (v := ?v126) rfl (by kernel_rfl) (by kernel_rfl) (by kernel_rfl) (fun _ _ _ h => h) (Or.inl ⟨by rfl, ?hy127⟩) hHeld ?rest128
                case hy127 => (intro w hSw; (try dsimp only at hSw); go_simp; (try with_reducible rfl))
                try simp only [Act.put, List.setIfInBounds_toArray, List.set_cons_zero, List.set_cons_succ]
                refine wpAnyH_take (i := 2) (oi := _) (v := ?v129) rfl (by kernel_rfl) (by kernel_rfl) (by kernel_rfl) (fun _ _ _ h => h) (Or.inl ⟨by rfl, ?hy130⟩) hHeld ?rest131
                case hy130 => (intro w hSw; (try dsimp only at hSw); go_simp; (try with_reducible rfl))
                try simp only [Act.put, List.setIfInBounds_toArray, List.set_cons_zero, List.set_cons_succ]
                refine wpAnyH_take (i := 3) (oi := _) (v := ?v132) rfl (by kernel_rfl) (by kernel_rfl) (by kernel_rfl) (fun _ _ _ h => h) (Or.inl ⟨by rfl, ?hy133⟩) hHeld ?rest134
                case hy133 => (intro w hSw; (try dsimp only at hSw); go_simp; (try with_reducible rfl))
                try simp only [Act.put, List.setIfInBounds_toArray, List.set_cons_zero, List.set_cons_succ]
                refine wpAnyH_take (i := 4) (oi := _) (v := ?v135) rfl (by kernel_rfl) (by kernel_rfl) (by kernel_rfl) (fun _ _ _ h => h) (Or.inl ⟨by rfl, ?hy136⟩) hHeld ?rest137
                case hy136 => (intro w hSw; (try dsimp only at hSw); go_simp; (try with_reducible rfl))
                try simp only [Act.put, List.setIfInBounds_toArray, List.set_cons_zero, List.set_cons_succ]
                refine wpAnyH_take (i := 5) (oi := _) (v := ?v138) rfl (by kernel_rfl) (by kernel_rfl) (by kernel_rfl) (fun _ _ _ h => h) (Or.inl ⟨by rfl, ?hy139⟩) hHeld ?rest140
                case hy139 => (intro w hSw; (try dsimp only at hSw); go_simp; (try with_reducible rfl))
                try simp only [Act.put, List.setIfInBounds_toArray, List.set_cons_zero, List.set_cons_succ]
                refine wpAnyH_take (i := 6) (oi := _) (v := ?v141) rfl (by kernel_rfl) (by kernel_rfl) (by kernel_rfl) (fun _ _ _ h => h) (Or.inl ⟨by rfl, ?hy142⟩) hHeld ?rest143
                case hy142 => (intro w hSw; (try dsimp only at hSw); go_simp; (try with_reducible rfl))
                try simp only [Act.put, List.setIfInBounds_toArray, List.set_cons_zero, List.set_cons_succ]
                refine wpAnyH_take (i := 7) (oi := _) (v := ?v144) rfl (by kernel_rfl) (by kernel_rfl) (by kernel_rfl) (fun _ _ _ h => h) (Or.inl ⟨by rfl, ?hy145⟩) hHeld ?rest146
                case hy145 => (intro w hSw; (try dsimp only at hSw); go_simp; (try with_reducible rfl))
                try simp only [Act.put, List.setIfInBounds_toArray, List.set_cons_zero, List.set_cons_succ]
                refine wpAnyH_take (i := 8) (oi := _) (v := ?v147) rfl (by kernel_rfl) (by kernel_rfl) (by kernel_rfl) (fun _ _ _ h => h) (Or.inl ⟨by rfl, ?hy148⟩) hHeld ?rest149
                case hy148 => (intro w hSw; (try dsimp only at hSw); go_simp; (try with_reducible rfl))
                try simp only [Act.put, List.setIfInBounds_toArray, List.set_cons_zero, List.set_cons_succ]
                refine wpAnyH_take (i := 9) (oi := _) (v := ?v150) rfl (by kernel_rfl) (by kernel_rfl) (by kernel_rfl) (fun _ _ _ h => h) (Or.inl ⟨by rfl, ?hy151⟩) hHeld ?rest152
                case hy151 => (intro w hSw; (try dsimp only at hSw); go_simp; (try with_reducible rfl))
                try simp only [Act.put, List.setIfInBounds_toArray, List.set_cons_zero, List.set_cons_succ]
                refine wpAnyH_ready (rs := [10]) (by kernel_rfl) (by simp) ?_
                refine AllReadyH.cons (o := _) rfl (fun K hK => ?stp177) ?more178
                case stp177 =>
                  go_simp
                  refine (fl _).mono ?_
                  rintro e w6 ⟨rfl, hx6⟩
                  have D6 := D5.dr.next hx6
                  (try go_wp2_with fail)
                  refine hK.out _ _ ?hS179 (fun hHeld2 => ?rest180)
                  case hS179 => (exact ⟨(D6.B.cell (p := ⟨b, off + j * 3, none⟩) hb0).trans hcw0, (D6.B.cell (p := ⟨b, off + j * 3 + 1, none⟩) hb0).trans hcw1, (D6.B.cell (p := ⟨b, off + j * 3 + 2, none⟩) hb0).trans hcw2, D6.F.cell 3 (by simp)⟩)
                  clear hK K hHeld
                  have hHeld := hHeld2
                  clear hHeld2
                  try simp only [Act.put, List.setIfInBounds_toArray, List.set_cons_zero, List.set_cons_succ]
                  refine wpAnyH_take (i := 11) (oi := _) (v := ?v153) rfl (by kernel_rfl) (by kernel_rfl) (by kernel_rfl) (fun _ _ _ h => h) (Or.inl ⟨by rfl, ?hy154⟩) hHeld ?rest155
                  case hy154 => (intro w hSw; (try dsimp only at hSw); go_simp; (try with_reducible rfl))
                  try simp only [Act.put, List.setIfInBounds_toArray, List.set_cons_zero, List.set_cons_succ]
                  refine wpAnyH_take (i := 12) (oi := _) (v := ?v156) rfl (by kernel_rfl) (by kernel_rfl) (by kernel_rfl) (fun _ _ _ h => h) (Or.inl ⟨by rfl, ?hy157⟩) hHeld ?rest158
                  case hy157 => (intro w hSw; (try dsimp only at hSw); go_simp; (try with_reducible rfl))
                  try simp only [Act.put, List.setIfInBounds_toArray, List.set_cons_zero, List.set_cons_succ]
                  refine wpAnyH_take (i := 13) (oi := _) (v := ?v159) rfl (by kernel_rfl) (by kernel_rfl) (by kernel_rfl) (fun _ _ _ h => h) (Or.inl ⟨by rfl, ?hy160⟩) hHeld ?rest161
                  case hy160 => (intro w hSw; (try dsimp only at hSw); go_simp; (try with_reducible rfl))
                  try simp only [Act.put, List.setIfInBounds_toArray, List.set_cons_zero, List.set_cons_succ]
                  refine wpAnyH_take (i := 14) (oi := _) (v := ?v162) rfl (by kernel_rfl) (by kernel_rfl) (by kernel_rfl) (fun _ _ _ h => h) (Or.inl ⟨by rfl, ?hy163⟩) hHeld ?rest164
                  case hy163 => (intro w hSw; (try dsimp only at hSw); go_simp; (try with_reducible rfl))
                  try simp only [Act.put, List.setIfInBounds_toArray, List.set_cons_zero, List.set_cons_succ]
                  refine wpAnyH_ready (rs := [15]) (by kernel_rfl) (by simp) ?_
                  refine AllReadyH.cons (o := _) rfl (fun K hK => ?stp173) ?more174
                  case stp173 =>
                    go_simp
                    refine hK.out _ _ ?hS175 (fun hHeld2 => ?rest176)
                    case hS175 => (exact hHeld)
                    clear hK K hHeld
                    have hHeld := hHeld2
                    clear hHeld2
                    try simp only [Act.put, List.setIfInBounds_toArray, List.set_cons_zero, List.set_cons_succ]
                    refine wpAnyH_ready (rs := [16]) (by kernel_rfl) (by simp) ?_
                    refine AllReadyH.cons (o := _) rfl (fun K hK => ?stp169) ?more170
                    case stp169 =>
                      go_simp
                      refine hK.out _ _ ?hS171 (fun hHeld2 => ?rest172)
                      case hS171 => (exact hHeld)
                      clear hK K hHeld
                      have hHeld := hHeld2
                      clear hHeld2
                      try simp only [Act.put, List.setIfInBounds_toArray, List.set_cons_zero, List.set_cons_succ]
                      refine wpAnyH_ready (rs := [17]) (by kernel_rfl) (by simp) ?_
                      refine AllReadyH.cons (o := _) rfl (fun K hK => ?stp165) ?more166
                      case stp165 =>
                        go_simp
                        refine hK.out _ _ ?hS167 (fun hHeld2 => ?rest168)
                        case hS167 => (exact hHeld)
                        clear hK K hHeld
                        have hHeld := hHeld2
                        clear hHeld2
                        try simp only [Act.put, List.setIfInBounds_toArray, List.set_cons_zero, List.set_cons_succ]
                        refine wpAnyH_done (by kernel_rfl) ?_ _
                        have HN := Lib.hid HR5.out
                        have z0 : (_ : Option Value) = some (.int .i64 0) := D6.Z.cell 0 (by simp [zF])
                        have z1 : (_ : Option Value) = some (.int .i64 0) := D6.Z.cell 1 (by simp [zF])
                        have z2 : (_ : Option Value) = some (.int .i64 0) := D6.Z.cell 2 (by simp [zF])
                        have z3 : (_ : Option Value) = some (.int .i64 0) := D6.Z.cell 3 (by simp [zF])
                        have z4 : (_ : Option Value) = some (.string ⟨#[]⟩) := D6.Z.cell 4 (by simp [zF])
                        have z5 : (_ : Option Value) = some (.int .i64 0) := D6.Z.cell 5 (by simp [zF])
                        have z6 : (_ : Option Value) = some (.bool false) := D6.Z.cell 6 (by simp [zF])
                        have z7 : (_ : Option Value) = some (.int .i64 0) := D6.Z.cell 7 (by simp [zF])
                        have hfz := fun j => D6.Z.free j
                        have x0 : (_ : Option Value) = some (.int .i64 (b0.toNat : Int)) := D6.F.cell 0 (by simp)
                        have x1 : (_ : Option Value) = some (.int .i64 (b1.toNat : Int)) := D6.F.cell 1 (by simp)
                        have x2 : (_ : Option Value) = some (.int .i64 (b2.toNat : Int)) := D6.F.cell 2 (by simp)
                        have x3 : (_ : Option Value) = some (.int .i64 0) := D6.F.cell 3 (by simp)
                        have x4 : (_ : Option Value) = some (.string ⟨#[]⟩) := D6.F.cell 4 (by simp)
                        have x5 : (_ : Option Value) = some (.int .i64 4) := D6.F.cell 5 (by simp)
                        have x6 : (_ : Option Value) = some (.bool false) := D6.F.cell 6 (by simp)
                        have x7 : (_ : Option Value) = some (.int .i64 (pi : Int)) := D6.F.cell 7 (by simp)
                        have hfx := fun j => D6.F.free j
                        have yk0 := (D6.B.cell (p := ⟨b, off + j * 3, none⟩) hb0).trans hcw0
                        go_upto_region 23 with fail
                        have D7 : ZX w ((((w6.setCell ⟨w.heap.size + 1, 5, none⟩ (.int .i64 3)).setCell ⟨w.heap.size + 1, 5, none⟩ (.int .i64 1)).setCell ⟨w.heap.size + 1, 4, none⟩ (.string z)).setCell ⟨w.heap.size + 1, 6, none⟩ (.bool K3)) [.int .i64 (b0.toNat : Int), .int .i64 (b1.toNat : Int), .int .i64 (b2.toNat : Int), .int .i64 0, .string z, .int .i64 1, .bool K3, .int .i64 (pi : Int)] := ((((D6.put 5 _).put 5 _).put 4 _).put 6 _)
                        clear z0 z1 z2 z3 z4 z5 z6 z7 x0 x1 x2 x3 x4 x5 x6 x7 hfz hfx yk0
                        generalize ((((w6.setCell ⟨w.heap.size + 1, 5, none⟩ (.int .i64 3)).setCell ⟨w.heap.size + 1, 5, none⟩ (.int .i64 1)).setCell ⟨w.heap.size + 1, 4, none⟩ (.string z)).setCell ⟨w.heap.size + 1, 6, none⟩ (.bool K3)) = W7 at D7 ⊢
                        have z0 : (_ : Option Value) = some (.int .i64 0) := D7.Z.cell 0 (by simp [zF])
                        have z1 : (_ : Option Value) = some (.int .i64 0) := D7.Z.cell 1 (by simp [zF])
                        have z2 : (_ : Option Value) = some (.int .i64 0) := D7.Z.cell 2 (by simp [zF])
                        have z3 : (_ : Option Value) = some (.int .i64 0) := D7.Z.cell 3 (by simp [zF])
                        have z4 : (_ : Option Value) = some (.string ⟨#[]⟩) := D7.Z.cell 4 (by simp [zF])
                        have z5 : (_ : Option Value) = some (.int .i64 0) := D7.Z.cell 5 (by simp [zF])
                        have z6 : (_ : Option Value) = some (.bool false) := D7.Z.cell 6 (by simp [zF])
                        have z7 : (_ : Option Value) = some (.int .i64 0) := D7.Z.cell 7 (by simp [zF])
                        have hfz := fun j => D7.Z.free j
                        have x0 : (_ : Option Value) = some (.int .i64 (b0.toNat : Int)) := D7.F.cell 0 (by simp)
                        have x1 : (_ : Option Value) = some (.int .i64 (b1.toNat : Int)) := D7.F.cell 1 (by simp)
                        have x2 : (_ : Option Value) = some (.int .i64 (b2.toNat : Int)) := D7.F.cell 2 (by simp)
                        have x3 : (_ : Option Value) = some (.int .i64 0) := D7.F.cell 3 (by simp)
                        have x4 : (_ : Option Value) = some (.string z) := D7.F.cell 4 (by simp)
                        have x5 : (_ : Option Value) = some (.int .i64 1) := D7.F.cell 5 (by simp)
                        have x6 : (_ : Option Value) = some (.bool K3) := D7.F.cell 6 (by simp)
                        have x7 : (_ : Option Value) = some (.int .i64 (pi : Int)) := D7.F.cell 7 (by simp)
                        have hfx := fun j => D7.F.free j
                        go_wp2_with fail
                        refine bodyPost_ret (v := vFound ⟨b0.toNat, b1.toNat, b2.toNat, 0, z, 1, K3, (pi : Int)⟩) (by simp [results, Tryz.results33, go_sem, World.cell?_setCell_other, z0, z1, z2, z3, z4, z5, z6, z7, vFound]) rfl ⟨by rw [← HN.out]; rfl, bb8 D7.B _ _ _ _ _ _ _ _⟩
                      exact AllReadyH.nil
                    exact AllReadyH.nil
                  exact AllReadyH.nil
                exact AllReadyH.nil
          · have fl := fun W => fl 16 W (by omega)
            rw [show ((16 : Nat) : Int) = 16 from rfl] at fl
            rw [show 8 * 2 ^ 1 = 16 from rfl] at HR4
            obtain ⟨H2, hH2⟩ : ∃ H, fldL f (bl s) kj bj 16 = H := ⟨_, rfl⟩
            rw [hH2] at fl HR4
            have HR5 := Lib.hid HR4
            clear hH2 HR4
            go_upto_region 15 with fail
            rcases H2 with _ | ⟨d, ok2⟩
            · dsimp only [fldV] at fl
              refine wp_region_held_drew (S := (fun W => W.cell? ⟨b, off + j * 3, none⟩ = some (.int .i64 (kj : Int)) ∧ W.cell? ⟨b, off + j * 3 + 1, none⟩ = some (.int .i64 (pj : Int)) ∧ W.cell? ⟨b, off + j * 3 + 2, none⟩ = some (.int .i64 (bj : Int)) ∧ W.cell? ⟨w.heap.size + 1, 3, none⟩ = some (.int .i64 1))) (by kernel_rfl) ?hS181 (fun hHeld => ?rest182)
              case hS181 => (exact ⟨y0, y1, y2, x3⟩)
              refine wpAnyH_take (i := 0) (oi := _) (v := ?v183) rfl (by kernel_rfl) (by kernel_rfl) (by kernel_rfl) (fun _ _ _ h => h) (Or.inl ⟨by rfl, ?hy184⟩) hHeld ?rest185
              case hy184 => (intro w hSw; (try dsimp only at hSw); go_simp; (try with_reducible rfl))
              try simp only [Act.put, List.setIfInBounds_toArray, List.set_cons_zero, List.set_cons_succ]
              refine wpAnyH_take (i := 1) (oi := _) (v := ?v186) rfl (by kernel_rfl) (by kernel_rfl) (by kernel_rfl) (fun _ _ _ h => h) (Or.inl ⟨by rfl, ?hy187⟩) hHeld ?rest188
              case hy187 => (intro w hSw; (try dsimp only at hSw); go_simp; (try with_reducible rfl))
              try simp only [Act.put, List.setIfInBounds_toArray, List.set_cons_zero, List.set_cons_succ]
              refine wpAnyH_take (i := 2) (oi := _) (v := ?v189) rfl (by kernel_rfl) (by kernel_rfl) (by kernel_rfl) (fun _ _ _ h => h) (Or.inl ⟨by rfl, ?hy190⟩) hHeld ?rest191
              case hy190 => (intro w hSw; (try dsimp only at hSw); go_simp; (try with_reducible rfl))
              try simp only [Act.put, List.setIfInBounds_toArray, List.set_cons_zero, List.set_cons_succ]
              refine wpAnyH_take (i := 3) (oi := _) (v := ?v192) rfl (by kernel_rfl) (by kernel_rfl) (by kernel_rfl) (fun _ _ _ h => h) (Or.inl ⟨by rfl, ?hy193⟩) hHeld ?rest194
              case hy193 => (intro w hSw; (try dsimp only at hSw); go_simp; (try with_reducible rfl))
              try simp only [Act.put, List.setIfInBounds_toArray, List.set_cons_zero, List.set_cons_succ]
              refine wpAnyH_take (i := 4) (oi := _) (v := ?v195) rfl (by kernel_rfl) (by kernel_rfl) (by kernel_rfl) (fun _ _ _ h => h) (Or.inl ⟨by rfl, ?hy196⟩) hHeld ?rest197
              case hy196 => (intro w hSw; (try dsimp only at hSw); go_simp; (try with_reducible rfl))
              try simp only [Act.put, List.setIfInBounds_toArray, List.set_cons_zero, List.set_cons_succ]
              refine wpAnyH_take (i := 5) (oi := _) (v := ?v198) rfl (by kernel_rfl) (by kernel_rfl) (by kernel_rfl) (fun _ _ _ h => h) (Or.inl ⟨by rfl, ?hy199⟩) hHeld ?rest200
              case hy199 => (intro w hSw; (try dsimp only at hSw); go_simp; (try with_reducible rfl))
              try simp only [Act.put, List.setIfInBounds_toArray, List.set_cons_zero, List.set_cons_succ]
              refine wpAnyH_take (i := 6) (oi := _) (v := ?v201) rfl (by kernel_rfl) (by kernel_rfl) (by kernel_rfl) (fun _ _ _ h => h) (Or.inl ⟨by rfl, ?hy202⟩) hHeld ?rest203
              case hy202 => (intro w hSw; (try dsimp only at hSw); go_simp; (try with_reducible rfl))
              try simp only [Act.put, List.setIfInBounds_toArray, List.set_cons_zero, List.set_cons_succ]
              refine wpAnyH_take (i := 7) (oi := _) (v := ?v204) rfl (by kernel_rfl) (by kernel_rfl) (by kernel_rfl) (fun _ _ _ h => h) (Or.inl ⟨by rfl, ?hy205⟩) hHeld ?rest206
              case hy205 => (intro w hSw; (try dsimp only at hSw); go_simp; (try with_reducible rfl))
              try simp only [Act.put, List.setIfInBounds_toArray, List.set_cons_zero, List.set_cons_succ]
              refine wpAnyH_take (i := 8) (oi := _) (v := ?v207) rfl (by kernel_rfl) (by kernel_rfl) (by kernel_rfl) (fun _ _ _ h => h) (Or.inl ⟨by rfl, ?hy208⟩) hHeld ?rest209
              case hy208 => (intro w hSw; (try dsimp only at hSw); go_simp; (try with_reducible rfl))
              try simp only [Act.put, List.setIfInBounds_toArray, List.set_cons_zero, List.set_cons_succ]
              refine wpAnyH_take (i := 9) (oi := _) (v := ?v210) rfl (by kernel_rfl) (by kernel_rfl) (by kernel_rfl) (fun _ _ _ h => h) (Or.inl ⟨by rfl, ?hy211⟩) hHeld ?rest212
              case hy211 => (intro w hSw; (try dsimp only at hSw); go_simp; (try with_reducible rfl))
              try simp only [Act.put, List.setIfInBounds_toArray, List.set_cons_zero, List.set_cons_succ]
              refine wpAnyH_ready (rs := [10]) (by kernel_rfl) (by simp) ?_
              refine AllReadyH.cons (o := _) rfl (fun K hK => ?stp237) ?more238
              case stp237 =>
                go_simp
                refine (fl _).mono ?_
                rintro e w6 ⟨rfl, hx6⟩
                have D6 := D5.dr.next hx6
                (try go_wp2_with fail)
                refine hK.out _ _ ?hS239 (fun hHeld2 => ?rest240)
                case hS239 => (exact ⟨(D6.B.cell (p := ⟨b, off + j * 3, none⟩) hb0).trans hcw0, (D6.B.cell (p := ⟨b, off + j * 3 + 1, none⟩) hb0).trans hcw1, (D6.B.cell (p := ⟨b, off + j * 3 + 2, none⟩) hb0).trans hcw2, D6.F.cell 3 (by simp)⟩)
                clear hK K hHeld
                have hHeld := hHeld2
                clear hHeld2
                try simp only [Act.put, List.setIfInBounds_toArray, List.set_cons_zero, List.set_cons_succ]
                refine wpAnyH_take (i := 11) (oi := _) (v := ?v213) rfl (by kernel_rfl) (by kernel_rfl) (by kernel_rfl) (fun _ _ _ h => h) (Or.inl ⟨by rfl, ?hy214⟩) hHeld ?rest215
                case hy214 => (intro w hSw; (try dsimp only at hSw); go_simp; (try with_reducible rfl))
                try simp only [Act.put, List.setIfInBounds_toArray, List.set_cons_zero, List.set_cons_succ]
                refine wpAnyH_take (i := 12) (oi := _) (v := ?v216) rfl (by kernel_rfl) (by kernel_rfl) (by kernel_rfl) (fun _ _ _ h => h) (Or.inl ⟨by rfl, ?hy217⟩) hHeld ?rest218
                case hy217 => (intro w hSw; (try dsimp only at hSw); go_simp; (try with_reducible rfl))
                try simp only [Act.put, List.setIfInBounds_toArray, List.set_cons_zero, List.set_cons_succ]
                refine wpAnyH_take (i := 13) (oi := _) (v := ?v219) rfl (by kernel_rfl) (by kernel_rfl) (by kernel_rfl) (fun _ _ _ h => h) (Or.inl ⟨by rfl, ?hy220⟩) hHeld ?rest221
                case hy220 => (intro w hSw; (try dsimp only at hSw); go_simp; (try with_reducible rfl))
                try simp only [Act.put, List.setIfInBounds_toArray, List.set_cons_zero, List.set_cons_succ]
                refine wpAnyH_take (i := 14) (oi := _) (v := ?v222) rfl (by kernel_rfl) (by kernel_rfl) (by kernel_rfl) (fun _ _ _ h => h) (Or.inl ⟨by rfl, ?hy223⟩) hHeld ?rest224
                case hy223 => (intro w hSw; (try dsimp only at hSw); go_simp; (try with_reducible rfl))
                try simp only [Act.put, List.setIfInBounds_toArray, List.set_cons_zero, List.set_cons_succ]
                refine wpAnyH_ready (rs := [15]) (by kernel_rfl) (by simp) ?_
                refine AllReadyH.cons (o := _) rfl (fun K hK => ?stp233) ?more234
                case stp233 =>
                  go_simp
                  refine hK.out _ _ ?hS235 (fun hHeld2 => ?rest236)
                  case hS235 => (exact hHeld)
                  clear hK K hHeld
                  have hHeld := hHeld2
                  clear hHeld2
                  try simp only [Act.put, List.setIfInBounds_toArray, List.set_cons_zero, List.set_cons_succ]
                  refine wpAnyH_ready (rs := [16]) (by kernel_rfl) (by simp) ?_
                  refine AllReadyH.cons (o := _) rfl (fun K hK => ?stp229) ?more230
                  case stp229 =>
                    go_simp
                    refine hK.out _ _ ?hS231 (fun hHeld2 => ?rest232)
                    case hS231 => (exact hHeld)
                    clear hK K hHeld
                    have hHeld := hHeld2
                    clear hHeld2
                    try simp only [Act.put, List.setIfInBounds_toArray, List.set_cons_zero, List.set_cons_succ]
                    refine wpAnyH_ready (rs := [17]) (by kernel_rfl) (by simp) ?_
                    refine AllReadyH.cons (o := _) rfl (fun K hK => ?stp225) ?more226
                    case stp225 =>
                      go_simp
                      refine hK.out _ _ ?hS227 (fun hHeld2 => ?rest228)
                      case hS227 => (exact hHeld)
                      clear hK K hHeld
                      have hHeld := hHeld2
                      clear hHeld2
                      try simp only [Act.put, List.setIfInBounds_toArray, List.set_cons_zero, List.set_cons_succ]
                      refine wpAnyH_done (by kernel_rfl) ?_ _
                      have HN := Lib.hid HR5.out
                      have z0 : (_ : Option Value) = some (.int .i64 0) := D6.Z.cell 0 (by simp [zF])
                      have z1 : (_ : Option Value) = some (.int .i64 0) := D6.Z.cell 1 (by simp [zF])
                      have z2 : (_ : Option Value) = some (.int .i64 0) := D6.Z.cell 2 (by simp [zF])
                      have z3 : (_ : Option Value) = some (.int .i64 0) := D6.Z.cell 3 (by simp [zF])
                      have z4 : (_ : Option Value) = some (.string ⟨#[]⟩) := D6.Z.cell 4 (by simp [zF])
                      have z5 : (_ : Option Value) = some (.int .i64 0) := D6.Z.cell 5 (by simp [zF])
                      have z6 : (_ : Option Value) = some (.bool false) := D6.Z.cell 6 (by simp [zF])
                      have z7 : (_ : Option Value) = some (.int .i64 0) := D6.Z.cell 7 (by simp [zF])
                      have hfz := fun j => D6.Z.free j
                      have x0 : (_ : Option Value) = some (.int .i64 (b0.toNat : Int)) := D6.F.cell 0 (by simp)
                      have x1 : (_ : Option Value) = some (.int .i64 (b1.toNat : Int)) := D6.F.cell 1 (by simp)
                      have x2 : (_ : Option Value) = some (.int .i64 (b2.toNat : Int)) := D6.F.cell 2 (by simp)
                      have x3 : (_ : Option Value) = some (.int .i64 1) := D6.F.cell 3 (by simp)
                      have x4 : (_ : Option Value) = some (.string ⟨#[]⟩) := D6.F.cell 4 (by simp)
                      have x5 : (_ : Option Value) = some (.int .i64 4) := D6.F.cell 5 (by simp)
                      have x6 : (_ : Option Value) = some (.bool false) := D6.F.cell 6 (by simp)
                      have x7 : (_ : Option Value) = some (.int .i64 (pi : Int)) := D6.F.cell 7 (by simp)
                      have hfx := fun j => D6.F.free j
                      go_wp2_with fail
                      refine bodyPost_ret (v := vFound ⟨b0.toNat, b1.toNat, b2.toNat, 1, ⟨#[]⟩, 4, false, (pi : Int)⟩) (by simp [results, Tryz.results33, go_sem, World.cell?_setCell_other, z0, z1, z2, z3, z4, z5, z6, z7, vFound]) rfl ⟨by rw [← HN.out]; rfl, bb8 D6.B _ _ _ _ _ _ _ _⟩
                    exact AllReadyH.nil
                  exact AllReadyH.nil
                exact AllReadyH.nil
              exact AllReadyH.nil
            · dsimp only [fldV] at fl
              obtain ⟨z, hz⟩ : ∃ z, str1 d = z := ⟨_, rfl⟩
              have HR6 := HR5.out
              dsimp only at HR6
              rw [hz] at fl HR6
              have HR5 := Lib.hid HR6
              clear HR6 hz
              cases ok2
              · skip
                refine wp_region_held_drew (S := (fun W => W.cell? ⟨b, off + j * 3, none⟩ = some (.int .i64 (kj : Int)) ∧ W.cell? ⟨b, off + j * 3 + 1, none⟩ = some (.int .i64 (pj : Int)) ∧ W.cell? ⟨b, off + j * 3 + 2, none⟩ = some (.int .i64 (bj : Int)) ∧ W.cell? ⟨w.heap.size + 1, 3, none⟩ = some (.int .i64 1))) (by kernel_rfl) ?hS241 (fun hHeld => ?rest242)
                case hS241 => (exact ⟨y0, y1, y2, x3⟩)
                refine wpAnyH_take (i := 0) (oi := _) (v := ?v243) rfl (by kernel_rfl) (by kernel_rfl) (by kernel_rfl) (fun _ _ _ h => h) (Or.inl ⟨by rfl, ?hy244⟩) hHeld ?rest245
                case hy244 => (intro w hSw; (try dsimp only at hSw); go_simp; (try with_reducible rfl))
                try simp only [Act.put, List.setIfInBounds_toArray, List.set_cons_zero, List.set_cons_succ]
                refine wpAnyH_take (i := 1) (oi := _) (v := ?v246) rfl (by kernel_rfl) (by kernel_rfl) (by kernel_rfl) (fun _ _ _ h => h) (Or.inl ⟨by rfl, ?hy247⟩) hHeld ?rest248
                case hy247 => (intro w hSw; (try dsimp only at hSw); go_simp; (try with_reducible rfl))
                try simp only [Act.put, List.setIfInBounds_toArray, List.set_cons_zero, List.set_cons_succ]
                refine wpAnyH_take (i := 2) (oi := _) (v := ?v249) rfl (by kernel_rfl) (by kernel_rfl) (by kernel_rfl) (fun _ _ _ h => h) (Or.inl ⟨by rfl, ?hy250⟩) hHeld ?rest251
                case hy250 => (intro w hSw; (try dsimp only at hSw); go_simp; (try with_reducible rfl))
                try simp only [Act.put, List.setIfInBounds_toArray, List.set_cons_zero, List.set_cons_succ]
                refine wpAnyH_take (i := 3) (oi := _) (v := ?v252) rfl (by kernel_rfl) (by kernel_rfl) (by kernel_rfl) (fun _ _ _ h => h) (Or.inl ⟨by rfl, ?hy253⟩) hHeld ?rest254
                case hy253 => (intro w hSw; (try dsimp only at hSw); go_simp; (try with_reducible rfl))
                try simp only [Act.put, List.setIfInBounds_toArray, List.set_cons_zero, List.set_cons_succ]
                refine wpAnyH_take (i := 4) (oi := _) (v := ?v255) rfl (by kernel_rfl) (by kernel_rfl) (by kernel_rfl) (fun _ _ _ h => h) (Or.inl ⟨by rfl, ?hy256⟩) hHeld ?rest257
                case hy256 => (intro w hSw; (try dsimp only at hSw); go_simp; (try with_reducible rfl))
                try simp only [Act.put, List.setIfInBounds_toArray, List.set_cons_zero, List.set_cons_succ]
                refine wpAnyH_take (i := 5) (oi := _) (v := ?v258) rfl (by kernel_rfl) (by kernel_rfl) (by kernel_rfl) (fun _ _ _ h => h) (Or.inl ⟨by rfl, ?hy259⟩) hHeld ?rest260
                case hy259 => (intro w hSw; (try dsimp only at hSw); go_simp; (try with_reducible rfl))
                try simp only [Act.put, List.setIfInBounds_toArray, List.set_cons_zero, List.set_cons_succ]
                refine wpAnyH_take (i := 6) (oi := _) (v := ?v261) rfl (by kernel_rfl) (by kernel_rfl) (by kernel_rfl) (fun _ _ _ h => h) (Or.inl ⟨by rfl, ?hy262⟩) hHeld ?rest263
                case hy262 => (intro w hSw; (try dsimp only at hSw); go_simp; (try with_reducible rfl))
                try simp only [Act.put, List.setIfInBounds_toArray, List.set_cons_zero, List.set_cons_succ]
                refine wpAnyH_take (i := 7) (oi := _) (v := ?v264) rfl (by kernel_rfl) (by kernel_rfl) (by kernel_rfl) (fun _ _ _ h => h) (Or.inl ⟨by rfl, ?hy265⟩) hHeld ?rest266
                case hy265 => (intro w hSw; (try dsimp only at hSw); go_simp; (try with_reducible rfl))
                try simp only [Act.put, List.setIfInBounds_toArray, List.set_cons_zero, List.set_cons_succ]
                refine wpAnyH_take (i := 8) (oi := _) (v := ?v267) rfl (by kernel_rfl) (by kernel_rfl) (by kernel_rfl) (fun _ _ _ h => h) (Or.inl ⟨by rfl, ?hy268⟩) hHeld ?rest269
                case hy268 => (intro w hSw; (try dsimp only at hSw); go_simp; (try with_reducible rfl))
                try simp only [Act.put, List.setIfInBounds_toArray, List.set_cons_zero, List.set_cons_succ]
                refine wpAnyH_take (i := 9) (oi := _) (v := ?v270) rfl (by kernel_rfl) (by kernel_rfl) (by kernel_rfl) (fun _ _ _ h => h) (Or.inl ⟨by rfl, ?hy271⟩) hHeld ?rest272
                case hy271 => (intro w hSw; (try dsimp only at hSw); go_simp; (try with_reducible rfl))
                try simp only [Act.put, List.setIfInBounds_toArray, List.set_cons_zero, List.set_cons_succ]
                refine wpAnyH_ready (rs := [10]) (by kernel_rfl) (by simp) ?_
                refine AllReadyH.cons (o := _) rfl (fun K hK => ?stp297) ?more298
                case stp297 =>
                  go_simp
                  refine (fl _).mono ?_
                  rintro e w6 ⟨rfl, hx6⟩
                  have D6 := D5.dr.next hx6
                  (try go_wp2_with fail)
                  refine hK.out _ _ ?hS299 (fun hHeld2 => ?rest300)
                  case hS299 => (exact ⟨(D6.B.cell (p := ⟨b, off + j * 3, none⟩) hb0).trans hcw0, (D6.B.cell (p := ⟨b, off + j * 3 + 1, none⟩) hb0).trans hcw1, (D6.B.cell (p := ⟨b, off + j * 3 + 2, none⟩) hb0).trans hcw2, D6.F.cell 3 (by simp)⟩)
                  clear hK K hHeld
                  have hHeld := hHeld2
                  clear hHeld2
                  try simp only [Act.put, List.setIfInBounds_toArray, List.set_cons_zero, List.set_cons_succ]
                  refine wpAnyH_take (i := 11) (oi := _) (v := ?v273) rfl (by kernel_rfl) (by kernel_rfl) (by kernel_rfl) (fun _ _ _ h => h) (Or.inl ⟨by rfl, ?hy274⟩) hHeld ?rest275
                  case hy274 => (intro w hSw; (try dsimp only at hSw); go_simp; (try with_reducible rfl))
                  try simp only [Act.put, List.setIfInBounds_toArray, List.set_cons_zero, List.set_cons_succ]
                  refine wpAnyH_take (i := 12) (oi := _) (v := ?v276) rfl (by kernel_rfl) (by kernel_rfl) (by kernel_rfl) (fun _ _ _ h => h) (Or.inl ⟨by rfl, ?hy277⟩) hHeld ?rest278
                  case hy277 => (intro w hSw; (try dsimp only at hSw); go_simp; (try with_reducible rfl))
                  try simp only [Act.put, List.setIfInBounds_toArray, List.set_cons_zero, List.set_cons_succ]
                  refine wpAnyH_take (i := 13) (oi := _) (v := ?v279) rfl (by kernel_rfl) (by kernel_rfl) (by kernel_rfl) (fun _ _ _ h => h) (Or.inl ⟨by rfl, ?hy280⟩) hHeld ?rest281
                  case hy280 => (intro w hSw; (try dsimp only at hSw); go_simp; (try with_reducible rfl))
                  try simp only [Act.put, List.setIfInBounds_toArray, List.set_cons_zero, List.set_cons_succ]
                  refine wpAnyH_take (i := 14) (oi := _) (v := ?v282) rfl (by kernel_rfl) (by kernel_rfl) (by kernel_rfl) (fun _ _ _ h => h) (Or.inl ⟨by rfl, ?hy283⟩) hHeld ?rest284
                  case hy283 => (intro w hSw; (try dsimp only at hSw); go_simp; (try with_reducible rfl))
                  try simp only [Act.put, List.setIfInBounds_toArray, List.set_cons_zero, List.set_cons_succ]
                  refine wpAnyH_ready (rs := [15]) (by kernel_rfl) (by simp) ?_
                  refine AllReadyH.cons (o := _) rfl (fun K hK => ?stp293) ?more294
                  case stp293 =>
                    go_simp
                    refine hK.out _ _ ?hS295 (fun hHeld2 => ?rest296)
                    case hS295 => (exact hHeld)
                    clear hK K hHeld
                    have hHeld := hHeld2
                    clear hHeld2
                    try simp only [Act.put, List.setIfInBounds_toArray, List.set_cons_zero, List.set_cons_succ]
                    refine wpAnyH_ready (rs := [16]) (by kernel_rfl) (by simp) ?_
                    refine AllReadyH.cons (o := _) rfl (fun K hK => ?stp289) ?more290
                    case stp289 =>
                      go_simp
                      refine hK.out _ _ ?hS291 (fun hHeld2 => ?rest292)
                      case hS291 => (exact hHeld)
                      clear hK K hHeld
                      have hHeld := hHeld2
                      clear hHeld2
                      try simp only [Act.put, List.setIfInBounds_toArray, List.set_cons_zero, List.set_cons_succ]
                      refine wpAnyH_ready (rs := [17]) (by kernel_rfl) (by simp) ?_
                      refine AllReadyH.cons (o := _) rfl (fun K hK => ?stp285) ?more286
                      case stp285 =>
                        go_simp
                        refine hK.out _ _ ?hS287 (fun hHeld2 => ?rest288)
                        case hS287 => (exact hHeld)
                        clear hK K hHeld
                        have hHeld := hHeld2
                        clear hHeld2
                        try simp only [Act.put, List.setIfInBounds_toArray, List.set_cons_zero, List.set_cons_succ]
                        refine wpAnyH_done (by kernel_rfl) ?_ _
                        have HN := Lib.hid HR5.out
                        have z0 : (_ : Option Value) = some (.int .i64 0) := D6.Z.cell 0 (by simp [zF])
                        have z1 : (_ : Option Value) = some (.int .i64 0) := D6.Z.cell 1 (by simp [zF])
                        have z2 : (_ : Option Value) = some (.int .i64 0) := D6.Z.cell 2 (by simp [zF])
                        have z3 : (_ : Option Value) = some (.int .i64 0) := D6.Z.cell 3 (by simp [zF])
                        have z4 : (_ : Option Value) = some (.string ⟨#[]⟩) := D6.Z.cell 4 (by simp [zF])
                        have z5 : (_ : Option Value) = some (.int .i64 0) := D6.Z.cell 5 (by simp [zF])
                        have z6 : (_ : Option Value) = some (.bool false) := D6.Z.cell 6 (by simp [zF])
                        have z7 : (_ : Option Value) = some (.int .i64 0) := D6.Z.cell 7 (by simp [zF])
                        have hfz := fun j => D6.Z.free j
                        have x0 : (_ : Option Value) = some (.int .i64 (b0.toNat : Int)) := D6.F.cell 0 (by simp)
                        have x1 : (_ : Option Value) = some (.int .i64 (b1.toNat : Int)) := D6.F.cell 1 (by simp)
                        have x2 : (_ : Option Value) = some (.int .i64 (b2.toNat : Int)) := D6.F.cell 2 (by simp)
                        have x3 : (_ : Option Value) = some (.int .i64 1) := D6.F.cell 3 (by simp)
                        have x4 : (_ : Option Value) = some (.string ⟨#[]⟩) := D6.F.cell 4 (by simp)
                        have x5 : (_ : Option Value) = some (.int .i64 4) := D6.F.cell 5 (by simp)
                        have x6 : (_ : Option Value) = some (.bool false) := D6.F.cell 6 (by simp)
                        have x7 : (_ : Option Value) = some (.int .i64 (pi : Int)) := D6.F.cell 7 (by simp)
                        have hfx := fun j => D6.F.free j
                        have yk0 := (D6.B.cell (p := ⟨b, off + j * 3, none⟩) hb0).trans hcw0
                        go_upto_region 23 with fail
                        have D7 : ZX w (((w6.setCell ⟨w.heap.size + 1, 5, none⟩ (.int .i64 3)).setCell ⟨w.heap.size + 1, 4, none⟩ (.string z)).setCell ⟨w.heap.size + 1, 6, none⟩ (.bool K3)) [.int .i64 (b0.toNat : Int), .int .i64 (b1.toNat : Int), .int .i64 (b2.toNat : Int), .int .i64 1, .string z, .int .i64 3, .bool K3, .int .i64 (pi : Int)] := (((D6.put 5 _).put 4 _).put 6 _)
                        clear z0 z1 z2 z3 z4 z5 z6 z7 x0 x1 x2 x3 x4 x5 x6 x7 hfz hfx yk0
                        generalize (((w6.setCell ⟨w.heap.size + 1, 5, none⟩ (.int .i64 3)).setCell ⟨w.heap.size + 1, 4, none⟩ (.string z)).setCell ⟨w.heap.size + 1, 6, none⟩ (.bool K3)) = W7 at D7 ⊢
                        have z0 : (_ : Option Value) = some (.int .i64 0) := D7.Z.cell 0 (by simp [zF])
                        have z1 : (_ : Option Value) = some (.int .i64 0) := D7.Z.cell 1 (by simp [zF])
                        have z2 : (_ : Option Value) = some (.int .i64 0) := D7.Z.cell 2 (by simp [zF])
                        have z3 : (_ : Option Value) = some (.int .i64 0) := D7.Z.cell 3 (by simp [zF])
                        have z4 : (_ : Option Value) = some (.string ⟨#[]⟩) := D7.Z.cell 4 (by simp [zF])
                        have z5 : (_ : Option Value) = some (.int .i64 0) := D7.Z.cell 5 (by simp [zF])
                        have z6 : (_ : Option Value) = some (.bool false) := D7.Z.cell 6 (by simp [zF])
                        have z7 : (_ : Option Value) = some (.int .i64 0) := D7.Z.cell 7 (by simp [zF])
                        have hfz := fun j => D7.Z.free j
                        have x0 : (_ : Option Value) = some (.int .i64 (b0.toNat : Int)) := D7.F.cell 0 (by simp)
                        have x1 : (_ : Option Value) = some (.int .i64 (b1.toNat : Int)) := D7.F.cell 1 (by simp)
                        have x2 : (_ : Option Value) = some (.int .i64 (b2.toNat : Int)) := D7.F.cell 2 (by simp)
                        have x3 : (_ : Option Value) = some (.int .i64 1) := D7.F.cell 3 (by simp)
                        have x4 : (_ : Option Value) = some (.string z) := D7.F.cell 4 (by simp)
                        have x5 : (_ : Option Value) = some (.int .i64 3) := D7.F.cell 5 (by simp)
                        have x6 : (_ : Option Value) = some (.bool K3) := D7.F.cell 6 (by simp)
                        have x7 : (_ : Option Value) = some (.int .i64 (pi : Int)) := D7.F.cell 7 (by simp)
                        have hfx := fun j => D7.F.free j
                        go_wp2_with fail
                        refine bodyPost_ret (v := vFound ⟨b0.toNat, b1.toNat, b2.toNat, 1, z, 3, K3, (pi : Int)⟩) (by simp [results, Tryz.results33, go_sem, World.cell?_setCell_other, z0, z1, z2, z3, z4, z5, z6, z7, vFound]) rfl ⟨by rw [← HN.out]; rfl, bb8 D7.B _ _ _ _ _ _ _ _⟩
                      exact AllReadyH.nil
                    exact AllReadyH.nil
                  exact AllReadyH.nil
                exact AllReadyH.nil
              · skip
                refine wp_region_held_drew (S := (fun W => W.cell? ⟨b, off + j * 3, none⟩ = some (.int .i64 (kj : Int)) ∧ W.cell? ⟨b, off + j * 3 + 1, none⟩ = some (.int .i64 (pj : Int)) ∧ W.cell? ⟨b, off + j * 3 + 2, none⟩ = some (.int .i64 (bj : Int)) ∧ W.cell? ⟨w.heap.size + 1, 3, none⟩ = some (.int .i64 1))) (by kernel_rfl) ?hS301 (fun hHeld => ?rest302)
                case hS301 => (exact ⟨y0, y1, y2, x3⟩)
                refine wpAnyH_take (i := 0) (oi := _) (v := ?v303) rfl (by kernel_rfl) (by kernel_rfl) (by kernel_rfl) (fun _ _ _ h => h) (Or.inl ⟨by rfl, ?hy304⟩) hHeld ?rest305
                case hy304 => (intro w hSw; (try dsimp only at hSw); go_simp; (try with_reducible rfl))
                try simp only [Act.put, List.setIfInBounds_toArray, List.set_cons_zero, List.set_cons_succ]
                refine wpAnyH_take (i := 1) (oi := _) (v := ?v306) rfl (by kernel_rfl) (by kernel_rfl) (by kernel_rfl) (fun _ _ _ h => h) (Or.inl ⟨by rfl, ?hy307⟩) hHeld ?rest308
                case hy307 => (intro w hSw; (try dsimp only at hSw); go_simp; (try with_reducible rfl))
                try simp only [Act.put, List.setIfInBounds_toArray, List.set_cons_zero, List.set_cons_succ]
                refine wpAnyH_take (i := 2) (oi := _) (v := ?v309) rfl (by kernel_rfl) (by kernel_rfl) (by kernel_rfl) (fun _ _ _ h => h) (Or.inl ⟨by rfl, ?hy310⟩) hHeld ?rest311
                case hy310 => (intro w hSw; (try dsimp only at hSw); go_simp; (try with_reducible rfl))
                try simp only [Act.put, List.setIfInBounds_toArray, List.set_cons_zero, List.set_cons_succ]
                refine wpAnyH_take (i := 3) (oi := _) (v := ?v312) rfl (by kernel_rfl) (by kernel_rfl) (by kernel_rfl) (fun _ _ _ h => h) (Or.inl ⟨by rfl, ?hy313⟩) hHeld ?rest314
                case hy313 => (intro w hSw; (try dsimp only at hSw); go_simp; (try with_reducible rfl))
                try simp only [Act.put, List.setIfInBounds_toArray, List.set_cons_zero, List.set_cons_succ]
                refine wpAnyH_take (i := 4) (oi := _) (v := ?v315) rfl (by kernel_rfl) (by kernel_rfl) (by kernel_rfl) (fun _ _ _ h => h) (Or.inl ⟨by rfl, ?hy316⟩) hHeld ?rest317
                case hy316 => (intro w hSw; (try dsimp only at hSw); go_simp; (try with_reducible rfl))
                try simp only [Act.put, List.setIfInBounds_toArray, List.set_cons_zero, List.set_cons_succ]
                refine wpAnyH_take (i := 5) (oi := _) (v := ?v318) rfl (by kernel_rfl) (by kernel_rfl) (by kernel_rfl) (fun _ _ _ h => h) (Or.inl ⟨by rfl, ?hy319⟩) hHeld ?rest320
                case hy319 => (intro w hSw; (try dsimp only at hSw); go_simp; (try with_reducible rfl))
                try simp only [Act.put, List.setIfInBounds_toArray, List.set_cons_zero, List.set_cons_succ]
                refine wpAnyH_take (i := 6) (oi := _) (v := ?v321) rfl (by kernel_rfl) (by kernel_rfl) (by kernel_rfl) (fun _ _ _ h => h) (Or.inl ⟨by rfl, ?hy322⟩) hHeld ?rest323
                case hy322 => (intro w hSw; (try dsimp only at hSw); go_simp; (try with_reducible rfl))
                try simp only [Act.put, List.setIfInBounds_toArray, List.set_cons_zero, List.set_cons_succ]
                refine wpAnyH_take (i := 7) (oi := _) (v := ?v324) rfl (by kernel_rfl) (by kernel_rfl) (by kernel_rfl) (fun _ _ _ h => h) (Or.inl ⟨by rfl, ?hy325⟩) hHeld ?rest326
                case hy325 => (intro w hSw; (try dsimp only at hSw); go_simp; (try with_reducible rfl))
                try simp only [Act.put, List.setIfInBounds_toArray, List.set_cons_zero, List.set_cons_succ]
                refine wpAnyH_take (i := 8) (oi := _) (v := ?v327) rfl (by kernel_rfl) (by kernel_rfl) (by kernel_rfl) (fun _ _ _ h => h) (Or.inl ⟨by rfl, ?hy328⟩) hHeld ?rest329
                case hy328 => (intro w hSw; (try dsimp only at hSw); go_simp; (try with_reducible rfl))
                try simp only [Act.put, List.setIfInBounds_toArray, List.set_cons_zero, List.set_cons_succ]
                refine wpAnyH_take (i := 9) (oi := _) (v := ?v330) rfl (by kernel_rfl) (by kernel_rfl) (by kernel_rfl) (fun _ _ _ h => h) (Or.inl ⟨by rfl, ?hy331⟩) hHeld ?rest332
                case hy331 => (intro w hSw; (try dsimp only at hSw); go_simp; (try with_reducible rfl))
                try simp only [Act.put, List.setIfInBounds_toArray, List.set_cons_zero, List.set_cons_succ]
                refine wpAnyH_ready (rs := [10]) (by kernel_rfl) (by simp) ?_
                refine AllReadyH.cons (o := _) rfl (fun K hK => ?stp357) ?more358
                case stp357 =>
                  go_simp
                  refine (fl _).mono ?_
                  rintro e w6 ⟨rfl, hx6⟩
                  have D6 := D5.dr.next hx6
                  (try go_wp2_with fail)
                  refine hK.out _ _ ?hS359 (fun hHeld2 => ?rest360)
                  case hS359 => (exact ⟨(D6.B.cell (p := ⟨b, off + j * 3, none⟩) hb0).trans hcw0, (D6.B.cell (p := ⟨b, off + j * 3 + 1, none⟩) hb0).trans hcw1, (D6.B.cell (p := ⟨b, off + j * 3 + 2, none⟩) hb0).trans hcw2, D6.F.cell 3 (by simp)⟩)
                  clear hK K hHeld
                  have hHeld := hHeld2
                  clear hHeld2
                  try simp only [Act.put, List.setIfInBounds_toArray, List.set_cons_zero, List.set_cons_succ]
                  refine wpAnyH_take (i := 11) (oi := _) (v := ?v333) rfl (by kernel_rfl) (by kernel_rfl) (by kernel_rfl) (fun _ _ _ h => h) (Or.inl ⟨by rfl, ?hy334⟩) hHeld ?rest335
                  case hy334 => (intro w hSw; (try dsimp only at hSw); go_simp; (try with_reducible rfl))
                  try simp only [Act.put, List.setIfInBounds_toArray, List.set_cons_zero, List.set_cons_succ]
                  refine wpAnyH_take (i := 12) (oi := _) (v := ?v336) rfl (by kernel_rfl) (by kernel_rfl) (by kernel_rfl) (fun _ _ _ h => h) (Or.inl ⟨by rfl, ?hy337⟩) hHeld ?rest338
                  case hy337 => (intro w hSw; (try dsimp only at hSw); go_simp; (try with_reducible rfl))
                  try simp only [Act.put, List.setIfInBounds_toArray, List.set_cons_zero, List.set_cons_succ]
                  refine wpAnyH_take (i := 13) (oi := _) (v := ?v339) rfl (by kernel_rfl) (by kernel_rfl) (by kernel_rfl) (fun _ _ _ h => h) (Or.inl ⟨by rfl, ?hy340⟩) hHeld ?rest341
                  case hy340 => (intro w hSw; (try dsimp only at hSw); go_simp; (try with_reducible rfl))
                  try simp only [Act.put, List.setIfInBounds_toArray, List.set_cons_zero, List.set_cons_succ]
                  refine wpAnyH_take (i := 14) (oi := _) (v := ?v342) rfl (by kernel_rfl) (by kernel_rfl) (by kernel_rfl) (fun _ _ _ h => h) (Or.inl ⟨by rfl, ?hy343⟩) hHeld ?rest344
                  case hy343 => (intro w hSw; (try dsimp only at hSw); go_simp; (try with_reducible rfl))
                  try simp only [Act.put, List.setIfInBounds_toArray, List.set_cons_zero, List.set_cons_succ]
                  refine wpAnyH_ready (rs := [15]) (by kernel_rfl) (by simp) ?_
                  refine AllReadyH.cons (o := _) rfl (fun K hK => ?stp353) ?more354
                  case stp353 =>
                    go_simp
                    refine hK.out _ _ ?hS355 (fun hHeld2 => ?rest356)
                    case hS355 => (exact hHeld)
                    clear hK K hHeld
                    have hHeld := hHeld2
                    clear hHeld2
                    try simp only [Act.put, List.setIfInBounds_toArray, List.set_cons_zero, List.set_cons_succ]
                    refine wpAnyH_ready (rs := [16]) (by kernel_rfl) (by simp) ?_
                    refine AllReadyH.cons (o := _) rfl (fun K hK => ?stp349) ?more350
                    case stp349 =>
                      go_simp
                      refine hK.out _ _ ?hS351 (fun hHeld2 => ?rest352)
                      case hS351 => (exact hHeld)
                      clear hK K hHeld
                      have hHeld := hHeld2
                      clear hHeld2
                      try simp only [Act.put, List.setIfInBounds_toArray, List.set_cons_zero, List.set_cons_succ]
                      refine wpAnyH_ready (rs := [17]) (by kernel_rfl) (by simp) ?_
                      refine AllReadyH.cons (o := _) rfl (fun K hK => ?stp345) ?more346
                      case stp345 =>
                        go_simp
                        refine hK.out _ _ ?hS347 (fun hHeld2 => ?rest348)
                        case hS347 => (exact hHeld)
                        clear hK K hHeld
                        have hHeld := hHeld2
                        clear hHeld2
                        try simp only [Act.put, List.setIfInBounds_toArray, List.set_cons_zero, List.set_cons_succ]
                        refine wpAnyH_done (by kernel_rfl) ?_ _
                        have HN := Lib.hid HR5.out
                        have z0 : (_ : Option Value) = some (.int .i64 0) := D6.Z.cell 0 (by simp [zF])
                        have z1 : (_ : Option Value) = some (.int .i64 0) := D6.Z.cell 1 (by simp [zF])
                        have z2 : (_ : Option Value) = some (.int .i64 0) := D6.Z.cell 2 (by simp [zF])
                        have z3 : (_ : Option Value) = some (.int .i64 0) := D6.Z.cell 3 (by simp [zF])
                        have z4 : (_ : Option Value) = some (.string ⟨#[]⟩) := D6.Z.cell 4 (by simp [zF])
                        have z5 : (_ : Option Value) = some (.int .i64 0) := D6.Z.cell 5 (by simp [zF])
                        have z6 : (_ : Option Value) = some (.bool false) := D6.Z.cell 6 (by simp [zF])
                        have z7 : (_ : Option Value) = some (.int .i64 0) := D6.Z.cell 7 (by simp [zF])
                        have hfz := fun j => D6.Z.free j
                        have x0 : (_ : Option Value) = some (.int .i64 (b0.toNat : Int)) := D6.F.cell 0 (by simp)
                        have x1 : (_ : Option Value) = some (.int .i64 (b1.toNat : Int)) := D6.F.cell 1 (by simp)
                        have x2 : (_ : Option Value) = some (.int .i64 (b2.toNat : Int)) := D6.F.cell 2 (by simp)
                        have x3 : (_ : Option Value) = some (.int .i64 1) := D6.F.cell 3 (by simp)
                        have x4 : (_ : Option Value) = some (.string ⟨#[]⟩) := D6.F.cell 4 (by simp)
                        have x5 : (_ : Option Value) = some (.int .i64 4) := D6.F.cell 5 (by simp)
                        have x6 : (_ : Option Value) = some (.bool false) := D6.F.cell 6 (by simp)
                        have x7 : (_ : Option Value) = some (.int .i64 (pi : Int)) := D6.F.cell 7 (by simp)
                        have hfx := fun j => D6.F.free j
                        have yk0 := (D6.B.cell (p := ⟨b, off + j * 3, none⟩) hb0).trans hcw0
                        go_upto_region 23 with fail
                        have D7 : ZX w ((((w6.setCell ⟨w.heap.size + 1, 5, none⟩ (.int .i64 3)).setCell ⟨w.heap.size + 1, 5, none⟩ (.int .i64 1)).setCell ⟨w.heap.size + 1, 4, none⟩ (.string z)).setCell ⟨w.heap.size + 1, 6, none⟩ (.bool K3)) [.int .i64 (b0.toNat : Int), .int .i64 (b1.toNat : Int), .int .i64 (b2.toNat : Int), .int .i64 1, .string z, .int .i64 1, .bool K3, .int .i64 (pi : Int)] := ((((D6.put 5 _).put 5 _).put 4 _).put 6 _)
                        clear z0 z1 z2 z3 z4 z5 z6 z7 x0 x1 x2 x3 x4 x5 x6 x7 hfz hfx yk0
                        generalize ((((w6.setCell ⟨w.heap.size + 1, 5, none⟩ (.int .i64 3)).setCell ⟨w.heap.size + 1, 5, none⟩ (.int .i64 1)).setCell ⟨w.heap.size + 1, 4, none⟩ (.string z)).setCell ⟨w.heap.size + 1, 6, none⟩ (.bool K3)) = W7 at D7 ⊢
                        have z0 : (_ : Option Value) = some (.int .i64 0) := D7.Z.cell 0 (by simp [zF])
                        have z1 : (_ : Option Value) = some (.int .i64 0) := D7.Z.cell 1 (by simp [zF])
                        have z2 : (_ : Option Value) = some (.int .i64 0) := D7.Z.cell 2 (by simp [zF])
                        have z3 : (_ : Option Value) = some (.int .i64 0) := D7.Z.cell 3 (by simp [zF])
                        have z4 : (_ : Option Value) = some (.string ⟨#[]⟩) := D7.Z.cell 4 (by simp [zF])
                        have z5 : (_ : Option Value) = some (.int .i64 0) := D7.Z.cell 5 (by simp [zF])
                        have z6 : (_ : Option Value) = some (.bool false) := D7.Z.cell 6 (by simp [zF])
                        have z7 : (_ : Option Value) = some (.int .i64 0) := D7.Z.cell 7 (by simp [zF])
                        have hfz := fun j => D7.Z.free j
                        have x0 : (_ : Option Value) = some (.int .i64 (b0.toNat : Int)) := D7.F.cell 0 (by simp)
                        have x1 : (_ : Option Value) = some (.int .i64 (b1.toNat : Int)) := D7.F.cell 1 (by simp)
                        have x2 : (_ : Option Value) = some (.int .i64 (b2.toNat : Int)) := D7.F.cell 2 (by simp)
                        have x3 : (_ : Option Value) = some (.int .i64 1) := D7.F.cell 3 (by simp)
                        have x4 : (_ : Option Value) = some (.string z) := D7.F.cell 4 (by simp)
                        have x5 : (_ : Option Value) = some (.int .i64 1) := D7.F.cell 5 (by simp)
                        have x6 : (_ : Option Value) = some (.bool K3) := D7.F.cell 6 (by simp)
                        have x7 : (_ : Option Value) = some (.int .i64 (pi : Int)) := D7.F.cell 7 (by simp)
                        have hfx := fun j => D7.F.free j
                        go_wp2_with fail
                        refine bodyPost_ret (v := vFound ⟨b0.toNat, b1.toNat, b2.toNat, 1, z, 1, K3, (pi : Int)⟩) (by simp [results, Tryz.results33, go_sem, World.cell?_setCell_other, z0, z1, z2, z3, z4, z5, z6, z7, vFound]) rfl ⟨by rw [← HN.out]; rfl, bb8 D7.B _ _ _ _ _ _ _ _⟩
                      exact AllReadyH.nil
                    exact AllReadyH.nil
                  exact AllReadyH.nil
                exact AllReadyH.nil
          · have fl := fun W => fl 32 W (by omega)
            rw [show ((32 : Nat) : Int) = 32 from rfl] at fl
            rw [show 8 * 2 ^ 2 = 32 from rfl] at HR4
            obtain ⟨H2, hH2⟩ : ∃ H, fldL f (bl s) kj bj 32 = H := ⟨_, rfl⟩
            rw [hH2] at fl HR4
            have HR5 := Lib.hid HR4
            clear hH2 HR4
            go_upto_region 15 with fail
            rcases H2 with _ | ⟨d, ok2⟩
            · dsimp only [fldV] at fl
              refine wp_region_held_drew (S := (fun W => W.cell? ⟨b, off + j * 3, none⟩ = some (.int .i64 (kj : Int)) ∧ W.cell? ⟨b, off + j * 3 + 1, none⟩ = some (.int .i64 (pj : Int)) ∧ W.cell? ⟨b, off + j * 3 + 2, none⟩ = some (.int .i64 (bj : Int)) ∧ W.cell? ⟨w.heap.size + 1, 3, none⟩ = some (.int .i64 2))) (by kernel_rfl) ?hS361 (fun hHeld => ?rest362)
              case hS361 => (exact ⟨y0, y1, y2, x3⟩)
              refine wpAnyH_take (i := 0) (oi := _) (v := ?v363) rfl (by kernel_rfl) (by kernel_rfl) (by kernel_rfl) (fun _ _ _ h => h) (Or.inl ⟨by rfl, ?hy364⟩) hHeld ?rest365
              case hy364 => (intro w hSw; (try dsimp only at hSw); go_simp; (try with_reducible rfl))
              try simp only [Act.put, List.setIfInBounds_toArray, List.set_cons_zero, List.set_cons_succ]
              refine wpAnyH_take (i := 1) (oi := _) (v := ?v366) rfl (by kernel_rfl) (by kernel_rfl) (by kernel_rfl) (fun _ _ _ h => h) (Or.inl ⟨by rfl, ?hy367⟩) hHeld ?rest368
              case hy367 => (intro w hSw; (try dsimp only at hSw); go_simp; (try with_reducible rfl))
              try simp only [Act.put, List.setIfInBounds_toArray, List.set_cons_zero, List.set_cons_succ]
              refine wpAnyH_take (i := 2) (oi := _) (v := ?v369) rfl (by kernel_rfl) (by kernel_rfl) (by kernel_rfl) (fun _ _ _ h => h) (Or.inl ⟨by rfl, ?hy370⟩) hHeld ?rest371
              case hy370 => (intro w hSw; (try dsimp only at hSw); go_simp; (try with_reducible rfl))
              try simp only [Act.put, List.setIfInBounds_toArray, List.set_cons_zero, List.set_cons_succ]
              refine wpAnyH_take (i := 3) (oi := _) (v := ?v372) rfl (by kernel_rfl) (by kernel_rfl) (by kernel_rfl) (fun _ _ _ h => h) (Or.inl ⟨by rfl, ?hy373⟩) hHeld ?rest374
              case hy373 => (intro w hSw; (try dsimp only at hSw); go_simp; (try with_reducible rfl))
              try simp only [Act.put, List.setIfInBounds_toArray, List.set_cons_zero, List.set_cons_succ]
              refine wpAnyH_take (i := 4) (oi := _) (v := ?v375) rfl (by kernel_rfl) (by kernel_rfl) (by kernel_rfl) (fun _ _ _ h => h) (Or.inl ⟨by rfl, ?hy376⟩) hHeld ?rest377
              case hy376 => (intro w hSw; (try dsimp only at hSw); go_simp; (try with_reducible rfl))
              try simp only [Act.put, List.setIfInBounds_toArray, List.set_cons_zero, List.set_cons_succ]
              refine wpAnyH_take (i := 5) (oi := _) (v := ?v378) rfl (by kernel_rfl) (by kernel_rfl) (by kernel_rfl) (fun _ _ _ h => h) (Or.inl ⟨by rfl, ?hy379⟩) hHeld ?rest380
              case hy379 => (intro w hSw; (try dsimp only at hSw); go_simp; (try with_reducible rfl))
              try simp only [Act.put, List.setIfInBounds_toArray, List.set_cons_zero, List.set_cons_succ]
              refine wpAnyH_take (i := 6) (oi := _) (v := ?v381) rfl (by kernel_rfl) (by kernel_rfl) (by kernel_rfl) (fun _ _ _ h => h) (Or.inl ⟨by rfl, ?hy382⟩) hHeld ?rest383
              case hy382 => (intro w hSw; (try dsimp only at hSw); go_simp; (try with_reducible rfl))
              try simp only [Act.put, List.setIfInBounds_toArray, List.set_cons_zero, List.set_cons_succ]
              refine wpAnyH_take (i := 7) (oi := _) (v := ?v384) rfl (by kernel_rfl) (by kernel_rfl) (by kernel_rfl) (fun _ _ _ h => h) (Or.inl ⟨by rfl, ?hy385⟩) hHeld ?rest386
              case hy385 => (intro w hSw; (try dsimp only at hSw); go_simp; (try with_reducible rfl))
              try simp only [Act.put, List.setIfInBounds_toArray, List.set_cons_zero, List.set_cons_succ]
              refine wpAnyH_take (i := 8) (oi := _) (v := ?v387) rfl (by kernel_rfl) (by kernel_rfl) (by kernel_rfl) (fun _ _ _ h => h) (Or.inl ⟨by rfl, ?hy388⟩) hHeld ?rest389
              case hy388 => (intro w hSw; (try dsimp only at hSw); go_simp; (try with_reducible rfl))
              try simp only [Act.put, List.setIfInBounds_toArray, List.set_cons_zero, List.set_cons_succ]
              refine wpAnyH_take (i := 9) (oi := _) (v := ?v390) rfl (by kernel_rfl) (by kernel_rfl) (by kernel_rfl) (fun _ _ _ h => h) (Or.inl ⟨by rfl, ?hy391⟩) hHeld ?rest392
              case hy391 => (intro w hSw; (try dsimp only at hSw); go_simp; (try with_reducible rfl))
              try simp only [Act.put, List.setIfInBounds_toArray, List.set_cons_zero, List.set_cons_succ]
              refine wpAnyH_ready (rs := [10]) (by kernel_rfl) (by simp) ?_
              refine AllReadyH.cons (o := _) rfl (fun K hK => ?stp417) ?more418
              case stp417 =>
                go_simp
                refine (fl _).mono ?_
                rintro e w6 ⟨rfl, hx6⟩
                have D6 := D5.dr.next hx6
                (try go_wp2_with fail)
                refine hK.out _ _ ?hS419 (fun hHeld2 => ?rest420)
                case hS419 => (exact ⟨(D6.B.cell (p := ⟨b, off + j * 3, none⟩) hb0).trans hcw0, (D6.B.cell (p := ⟨b, off + j * 3 + 1, none⟩) hb0).trans hcw1, (D6.B.cell (p := ⟨b, off + j * 3 + 2, none⟩) hb0).trans hcw2, D6.F.cell 3 (by simp)⟩)
                clear hK K hHeld
                have hHeld := hHeld2
                clear hHeld2
                try simp only [Act.put, List.setIfInBounds_toArray, List.set_cons_zero, List.set_cons_succ]
                refine wpAnyH_take (i := 11) (oi := _) (v := ?v393) rfl (by kernel_rfl) (by kernel_rfl) (by kernel_rfl) (fun _ _ _ h => h) (Or.inl ⟨by rfl, ?hy394⟩) hHeld ?rest395
                case hy394 => (intro w hSw; (try dsimp only at hSw); go_simp; (try with_reducible rfl))
                try simp only [Act.put, List.setIfInBounds_toArray, List.set_cons_zero, List.set_cons_succ]
                refine wpAnyH_take (i := 12) (oi := _) (v := ?v396) rfl (by kernel_rfl) (by kernel_rfl) (by kernel_rfl) (fun _ _ _ h => h) (Or.inl ⟨by rfl, ?hy397⟩) hHeld ?rest398
                case hy397 => (intro w hSw; (try dsimp only at hSw); go_simp; (try with_reducible rfl))
                try simp only [Act.put, List.setIfInBounds_toArray, List.set_cons_zero, List.set_cons_succ]
                refine wpAnyH_take (i := 13) (oi := _) (v := ?v399) rfl (by kernel_rfl) (by kernel_rfl) (by kernel_rfl) (fun _ _ _ h => h) (Or.inl ⟨by rfl, ?hy400⟩) hHeld ?rest401
                case hy400 => (intro w hSw; (try dsimp only at hSw); go_simp; (try with_reducible rfl))
                try simp only [Act.put, List.setIfInBounds_toArray, List.set_cons_zero, List.set_cons_succ]
                refine wpAnyH_take (i := 14) (oi := _) (v := ?v402) rfl (by kernel_rfl) (by kernel_rfl) (by kernel_rfl) (fun _ _ _ h => h) (Or.inl ⟨by rfl, ?hy403⟩) hHeld ?rest404
                case hy403 => (intro w hSw; (try dsimp only at hSw); go_simp; (try with_reducible rfl))
                try simp only [Act.put, List.setIfInBounds_toArray, List.set_cons_zero, List.set_cons_succ]
                refine wpAnyH_ready (rs := [15]) (by kernel_rfl) (by simp) ?_
                refine AllReadyH.cons (o := _) rfl (fun K hK => ?stp413) ?more414
                case stp413 =>
                  go_simp
                  refine hK.out _ _ ?hS415 (fun hHeld2 => ?rest416)
                  case hS415 => (exact hHeld)
                  clear hK K hHeld
                  have hHeld := hHeld2
                  clear hHeld2
                  try simp only [Act.put, List.setIfInBounds_toArray, List.set_cons_zero, List.set_cons_succ]
                  refine wpAnyH_ready (rs := [16]) (by kernel_rfl) (by simp) ?_
                  refine AllReadyH.cons (o := _) rfl (fun K hK => ?stp409) ?more410
                  case stp409 =>
                    go_simp
                    refine hK.out _ _ ?hS411 (fun hHeld2 => ?rest412)
                    case hS411 => (exact hHeld)
                    clear hK K hHeld
                    have hHeld := hHeld2
                    clear hHeld2
                    try simp only [Act.put, List.setIfInBounds_toArray, List.set_cons_zero, List.set_cons_succ]
                    refine wpAnyH_ready (rs := [17]) (by kernel_rfl) (by simp) ?_
                    refine AllReadyH.cons (o := _) rfl (fun K hK => ?stp405) ?more406
                    case stp405 =>
                      go_simp
                      refine hK.out _ _ ?hS407 (fun hHeld2 => ?rest408)
                      case hS407 => (exact hHeld)
                      clear hK K hHeld
                      have hHeld := hHeld2
                      clear hHeld2
                      try simp only [Act.put, List.setIfInBounds_toArray, List.set_cons_zero, List.set_cons_succ]
                      refine wpAnyH_done (by kernel_rfl) ?_ _
                      have HN := Lib.hid HR5.out
                      have z0 : (_ : Option Value) = some (.int .i64 0) := D6.Z.cell 0 (by simp [zF])
                      have z1 : (_ : Option Value) = some (.int .i64 0) := D6.Z.cell 1 (by simp [zF])
                      have z2 : (_ : Option Value) = some (.int .i64 0) := D6.Z.cell 2 (by simp [zF])
                      have z3 : (_ : Option Value) = some (.int .i64 0) := D6.Z.cell 3 (by simp [zF])
                      have z4 : (_ : Option Value) = some (.string ⟨#[]⟩) := D6.Z.cell 4 (by simp [zF])
                      have z5 : (_ : Option Value) = some (.int .i64 0) := D6.Z.cell 5 (by simp [zF])
                      have z6 : (_ : Option Value) = some (.bool false) := D6.Z.cell 6 (by simp [zF])
                      have z7 : (_ : Option Value) = some (.int .i64 0) := D6.Z.cell 7 (by simp [zF])
                      have hfz := fun j => D6.Z.free j
                      have x0 : (_ : Option Value) = some (.int .i64 (b0.toNat : Int)) := D6.F.cell 0 (by simp)
                      have x1 : (_ : Option Value) = some (.int .i64 (b1.toNat : Int)) := D6.F.cell 1 (by simp)
                      have x2 : (_ : Option Value) = some (.int .i64 (b2.toNat : Int)) := D6.F.cell 2 (by simp)
                      have x3 : (_ : Option Value) = some (.int .i64 2) := D6.F.cell 3 (by simp)
                      have x4 : (_ : Option Value) = some (.string ⟨#[]⟩) := D6.F.cell 4 (by simp)
                      have x5 : (_ : Option Value) = some (.int .i64 4) := D6.F.cell 5 (by simp)
                      have x6 : (_ : Option Value) = some (.bool false) := D6.F.cell 6 (by simp)
                      have x7 : (_ : Option Value) = some (.int .i64 (pi : Int)) := D6.F.cell 7 (by simp)
                      have hfx := fun j => D6.F.free j
                      go_wp2_with fail
                      refine bodyPost_ret (v := vFound ⟨b0.toNat, b1.toNat, b2.toNat, 2, ⟨#[]⟩, 4, false, (pi : Int)⟩) (by simp [results, Tryz.results33, go_sem, World.cell?_setCell_other, z0, z1, z2, z3, z4, z5, z6, z7, vFound]) rfl ⟨by rw [← HN.out]; rfl, bb8 D6.B _ _ _ _ _ _ _ _⟩
                    exact AllReadyH.nil
                  exact AllReadyH.nil
                exact AllReadyH.nil
              exact AllReadyH.nil
            · dsimp only [fldV] at fl
              obtain ⟨z, hz⟩ : ∃ z, str1 d = z := ⟨_, rfl⟩
              have HR6 := HR5.out
              dsimp only at HR6
              rw [hz] at fl HR6
              have HR5 := Lib.hid HR6
              clear HR6 hz
              cases ok2
              · skip
                refine wp_region_held_drew (S := (fun W => W.cell? ⟨b, off + j * 3, none⟩ = some (.int .i64 (kj : Int)) ∧ W.cell? ⟨b, off + j * 3 + 1, none⟩ = some (.int .i64 (pj : Int)) ∧ W.cell? ⟨b, off + j * 3 + 2, none⟩ = some (.int .i64 (bj : Int)) ∧ W.cell? ⟨w.heap.size + 1, 3, none⟩ = some (.int .i64 2))) (by kernel_rfl) ?hS421 (fun hHeld => ?rest422)
                case hS421 => (exact ⟨y0, y1, y2, x3⟩)
                refine wpAnyH_take (i := 0) (oi := _) (v := ?v423) rfl (by kernel_rfl) (by kernel_rfl) (by kernel_rfl) (fun _ _ _ h => h) (Or.inl ⟨by rfl, ?hy424⟩) hHeld ?rest425
                case hy424 => (intro w hSw; (try dsimp only at hSw); go_simp; (try with_reducible rfl))
                try simp only [Act.put, List.setIfInBounds_toArray, List.set_cons_zero, List.set_cons_succ]
                refine wpAnyH_take (i := 1) (oi := _) (v := ?v426) rfl (by kernel_rfl) (by kernel_rfl) (by kernel_rfl) (fun _ _ _ h => h) (Or.inl ⟨by rfl, ?hy427⟩) hHeld ?rest428
                case hy427 => (intro w hSw; (try dsimp only at hSw); go_simp; (try with_reducible rfl))
                try simp only [Act.put, List.setIfInBounds_toArray, List.set_cons_zero, List.set_cons_succ]
                refine wpAnyH_take (i := 2) (oi := _) (v := ?v429) rfl (by kernel_rfl) (by kernel_rfl) (by kernel_rfl) (fun _ _ _ h => h) (Or.inl ⟨by rfl, ?hy430⟩) hHeld ?rest431
                case hy430 => (intro w hSw; (try dsimp only at hSw); go_simp; (try with_reducible rfl))
                try simp only [Act.put, List.setIfInBounds_toArray, List.set_cons_zero, List.set_cons_succ]
                refine wpAnyH_take (i := 3) (oi := _) (v := ?v432) rfl (by kernel_rfl) (by kernel_rfl) (by kernel_rfl) (fun _ _ _ h => h) (Or.inl ⟨by rfl, ?hy433⟩) hHeld ?rest434
                case hy433 => (intro w hSw; (try dsimp only at hSw); go_simp; (try with_reducible rfl))
                try simp only [Act.put, List.setIfInBounds_toArray, List.set_cons_zero, List.set_cons_succ]
                refine wpAnyH_take (i := 4) (oi := _) (v := ?v435) rfl (by kernel_rfl) (by kernel_rfl) (by kernel_rfl) (fun _ _ _ h => h) (Or.inl ⟨by rfl, ?hy436⟩) hHeld ?rest437
                case hy436 => (intro w hSw; (try dsimp only at hSw); go_simp; (try with_reducible rfl))
                try simp only [Act.put, List.setIfInBounds_toArray, List.set_cons_zero, List.set_cons_succ]
                refine wpAnyH_take (i := 5) (oi := _) (v := ?v438) rfl (by kernel_rfl) (by kernel_rfl) (by kernel_rfl) (fun _ _ _ h => h) (Or.inl ⟨by rfl, ?hy439⟩) hHeld ?rest440
                case hy439 => (intro w hSw; (try dsimp only at hSw); go_simp; (try with_reducible rfl))
                try simp only [Act.put, List.setIfInBounds_toArray, List.set_cons_zero, List.set_cons_succ]
                refine wpAnyH_take (i := 6) (oi := _) (v := ?v441) rfl (by kernel_rfl) (by kernel_rfl) (by kernel_rfl) (fun _ _ _ h => h) (Or.inl ⟨by rfl, ?hy442⟩) hHeld ?rest443
                case hy442 => (intro w hSw; (try dsimp only at hSw); go_simp; (try with_reducible rfl))
                try simp only [Act.put, List.setIfInBounds_toArray, List.set_cons_zero, List.set_cons_succ]
                refine wpAnyH_take (i := 7) (oi := _) (v := ?v444) rfl (by kernel_rfl) (by kernel_rfl) (by kernel_rfl) (fun _ _ _ h => h) (Or.inl ⟨by rfl, ?hy445⟩) hHeld ?rest446
                case hy445 => (intro w hSw; (try dsimp only at hSw); go_simp; (try with_reducible rfl))
                try simp only [Act.put, List.setIfInBounds_toArray, List.set_cons_zero, List.set_cons_succ]
                refine wpAnyH_take (i := 8) (oi := _) (v := ?v447) rfl (by kernel_rfl) (by kernel_rfl) (by kernel_rfl) (fun _ _ _ h => h) (Or.inl ⟨by rfl, ?hy448⟩) hHeld ?rest449
                case hy448 => (intro w hSw; (try dsimp only at hSw); go_simp; (try with_reducible rfl))
                try simp only [Act.put, List.setIfInBounds_toArray, List.set_cons_zero, List.set_cons_succ]
                refine wpAnyH_take (i := 9) (oi := _) (v := ?v450) rfl (by kernel_rfl) (by kernel_rfl) (by kernel_rfl) (fun _ _ _ h => h) (Or.inl ⟨by rfl, ?hy451⟩) hHeld ?rest452
                case hy451 => (intro w hSw; (try dsimp only at hSw); go_simp; (try with_reducible rfl))
                try simp only [Act.put, List.setIfInBounds_toArray, List.set_cons_zero, List.set_cons_succ]
                refine wpAnyH_ready (rs := [10]) (by kernel_rfl) (by simp) ?_
                refine AllReadyH.cons (o := _) rfl (fun K hK => ?stp477) ?more478
                case stp477 =>
                  go_simp
                  refine (fl _).mono ?_
                  rintro e w6 ⟨rfl, hx6⟩
                  have D6 := D5.dr.next hx6
                  (try go_wp2_with fail)
                  refine hK.out _ _ ?hS479 (fun hHeld2 => ?rest480)
                  case hS479 => (exact ⟨(D6.B.cell (p := ⟨b, off + j * 3, none⟩) hb0).trans hcw0, (D6.B.cell (p := ⟨b, off + j * 3 + 1, none⟩) hb0).trans hcw1, (D6.B.cell (p := ⟨b, off + j * 3 + 2, none⟩) hb0).trans hcw2, D6.F.cell 3 (by simp)⟩)
                  clear hK K hHeld
                  have hHeld := hHeld2
                  clear hHeld2
                  try simp only [Act.put, List.setIfInBounds_toArray, List.set_cons_zero, List.set_cons_succ]
                  refine wpAnyH_take (i := 11) (oi := _) (v := ?v453) rfl (by kernel_rfl) (by kernel_rfl) (by kernel_rfl) (fun _ _ _ h => h) (Or.inl ⟨by rfl, ?hy454⟩) hHeld ?rest455
                  case hy454 => (intro w hSw; (try dsimp only at hSw); go_simp; (try with_reducible rfl))
                  try simp only [Act.put, List.setIfInBounds_toArray, List.set_cons_zero, List.set_cons_succ]
                  refine wpAnyH_take (i := 12) (oi := _) (v := ?v456) rfl (by kernel_rfl) (by kernel_rfl) (by kernel_rfl) (fun _ _ _ h => h) (Or.inl ⟨by rfl, ?hy457⟩) hHeld ?rest458
                  case hy457 => (intro w hSw; (try dsimp only at hSw); go_simp; (try with_reducible rfl))
                  try simp only [Act.put, List.setIfInBounds_toArray, List.set_cons_zero, List.set_cons_succ]
                  refine wpAnyH_take (i := 13) (oi := _) (v := ?v459) rfl (by kernel_rfl) (by kernel_rfl) (by kernel_rfl) (fun _ _ _ h => h) (Or.inl ⟨by rfl, ?hy460⟩) hHeld ?rest461
                  case hy460 => (intro w hSw; (try dsimp only at hSw); go_simp; (try with_reducible rfl))
                  try simp only [Act.put, List.setIfInBounds_toArray, List.set_cons_zero, List.set_cons_succ]
                  refine wpAnyH_take (i := 14) (oi := _) (v := ?v462) rfl (by kernel_rfl) (by kernel_rfl) (by kernel_rfl) (fun _ _ _ h => h) (Or.inl ⟨by rfl, ?hy463⟩) hHeld ?rest464
                  case hy463 => (intro w hSw; (try dsimp only at hSw); go_simp; (try with_reducible rfl))
                  try simp only [Act.put, List.setIfInBounds_toArray, List.set_cons_zero, List.set_cons_succ]
                  refine wpAnyH_ready (rs := [15]) (by kernel_rfl) (by simp) ?_
                  refine AllReadyH.cons (o := _) rfl (fun K hK => ?stp473) ?more474
                  case stp473 =>
                    go_simp
                    refine hK.out _ _ ?hS475 (fun hHeld2 => ?rest476)
                    case hS475 => (exact hHeld)
                    clear hK K hHeld
                    have hHeld := hHeld2
                    clear hHeld2
                    try simp only [Act.put, List.setIfInBounds_toArray, List.set_cons_zero, List.set_cons_succ]
                    refine wpAnyH_ready (rs := [16]) (by kernel_rfl) (by simp) ?_
                    refine AllReadyH.cons (o := _) rfl (fun K hK => ?stp469) ?more470
                    case stp469 =>
                      go_simp
                      refine hK.out _ _ ?hS471 (fun hHeld2 => ?rest472)
                      case hS471 => (exact hHeld)
                      clear hK K hHeld
                      have hHeld := hHeld2
                      clear hHeld2
                      try simp only [Act.put, List.setIfInBounds_toArray, List.set_cons_zero, List.set_cons_succ]
                      refine wpAnyH_ready (rs := [17]) (by kernel_rfl) (by simp) ?_
                      refine AllReadyH.cons (o := _) rfl (fun K hK => ?stp465) ?more466
                      case stp465 =>
                        go_simp
                        refine hK.out _ _ ?hS467 (fun hHeld2 => ?rest468)
                        case hS467 => (exact hHeld)
                        clear hK K hHeld
                        have hHeld := hHeld2
                        clear hHeld2
                        try simp only [Act.put, List.setIfInBounds_toArray, List.set_cons_zero, List.set_cons_succ]
                        refine wpAnyH_done (by kernel_rfl) ?_ _
                        have HN := Lib.hid HR5.out
                        have z0 : (_ : Option Value) = some (.int .i64 0) := D6.Z.cell 0 (by simp [zF])
                        have z1 : (_ : Option Value) = some (.int .i64 0) := D6.Z.cell 1 (by simp [zF])
                        have z2 : (_ : Option Value) = some (.int .i64 0) := D6.Z.cell 2 (by simp [zF])
                        have z3 : (_ : Option Value) = some (.int .i64 0) := D6.Z.cell 3 (by simp [zF])
                        have z4 : (_ : Option Value) = some (.string ⟨#[]⟩) := D6.Z.cell 4 (by simp [zF])
                        have z5 : (_ : Option Value) = some (.int .i64 0) := D6.Z.cell 5 (by simp [zF])
                        have z6 : (_ : Option Value) = some (.bool false) := D6.Z.cell 6 (by simp [zF])
                        have z7 : (_ : Option Value) = some (.int .i64 0) := D6.Z.cell 7 (by simp [zF])
                        have hfz := fun j => D6.Z.free j
                        have x0 : (_ : Option Value) = some (.int .i64 (b0.toNat : Int)) := D6.F.cell 0 (by simp)
                        have x1 : (_ : Option Value) = some (.int .i64 (b1.toNat : Int)) := D6.F.cell 1 (by simp)
                        have x2 : (_ : Option Value) = some (.int .i64 (b2.toNat : Int)) := D6.F.cell 2 (by simp)
                        have x3 : (_ : Option Value) = some (.int .i64 2) := D6.F.cell 3 (by simp)
                        have x4 : (_ : Option Value) = some (.string ⟨#[]⟩) := D6.F.cell 4 (by simp)
                        have x5 : (_ : Option Value) = some (.int .i64 4) := D6.F.cell 5 (by simp)
                        have x6 : (_ : Option Value) = some (.bool false) := D6.F.cell 6 (by simp)
                        have x7 : (_ : Option Value) = some (.int .i64 (pi : Int)) := D6.F.cell 7 (by simp)
                        have hfx := fun j => D6.F.free j
                        have yk0 := (D6.B.cell (p := ⟨b, off + j * 3, none⟩) hb0).trans hcw0
                        go_upto_region 23 with fail
                        have D7 : ZX w (((w6.setCell ⟨w.heap.size + 1, 5, none⟩ (.int .i64 3)).setCell ⟨w.heap.size + 1, 4, none⟩ (.string z)).setCell ⟨w.heap.size + 1, 6, none⟩ (.bool K3)) [.int .i64 (b0.toNat : Int), .int .i64 (b1.toNat : Int), .int .i64 (b2.toNat : Int), .int .i64 2, .string z, .int .i64 3, .bool K3, .int .i64 (pi : Int)] := (((D6.put 5 _).put 4 _).put 6 _)
                        clear z0 z1 z2 z3 z4 z5 z6 z7 x0 x1 x2 x3 x4 x5 x6 x7 hfz hfx yk0
                        generalize (((w6.setCell ⟨w.heap.size + 1, 5, none⟩ (.int .i64 3)).setCell ⟨w.heap.size + 1, 4, none⟩ (.string z)).setCell ⟨w.heap.size + 1, 6, none⟩ (.bool K3)) = W7 at D7 ⊢
                        have z0 : (_ : Option Value) = some (.int .i64 0) := D7.Z.cell 0 (by simp [zF])
                        have z1 : (_ : Option Value) = some (.int .i64 0) := D7.Z.cell 1 (by simp [zF])
                        have z2 : (_ : Option Value) = some (.int .i64 0) := D7.Z.cell 2 (by simp [zF])
                        have z3 : (_ : Option Value) = some (.int .i64 0) := D7.Z.cell 3 (by simp [zF])
                        have z4 : (_ : Option Value) = some (.string ⟨#[]⟩) := D7.Z.cell 4 (by simp [zF])
                        have z5 : (_ : Option Value) = some (.int .i64 0) := D7.Z.cell 5 (by simp [zF])
                        have z6 : (_ : Option Value) = some (.bool false) := D7.Z.cell 6 (by simp [zF])
                        have z7 : (_ : Option Value) = some (.int .i64 0) := D7.Z.cell 7 (by simp [zF])
                        have hfz := fun j => D7.Z.free j
                        have x0 : (_ : Option Value) = some (.int .i64 (b0.toNat : Int)) := D7.F.cell 0 (by simp)
                        have x1 : (_ : Option Value) = some (.int .i64 (b1.toNat : Int)) := D7.F.cell 1 (by simp)
                        have x2 : (_ : Option Value) = some (.int .i64 (b2.toNat : Int)) := D7.F.cell 2 (by simp)
                        have x3 : (_ : Option Value) = some (.int .i64 2) := D7.F.cell 3 (by simp)
                        have x4 : (_ : Option Value) = some (.string z) := D7.F.cell 4 (by simp)
                        have x5 : (_ : Option Value) = some (.int .i64 3) := D7.F.cell 5 (by simp)
                        have x6 : (_ : Option Value) = some (.bool K3) := D7.F.cell 6 (by simp)
                        have x7 : (_ : Option Value) = some (.int .i64 (pi : Int)) := D7.F.cell 7 (by simp)
                        have hfx := fun j => D7.F.free j
                        go_wp2_with fail
                        refine bodyPost_ret (v := vFound ⟨b0.toNat, b1.toNat, b2.toNat, 2, z, 3, K3, (pi : Int)⟩) (by simp [results, Tryz.results33, go_sem, World.cell?_setCell_other, z0, z1, z2, z3, z4, z5, z6, z7, vFound]) rfl ⟨by rw [← HN.out]; rfl, bb8 D7.B _ _ _ _ _ _ _ _⟩
                      exact AllReadyH.nil
                    exact AllReadyH.nil
                  exact AllReadyH.nil
                exact AllReadyH.nil
              · skip
                refine wp_region_held_drew (S := (fun W => W.cell? ⟨b, off + j * 3, none⟩ = some (.int .i64 (kj : Int)) ∧ W.cell? ⟨b, off + j * 3 + 1, none⟩ = some (.int .i64 (pj : Int)) ∧ W.cell? ⟨b, off + j * 3 + 2, none⟩ = some (.int .i64 (bj : Int)) ∧ W.cell? ⟨w.heap.size + 1, 3, none⟩ = some (.int .i64 2))) (by kernel_rfl) ?hS481 (fun hHeld => ?rest482)
                case hS481 => (exact ⟨y0, y1, y2, x3⟩)
                refine wpAnyH_take (i := 0) (oi := _) (v := ?v483) rfl (by kernel_rfl) (by kernel_rfl) (by kernel_rfl) (fun _ _ _ h => h) (Or.inl ⟨by rfl, ?hy484⟩) hHeld ?rest485
                case hy484 => (intro w hSw; (try dsimp only at hSw); go_simp; (try with_reducible rfl))
                try simp only [Act.put, List.setIfInBounds_toArray, List.set_cons_zero, List.set_cons_succ]
                refine wpAnyH_take (i := 1) (oi := _) (v := ?v486) rfl (by kernel_rfl) (by kernel_rfl) (by kernel_rfl) (fun _ _ _ h => h) (Or.inl ⟨by rfl, ?hy487⟩) hHeld ?rest488
                case hy487 => (intro w hSw; (try dsimp only at hSw); go_simp; (try with_reducible rfl))
                try simp only [Act.put, List.setIfInBounds_toArray, List.set_cons_zero, List.set_cons_succ]
                refine wpAnyH_take (i := 2) (oi := _) (v := ?v489) rfl (by kernel_rfl) (by kernel_rfl) (by kernel_rfl) (fun _ _ _ h => h) (Or.inl ⟨by rfl, ?hy490⟩) hHeld ?rest491
                case hy490 => (intro w hSw; (try dsimp only at hSw); go_simp; (try with_reducible rfl))
                try simp only [Act.put, List.setIfInBounds_toArray, List.set_cons_zero, List.set_cons_succ]
                refine wpAnyH_take (i := 3) (oi := _) (v := ?v492) rfl (by kernel_rfl) (by kernel_rfl) (by kernel_rfl) (fun _ _ _ h => h) (Or.inl ⟨by rfl, ?hy493⟩) hHeld ?rest494
                case hy493 => (intro w hSw; (try dsimp only at hSw); go_simp; (try with_reducible rfl))
                try simp only [Act.put, List.setIfInBounds_toArray, List.set_cons_zero, List.set_cons_succ]
                refine wpAnyH_take (i := 4) (oi := _) (v := ?v495) rfl (by kernel_rfl) (by kernel_rfl) (by kernel_rfl) (fun _ _ _ h => h) (Or.inl ⟨by rfl, ?hy496⟩) hHeld ?rest497
                case hy496 => (intro w hSw; (try dsimp only at hSw); go_simp; (try with_reducible rfl))
                try simp only [Act.put, List.setIfInBounds_toArray, List.set_cons_zero, List.set_cons_succ]
                refine wpAnyH_take (i := 5) (oi := _) (v := ?v498) rfl (by kernel_rfl) (by kernel_rfl) (by kernel_rfl) (fun _ _ _ h => h) (Or.inl ⟨by rfl, ?hy499⟩) hHeld ?rest500
                case hy499 => (intro w hSw; (try dsimp only at hSw); go_simp; (try with_reducible rfl))
                try simp only [Act.put, List.setIfInBounds_toArray, List.set_cons_zero, List.set_cons_succ]
                refine wpAnyH_take (i := 6) (oi := _) (v := ?v501) rfl (by kernel_rfl) (by kernel_rfl) (by kernel_rfl) (fun _ _ _ h => h) (Or.inl ⟨by rfl, ?hy502⟩) hHeld ?rest503
                case hy502 => (intro w hSw; (try dsimp only at hSw); go_simp; (try with_reducible rfl))
                try simp only [Act.put, List.setIfInBounds_toArray, List.set_cons_zero, List.set_cons_succ]
                refine wpAnyH_take (i := 7) (oi := _) (v := ?v504) rfl (by kernel_rfl) (by kernel_rfl) (by kernel_rfl) (fun _ _ _ h => h) (Or.inl ⟨by rfl, ?hy505⟩) hHeld ?rest506
                case hy505 => (intro w hSw; (try dsimp only at hSw); go_simp; (try with_reducible rfl))
                try simp only [Act.put, List.setIfInBounds_toArray, List.set_cons_zero, List.set_cons_succ]
                refine wpAnyH_take (i := 8) (oi := _) (v := ?v507) rfl (by kernel_rfl) (by kernel_rfl) (by kernel_rfl) (fun _ _ _ h => h) (Or.inl ⟨by rfl, ?hy508⟩) hHeld ?rest509
                case hy508 => (intro w hSw; (try dsimp only at hSw); go_simp; (try with_reducible rfl))
                try simp only [Act.put, List.setIfInBounds_toArray, List.set_cons_zero, List.set_cons_succ]
                refine wpAnyH_take (i := 9) (oi := _) (v := ?v510) rfl (by kernel_rfl) (by kernel_rfl) (by kernel_rfl) (fun _ _ _ h => h) (Or.inl ⟨by rfl, ?hy511⟩) hHeld ?rest512
                case hy511 => (intro w hSw; (try dsimp only at hSw); go_simp; (try with_reducible rfl))
                try simp only [Act.put, List.setIfInBounds_toArray, List.set_cons_zero, List.set_cons_succ]
                refine wpAnyH_ready (rs := [10]) (by kernel_rfl) (by simp) ?_
                refine AllReadyH.cons (o := _) rfl (fun K hK => ?stp537) ?more538
                case stp537 =>
                  go_simp
                  refine (fl _).mono ?_
                  rintro e w6 ⟨rfl, hx6⟩
                  have D6 := D5.dr.next hx6
                  (try go_wp2_with fail)
                  refine hK.out _ _ ?hS539 (fun hHeld2 => ?rest540)
                  case hS539 => (exact ⟨(D6.B.cell (p := ⟨b, off + j * 3, none⟩) hb0).trans hcw0, (D6.B.cell (p := ⟨b, off + j * 3 + 1, none⟩) hb0).trans hcw1, (D6.B.cell (p := ⟨b, off + j * 3 + 2, none⟩) hb0).trans hcw2, D6.F.cell 3 (by simp)⟩)
                  clear hK K hHeld
                  have hHeld := hHeld2
                  clear hHeld2
                  try simp only [Act.put, List.setIfInBounds_toArray, List.set_cons_zero, List.set_cons_succ]
                  refine wpAnyH_take (i := 11) (oi := _) (v := ?v513) rfl (by kernel_rfl) (by kernel_rfl) (by kernel_rfl) (fun _ _ _ h => h) (Or.inl ⟨by rfl, ?hy514⟩) hHeld ?rest515
                  case hy514 => (intro w hSw; (try dsimp only at hSw); go_simp; (try with_reducible rfl))
                  try simp only [Act.put, List.setIfInBounds_toArray, List.set_cons_zero, List.set_cons_succ]
                  refine wpAnyH_take (i := 12) (oi := _) (v := ?v516) rfl (by kernel_rfl) (by kernel_rfl) (by kernel_rfl) (fun _ _ _ h => h) (Or.inl ⟨by rfl, ?hy517⟩) hHeld ?rest518
                  case hy517 => (intro w hSw; (try dsimp only at hSw); go_simp; (try with_reducible rfl))
                  try simp only [Act.put, List.setIfInBounds_toArray, List.set_cons_zero, List.set_cons_succ]
                  refine wpAnyH_take (i := 13) (oi := _) (v := ?v519) rfl (by kernel_rfl) (by kernel_rfl) (by kernel_rfl) (fun _ _ _ h => h) (Or.inl ⟨by rfl, ?hy520⟩) hHeld ?rest521
                  case hy520 => (intro w hSw; (try dsimp only at hSw); go_simp; (try with_reducible rfl))
                  try simp only [Act.put, List.setIfInBounds_toArray, List.set_cons_zero, List.set_cons_succ]
                  refine wpAnyH_take (i := 14) (oi := _) (v := ?v522) rfl (by kernel_rfl) (by kernel_rfl) (by kernel_rfl) (fun _ _ _ h => h) (Or.inl ⟨by rfl, ?hy523⟩) hHeld ?rest524
                  case hy523 => (intro w hSw; (try dsimp only at hSw); go_simp; (try with_reducible rfl))
                  try simp only [Act.put, List.setIfInBounds_toArray, List.set_cons_zero, List.set_cons_succ]
                  refine wpAnyH_ready (rs := [15]) (by kernel_rfl) (by simp) ?_
                  refine AllReadyH.cons (o := _) rfl (fun K hK => ?stp533) ?more534
                  case stp533 =>
                    go_simp
                    refine hK.out _ _ ?hS535 (fun hHeld2 => ?rest536)
                    case hS535 => (exact hHeld)
                    clear hK K hHeld
                    have hHeld := hHeld2
                    clear hHeld2
                    try simp only [Act.put, List.setIfInBounds_toArray, List.set_cons_zero, List.set_cons_succ]
                    refine wpAnyH_ready (rs := [16]) (by kernel_rfl) (by simp) ?_
                    refine AllReadyH.cons (o := _) rfl (fun K hK => ?stp529) ?more530
                    case stp529 =>
                      go_simp
                      refine hK.out _ _ ?hS531 (fun hHeld2 => ?rest532)
                      case hS531 => (exact hHeld)
                      clear hK K hHeld
                      have hHeld := hHeld2
                      clear hHeld2
                      try simp only [Act.put, List.setIfInBounds_toArray, List.set_cons_zero, List.set_cons_succ]
                      refine wpAnyH_ready (rs := [17]) (by kernel_rfl) (by simp) ?_
                      refine AllReadyH.cons (o := _) rfl (fun K hK => ?stp525) ?more526
                      case stp525 =>
                        go_simp
                        refine hK.out _ _ ?hS527 (fun hHeld2 => ?rest528)
                        case hS527 => (exact hHeld)
                        clear hK K hHeld
                        have hHeld := hHeld2
                        clear hHeld2
                        try simp only [Act.put, List.setIfInBounds_toArray, List.set_cons_zero, List.set_cons_succ]
                        refine wpAnyH_done (by kernel_rfl) ?_ _
                        have HN := Lib.hid HR5.out
                        have z0 : (_ : Option Value) = some (.int .i64 0) := D6.Z.cell 0 (by simp [zF])
                        have z1 : (_ : Option Value) = some (.int .i64 0) := D6.Z.cell 1 (by simp [zF])
                        have z2 : (_ : Option Value) = some (.int .i64 0) := D6.Z.cell 2 (by simp [zF])
                        have z3 : (_ : Option Value) = some (.int .i64 0) := D6.Z.cell 3 (by simp [zF])
                        have z4 : (_ : Option Value) = some (.string ⟨#[]⟩) := D6.Z.cell 4 (by simp [zF])
                        have z5 : (_ : Option Value) = some (.int .i64 0) := D6.Z.cell 5 (by simp [zF])
                        have z6 : (_ : Option Value) = some (.bool false) := D6.Z.cell 6 (by simp [zF])
                        have z7 : (_ : Option Value) = some (.int .i64 0) := D6.Z.cell 7 (by simp [zF])
                        have hfz := fun j => D6.Z.free j
                        have x0 : (_ : Option Value) = some (.int .i64 (b0.toNat : Int)) := D6.F.cell 0 (by simp)
                        have x1 : (_ : Option Value) = some (.int .i64 (b1.toNat : Int)) := D6.F.cell 1 (by simp)
                        have x2 : (_ : Option Value) = some (.int .i64 (b2.toNat : Int)) := D6.F.cell 2 (by simp)
                        have x3 : (_ : Option Value) = some (.int .i64 2) := D6.F.cell 3 (by simp)
                        have x4 : (_ : Option Value) = some (.string ⟨#[]⟩) := D6.F.cell 4 (by simp)
                        have x5 : (_ : Option Value) = some (.int .i64 4) := D6.F.cell 5 (by simp)
                        have x6 : (_ : Option Value) = some (.bool false) := D6.F.cell 6 (by simp)
                        have x7 : (_ : Option Value) = some (.int .i64 (pi : Int)) := D6.F.cell 7 (by simp)
                        have hfx := fun j => D6.F.free j
                        have yk0 := (D6.B.cell (p := ⟨b, off + j * 3, none⟩) hb0).trans hcw0
                        go_upto_region 23 with fail
                        have D7 : ZX w ((((w6.setCell ⟨w.heap.size + 1, 5, none⟩ (.int .i64 3)).setCell ⟨w.heap.size + 1, 5, none⟩ (.int .i64 1)).setCell ⟨w.heap.size + 1, 4, none⟩ (.string z)).setCell ⟨w.heap.size + 1, 6, none⟩ (.bool K3)) [.int .i64 (b0.toNat : Int), .int .i64 (b1.toNat : Int), .int .i64 (b2.toNat : Int), .int .i64 2, .string z, .int .i64 1, .bool K3, .int .i64 (pi : Int)] := ((((D6.put 5 _).put 5 _).put 4 _).put 6 _)
                        clear z0 z1 z2 z3 z4 z5 z6 z7 x0 x1 x2 x3 x4 x5 x6 x7 hfz hfx yk0
                        generalize ((((w6.setCell ⟨w.heap.size + 1, 5, none⟩ (.int .i64 3)).setCell ⟨w.heap.size + 1, 5, none⟩ (.int .i64 1)).setCell ⟨w.heap.size + 1, 4, none⟩ (.string z)).setCell ⟨w.heap.size + 1, 6, none⟩ (.bool K3)) = W7 at D7 ⊢
                        have z0 : (_ : Option Value) = some (.int .i64 0) := D7.Z.cell 0 (by simp [zF])
                        have z1 : (_ : Option Value) = some (.int .i64 0) := D7.Z.cell 1 (by simp [zF])
                        have z2 : (_ : Option Value) = some (.int .i64 0) := D7.Z.cell 2 (by simp [zF])
                        have z3 : (_ : Option Value) = some (.int .i64 0) := D7.Z.cell 3 (by simp [zF])
                        have z4 : (_ : Option Value) = some (.string ⟨#[]⟩) := D7.Z.cell 4 (by simp [zF])
                        have z5 : (_ : Option Value) = some (.int .i64 0) := D7.Z.cell 5 (by simp [zF])
                        have z6 : (_ : Option Value) = some (.bool false) := D7.Z.cell 6 (by simp [zF])
                        have z7 : (_ : Option Value) = some (.int .i64 0) := D7.Z.cell 7 (by simp [zF])
                        have hfz := fun j => D7.Z.free j
                        have x0 : (_ : Option Value) = some (.int .i64 (b0.toNat : Int)) := D7.F.cell 0 (by simp)
                        have x1 : (_ : Option Value) = some (.int .i64 (b1.toNat : Int)) := D7.F.cell 1 (by simp)
                        have x2 : (_ : Option Value) = some (.int .i64 (b2.toNat : Int)) := D7.F.cell 2 (by simp)
                        have x3 : (_ : Option Value) = some (.int .i64 2) := D7.F.cell 3 (by simp)
                        have x4 : (_ : Option Value) = some (.string z) := D7.F.cell 4 (by simp)
                        have x5 : (_ : Option Value) = some (.int .i64 1) := D7.F.cell 5 (by simp)
                        have x6 : (_ : Option Value) = some (.bool K3) := D7.F.cell 6 (by simp)
                        have x7 : (_ : Option Value) = some (.int .i64 (pi : Int)) := D7.F.cell 7 (by simp)
                        have hfx := fun j => D7.F.free j
                        go_wp2_with fail
                        refine bodyPost_ret (v := vFound ⟨b0.toNat, b1.toNat, b2.toNat, 2, z, 1, K3, (pi : Int)⟩) (by simp [results, Tryz.results33, go_sem, World.cell?_setCell_other, z0, z1, z2, z3, z4, z5, z6, z7, vFound]) rfl ⟨by rw [← HN.out]; rfl, bb8 D7.B _ _ _ _ _ _ _ _⟩
                      exact AllReadyH.nil
                    exact AllReadyH.nil
                  exact AllReadyH.nil
                exact AllReadyH.nil
end Go.Proofs.YtlfmpgfobkmgfaaGreatDoor
