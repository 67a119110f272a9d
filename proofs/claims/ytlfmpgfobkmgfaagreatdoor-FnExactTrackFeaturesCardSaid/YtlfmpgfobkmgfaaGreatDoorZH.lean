/- Walks: the texts Y16 Y17 Y18 Y19 as one text. -/
import Derived.Test.YtlfmpgfobkmgfaaGreatDoorZF
import Derived.Test.YtlfmpgfobkmgfaaGreatDoorZG
import Derived.Test.YtlfmpgfobkmgfaaGreatDoorRows
import Derived.Lib.LaidTab
import Derived.Stop.LaidErr
import Derived.MakeChecks
import Derived.Handed
import Derived.OpenShut
import Derived.ChangeVars
namespace Go.Proofs.YtlfmpgfobkmgfaaGreatDoor
open Go.RowKit Go.Deep
set_option linter.unusedVariables false
set_option linter.unusedSimpArgs false

set_option maxRecDepth 100000 in
set_option maxHeartbeats 8000000 in
theorem impl_ReadTrack_any (f : Int) (s : ByteArray) (w : World) (hs : s.size ≤ 1048576) (hG : GG w) :
    Calls Tryz.prog 14 #[.string s, .int .i64 f] w fun e w' => ∃ A q, e = .returned (.tuple #[.slice A (rtF f s).1.length q, .int .i64 (rtF f s).2]) ∧ OO w' w.heap.size 45 8 (.slice A (rtF f s).1.length q) (rtF f s).1.length (flat fFound (rtF f s).1) ∧ Below w.heap.size w w' := by
  have hby : 72 ≤ 1000 := by decide
  have fm := fun W hW => impl_FindMarks_any f s W hs hW
  have hok : (fmS f s).2 = 0 → 0 < s.size ∧ s.size ≤ 8000 ∧ bitsB (bl s) ∧ (fmS f s).1.length ≤ 64 ∧ inM s.size (fmS f s).1 ∧ (f = 1 ∨ f = 2 ∨ f = 3) := fun h => by
    have h1 := fmS_ok h
    exact ⟨(cells_n h1.1).1, (cells_n h1.1).2, cells_bits h1.1, h1.2.2.2, fmS_in h, h1.2.1⟩
  obtain ⟨R, hR⟩ : ∃ R, rtF f s = R := ⟨_, rfl⟩
  rw [hR]
  have HR := Lib.hid (show (if (fmS f s).2 = 0 then ((hdK (fmS f s).1 (fmS f s).1.length).map (secF f (bl s) (fmS f s).1), 0) else ([], (fmS f s).2)) = R from hR)
  clear hR
  obtain ⟨⟨ms, c⟩, hms⟩ : ∃ m, fmS f s = m := ⟨_, rfl⟩
  rw [hms] at fm hok HR
  dsimp only at fm hok HR
  clear hms
  by_cases hc : c = 0
  · obtain ⟨h0, h8, hbits, h64, hin, hf⟩ := hok hc
    have HN := Lib.hid (show ((hdK ms ms.length).map (secF f (bl s) ms), 0) = R by rw [← HR.out, if_pos hc])
    have hc2 : (c != 0) = false := by simp [hc]
    clear HR hok hc
    go_enter Tryz.func14, Tryz.ntmps14
    go_wp2_with (go_at_call 24; (with_reducible refine (fm _ hG).mono ?_); rintro e w2 ⟨A, q, rfl, O2, hx2⟩)
    have hr := Rd.of_own (OOf O2)
    have hG2 := hG.bb hx2
    have sec := fun (i : Nat) (W : World) (hi : i < ms.length) (hW : BB w2 W) => readSector_a f s ms A q i W hf (hG2.bb hW) h0 h8 hbits ((hr.below hW).more hW.size) hi (by omega) hin
    have O0 : World.ownsRow w2 w2.heap.size 45 8 (.slice none 0 0) 0 (flat fFound []) := World.ownsRow_nil _ _ _ _
    have hB0 : BB w2 w2 := BB.start w2
    clear fm O2 hG
    go_loopw [8, 9, 10, 22] (fun v _ _ i wr => ∃ (k : Nat) (l : List DFound) (B : Option Addr) (q' : Nat), i = .int .i64 (k : Int) ∧ k ≤ ms.length ∧ v = .slice B l.length q' ∧ OO wr w2.heap.size 45 8 (.slice B l.length q') l.length (flat fFound l) ∧ BB w2 wr ∧ Hid (l = (hdK ms k).map (secF f (bl s) ms))) (fun _ _ _ i _ => ms.length - (intOf i).toNat)
    case atStart => exact ⟨0, [], _, _, rfl, Nat.zero_le _, rfl, O0, hB0, Lib.hid rfl⟩
    case round =>
      obtain ⟨k, l, B, q', rfl, hk, rfl, O, hB, HL⟩ := hrel
      clear O0 hB0
      by_cases hlt : k < ms.length
      · have hlti : decide ((k : Int) < (ms.length : Int)) = true := decide_eq_true (by omega)
        obtain ⟨b, off, he, hb0, hck⟩ := (hr.below hB).at_ fM_len rfl k hlt
        cases he
        have c0 := hck 0 _ (by omega) rfl
        have c1 := hck 1 _ (by omega) rfl
        have c2 := hck 2 _ (by omega) rfl
        simp only [← Nat.add_assoc, Nat.add_zero] at c0 c1 c2
        rw [mkD_get hlt] at c0 c1 c2
        obtain ⟨hkk, _, _⟩ := inM_at hin hlt
        have HS := Lib.hid (hdK_s ms k)
        have HK := Lib.hid (show (ms.getD k (0, 0, 0)).1 = (mkD ms k).1 from rfl)
        obtain ⟨⟨kk, pp, bb⟩, hkd⟩ : ∃ x, mkD ms k = x := ⟨_, rfl⟩
        rw [hkd] at hkk HK c0 c1 c2
        dsimp only at hkk c0 c1 c2
        have F0 := BX.made wr 49 [.int .i64 (kk : Int), .int .i64 (pp : Int), .int .i64 (bb : Int)]
        have hB1 : BB w2 (wr.alloc (.cells #[.int .i64 (kk : Int), .int .i64 (pp : Int), .int .i64 (bb : Int)] 49)) := BB.al hB _
        have O1 : OO (wr.alloc (.cells #[.int .i64 (kk : Int), .int .i64 (pp : Int), .int .i64 (bb : Int)] 49)) w2.heap.size 45 8 (.slice B l.length q') l.length (flat fFound l) := OO.al O _
        clear hkd hck
        have hll : l.length ≤ 100 := by rw [HL.out, List.length_map]; have := hdK_len ms k; omega
        have hlb : l.length ≤ 100000000 := by omega
        have sk := sec k (wr.alloc (.cells #[.int .i64 (kk : Int), .int .i64 (pp : Int), .int .i64 (bb : Int)] 49)) hlt hB1
        go_upto_region 8 with fail
        have F1 : BX (wr.alloc (.cells #[.int .i64 (kk : Int), .int .i64 (pp : Int), .int .i64 (bb : Int)] 49)) wr.heap.size 49 [.int .i64 (kk : Int), .int .i64 (pp : Int), .int .i64 (bb : Int)] := F0
        clear F0 c0 c1 c2 O hB
        generalize (wr.alloc (.cells #[.int .i64 (kk : Int), .int .i64 (pp : Int), .int .i64 (bb : Int)] 49)) = wy at F1 hB1 O1 sk ⊢
        have f0 : (_ : Option Value) = some (.int .i64 (kk : Int)) := F1.cell 0 (by simp)
        by_cases h1 : kk = 1
        · have e1 : ((kk : Int) == 1) = true := by rw [h1]; rfl
          have HN1 := Lib.hid (show l ++ [secF f (bl s) ms k] = (hdK ms (k + 1)).map (secF f (bl s) ms) by rw [HS.out, HK.out, h1, List.map_append, HL.out]; rfl)
          obtain ⟨y, hy⟩ : ∃ y, secF f (bl s) ms k = y := ⟨_, rfl⟩
          rw [hy] at sk HN1
          clear hy h1 hkk
          unfold vFound at sk
          have SK := Lib.hid sk
          clear sk
          go_wp2_with (first
            | (go_at_call 25; (refine (SK.out).mono ?_); rintro e w5 ⟨rfl, hx5⟩; have O5 := own_later O1 hx5 (Nat.le_refl _); have hB5 : BB w2 w5 := BB.next hB1 hx5; have hbs := Below.size hB5)
            | (at_builtin; go_must (refine wpList_appF (f := fFound) (by rfl) (.tmp 30) (.tmp 36) 28 (by rfl) eltFound hby (.slice B l.length q') l (by rfl) (OOf O5) _ _ y 1 (by rfl) (by rfl) (by rfl) (oneFo y) (by omega) hbs ?_); intro v' w' hown' hg' hat' hbl'))
          have hl1 : (l ++ [y]).length = l.length + 1 := by rw [List.length_append]; rfl
          obtain ⟨B5, c5, rfl⟩ := own_form hown'
          go_roundw
          case rel => exact ⟨k + 1, l ++ [y], B5, c5, by go_num, hlt, (by first | rfl | rw [hl1]), hown', Below.trans hB5 hbl', HN1⟩
          case measure => simp [intOf]; omega
        · have e1 : ((kk : Int) == 1) = false := by rw [beq_eq_false_iff_ne]; omega
          have HN1 := Lib.hid (show l = (hdK ms (k + 1)).map (secF f (bl s) ms) by rw [HS.out, HK.out, if_neg (by simp [h1]), List.append_nil, HL.out])
          clear h1 hkk sk
          go_wp2_with fail
          go_roundw
          case rel => exact ⟨k + 1, l, B, q', by go_num, hlt, rfl, O1, hB1, HN1⟩
          case measure => simp [intOf]; omega
      · have hlti : decide ((k : Int) < (ms.length : Int)) = false := decide_eq_false (by omega)
        obtain rfl : k = ms.length := by omega
        clear sec
        go_wp2_with fail
        go_ret2
        rw [← HN.out, ← HL.out]
        exact ⟨B, q', rfl, own_base (OOf O) (Below.size hx2), Below.trans hx2 (Below.mono hB (Below.size hx2))⟩
  · have HN := Lib.hid (show ([], c) = R by rw [← HR.out, if_neg hc])
    have hc2 : (c != 0) = true := by simp [hc]
    clear HR hok hc
    go_enter Tryz.func14, Tryz.ntmps14
    go_wp2_with (go_at_call 24; (with_reducible refine (fm _ hG).mono ?_); rintro e w2 ⟨A, q, rfl, O2, hx2⟩)
    go_ret2
    rw [← HN.out]
    exact ⟨none, 0, rfl, World.ownsRow_nil _ _ _ _, hx2⟩

set_option maxHeartbeats 1000000 in
theorem impl_LongFeature_any (s : ByteArray) (n : Int) (w : World) (hs : s.size ≤ 1048576) :
    Calls Tryz.prog 18 #[.string s, .int .i64 n] w fun e w' => e = .returned (lgV (lgF s n)) ∧ Below w.heap.size w w' := by
  have vc := fun W => impl_ValidCells_a s W hs
  have li := fun W => within_any n 1 8000 W
  have F0 := BX.made w 35 [.int .i64 0, .int .i64 0, .int .i64 0]
  have hB : BB w (w.alloc (.cells #[.int .i64 0, .int .i64 0, .int .i64 0] 35)) := BB.al (BB.start w) _
  have hno : ¬ (cellsB s = true ∧ inB n 1 8000 = true ∧ n < (s.size : Int)) → lgF s n = (⟨0, 0, 0⟩, false) := fun h => if_neg h
  have hyes : (cellsB s = true ∧ inB n 1 8000 = true ∧ n < (s.size : Int)) → lgF s n = (⟨8, 0, (s.size : Int) - n⟩, true) := fun h => if_pos h
  obtain ⟨R, hR⟩ : ∃ R, lgF s n = R := ⟨_, rfl⟩
  rw [hR] at hno hyes ⊢
  clear hR
  cases hc : cellsB s
  · rw [hc] at vc hno hyes
    have HN := Lib.hid (hno (by simp))
    clear hno hyes
    go_enter Tryz.func18, Tryz.ntmps18
    go_wp2_with (go_at_call 30; (with_reducible refine (vc _).mono ?_); rintro e w2 ⟨rfl, hx2⟩; have F2 := F0.below hx2 F0.lt; have hB2 : BB w w2 := BB.next hB hx2; have z0 : (_ : Option Value) = some (.int .i64 0) := F2.cell 0 (by simp); have z1 : (_ : Option Value) = some (.int .i64 0) := F2.cell 1 (by simp); have z2 : (_ : Option Value) = some (.int .i64 0) := F2.cell 2 (by simp); have hfz := fun j => F2.free j)
    refine bodyPost_ret (v := .tuple #[.agg #[.int .i64 0, .int .i64 0, .int .i64 0], .bool false]) (by simp [results, Tryz.results18, go_sem, World.cell?_setCell_other, z0, z1, z2]) rfl ⟨by rw [HN.out]; rfl, ?_⟩
    exact ((hB2.put (a := ⟨w.heap.size, 0, none⟩) (Nat.le_refl _) _).put (a := ⟨w.heap.size, 1, none⟩) (Nat.le_refl _) _).put (a := ⟨w.heap.size, 2, none⟩) (Nat.le_refl _) _
  · rw [hc] at vc hno hyes
    cases hi : inB n 1 8000
    · rw [hi] at li hno hyes
      have HN := Lib.hid (hno (by simp))
      clear hno hyes
      go_enter Tryz.func18, Tryz.ntmps18
      go_wp2_with (first | (go_at_call 30; (with_reducible refine (vc _).mono ?_); rintro e w2 ⟨rfl, hx2⟩; have F2 := F0.below hx2 F0.lt; have hB2 : BB w w2 := BB.next hB hx2; have z0 : (_ : Option Value) = some (.int .i64 0) := F2.cell 0 (by simp); have z1 : (_ : Option Value) = some (.int .i64 0) := F2.cell 1 (by simp); have z2 : (_ : Option Value) = some (.int .i64 0) := F2.cell 2 (by simp); have hfz := fun j => F2.free j) | (go_at_call 16; (with_reducible refine (li _).mono ?_); rintro e w9 ⟨rfl, rfl⟩))
      refine bodyPost_ret (v := .tuple #[.agg #[.int .i64 0, .int .i64 0, .int .i64 0], .bool false]) (by simp [results, Tryz.results18, go_sem, World.cell?_setCell_other, z0, z1, z2]) rfl ⟨by rw [HN.out]; rfl, ?_⟩
      exact ((hB2.put (a := ⟨w.heap.size, 0, none⟩) (Nat.le_refl _) _).put (a := ⟨w.heap.size, 1, none⟩) (Nat.le_refl _) _).put (a := ⟨w.heap.size, 2, none⟩) (Nat.le_refl _) _
    · have hi2 := inB_yes hi
      rw [hi] at li hno hyes
      by_cases hn : n < (s.size : Int)
      · have HN := Lib.hid (hyes ⟨rfl, rfl, hn⟩)
        have hd : decide ((s.size : Int) ≤ n) = false := decide_eq_false (by omega)
        have hd2 : ¬ (s.size : Int) ≤ n := by omega
        have hle0 : decide ((s.size : Int) - n ≤ 0) = false := decide_eq_false (by omega)
        have hle1 : ¬ (s.size : Int) - n ≤ 0 := by omega
        have hws : IntKind.i64.wrap (s.size : Int) = (s.size : Int) := IntWalk.i64_in _ (by omega)
        have hw : IntKind.i64.wrap ((s.size : Int) - n) = (s.size : Int) - n := IntWalk.i64_in _ (by omega)
        clear hno hyes
        go_enter Tryz.func18, Tryz.ntmps18
        go_wp2_with (first | (go_at_call 30; (with_reducible refine (vc _).mono ?_); rintro e w2 ⟨rfl, hx2⟩; have F2 := F0.below hx2 F0.lt; have hB2 : BB w w2 := BB.next hB hx2; have z0 : (_ : Option Value) = some (.int .i64 0) := F2.cell 0 (by simp); have z1 : (_ : Option Value) = some (.int .i64 0) := F2.cell 1 (by simp); have z2 : (_ : Option Value) = some (.int .i64 0) := F2.cell 2 (by simp); have hfz := fun j => F2.free j) | (go_at_call 16; (with_reducible refine (li _).mono ?_); rintro e w9 ⟨rfl, rfl⟩))
        refine bodyPost_ret (v := .tuple #[.agg #[.int .i64 8, .int .i64 0, .int .i64 ((s.size : Int) - n)], .bool true]) (by simp [results, Tryz.results18, go_sem, World.cell?_setCell_other, z0, z1, z2]) rfl ⟨by rw [HN.out]; rfl, ?_⟩
        exact ((hB2.put (a := ⟨w.heap.size, 0, none⟩) (Nat.le_refl _) _).put (a := ⟨w.heap.size, 1, none⟩) (Nat.le_refl _) _).put (a := ⟨w.heap.size, 2, none⟩) (Nat.le_refl _) _
      · have HN := Lib.hid (hno (fun h => hn h.2.2))
        have hd : decide ((s.size : Int) ≤ n) = true := decide_eq_true (by omega)
        have hd2 : (s.size : Int) ≤ n := by omega
        have hle0 : decide ((s.size : Int) - n ≤ 0) = true := decide_eq_true (by omega)
        have hle1 : (s.size : Int) - n ≤ 0 := by omega
        have hws : IntKind.i64.wrap (s.size : Int) = (s.size : Int) := IntWalk.i64_in _ (by omega)
        have hw : IntKind.i64.wrap ((s.size : Int) - n) = (s.size : Int) - n := IntWalk.i64_in _ (by omega)
        clear hno hyes
        go_enter Tryz.func18, Tryz.ntmps18
        go_wp2_with (first | (go_at_call 30; (with_reducible refine (vc _).mono ?_); rintro e w2 ⟨rfl, hx2⟩; have F2 := F0.below hx2 F0.lt; have hB2 : BB w w2 := BB.next hB hx2; have z0 : (_ : Option Value) = some (.int .i64 0) := F2.cell 0 (by simp); have z1 : (_ : Option Value) = some (.int .i64 0) := F2.cell 1 (by simp); have z2 : (_ : Option Value) = some (.int .i64 0) := F2.cell 2 (by simp); have hfz := fun j => F2.free j) | (go_at_call 16; (with_reducible refine (li _).mono ?_); rintro e w9 ⟨rfl, rfl⟩))
        refine bodyPost_ret (v := .tuple #[.agg #[.int .i64 0, .int .i64 0, .int .i64 0], .bool false]) (by simp [results, Tryz.results18, go_sem, World.cell?_setCell_other, z0, z1, z2]) rfl ⟨by rw [HN.out]; rfl, ?_⟩
        exact ((hB2.put (a := ⟨w.heap.size, 0, none⟩) (Nat.le_refl _) _).put (a := ⟨w.heap.size, 1, none⟩) (Nat.le_refl _) _).put (a := ⟨w.heap.size, 2, none⟩) (Nat.le_refl _) _

end Go.Proofs.YtlfmpgfobkmgfaaGreatDoor
namespace Go.Proofs.YtlfmpgfobkmgfaaGreatDoor
open Go.RowKit Go.Deep
set_option linter.unusedVariables false
set_option linter.unusedSimpArgs false

set_option maxRecDepth 100000 in
set_option maxHeartbeats 4000000 in
theorem impl_TrackFeatures_any (s : ByteArray) (f cy hd n : Int) (w : World) (hs : s.size ≤ 1048576) (hG : GG w) :
    Calls Tryz.prog 5 #[.string s, .int .i64 f, .int .i64 cy, .int .i64 hd, .int .i64 n] w fun e w' => ∃ A q, e = .returned (.tuple #[.slice A (tfF s f cy hd n).1.length q, .int .i64 (tfF s f cy hd n).2]) ∧ OO w' w.heap.size 35 3 (.slice A (tfF s f cy hd n).1.length q) (tfF s f cy hd n).1.length (flat fFeature (tfF s f cy hd n).1) ∧ Below w.heap.size w w' := by
  have hby : 24 ≤ 1000 := by decide
  have rt := impl_ReadTrack_any f s w hs hG
  have rl := rtF_len f s
  have b1 := fun W => isByte_a cy W
  have b2 := fun W => isByte_a hd W
  have li := fun W => within_any n 1 8000 W
  have lg := fun W => impl_LongFeature_any s n W hs
  obtain ⟨R, hR⟩ : ∃ R, tfF s f cy hd n = R := ⟨_, rfl⟩
  rw [hR]
  have HR := Lib.hid hR
  unfold tfF at HR
  clear hR
  obtain ⟨⟨zs, c⟩, hz⟩ : ∃ x, rtF f s = x := ⟨_, rfl⟩
  rw [hz] at rt rl HR
  dsimp only at rt rl HR
  clear hz
  by_cases hc : c = 0
  rotate_left
  · have HN := Lib.hid (show ([], c) = R by rw [← HR.out, if_neg hc])
    have hc2 : (c != 0) = true := by simp [hc]
    clear HR hc
    go_enter Tryz.func5, Tryz.ntmps5
    go_wp2_with (go_at_call 14; (with_reducible refine rt.mono ?_); rintro e w2 ⟨A, q, rfl, O2, hx2⟩)
    go_ret2
    rw [← HN.out]
    exact ⟨none, 0, rfl, World.ownsRow_nil _ _ _ _, hx2⟩
  have hc2 : (c != 0) = false := by simp [hc]
  have HR1 := Lib.hid ((if_pos hc).symm.trans HR.out)
  clear HR hc
  cases h1 : inB cy 0 255
  · have HN := Lib.hid (show ([], 2) = R by rw [← HR1.out, h1]; rfl)
    rw [h1] at b1
    clear h1 HR1
    go_enter Tryz.func5, Tryz.ntmps5
    go_wp2_with (first
      | (go_at_call 14; (with_reducible refine rt.mono ?_); rintro e w2 ⟨A, q, rfl, O2, hx2⟩) | (go_at_call 15; (first | (with_reducible refine (b1 _).mono ?_) | (with_reducible refine (b2 _).mono ?_)); rintro e w3 ⟨rfl, rfl⟩))
    go_ret2
    rw [← HN.out]
    exact ⟨none, 0, rfl, World.ownsRow_nil _ _ _ _, hx2⟩
  cases h2 : inB hd 0 255
  · have HN := Lib.hid (show ([], 2) = R by rw [← HR1.out, h1, h2]; rfl)
    rw [h1] at b1
    rw [h2] at b2
    clear h1 h2 HR1
    go_enter Tryz.func5, Tryz.ntmps5
    go_wp2_with (first
      | (go_at_call 14; (with_reducible refine rt.mono ?_); rintro e w2 ⟨A, q, rfl, O2, hx2⟩) | (go_at_call 15; (first | (with_reducible refine (b1 _).mono ?_) | (with_reducible refine (b2 _).mono ?_)); rintro e w3 ⟨rfl, rfl⟩))
    go_ret2
    rw [← HN.out]
    exact ⟨none, 0, rfl, World.ownsRow_nil _ _ _ _, hx2⟩
  cases hb2 : inB n 1 8000
  · have HN := Lib.hid (show ([], 2) = R by rw [← HR1.out, h1, h2, hb2]; rfl)
    rw [h1] at b1
    rw [h2] at b2
    rw [hb2] at li
    clear h1 h2 hb2 HR1
    go_enter Tryz.func5, Tryz.ntmps5
    go_wp2_with (first
      | (go_at_call 14; (with_reducible refine rt.mono ?_); rintro e w2 ⟨A, q, rfl, O2, hx2⟩) | (go_at_call 15; (first | (with_reducible refine (b1 _).mono ?_) | (with_reducible refine (b2 _).mono ?_)); rintro e w3 ⟨rfl, rfl⟩) | (go_at_call 16; (with_reducible refine (li _).mono ?_); rintro e w3 ⟨rfl, rfl⟩))
    go_ret2
    rw [← HN.out]
    exact ⟨none, 0, rfl, World.ownsRow_nil _ _ _ _, hx2⟩
  have HR2 := Lib.hid (show (ftK zs cy hd zs.length ++ (if (lgF s n).2 = true then [(lgF s n).1] else []), 0) = R by rw [← HR1.out, h1, h2, hb2]; rfl)
  rw [h1] at b1
  rw [h2] at b2
  rw [hb2] at li
  clear h1 h2 hb2 HR1
  have ft := fun (A : Option Addr) (q : Nat) (W : World) hr hq => sectorFeatures_a zs A q cy hd W hr (by omega) hq
  have fll := ftK_len zs cy hd zs.length
  obtain ⟨L, hL⟩ : ∃ L, ftK zs cy hd zs.length = L := ⟨_, rfl⟩
  rw [hL] at ft HR2 fll
  clear hL
  obtain ⟨⟨⟨g0, g1, g2⟩, gb⟩, hg⟩ : ∃ x, lgF s n = x := ⟨_, rfl⟩
  rw [hg] at lg HR2
  unfold lgV at lg
  dsimp only at lg HR2
  clear hg
  have hlb : L.length ≤ 100000000 := by omega
  cases gb
  · have HN := Lib.hid (show (L, 0) = R by rw [← HR2.out]; simp)
    clear HR2
    go_enter Tryz.func5, Tryz.ntmps5
    go_wp2_with (first
      | (go_at_call 14; (with_reducible refine rt.mono ?_); rintro e w2 ⟨A, q, rfl, O2, hx2⟩) | (go_at_call 15; (first | (with_reducible refine (b1 _).mono ?_) | (with_reducible refine (b2 _).mono ?_)); rintro e w3 ⟨rfl, rfl⟩) | (go_at_call 16; (with_reducible refine (li _).mono ?_); rintro e w3 ⟨rfl, rfl⟩)
      | (go_at_call 17; (with_reducible refine (ft A q _ (Rd.of_own (OOf O2)) (own_capT (OOf O2))).mono ?_); rintro e w4 ⟨v4, rfl, O4, hx4⟩; obtain ⟨A4, q4, rfl⟩ := own_form O4; have hB4 := BB.next hx2 hx4; have O4' := own_base O4 (Below.size hx2))
      | (go_at_call 18; (with_reducible refine (lg _).mono ?_); rintro e w5 ⟨rfl, hx5⟩; have O5 := own_later O4' hx5 (Nat.le_refl _); have hB5 := BB.next hB4 hx5))
    go_ret2
    rw [← HN.out]
    exact ⟨A4, q4, rfl, World.ownsRow.alloc O5 _, BB.al hB5 _⟩
  · have HN := Lib.hid (show (L ++ [⟨g0, g1, g2⟩], 0) = R by rw [← HR2.out]; simp)
    clear HR2
    go_enter Tryz.func5, Tryz.ntmps5
    go_upto_region 9 with (first
      | (go_at_call 14; (with_reducible refine rt.mono ?_); rintro e w2 ⟨A, q, rfl, O2, hx2⟩) | (go_at_call 15; (first | (with_reducible refine (b1 _).mono ?_) | (with_reducible refine (b2 _).mono ?_)); rintro e w3 ⟨rfl, rfl⟩) | (go_at_call 16; (with_reducible refine (li _).mono ?_); rintro e w3 ⟨rfl, rfl⟩)
      | (go_at_call 17; (with_reducible refine (ft A q _ (Rd.of_own (OOf O2)) (own_capT (OOf O2))).mono ?_); rintro e w4 ⟨v4, rfl, O4, hx4⟩; obtain ⟨A4, q4, rfl⟩ := own_form O4; have hB4 := BB.next hx2 hx4; have O4' := own_base O4 (Below.size hx2))
      | (go_at_call 18; (with_reducible refine (lg _).mono ?_); rintro e w5 ⟨rfl, hx5⟩; have O5 := World.ownsRow.alloc (own_later O4' hx5 (Nat.le_refl _)) (.cells #[.int .i64 g0, .int .i64 g1, .int .i64 g2] 35); have hB5 : BB w (w5.alloc (.cells #[.int .i64 g0, .int .i64 g1, .int .i64 g2] 35)) := BB.al (BB.next hB4 hx5) _; have G5 := BX.made w5 35 [.int .i64 g0, .int .i64 g1, .int .i64 g2]; have p0 : (_ : Option Value) = some (.int .i64 g0) := G5.cell 0 (by simp); have p1 : (_ : Option Value) = some (.int .i64 g1) := G5.cell 1 (by simp); have p2 : (_ : Option Value) = some (.int .i64 g2) := G5.cell 2 (by simp)))
    generalize (w5.alloc (.cells #[.int .i64 g0, .int .i64 g1, .int .i64 g2] 35)) = w6 at O5 hB5 p0 p1 p2 ⊢
    go_wp2_with (at_builtin; go_must (refine wpList_appF (f := fFeature) (by rfl) (.tmp 50) (.tmp 52) 22 (by rfl) eltFeature hby (.slice A4 L.length q4) L (by rfl) O5 #[.int .i64 g0, .int .i64 g1, .int .i64 g2] 35 ⟨g0, g1, g2⟩ 1 (by rfl) (by rfl) (by rfl) (oneE _) hlb (Below.size hB5) ?_); intro v' w' hown' hg' hat' hbl')
    obtain ⟨A9, q9, rfl⟩ := own_form hown'
    go_ret2
    rw [← HN.out]
    exact ⟨A9, q9, rfl, hown', Below.trans hB5 hbl'⟩
end Go.Proofs.YtlfmpgfobkmgfaaGreatDoor
namespace Go.Proofs.YtlfmpgfobkmgfaaGreatDoor
open Go.RowKit Go.Deep
set_option linter.unusedVariables false
set_option linter.unusedSimpArgs false

theorem tfF_len (s : ByteArray) (f cy hd n : Int) : (tfF s f cy hd n).1.length ≤ 300 := by
  unfold tfF
  split
  · split
    · show (ftK (rtF f s).1 cy hd (rtF f s).1.length ++ (if (lgF s n).2 = true then [(lgF s n).1] else [])).length ≤ 300
      have h1 := ftK_len (rtF f s).1 cy hd (rtF f s).1.length
      have h2 := rtF_len f s
      rw [List.length_append]
      have h3 : (if (lgF s n).2 = true then [(lgF s n).1] else []).length ≤ 1 := by split <;> simp
      omega
    · exact Nat.zero_le _
  · exact Nat.zero_le _
set_option maxRecDepth 100000 in
set_option maxHeartbeats 8000000 in
theorem walk_TrackFeatures (s : ByteArray) (f cy hd n : Int) (w : World) (hG : GG w) :
    Calls Tryz.prog 3 #[.string s, .int .i64 f, .int .i64 cy, .int .i64 hd, .int .i64 n] w fun e w' => e = .returned (.bool true) ∧ Below w.heap.size w w' := by
  by_cases h : s.size ≤ 1048576
  · have g : decide ((1048576 : Int) < (s.size : Int)) = false := decide_eq_false (by omega)
    have g2 : ¬ (1048576 : Int) < (s.size : Int) := by omega
    have c1 := spec_TrackFeatures_any s f cy hd n w h
    have c2 := fun W hW => impl_TrackFeatures_any s f cy hd n W h hW
    have hLn := tfF_len s f cy hd n
    obtain ⟨⟨L, c⟩, hL⟩ : ∃ x, tfF s f cy hd n = x := ⟨_, rfl⟩
    rw [hL] at c1 c2 hLn
    dsimp only at c1 c2 hLn
    clear hL
    have hcc : (c != c) = false := by simp
    obtain ⟨m, hm⟩ : ∃ m, 1 + 3 * L.length = m := ⟨_, rfl⟩
    have hm0 : decide ((m : Int) < 0) = false := decide_eq_false (by omega)
    have hm1 : ¬ (m : Int) < 0 := by omega
    have hmm : ((m : Int) != (m : Int)) = false := by simp
    have C2 := Lib.hid c2
    clear c2
    go_enter Tryz.func3, Tryz.ntmps3
    go_upto_region 4 with (go_at_call 4; (with_reducible refine c1.mono ?_); rintro e w1 ⟨A0, q0, rfl, O0, hx1⟩)
    have hr0 := Rd.of_own (OOf O0)
    have hG1 := hG.bb hx1
    clear c1 O0 hG
    have d2 := C2.out w1 hG1
    go_upto_region 5 with (go_at_call 5; (with_reducible refine d2.mono ?_); rintro e w2 ⟨A1, q1, rfl, O1, hx2⟩)
    clear d2
    have eq1 := eqFeatureS_any A1 A0 q1 q0 L w2 (Rd.of_own (OOf O1)) ((hr0.below hx2).more (Below.size hx2)) (by omega)
    go_upto_region 8 with (go_at_call 6; (with_reducible refine eq1.mono ?_); rintro e w3 ⟨rfl, hx3⟩)
    have O3 := own_later O1 hx3 (Nat.le_refl _)
    have hB3 : BB w1 w3 := BB.next hx2 hx3
    clear eq1 hx3 O1
    have mk := markFeatureS_any A1 q1 1 L w3 w1.heap.size (OOf O3) (by omega) (by omega) (by omega)
    rw [show ((1 : Nat) : Int) = 1 from rfl, hm] at mk
    go_upto_region 10 with (go_at_call 7; (with_reducible refine mk.mono ?_); rintro e w4 ⟨rfl, O4, hg4⟩)
    have hB4 : BB w1 w4 := Below.trans hB3 (below_of_own (OOf O3) (Below.size hB3) hg4)
    clear mk hg4 O3 hB3 hx2
    have hd1 := heldFeatureS_any A1 q1 1 L.length w4 (Rd.of_own O4) (by omega) (by omega) (by omega)
    rw [show ((1 : Nat) : Int) = 1 from rfl, hm] at hd1
    go_upto_region 15 with (go_at_call 8; (with_reducible refine hd1.mono ?_); rintro e w5 ⟨rfl, hx5⟩)
    have O5 := own_later O4 hx5 (Nat.le_refl _)
    have hB5 : BB w1 w5 := BB.next hB4 hx5
    clear hd1 O4 hB4 hx5
    have d2 := C2.out w5 (hG1.bb hB5)
    go_upto_region 16 with (go_at_call 5; (with_reducible refine d2.mono ?_); rintro e w6 ⟨A2, q2, rfl, O6, hx6⟩)
    clear d2
    have hB6 : BB w1 w6 := BB.next hB5 hx6
    have O56 := own_later O5 hx6 (Nat.le_refl _)
    have eq2 := eqFeatureS_any A2 A0 q2 q0 L w6 (Rd.of_own (OOf O6)) ((hr0.below hB6).more (Below.size hB6)) (by omega)
    go_upto_region 18 with (go_at_call 6; (with_reducible refine eq2.mono ?_); rintro e w7 ⟨rfl, hx7⟩)
    have hB7 : BB w1 w7 := BB.next hB6 hx7
    have O57 := own_later O56 hx7 (Nat.le_refl _)
    have hd2 := heldFeatureS_any A1 q1 1 L.length w7 (Rd.of_own O57) (by omega) (by omega) (by omega)
    rw [show ((1 : Nat) : Int) = 1 from rfl, hm] at hd2
    go_wp2_with (go_at_call 8; (with_reducible refine hd2.mono ?_); rintro e w8 ⟨rfl, hx8⟩)
    go_ret
    exact ⟨rfl, Below.trans hx1 (Below.mono (BB.next hB7 hx8) (Below.size hx1))⟩
  · have g : decide ((1048576 : Int) < (s.size : Int)) = true := decide_eq_true (by omega)
    have g2 : (1048576 : Int) < (s.size : Int) := by omega
    clear hG
    go_enter Tryz.func3, Tryz.ntmps3
    go_wp2
    go_ret
    exact ⟨rfl, Below.refl _ _⟩
end Go.Proofs.YtlfmpgfobkmgfaaGreatDoor
namespace Go.Proofs.YtlfmpgfobkmgfaaGreatDoor
open Go.ChangeShapes Go.WideShapes Go.ChangeAt Go.RowKit Go.Lib
set_option linter.unusedVariables false
set_option linter.unusedSimpArgs false

def laidTF : List (String × DataW Unit) := [("unicode/utf8.acceptRanges", Rows.laid_unicode_utf8_acceptRanges), ("loop.example/g00899/impl.gcrTable", Rows.laid_loop_example_g00899_impl_gcrTable), ("unicode/utf8.first", Rows.laid_unicode_utf8_first)]
theorem gcr_words {W : World} {r : List (String × DataW Unit)} (h : laidMet Tryz.prog (("loop.example/g00899/impl.gcrTable", Rows.laid_loop_example_g00899_impl_gcrTable) :: r) W) (k : Nat) (hk : k < 16) : W.cell? ⟨0, k, none⟩ = some (.string (gS k)) := by
  obtain ⟨ps, ⟨g, t, cs, fuel, p, q, hg, ht, hv, hd, _, _⟩, _, _⟩ := h
  obtain rfl := Option.some.inj ((show Tryz.prog.globalNamed "loop.example/g00899/impl.gcrTable" = some 0 by kernel_rfl).symm.trans hg)
  obtain rfl := Option.some.inj ((show (Tryz.prog.globals[0]?).map (·.type) = some 113 by kernel_rfl).symm.trans ht)
  obtain ⟨xs, m, _, ex, _, hl, hel⟩ := DataW.trod_array (show Tryz.prog.underlying 113 = some (.array 16 9) by kernel_rfl) hd
  have c9 : Tryz.prog.cellsOf 9 = 1 := by kernel_rfl
  have hE := hel k hk
  rw [c9, Nat.mul_one, List.getElem?_eq_getElem (by omega)] at hE
  obtain ⟨z, e1, e2, _⟩ := DataW.trod_string Tryz.underlying9 hE
  have hkg : k < gT.length := hk
  have e3 : (xs.map (·.1)) = gT.map fun n => (.lit (.string n) : DataW Unit) := (DataW.agg.inj (Prod.mk.inj ex).1).symm
  have e4 : (xs.map (·.1))[k]? = (gT.map fun n => (.lit (.string n) : DataW Unit))[k]? := by rw [e3]
  rw [List.getElem?_map, List.getElem?_map, List.getElem?_eq_getElem (by omega : k < xs.length), List.getElem?_eq_getElem hkg, e2] at e4
  have hz : z = gS k := by
    simp only [Option.map_some, Option.some.injEq, DataW.lit.injEq, Lit.string.injEq] at e4
    have e5 : z.data.toList = gT[k] := e4
    unfold gS
    rw [List.getD_eq_getElem?_getD, List.getElem?_eq_getElem hkg, Option.getD_some]
    exact str1_of e5
  rw [World.var?_cell hg hv k]
  have h8 : cs.toList[k]? = some (.string z) := by
    have h0 : ((cs.toList.drop k).take 1)[0]? = some (.string z) := by rw [e1]; rfl
    simpa using h0
  have h9 : cs[k]? = some (.string z) := by simpa using h8
  exact h9.trans (congrArg (fun x => some (Value.string x)) hz)
theorem gg_of {W : World} (h0 : laidMetH Tryz.prog laidTF W) : GG W := by
  rw [MakeChecks.laidMetH_plain _ _ _ (by kernel_rfl)] at h0
  have h1 := gcr_words h0.tail
  refine ⟨h1, ?_⟩
  have h2 := h1 0 (by omega)
  rcases Nat.eq_zero_or_pos W.heap.size with h3 | h3
  · have h4 : W.heap[0]? = none := Array.getElem?_eq_none (by omega)
    simp [World.cell?, h4] at h2
  · exact h3
open Go.Deep Go.WideMaps Go.WideElems
section
variable {H : Type} {enc : TypeId × Value → H} {P : Program}
theorem law_post1 (hl : laidOutB P = true) {f : Func} {s : ChangeSpec} {W W' : World} {args : Array Value} {ds gs : List (DataW H)} {before : List MemPlace} {tb : TypeId} {n : String}
    (hv : s.vars = [n]) (hres : f.resultTypes = #[tb]) (htb : P.underlying tb = some .bool)
    (hT : (f.params.toList.all fun t => P.readableRec t && decide (t < P.types.size)) = true)
    (hG : ∀ g t, P.globalNamed n = some g → (P.globals[g]?).map (·.type) = some t → P.readableRec t = true ∧ t < P.types.size)
    (hW : DataW.Whole enc P f.params.toList s.vars false W args.toList ds gs before)
    (hfn : s.fn H (ds ++ gs) = { results := [.lit (.bool true)], args := ds, vars := gs }) (hb : Below W.heap.size W W') :
    s.post enc P f false true false false W args (.bool true) W' := by
  have hlt : ∀ x ∈ before, x.block < W.heap.size := fun x hx => hW.lt x hx
  have hW2 := hW
  obtain ⟨p, q, hA, hV, e, _, _⟩ := hW2
  subst e
  refine post_of_below (pa := p) (pv := q) hW ?_ ?_ ?_ rfl hb ?_
  · intro b sp hd
    rw [hfn, hres]
    exact trodAll_mk1 (shut_bool htb true)
  · intro sp hsp
    rw [hfn]
    refine trodAll_stays hl hb sp ?_ hA (fun x hx => ⟨hlt x (by simp [hx]), hsp x (by simp [hx])⟩)
    intro t ht
    have := List.all_eq_true.1 hT t ht
    simpa using this
  · intro sp hsp
    rw [hfn]
    show DataW.TrodVars enc P W' sp s.vars gs q
    rw [hv] at hV ⊢
    obtain ⟨g, t, cs, fuel, d, p', rfl, h1, h2, h3, h4, rfl⟩ := trodVars_one hV
    obtain ⟨hr, hrow⟩ := hG g t h1 h2
    have hg : g < W.heap.size := by
      have h5 := h3
      simp only [World.var?, h1, Option.bind_some] at h5
      split at h5
      · rename_i hb0
        exact (Array.getElem?_eq_some_iff.1 hb0).1
      · cases h5
    have h3' : W'.var? P n = some cs := by
      have h5 := h3
      simp only [World.var?, h1, Option.bind_some] at h5 ⊢
      rw [hb.block g hg]
      exact h5
    exact trodVars_mk1 h1 h2 h3' (DataW.trod_stays (kids_book hl hr) (book_sized hr) (fun h => by cases h) ⟨hrow, book_self t⟩ h4 (fun x hx => hb.same (hlt x (by simp [hx]))) (fun x hx => hsp x (by simp [hx])))
  · exact ok_one hres rfl (okWide_bool_mk htb true)
end
end Go.Proofs.YtlfmpgfobkmgfaaGreatDoor
