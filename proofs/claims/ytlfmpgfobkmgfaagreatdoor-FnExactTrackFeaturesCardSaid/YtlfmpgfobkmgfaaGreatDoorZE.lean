/- Walks: the texts Y9 Y10 Y11 Y12 Y13 as one text. -/
import Derived.Test.YtlfmpgfobkmgfaaGreatDoorZD
import Derived.Test.YtlfmpgfobkmgfaaGreatDoorZC
namespace Go.Proofs.YtlfmpgfobkmgfaaGreatDoor
open Go.RowKit Go.Deep
set_option linter.unusedVariables false
set_option linter.unusedSimpArgs false

set_option maxRecDepth 100000 in
set_option maxHeartbeats 8000000 in
theorem bytesOf_a (s : ByteArray) (m : Nat) (w : World) (hm : m ≤ 4096) (hs : s.size = 8 * m) (hb : bitsB (bl s)) :
    Calls Tryz.prog 115 #[.string s] w fun e w' => e = .returned (.string (str1 (bytesL (bl s) m))) ∧ Below w.heap.size w w' := by
  have hq1 : (s.size : Int).tdiv 8 = (m : Int) := by rw [Int.tdiv_eq_ediv_of_nonneg (by omega), hs]; omega
  have hq2 : (s.size : Int) / 8 = (m : Int) := by rw [hs]; omega
  have hmk : ∀ W, (Instr.makeSlice 85 (.int .i64 (m : Int)) (.int .i64 (m : Int))).run Tryz.prog W = .ok (.slice (some ⟨W.heap.size, 0, none⟩) m m) (W.alloc (.cells (madeCells #[.int .u8 0] m) 5)) := fun W => by
    obtain ⟨ht, ⟨i, hi, hz, hsize, hby⟩, _, _⟩ := eltB
    have h := run_make_rowN 85 5 i (.int .u8 0) ht hi hz .i64 .i64 m m (Nat.le_refl _) (by rw [hby]; omega) (by omega) W
    rw [hsize, Nat.mul_one] at h
    exact h
  obtain ⟨R, hR⟩ : ∃ R, bytesL (bl s) m = R := ⟨_, rfl⟩
  rw [hR]
  have HR := Lib.hid ((bytP_e (bl s) m).trans hR)
  have HS := Lib.hid hs
  have hsl : s.size ≤ 32768 := by omega
  clear hs hR
  go_enter Tryz.func115, Tryz.ntmps115
  go_wp2
  have hM0 : MarkB (w.alloc (.cells (madeCells #[.int .u8 0] m) 5)) w.heap.size 5 (bytP (bl s) m 0) := by rw [bytP_0]; exact made_MarkB w m
  have hB0 : BB w (w.alloc (.cells (madeCells #[.int .u8 0] m) 5)) := BB.al (BB.start w) _
  have hgw : w.heap.size ≤ w.heap.size := Nat.le_refl _
  generalize (w.alloc (.cells (madeCells #[.int .u8 0] m) 5)) = w1 at hM0 hB0 ⊢
  obtain ⟨g, hg⟩ : ∃ g, w.heap.size = g := ⟨_, rfl⟩
  have hgw : w.heap.size ≤ g := Nat.le_of_eq hg
  rw [hg] at hM0 ⊢
  clear hg
  go_loopw [4, 11] (fun _ i wr => ∃ q : Nat, i = .int .i64 (q : Int) ∧ q ≤ s.size ∧ MarkB wr g 5 (bytP (bl s) m q) ∧ BB w wr) (fun _ i _ => s.size - (intOf i).toNat)
  case atStart => exact ⟨0, rfl, Nat.zero_le _, hM0, hB0⟩
  case round =>
    obtain ⟨q, rfl, hk, hM, hB⟩ := hrel
    clear hM0 hB0
    by_cases hlt : q < s.size
    · have hlti : decide ((q : Int) < (s.size : Int)) = true := decide_eq_true (by omega)
      obtain ⟨j, n, hq, hn8⟩ : ∃ j n, q = 8 * j + n ∧ n < 8 := ⟨q / 8, q % 8, by omega, Nat.mod_lt _ (by omega)⟩
      have hjm : j < m := by have := HS.out; omega
      have hjmi : (j : Int) < (m : Int) := by omega
      have hd1 : (q : Int).tdiv 8 = (j : Int) := by rw [Int.tdiv_eq_ediv_of_nonneg (by omega)]; omega
      have hwj : IntKind.i64.wrap (j : Int) = (j : Int) := IntWalk.i64_in _ (by omega)
      have hd2 : (q : Int) / 8 = (j : Int) := by omega
      have hcell := hM.cell j (by rw [bytP_len]; exact hjm)
      rw [bytP_get (bl s) m q j n hq hn8 hjm] at hcell
      have hst := bytP_s (bl s) m q j n hq hn8 hjm
      obtain ⟨x, hx⟩ : ∃ x, b8n (fun k => (bl s).getD (8 * j + k) 48) n = x := ⟨_, rfl⟩
      have hx7 : x < 128 := by
        rw [← hx]
        exact Nat.lt_of_lt_of_le (b8n_lt _ n) (Nat.pow_le_pow_right (n := 2) (by omega) (show n ≤ 7 by omega))
      rw [hx] at hcell hst
      have hcx : wr.drew.cell? ⟨g, j, none⟩ = some (.int .u8 (x : Int)) := by
        rw [UInt8.toNat_ofNat', show x % 2 ^ 8 = x by omega] at hcell
        exact hcell
      have hfz : wr.drew.frozen? ⟨g, j, none⟩ = false := hM.free j (by rw [bytP_len]; exact hjm)
      have hsh : IntKind.u8.wrap ((x : Int) * 2) = (x : Int) * 2 := IntWalk.u8_in _ (by omega)
      have hgd := getD_b s q hlt
      have hgq : (bl s).getD q 48 = s[q] := by rw [hgd, List.getD_eq_getElem?_getD, List.getD_eq_getElem?_getD, List.getElem?_eq_getElem (by rw [blen]; exact hlt)]; rfl
      have hyv : s[q] = 48 ∨ s[q] = 49 := by rw [← bl_get s q hlt]; exact bits_get hb _
      obtain ⟨y, hy⟩ : ∃ y, s[q] = y := ⟨_, rfl⟩
      rw [hgq, hy] at hst
      rw [hy] at hyv
      have HQ := Lib.hid hq
      clear hgd hgq hcell hx hq
      rcases hyv with rfl | rfl
      · have HN := Lib.hid (show bytP (bl s) m (q + 1) = (bytP (bl s) m q).set j (UInt8.ofNat (x * 2 + 0)) from hst)
        have HV := Lib.hid hx7
        have h48 : IntKind.u8.wrap ((48 : Int) - 48) = 0 := by decide
        have hor : bits .or .u8 ((x : Int) * 2) 0 = (x : Int) * 2 := by have h : bits .or .u8 ((x : Int) * 2) 0 = ((x * 2 + 0 : Nat) : Int) := shl_or x 0 hx7 (by omega); rw [h]; omega
        go_wp2_with fail
        refine wp_region_held_drew (S := (fun _ => True)) (by kernel_rfl) ?hS1 (fun hHeld => ?rest2)
        case hS1 => (exact trivial)
        refine wpAnyH_take (i := 0) (oi := _) (v := ?v3) rfl (by kernel_rfl) (by kernel_rfl) (by kernel_rfl) (fun _ _ _ h => h) (Or.inl ⟨by rfl, ?hy4⟩) hHeld ?rest5
        case hy4 => (intro w hSw; (try dsimp only at hSw); go_simp; (try with_reducible rfl))
        try simp only [Act.put, List.setIfInBounds_toArray, List.set_cons_zero, List.set_cons_succ]
        refine wpAnyH_take (i := 1) (oi := _) (v := ?v6) rfl (by kernel_rfl) (by kernel_rfl) (by kernel_rfl) (fun _ _ _ h => h) (Or.inl ⟨by rfl, ?hy7⟩) hHeld ?rest8
        case hy7 => (intro w hSw; (try dsimp only at hSw); go_simp; (try with_reducible rfl))
        try simp only [Act.put, List.setIfInBounds_toArray, List.set_cons_zero, List.set_cons_succ]
        refine wpAnyH_take (i := 2) (oi := _) (v := ?v9) rfl (by kernel_rfl) (by kernel_rfl) (by kernel_rfl) (fun _ _ _ h => h) (Or.inl ⟨by rfl, ?hy10⟩) hHeld ?rest11
        case hy10 => (intro w hSw; (try dsimp only at hSw); go_simp; (try with_reducible rfl))
        try simp only [Act.put, List.setIfInBounds_toArray, List.set_cons_zero, List.set_cons_succ]
        refine wpAnyH_take (i := 3) (oi := _) (v := ?v12) rfl (by kernel_rfl) (by kernel_rfl) (by kernel_rfl) (fun _ _ _ h => h) (Or.inl ⟨by rfl, ?hy13⟩) hHeld ?rest14
        case hy13 => (intro w hSw; (try dsimp only at hSw); go_simp; (try with_reducible rfl))
        try simp only [Act.put, List.setIfInBounds_toArray, List.set_cons_zero, List.set_cons_succ]
        refine wpAnyH_take (i := 4) (oi := _) (v := ?v15) rfl (by kernel_rfl) (by kernel_rfl) (by kernel_rfl) (fun _ _ _ h => h) (Or.inl ⟨by rfl, ?hy16⟩) hHeld ?rest17
        case hy16 => (intro w hSw; (try dsimp only at hSw); go_simp; (try with_reducible rfl))
        try simp only [Act.put, List.setIfInBounds_toArray, List.set_cons_zero, List.set_cons_succ]
        refine wpAnyH_take (i := 5) (oi := _) (v := ?v18) rfl (by kernel_rfl) (by kernel_rfl) (by kernel_rfl) (fun _ _ _ h => h) (Or.inl ⟨by rfl, ?hy19⟩) hHeld ?rest20
        case hy19 => (intro w hSw; (try dsimp only at hSw); go_simp; (try with_reducible rfl))
        try simp only [Act.put, List.setIfInBounds_toArray, List.set_cons_zero, List.set_cons_succ]
        refine wpAnyH_take (i := 6) (oi := _) (v := ?v21) rfl (by kernel_rfl) (by kernel_rfl) (by kernel_rfl) (fun _ _ _ h => h) (Or.inl ⟨by rfl, ?hy22⟩) hHeld ?rest23
        case hy22 => (intro w hSw; (try dsimp only at hSw); go_simp; (try with_reducible rfl))
        try simp only [Act.put, List.setIfInBounds_toArray, List.set_cons_zero, List.set_cons_succ]
        refine wpAnyH_take (i := 9) (oi := _) (v := ?v24) rfl (by kernel_rfl) (by kernel_rfl) (by kernel_rfl) (fun _ _ _ h => h) (Or.inl ⟨by rfl, ?hy25⟩) hHeld ?rest26
        case hy25 => (intro w hSw; (try dsimp only at hSw); go_simp; (try with_reducible rfl))
        try simp only [Act.put, List.setIfInBounds_toArray, List.set_cons_zero, List.set_cons_succ]
        refine wpAnyH_take (i := 10) (oi := _) (v := ?v27) rfl (by kernel_rfl) (by kernel_rfl) (by kernel_rfl) (fun _ _ _ h => h) (Or.inl ⟨by rfl, ?hy28⟩) hHeld ?rest29
        case hy28 => (intro w hSw; (try dsimp only at hSw); go_simp; (try with_reducible rfl))
        try simp only [Act.put, List.setIfInBounds_toArray, List.set_cons_zero, List.set_cons_succ]
        refine wpAnyH_take (i := 11) (oi := _) (v := ?v30) rfl (by kernel_rfl) (by kernel_rfl) (by kernel_rfl) (fun _ _ _ h => h) (Or.inl ⟨by rfl, ?hy31⟩) hHeld ?rest32
        case hy31 => (intro w hSw; (try dsimp only at hSw); go_simp; (try with_reducible rfl))
        try simp only [Act.put, List.setIfInBounds_toArray, List.set_cons_zero, List.set_cons_succ]
        refine wpAnyH_take (i := 12) (oi := _) (v := ?v33) rfl (by kernel_rfl) (by kernel_rfl) (by kernel_rfl) (fun _ _ _ h => h) (Or.inl ⟨by rfl, ?hy34⟩) hHeld ?rest35
        case hy34 => (intro w hSw; (try dsimp only at hSw); go_simp; (try with_reducible rfl))
        try simp only [Act.put, List.setIfInBounds_toArray, List.set_cons_zero, List.set_cons_succ]
        refine wpAnyH_ready (rs := [7]) (by kernel_rfl) (by simp) ?_
        refine AllReadyH.cons (o := _) rfl (fun K hK => ?stp49) ?more50
        case stp49 =>
          go_simp
          refine hK.out _ _ ?hS51 (fun hHeld2 => ?rest52)
          case hS51 => (exact trivial)
          clear hK K hHeld
          have hHeld := hHeld2
          clear hHeld2
          try simp only [Act.put, List.setIfInBounds_toArray, List.set_cons_zero, List.set_cons_succ]
          refine wpAnyH_take (i := 8) (oi := _) (v := ?v36) rfl (by kernel_rfl) (by kernel_rfl) (by kernel_rfl) (fun _ _ _ h => h) (Or.inl ⟨by rfl, ?hy37⟩) hHeld ?rest38
          case hy37 => (intro w hSw; (try dsimp only at hSw); go_simp; (try with_reducible rfl))
          try simp only [Act.put, List.setIfInBounds_toArray, List.set_cons_zero, List.set_cons_succ]
          refine wpAnyH_take (i := 13) (oi := _) (v := ?v39) rfl (by kernel_rfl) (by kernel_rfl) (by kernel_rfl) (fun _ _ _ h => h) (Or.inl ⟨by rfl, ?hy40⟩) hHeld ?rest41
          case hy40 => (intro w hSw; (try dsimp only at hSw); go_simp; (try with_reducible rfl))
          try simp only [Act.put, List.setIfInBounds_toArray, List.set_cons_zero, List.set_cons_succ]
          refine wpAnyH_take (i := 14) (oi := _) (v := ?v42) rfl (by kernel_rfl) (by kernel_rfl) (by kernel_rfl) (fun _ _ _ h => h) (Or.inl ⟨by rfl, ?hy43⟩) hHeld ?rest44
          case hy43 => (intro w hSw; (try dsimp only at hSw); go_simp; (try with_reducible rfl))
          try simp only [Act.put, List.setIfInBounds_toArray, List.set_cons_zero, List.set_cons_succ]
          refine wpAnyH_ready (rs := [15]) (by kernel_rfl) (by simp) ?_
          refine AllReadyH.cons (o := _) rfl (fun K hK => ?stp45) ?more46
          case stp45 =>
            have hM2 : MarkB (wr.setCell ⟨g, j, none⟩ (.int .u8 (bits .or .u8 ((x : Int) * 2) 0))).drew g 5 (bytP (bl s) m (q + 1)) := by rw [HN.out]; exact MarkB.set_ hM j _ _ (by rw [hor, UInt8.toNat_ofNat']; have := HV.out; omega)
            have hB2 : BB w (wr.setCell ⟨g, j, none⟩ (.int .u8 (bits .or .u8 ((x : Int) * 2) 0))).drew := BB.dr (BB.put hB (a := ⟨g, j, none⟩) hgw _)
            go_simp
            refine hK.out _ _ ?hS47 (fun hHeld2 => ?rest48)
            case hS47 => (exact trivial)
            clear hK K hHeld
            have hHeld := hHeld2
            clear hHeld2
            try simp only [Act.put, List.setIfInBounds_toArray, List.set_cons_zero, List.set_cons_succ]
            refine wpAnyH_done (by kernel_rfl) ?_ _
            go_wp2_with fail
            go_roundw
            case rel => exact ⟨q + 1, by go_num, by omega, hM2, hB2⟩
            case measure => simp [intOf]; omega
          exact AllReadyH.nil
        exact AllReadyH.nil
      · have HN := Lib.hid (show bytP (bl s) m (q + 1) = (bytP (bl s) m q).set j (UInt8.ofNat (x * 2 + 1)) from hst)
        have HV := Lib.hid hx7
        have h48 : IntKind.u8.wrap ((49 : Int) - 48) = 1 := by decide
        have hor : bits .or .u8 ((x : Int) * 2) 1 = (x : Int) * 2 + 1 := by have h : bits .or .u8 ((x : Int) * 2) 1 = ((x * 2 + 1 : Nat) : Int) := shl_or x 1 hx7 (by omega); rw [h]; omega
        go_wp2_with fail
        refine wp_region_held_drew (S := (fun _ => True)) (by kernel_rfl) ?hS53 (fun hHeld => ?rest54)
        case hS53 => (exact trivial)
        refine wpAnyH_take (i := 0) (oi := _) (v := ?v55) rfl (by kernel_rfl) (by kernel_rfl) (by kernel_rfl) (fun _ _ _ h => h) (Or.inl ⟨by rfl, ?hy56⟩) hHeld ?rest57
        case hy56 => (intro w hSw; (try dsimp only at hSw); go_simp; (try with_reducible rfl))
        try simp only [Act.put, List.setIfInBounds_toArray, List.set_cons_zero, List.set_cons_succ]
        refine wpAnyH_take (i := 1) (oi := _) (v := ?v58) rfl (by kernel_rfl) (by kernel_rfl) (by kernel_rfl) (fun _ _ _ h => h) (Or.inl ⟨by rfl, ?hy59⟩) hHeld ?rest60
        case hy59 => (intro w hSw; (try dsimp only at hSw); go_simp; (try with_reducible rfl))
        try simp only [Act.put, List.setIfInBounds_toArray, List.set_cons_zero, List.set_cons_succ]
        refine wpAnyH_take (i := 2) (oi := _) (v := ?v61) rfl (by kernel_rfl) (by kernel_rfl) (by kernel_rfl) (fun _ _ _ h => h) (Or.inl ⟨by rfl, ?hy62⟩) hHeld ?rest63
        case hy62 => (intro w hSw; (try dsimp only at hSw); go_simp; (try with_reducible rfl))
        try simp only [Act.put, List.setIfInBounds_toArray, List.set_cons_zero, List.set_cons_succ]
        refine wpAnyH_take (i := 3) (oi := _) (v := ?v64) rfl (by kernel_rfl) (by kernel_rfl) (by kernel_rfl) (fun _ _ _ h => h) (Or.inl ⟨by rfl, ?hy65⟩) hHeld ?rest66
        case hy65 => (intro w hSw; (try dsimp only at hSw); go_simp; (try with_reducible rfl))
        try simp only [Act.put, List.setIfInBounds_toArray, List.set_cons_zero, List.set_cons_succ]
        refine wpAnyH_take (i := 4) (oi := _) (v := ?v67) rfl (by kernel_rfl) (by kernel_rfl) (by kernel_rfl) (fun _ _ _ h => h) (Or.inl ⟨by rfl, ?hy68⟩) hHeld ?rest69
        case hy68 => (intro w hSw; (try dsimp only at hSw); go_simp; (try with_reducible rfl))
        try simp only [Act.put, List.setIfInBounds_toArray, List.set_cons_zero, List.set_cons_succ]
        refine wpAnyH_take (i := 5) (oi := _) (v := ?v70) rfl (by kernel_rfl) (by kernel_rfl) (by kernel_rfl) (fun _ _ _ h => h) (Or.inl ⟨by rfl, ?hy71⟩) hHeld ?rest72
        case hy71 => (intro w hSw; (try dsimp only at hSw); go_simp; (try with_reducible rfl))
        try simp only [Act.put, List.setIfInBounds_toArray, List.set_cons_zero, List.set_cons_succ]
        refine wpAnyH_take (i := 6) (oi := _) (v := ?v73) rfl (by kernel_rfl) (by kernel_rfl) (by kernel_rfl) (fun _ _ _ h => h) (Or.inl ⟨by rfl, ?hy74⟩) hHeld ?rest75
        case hy74 => (intro w hSw; (try dsimp only at hSw); go_simp; (try with_reducible rfl))
        try simp only [Act.put, List.setIfInBounds_toArray, List.set_cons_zero, List.set_cons_succ]
        refine wpAnyH_take (i := 9) (oi := _) (v := ?v76) rfl (by kernel_rfl) (by kernel_rfl) (by kernel_rfl) (fun _ _ _ h => h) (Or.inl ⟨by rfl, ?hy77⟩) hHeld ?rest78
        case hy77 => (intro w hSw; (try dsimp only at hSw); go_simp; (try with_reducible rfl))
        try simp only [Act.put, List.setIfInBounds_toArray, List.set_cons_zero, List.set_cons_succ]
        refine wpAnyH_take (i := 10) (oi := _) (v := ?v79) rfl (by kernel_rfl) (by kernel_rfl) (by kernel_rfl) (fun _ _ _ h => h) (Or.inl ⟨by rfl, ?hy80⟩) hHeld ?rest81
        case hy80 => (intro w hSw; (try dsimp only at hSw); go_simp; (try with_reducible rfl))
        try simp only [Act.put, List.setIfInBounds_toArray, List.set_cons_zero, List.set_cons_succ]
        refine wpAnyH_take (i := 11) (oi := _) (v := ?v82) rfl (by kernel_rfl) (by kernel_rfl) (by kernel_rfl) (fun _ _ _ h => h) (Or.inl ⟨by rfl, ?hy83⟩) hHeld ?rest84
        case hy83 => (intro w hSw; (try dsimp only at hSw); go_simp; (try with_reducible rfl))
        try simp only [Act.put, List.setIfInBounds_toArray, List.set_cons_zero, List.set_cons_succ]
        refine wpAnyH_take (i := 12) (oi := _) (v := ?v85) rfl (by kernel_rfl) (by kernel_rfl) (by kernel_rfl) (fun _ _ _ h => h) (Or.inl ⟨by rfl, ?hy86⟩) hHeld ?rest87
        case hy86 => (intro w hSw; (try dsimp only at hSw); go_simp; (try with_reducible rfl))
        try simp only [Act.put, List.setIfInBounds_toArray, List.set_cons_zero, List.set_cons_succ]
        refine wpAnyH_ready (rs := [7]) (by kernel_rfl) (by simp) ?_
        refine AllReadyH.cons (o := _) rfl (fun K hK => ?stp101) ?more102
        case stp101 =>
          go_simp
          refine hK.out _ _ ?hS103 (fun hHeld2 => ?rest104)
          case hS103 => (exact trivial)
          clear hK K hHeld
          have hHeld := hHeld2
          clear hHeld2
          try simp only [Act.put, List.setIfInBounds_toArray, List.set_cons_zero, List.set_cons_succ]
          refine wpAnyH_take (i := 8) (oi := _) (v := ?v88) rfl (by kernel_rfl) (by kernel_rfl) (by kernel_rfl) (fun _ _ _ h => h) (Or.inl ⟨by rfl, ?hy89⟩) hHeld ?rest90
          case hy89 => (intro w hSw; (try dsimp only at hSw); go_simp; (try with_reducible rfl))
          try simp only [Act.put, List.setIfInBounds_toArray, List.set_cons_zero, List.set_cons_succ]
          refine wpAnyH_take (i := 13) (oi := _) (v := ?v91) rfl (by kernel_rfl) (by kernel_rfl) (by kernel_rfl) (fun _ _ _ h => h) (Or.inl ⟨by rfl, ?hy92⟩) hHeld ?rest93
          case hy92 => (intro w hSw; (try dsimp only at hSw); go_simp; (try with_reducible rfl))
          try simp only [Act.put, List.setIfInBounds_toArray, List.set_cons_zero, List.set_cons_succ]
          refine wpAnyH_take (i := 14) (oi := _) (v := ?v94) rfl (by kernel_rfl) (by kernel_rfl) (by kernel_rfl) (fun _ _ _ h => h) (Or.inl ⟨by rfl, ?hy95⟩) hHeld ?rest96
          case hy95 => (intro w hSw; (try dsimp only at hSw); go_simp; (try with_reducible rfl))
          try simp only [Act.put, List.setIfInBounds_toArray, List.set_cons_zero, List.set_cons_succ]
          refine wpAnyH_ready (rs := [15]) (by kernel_rfl) (by simp) ?_
          refine AllReadyH.cons (o := _) rfl (fun K hK => ?stp97) ?more98
          case stp97 =>
            have hM2 : MarkB (wr.setCell ⟨g, j, none⟩ (.int .u8 (bits .or .u8 ((x : Int) * 2) 1))).drew g 5 (bytP (bl s) m (q + 1)) := by rw [HN.out]; exact MarkB.set_ hM j _ _ (by rw [hor, UInt8.toNat_ofNat']; have := HV.out; omega)
            have hB2 : BB w (wr.setCell ⟨g, j, none⟩ (.int .u8 (bits .or .u8 ((x : Int) * 2) 1))).drew := BB.dr (BB.put hB (a := ⟨g, j, none⟩) hgw _)
            go_simp
            refine hK.out _ _ ?hS99 (fun hHeld2 => ?rest100)
            case hS99 => (exact trivial)
            clear hK K hHeld
            have hHeld := hHeld2
            clear hHeld2
            try simp only [Act.put, List.setIfInBounds_toArray, List.set_cons_zero, List.set_cons_succ]
            refine wpAnyH_done (by kernel_rfl) ?_ _
            go_wp2_with fail
            go_roundw
            case rel => exact ⟨q + 1, by go_num, by omega, hM2, hB2⟩
            case measure => simp [intOf]; omega
          exact AllReadyH.nil
        exact AllReadyH.nil
    · have hlti : decide ((q : Int) < (s.size : Int)) = false := decide_eq_false (by omega)
      have hqe : q = 8 * m := by have := HS.out; omega
      have HL : bytP (bl s) m q = R := by rw [hqe]; exact HR.out
      rw [HL] at hM
      have hRl : R.length = m := by rw [← HL, bytP_len]
      have hcv := MarkB.b2s (P := Tryz.prog) (src := 85) (dst := 9) Tryz.underlying85 Tryz.underlying5 Tryz.underlying9 hM m m hRl.symm
      clear hqe HL hRl
      go_wp2
      go_ret
      exact ⟨rfl, hB⟩
end Go.Proofs.YtlfmpgfobkmgfaaGreatDoor
namespace Go.Proofs.YtlfmpgfobkmgfaaGreatDoor
open Go.RowKit Go.Deep
set_option linter.unusedVariables false
set_option linter.unusedSimpArgs false

set_option maxRecDepth 100000 in
set_option maxHeartbeats 4000000 in
theorem dataCells_a (s : ByteArray) (m : Nat) (w : World) (h8 : s.size ≤ 8000) (hs : s.size = 16 * m) (hb : bitsB (bl s)) :
    Calls Tryz.prog 84 #[.string s] w fun e w' => e = .returned (.tuple #[.string (str1 (bytesL (odds (bl s)) m)), .bool true]) ∧ Below w.heap.size w w' := by
  have ic := fun W => isCellString_a s W (by omega)
  rw [all_cell hb, decide_eq_true h8, Bool.and_true] at ic
  have hod := oddK_odds (c := bl s) (n := 8 * m) (by rw [blen]; omega)
  have bo := fun (x : ByteArray) (hx : bl x = odds (bl s)) W => bytesOf_a x m W (by omega) (by rw [← blen x, hx, odds_len, blen]; omega) (by rw [hx]; exact odds_bits hb)
  have bo : ∀ (x : ByteArray) (hx : bl x = odds (bl s)) W, Calls Tryz.prog 115 #[.string x] W (fun e w' => e = .returned (.string (str1 (bytesL (odds (bl s)) m))) ∧ Below W.heap.size W w') := fun x hx W => by
    have h := bo x hx W
    rw [hx] at h
    exact h
  obtain ⟨R, hR⟩ : ∃ R, bytesL (odds (bl s)) m = R := ⟨_, rfl⟩
  rw [hR] at bo ⊢
  have hrm : (s.size : Int).tmod 16 = 0 := by rw [hs, show (16 : Int) = ((16 : Nat) : Int) from rfl, rem_nat, Nat.mul_mod_right]; rfl
  have hrm2 : (s.size : Int) % 16 = 0 := by omega
  have hq1 : (s.size : Int).tdiv 2 = ((8 * m : Nat) : Int) := by rw [Int.tdiv_eq_ediv_of_nonneg (by omega)]; omega
  have hq2 : (s.size : Int) / 2 = ((8 * m : Nat) : Int) := by omega
  obtain ⟨hf, hhf⟩ : ∃ hf, 8 * m = hf := ⟨_, rfl⟩
  rw [hhf] at hod hq1 hq2
  have hsz2 : s.size = 2 * hf := by omega
  have HSZ := Lib.hid hsz2
  have hhl : hf ≤ 4000 := by omega
  have HOD := Lib.hid hod
  have hmk : ∀ W, (Instr.makeSlice 85 (.int .i64 0) (.int .i64 (hf : Int))).run Tryz.prog W = .ok (.slice (some ⟨W.heap.size, 0, none⟩) 0 hf) (W.alloc (.cells (madeCells #[.int .u8 0] (hf * 1)) 5)) := fun W => mk0 hf (by omega) W
  rw [Nat.mul_one] at hmk
  clear hs hR hhf hsz2 hod hb
  go_enter Tryz.func84, Tryz.ntmps84
  go_wp2_with (go_at_call 40; (with_reducible refine (ic _).mono ?_); rintro e w2 ⟨rfl, hx2⟩)
  have O0 : OwnB (w2.alloc (.cells (madeCells #[.int .u8 0] hf) 5)) w.heap.size 5 (.slice (some ⟨w2.heap.size, 0, none⟩) 0 hf) [] := own_base (by have h := own0 hf (by omega) w2; rw [Nat.mul_one] at h; exact h) hx2.size
  have hB0 : BB w (w2.alloc (.cells (madeCells #[.int .u8 0] hf) 5)) := BB.al hx2 _
  generalize (w2.alloc (.cells (madeCells #[.int .u8 0] hf) 5)) = w1 at O0 hB0 ⊢
  go_loopw [4, 5] (fun v i wr => ∃ (k q : Nat) (l : List UInt8), i = .int .i64 (q : Int) ∧ q ≤ s.size + 1 ∧ Hid (q = 2 * k + 1) ∧ l.length ≤ q ∧ OwnB wr w.heap.size 5 v l ∧ BB w wr ∧ Hid (l = oddK (bl s) k)) (fun _ i _ => s.size + 1 - (intOf i).toNat)
  case atStart => exact ⟨0, 1, [], rfl, by omega, Lib.hid rfl, by simp, O0, hB0, Lib.hid rfl⟩
  case round =>
    obtain ⟨k, q, l, rfl, hk, HQ, hl, O, hB, HL⟩ := hrel
    clear O0 hB0
    obtain ⟨A2, c2, rfl⟩ := O.form
    by_cases hlt : q < s.size
    · have hlti : decide ((q : Int) < (s.size : Int)) = true := decide_eq_true (by omega)
      have hlti2 : (q : Int) < (s.size : Int) := by omega
      have hgo := odd_get s k q HQ.out hlt
      obtain ⟨y, hy⟩ : ∃ y, (bl s).getD (2 * k + 1) 48 = y := ⟨_, rfl⟩
      rw [hy] at hgo
      have HN := Lib.hid (show l ++ [y] = oddK (bl s) (k + 1) by rw [oddK_s, hy, HL.out])
      have HQ2 := Lib.hid (show q + 2 = 2 * (k + 1) + 1 by have := HQ.out; omega)
      have hq3 : q + 2 ≤ s.size + 1 := by have := HQ.out; have := HSZ.out; omega
      have hbs := Below.size hB
      clear hy
      go_wp2_with (at_builtin; go_must (refine wpList_appL (by rfl) (.tmp 25) (.tmp 29) 85 (by rfl) eltB _ l (by rfl) O _ _ [y] 1 1 (by rfl) (byte_lit y) (by rfl) (by simp; omega) hbs ?_); intro v' w' hown' hg' hat' hbl')
      have hl1 : (l ++ [y]).length ≤ q + 2 := by rw [List.length_append, List.length_singleton]; omega
      go_roundw
      case rel => exact ⟨k + 1, q + 2, l ++ [y], by go_num, hq3, HQ2, hl1, hown', Below.trans hB hbl', HN⟩
      case measure => simp [intOf]; omega
    · have hlti : decide ((q : Int) < (s.size : Int)) = false := decide_eq_false (by omega)
      have hlti2 : ¬ (q : Int) < (s.size : Int) := by omega
      have HE : l = odds (bl s) := by rw [HL.out, ← HOD.out]; congr 1; have := HQ.out; have := HSZ.out; omega
      have hcv0 := run_b2s (P := Tryz.prog) (dst := 9) Tryz.underlying85 Tryz.underlying5 Tryz.underlying9 O
      have bo1 : ∀ W, Calls Tryz.prog 115 #[.string ⟨l.toArray⟩] W (fun e w' => e = .returned (.string (str1 R)) ∧ Below W.heap.size W w') := fun W => bo (str1 l) (by rw [← HE]; rfl) W
      clear HE hl
      go_wp2_with (go_at_call 115; (with_reducible refine (bo1 _).mono ?_); rintro e w7 ⟨rfl, hx7⟩)
      go_ret2
      exact ⟨rfl, BB.next hB hx7⟩

theorem GG.dn {w : World} (h : GG w) (n : Nat) : GG (w.drewN n) := ⟨h.fw, h.lt⟩
set_option maxRecDepth 100000 in
set_option maxHeartbeats 4000000 in
theorem rawBytes_3 (s : ByteArray) (m : Nat) (w : World) (hm : m ≤ 4096) (hs : s.size = 10 * m) (hG : GG w) :
    Calls Tryz.prog 55 #[.int .i64 3, .string s] w fun e w' => e = .returned (.tuple #[.string (str1 (rawF 3 (bl s)).1), .bool (rawF 3 (bl s)).2]) ∧ Below w.heap.size w w' := by
  have gv := fun (x : ByteArray) W hW => GcrValue_a x W hW
  obtain ⟨R, hR⟩ : ∃ R, rawF 3 (bl s) = R := ⟨_, rfl⟩
  rw [hR]
  have HR := Lib.hid ((rawF_3 (m := m) (by rw [blen]; exact hs)).symm.trans hR)
  have HS := Lib.hid hs
  have hq1 : (s.size : Int).tdiv 10 = (m : Int) := by rw [Int.tdiv_eq_ediv_of_nonneg (by omega)]; omega
  have hq2 : (s.size : Int) / 10 = (m : Int) := by omega
  have hsl : s.size ≤ 40960 := by omega
  have hmk : ∀ W, (Instr.makeSlice 85 (.int .i64 0) (.int .i64 (m : Int))).run Tryz.prog W = .ok (.slice (some ⟨W.heap.size, 0, none⟩) 0 m) (W.alloc (.cells (madeCells #[.int .u8 0] (m * 1)) 5)) := fun W => mk0 m (by omega) W
  rw [Nat.mul_one] at hmk
  clear hs hR
  go_enter Tryz.func55, Tryz.ntmps55
  go_wp2
  have O0 : OwnB (w.alloc (.cells (madeCells #[.int .u8 0] m) 5)) w.heap.size 5 (.slice (some ⟨w.heap.size, 0, none⟩) 0 m) [] := by have h := own0 m (by omega) w; rw [Nat.mul_one] at h; exact h
  have hB0 : BB w (w.alloc (.cells (madeCells #[.int .u8 0] m) 5)) := BB.al (BB.start w) _
  generalize (w.alloc (.cells (madeCells #[.int .u8 0] m) 5)) = w1 at O0 hB0 ⊢
  go_loopw [8, 9, 10, 11, 12] (fun v ok i _ _ wr => ∃ (k q : Nat) (l : List UInt8) (B : Bool), i = .int .i64 (q : Int) ∧ q ≤ s.size ∧ Hid (q = 10 * k) ∧ l.length ≤ q ∧ ok = .bool B ∧ OwnB wr w.heap.size 5 v l ∧ BB w wr ∧ Hid (l = rawK (bl s) k) ∧ Hid (B = okK (bl s) (2 * k))) (fun _ _ i _ _ _ => s.size - (intOf i).toNat)
  case atStart => exact ⟨0, 0, [], true, rfl, Nat.zero_le _, Lib.hid rfl, by simp, rfl, O0, hB0, Lib.hid rfl, Lib.hid rfl⟩
  case round =>
    obtain ⟨k, q, l, B, rfl, hk, HQ, hl, rfl, O, hB, HL, HB⟩ := hrel
    clear O0 hB0
    obtain ⟨A2, c2, rfl⟩ := O.form
    by_cases hlt : q < s.size
    · have hlti : decide ((q : Int) < (s.size : Int)) = true := decide_eq_true (by omega)
      have hlti3 : (q : Int) < (s.size : Int) := by omega
      have hq10 : q + 10 ≤ s.size := by have h1 := HQ.out; have h2 := HS.out; omega
      have hw1 : IntKind.i64.wrap ((q : Int) + 5) = (q : Int) + 5 := IntWalk.i64_in _ (by omega)
      have hw2 : IntKind.i64.wrap ((q : Int) + 10) = (q : Int) + 10 := IntWalk.i64_in _ (by omega)
      have HQ2 := Lib.hid (show q + 10 = 10 * (k + 1) by have := HQ.out; omega)
      have g1 := grp_ext s q (2 * k) (by have := HQ.out; omega)
      have g2 := grp_ext s (q + 5) (2 * k + 1) (by have := HQ.out; omega)
      have gA := fun W hW => gv (s.extract q (q + 5)) W hW
      have gB := fun W hW => gv (s.extract (q + 5) (q + 10)) W hW
      rw [g1] at gA
      rw [show q + 10 = q + 5 + 5 by omega, g2] at gB
      rw [show q + 5 + 5 = q + 10 by omega] at gB
      have HOKS := Lib.hid (okK_2 (bl s) k)
      have HRS := Lib.hid (rawK_s (bl s) k)
      have r1 := gvI_lt (grp (bl s) (2 * k))
      have r2 := gvI_lt (grp (bl s) (2 * k + 1))
      obtain ⟨a, ha⟩ : ∃ a, gvI (grp (bl s) (2 * k)) = a := ⟨_, rfl⟩
      obtain ⟨b, hb⟩ : ∃ b, gvI (grp (bl s) (2 * k + 1)) = b := ⟨_, rfl⟩
      rw [ha] at gA r1 HOKS
      rw [hb] at gB r2 HOKS
      have pa : (gvP (grp (bl s) (2 * k))) = a.toNat := by rw [← ha]; rfl
      have pb : (gvP (grp (bl s) (2 * k + 1))) = b.toNat := by rw [← hb]; rfl
      rw [pa, pb] at HRS
      clear ha hb pa pb g1 g2 gv
      have hGr := hG.bb hB
      go_wp2_with fail
      have gA2 := fun n => gA (wr.drewN n) (hGr.dn n)
      have gB2 := fun n => gB (wr.drewN n) (hGr.dn n)
      clear gA gB
      go_quiet ((go_at_call 85; first | (with_reducible exact quiet_left (gA2 _)) | (with_reducible exact quiet_left (gB2 _))))
      generalize nq = n1
      clear gA2 gB2
      have O1 : OwnB (wr.drewN n1) w.heap.size 5 (.slice A2 l.length c2) l := OO.dn O n1
      have hB1 : BB w (wr.drewN n1) := BB.dn hB n1
      generalize wr.drewN n1 = wy at O1 hB1 ⊢
      clear O hB hGr
      have hbs := Below.size hB1
      have ra : a = -1 ∨ ∃ p : Nat, a = (p : Int) ∧ p ≤ 15 := by
        rcases (by omega : a < 0 ∨ 0 ≤ a) with h | h
        · left; omega
        · right; exact ⟨a.toNat, by omega, by omega⟩
      have rb : b = -1 ∨ ∃ p : Nat, b = (p : Int) ∧ p ≤ 15 := by
        rcases (by omega : b < 0 ∨ 0 ≤ b) with h | h
        · left; omega
        · right; exact ⟨b.toNat, by omega, by omega⟩
      clear r1 r2
      rcases ra with rfl | ⟨p, rfl, hp⟩ <;> rcases rb with rfl | ⟨p2, rfl, hp2⟩
      · have HN := Lib.hid (show l ++ [UInt8.ofNat (0)] = rawK (bl s) (k + 1) by rw [HRS.out, HL.out, show 16 * (-1 : Int).toNat + (-1 : Int).toNat = 0 by omega])
        have HK := Lib.hid (show false = okK (bl s) (2 * (k + 1)) by rw [HOKS.out]; simp)
        have hlit : (#[Value.int .u8 0] : Array Value).toList = bcells [UInt8.ofNat 0] := byte_lit2 0 (by omega)
        clear HOKS HRS HB
        cases B
        all_goals
          go_wp2_with (at_builtin; go_must (refine wpList_appL (by rfl) (.tmp 53) (.tmp 61) 85 (by rfl) eltB _ l (by rfl) O1 _ _ [UInt8.ofNat (0)] 1 1 (by rfl) hlit (by rfl) (by simp; omega) hbs ?_); intro v' w' hown' hg' hat' hbl')
          go_roundw
          case rel => exact ⟨k + 1, q + 10, _, _, by go_num, hq10, HQ2, by rw [List.length_append, List.length_singleton]; omega, rfl, hown', Below.trans hB1 hbl', HN, HK⟩
          case measure => simp [intOf]; omega
      · have HN := Lib.hid (show l ++ [UInt8.ofNat (p2)] = rawK (bl s) (k + 1) by rw [HRS.out, HL.out, show 16 * (-1 : Int).toNat + ((p2 : Nat) : Int).toNat = p2 by omega])
        have hmn : max (-1 : Int) 0 = 0 := by decide
        have HK := Lib.hid (show false = okK (bl s) (2 * (k + 1)) by rw [HOKS.out]; simp)
        have hm_p2 : max (p2 : Int) 0 = (p2 : Int) := by omega
        have hd_p2 : decide ((0 : Int) ≤ (p2 : Int)) = true := decide_eq_true (by omega)
        have h16_p2 : IntKind.i64.wrap (16 * (p2 : Int)) = 16 * (p2 : Int) := IntWalk.i64_in _ (by omega)
        have hwz : IntKind.u8.wrap ((p2 : Int)) = (p2 : Int) := IntWalk.u8_in _ (by omega)
        have hlit : (#[Value.int .u8 ((p2 : Int))] : Array Value).toList = bcells [UInt8.ofNat (p2)] := byte_lit2 (p2) (by omega)
        clear HOKS HRS HB
        cases B
        all_goals
          go_wp2_with (at_builtin; go_must (refine wpList_appL (by rfl) (.tmp 53) (.tmp 61) 85 (by rfl) eltB _ l (by rfl) O1 _ _ [UInt8.ofNat (p2)] 1 1 (by rfl) hlit (by rfl) (by simp; omega) hbs ?_); intro v' w' hown' hg' hat' hbl')
          go_roundw
          case rel => exact ⟨k + 1, q + 10, _, _, by go_num, hq10, HQ2, by rw [List.length_append, List.length_singleton]; omega, rfl, hown', Below.trans hB1 hbl', HN, HK⟩
          case measure => simp [intOf]; omega
      · have HN := Lib.hid (show l ++ [UInt8.ofNat (16 * p)] = rawK (bl s) (k + 1) by rw [HRS.out, HL.out, show 16 * ((p : Nat) : Int).toNat + (-1 : Int).toNat = 16 * p by omega])
        have hmn : max (-1 : Int) 0 = 0 := by decide
        have HK := Lib.hid (show false = okK (bl s) (2 * (k + 1)) by rw [HOKS.out]; simp)
        have hm_p : max (p : Int) 0 = (p : Int) := by omega
        have hd_p : decide ((0 : Int) ≤ (p : Int)) = true := decide_eq_true (by omega)
        have h16_p : IntKind.i64.wrap (16 * (p : Int)) = 16 * (p : Int) := IntWalk.i64_in _ (by omega)
        have hwz : IntKind.u8.wrap (16 * (p : Int)) = 16 * (p : Int) := IntWalk.u8_in _ (by omega)
        have hlit : (#[Value.int .u8 (16 * (p : Int))] : Array Value).toList = bcells [UInt8.ofNat (16 * p)] := byte_lit2 (16 * p) (by omega)
        clear HOKS HRS HB
        cases B
        all_goals
          go_wp2_with (at_builtin; go_must (refine wpList_appL (by rfl) (.tmp 53) (.tmp 61) 85 (by rfl) eltB _ l (by rfl) O1 _ _ [UInt8.ofNat (16 * p)] 1 1 (by rfl) hlit (by rfl) (by simp; omega) hbs ?_); intro v' w' hown' hg' hat' hbl')
          go_roundw
          case rel => exact ⟨k + 1, q + 10, _, _, by go_num, hq10, HQ2, by rw [List.length_append, List.length_singleton]; omega, rfl, hown', Below.trans hB1 hbl', HN, HK⟩
          case measure => simp [intOf]; omega
      · have HN := Lib.hid (show l ++ [UInt8.ofNat (16 * p + p2)] = rawK (bl s) (k + 1) by rw [HRS.out, HL.out, show 16 * ((p : Nat) : Int).toNat + ((p2 : Nat) : Int).toNat = 16 * p + p2 by omega])
        have HK := Lib.hid (show B = okK (bl s) (2 * (k + 1)) by rw [HOKS.out, ← HB.out, decide_eq_true (by omega : (0 : Int) ≤ (p : Int)), decide_eq_true (by omega : (0 : Int) ≤ (p2 : Int)), Bool.and_true, Bool.and_true])
        have hm_p : max (p : Int) 0 = (p : Int) := by omega
        have hd_p : decide ((0 : Int) ≤ (p : Int)) = true := decide_eq_true (by omega)
        have h16_p : IntKind.i64.wrap (16 * (p : Int)) = 16 * (p : Int) := IntWalk.i64_in _ (by omega)
        have hm_p2 : max (p2 : Int) 0 = (p2 : Int) := by omega
        have hd_p2 : decide ((0 : Int) ≤ (p2 : Int)) = true := decide_eq_true (by omega)
        have h16_p2 : IntKind.i64.wrap (16 * (p2 : Int)) = 16 * (p2 : Int) := IntWalk.i64_in _ (by omega)
        have hws : IntKind.i64.wrap (16 * (p : Int) + (p2 : Int)) = 16 * (p : Int) + (p2 : Int) := IntWalk.i64_in _ (by omega)
        have hwz : IntKind.u8.wrap (16 * (p : Int) + (p2 : Int)) = 16 * (p : Int) + (p2 : Int) := IntWalk.u8_in _ (by omega)
        have hlit : (#[Value.int .u8 (16 * (p : Int) + (p2 : Int))] : Array Value).toList = bcells [UInt8.ofNat (16 * p + p2)] := byte_lit2 (16 * p + p2) (by omega)
        clear HOKS HRS HB
        cases B
        all_goals
          go_wp2_with (at_builtin; go_must (refine wpList_appL (by rfl) (.tmp 53) (.tmp 61) 85 (by rfl) eltB _ l (by rfl) O1 _ _ [UInt8.ofNat (16 * p + p2)] 1 1 (by rfl) hlit (by rfl) (by simp; omega) hbs ?_); intro v' w' hown' hg' hat' hbl')
          go_roundw
          case rel => exact ⟨k + 1, q + 10, _, _, by go_num, hq10, HQ2, by rw [List.length_append, List.length_singleton]; omega, rfl, hown', Below.trans hB1 hbl', HN, HK⟩
          case measure => simp [intOf]; omega
    · have hlti : decide ((q : Int) < (s.size : Int)) = false := decide_eq_false (by omega)
      have hlti3 : ¬ (q : Int) < (s.size : Int) := by omega
      have HN := Lib.hid (show (l, B) = R by rw [HL.out, HB.out, ← HR.out]; have h1 := HQ.out; have h2 := HS.out; rw [show k = m by omega])
      have hcv0 := run_b2s (P := Tryz.prog) (dst := 9) Tryz.underlying85 Tryz.underlying5 Tryz.underlying9 O
      go_wp2
      go_ret2
      exact ⟨by rw [← HN.out]; rfl, hB⟩
end Go.Proofs.YtlfmpgfobkmgfaaGreatDoor
namespace Go.Proofs.YtlfmpgfobkmgfaaGreatDoor
open Go.RowKit Go.Deep
set_option linter.unusedVariables false
set_option linter.unusedSimpArgs false

theorem rawBytes_a (f : Int) (s : ByteArray) (m : Nat) (w : World) (h8 : s.size ≤ 8000) (hm : m ≤ 4096) (hs : s.size = cpb f * m) (hb : bitsB (bl s)) (hG : GG w) :
    Calls Tryz.prog 55 #[.int .i64 f, .string s] w fun e w' => e = .returned (.tuple #[.string (str1 (rawF f (bl s)).1), .bool (rawF f (bl s)).2]) ∧ Below w.heap.size w w' := by
  by_cases hf : f = 3
  · subst hf
    exact rawBytes_3 s m w hm hs hG
  · have hs16 : s.size = 16 * m := by rw [hs]; unfold cpb; rw [if_neg hf]
    have dc := fun W => dataCells_a s m W h8 hs16 hb
    have HR := Lib.hid (rawF_o hf (c := bl s) (m := m) (by rw [blen]; exact hs16))
    have e3 : (f == 3) = false := by simp [hf]
    have e3' : (f != 3) = true := by simp [bne, hf]
    obtain ⟨x, hx⟩ : ∃ x, str1 (bytesL (odds (bl s)) m) = x := ⟨_, rfl⟩
    rw [hx] at dc
    have HX := Lib.hid hx
    clear hx hs hs16 hb hf
    go_enter Tryz.func55, Tryz.ntmps55
    go_wp2_with (go_at_call 84; (with_reducible refine (dc _).mono ?_); rintro e w7 ⟨rfl, hx7⟩)
    go_ret2
    exact ⟨by rw [HR.out, HX.out]; rfl, hx7⟩

theorem wo_cells (n : Nat) (hn : n < 65536) : (#[Value.int .u8 ((n : Int) / 256), Value.int .u8 ((n : Int) % 256)] : Array Value).toList = bcells (woL n) := by
  have h1 : (UInt8.ofNat (n / 256)).toNat = n / 256 := by rw [UInt8.toNat_ofNat']; omega
  have h2 : (UInt8.ofNat (n % 256)).toNat = n % 256 := by rw [UInt8.toNat_ofNat']; omega
  simp only [bcells, woL, List.map_cons, List.map_nil, h1, h2]
  rfl
theorem run_wo (n : Nat) (hn : n < 65536) (w : World) :
    (convert 85 9 (.slice (some ⟨w.heap.size, 0, none⟩) 2 2)).run Tryz.prog (w.alloc (.cells #[.int .u8 ((n : Int) / 256), .int .u8 ((n : Int) % 256)] 5)) =
      .ok (.string (woB n)) (w.alloc (.cells #[.int .u8 ((n : Int) / 256), .int .u8 ((n : Int) % 256)] 5)) :=
  run_b2s_lit Tryz.underlying85 Tryz.underlying5 Tryz.underlying9 w (woL n) _ 2 (wo_cells n hn) rfl (by simp [woL, maxLen])
set_option maxHeartbeats 400000 in
theorem PutWord_a (n : Nat) (w : World) (hn : n < 65536) :
    Calls Tryz.prog 87 #[.int .i64 (n : Int)] w fun e w' => e = .returned (.string (woB n)) ∧ Below w.heap.size w w' := by
  have H := Lib.hid (show inB (n : Int) 0 65535 = true by simp [inB]; omega)
  have hcv := run_wo n hn
  go_enter Tryz.func87, Tryz.ntmps87
  go_wp2_with (go_at_call 16; refine (within_any _ _ _ _).mono ?_; rintro e w' ⟨rfl, rfl⟩; rw [H.out])
  go_ret
  exact ⟨rfl, (by repeat (first | exact Below.refl _ _ | refine below_step ?_ (by assumption) | assumption | refine Below.drew ?_ | refine below_drewN ?_ _ | refine below_alloc ?_ _ | refine Below.setCell ?_ (by simp; try omega) _))⟩
set_option maxRecDepth 100000 in
set_option maxHeartbeats 2000000 in
theorem checkedField_a (f : Int) (k : Nat) (d : ByteArray) (w : World) (hf : f = 1 ∨ f = 2 ∨ f = 3) (hk : k = 1 ∨ k = 2 ∨ k = 3) (hd : d.size ≤ 100) :
    Calls Tryz.prog 57 #[.int .i64 f, .int .i64 (k : Int), .string d, .bool false] w fun e w' => e = .returned (.string (str1 (bl d ++ woL (crcL (preL f k ++ bl d) 65535)))) ∧ Below w.heap.size w w' := by
  have lb := fun W => MarkByte_a f k W hf hk
  obtain ⟨b, hb⟩ : ∃ b, mbN f k = b := ⟨_, rfl⟩
  have hb2 : b < 256 := by rw [← hb]; exact mbN_lt f k hk
  rw [hb] at lb
  have hwb : IntKind.u8.wrap (b : Int) = (b : Int) := IntWalk.u8_in _ (by omega)
  have hc2 := run_b1 b hb2 w
  have hB1 : BB w (w.alloc (.cells #[.int .u8 (b : Int)] 5)) := BB.al (BB.start w) _
  have hs1 : (str1 [UInt8.ofNat b]).size = 1 := by rw [str1_size]; rfl
  obtain ⟨C, hC⟩ : ∃ C, crcL (preL f k ++ bl d) 65535 = C := ⟨_, rfl⟩
  have hC6 : C < 65536 := by rw [← hC]; exact crcL_lt _ _ (by omega)
  rw [hC]
  have pw := fun W => PutWord_a C W hC6
  obtain ⟨wo, hwo⟩ : ∃ x, woB C = x := ⟨_, rfl⟩
  have hwos : wo.size = 2 := by rw [← hwo]; rfl
  rw [hwo] at pw
  have HE := Lib.hid (show str1 (bl d ++ woL C) = d ++ wo by
    rw [← hwo]
    show _ = d ++ str1 (woL C)
    rw [← str_app]
    rfl)
  have s9 : ¬ 9223372036854775807 < d.size + wo.size := by omega
  obtain ⟨z, hz⟩ : ∃ z, str1 [UInt8.ofNat b] = z := ⟨_, rfl⟩
  rw [hz] at hc2 hs1
  by_cases h2 : f = 2
  · subst h2
    have e2 : preL 2 k = [161, 161, 161, UInt8.ofNat b] := by unfold preL; rw [if_pos rfl, hb]
    obtain ⟨y, hy⟩ : ∃ y : ByteArray, (⟨#[161, 161, 161]⟩ : ByteArray) ++ z = y := ⟨_, rfl⟩
    have hyb : y = str1 (preL 2 k) := by rw [← hy, ← hz, e2]; rfl
    have hys : y.size = 4 := by rw [hyb, str1_size, e2]; rfl
    have s1 : ¬ 9223372036854775807 < 3 + z.size := by omega
    have s2 : ¬ 9223372036854775807 < y.size + d.size := by omega
    obtain ⟨x, hx⟩ : ∃ x : ByteArray, y ++ d = x := ⟨_, rfl⟩
    have cr := fun W => crc16_any x 65535 W (by rw [← hx, ByteArray.size_append]; omega) (by omega)
    have hce : crcOf x 65535 = C := by
      unfold crcOf
      rw [show x.data.toList = preL 2 k ++ bl d by rw [← hx, hyb, ByteArray.data_append, Array.toList_append]; rfl, hC]
    rw [hce] at cr
    clear hce hyb hz e2 hC hwo hb
    go_enter Tryz.func57, Tryz.ntmps57
    go_wp2_with (first
      | (go_at_call 75; (with_reducible refine (lb _).mono ?_); rintro e w1 ⟨rfl, rfl⟩)
      | (go_at_call 86; (refine (cr _).mono ?_); rintro e w2 ⟨rfl, rfl⟩)
      | (go_at_call 87; (refine (pw _).mono ?_); rintro e w2 ⟨rfl, hx2⟩; have hB2 : BB w w2 := BB.next hB1 hx2))
    go_ret
    exact ⟨by rw [HE.out]; rfl, hB2⟩
  · have e2 : preL f k = [UInt8.ofNat b] := by unfold preL; rw [if_neg h2, hb]
    have h2i : (f == 2) = false := by simp [h2]
    have s2 : ¬ 9223372036854775807 < z.size + d.size := by omega
    obtain ⟨x, hx⟩ : ∃ x : ByteArray, z ++ d = x := ⟨_, rfl⟩
    have cr := fun W => crc16_any x 65535 W (by rw [← hx, ByteArray.size_append]; omega) (by omega)
    have hce : crcOf x 65535 = C := by
      unfold crcOf
      rw [show x.data.toList = preL f k ++ bl d by rw [← hx, ← hz, e2, ByteArray.data_append, Array.toList_append]; rfl, hC]
    rw [hce] at cr
    clear hce hz e2 hC hwo hb h2
    go_enter Tryz.func57, Tryz.ntmps57
    go_wp2_with (first
      | (go_at_call 75; (with_reducible refine (lb _).mono ?_); rintro e w1 ⟨rfl, rfl⟩)
      | (go_at_call 86; (refine (cr _).mono ?_); rintro e w2 ⟨rfl, rfl⟩)
      | (go_at_call 87; (refine (pw _).mono ?_); rintro e w2 ⟨rfl, hx2⟩; have hB2 : BB w w2 := BB.next hB1 hx2))
    go_ret
    exact ⟨by rw [HE.out]; rfl, hB2⟩
end Go.Proofs.YtlfmpgfobkmgfaaGreatDoor
namespace Go.Proofs.YtlfmpgfobkmgfaaGreatDoor
open Go.RowKit Go.Deep
set_option linter.unusedVariables false
set_option linter.unusedSimpArgs false

set_option maxRecDepth 100000 in
set_option maxHeartbeats 8000000 in
theorem fieldAt_a (f : Int) (s : ByteArray) (k a body n : Nat) (w : World) (hf : f = 1 ∨ f = 2 ∨ f = 3) (h0 : 0 < s.size) (hs : s.size ≤ 8000) (hbits : bitsB (bl s)) (hk : k = 1 ∨ k = 2 ∨ k = 3) (hb : body < s.size) (hn : n ≤ 32) (hG : GG w) :
    Calls Tryz.prog 37 #[.string s, .int .i64 f, .agg #[.int .i64 (k : Int), .int .i64 (a : Int), .int .i64 (body : Int)], .int .i64 (n : Int)] w fun e w' => e = .returned (fldV (fldL f (bl s) k body n)) ∧ Below w.heap.size w w' := by
  have F := BX.made w 49 [.int .i64 (k : Int), .int .i64 (a : Int), .int .i64 (body : Int)]
  have hB : BB w (w.alloc (.cells #[.int .i64 (k : Int), .int .i64 (a : Int), .int .i64 (body : Int)] 49)) := BB.al (BB.start w) _
  have k0 : (_ : Option Value) = some (.int .i64 (k : Int)) := F.cell 0 (by simp)
  have k2 : (_ : Option Value) = some (.int .i64 (body : Int)) := F.cell 2 (by simp)
  have lc := fun W => byteCells_a f W
  have hin : inB (n : Int) 0 32 = true := by unfold inB; simp; omega
  have hwi := fun W => within_any (n : Int) 0 32 W
  rw [hin] at hwi
  obtain ⟨R, hR⟩ : ∃ R, fldL f (bl s) k body n = R := ⟨_, rfl⟩
  rw [hR]
  have HR := Lib.hid hR
  clear hR hin
  obtain ⟨c, hc⟩ : ∃ c, cpb f = c := ⟨_, rfl⟩
  have hcc := cpb_cases f
  have HC := Lib.hid hc
  rw [hc] at lc hcc
  clear hc
  obtain ⟨T, hT⟩ : ∃ T, (n + 2) * c = T := ⟨_, rfl⟩
  have hTl : T ≤ 600 := by rcases hcc with rfl | rfl <;> omega
  have HT := Lib.hid hT
  have hw0 : IntKind.i64.wrap ((n : Int) + 2) = (n : Int) + 2 := IntWalk.i64_in _ (by omega)
  have hw1 : IntKind.i64.wrap (((n : Int) + 2) * (c : Int)) = (T : Int) := by
    have h : ((n : Int) + 2) * (c : Int) = (T : Int) := by rw [← hT, Int.natCast_mul, Int.natCast_add]; rfl
    rw [h]
    exact IntWalk.i64_in _ (by omega)
  have hwS : IntKind.i64.wrap (s.size : Int) = (s.size : Int) := IntWalk.i64_in _ (by omega)
  clear hT hcc
  by_cases hbig : s.size < T
  · have hbi : decide ((s.size : Int) < (T : Int)) = true := decide_eq_true (by omega)
    have HN := Lib.hid (show none = R by rw [← HR.out]; unfold fldL; rw [if_pos (by rw [blen, HC.out, HT.out]; exact hbig)])
    go_enter Tryz.func37, Tryz.ntmps37
    go_wp2_with (first
      | (go_at_call 54; (with_reducible refine (lc _).mono ?_); rintro e w2 ⟨rfl, rfl⟩)
      | (go_at_call 16; (with_reducible refine (hwi _).mono ?_); rintro e w2 ⟨rfl, rfl⟩))
    go_ret3
    rw [← HN.out]
    exact ⟨rfl, hB⟩
  · have hbi : decide ((s.size : Int) < (T : Int)) = false := decide_eq_false (by omega)
    obtain ⟨x, hx⟩ : ∃ x, str1 (cir (bl s) body T) = x := ⟨_, rfl⟩
    obtain ⟨r, hr⟩ : ∃ r, (rawF f (cir (bl s) body T)).1 = r := ⟨_, rfl⟩
    obtain ⟨ok, hok⟩ : ∃ r, (rawF f (cir (bl s) body T)).2 = r := ⟨_, rfl⟩
    have hxb : bl x = cir (bl s) body T := by rw [← hx]; rfl
    have hxs : x.size = cpb f * (n + 2) := by rw [← blen, hxb, cir_len, HC.out, ← HT.out, Nat.mul_comm]
    have hxT : x.size = T := by rw [← blen, hxb, cir_len]
    have hrl : r.length = n + 2 := by rw [← hr]; exact rawF_n f _ _ (by rw [← hxb, blen]; exact hxs)
    have sl := fun W => slice_a s body T W hs (by omega) (by omega)
    rw [hx] at sl
    have rw1 := fun W hW => rawBytes_a f x (n + 2) W (by omega) (by omega) hxs (by rw [hxb]; exact cir_bits h0 hbits _ _) hW
    rw [hxb, hr, hok] at rw1
    obtain ⟨y, hy⟩ : ∃ y, str1 r = y := ⟨_, rfl⟩
    have hys : y.size = n + 2 := by rw [← hy, str1_size, hrl]
    have hyb : bl y = r := by rw [← hy]; rfl
    rw [hy] at rw1
    obtain ⟨p, hp⟩ : ∃ p, y.extract 0 n = p := ⟨_, rfl⟩
    have hpe : p = str1 (r.take n) := by rw [← hp, ← hy, ext0]
    have hps : p.size = n := by rw [hpe, str1_size, List.length_take]; omega
    have hpb : bl p = r.take n := by rw [hpe]; rfl
    obtain ⟨C, hC⟩ : ∃ C, crcL (preL f k ++ r.take n) 65535 = C := ⟨_, rfl⟩
    have hC6 : C < 65536 := by rw [← hC]; exact crcL_lt _ _ (by omega)
    have cf := fun W => checkedField_a f k p W hf hk (by omega)
    rw [hpb, hC] at cf
    have hce := chk_eq hrl hC6
    obtain ⟨z, hz⟩ : ∃ z, str1 (r.take n ++ woL C) = z := ⟨_, rfl⟩
    have hzE : (z.toList == y.toList) = decide (C = wdL r n) := by
      rw [str_eq, hyb, ← hce, ← hz]
      rfl
    rw [hz] at cf
    obtain ⟨E, hEE⟩ : ∃ E, decide (C = wdL r n) = E := ⟨_, rfl⟩
    rw [hEE] at hzE
    have HN := Lib.hid (show some (r.take n, ok && E) = R by rw [← HR.out]; unfold fldL; rw [if_neg (by rw [blen, HC.out, HT.out]; exact hbig), HC.out, HT.out, hr, hok, hC, hEE])
    have HPV := Lib.hid (show fldV R = .tuple #[.string p, .bool (ok && E), .bool true] by rw [← HN.out, hpe]; rfl)
    clear hx hr hok hxb hxs hrl hy hyb hpe hz hC hEE hpb hce
    have hle2 : (n : Int) ≤ (n : Int) + 2 := by omega
    have hnw : IntKind.i64.wrap (n : Int) = (n : Int) := IntWalk.i64_in _ (by omega)
    go_enter Tryz.func37, Tryz.ntmps37
    go_upto_region 5 with (first
      | (go_at_call 54; (with_reducible refine (lc _).mono ?_); rintro e w2 ⟨rfl, rfl⟩)
      | (go_at_call 16; (with_reducible refine (hwi _).mono ?_); rintro e w2 ⟨rfl, rfl⟩)
      | (go_at_call 56; (with_reducible refine (sl _).mono ?_); rintro e w2 ⟨rfl, hx2⟩; have hB2 : BB w w2 := BB.next hB hx2; have F2 := F.below hx2 F.lt; have hG2 := hG.bb hB2)
      | (go_at_call 55; (with_reducible refine (rw1 _ hG2).mono ?_); rintro e w3 ⟨rfl, hx3⟩; have hB3 : BB w w3 := BB.next hB2 hx3; have F3 := F2.below hx3 F2.lt))
    have c0 : w3.drew.cell? ⟨w.heap.size, 0, none⟩ = some (.int .i64 (k : Int)) := F3.cell 0 (by simp)
    have hlt3 : w.heap.size < w3.drew.heap.size := F3.lt
    clear hB hB2 F F2 F3 hx2 hx3 k0 k2 hG hG2 rw1 sl hwi lc
    cases ok
    · go_quiet (fail)
      generalize nq = n4
      go_wp2_with fail
      go_ret3
      rw [HPV.out]
      exact ⟨rfl, BB.dn hB3 _⟩
    · have CF := Lib.hid cf
      clear cf
      refine wp_region_held_drew (S := (fun W => W.cell? ⟨w.heap.size, 0, none⟩ = some (.int .i64 (k : Int)))) (by kernel_rfl) ?hS1 (fun hHeld => ?rest2)
      case hS1 => (exact c0)
      refine wpAnyH_take (i := 0) (oi := _) (v := ?v3) rfl (by kernel_rfl) (by kernel_rfl) (by kernel_rfl) (fun _ _ _ h => h) (Or.inl ⟨by rfl, ?hy4⟩) hHeld ?rest5
      case hy4 => (intro w hSw; (try dsimp only at hSw); go_simp; (try with_reducible rfl))
      try simp only [Act.put, List.setIfInBounds_toArray, List.set_cons_zero, List.set_cons_succ]
      refine wpAnyH_take (i := 1) (oi := _) (v := ?v6) rfl (by kernel_rfl) (by kernel_rfl) (by kernel_rfl) (fun _ _ _ h => h) (Or.inl ⟨by rfl, ?hy7⟩) hHeld ?rest8
      case hy7 => (intro w hSw; (try dsimp only at hSw); go_simp; (try with_reducible rfl))
      try simp only [Act.put, List.setIfInBounds_toArray, List.set_cons_zero, List.set_cons_succ]
      refine wpAnyH_take (i := 2) (oi := _) (v := ?v9) rfl (by kernel_rfl) (by kernel_rfl) (by kernel_rfl) (fun _ _ _ h => h) (Or.inl ⟨by rfl, ?hy10⟩) hHeld ?rest11
      case hy10 => (intro w hSw; (try dsimp only at hSw); go_simp; (try with_reducible rfl))
      try simp only [Act.put, List.setIfInBounds_toArray, List.set_cons_zero, List.set_cons_succ]
      refine wpAnyH_take (i := 3) (oi := _) (v := ?v12) rfl (by kernel_rfl) (by kernel_rfl) (by kernel_rfl) (fun _ _ _ h => h) (Or.inl ⟨by rfl, ?hy13⟩) hHeld ?rest14
      case hy13 => (intro w hSw; (try dsimp only at hSw); go_simp; (try with_reducible rfl))
      try simp only [Act.put, List.setIfInBounds_toArray, List.set_cons_zero, List.set_cons_succ]
      refine wpAnyH_take (i := 4) (oi := _) (v := ?v15) rfl (by kernel_rfl) (by kernel_rfl) (by kernel_rfl) (fun _ _ _ h => h) (Or.inl ⟨by rfl, ?hy16⟩) hHeld ?rest17
      case hy16 => (intro w hSw; (try dsimp only at hSw); go_simp; (try with_reducible rfl))
      try simp only [Act.put, List.setIfInBounds_toArray, List.set_cons_zero, List.set_cons_succ]
      refine wpAnyH_take (i := 5) (oi := _) (v := ?v18) rfl (by kernel_rfl) (by kernel_rfl) (by kernel_rfl) (fun _ _ _ h => h) (Or.inl ⟨by kernel_rfl, ?hy19⟩) hHeld ?rest20
      case hy19 => (intro w hSw; (try dsimp only at hSw); go_simp; (try with_reducible rfl))
      try simp only [Act.put, List.setIfInBounds_toArray, List.set_cons_zero, List.set_cons_succ]
      refine wpAnyH_take (i := 6) (oi := _) (v := ?v21) rfl (by kernel_rfl) (by kernel_rfl) (by kernel_rfl) (fun _ _ _ h => h) (Or.inl ⟨by kernel_rfl, ?hy22⟩) hHeld ?rest23
      case hy22 => (intro w hSw; (try dsimp only at hSw); go_simp; (try with_reducible rfl))
      try simp only [Act.put, List.setIfInBounds_toArray, List.set_cons_zero, List.set_cons_succ]
      refine wpAnyH_take (i := 7) (oi := _) (v := ?v24) rfl (by kernel_rfl) (by kernel_rfl) (by kernel_rfl) (fun _ _ _ h => h) (Or.inl ⟨by kernel_rfl, ?hy25⟩) hHeld ?rest26
      case hy25 => (intro w hSw; (try dsimp only at hSw); go_simp; (try with_reducible rfl))
      try simp only [Act.put, List.setIfInBounds_toArray, List.set_cons_zero, List.set_cons_succ]
      refine wpAnyH_take (i := 8) (oi := _) (v := ?v27) rfl (by kernel_rfl) (by kernel_rfl) (by kernel_rfl) (fun _ _ _ h => h) (Or.inl ⟨by kernel_rfl, ?hy28⟩) hHeld ?rest29
      case hy28 => (intro w hSw; (try dsimp only at hSw); go_simp; (try with_reducible rfl))
      try simp only [Act.put, List.setIfInBounds_toArray, List.set_cons_zero, List.set_cons_succ]
      refine wpAnyH_take (i := 9) (oi := _) (v := ?v30) rfl (by kernel_rfl) (by kernel_rfl) (by kernel_rfl) (fun _ _ _ h => h) (Or.inl ⟨by kernel_rfl, ?hy31⟩) hHeld ?rest32
      case hy31 => (intro w hSw; (try dsimp only at hSw); go_simp; (try with_reducible rfl))
      try simp only [Act.put, List.setIfInBounds_toArray, List.set_cons_zero, List.set_cons_succ]
      refine wpAnyH_take (i := 10) (oi := _) (v := ?v33) rfl (by kernel_rfl) (by kernel_rfl) (by kernel_rfl) (fun _ _ _ h => h) (Or.inl ⟨by kernel_rfl, ?hy34⟩) hHeld ?rest35
      case hy34 => (intro w hSw; (try dsimp only at hSw); go_simp; (try with_reducible rfl))
      try simp only [Act.put, List.setIfInBounds_toArray, List.set_cons_zero, List.set_cons_succ]
      refine wpAnyH_take (i := 12) (oi := _) (v := ?v36) rfl (by kernel_rfl) (by kernel_rfl) (by kernel_rfl) (fun _ _ _ h => h) (Or.inl ⟨by kernel_rfl, ?hy37⟩) hHeld ?rest38
      case hy37 => (intro w hSw; (try dsimp only at hSw); go_simp; (try with_reducible rfl))
      try simp only [Act.put, List.setIfInBounds_toArray, List.set_cons_zero, List.set_cons_succ]
      refine wpAnyH_ready (rs := [11]) (by kernel_rfl) (by simp) ?_
      refine AllReadyH.cons (o := _) rfl (fun K hK => ?stp57) ?more58
      case stp57 =>
        go_simp
        refine (CF.out _).mono ?_
        rintro e w5 ⟨rfl, hx5⟩
        have k5 : w5.cell? ⟨w.heap.size, 0, none⟩ = some (.int .i64 (k : Int)) := (Below.cell hx5 (p := ⟨w.heap.size, 0, none⟩) hlt3).trans c0
        have hB5 : BB w w5 := BB.next (BB.dr hB3) hx5
        (try go_wp2_with fail)
        refine hK.out _ _ ?hS59 (fun hHeld2 => ?rest60)
        case hS59 => (exact k5)
        clear hK K hHeld
        have hHeld := hHeld2
        clear hHeld2
        try simp only [Act.put, List.setIfInBounds_toArray, List.set_cons_zero, List.set_cons_succ]
        refine wpAnyH_take (i := 13) (oi := _) (v := ?v39) rfl (by kernel_rfl) (by kernel_rfl) (by kernel_rfl) (fun _ _ _ h => h) (Or.inl ⟨by kernel_rfl, ?hy40⟩) hHeld ?rest41
        case hy40 => (intro w hSw; (try dsimp only at hSw); go_simp; (try with_reducible rfl))
        try simp only [Act.put, List.setIfInBounds_toArray, List.set_cons_zero, List.set_cons_succ]
        refine wpAnyH_take (i := 14) (oi := _) (v := ?v42) rfl (by kernel_rfl) (by kernel_rfl) (by kernel_rfl) (fun _ _ _ h => h) (Or.inl ⟨by rfl, ?hy43⟩) hHeld ?rest44
        case hy43 => (intro w hSw; (try dsimp only at hSw); go_simp; (try with_reducible rfl))
        try simp only [Act.put, List.setIfInBounds_toArray, List.set_cons_zero, List.set_cons_succ]
        refine wpAnyH_ready (rs := [15]) (by kernel_rfl) (by simp) ?_
        refine AllReadyH.cons (o := _) rfl (fun K hK => ?stp53) ?more54
        case stp53 =>
          go_simp
          refine hK.out _ _ ?hS55 (fun hHeld2 => ?rest56)
          case hS55 => (exact hHeld)
          clear hK K hHeld
          have hHeld := hHeld2
          clear hHeld2
          try simp only [Act.put, List.setIfInBounds_toArray, List.set_cons_zero, List.set_cons_succ]
          refine wpAnyH_ready (rs := [16]) (by kernel_rfl) (by simp) ?_
          refine AllReadyH.cons (o := _) rfl (fun K hK => ?stp49) ?more50
          case stp49 =>
            go_simp
            refine hK.out _ _ ?hS51 (fun hHeld2 => ?rest52)
            case hS51 => (exact hHeld)
            clear hK K hHeld
            have hHeld := hHeld2
            clear hHeld2
            try simp only [Act.put, List.setIfInBounds_toArray, List.set_cons_zero, List.set_cons_succ]
            refine wpAnyH_ready (rs := [17]) (by kernel_rfl) (by simp) ?_
            refine AllReadyH.cons (o := _) rfl (fun K hK => ?stp45) ?more46
            case stp45 =>
              go_simp
              refine hK.out _ _ ?hS47 (fun hHeld2 => ?rest48)
              case hS47 => (exact hHeld)
              clear hK K hHeld
              have hHeld := hHeld2
              clear hHeld2
              try simp only [Act.put, List.setIfInBounds_toArray, List.set_cons_zero, List.set_cons_succ]
              refine wpAnyH_done (by kernel_rfl) ?_ _
              go_wp2_with fail
              go_ret3
              rw [HPV.out]
              exact ⟨rfl, hB5⟩
            exact AllReadyH.nil
          exact AllReadyH.nil
        exact AllReadyH.nil
      exact AllReadyH.nil
end Go.Proofs.YtlfmpgfobkmgfaaGreatDoor
namespace Go.Proofs.YtlfmpgfobkmgfaaGreatDoor
open Go.RowKit Go.Deep
set_option linter.unusedVariables false
set_option linter.unusedSimpArgs false

theorem modulo_a (n a b : Nat) (w : World) (h0 : 0 < n) (hn : n ≤ 8000) (ha : a < n) (hb : b < n) :
    Calls Tryz.prog 59 #[.int .i64 ((b : Int) - (a : Int)), .int .i64 (n : Int)] w fun e w' => e = .returned (.int .i64 (((b + n - a) % n : Nat) : Int)) ∧ w = w' := by
  obtain ⟨r, hr⟩ : ∃ r, (b + n - a) % n = r := ⟨_, rfl⟩
  have hnz : ((n : Int) == 0) = false := by rw [beq_eq_false_iff_ne]; omega
  have hnn : ¬ n = 0 := by omega
  have hni : ¬ (n : Int) = 0 := by omega
  have h1 : ((b : Int) - (a : Int)).tmod (n : Int) = (b : Int) - (a : Int) := by
    by_cases h : a ≤ b
    · rw [show (b : Int) - (a : Int) = ((b - a : Nat) : Int) by omega, rem_nat, Nat.mod_eq_of_lt (by omega)]
    · rw [show (b : Int) - (a : Int) = -((a - b : Nat) : Int) by omega, Int.neg_tmod, rem_nat, Nat.mod_eq_of_lt (by omega)]
  have hw0 : IntKind.i64.wrap ((b : Int) - (a : Int)) = (b : Int) - (a : Int) := IntWalk.i64_in _ (by omega)
  have hw1 : IntKind.i64.wrap ((b : Int) - (a : Int) + (n : Int)) = (b : Int) - (a : Int) + (n : Int) := IntWalk.i64_in _ (by omega)
  have h2 : ((b : Int) - (a : Int) + (n : Int)).tmod (n : Int) = (r : Int) := by
    rw [show (b : Int) - (a : Int) + (n : Int) = ((b + n - a : Nat) : Int) by omega, rem_nat, hr]
  have h3 : ((b : Int) - (a : Int) + (n : Int)) % (n : Int) = (r : Int) := by
    rw [show (b : Int) - (a : Int) + (n : Int) = ((b + n - a : Nat) : Int) by omega, ← Int.natCast_emod, hr]
  have hrn : r < n := by rw [← hr]; exact Nat.mod_lt _ h0
  have hw2 : IntKind.i64.wrap (r : Int) = (r : Int) := IntWalk.i64_in _ (by omega)
  rw [hr]
  clear hr
  go_enter Tryz.func59, Tryz.ntmps59
  go_wp2
  go_ret
  exact ⟨rfl, rfl⟩
def dmW : Option Nat → Value
  | none => .tuple #[.int .i64 0, .bool false]
  | some j => .tuple #[.int .i64 (j : Int), .bool true]

set_option maxRecDepth 100000 in
set_option maxHeartbeats 4000000 in
theorem dataMark_a (s : ByteArray) (n : Nat) (ms : List MK) (A : Option Addr) (q i : Nat) (w : World) (hr : Rd w w.heap.size 3 A ms.length (flat fM ms)) (hi : i < ms.length) (hl : ms.length ≤ 100000) (h0 : 0 < n) (hn : n ≤ 8000) (hms : inM n ms) (hsn : s.size = n) :
    Calls Tryz.prog 38 #[.string s, .slice A ms.length q, .int .i64 (i : Int)] w fun e w' => e = .returned (dmW (dmF n ms i)) ∧ ∃ k, w' = w.drewN k := by
  obtain ⟨j, hj⟩ : ∃ j, nxD ms i = j := ⟨_, rfl⟩
  have hjl : j < ms.length := by rw [← hj]; exact nxD_lt hi
  obtain ⟨b, off, rfl, hb0, hci⟩ := hr.at_ fM_len rfl i hi
  obtain ⟨b', off', he, hb0', hcj⟩ := hr.at_ fM_len rfl j hjl
  cases he
  rw [mkD_get hi] at hci
  rw [mkD_get hjl] at hcj
  obtain ⟨hki, hpi, hbi⟩ := inM_at hms hi
  obtain ⟨hkj, hpj, hbj⟩ := inM_at hms hjl
  obtain ⟨⟨ki, pi, bi⟩, hmi⟩ : ∃ m, mkD ms i = m := ⟨_, rfl⟩
  obtain ⟨⟨kj, pj, bj⟩, hmj⟩ : ∃ m, mkD ms j = m := ⟨_, rfl⟩
  obtain ⟨R, hR⟩ : ∃ R, dmW (dmF n ms i) = R := ⟨_, rfl⟩
  rw [hR]
  have HR := Lib.hid (show dmW (if kj = 1 ∨ 320 < (pj + n - bi) % n then none else some j) = R by
    rw [← hR]
    unfold dmF
    rw [hj, hmi, hmj])
  rw [hmi] at hci hki hpi hbi
  rw [hmj] at hcj hkj hpj hbj
  have hc2 := hci 2 _ (by omega) rfl
  have hd0 := hcj 0 _ (by omega) rfl
  have hd1 := hcj 1 _ (by omega) rfl
  simp only [← Nat.add_assoc, Nat.add_zero] at hc2 hd0 hd1
  dsimp only at hki hpi hbi hkj hpj hbj
  clear hci hcj hmi hmj hR hms
  obtain ⟨N, hN⟩ : ∃ N, ms.length = N := ⟨_, rfl⟩
  have hjm : (i + 1) % N = j := by rw [← hj, ← hN]; rfl
  rw [hN] at hi hjl hl ⊢
  clear hj hN hr
  have hw0 : IntKind.i64.wrap ((i : Int) + 1) = (i : Int) + 1 := IntWalk.i64_in _ (by omega)
  have hrm : ((i : Int) + 1).tmod (N : Int) = (j : Int) := by rw [show (i : Int) + 1 = ((i + 1 : Nat) : Int) by omega, rem_nat, hjm]
  have hwr : IntKind.i64.wrap (j : Int) = (j : Int) := IntWalk.i64_in _ (by omega)
  have hnz : ¬ (N : Int) = 0 := by omega
  have hnn : ¬ N = 0 := by omega
  have hnz2 : ((N : Int) == 0) = false := by rw [beq_eq_false_iff_ne]; omega
  obtain ⟨r, hrr⟩ : ∃ r, (pj + n - bi) % n = r := ⟨_, rfl⟩
  have cb := fun W => modulo_a n bi pj W h0 hn hbi hpj
  have hwx : IntKind.i64.wrap ((pj : Int) - (bi : Int)) = (pj : Int) - (bi : Int) := IntWalk.i64_in _ (by omega)
  have sz := fun W => sizeM_a (some ⟨b, off, none⟩) N q W hl
  have hsni : (s.size : Int) = (n : Int) := by rw [hsn]
  have hwn : IntKind.i64.wrap (n : Int) = (n : Int) := IntWalk.i64_in _ (by omega)
  have hrm2 : ((i : Int) + 1) % (N : Int) = (j : Int) := by rw [show (i : Int) + 1 = ((i + 1 : Nat) : Int) by omega, ← Int.natCast_emod, hjm]
  rw [hrr] at cb HR
  clear hrr hjm
  by_cases h1 : kj = 1
  · have e1 : ((kj : Int) == 1) = true := by rw [h1]; rfl
    have HN := Lib.hid (show dmW none = R by rw [← HR.out, if_pos (.inl h1)])
    clear h1 hkj
    go_enter Tryz.func38, Tryz.ntmps38
    go_wp2_with (go_at_call 58; (with_reducible refine (sz _).mono ?_); rintro e w9 ⟨rfl, rfl⟩)
    go_quiet (fail)
    go_wp2
    go_ret2
    exact ⟨by rw [← HN.out]; rfl, _, rfl⟩
  · have e1 : ((kj : Int) == 1) = false := by rw [beq_eq_false_iff_ne]; omega
    have HK := Lib.hid h1
    clear h1 hkj
    by_cases h2 : 320 < r
    · have e2 : decide ((320 : Int) < (r : Int)) = true := decide_eq_true (by omega)
      have HN := Lib.hid (show dmW none = R by rw [← HR.out, if_pos (.inr h2)])
      go_enter Tryz.func38, Tryz.ntmps38
      go_wp2_with (go_at_call 58; (with_reducible refine (sz _).mono ?_); rintro e w9 ⟨rfl, rfl⟩)
      go_quiet ((go_at_call 59; with_reducible exact quiet_left (cb _)))
      go_wp2
      go_ret2
      exact ⟨by rw [← HN.out]; rfl, _, rfl⟩
    · have e2 : decide ((320 : Int) < (r : Int)) = false := decide_eq_false (by omega)
      have HN := Lib.hid (show dmW (some j) = R by rw [← HR.out, if_neg (by rintro (h | h); exact HK.out h; exact h2 h)])
      go_enter Tryz.func38, Tryz.ntmps38
      go_wp2_with (go_at_call 58; (with_reducible refine (sz _).mono ?_); rintro e w9 ⟨rfl, rfl⟩)
      go_quiet ((go_at_call 59; with_reducible exact quiet_left (cb _)))
      go_wp2
      go_ret2
      exact ⟨by rw [← HN.out]; rfl, _, rfl⟩
end Go.Proofs.YtlfmpgfobkmgfaaGreatDoor
