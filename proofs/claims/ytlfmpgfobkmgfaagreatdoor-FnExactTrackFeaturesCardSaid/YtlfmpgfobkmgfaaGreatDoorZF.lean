/- Walks: the texts Y14 as one text. -/
import Derived.Test.YtlfmpgfobkmgfaaGreatDoorZE
namespace Go.Proofs.YtlfmpgfobkmgfaaGreatDoor
open Go.RowKit Go.Deep
set_option linter.unusedVariables false
set_option linter.unusedSimpArgs false

set_option maxRecDepth 100000 in
set_option maxHeartbeats 8000000 in
theorem readSector_a (f : Int) (s : ByteArray) (ms : List MK) (A : Option Addr) (q i : Nat) (w : World) (hf : f = 1 ∨ f = 2 ∨ f = 3) (hG : GG w) (h0 : 0 < s.size) (hs : s.size ≤ 8000) (hbits : bitsB (bl s)) (hr : Rd w w.heap.size 3 A ms.length (flat fM ms)) (hi : i < ms.length) (hl : ms.length ≤ 100000) (hms : inM s.size ms) :
    Calls Tryz.prog 25 #[.string s, .int .i64 f, .slice A ms.length q, .int .i64 (i : Int)] w fun e w' => e = .returned (vFound (secF f (bl s) ms i)) ∧ Below w.heap.size w w' := by
  have hcn := blen s
  obtain ⟨b, off, rfl, hb0, hci⟩ := hr.at_ fM_len rfl i hi
  rw [mkD_get hi] at hci
  obtain ⟨hki, hpi, hbi⟩ := inM_at hms hi
  have fl := fun W hW => fieldAt_a f s (mkD ms i).1 (mkD ms i).2.1 (mkD ms i).2.2 4 W hf h0 hs hbits hki hbi (by omega) hW
  obtain ⟨⟨ki, pi, bi⟩, hmi⟩ : ∃ m, mkD ms i = m := ⟨_, rfl⟩
  rw [hmi] at hci hki hpi hbi fl
  rw [show ((4 : Nat) : Int) = 4 from rfl] at fl
  obtain ⟨R, hR⟩ : ∃ R, secF f (bl s) ms i = R := ⟨_, rfl⟩
  rw [hR]
  have HMI := Lib.hid hmi
  have HR := Lib.hid hR
  have hc0 := hci 0 _ (by omega) rfl
  have hc1 := hci 1 _ (by omega) rfl
  have hc2 := hci 2 _ (by omega) rfl
  simp only [← Nat.add_assoc, Nat.add_zero] at hc0 hc1 hc2
  dsimp only at hki hpi hbi fl
  clear hci hR hmi
  have D0 := ZX.made w [.int .i64 0, .int .i64 0, .int .i64 0, .int .i64 0, .string ⟨#[]⟩, .int .i64 2, .bool false, .int .i64 (pi : Int)]
  have kk0 := (Below.alloc (Below.refl w.heap.size w) (Nat.le_refl _) (.cells zF.toArray 45)).cell (p := ⟨b, off + i * 3, none⟩) hb0
  obtain ⟨H, hH⟩ : ∃ H, fldL f (bl s) ki bi 4 = H := ⟨_, rfl⟩
  rw [hH] at fl
  have HH := Lib.hid hH
  go_enter Tryz.func25, Tryz.ntmps25
  go_upto_region 2 with fail
  have D1 : ZX w ((w.alloc (.cells #[.int .i64 0, .int .i64 0, .int .i64 0, .int .i64 0, .string ⟨#[]⟩, .int .i64 0, .bool false, .int .i64 0] 45)).alloc (.cells #[.int .i64 0, .int .i64 0, .int .i64 0, .int .i64 0, .string ⟨#[]⟩, .int .i64 2, .bool false, .int .i64 (pi : Int)] 45)) _ := D0
  clear D0
  generalize ((w.alloc (.cells #[.int .i64 0, .int .i64 0, .int .i64 0, .int .i64 0, .string ⟨#[]⟩, .int .i64 0, .bool false, .int .i64 0] 45)).alloc (.cells #[.int .i64 0, .int .i64 0, .int .i64 0, .int .i64 0, .string ⟨#[]⟩, .int .i64 2, .bool false, .int .i64 (pi : Int)] 45)) = W1 at D1 ⊢
  have hG1 := hG.bb D1.B
  have y0 := (D1.B.cell (p := ⟨b, off + i * 3, none⟩) hb0).trans hc0
  have y1 := (D1.B.cell (p := ⟨b, off + i * 3 + 1, none⟩) hb0).trans hc1
  have y2 := (D1.B.cell (p := ⟨b, off + i * 3 + 2, none⟩) hb0).trans hc2
  clear hc0 hc1 hc2
  rcases H with _ | ⟨l, ok⟩
  · have HN := Lib.hid (show (⟨0, 0, 0, 0, ⟨#[]⟩, 2, false, (pi : Int)⟩ : DFound) = R by rw [← HR.out]; unfold secF; rw [HMI.out, HH.out])
    dsimp only [fldV] at fl
    go_wp2_with (go_at_call 37; (with_reducible refine (fl _ hG1).mono ?_); rintro e w2 ⟨rfl, hx2⟩; have D2 := D1.next hx2; have z0 : (_ : Option Value) = some (.int .i64 0) := D2.Z.cell 0 (by simp [zF]); have z1 : (_ : Option Value) = some (.int .i64 0) := D2.Z.cell 1 (by simp [zF]); have z2 : (_ : Option Value) = some (.int .i64 0) := D2.Z.cell 2 (by simp [zF]); have z3 : (_ : Option Value) = some (.int .i64 0) := D2.Z.cell 3 (by simp [zF]); have z4 : (_ : Option Value) = some (.string ⟨#[]⟩) := D2.Z.cell 4 (by simp [zF]); have z5 : (_ : Option Value) = some (.int .i64 0) := D2.Z.cell 5 (by simp [zF]); have z6 : (_ : Option Value) = some (.bool false) := D2.Z.cell 6 (by simp [zF]); have z7 : (_ : Option Value) = some (.int .i64 0) := D2.Z.cell 7 (by simp [zF]); have hfz := fun j => D2.Z.free j; have x0 : (_ : Option Value) = some (.int .i64 0) := D2.F.cell 0 (by simp); have x1 : (_ : Option Value) = some (.int .i64 0) := D2.F.cell 1 (by simp); have x2 : (_ : Option Value) = some (.int .i64 0) := D2.F.cell 2 (by simp); have x3 : (_ : Option Value) = some (.int .i64 0) := D2.F.cell 3 (by simp); have x4 : (_ : Option Value) = some (.string ⟨#[]⟩) := D2.F.cell 4 (by simp); have x5 : (_ : Option Value) = some (.int .i64 2) := D2.F.cell 5 (by simp); have x6 : (_ : Option Value) = some (.bool false) := D2.F.cell 6 (by simp); have x7 : (_ : Option Value) = some (.int .i64 (pi : Int)) := D2.F.cell 7 (by simp); have hfx := fun j => D2.F.free j)
    refine bodyPost_ret (v := vFound ⟨0, 0, 0, 0, ⟨#[]⟩, 2, false, (pi : Int)⟩) (by simp [results, Tryz.results25, go_sem, World.cell?_setCell_other, z0, z1, z2, z3, z4, z5, z6, z7, vFound]) rfl ⟨by rw [HN.out], bb8 D2.B _ _ _ _ _ _ _ _⟩
  · dsimp only [fldV] at fl
    have hll := fld_len hH
    obtain ⟨y, hy⟩ : ∃ y, str1 l = y := ⟨_, rfl⟩
    have hys : y.size = 4 := by rw [← hy, str1_size, hll]
    have e0 : y[0]'(by omega) = l.getD 0 0 := by subst hy; exact str1_get l 0 _
    have e1 : y[1]'(by omega) = l.getD 1 0 := by subst hy; exact str1_get l 1 _
    have e2 : y[2]'(by omega) = l.getD 2 0 := by subst hy; exact str1_get l 2 _
    have e3 : y[3]'(by omega) = l.getD 3 0 := by subst hy; exact str1_get l 3 _
    obtain ⟨b0, hb0'⟩ : ∃ x, l.getD 0 0 = x := ⟨_, rfl⟩
    obtain ⟨b1, hb1'⟩ : ∃ x, l.getD 1 0 = x := ⟨_, rfl⟩
    obtain ⟨b2, hb2'⟩ : ∃ x, l.getD 2 0 = x := ⟨_, rfl⟩
    obtain ⟨b3, hb3'⟩ : ∃ x, l.getD 3 0 = x := ⟨_, rfl⟩
    have HR1 := Lib.hid (show (if ok = false ∨ 2 < b3.toNat then ⟨b0.toNat, b1.toNat, b2.toNat, b3.toNat, ⟨#[]⟩, 2, false, (pi : Int)⟩
      else match dmF s.size ms i with
        | none => ⟨b0.toNat, b1.toNat, b2.toNat, b3.toNat, ⟨#[]⟩, 4, false, (pi : Int)⟩
        | some j => match fldL f (bl s) (mkD ms j).1 (mkD ms j).2.2 (8 * 2 ^ b3.toNat) with
          | none => ⟨b0.toNat, b1.toNat, b2.toNat, b3.toNat, ⟨#[]⟩, 4, false, (pi : Int)⟩
          | some (d, ok2) => (⟨b0.toNat, b1.toNat, b2.toNat, b3.toNat, str1 d, if ok2 = true then 1 else 3, (mkD ms j).1 == 3, (pi : Int)⟩ : DFound)) = R by
      have h := HR.out
      unfold secF at h
      rw [HMI.out] at h
      dsimp only at h
      rw [HH.out] at h
      dsimp only at h
      unfold gD at h
      rw [hb0', hb1', hb2', hb3', hcn] at h
      exact h)
    rw [hy] at fl
    rw [hb0'] at e0
    rw [hb1'] at e1
    rw [hb2'] at e2
    rw [hb3'] at e3
    have hb0l := b0.toNat_lt
    have hb1l := b1.toNat_lt
    have hb2l := b2.toNat_lt
    have hb3l := b3.toNat_lt
    clear hy hb0' hb1' hb2' hb3' hH HR HH HMI hll
    go_upto_region 5 with (go_at_call 37; (with_reducible refine (fl _ hG1).mono ?_); rintro e w2 ⟨rfl, hx2⟩; have D2 := D1.next hx2; have z0 : (_ : Option Value) = some (.int .i64 0) := D2.Z.cell 0 (by simp [zF]); have z1 : (_ : Option Value) = some (.int .i64 0) := D2.Z.cell 1 (by simp [zF]); have z2 : (_ : Option Value) = some (.int .i64 0) := D2.Z.cell 2 (by simp [zF]); have z3 : (_ : Option Value) = some (.int .i64 0) := D2.Z.cell 3 (by simp [zF]); have z4 : (_ : Option Value) = some (.string ⟨#[]⟩) := D2.Z.cell 4 (by simp [zF]); have z5 : (_ : Option Value) = some (.int .i64 0) := D2.Z.cell 5 (by simp [zF]); have z6 : (_ : Option Value) = some (.bool false) := D2.Z.cell 6 (by simp [zF]); have z7 : (_ : Option Value) = some (.int .i64 0) := D2.Z.cell 7 (by simp [zF]); have hfz := fun j => D2.Z.free j; have x0 : (_ : Option Value) = some (.int .i64 0) := D2.F.cell 0 (by simp); have x1 : (_ : Option Value) = some (.int .i64 0) := D2.F.cell 1 (by simp); have x2 : (_ : Option Value) = some (.int .i64 0) := D2.F.cell 2 (by simp); have x3 : (_ : Option Value) = some (.int .i64 0) := D2.F.cell 3 (by simp); have x4 : (_ : Option Value) = some (.string ⟨#[]⟩) := D2.F.cell 4 (by simp); have x5 : (_ : Option Value) = some (.int .i64 2) := D2.F.cell 5 (by simp); have x6 : (_ : Option Value) = some (.bool false) := D2.F.cell 6 (by simp); have x7 : (_ : Option Value) = some (.int .i64 (pi : Int)) := D2.F.cell 7 (by simp); have hfx := fun j => D2.F.free j)
    have hGk := hG.bb D2.B
    clear z0 z1 z2 z3 z4 z5 z6 z7 hfz hx2 D1 fl y0 y1 y2 hG1
    have hcv0 : IntKind.i64.wrap (b0.toNat : Int) = (b0.toNat : Int) := IntWalk.i64_in _ (by omega)
    have hcv1 : IntKind.i64.wrap (b1.toNat : Int) = (b1.toNat : Int) := IntWalk.i64_in _ (by omega)
    have hcv2 : IntKind.i64.wrap (b2.toNat : Int) = (b2.toNat : Int) := IntWalk.i64_in _ (by omega)
    have hcv3 : IntKind.i64.wrap (b3.toNat : Int) = (b3.toNat : Int) := IntWalk.i64_in _ (by omega)
    have hfx : ∀ j, w2.drew.frozen? ⟨w.heap.size + 1, j, none⟩ = false := fun j => D2.dr.F.free j
    refine wp_region_held_drew (S := (fun _ => True)) (by kernel_rfl) ?hS523 (fun hHeld => ?rest524)
    case hS523 => (exact trivial)
    refine wpAnyH_take (i := 0) (oi := _) (v := ?v525) rfl (by kernel_rfl) (by kernel_rfl) (by kernel_rfl) (fun _ _ _ h => h) (Or.inl ⟨by rfl, ?hy526⟩) hHeld ?rest527
    case hy526 => (intro w hSw; (try dsimp only at hSw); go_simp; (try with_reducible rfl))
    try simp only [Act.put, List.setIfInBounds_toArray, List.set_cons_zero, List.set_cons_succ]
    refine wpAnyH_take (i := 1) (oi := _) (v := ?v528) rfl (by kernel_rfl) (by kernel_rfl) (by kernel_rfl) (fun _ _ _ h => h) (Or.inl ⟨by rfl, ?hy529⟩) hHeld ?rest530
    case hy529 => (intro w hSw; (try dsimp only at hSw); go_simp; (try with_reducible rfl))
    try simp only [Act.put, List.setIfInBounds_toArray, List.set_cons_zero, List.set_cons_succ]
    refine wpAnyH_take (i := 2) (oi := _) (v := ?v531) rfl (by kernel_rfl) (by kernel_rfl) (by kernel_rfl) (fun _ _ _ h => h) (Or.inl ⟨by rfl, ?hy532⟩) hHeld ?rest533
    case hy532 => (intro w hSw; (try dsimp only at hSw); go_simp; (try with_reducible rfl))
    try simp only [Act.put, List.setIfInBounds_toArray, List.set_cons_zero, List.set_cons_succ]
    refine wpAnyH_take (i := 3) (oi := _) (v := ?v534) rfl (by kernel_rfl) (by kernel_rfl) (by kernel_rfl) (fun _ _ _ h => h) (Or.inl ⟨by rfl, ?hy535⟩) hHeld ?rest536
    case hy535 => (intro w hSw; (try dsimp only at hSw); go_simp; (try with_reducible rfl))
    try simp only [Act.put, List.setIfInBounds_toArray, List.set_cons_zero, List.set_cons_succ]
    refine wpAnyH_take (i := 4) (oi := _) (v := ?v537) rfl (by kernel_rfl) (by kernel_rfl) (by kernel_rfl) (fun _ _ _ h => h) (Or.inl ⟨by rfl, ?hy538⟩) hHeld ?rest539
    case hy538 => (intro w hSw; (try dsimp only at hSw); go_simp; (try with_reducible rfl))
    try simp only [Act.put, List.setIfInBounds_toArray, List.set_cons_zero, List.set_cons_succ]
    refine wpAnyH_take (i := 5) (oi := _) (v := ?v540) rfl (by kernel_rfl) (by kernel_rfl) (by kernel_rfl) (fun _ _ _ h => h) (Or.inl ⟨by rfl, ?hy541⟩) hHeld ?rest542
    case hy541 => (intro w hSw; (try dsimp only at hSw); go_simp; (try with_reducible rfl))
    try simp only [Act.put, List.setIfInBounds_toArray, List.set_cons_zero, List.set_cons_succ]
    refine wpAnyH_take (i := 6) (oi := _) (v := ?v543) rfl (by kernel_rfl) (by kernel_rfl) (by kernel_rfl) (fun _ _ _ h => h) (Or.inl ⟨by rfl, ?hy544⟩) hHeld ?rest545
    case hy544 => (intro w hSw; (try dsimp only at hSw); go_simp; (try with_reducible rfl))
    try simp only [Act.put, List.setIfInBounds_toArray, List.set_cons_zero, List.set_cons_succ]
    refine wpAnyH_take (i := 7) (oi := _) (v := ?v546) rfl (by kernel_rfl) (by kernel_rfl) (by kernel_rfl) (fun _ _ _ h => h) (Or.inl ⟨by rfl, ?hy547⟩) hHeld ?rest548
    case hy547 => (intro w hSw; (try dsimp only at hSw); go_simp; (try with_reducible rfl))
    try simp only [Act.put, List.setIfInBounds_toArray, List.set_cons_zero, List.set_cons_succ]
    refine wpAnyH_take (i := 8) (oi := _) (v := ?v549) rfl (by kernel_rfl) (by kernel_rfl) (by kernel_rfl) (fun _ _ _ h => h) (Or.inl ⟨by rfl, ?hy550⟩) hHeld ?rest551
    case hy550 => (intro w hSw; (try dsimp only at hSw); go_simp; (try with_reducible rfl))
    try simp only [Act.put, List.setIfInBounds_toArray, List.set_cons_zero, List.set_cons_succ]
    refine wpAnyH_take (i := 9) (oi := _) (v := ?v552) rfl (by kernel_rfl) (by kernel_rfl) (by kernel_rfl) (fun _ _ _ h => h) (Or.inl ⟨by rfl, ?hy553⟩) hHeld ?rest554
    case hy553 => (intro w hSw; (try dsimp only at hSw); go_simp; (try with_reducible rfl))
    try simp only [Act.put, List.setIfInBounds_toArray, List.set_cons_zero, List.set_cons_succ]
    refine wpAnyH_take (i := 10) (oi := _) (v := ?v555) rfl (by kernel_rfl) (by kernel_rfl) (by kernel_rfl) (fun _ _ _ h => h) (Or.inl ⟨by rfl, ?hy556⟩) hHeld ?rest557
    case hy556 => (intro w hSw; (try dsimp only at hSw); go_simp; (try with_reducible rfl))
    try simp only [Act.put, List.setIfInBounds_toArray, List.set_cons_zero, List.set_cons_succ]
    refine wpAnyH_take (i := 11) (oi := _) (v := ?v558) rfl (by kernel_rfl) (by kernel_rfl) (by kernel_rfl) (fun _ _ _ h => h) (Or.inl ⟨by rfl, ?hy559⟩) hHeld ?rest560
    case hy559 => (intro w hSw; (try dsimp only at hSw); go_simp; (try with_reducible rfl))
    try simp only [Act.put, List.setIfInBounds_toArray, List.set_cons_zero, List.set_cons_succ]
    refine wpAnyH_take (i := 12) (oi := _) (v := ?v561) rfl (by kernel_rfl) (by kernel_rfl) (by kernel_rfl) (fun _ _ _ h => h) (Or.inl ⟨by rfl, ?hy562⟩) hHeld ?rest563
    case hy562 => (intro w hSw; (try dsimp only at hSw); go_simp; (try with_reducible rfl))
    try simp only [Act.put, List.setIfInBounds_toArray, List.set_cons_zero, List.set_cons_succ]
    refine wpAnyH_ready (rs := [13]) (by kernel_rfl) (by simp) ?_
    refine AllReadyH.cons (o := _) rfl (fun K hK => ?stp585) ?more586
    case stp585 =>
      go_simp
      refine hK.out _ _ ?hS587 (fun hHeld2 => ?rest588)
      case hS587 => (exact trivial)
      clear hK K hHeld
      have hHeld := hHeld2
      clear hHeld2
      try simp only [Act.put, List.setIfInBounds_toArray, List.set_cons_zero, List.set_cons_succ]
      refine wpAnyH_take (i := 14) (oi := _) (v := ?v564) rfl (by kernel_rfl) (by kernel_rfl) (by kernel_rfl) (fun _ _ _ h => h) (Or.inl ⟨by rfl, ?hy565⟩) hHeld ?rest566
      case hy565 => (intro w hSw; (try dsimp only at hSw); go_simp; (try with_reducible rfl))
      try simp only [Act.put, List.setIfInBounds_toArray, List.set_cons_zero, List.set_cons_succ]
      refine wpAnyH_ready (rs := [15]) (by kernel_rfl) (by simp) ?_
      refine AllReadyH.cons (o := _) rfl (fun K hK => ?stp581) ?more582
      case stp581 =>
        go_simp
        refine hK.out _ _ ?hS583 (fun hHeld2 => ?rest584)
        case hS583 => (exact trivial)
        clear hK K hHeld
        have hHeld := hHeld2
        clear hHeld2
        try simp only [Act.put, List.setIfInBounds_toArray, List.set_cons_zero, List.set_cons_succ]
        refine wpAnyH_take (i := 16) (oi := _) (v := ?v567) rfl (by kernel_rfl) (by kernel_rfl) (by kernel_rfl) (fun _ _ _ h => h) (Or.inl ⟨by rfl, ?hy568⟩) hHeld ?rest569
        case hy568 => (intro w hSw; (try dsimp only at hSw); go_simp; (try with_reducible rfl))
        try simp only [Act.put, List.setIfInBounds_toArray, List.set_cons_zero, List.set_cons_succ]
        refine wpAnyH_ready (rs := [17]) (by kernel_rfl) (by simp) ?_
        refine AllReadyH.cons (o := _) rfl (fun K hK => ?stp577) ?more578
        case stp577 =>
          go_simp
          refine hK.out _ _ ?hS579 (fun hHeld2 => ?rest580)
          case hS579 => (exact trivial)
          clear hK K hHeld
          have hHeld := hHeld2
          clear hHeld2
          try simp only [Act.put, List.setIfInBounds_toArray, List.set_cons_zero, List.set_cons_succ]
          refine wpAnyH_take (i := 18) (oi := _) (v := ?v570) rfl (by kernel_rfl) (by kernel_rfl) (by kernel_rfl) (fun _ _ _ h => h) (Or.inl ⟨by rfl, ?hy571⟩) hHeld ?rest572
          case hy571 => (intro w hSw; (try dsimp only at hSw); go_simp; (try with_reducible rfl))
          try simp only [Act.put, List.setIfInBounds_toArray, List.set_cons_zero, List.set_cons_succ]
          refine wpAnyH_ready (rs := [19]) (by kernel_rfl) (by simp) ?_
          refine AllReadyH.cons (o := _) rfl (fun K hK => ?stp573) ?more574
          case stp573 =>
            go_simp
            refine hK.out _ _ ?hS575 (fun hHeld2 => ?rest576)
            case hS575 => (exact trivial)
            clear hK K hHeld
            have hHeld := hHeld2
            clear hHeld2
            try simp only [Act.put, List.setIfInBounds_toArray, List.set_cons_zero, List.set_cons_succ]
            refine wpAnyH_done (by kernel_rfl) ?_ _
            have D3 : ZX w (((((w2.setCell ⟨w.heap.size + 1, 0, none⟩ (.int .i64 (b0.toNat : Int))).setCell ⟨w.heap.size + 1, 1, none⟩ (.int .i64 (b1.toNat : Int))).setCell ⟨w.heap.size + 1, 2, none⟩ (.int .i64 (b2.toNat : Int))).setCell ⟨w.heap.size + 1, 3, none⟩ (.int .i64 (b3.toNat : Int))).drew) [.int .i64 (b0.toNat : Int), .int .i64 (b1.toNat : Int), .int .i64 (b2.toNat : Int), .int .i64 (b3.toNat : Int), .string ⟨#[]⟩, .int .i64 2, .bool false, .int .i64 (pi : Int)] := ((((D2.put 0 _).put 1 _).put 2 _).put 3 _).dr
            clear x0 x1 x2 x3 x4 x5 x6 x7 hfx D2 e0 e1 e2 e3 hcv0 hcv1 hcv2 hcv3
            generalize (((((w2.setCell ⟨w.heap.size + 1, 0, none⟩ (.int .i64 (b0.toNat : Int))).setCell ⟨w.heap.size + 1, 1, none⟩ (.int .i64 (b1.toNat : Int))).setCell ⟨w.heap.size + 1, 2, none⟩ (.int .i64 (b2.toNat : Int))).setCell ⟨w.heap.size + 1, 3, none⟩ (.int .i64 (b3.toNat : Int))).drew) = W3 at D3 ⊢
            have z0 : (_ : Option Value) = some (.int .i64 0) := D3.Z.cell 0 (by simp [zF])
            have z1 : (_ : Option Value) = some (.int .i64 0) := D3.Z.cell 1 (by simp [zF])
            have z2 : (_ : Option Value) = some (.int .i64 0) := D3.Z.cell 2 (by simp [zF])
            have z3 : (_ : Option Value) = some (.int .i64 0) := D3.Z.cell 3 (by simp [zF])
            have z4 : (_ : Option Value) = some (.string ⟨#[]⟩) := D3.Z.cell 4 (by simp [zF])
            have z5 : (_ : Option Value) = some (.int .i64 0) := D3.Z.cell 5 (by simp [zF])
            have z6 : (_ : Option Value) = some (.bool false) := D3.Z.cell 6 (by simp [zF])
            have z7 : (_ : Option Value) = some (.int .i64 0) := D3.Z.cell 7 (by simp [zF])
            have hfz := fun j => D3.Z.free j
            have x0 : (_ : Option Value) = some (.int .i64 (b0.toNat : Int)) := D3.F.cell 0 (by simp)
            have x1 : (_ : Option Value) = some (.int .i64 (b1.toNat : Int)) := D3.F.cell 1 (by simp)
            have x2 : (_ : Option Value) = some (.int .i64 (b2.toNat : Int)) := D3.F.cell 2 (by simp)
            have x3 : (_ : Option Value) = some (.int .i64 (b3.toNat : Int)) := D3.F.cell 3 (by simp)
            have x4 : (_ : Option Value) = some (.string ⟨#[]⟩) := D3.F.cell 4 (by simp)
            have x5 : (_ : Option Value) = some (.int .i64 2) := D3.F.cell 5 (by simp)
            have x6 : (_ : Option Value) = some (.bool false) := D3.F.cell 6 (by simp)
            have x7 : (_ : Option Value) = some (.int .i64 (pi : Int)) := D3.F.cell 7 (by simp)
            have hfx := fun j => D3.F.free j
            have hstop : ok = false ∨ 2 < b3.toNat → (⟨b0.toNat, b1.toNat, b2.toNat, b3.toNat, ⟨#[]⟩, 2, false, (pi : Int)⟩ : DFound) = R := fun h => by rw [← HR1.out, if_pos h]
            cases ok
            · have HN := Lib.hid (hstop (.inl rfl))
              clear hstop
              go_wp2_with fail
              refine bodyPost_ret (v := vFound ⟨b0.toNat, b1.toNat, b2.toNat, b3.toNat, ⟨#[]⟩, 2, false, (pi : Int)⟩) (by simp [results, Tryz.results25, go_sem, World.cell?_setCell_other, z0, z1, z2, z3, z4, z5, z6, z7, vFound]) rfl ⟨by rw [HN.out], bb8 D3.B _ _ _ _ _ _ _ _⟩
            · by_cases h2 : 2 < b3.toNat
              · have HN := Lib.hid (hstop (.inr h2))
                have h2i : decide ((2 : Int) < (b3.toNat : Int)) = true := decide_eq_true (by omega)
                clear hstop
                go_wp2_with fail
                refine bodyPost_ret (v := vFound ⟨b0.toNat, b1.toNat, b2.toNat, b3.toNat, ⟨#[]⟩, 2, false, (pi : Int)⟩) (by simp [results, Tryz.results25, go_sem, World.cell?_setCell_other, z0, z1, z2, z3, z4, z5, z6, z7, vFound]) rfl ⟨by rw [HN.out], bb8 D3.B _ _ _ _ _ _ _ _⟩
              · have h2i : decide ((2 : Int) < (b3.toNat : Int)) = false := decide_eq_false (by omega)
                have HR2 := Lib.hid ((if_neg (show ¬ (true = false ∨ 2 < b3.toNat) by rintro (h | h); cases h; exact h2 h)).symm.trans HR1.out)
                clear hstop HR1
                have D4 := D3.put 5 (.int .i64 4)
                have dm := dataMark_a s s.size ms (some ⟨b, off, none⟩) q i _ ((hr.below D4.B).more D4.B.size) hi hl h0 hs hms rfl
                have hdj : ∀ j, dmF s.size ms i = some j → j < ms.length := fun j h => by
                  unfold dmF at h
                  split at h
                  · cases h
                  · cases h
                    exact nxD_lt hi
                obtain ⟨dj, hj⟩ : ∃ x, dmF s.size ms i = x := ⟨_, rfl⟩
                rw [hj] at dm HR2 hdj
                clear hj
                rcases dj with _ | j
                · have HN := Lib.hid HR2.out
                  dsimp only [dmW] at dm
                  go_upto_region 10 with (go_at_call 38; (with_reducible refine dm.mono ?_); rintro e w5 ⟨rfl, n5, rfl⟩)
                  have D5 : ZX w ((W3.setCell ⟨w.heap.size + 1, 5, none⟩ (.int .i64 4)).drewN n5) [.int .i64 (b0.toNat : Int), .int .i64 (b1.toNat : Int), .int .i64 (b2.toNat : Int), .int .i64 (b3.toNat : Int), .string ⟨#[]⟩, .int .i64 4, .bool false, .int .i64 (pi : Int)] := D4.dn n5
                  clear z0 z1 z2 z3 z4 z5 z6 z7 x0 x1 x2 x3 x4 x5 x6 x7 hfz hfx D3 D4 dm
                  generalize ((W3.setCell ⟨w.heap.size + 1, 5, none⟩ (.int .i64 4)).drewN n5) = W5 at D5 ⊢
                  have z0 : (_ : Option Value) = some (.int .i64 0) := D5.Z.cell 0 (by simp [zF])
                  have z1 : (_ : Option Value) = some (.int .i64 0) := D5.Z.cell 1 (by simp [zF])
                  have z2 : (_ : Option Value) = some (.int .i64 0) := D5.Z.cell 2 (by simp [zF])
                  have z3 : (_ : Option Value) = some (.int .i64 0) := D5.Z.cell 3 (by simp [zF])
                  have z4 : (_ : Option Value) = some (.string ⟨#[]⟩) := D5.Z.cell 4 (by simp [zF])
                  have z5 : (_ : Option Value) = some (.int .i64 0) := D5.Z.cell 5 (by simp [zF])
                  have z6 : (_ : Option Value) = some (.bool false) := D5.Z.cell 6 (by simp [zF])
                  have z7 : (_ : Option Value) = some (.int .i64 0) := D5.Z.cell 7 (by simp [zF])
                  have hfz := fun j => D5.Z.free j
                  have x0 : (_ : Option Value) = some (.int .i64 (b0.toNat : Int)) := D5.F.cell 0 (by simp)
                  have x1 : (_ : Option Value) = some (.int .i64 (b1.toNat : Int)) := D5.F.cell 1 (by simp)
                  have x2 : (_ : Option Value) = some (.int .i64 (b2.toNat : Int)) := D5.F.cell 2 (by simp)
                  have x3 : (_ : Option Value) = some (.int .i64 (b3.toNat : Int)) := D5.F.cell 3 (by simp)
                  have x4 : (_ : Option Value) = some (.string ⟨#[]⟩) := D5.F.cell 4 (by simp)
                  have x5 : (_ : Option Value) = some (.int .i64 4) := D5.F.cell 5 (by simp)
                  have x6 : (_ : Option Value) = some (.bool false) := D5.F.cell 6 (by simp)
                  have x7 : (_ : Option Value) = some (.int .i64 (pi : Int)) := D5.F.cell 7 (by simp)
                  have hfx := fun j => D5.F.free j
                  go_wp2_with fail
                  refine bodyPost_ret (v := vFound ⟨b0.toNat, b1.toNat, b2.toNat, b3.toNat, ⟨#[]⟩, 4, false, (pi : Int)⟩) (by simp [results, Tryz.results25, go_sem, World.cell?_setCell_other, z0, z1, z2, z3, z4, z5, z6, z7, vFound]) rfl ⟨by rw [← HN.out], bb8 D5.B _ _ _ _ _ _ _ _⟩
                · dsimp only [dmW] at dm
                  go_upto_region 12 with (go_at_call 38; (with_reducible refine dm.mono ?_); rintro e w5 ⟨rfl, n5, rfl⟩)
                  have D5 : ZX w ((W3.setCell ⟨w.heap.size + 1, 5, none⟩ (.int .i64 4)).drewN n5) [.int .i64 (b0.toNat : Int), .int .i64 (b1.toNat : Int), .int .i64 (b2.toNat : Int), .int .i64 (b3.toNat : Int), .string ⟨#[]⟩, .int .i64 4, .bool false, .int .i64 (pi : Int)] := D4.dn n5
                  clear z0 z1 z2 z3 z4 z5 z6 z7 x0 x1 x2 x3 x4 x5 x6 x7 hfz hfx D3 D4 dm
                  generalize ((W3.setCell ⟨w.heap.size + 1, 5, none⟩ (.int .i64 4)).drewN n5) = W5 at D5 ⊢
                  have z0 : (_ : Option Value) = some (.int .i64 0) := D5.Z.cell 0 (by simp [zF])
                  have z1 : (_ : Option Value) = some (.int .i64 0) := D5.Z.cell 1 (by simp [zF])
                  have z2 : (_ : Option Value) = some (.int .i64 0) := D5.Z.cell 2 (by simp [zF])
                  have z3 : (_ : Option Value) = some (.int .i64 0) := D5.Z.cell 3 (by simp [zF])
                  have z4 : (_ : Option Value) = some (.string ⟨#[]⟩) := D5.Z.cell 4 (by simp [zF])
                  have z5 : (_ : Option Value) = some (.int .i64 0) := D5.Z.cell 5 (by simp [zF])
                  have z6 : (_ : Option Value) = some (.bool false) := D5.Z.cell 6 (by simp [zF])
                  have z7 : (_ : Option Value) = some (.int .i64 0) := D5.Z.cell 7 (by simp [zF])
                  have hfz := fun j => D5.Z.free j
                  have x0 : (_ : Option Value) = some (.int .i64 (b0.toNat : Int)) := D5.F.cell 0 (by simp)
                  have x1 : (_ : Option Value) = some (.int .i64 (b1.toNat : Int)) := D5.F.cell 1 (by simp)
                  have x2 : (_ : Option Value) = some (.int .i64 (b2.toNat : Int)) := D5.F.cell 2 (by simp)
                  have x3 : (_ : Option Value) = some (.int .i64 (b3.toNat : Int)) := D5.F.cell 3 (by simp)
                  have x4 : (_ : Option Value) = some (.string ⟨#[]⟩) := D5.F.cell 4 (by simp)
                  have x5 : (_ : Option Value) = some (.int .i64 4) := D5.F.cell 5 (by simp)
                  have x6 : (_ : Option Value) = some (.bool false) := D5.F.cell 6 (by simp)
                  have x7 : (_ : Option Value) = some (.int .i64 (pi : Int)) := D5.F.cell 7 (by simp)
                  have hfx := fun j => D5.F.free j
                  have hG5 : GG W5.drew := hG.bb D5.dr.B
                  have hjl := hdj j rfl
                  obtain ⟨b', off', he, _, hcj⟩ := hr.at_ fM_len rfl j hjl
                  cases he
                  rw [mkD_get hjl] at hcj
                  obtain ⟨hkj, hpj, hbj⟩ := inM_at hms hjl
                  have fl := fun (n : Nat) (W : World) (hn : n ≤ 32) hW => fieldAt_a f s (mkD ms j).1 (mkD ms j).2.1 (mkD ms j).2.2 n W hf h0 hs hbits hkj hbj hn hW
                  obtain ⟨⟨kj, pj, bj⟩, hmj⟩ : ∃ m, mkD ms j = m := ⟨_, rfl⟩
                  have HR3 := Lib.hid HR2.out
                  have HR4 := HR3.out
                  try dsimp only at HR4
                  rw [hmj] at hcj hkj hpj hbj fl HR4
                  have hc0 := hcj 0 _ (by omega) rfl
                  have hc1 := hcj 1 _ (by omega) rfl
                  have hc2 := hcj 2 _ (by omega) rfl
                  simp only [← Nat.add_assoc, Nat.add_zero] at hc0 hc1 hc2
                  dsimp only at hkj hpj hbj fl HR4
                  have y0 := (D5.B.cell (p := ⟨b, off + j * 3, none⟩) hb0).trans hc0
                  have y1 := (D5.B.cell (p := ⟨b, off + j * 3 + 1, none⟩) hb0).trans hc1
                  have y2 := (D5.B.cell (p := ⟨b, off + j * 3 + 2, none⟩) hb0).trans hc2
                  have hcw0 := hc0
                  have hcw1 := hc1
                  have hcw2 := hc2
                  have hk3 : ((kj : Int) == 3) = (kj == 3) := by
                    rcases hkj with rfl | rfl | rfl <;> rfl
                  obtain ⟨K3, hK3⟩ : ∃ K, (kj == 3) = K := ⟨_, rfl⟩
                  rw [hK3] at hk3 HR4
                  clear hmj HR3 HR2 hcj hc0 hc1 hc2 hK3 hb3l h2i
                  generalize b3.toNat = t3 at h2 HR4 x3 D5 ⊢
                  have ht3 : t3 = 0 ∨ t3 = 1 ∨ t3 = 2 := by omega
                  clear h2
                  rcases ht3 with rfl | rfl | rfl
                  · have fl := fun W hW => fl 8 W (by omega) hW
                    rw [show ((8 : Nat) : Int) = 8 from rfl] at fl
                    rw [show 8 * 2 ^ 0 = 8 from rfl] at HR4
                    obtain ⟨H2, hH2⟩ : ∃ H, fldL f (bl s) kj bj 8 = H := ⟨_, rfl⟩
                    rw [hH2] at fl HR4
                    have HR5 := Lib.hid HR4
                    clear hH2 HR4
                    have sb := fun W => sizeBytes_any 0 (by omega) (by omega) W
                    rw [show szB 0 = 8 from rfl] at sb
                    rcases H2 with _ | ⟨d, ok2⟩
                    · dsimp only [fldV] at fl
                      refine wp_region_held_drew (S := (fun W => W.cell? ⟨b, off + j * 3, none⟩ = some (.int .i64 (kj : Int)) ∧ W.cell? ⟨b, off + j * 3 + 1, none⟩ = some (.int .i64 (pj : Int)) ∧ W.cell? ⟨b, off + j * 3 + 2, none⟩ = some (.int .i64 (bj : Int)) ∧ W.cell? ⟨w.heap.size + 1, 3, none⟩ = some (.int .i64 0))) (by kernel_rfl) ?hS1 (fun hHeld => ?rest2)
                      case hS1 => (exact ⟨y0, y1, y2, x3⟩)
                      refine wpAnyH_take (i := 0) (oi := _) (v := ?v3) rfl (by kernel_rfl) (by kernel_rfl) (by kernel_rfl) (fun _ _ _ h => h) (Or.inl ⟨by rfl, ?hy4⟩) hHeld ?rest5
                      case hy4 => (intro w hSw; (try dsimp only at hSw); go_simp; (try with_reducible rfl))
                      try simp only [Act.put, List.setIfInBounds_toArray, List.set_cons_zero, List.set_cons_succ]
                      refine wpAnyH_take (i := 1) (oi := _) (v := ?v6) rfl (by kernel_rfl) (by kernel_rfl) (by kernel_rfl) (fun _ _ _ h => h) (Or.inl ⟨by rfl, ?hy7⟩) hHeld ?rest8
                      case hy7 => (intro w hSw; (try dsimp only at hSw); go_simp; (try with_reducible rfl))
                      try simp only [Act.put, List.setIfInBounds_toArray, List.set_cons_zero, List.set_cons_succ]
                      refine wpAnyH_take (i := 2) (oi := _) (v := ?v9) rfl (by kernel_rfl) (by kernel_rfl) (by kernel_rfl) (fun _ _ _ h => h) (Or.inl ⟨by rfl, ?hy10⟩) hHeld ?rest11
                      case hy10 => (intro w hSw; (try dsimp only at hSw); go_simp; (try with_reducible rfl))
                      try simp only [Act.put, List.setIfInBounds_toArray, List.set_cons_zero, List.set_cons_succ]
                      refine wpAnyH_take (i := 3) (oi := _) (v := ?v12) rfl (by kernel_rfl) (by kernel_rfl) (by kernel_rfl) (fun _ _ _ h => h) (Or.inl ⟨by rfl, ?hy13⟩) hHeld ?rest14
                      case hy13 => (intro w hSw; (try dsimp only at hSw); go_simp; (try with_reducible rfl))
                      try simp only [Act.put, List.setIfInBounds_toArray, List.set_cons_zero, List.set_cons_succ]
                      refine wpAnyH_take (i := 4) (oi := _) (v := ?v15) rfl (by kernel_rfl) (by kernel_rfl) (by kernel_rfl) (fun _ _ _ h => h) (Or.inl ⟨by rfl, ?hy16⟩) hHeld ?rest17
                      case hy16 => (intro w hSw; (try dsimp only at hSw); go_simp; (try with_reducible rfl))
                      try simp only [Act.put, List.setIfInBounds_toArray, List.set_cons_zero, List.set_cons_succ]
                      refine wpAnyH_take (i := 5) (oi := _) (v := ?v18) rfl (by kernel_rfl) (by kernel_rfl) (by kernel_rfl) (fun _ _ _ h => h) (Or.inl ⟨by rfl, ?hy19⟩) hHeld ?rest20
                      case hy19 => (intro w hSw; (try dsimp only at hSw); go_simp; (try with_reducible rfl))
                      try simp only [Act.put, List.setIfInBounds_toArray, List.set_cons_zero, List.set_cons_succ]
                      refine wpAnyH_take (i := 6) (oi := _) (v := ?v21) rfl (by kernel_rfl) (by kernel_rfl) (by kernel_rfl) (fun _ _ _ h => h) (Or.inl ⟨by rfl, ?hy22⟩) hHeld ?rest23
                      case hy22 => (intro w hSw; (try dsimp only at hSw); go_simp; (try with_reducible rfl))
                      try simp only [Act.put, List.setIfInBounds_toArray, List.set_cons_zero, List.set_cons_succ]
                      refine wpAnyH_take (i := 7) (oi := _) (v := ?v24) rfl (by kernel_rfl) (by kernel_rfl) (by kernel_rfl) (fun _ _ _ h => h) (Or.inl ⟨by rfl, ?hy25⟩) hHeld ?rest26
                      case hy25 => (intro w hSw; (try dsimp only at hSw); go_simp; (try with_reducible rfl))
                      try simp only [Act.put, List.setIfInBounds_toArray, List.set_cons_zero, List.set_cons_succ]
                      refine wpAnyH_ready (rs := [8]) (by kernel_rfl) (by simp) ?_
                      refine AllReadyH.cons (o := _) rfl (fun K hK => ?stp55) ?more56
                      case stp55 =>
                        go_simp
                        refine (sb _).mono ?_
                        rintro e w9 ⟨rfl, rfl⟩
                        (try go_wp2_with fail)
                        refine hK.out _ _ ?hS57 (fun hHeld2 => ?rest58)
                        case hS57 => (exact hHeld)
                        clear hK K hHeld
                        have hHeld := hHeld2
                        clear hHeld2
                        try simp only [Act.put, List.setIfInBounds_toArray, List.set_cons_zero, List.set_cons_succ]
                        refine wpAnyH_ready (rs := [9]) (by kernel_rfl) (by simp) ?_
                        refine AllReadyH.cons (o := _) rfl (fun K hK => ?stp51) ?more52
                        case stp51 =>
                          go_simp
                          refine (fl _ hG5).mono ?_
                          rintro e w6 ⟨rfl, hx6⟩
                          have D6 := D5.dr.next hx6
                          (try go_wp2_with fail)
                          refine hK.out _ _ ?hS53 (fun hHeld2 => ?rest54)
                          case hS53 => (exact ⟨(D6.B.cell (p := ⟨b, off + j * 3, none⟩) hb0).trans hcw0, (D6.B.cell (p := ⟨b, off + j * 3 + 1, none⟩) hb0).trans hcw1, (D6.B.cell (p := ⟨b, off + j * 3 + 2, none⟩) hb0).trans hcw2, D6.F.cell 3 (by simp)⟩)
                          clear hK K hHeld
                          have hHeld := hHeld2
                          clear hHeld2
                          try simp only [Act.put, List.setIfInBounds_toArray, List.set_cons_zero, List.set_cons_succ]
                          refine wpAnyH_take (i := 10) (oi := _) (v := ?v27) rfl (by kernel_rfl) (by kernel_rfl) (by kernel_rfl) (fun _ _ _ h => h) (Or.inl ⟨by rfl, ?hy28⟩) hHeld ?rest29
                          case hy28 => (intro w hSw; (try dsimp only at hSw); go_simp; (try with_reducible rfl))
                          try simp only [Act.put, List.setIfInBounds_toArray, List.set_cons_zero, List.set_cons_succ]
                          refine wpAnyH_take (i := 11) (oi := _) (v := ?v30) rfl (by kernel_rfl) (by kernel_rfl) (by kernel_rfl) (fun _ _ _ h => h) (Or.inl ⟨by rfl, ?hy31⟩) hHeld ?rest32
                          case hy31 => (intro w hSw; (try dsimp only at hSw); go_simp; (try with_reducible rfl))
                          try simp only [Act.put, List.setIfInBounds_toArray, List.set_cons_zero, List.set_cons_succ]
                          refine wpAnyH_take (i := 12) (oi := _) (v := ?v33) rfl (by kernel_rfl) (by kernel_rfl) (by kernel_rfl) (fun _ _ _ h => h) (Or.inl ⟨by rfl, ?hy34⟩) hHeld ?rest35
                          case hy34 => (intro w hSw; (try dsimp only at hSw); go_simp; (try with_reducible rfl))
                          try simp only [Act.put, List.setIfInBounds_toArray, List.set_cons_zero, List.set_cons_succ]
                          refine wpAnyH_take (i := 13) (oi := _) (v := ?v36) rfl (by kernel_rfl) (by kernel_rfl) (by kernel_rfl) (fun _ _ _ h => h) (Or.inl ⟨by rfl, ?hy37⟩) hHeld ?rest38
                          case hy37 => (intro w hSw; (try dsimp only at hSw); go_simp; (try with_reducible rfl))
                          try simp only [Act.put, List.setIfInBounds_toArray, List.set_cons_zero, List.set_cons_succ]
                          refine wpAnyH_ready (rs := [14]) (by kernel_rfl) (by simp) ?_
                          refine AllReadyH.cons (o := _) rfl (fun K hK => ?stp47) ?more48
                          case stp47 =>
                            go_simp
                            refine hK.out _ _ ?hS49 (fun hHeld2 => ?rest50)
                            case hS49 => (exact hHeld)
                            clear hK K hHeld
                            have hHeld := hHeld2
                            clear hHeld2
                            try simp only [Act.put, List.setIfInBounds_toArray, List.set_cons_zero, List.set_cons_succ]
                            refine wpAnyH_ready (rs := [15]) (by kernel_rfl) (by simp) ?_
                            refine AllReadyH.cons (o := _) rfl (fun K hK => ?stp43) ?more44
                            case stp43 =>
                              go_simp
                              refine hK.out _ _ ?hS45 (fun hHeld2 => ?rest46)
                              case hS45 => (exact hHeld)
                              clear hK K hHeld
                              have hHeld := hHeld2
                              clear hHeld2
                              try simp only [Act.put, List.setIfInBounds_toArray, List.set_cons_zero, List.set_cons_succ]
                              refine wpAnyH_ready (rs := [16]) (by kernel_rfl) (by simp) ?_
                              refine AllReadyH.cons (o := _) rfl (fun K hK => ?stp39) ?more40
                              case stp39 =>
                                go_simp
                                refine hK.out _ _ ?hS41 (fun hHeld2 => ?rest42)
                                case hS41 => (exact hHeld)
                                clear hK K hHeld
                                have hHeld := hHeld2
                                clear hHeld2
                                try simp only [Act.put, List.setIfInBounds_toArray, List.set_cons_zero, List.set_cons_succ]
                                refine wpAnyH_done (by kernel_rfl) ?_ _
                                have HN := Lib.hid HR5.out
                                have z0 : (_ : Option Value) = some (.int .i64 0) := D6.Z.cell 0 (by simp [zF])
                                have z1 : (_ : Option Value) = some (.int .i64 0) := D6.Z.cell 1 (by simp [zF])
                                have z2 : (_ : Option Value) = some (.int .i64 0) := D6.Z.cell 2 (by simp [zF])
                                have z3 : (_ : Option Value) = some (.int .i64 0) := D6.Z.cell 3 (by simp [zF])
                                have z4 : (_ : Option Value) = some (.string ⟨#[]⟩) := D6.Z.cell 4 (by simp [zF])
                                have z5 : (_ : Option Value) = some (.int .i64 0) := D6.Z.cell 5 (by simp [zF])
                                have z6 : (_ : Option Value) = some (.bool false) := D6.Z.cell 6 (by simp [zF])
                                have z7 : (_ : Option Value) = some (.int .i64 0) := D6.Z.cell 7 (by simp [zF])
                                have hfz := fun j => D6.Z.free j
                                have x0 : (_ : Option Value) = some (.int .i64 (b0.toNat : Int)) := D6.F.cell 0 (by simp)
                                have x1 : (_ : Option Value) = some (.int .i64 (b1.toNat : Int)) := D6.F.cell 1 (by simp)
                                have x2 : (_ : Option Value) = some (.int .i64 (b2.toNat : Int)) := D6.F.cell 2 (by simp)
                                have x3 : (_ : Option Value) = some (.int .i64 0) := D6.F.cell 3 (by simp)
                                have x4 : (_ : Option Value) = some (.string ⟨#[]⟩) := D6.F.cell 4 (by simp)
                                have x5 : (_ : Option Value) = some (.int .i64 4) := D6.F.cell 5 (by simp)
                                have x6 : (_ : Option Value) = some (.bool false) := D6.F.cell 6 (by simp)
                                have x7 : (_ : Option Value) = some (.int .i64 (pi : Int)) := D6.F.cell 7 (by simp)
                                have hfx := fun j => D6.F.free j
                                go_wp2_with fail
                                refine bodyPost_ret (v := vFound ⟨b0.toNat, b1.toNat, b2.toNat, 0, ⟨#[]⟩, 4, false, (pi : Int)⟩) (by simp [results, Tryz.results25, go_sem, World.cell?_setCell_other, z0, z1, z2, z3, z4, z5, z6, z7, vFound]) rfl ⟨by rw [← HN.out]; rfl, bb8 D6.B _ _ _ _ _ _ _ _⟩
                              exact AllReadyH.nil
                            exact AllReadyH.nil
                          exact AllReadyH.nil
                        exact AllReadyH.nil
                      exact AllReadyH.nil
                    · dsimp only [fldV] at fl
                      obtain ⟨z, hz⟩ : ∃ z, str1 d = z := ⟨_, rfl⟩
                      have HR6 := HR5.out
                      dsimp only at HR6
                      rw [hz] at fl HR6
                      have HR5 := Lib.hid HR6
                      clear HR6 hz
                      cases ok2
                      · skip
                        refine wp_region_held_drew (S := (fun W => W.cell? ⟨b, off + j * 3, none⟩ = some (.int .i64 (kj : Int)) ∧ W.cell? ⟨b, off + j * 3 + 1, none⟩ = some (.int .i64 (pj : Int)) ∧ W.cell? ⟨b, off + j * 3 + 2, none⟩ = some (.int .i64 (bj : Int)) ∧ W.cell? ⟨w.heap.size + 1, 3, none⟩ = some (.int .i64 0))) (by kernel_rfl) ?hS59 (fun hHeld => ?rest60)
                        case hS59 => (exact ⟨y0, y1, y2, x3⟩)
                        refine wpAnyH_take (i := 0) (oi := _) (v := ?v61) rfl (by kernel_rfl) (by kernel_rfl) (by kernel_rfl) (fun _ _ _ h => h) (Or.inl ⟨by rfl, ?hy62⟩) hHeld ?rest63
                        case hy62 => (intro w hSw; (try dsimp only at hSw); go_simp; (try with_reducible rfl))
                        try simp only [Act.put, List.setIfInBounds_toArray, List.set_cons_zero, List.set_cons_succ]
                        refine wpAnyH_take (i := 1) (oi := _) (v := ?v64) rfl (by kernel_rfl) (by kernel_rfl) (by kernel_rfl) (fun _ _ _ h => h) (Or.inl ⟨by rfl, ?hy65⟩) hHeld ?rest66
                        case hy65 => (intro w hSw; (try dsimp only at hSw); go_simp; (try with_reducible rfl))
                        try simp only [Act.put, List.setIfInBounds_toArray, List.set_cons_zero, List.set_cons_succ]
                        refine wpAnyH_take (i := 2) (oi := _) (v := ?v67) rfl (by kernel_rfl) (by kernel_rfl) (by kernel_rfl) (fun _ _ _ h => h) (Or.inl ⟨by rfl, ?hy68⟩) hHeld ?rest69
                        case hy68 => (intro w hSw; (try dsimp only at hSw); go_simp; (try with_reducible rfl))
                        try simp only [Act.put, List.setIfInBounds_toArray, List.set_cons_zero, List.set_cons_succ]
                        refine wpAnyH_take (i := 3) (oi := _) (v := ?v70) rfl (by kernel_rfl) (by kernel_rfl) (by kernel_rfl) (fun _ _ _ h => h) (Or.inl ⟨by rfl, ?hy71⟩) hHeld ?rest72
                        case hy71 => (intro w hSw; (try dsimp only at hSw); go_simp; (try with_reducible rfl))
                        try simp only [Act.put, List.setIfInBounds_toArray, List.set_cons_zero, List.set_cons_succ]
                        refine wpAnyH_take (i := 4) (oi := _) (v := ?v73) rfl (by kernel_rfl) (by kernel_rfl) (by kernel_rfl) (fun _ _ _ h => h) (Or.inl ⟨by rfl, ?hy74⟩) hHeld ?rest75
                        case hy74 => (intro w hSw; (try dsimp only at hSw); go_simp; (try with_reducible rfl))
                        try simp only [Act.put, List.setIfInBounds_toArray, List.set_cons_zero, List.set_cons_succ]
                        refine wpAnyH_take (i := 5) (oi := _) (v := ?v76) rfl (by kernel_rfl) (by kernel_rfl) (by kernel_rfl) (fun _ _ _ h => h) (Or.inl ⟨by rfl, ?hy77⟩) hHeld ?rest78
                        case hy77 => (intro w hSw; (try dsimp only at hSw); go_simp; (try with_reducible rfl))
                        try simp only [Act.put, List.setIfInBounds_toArray, List.set_cons_zero, List.set_cons_succ]
                        refine wpAnyH_take (i := 6) (oi := _) (v := ?v79) rfl (by kernel_rfl) (by kernel_rfl) (by kernel_rfl) (fun _ _ _ h => h) (Or.inl ⟨by rfl, ?hy80⟩) hHeld ?rest81
                        case hy80 => (intro w hSw; (try dsimp only at hSw); go_simp; (try with_reducible rfl))
                        try simp only [Act.put, List.setIfInBounds_toArray, List.set_cons_zero, List.set_cons_succ]
                        refine wpAnyH_take (i := 7) (oi := _) (v := ?v82) rfl (by kernel_rfl) (by kernel_rfl) (by kernel_rfl) (fun _ _ _ h => h) (Or.inl ⟨by rfl, ?hy83⟩) hHeld ?rest84
                        case hy83 => (intro w hSw; (try dsimp only at hSw); go_simp; (try with_reducible rfl))
                        try simp only [Act.put, List.setIfInBounds_toArray, List.set_cons_zero, List.set_cons_succ]
                        refine wpAnyH_ready (rs := [8]) (by kernel_rfl) (by simp) ?_
                        refine AllReadyH.cons (o := _) rfl (fun K hK => ?stp113) ?more114
                        case stp113 =>
                          go_simp
                          refine (sb _).mono ?_
                          rintro e w9 ⟨rfl, rfl⟩
                          (try go_wp2_with fail)
                          refine hK.out _ _ ?hS115 (fun hHeld2 => ?rest116)
                          case hS115 => (exact hHeld)
                          clear hK K hHeld
                          have hHeld := hHeld2
                          clear hHeld2
                          try simp only [Act.put, List.setIfInBounds_toArray, List.set_cons_zero, List.set_cons_succ]
                          refine wpAnyH_ready (rs := [9]) (by kernel_rfl) (by simp) ?_
                          refine AllReadyH.cons (o := _) rfl (fun K hK => ?stp109) ?more110
                          case stp109 =>
                            go_simp
                            refine (fl _ hG5).mono ?_
                            rintro e w6 ⟨rfl, hx6⟩
                            have D6 := D5.dr.next hx6
                            (try go_wp2_with fail)
                            refine hK.out _ _ ?hS111 (fun hHeld2 => ?rest112)
                            case hS111 => (exact ⟨(D6.B.cell (p := ⟨b, off + j * 3, none⟩) hb0).trans hcw0, (D6.B.cell (p := ⟨b, off + j * 3 + 1, none⟩) hb0).trans hcw1, (D6.B.cell (p := ⟨b, off + j * 3 + 2, none⟩) hb0).trans hcw2, D6.F.cell 3 (by simp)⟩)
                            clear hK K hHeld
                            have hHeld := hHeld2
                            clear hHeld2
                            try simp only [Act.put, List.setIfInBounds_toArray, List.set_cons_zero, List.set_cons_succ]
                            refine wpAnyH_take (i := 10) (oi := _) (v := ?v85) rfl (by kernel_rfl) (by kernel_rfl) (by kernel_rfl) (fun _ _ _ h => h) (Or.inl ⟨by rfl, ?hy86⟩) hHeld ?rest87
                            case hy86 => (intro w hSw; (try dsimp only at hSw); go_simp; (try with_reducible rfl))
                            try simp only [Act.put, List.setIfInBounds_toArray, List.set_cons_zero, List.set_cons_succ]
                            refine wpAnyH_take (i := 11) (oi := _) (v := ?v88) rfl (by kernel_rfl) (by kernel_rfl) (by kernel_rfl) (fun _ _ _ h => h) (Or.inl ⟨by rfl, ?hy89⟩) hHeld ?rest90
                            case hy89 => (intro w hSw; (try dsimp only at hSw); go_simp; (try with_reducible rfl))
                            try simp only [Act.put, List.setIfInBounds_toArray, List.set_cons_zero, List.set_cons_succ]
                            refine wpAnyH_take (i := 12) (oi := _) (v := ?v91) rfl (by kernel_rfl) (by kernel_rfl) (by kernel_rfl) (fun _ _ _ h => h) (Or.inl ⟨by rfl, ?hy92⟩) hHeld ?rest93
                            case hy92 => (intro w hSw; (try dsimp only at hSw); go_simp; (try with_reducible rfl))
                            try simp only [Act.put, List.setIfInBounds_toArray, List.set_cons_zero, List.set_cons_succ]
                            refine wpAnyH_take (i := 13) (oi := _) (v := ?v94) rfl (by kernel_rfl) (by kernel_rfl) (by kernel_rfl) (fun _ _ _ h => h) (Or.inl ⟨by rfl, ?hy95⟩) hHeld ?rest96
                            case hy95 => (intro w hSw; (try dsimp only at hSw); go_simp; (try with_reducible rfl))
                            try simp only [Act.put, List.setIfInBounds_toArray, List.set_cons_zero, List.set_cons_succ]
                            refine wpAnyH_ready (rs := [14]) (by kernel_rfl) (by simp) ?_
                            refine AllReadyH.cons (o := _) rfl (fun K hK => ?stp105) ?more106
                            case stp105 =>
                              go_simp
                              refine hK.out _ _ ?hS107 (fun hHeld2 => ?rest108)
                              case hS107 => (exact hHeld)
                              clear hK K hHeld
                              have hHeld := hHeld2
                              clear hHeld2
                              try simp only [Act.put, List.setIfInBounds_toArray, List.set_cons_zero, List.set_cons_succ]
                              refine wpAnyH_ready (rs := [15]) (by kernel_rfl) (by simp) ?_
                              refine AllReadyH.cons (o := _) rfl (fun K hK => ?stp101) ?more102
                              case stp101 =>
                                go_simp
                                refine hK.out _ _ ?hS103 (fun hHeld2 => ?rest104)
                                case hS103 => (exact hHeld)
                                clear hK K hHeld
                                have hHeld := hHeld2
                                clear hHeld2
                                try simp only [Act.put, List.setIfInBounds_toArray, List.set_cons_zero, List.set_cons_succ]
                                refine wpAnyH_ready (rs := [16]) (by kernel_rfl) (by simp) ?_
                                refine AllReadyH.cons (o := _) rfl (fun K hK => ?stp97) ?more98
                                case stp97 =>
                                  go_simp
                                  refine hK.out _ _ ?hS99 (fun hHeld2 => ?rest100)
                                  case hS99 => (exact hHeld)
                                  clear hK K hHeld
                                  have hHeld := hHeld2
                                  clear hHeld2
                                  try simp only [Act.put, List.setIfInBounds_toArray, List.set_cons_zero, List.set_cons_succ]
                                  refine wpAnyH_done (by kernel_rfl) ?_ _
                                  have HN := Lib.hid HR5.out
                                  have z0 : (_ : Option Value) = some (.int .i64 0) := D6.Z.cell 0 (by simp [zF])
                                  have z1 : (_ : Option Value) = some (.int .i64 0) := D6.Z.cell 1 (by simp [zF])
                                  have z2 : (_ : Option Value) = some (.int .i64 0) := D6.Z.cell 2 (by simp [zF])
                                  have z3 : (_ : Option Value) = some (.int .i64 0) := D6.Z.cell 3 (by simp [zF])
                                  have z4 : (_ : Option Value) = some (.string ⟨#[]⟩) := D6.Z.cell 4 (by simp [zF])
                                  have z5 : (_ : Option Value) = some (.int .i64 0) := D6.Z.cell 5 (by simp [zF])
                                  have z6 : (_ : Option Value) = some (.bool false) := D6.Z.cell 6 (by simp [zF])
                                  have z7 : (_ : Option Value) = some (.int .i64 0) := D6.Z.cell 7 (by simp [zF])
                                  have hfz := fun j => D6.Z.free j
                                  have x0 : (_ : Option Value) = some (.int .i64 (b0.toNat : Int)) := D6.F.cell 0 (by simp)
                                  have x1 : (_ : Option Value) = some (.int .i64 (b1.toNat : Int)) := D6.F.cell 1 (by simp)
                                  have x2 : (_ : Option Value) = some (.int .i64 (b2.toNat : Int)) := D6.F.cell 2 (by simp)
                                  have x3 : (_ : Option Value) = some (.int .i64 0) := D6.F.cell 3 (by simp)
                                  have x4 : (_ : Option Value) = some (.string ⟨#[]⟩) := D6.F.cell 4 (by simp)
                                  have x5 : (_ : Option Value) = some (.int .i64 4) := D6.F.cell 5 (by simp)
                                  have x6 : (_ : Option Value) = some (.bool false) := D6.F.cell 6 (by simp)
                                  have x7 : (_ : Option Value) = some (.int .i64 (pi : Int)) := D6.F.cell 7 (by simp)
                                  have hfx := fun j => D6.F.free j
                                  have yk0 := (D6.B.cell (p := ⟨b, off + j * 3, none⟩) hb0).trans hcw0
                                  go_upto_region 20 with fail
                                  have D7 : ZX w (((w6.setCell ⟨w.heap.size + 1, 4, none⟩ (.string z)).setCell ⟨w.heap.size + 1, 6, none⟩ (.bool K3)).setCell ⟨w.heap.size + 1, 5, none⟩ (.int .i64 3)) [.int .i64 (b0.toNat : Int), .int .i64 (b1.toNat : Int), .int .i64 (b2.toNat : Int), .int .i64 0, .string z, .int .i64 3, .bool K3, .int .i64 (pi : Int)] := (((D6.put 4 _).put 6 _).put 5 _)
                                  clear z0 z1 z2 z3 z4 z5 z6 z7 x0 x1 x2 x3 x4 x5 x6 x7 hfz hfx yk0
                                  generalize (((w6.setCell ⟨w.heap.size + 1, 4, none⟩ (.string z)).setCell ⟨w.heap.size + 1, 6, none⟩ (.bool K3)).setCell ⟨w.heap.size + 1, 5, none⟩ (.int .i64 3)) = W7 at D7 ⊢
                                  have z0 : (_ : Option Value) = some (.int .i64 0) := D7.Z.cell 0 (by simp [zF])
                                  have z1 : (_ : Option Value) = some (.int .i64 0) := D7.Z.cell 1 (by simp [zF])
                                  have z2 : (_ : Option Value) = some (.int .i64 0) := D7.Z.cell 2 (by simp [zF])
                                  have z3 : (_ : Option Value) = some (.int .i64 0) := D7.Z.cell 3 (by simp [zF])
                                  have z4 : (_ : Option Value) = some (.string ⟨#[]⟩) := D7.Z.cell 4 (by simp [zF])
                                  have z5 : (_ : Option Value) = some (.int .i64 0) := D7.Z.cell 5 (by simp [zF])
                                  have z6 : (_ : Option Value) = some (.bool false) := D7.Z.cell 6 (by simp [zF])
                                  have z7 : (_ : Option Value) = some (.int .i64 0) := D7.Z.cell 7 (by simp [zF])
                                  have hfz := fun j => D7.Z.free j
                                  have x0 : (_ : Option Value) = some (.int .i64 (b0.toNat : Int)) := D7.F.cell 0 (by simp)
                                  have x1 : (_ : Option Value) = some (.int .i64 (b1.toNat : Int)) := D7.F.cell 1 (by simp)
                                  have x2 : (_ : Option Value) = some (.int .i64 (b2.toNat : Int)) := D7.F.cell 2 (by simp)
                                  have x3 : (_ : Option Value) = some (.int .i64 0) := D7.F.cell 3 (by simp)
                                  have x4 : (_ : Option Value) = some (.string z) := D7.F.cell 4 (by simp)
                                  have x5 : (_ : Option Value) = some (.int .i64 3) := D7.F.cell 5 (by simp)
                                  have x6 : (_ : Option Value) = some (.bool K3) := D7.F.cell 6 (by simp)
                                  have x7 : (_ : Option Value) = some (.int .i64 (pi : Int)) := D7.F.cell 7 (by simp)
                                  have hfx := fun j => D7.F.free j
                                  go_wp2_with fail
                                  refine bodyPost_ret (v := vFound ⟨b0.toNat, b1.toNat, b2.toNat, 0, z, 3, K3, (pi : Int)⟩) (by simp [results, Tryz.results25, go_sem, World.cell?_setCell_other, z0, z1, z2, z3, z4, z5, z6, z7, vFound]) rfl ⟨by rw [← HN.out]; rfl, bb8 D7.B _ _ _ _ _ _ _ _⟩
                                exact AllReadyH.nil
                              exact AllReadyH.nil
                            exact AllReadyH.nil
                          exact AllReadyH.nil
                        exact AllReadyH.nil
                      · skip
                        refine wp_region_held_drew (S := (fun W => W.cell? ⟨b, off + j * 3, none⟩ = some (.int .i64 (kj : Int)) ∧ W.cell? ⟨b, off + j * 3 + 1, none⟩ = some (.int .i64 (pj : Int)) ∧ W.cell? ⟨b, off + j * 3 + 2, none⟩ = some (.int .i64 (bj : Int)) ∧ W.cell? ⟨w.heap.size + 1, 3, none⟩ = some (.int .i64 0))) (by kernel_rfl) ?hS117 (fun hHeld => ?rest118)
                        case hS117 => (exact ⟨y0, y1, y2, x3⟩)
                        refine wpAnyH_take (i := 0) (oi := _) (v := ?v119) rfl (by kernel_rfl) (by kernel_rfl) (by kernel_rfl) (fun _ _ _ h => h) (Or.inl ⟨by rfl, ?hy120⟩) hHeld ?rest121
                        case hy120 => (intro w hSw; (try dsimp only at hSw); go_simp; (try with_reducible rfl))
                        try simp only [Act.put, List.setIfInBounds_toArray, List.set_cons_zero, List.set_cons_succ]
                        refine wpAnyH_take (i := 1) (oi := _) (v := ?v122) rfl (by kernel_rfl) (by kernel_rfl) (by kernel_rfl) (fun _ _ _ h => h) (Or.inl ⟨by rfl, ?hy123⟩) hHeld ?rest124
                        case hy123 => (intro w hSw; (try dsimp only at hSw); go_simp; (try with_reducible rfl))
                        try simp only [Act.put, List.setIfInBounds_toArray, List.set_cons_zero, List.set_cons_succ]
                        refine wpAnyH_take (i := 2) (oi := _) (v := ?v125) rfl (by kernel_rfl) (by kernel_rfl) (by kernel_rfl) (fun _ _ _ h => h) (Or.inl ⟨by rfl, ?hy126⟩) hHeld ?rest127
                        case hy126 => (intro w hSw; (try dsimp only at hSw); go_simp; (try with_reducible rfl))
                        try simp only [Act.put, List.setIfInBounds_toArray, List.set_cons_zero, List.set_cons_succ]
                        refine wpAnyH_take (i := 3) (oi := _) (v := ?v128) rfl (by kernel_rfl) (by kernel_rfl) (by kernel_rfl) (fun _ _ _ h => h) (Or.inl ⟨by rfl, ?hy129⟩) hHeld ?rest130
                        case hy129 => (intro w hSw; (try dsimp only at hSw); go_simp; (try with_reducible rfl))
                        try simp only [Act.put, List.setIfInBounds_toArray, List.set_cons_zero, List.set_cons_succ]
                        refine wpAnyH_take (i := 4) (oi := _) (v := ?v131) rfl (by kernel_rfl) (by kernel_rfl) (by kernel_rfl) (fun _ _ _ h => h) (Or.inl ⟨by rfl, ?hy132⟩) hHeld ?rest133
                        case hy132 => (intro w hSw; (try dsimp only at hSw); go_simp; (try with_reducible rfl))
                        try simp only [Act.put, List.setIfInBounds_toArray, List.set_cons_zero, List.set_cons_succ]
                        refine wpAnyH_take (i := 5) (oi := _) (v := ?v134) rfl (by kernel_rfl) (by kernel_rfl) (by kernel_rfl) (fun _ _ _ h => h) (Or.inl ⟨by rfl, ?hy135⟩) hHeld ?rest136
                        case hy135 => (intro w hSw; (try dsimp only at hSw); go_simp; (try with_reducible rfl))
                        try simp only [Act.put, List.setIfInBounds_toArray, List.set_cons_zero, List.set_cons_succ]
                        refine wpAnyH_take (i := 6) (oi := _) (v := ?v137) rfl (by kernel_rfl) (by kernel_rfl) (by kernel_rfl) (fun _ _ _ h => h) (Or.inl ⟨by rfl, ?hy138⟩) hHeld ?rest139
                        case hy138 => (intro w hSw; (try dsimp only at hSw); go_simp; (try with_reducible rfl))
                        try simp only [Act.put, List.setIfInBounds_toArray, List.set_cons_zero, List.set_cons_succ]
                        refine wpAnyH_take (i := 7) (oi := _) (v := ?v140) rfl (by kernel_rfl) (by kernel_rfl) (by kernel_rfl) (fun _ _ _ h => h) (Or.inl ⟨by rfl, ?hy141⟩) hHeld ?rest142
                        case hy141 => (intro w hSw; (try dsimp only at hSw); go_simp; (try with_reducible rfl))
                        try simp only [Act.put, List.setIfInBounds_toArray, List.set_cons_zero, List.set_cons_succ]
                        refine wpAnyH_ready (rs := [8]) (by kernel_rfl) (by simp) ?_
                        refine AllReadyH.cons (o := _) rfl (fun K hK => ?stp171) ?more172
                        case stp171 =>
                          go_simp
                          refine (sb _).mono ?_
                          rintro e w9 ⟨rfl, rfl⟩
                          (try go_wp2_with fail)
                          refine hK.out _ _ ?hS173 (fun hHeld2 => ?rest174)
                          case hS173 => (exact hHeld)
                          clear hK K hHeld
                          have hHeld := hHeld2
                          clear hHeld2
                          try simp only [Act.put, List.setIfInBounds_toArray, List.set_cons_zero, List.set_cons_succ]
                          refine wpAnyH_ready (rs := [9]) (by kernel_rfl) (by simp) ?_
                          refine AllReadyH.cons (o := _) rfl (fun K hK => ?stp167) ?more168
                          case stp167 =>
                            go_simp
                            refine (fl _ hG5).mono ?_
                            rintro e w6 ⟨rfl, hx6⟩
                            have D6 := D5.dr.next hx6
                            (try go_wp2_with fail)
                            refine hK.out _ _ ?hS169 (fun hHeld2 => ?rest170)
                            case hS169 => (exact ⟨(D6.B.cell (p := ⟨b, off + j * 3, none⟩) hb0).trans hcw0, (D6.B.cell (p := ⟨b, off + j * 3 + 1, none⟩) hb0).trans hcw1, (D6.B.cell (p := ⟨b, off + j * 3 + 2, none⟩) hb0).trans hcw2, D6.F.cell 3 (by simp)⟩)
                            clear hK K hHeld
                            have hHeld := hHeld2
                            clear hHeld2
                            try simp only [Act.put, List.setIfInBounds_toArray, List.set_cons_zero, List.set_cons_succ]
                            refine wpAnyH_take (i := 10) (oi := _) (v := ?v143) rfl (by kernel_rfl) (by kernel_rfl) (by kernel_rfl) (fun _ _ _ h => h) (Or.inl ⟨by rfl, ?hy144⟩) hHeld ?rest145
                            case hy144 => (intro w hSw; (try dsimp only at hSw); go_simp; (try with_reducible rfl))
                            try simp only [Act.put, List.setIfInBounds_toArray, List.set_cons_zero, List.set_cons_succ]
                            refine wpAnyH_take (i := 11) (oi := _) (v := ?v146) rfl (by kernel_rfl) (by kernel_rfl) (by kernel_rfl) (fun _ _ _ h => h) (Or.inl ⟨by rfl, ?hy147⟩) hHeld ?rest148
                            case hy147 => (intro w hSw; (try dsimp only at hSw); go_simp; (try with_reducible rfl))
                            try simp only [Act.put, List.setIfInBounds_toArray, List.set_cons_zero, List.set_cons_succ]
                            refine wpAnyH_take (i := 12) (oi := _) (v := ?v149) rfl (by kernel_rfl) (by kernel_rfl) (by kernel_rfl) (fun _ _ _ h => h) (Or.inl ⟨by rfl, ?hy150⟩) hHeld ?rest151
                            case hy150 => (intro w hSw; (try dsimp only at hSw); go_simp; (try with_reducible rfl))
                            try simp only [Act.put, List.setIfInBounds_toArray, List.set_cons_zero, List.set_cons_succ]
                            refine wpAnyH_take (i := 13) (oi := _) (v := ?v152) rfl (by kernel_rfl) (by kernel_rfl) (by kernel_rfl) (fun _ _ _ h => h) (Or.inl ⟨by rfl, ?hy153⟩) hHeld ?rest154
                            case hy153 => (intro w hSw; (try dsimp only at hSw); go_simp; (try with_reducible rfl))
                            try simp only [Act.put, List.setIfInBounds_toArray, List.set_cons_zero, List.set_cons_succ]
                            refine wpAnyH_ready (rs := [14]) (by kernel_rfl) (by simp) ?_
                            refine AllReadyH.cons (o := _) rfl (fun K hK => ?stp163) ?more164
                            case stp163 =>
                              go_simp
                              refine hK.out _ _ ?hS165 (fun hHeld2 => ?rest166)
                              case hS165 => (exact hHeld)
                              clear hK K hHeld
                              have hHeld := hHeld2
                              clear hHeld2
                              try simp only [Act.put, List.setIfInBounds_toArray, List.set_cons_zero, List.set_cons_succ]
                              refine wpAnyH_ready (rs := [15]) (by kernel_rfl) (by simp) ?_
                              refine AllReadyH.cons (o := _) rfl (fun K hK => ?stp159) ?more160
                              case stp159 =>
                                go_simp
                                refine hK.out _ _ ?hS161 (fun hHeld2 => ?rest162)
                                case hS161 => (exact hHeld)
                                clear hK K hHeld
                                have hHeld := hHeld2
                                clear hHeld2
                                try simp only [Act.put, List.setIfInBounds_toArray, List.set_cons_zero, List.set_cons_succ]
                                refine wpAnyH_ready (rs := [16]) (by kernel_rfl) (by simp) ?_
                                refine AllReadyH.cons (o := _) rfl (fun K hK => ?stp155) ?more156
                                case stp155 =>
                                  go_simp
                                  refine hK.out _ _ ?hS157 (fun hHeld2 => ?rest158)
                                  case hS157 => (exact hHeld)
                                  clear hK K hHeld
                                  have hHeld := hHeld2
                                  clear hHeld2
                                  try simp only [Act.put, List.setIfInBounds_toArray, List.set_cons_zero, List.set_cons_succ]
                                  refine wpAnyH_done (by kernel_rfl) ?_ _
                                  have HN := Lib.hid HR5.out
                                  have z0 : (_ : Option Value) = some (.int .i64 0) := D6.Z.cell 0 (by simp [zF])
                                  have z1 : (_ : Option Value) = some (.int .i64 0) := D6.Z.cell 1 (by simp [zF])
                                  have z2 : (_ : Option Value) = some (.int .i64 0) := D6.Z.cell 2 (by simp [zF])
                                  have z3 : (_ : Option Value) = some (.int .i64 0) := D6.Z.cell 3 (by simp [zF])
                                  have z4 : (_ : Option Value) = some (.string ⟨#[]⟩) := D6.Z.cell 4 (by simp [zF])
                                  have z5 : (_ : Option Value) = some (.int .i64 0) := D6.Z.cell 5 (by simp [zF])
                                  have z6 : (_ : Option Value) = some (.bool false) := D6.Z.cell 6 (by simp [zF])
                                  have z7 : (_ : Option Value) = some (.int .i64 0) := D6.Z.cell 7 (by simp [zF])
                                  have hfz := fun j => D6.Z.free j
                                  have x0 : (_ : Option Value) = some (.int .i64 (b0.toNat : Int)) := D6.F.cell 0 (by simp)
                                  have x1 : (_ : Option Value) = some (.int .i64 (b1.toNat : Int)) := D6.F.cell 1 (by simp)
                                  have x2 : (_ : Option Value) = some (.int .i64 (b2.toNat : Int)) := D6.F.cell 2 (by simp)
                                  have x3 : (_ : Option Value) = some (.int .i64 0) := D6.F.cell 3 (by simp)
                                  have x4 : (_ : Option Value) = some (.string ⟨#[]⟩) := D6.F.cell 4 (by simp)
                                  have x5 : (_ : Option Value) = some (.int .i64 4) := D6.F.cell 5 (by simp)
                                  have x6 : (_ : Option Value) = some (.bool false) := D6.F.cell 6 (by simp)
                                  have x7 : (_ : Option Value) = some (.int .i64 (pi : Int)) := D6.F.cell 7 (by simp)
                                  have hfx := fun j => D6.F.free j
                                  have yk0 := (D6.B.cell (p := ⟨b, off + j * 3, none⟩) hb0).trans hcw0
                                  go_upto_region 20 with fail
                                  have D7 : ZX w ((((w6.setCell ⟨w.heap.size + 1, 4, none⟩ (.string z)).setCell ⟨w.heap.size + 1, 6, none⟩ (.bool K3)).setCell ⟨w.heap.size + 1, 5, none⟩ (.int .i64 3)).setCell ⟨w.heap.size + 1, 5, none⟩ (.int .i64 1)) [.int .i64 (b0.toNat : Int), .int .i64 (b1.toNat : Int), .int .i64 (b2.toNat : Int), .int .i64 0, .string z, .int .i64 1, .bool K3, .int .i64 (pi : Int)] := ((((D6.put 4 _).put 6 _).put 5 _).put 5 _)
                                  clear z0 z1 z2 z3 z4 z5 z6 z7 x0 x1 x2 x3 x4 x5 x6 x7 hfz hfx yk0
                                  generalize ((((w6.setCell ⟨w.heap.size + 1, 4, none⟩ (.string z)).setCell ⟨w.heap.size + 1, 6, none⟩ (.bool K3)).setCell ⟨w.heap.size + 1, 5, none⟩ (.int .i64 3)).setCell ⟨w.heap.size + 1, 5, none⟩ (.int .i64 1)) = W7 at D7 ⊢
                                  have z0 : (_ : Option Value) = some (.int .i64 0) := D7.Z.cell 0 (by simp [zF])
                                  have z1 : (_ : Option Value) = some (.int .i64 0) := D7.Z.cell 1 (by simp [zF])
                                  have z2 : (_ : Option Value) = some (.int .i64 0) := D7.Z.cell 2 (by simp [zF])
                                  have z3 : (_ : Option Value) = some (.int .i64 0) := D7.Z.cell 3 (by simp [zF])
                                  have z4 : (_ : Option Value) = some (.string ⟨#[]⟩) := D7.Z.cell 4 (by simp [zF])
                                  have z5 : (_ : Option Value) = some (.int .i64 0) := D7.Z.cell 5 (by simp [zF])
                                  have z6 : (_ : Option Value) = some (.bool false) := D7.Z.cell 6 (by simp [zF])
                                  have z7 : (_ : Option Value) = some (.int .i64 0) := D7.Z.cell 7 (by simp [zF])
                                  have hfz := fun j => D7.Z.free j
                                  have x0 : (_ : Option Value) = some (.int .i64 (b0.toNat : Int)) := D7.F.cell 0 (by simp)
                                  have x1 : (_ : Option Value) = some (.int .i64 (b1.toNat : Int)) := D7.F.cell 1 (by simp)
                                  have x2 : (_ : Option Value) = some (.int .i64 (b2.toNat : Int)) := D7.F.cell 2 (by simp)
                                  have x3 : (_ : Option Value) = some (.int .i64 0) := D7.F.cell 3 (by simp)
                                  have x4 : (_ : Option Value) = some (.string z) := D7.F.cell 4 (by simp)
                                  have x5 : (_ : Option Value) = some (.int .i64 1) := D7.F.cell 5 (by simp)
                                  have x6 : (_ : Option Value) = some (.bool K3) := D7.F.cell 6 (by simp)
                                  have x7 : (_ : Option Value) = some (.int .i64 (pi : Int)) := D7.F.cell 7 (by simp)
                                  have hfx := fun j => D7.F.free j
                                  go_wp2_with fail
                                  refine bodyPost_ret (v := vFound ⟨b0.toNat, b1.toNat, b2.toNat, 0, z, 1, K3, (pi : Int)⟩) (by simp [results, Tryz.results25, go_sem, World.cell?_setCell_other, z0, z1, z2, z3, z4, z5, z6, z7, vFound]) rfl ⟨by rw [← HN.out]; rfl, bb8 D7.B _ _ _ _ _ _ _ _⟩
                                exact AllReadyH.nil
                              exact AllReadyH.nil
                            exact AllReadyH.nil
                          exact AllReadyH.nil
                        exact AllReadyH.nil
                  · have fl := fun W hW => fl 16 W (by omega) hW
                    rw [show ((16 : Nat) : Int) = 16 from rfl] at fl
                    rw [show 8 * 2 ^ 1 = 16 from rfl] at HR4
                    obtain ⟨H2, hH2⟩ : ∃ H, fldL f (bl s) kj bj 16 = H := ⟨_, rfl⟩
                    rw [hH2] at fl HR4
                    have HR5 := Lib.hid HR4
                    clear hH2 HR4
                    have sb := fun W => sizeBytes_any 1 (by omega) (by omega) W
                    rw [show szB 1 = 16 from rfl] at sb
                    rcases H2 with _ | ⟨d, ok2⟩
                    · dsimp only [fldV] at fl
                      refine wp_region_held_drew (S := (fun W => W.cell? ⟨b, off + j * 3, none⟩ = some (.int .i64 (kj : Int)) ∧ W.cell? ⟨b, off + j * 3 + 1, none⟩ = some (.int .i64 (pj : Int)) ∧ W.cell? ⟨b, off + j * 3 + 2, none⟩ = some (.int .i64 (bj : Int)) ∧ W.cell? ⟨w.heap.size + 1, 3, none⟩ = some (.int .i64 1))) (by kernel_rfl) ?hS175 (fun hHeld => ?rest176)
                      case hS175 => (exact ⟨y0, y1, y2, x3⟩)
                      refine wpAnyH_take (i := 0) (oi := _) (v := ?v177) rfl (by kernel_rfl) (by kernel_rfl) (by kernel_rfl) (fun _ _ _ h => h) (Or.inl ⟨by rfl, ?hy178⟩) hHeld ?rest179
                      case hy178 => (intro w hSw; (try dsimp only at hSw); go_simp; (try with_reducible rfl))
                      try simp only [Act.put, List.setIfInBounds_toArray, List.set_cons_zero, List.set_cons_succ]
                      refine wpAnyH_take (i := 1) (oi := _) (v := ?v180) rfl (by kernel_rfl) (by kernel_rfl) (by kernel_rfl) (fun _ _ _ h => h) (Or.inl ⟨by rfl, ?hy181⟩) hHeld ?rest182
                      case hy181 => (intro w hSw; (try dsimp only at hSw); go_simp; (try with_reducible rfl))
                      try simp only [Act.put, List.setIfInBounds_toArray, List.set_cons_zero, List.set_cons_succ]
                      refine wpAnyH_take (i := 2) (oi := _) (v := ?v183) rfl (by kernel_rfl) (by kernel_rfl) (by kernel_rfl) (fun _ _ _ h => h) (Or.inl ⟨by rfl, ?hy184⟩) hHeld ?rest185
                      case hy184 => (intro w hSw; (try dsimp only at hSw); go_simp; (try with_reducible rfl))
                      try simp only [Act.put, List.setIfInBounds_toArray, List.set_cons_zero, List.set_cons_succ]
                      refine wpAnyH_take (i := 3) (oi := _) (v := ?v186) rfl (by kernel_rfl) (by kernel_rfl) (by kernel_rfl) (fun _ _ _ h => h) (Or.inl ⟨by rfl, ?hy187⟩) hHeld ?rest188
                      case hy187 => (intro w hSw; (try dsimp only at hSw); go_simp; (try with_reducible rfl))
                      try simp only [Act.put, List.setIfInBounds_toArray, List.set_cons_zero, List.set_cons_succ]
                      refine wpAnyH_take (i := 4) (oi := _) (v := ?v189) rfl (by kernel_rfl) (by kernel_rfl) (by kernel_rfl) (fun _ _ _ h => h) (Or.inl ⟨by rfl, ?hy190⟩) hHeld ?rest191
                      case hy190 => (intro w hSw; (try dsimp only at hSw); go_simp; (try with_reducible rfl))
                      try simp only [Act.put, List.setIfInBounds_toArray, List.set_cons_zero, List.set_cons_succ]
                      refine wpAnyH_take (i := 5) (oi := _) (v := ?v192) rfl (by kernel_rfl) (by kernel_rfl) (by kernel_rfl) (fun _ _ _ h => h) (Or.inl ⟨by rfl, ?hy193⟩) hHeld ?rest194
                      case hy193 => (intro w hSw; (try dsimp only at hSw); go_simp; (try with_reducible rfl))
                      try simp only [Act.put, List.setIfInBounds_toArray, List.set_cons_zero, List.set_cons_succ]
                      refine wpAnyH_take (i := 6) (oi := _) (v := ?v195) rfl (by kernel_rfl) (by kernel_rfl) (by kernel_rfl) (fun _ _ _ h => h) (Or.inl ⟨by rfl, ?hy196⟩) hHeld ?rest197
                      case hy196 => (intro w hSw; (try dsimp only at hSw); go_simp; (try with_reducible rfl))
                      try simp only [Act.put, List.setIfInBounds_toArray, List.set_cons_zero, List.set_cons_succ]
                      refine wpAnyH_take (i := 7) (oi := _) (v := ?v198) rfl (by kernel_rfl) (by kernel_rfl) (by kernel_rfl) (fun _ _ _ h => h) (Or.inl ⟨by rfl, ?hy199⟩) hHeld ?rest200
                      case hy199 => (intro w hSw; (try dsimp only at hSw); go_simp; (try with_reducible rfl))
                      try simp only [Act.put, List.setIfInBounds_toArray, List.set_cons_zero, List.set_cons_succ]
                      refine wpAnyH_ready (rs := [8]) (by kernel_rfl) (by simp) ?_
                      refine AllReadyH.cons (o := _) rfl (fun K hK => ?stp229) ?more230
                      case stp229 =>
                        go_simp
                        refine (sb _).mono ?_
                        rintro e w9 ⟨rfl, rfl⟩
                        (try go_wp2_with fail)
                        refine hK.out _ _ ?hS231 (fun hHeld2 => ?rest232)
                        case hS231 => (exact hHeld)
                        clear hK K hHeld
                        have hHeld := hHeld2
                        clear hHeld2
                        try simp only [Act.put, List.setIfInBounds_toArray, List.set_cons_zero, List.set_cons_succ]
                        refine wpAnyH_ready (rs := [9]) (by kernel_rfl) (by simp) ?_
                        refine AllReadyH.cons (o := _) rfl (fun K hK => ?stp225) ?more226
                        case stp225 =>
                          go_simp
                          refine (fl _ hG5).mono ?_
                          rintro e w6 ⟨rfl, hx6⟩
                          have D6 := D5.dr.next hx6
                          (try go_wp2_with fail)
                          refine hK.out _ _ ?hS227 (fun hHeld2 => ?rest228)
                          case hS227 => (exact ⟨(D6.B.cell (p := ⟨b, off + j * 3, none⟩) hb0).trans hcw0, (D6.B.cell (p := ⟨b, off + j * 3 + 1, none⟩) hb0).trans hcw1, (D6.B.cell (p := ⟨b, off + j * 3 + 2, none⟩) hb0).trans hcw2, D6.F.cell 3 (by simp)⟩)
                          clear hK K hHeld
                          have hHeld := hHeld2
                          clear hHeld2
                          try simp only [Act.put, List.setIfInBounds_toArray, List.set_cons_zero, List.set_cons_succ]
                          refine wpAnyH_take (i := 10) (oi := _) (v := ?v201) rfl (by kernel_rfl) (by kernel_rfl) (by kernel_rfl) (fun _ _ _ h => h) (Or.inl ⟨by rfl, ?hy202⟩) hHeld ?rest203
                          case hy202 => (intro w hSw; (try dsimp only at hSw); go_simp; (try with_reducible rfl))
                          try simp only [Act.put, List.setIfInBounds_toArray, List.set_cons_zero, List.set_cons_succ]
                          refine wpAnyH_take (i := 11) (oi := _) (v := ?v204) rfl (by kernel_rfl) (by kernel_rfl) (by kernel_rfl) (fun _ _ _ h => h) (Or.inl ⟨by rfl, ?hy205⟩) hHeld ?rest206
                          case hy205 => (intro w hSw; (try dsimp only at hSw); go_simp; (try with_reducible rfl))
                          try simp only [Act.put, List.setIfInBounds_toArray, List.set_cons_zero, List.set_cons_succ]
                          refine wpAnyH_take (i := 12) (oi := _) (v := ?v207) rfl (by kernel_rfl) (by kernel_rfl) (by kernel_rfl) (fun _ _ _ h => h) (Or.inl ⟨by rfl, ?hy208⟩) hHeld ?rest209
                          case hy208 => (intro w hSw; (try dsimp only at hSw); go_simp; (try with_reducible rfl))
                          try simp only [Act.put, List.setIfInBounds_toArray, List.set_cons_zero, List.set_cons_succ]
                          refine wpAnyH_take (i := 13) (oi := _) (v := ?v210) rfl (by kernel_rfl) (by kernel_rfl) (by kernel_rfl) (fun _ _ _ h => h) (Or.inl ⟨by rfl, ?hy211⟩) hHeld ?rest212
                          case hy211 => (intro w hSw; (try dsimp only at hSw); go_simp; (try with_reducible rfl))
                          try simp only [Act.put, List.setIfInBounds_toArray, List.set_cons_zero, List.set_cons_succ]
                          refine wpAnyH_ready (rs := [14]) (by kernel_rfl) (by simp) ?_
                          refine AllReadyH.cons (o := _) rfl (fun K hK => ?stp221) ?more222
                          case stp221 =>
                            go_simp
                            refine hK.out _ _ ?hS223 (fun hHeld2 => ?rest224)
                            case hS223 => (exact hHeld)
                            clear hK K hHeld
                            have hHeld := hHeld2
                            clear hHeld2
                            try simp only [Act.put, List.setIfInBounds_toArray, List.set_cons_zero, List.set_cons_succ]
                            refine wpAnyH_ready (rs := [15]) (by kernel_rfl) (by simp) ?_
                            refine AllReadyH.cons (o := _) rfl (fun K hK => ?stp217) ?more218
                            case stp217 =>
                              go_simp
                              refine hK.out _ _ ?hS219 (fun hHeld2 => ?rest220)
                              case hS219 => (exact hHeld)
                              clear hK K hHeld
                              have hHeld := hHeld2
                              clear hHeld2
                              try simp only [Act.put, List.setIfInBounds_toArray, List.set_cons_zero, List.set_cons_succ]
                              refine wpAnyH_ready (rs := [16]) (by kernel_rfl) (by simp) ?_
                              refine AllReadyH.cons (o := _) rfl (fun K hK => ?stp213) ?more214
                              case stp213 =>
                                go_simp
                                refine hK.out _ _ ?hS215 (fun hHeld2 => ?rest216)
                                case hS215 => (exact hHeld)
                                clear hK K hHeld
                                have hHeld := hHeld2
                                clear hHeld2
                                try simp only [Act.put, List.setIfInBounds_toArray, List.set_cons_zero, List.set_cons_succ]
                                refine wpAnyH_done (by kernel_rfl) ?_ _
                                have HN := Lib.hid HR5.out
                                have z0 : (_ : Option Value) = some (.int .i64 0) := D6.Z.cell 0 (by simp [zF])
                                have z1 : (_ : Option Value) = some (.int .i64 0) := D6.Z.cell 1 (by simp [zF])
                                have z2 : (_ : Option Value) = some (.int .i64 0) := D6.Z.cell 2 (by simp [zF])
                                have z3 : (_ : Option Value) = some (.int .i64 0) := D6.Z.cell 3 (by simp [zF])
                                have z4 : (_ : Option Value) = some (.string ⟨#[]⟩) := D6.Z.cell 4 (by simp [zF])
                                have z5 : (_ : Option Value) = some (.int .i64 0) := D6.Z.cell 5 (by simp [zF])
                                have z6 : (_ : Option Value) = some (.bool false) := D6.Z.cell 6 (by simp [zF])
                                have z7 : (_ : Option Value) = some (.int .i64 0) := D6.Z.cell 7 (by simp [zF])
                                have hfz := fun j => D6.Z.free j
                                have x0 : (_ : Option Value) = some (.int .i64 (b0.toNat : Int)) := D6.F.cell 0 (by simp)
                                have x1 : (_ : Option Value) = some (.int .i64 (b1.toNat : Int)) := D6.F.cell 1 (by simp)
                                have x2 : (_ : Option Value) = some (.int .i64 (b2.toNat : Int)) := D6.F.cell 2 (by simp)
                                have x3 : (_ : Option Value) = some (.int .i64 1) := D6.F.cell 3 (by simp)
                                have x4 : (_ : Option Value) = some (.string ⟨#[]⟩) := D6.F.cell 4 (by simp)
                                have x5 : (_ : Option Value) = some (.int .i64 4) := D6.F.cell 5 (by simp)
                                have x6 : (_ : Option Value) = some (.bool false) := D6.F.cell 6 (by simp)
                                have x7 : (_ : Option Value) = some (.int .i64 (pi : Int)) := D6.F.cell 7 (by simp)
                                have hfx := fun j => D6.F.free j
                                go_wp2_with fail
                                refine bodyPost_ret (v := vFound ⟨b0.toNat, b1.toNat, b2.toNat, 1, ⟨#[]⟩, 4, false, (pi : Int)⟩) (by simp [results, Tryz.results25, go_sem, World.cell?_setCell_other, z0, z1, z2, z3, z4, z5, z6, z7, vFound]) rfl ⟨by rw [← HN.out]; rfl, bb8 D6.B _ _ _ _ _ _ _ _⟩
                              exact AllReadyH.nil
                            exact AllReadyH.nil
                          exact AllReadyH.nil
                        exact AllReadyH.nil
                      exact AllReadyH.nil
                    · dsimp only [fldV] at fl
                      obtain ⟨z, hz⟩ : ∃ z, str1 d = z := ⟨_, rfl⟩
                      have HR6 := HR5.out
                      dsimp only at HR6
                      rw [hz] at fl HR6
                      have HR5 := Lib.hid HR6
                      clear HR6 hz
                      cases ok2
                      · skip
                        refine wp_region_held_drew (S := (fun W => W.cell? ⟨b, off + j * 3, none⟩ = some (.int .i64 (kj : Int)) ∧ W.cell? ⟨b, off + j * 3 + 1, none⟩ = some (.int .i64 (pj : Int)) ∧ W.cell? ⟨b, off + j * 3 + 2, none⟩ = some (.int .i64 (bj : Int)) ∧ W.cell? ⟨w.heap.size + 1, 3, none⟩ = some (.int .i64 1))) (by kernel_rfl) ?hS233 (fun hHeld => ?rest234)
                        case hS233 => (exact ⟨y0, y1, y2, x3⟩)
                        refine wpAnyH_take (i := 0) (oi := _) (v := ?v235) rfl (by kernel_rfl) (by kernel_rfl) (by kernel_rfl) (fun _ _ _ h => h) (Or.inl ⟨by rfl, ?hy236⟩) hHeld ?rest237
                        case hy236 => (intro w hSw; (try dsimp only at hSw); go_simp; (try with_reducible rfl))
                        try simp only [Act.put, List.setIfInBounds_toArray, List.set_cons_zero, List.set_cons_succ]
                        refine wpAnyH_take (i := 1) (oi := _) (v := ?v238) rfl (by kernel_rfl) (by kernel_rfl) (by kernel_rfl) (fun _ _ _ h => h) (Or.inl ⟨by rfl, ?hy239⟩) hHeld ?rest240
                        case hy239 => (intro w hSw; (try dsimp only at hSw); go_simp; (try with_reducible rfl))
                        try simp only [Act.put, List.setIfInBounds_toArray, List.set_cons_zero, List.set_cons_succ]
                        refine wpAnyH_take (i := 2) (oi := _) (v := ?v241) rfl (by kernel_rfl) (by kernel_rfl) (by kernel_rfl) (fun _ _ _ h => h) (Or.inl ⟨by rfl, ?hy242⟩) hHeld ?rest243
                        case hy242 => (intro w hSw; (try dsimp only at hSw); go_simp; (try with_reducible rfl))
                        try simp only [Act.put, List.setIfInBounds_toArray, List.set_cons_zero, List.set_cons_succ]
                        refine wpAnyH_take (i := 3) (oi := _) (v := ?v244) rfl (by kernel_rfl) (by kernel_rfl) (by kernel_rfl) (fun _ _ _ h => h) (Or.inl ⟨by rfl, ?hy245⟩) hHeld ?rest246
                        case hy245 => (intro w hSw; (try dsimp only at hSw); go_simp; (try with_reducible rfl))
                        try simp only [Act.put, List.setIfInBounds_toArray, List.set_cons_zero, List.set_cons_succ]
                        refine wpAnyH_take (i := 4) (oi := _) (v := ?v247) rfl (by kernel_rfl) (by kernel_rfl) (by kernel_rfl) (fun _ _ _ h => h) (Or.inl ⟨by rfl, ?hy248⟩) hHeld ?rest249
                        case hy248 => (intro w hSw; (try dsimp only at hSw); go_simp; (try with_reducible rfl))
                        try simp only [Act.put, List.setIfInBounds_toArray, List.set_cons_zero, List.set_cons_succ]
                        refine wpAnyH_take (i := 5) (oi := _) (v := ?v250) rfl (by kernel_rfl) (by kernel_rfl) (by kernel_rfl) (fun _ _ _ h => h) (Or.inl ⟨by rfl, ?hy251⟩) hHeld ?rest252
                        case hy251 => (intro w hSw; (try dsimp only at hSw); go_simp; (try with_reducible rfl))
                        try simp only [Act.put, List.setIfInBounds_toArray, List.set_cons_zero, List.set_cons_succ]
                        refine wpAnyH_take (i := 6) (oi := _) (v := ?v253) rfl (by kernel_rfl) (by kernel_rfl) (by kernel_rfl) (fun _ _ _ h => h) (Or.inl ⟨by rfl, ?hy254⟩) hHeld ?rest255
                        case hy254 => (intro w hSw; (try dsimp only at hSw); go_simp; (try with_reducible rfl))
                        try simp only [Act.put, List.setIfInBounds_toArray, List.set_cons_zero, List.set_cons_succ]
                        refine wpAnyH_take (i := 7) (oi := _) (v := ?v256) rfl (by kernel_rfl) (by kernel_rfl) (by kernel_rfl) (fun _ _ _ h => h) (Or.inl ⟨by rfl, ?hy257⟩) hHeld ?rest258
                        case hy257 => (intro w hSw; (try dsimp only at hSw); go_simp; (try with_reducible rfl))
                        try simp only [Act.put, List.setIfInBounds_toArray, List.set_cons_zero, List.set_cons_succ]
                        refine wpAnyH_ready (rs := [8]) (by kernel_rfl) (by simp) ?_
                        refine AllReadyH.cons (o := _) rfl (fun K hK => ?stp287) ?more288
                        case stp287 =>
                          go_simp
                          refine (sb _).mono ?_
                          rintro e w9 ⟨rfl, rfl⟩
                          (try go_wp2_with fail)
                          refine hK.out _ _ ?hS289 (fun hHeld2 => ?rest290)
                          case hS289 => (exact hHeld)
                          clear hK K hHeld
                          have hHeld := hHeld2
                          clear hHeld2
                          try simp only [Act.put, List.setIfInBounds_toArray, List.set_cons_zero, List.set_cons_succ]
                          refine wpAnyH_ready (rs := [9]) (by kernel_rfl) (by simp) ?_
                          refine AllReadyH.cons (o := _) rfl (fun K hK => ?stp283) ?more284
                          case stp283 =>
                            go_simp
                            refine (fl _ hG5).mono ?_
                            rintro e w6 ⟨rfl, hx6⟩
                            have D6 := D5.dr.next hx6
                            (try go_wp2_with fail)
                            refine hK.out _ _ ?hS285 (fun hHeld2 => ?rest286)
                            case hS285 => (exact ⟨(D6.B.cell (p := ⟨b, off + j * 3, none⟩) hb0).trans hcw0, (D6.B.cell (p := ⟨b, off + j * 3 + 1, none⟩) hb0).trans hcw1, (D6.B.cell (p := ⟨b, off + j * 3 + 2, none⟩) hb0).trans hcw2, D6.F.cell 3 (by simp)⟩)
                            clear hK K hHeld
                            have hHeld := hHeld2
                            clear hHeld2
                            try simp only [Act.put, List.setIfInBounds_toArray, List.set_cons_zero, List.set_cons_succ]
                            refine wpAnyH_take (i := 10) (oi := _) (v := ?v259) rfl (by kernel_rfl) (by kernel_rfl) (by kernel_rfl) (fun _ _ _ h => h) (Or.inl ⟨by rfl, ?hy260⟩) hHeld ?rest261
                            case hy260 => (intro w hSw; (try dsimp only at hSw); go_simp; (try with_reducible rfl))
                            try simp only [Act.put, List.setIfInBounds_toArray, List.set_cons_zero, List.set_cons_succ]
                            refine wpAnyH_take (i := 11) (oi := _) (v := ?v262) rfl (by kernel_rfl) (by kernel_rfl) (by kernel_rfl) (fun _ _ _ h => h) (Or.inl ⟨by rfl, ?hy263⟩) hHeld ?rest264
                            case hy263 => (intro w hSw; (try dsimp only at hSw); go_simp; (try with_reducible rfl))
                            try simp only [Act.put, List.setIfInBounds_toArray, List.set_cons_zero, List.set_cons_succ]
                            refine wpAnyH_take (i := 12) (oi := _) (v := ?v265) rfl (by kernel_rfl) (by kernel_rfl) (by kernel_rfl) (fun _ _ _ h => h) (Or.inl ⟨by rfl, ?hy266⟩) hHeld ?rest267
                            case hy266 => (intro w hSw; (try dsimp only at hSw); go_simp; (try with_reducible rfl))
                            try simp only [Act.put, List.setIfInBounds_toArray, List.set_cons_zero, List.set_cons_succ]
                            refine wpAnyH_take (i := 13) (oi := _) (v := ?v268) rfl (by kernel_rfl) (by kernel_rfl) (by kernel_rfl) (fun _ _ _ h => h) (Or.inl ⟨by rfl, ?hy269⟩) hHeld ?rest270
                            case hy269 => (intro w hSw; (try dsimp only at hSw); go_simp; (try with_reducible rfl))
                            try simp only [Act.put, List.setIfInBounds_toArray, List.set_cons_zero, List.set_cons_succ]
                            refine wpAnyH_ready (rs := [14]) (by kernel_rfl) (by simp) ?_
                            refine AllReadyH.cons (o := _) rfl (fun K hK => ?stp279) ?more280
                            case stp279 =>
                              go_simp
                              refine hK.out _ _ ?hS281 (fun hHeld2 => ?rest282)
                              case hS281 => (exact hHeld)
                              clear hK K hHeld
                              have hHeld := hHeld2
                              clear hHeld2
                              try simp only [Act.put, List.setIfInBounds_toArray, List.set_cons_zero, List.set_cons_succ]
                              refine wpAnyH_ready (rs := [15]) (by kernel_rfl) (by simp) ?_
                              refine AllReadyH.cons (o := _) rfl (fun K hK => ?stp275) ?more276
                              case stp275 =>
                                go_simp
                                refine hK.out _ _ ?hS277 (fun hHeld2 => ?rest278)
                                case hS277 => (exact hHeld)
                                clear hK K hHeld
                                have hHeld := hHeld2
                                clear hHeld2
                                try simp only [Act.put, List.setIfInBounds_toArray, List.set_cons_zero, List.set_cons_succ]
                                refine wpAnyH_ready (rs := [16]) (by kernel_rfl) (by simp) ?_
                                refine AllReadyH.cons (o := _) rfl (fun K hK => ?stp271) ?more272
                                case stp271 =>
                                  go_simp
                                  refine hK.out _ _ ?hS273 (fun hHeld2 => ?rest274)
                                  case hS273 => (exact hHeld)
                                  clear hK K hHeld
                                  have hHeld := hHeld2
                                  clear hHeld2
                                  try simp only [Act.put, List.setIfInBounds_toArray, List.set_cons_zero, List.set_cons_succ]
                                  refine wpAnyH_done (by kernel_rfl) ?_ _
                                  have HN := Lib.hid HR5.out
                                  have z0 : (_ : Option Value) = some (.int .i64 0) := D6.Z.cell 0 (by simp [zF])
                                  have z1 : (_ : Option Value) = some (.int .i64 0) := D6.Z.cell 1 (by simp [zF])
                                  have z2 : (_ : Option Value) = some (.int .i64 0) := D6.Z.cell 2 (by simp [zF])
                                  have z3 : (_ : Option Value) = some (.int .i64 0) := D6.Z.cell 3 (by simp [zF])
                                  have z4 : (_ : Option Value) = some (.string ⟨#[]⟩) := D6.Z.cell 4 (by simp [zF])
                                  have z5 : (_ : Option Value) = some (.int .i64 0) := D6.Z.cell 5 (by simp [zF])
                                  have z6 : (_ : Option Value) = some (.bool false) := D6.Z.cell 6 (by simp [zF])
                                  have z7 : (_ : Option Value) = some (.int .i64 0) := D6.Z.cell 7 (by simp [zF])
                                  have hfz := fun j => D6.Z.free j
                                  have x0 : (_ : Option Value) = some (.int .i64 (b0.toNat : Int)) := D6.F.cell 0 (by simp)
                                  have x1 : (_ : Option Value) = some (.int .i64 (b1.toNat : Int)) := D6.F.cell 1 (by simp)
                                  have x2 : (_ : Option Value) = some (.int .i64 (b2.toNat : Int)) := D6.F.cell 2 (by simp)
                                  have x3 : (_ : Option Value) = some (.int .i64 1) := D6.F.cell 3 (by simp)
                                  have x4 : (_ : Option Value) = some (.string ⟨#[]⟩) := D6.F.cell 4 (by simp)
                                  have x5 : (_ : Option Value) = some (.int .i64 4) := D6.F.cell 5 (by simp)
                                  have x6 : (_ : Option Value) = some (.bool false) := D6.F.cell 6 (by simp)
                                  have x7 : (_ : Option Value) = some (.int .i64 (pi : Int)) := D6.F.cell 7 (by simp)
                                  have hfx := fun j => D6.F.free j
                                  have yk0 := (D6.B.cell (p := ⟨b, off + j * 3, none⟩) hb0).trans hcw0
                                  go_upto_region 20 with fail
                                  have D7 : ZX w (((w6.setCell ⟨w.heap.size + 1, 4, none⟩ (.string z)).setCell ⟨w.heap.size + 1, 6, none⟩ (.bool K3)).setCell ⟨w.heap.size + 1, 5, none⟩ (.int .i64 3)) [.int .i64 (b0.toNat : Int), .int .i64 (b1.toNat : Int), .int .i64 (b2.toNat : Int), .int .i64 1, .string z, .int .i64 3, .bool K3, .int .i64 (pi : Int)] := (((D6.put 4 _).put 6 _).put 5 _)
                                  clear z0 z1 z2 z3 z4 z5 z6 z7 x0 x1 x2 x3 x4 x5 x6 x7 hfz hfx yk0
                                  generalize (((w6.setCell ⟨w.heap.size + 1, 4, none⟩ (.string z)).setCell ⟨w.heap.size + 1, 6, none⟩ (.bool K3)).setCell ⟨w.heap.size + 1, 5, none⟩ (.int .i64 3)) = W7 at D7 ⊢
                                  have z0 : (_ : Option Value) = some (.int .i64 0) := D7.Z.cell 0 (by simp [zF])
                                  have z1 : (_ : Option Value) = some (.int .i64 0) := D7.Z.cell 1 (by simp [zF])
                                  have z2 : (_ : Option Value) = some (.int .i64 0) := D7.Z.cell 2 (by simp [zF])
                                  have z3 : (_ : Option Value) = some (.int .i64 0) := D7.Z.cell 3 (by simp [zF])
                                  have z4 : (_ : Option Value) = some (.string ⟨#[]⟩) := D7.Z.cell 4 (by simp [zF])
                                  have z5 : (_ : Option Value) = some (.int .i64 0) := D7.Z.cell 5 (by simp [zF])
                                  have z6 : (_ : Option Value) = some (.bool false) := D7.Z.cell 6 (by simp [zF])
                                  have z7 : (_ : Option Value) = some (.int .i64 0) := D7.Z.cell 7 (by simp [zF])
                                  have hfz := fun j => D7.Z.free j
                                  have x0 : (_ : Option Value) = some (.int .i64 (b0.toNat : Int)) := D7.F.cell 0 (by simp)
                                  have x1 : (_ : Option Value) = some (.int .i64 (b1.toNat : Int)) := D7.F.cell 1 (by simp)
                                  have x2 : (_ : Option Value) = some (.int .i64 (b2.toNat : Int)) := D7.F.cell 2 (by simp)
                                  have x3 : (_ : Option Value) = some (.int .i64 1) := D7.F.cell 3 (by simp)
                                  have x4 : (_ : Option Value) = some (.string z) := D7.F.cell 4 (by simp)
                                  have x5 : (_ : Option Value) = some (.int .i64 3) := D7.F.cell 5 (by simp)
                                  have x6 : (_ : Option Value) = some (.bool K3) := D7.F.cell 6 (by simp)
                                  have x7 : (_ : Option Value) = some (.int .i64 (pi : Int)) := D7.F.cell 7 (by simp)
                                  have hfx := fun j => D7.F.free j
                                  go_wp2_with fail
                                  refine bodyPost_ret (v := vFound ⟨b0.toNat, b1.toNat, b2.toNat, 1, z, 3, K3, (pi : Int)⟩) (by simp [results, Tryz.results25, go_sem, World.cell?_setCell_other, z0, z1, z2, z3, z4, z5, z6, z7, vFound]) rfl ⟨by rw [← HN.out]; rfl, bb8 D7.B _ _ _ _ _ _ _ _⟩
                                exact AllReadyH.nil
                              exact AllReadyH.nil
                            exact AllReadyH.nil
                          exact AllReadyH.nil
                        exact AllReadyH.nil
                      · skip
                        refine wp_region_held_drew (S := (fun W => W.cell? ⟨b, off + j * 3, none⟩ = some (.int .i64 (kj : Int)) ∧ W.cell? ⟨b, off + j * 3 + 1, none⟩ = some (.int .i64 (pj : Int)) ∧ W.cell? ⟨b, off + j * 3 + 2, none⟩ = some (.int .i64 (bj : Int)) ∧ W.cell? ⟨w.heap.size + 1, 3, none⟩ = some (.int .i64 1))) (by kernel_rfl) ?hS291 (fun hHeld => ?rest292)
                        case hS291 => (exact ⟨y0, y1, y2, x3⟩)
                        refine wpAnyH_take (i := 0) (oi := _) (v := ?v293) rfl (by kernel_rfl) (by kernel_rfl) (by kernel_rfl) (fun _ _ _ h => h) (Or.inl ⟨by rfl, ?hy294⟩) hHeld ?rest295
                        case hy294 => (intro w hSw; (try dsimp only at hSw); go_simp; (try with_reducible rfl))
                        try simp only [Act.put, List.setIfInBounds_toArray, List.set_cons_zero, List.set_cons_succ]
                        refine wpAnyH_take (i := 1) (oi := _) (v := ?v296) rfl (by kernel_rfl) (by kernel_rfl) (by kernel_rfl) (fun _ _ _ h => h) (Or.inl ⟨by rfl, ?hy297⟩) hHeld ?rest298
                        case hy297 => (intro w hSw; (try dsimp only at hSw); go_simp; (try with_reducible rfl))
                        try simp only [Act.put, List.setIfInBounds_toArray, List.set_cons_zero, List.set_cons_succ]
                        refine wpAnyH_take (i := 2) (oi := _) (v := ?v299) rfl (by kernel_rfl) (by kernel_rfl) (by kernel_rfl) (fun _ _ _ h => h) (Or.inl ⟨by rfl, ?hy300⟩) hHeld ?rest301
                        case hy300 => (intro w hSw; (try dsimp only at hSw); go_simp; (try with_reducible rfl))
                        try simp only [Act.put, List.setIfInBounds_toArray, List.set_cons_zero, List.set_cons_succ]
                        refine wpAnyH_take (i := 3) (oi := _) (v := ?v302) rfl (by kernel_rfl) (by kernel_rfl) (by kernel_rfl) (fun _ _ _ h => h) (Or.inl ⟨by rfl, ?hy303⟩) hHeld ?rest304
                        case hy303 => (intro w hSw; (try dsimp only at hSw); go_simp; (try with_reducible rfl))
                        try simp only [Act.put, List.setIfInBounds_toArray, List.set_cons_zero, List.set_cons_succ]
                        refine wpAnyH_take (i := 4) (oi := _) (v := ?v305) rfl (by kernel_rfl) (by kernel_rfl) (by kernel_rfl) (fun _ _ _ h => h) (Or.inl ⟨by rfl, ?hy306⟩) hHeld ?rest307
                        case hy306 => (intro w hSw; (try dsimp only at hSw); go_simp; (try with_reducible rfl))
                        try simp only [Act.put, List.setIfInBounds_toArray, List.set_cons_zero, List.set_cons_succ]
                        refine wpAnyH_take (i := 5) (oi := _) (v := ?v308) rfl (by kernel_rfl) (by kernel_rfl) (by kernel_rfl) (fun _ _ _ h => h) (Or.inl ⟨by rfl, ?hy309⟩) hHeld ?rest310
                        case hy309 => (intro w hSw; (try dsimp only at hSw); go_simp; (try with_reducible rfl))
                        try simp only [Act.put, List.setIfInBounds_toArray, List.set_cons_zero, List.set_cons_succ]
                        refine wpAnyH_take (i := 6) (oi := _) (v := ?v311) rfl (by kernel_rfl) (by kernel_rfl) (by kernel_rfl) (fun _ _ _ h => h) (Or.inl ⟨by rfl, ?hy312⟩) hHeld ?rest313
                        case hy312 => (intro w hSw; (try dsimp only at hSw); go_simp; (try with_reducible rfl))
                        try simp only [Act.put, List.setIfInBounds_toArray, List.set_cons_zero, List.set_cons_succ]
                        refine wpAnyH_take (i := 7) (oi := _) (v := ?v314) rfl (by kernel_rfl) (by kernel_rfl) (by kernel_rfl) (fun _ _ _ h => h) (Or.inl ⟨by rfl, ?hy315⟩) hHeld ?rest316
                        case hy315 => (intro w hSw; (try dsimp only at hSw); go_simp; (try with_reducible rfl))
                        try simp only [Act.put, List.setIfInBounds_toArray, List.set_cons_zero, List.set_cons_succ]
                        refine wpAnyH_ready (rs := [8]) (by kernel_rfl) (by simp) ?_
                        refine AllReadyH.cons (o := _) rfl (fun K hK => ?stp345) ?more346
                        case stp345 =>
                          go_simp
                          refine (sb _).mono ?_
                          rintro e w9 ⟨rfl, rfl⟩
                          (try go_wp2_with fail)
                          refine hK.out _ _ ?hS347 (fun hHeld2 => ?rest348)
                          case hS347 => (exact hHeld)
                          clear hK K hHeld
                          have hHeld := hHeld2
                          clear hHeld2
                          try simp only [Act.put, List.setIfInBounds_toArray, List.set_cons_zero, List.set_cons_succ]
                          refine wpAnyH_ready (rs := [9]) (by kernel_rfl) (by simp) ?_
                          refine AllReadyH.cons (o := _) rfl (fun K hK => ?stp341) ?more342
                          case stp341 =>
                            go_simp
                            refine (fl _ hG5).mono ?_
                            rintro e w6 ⟨rfl, hx6⟩
                            have D6 := D5.dr.next hx6
                            (try go_wp2_with fail)
                            refine hK.out _ _ ?hS343 (fun hHeld2 => ?rest344)
                            case hS343 => (exact ⟨(D6.B.cell (p := ⟨b, off + j * 3, none⟩) hb0).trans hcw0, (D6.B.cell (p := ⟨b, off + j * 3 + 1, none⟩) hb0).trans hcw1, (D6.B.cell (p := ⟨b, off + j * 3 + 2, none⟩) hb0).trans hcw2, D6.F.cell 3 (by simp)⟩)
                            clear hK K hHeld
                            have hHeld := hHeld2
                            clear hHeld2
                            try simp only [Act.put, List.setIfInBounds_toArray, List.set_cons_zero, List.set_cons_succ]
                            refine wpAnyH_take (i := 10) (oi := _) (v := ?v317) rfl (by kernel_rfl) (by kernel_rfl) (by kernel_rfl) (fun _ _ _ h => h) (Or.inl ⟨by rfl, ?hy318⟩) hHeld ?rest319
                            case hy318 => (intro w hSw; (try dsimp only at hSw); go_simp; (try with_reducible rfl))
                            try simp only [Act.put, List.setIfInBounds_toArray, List.set_cons_zero, List.set_cons_succ]
                            refine wpAnyH_take (i := 11) (oi := _) (v := ?v320) rfl (by kernel_rfl) (by kernel_rfl) (by kernel_rfl) (fun _ _ _ h => h) (Or.inl ⟨by rfl, ?hy321⟩) hHeld ?rest322
                            case hy321 => (intro w hSw; (try dsimp only at hSw); go_simp; (try with_reducible rfl))
                            try simp only [Act.put, List.setIfInBounds_toArray, List.set_cons_zero, List.set_cons_succ]
                            refine wpAnyH_take (i := 12) (oi := _) (v := ?v323) rfl (by kernel_rfl) (by kernel_rfl) (by kernel_rfl) (fun _ _ _ h => h) (Or.inl ⟨by rfl, ?hy324⟩) hHeld ?rest325
                            case hy324 => (intro w hSw; (try dsimp only at hSw); go_simp; (try with_reducible rfl))
                            try simp only [Act.put, List.setIfInBounds_toArray, List.set_cons_zero, List.set_cons_succ]
                            refine wpAnyH_take (i := 13) (oi := _) (v := ?v326) rfl (by kernel_rfl) (by kernel_rfl) (by kernel_rfl) (fun _ _ _ h => h) (Or.inl ⟨by rfl, ?hy327⟩) hHeld ?rest328
                            case hy327 => (intro w hSw; (try dsimp only at hSw); go_simp; (try with_reducible rfl))
                            try simp only [Act.put, List.setIfInBounds_toArray, List.set_cons_zero, List.set_cons_succ]
                            refine wpAnyH_ready (rs := [14]) (by kernel_rfl) (by simp) ?_
                            refine AllReadyH.cons (o := _) rfl (fun K hK => ?stp337) ?more338
                            case stp337 =>
                              go_simp
                              refine hK.out _ _ ?hS339 (fun hHeld2 => ?rest340)
                              case hS339 => (exact hHeld)
                              clear hK K hHeld
                              have hHeld := hHeld2
                              clear hHeld2
                              try simp only [Act.put, List.setIfInBounds_toArray, List.set_cons_zero, List.set_cons_succ]
                              refine wpAnyH_ready (rs := [15]) (by kernel_rfl) (by simp) ?_
                              refine AllReadyH.cons (o := _) rfl (fun K hK => ?stp333) ?more334
                              case stp333 =>
                                go_simp
                                refine hK.out _ _ ?hS335 (fun hHeld2 => ?rest336)
                                case hS335 => (exact hHeld)
                                clear hK K hHeld
                                have hHeld := hHeld2
                                clear hHeld2
                                try simp only [Act.put, List.setIfInBounds_toArray, List.set_cons_zero, List.set_cons_succ]
                                refine wpAnyH_ready (rs := [16]) (by kernel_rfl) (by simp) ?_
                                refine AllReadyH.cons (o := _) rfl (fun K hK => ?stp329) ?more330
                                case stp329 =>
                                  go_simp
                                  refine hK.out _ _ ?hS331 (fun hHeld2 => ?rest332)
                                  case hS331 => (exact hHeld)
                                  clear hK K hHeld
                                  have hHeld := hHeld2
                                  clear hHeld2
                                  try simp only [Act.put, List.setIfInBounds_toArray, List.set_cons_zero, List.set_cons_succ]
                                  refine wpAnyH_done (by kernel_rfl) ?_ _
                                  have HN := Lib.hid HR5.out
                                  have z0 : (_ : Option Value) = some (.int .i64 0) := D6.Z.cell 0 (by simp [zF])
                                  have z1 : (_ : Option Value) = some (.int .i64 0) := D6.Z.cell 1 (by simp [zF])
                                  have z2 : (_ : Option Value) = some (.int .i64 0) := D6.Z.cell 2 (by simp [zF])
                                  have z3 : (_ : Option Value) = some (.int .i64 0) := D6.Z.cell 3 (by simp [zF])
                                  have z4 : (_ : Option Value) = some (.string ⟨#[]⟩) := D6.Z.cell 4 (by simp [zF])
                                  have z5 : (_ : Option Value) = some (.int .i64 0) := D6.Z.cell 5 (by simp [zF])
                                  have z6 : (_ : Option Value) = some (.bool false) := D6.Z.cell 6 (by simp [zF])
                                  have z7 : (_ : Option Value) = some (.int .i64 0) := D6.Z.cell 7 (by simp [zF])
                                  have hfz := fun j => D6.Z.free j
                                  have x0 : (_ : Option Value) = some (.int .i64 (b0.toNat : Int)) := D6.F.cell 0 (by simp)
                                  have x1 : (_ : Option Value) = some (.int .i64 (b1.toNat : Int)) := D6.F.cell 1 (by simp)
                                  have x2 : (_ : Option Value) = some (.int .i64 (b2.toNat : Int)) := D6.F.cell 2 (by simp)
                                  have x3 : (_ : Option Value) = some (.int .i64 1) := D6.F.cell 3 (by simp)
                                  have x4 : (_ : Option Value) = some (.string ⟨#[]⟩) := D6.F.cell 4 (by simp)
                                  have x5 : (_ : Option Value) = some (.int .i64 4) := D6.F.cell 5 (by simp)
                                  have x6 : (_ : Option Value) = some (.bool false) := D6.F.cell 6 (by simp)
                                  have x7 : (_ : Option Value) = some (.int .i64 (pi : Int)) := D6.F.cell 7 (by simp)
                                  have hfx := fun j => D6.F.free j
                                  have yk0 := (D6.B.cell (p := ⟨b, off + j * 3, none⟩) hb0).trans hcw0
                                  go_upto_region 20 with fail
                                  have D7 : ZX w ((((w6.setCell ⟨w.heap.size + 1, 4, none⟩ (.string z)).setCell ⟨w.heap.size + 1, 6, none⟩ (.bool K3)).setCell ⟨w.heap.size + 1, 5, none⟩ (.int .i64 3)).setCell ⟨w.heap.size + 1, 5, none⟩ (.int .i64 1)) [.int .i64 (b0.toNat : Int), .int .i64 (b1.toNat : Int), .int .i64 (b2.toNat : Int), .int .i64 1, .string z, .int .i64 1, .bool K3, .int .i64 (pi : Int)] := ((((D6.put 4 _).put 6 _).put 5 _).put 5 _)
                                  clear z0 z1 z2 z3 z4 z5 z6 z7 x0 x1 x2 x3 x4 x5 x6 x7 hfz hfx yk0
                                  generalize ((((w6.setCell ⟨w.heap.size + 1, 4, none⟩ (.string z)).setCell ⟨w.heap.size + 1, 6, none⟩ (.bool K3)).setCell ⟨w.heap.size + 1, 5, none⟩ (.int .i64 3)).setCell ⟨w.heap.size + 1, 5, none⟩ (.int .i64 1)) = W7 at D7 ⊢
                                  have z0 : (_ : Option Value) = some (.int .i64 0) := D7.Z.cell 0 (by simp [zF])
                                  have z1 : (_ : Option Value) = some (.int .i64 0) := D7.Z.cell 1 (by simp [zF])
                                  have z2 : (_ : Option Value) = some (.int .i64 0) := D7.Z.cell 2 (by simp [zF])
                                  have z3 : (_ : Option Value) = some (.int .i64 0) := D7.Z.cell 3 (by simp [zF])
                                  have z4 : (_ : Option Value) = some (.string ⟨#[]⟩) := D7.Z.cell 4 (by simp [zF])
                                  have z5 : (_ : Option Value) = some (.int .i64 0) := D7.Z.cell 5 (by simp [zF])
                                  have z6 : (_ : Option Value) = some (.bool false) := D7.Z.cell 6 (by simp [zF])
                                  have z7 : (_ : Option Value) = some (.int .i64 0) := D7.Z.cell 7 (by simp [zF])
                                  have hfz := fun j => D7.Z.free j
                                  have x0 : (_ : Option Value) = some (.int .i64 (b0.toNat : Int)) := D7.F.cell 0 (by simp)
                                  have x1 : (_ : Option Value) = some (.int .i64 (b1.toNat : Int)) := D7.F.cell 1 (by simp)
                                  have x2 : (_ : Option Value) = some (.int .i64 (b2.toNat : Int)) := D7.F.cell 2 (by simp)
                                  have x3 : (_ : Option Value) = some (.int .i64 1) := D7.F.cell 3 (by simp)
                                  have x4 : (_ : Option Value) = some (.string z) := D7.F.cell 4 (by simp)
                                  have x5 : (_ : Option Value) = some (.int .i64 1) := D7.F.cell 5 (by simp)
                                  have x6 : (_ : Option Value) = some (.bool K3) := D7.F.cell 6 (by simp)
                                  have x7 : (_ : Option Value) = some (.int .i64 (pi : Int)) := D7.F.cell 7 (by simp)
                                  have hfx := fun j => D7.F.free j
                                  go_wp2_with fail
                                  refine bodyPost_ret (v := vFound ⟨b0.toNat, b1.toNat, b2.toNat, 1, z, 1, K3, (pi : Int)⟩) (by simp [results, Tryz.results25, go_sem, World.cell?_setCell_other, z0, z1, z2, z3, z4, z5, z6, z7, vFound]) rfl ⟨by rw [← HN.out]; rfl, bb8 D7.B _ _ _ _ _ _ _ _⟩
                                exact AllReadyH.nil
                              exact AllReadyH.nil
                            exact AllReadyH.nil
                          exact AllReadyH.nil
                        exact AllReadyH.nil
                  · have fl := fun W hW => fl 32 W (by omega) hW
                    rw [show ((32 : Nat) : Int) = 32 from rfl] at fl
                    rw [show 8 * 2 ^ 2 = 32 from rfl] at HR4
                    obtain ⟨H2, hH2⟩ : ∃ H, fldL f (bl s) kj bj 32 = H := ⟨_, rfl⟩
                    rw [hH2] at fl HR4
                    have HR5 := Lib.hid HR4
                    clear hH2 HR4
                    have sb := fun W => sizeBytes_any 2 (by omega) (by omega) W
                    rw [show szB 2 = 32 from rfl] at sb
                    rcases H2 with _ | ⟨d, ok2⟩
                    · dsimp only [fldV] at fl
                      refine wp_region_held_drew (S := (fun W => W.cell? ⟨b, off + j * 3, none⟩ = some (.int .i64 (kj : Int)) ∧ W.cell? ⟨b, off + j * 3 + 1, none⟩ = some (.int .i64 (pj : Int)) ∧ W.cell? ⟨b, off + j * 3 + 2, none⟩ = some (.int .i64 (bj : Int)) ∧ W.cell? ⟨w.heap.size + 1, 3, none⟩ = some (.int .i64 2))) (by kernel_rfl) ?hS349 (fun hHeld => ?rest350)
                      case hS349 => (exact ⟨y0, y1, y2, x3⟩)
                      refine wpAnyH_take (i := 0) (oi := _) (v := ?v351) rfl (by kernel_rfl) (by kernel_rfl) (by kernel_rfl) (fun _ _ _ h => h) (Or.inl ⟨by rfl, ?hy352⟩) hHeld ?rest353
                      case hy352 => (intro w hSw; (try dsimp only at hSw); go_simp; (try with_reducible rfl))
                      try simp only [Act.put, List.setIfInBounds_toArray, List.set_cons_zero, List.set_cons_succ]
                      refine wpAnyH_take (i := 1) (oi := _) (v := ?v354) rfl (by kernel_rfl) (by kernel_rfl) (by kernel_rfl) (fun _ _ _ h => h) (Or.inl ⟨by rfl, ?hy355⟩) hHeld ?rest356
                      case hy355 => (intro w hSw; (try dsimp only at hSw); go_simp; (try with_reducible rfl))
                      try simp only [Act.put, List.setIfInBounds_toArray, List.set_cons_zero, List.set_cons_succ]
                      refine wpAnyH_take (i := 2) (oi := _) (v := ?v357) rfl (by kernel_rfl) (by kernel_rfl) (by kernel_rfl) (fun _ _ _ h => h) (Or.inl ⟨by rfl, ?hy358⟩) hHeld ?rest359
                      case hy358 => (intro w hSw; (try dsimp only at hSw); go_simp; (try with_reducible rfl))
                      try simp only [Act.put, List.setIfInBounds_toArray, List.set_cons_zero, List.set_cons_succ]
                      refine wpAnyH_take (i := 3) (oi := _) (v := ?v360) rfl (by kernel_rfl) (by kernel_rfl) (by kernel_rfl) (fun _ _ _ h => h) (Or.inl ⟨by rfl, ?hy361⟩) hHeld ?rest362
                      case hy361 => (intro w hSw; (try dsimp only at hSw); go_simp; (try with_reducible rfl))
                      try simp only [Act.put, List.setIfInBounds_toArray, List.set_cons_zero, List.set_cons_succ]
                      refine wpAnyH_take (i := 4) (oi := _) (v := ?v363) rfl (by kernel_rfl) (by kernel_rfl) (by kernel_rfl) (fun _ _ _ h => h) (Or.inl ⟨by rfl, ?hy364⟩) hHeld ?rest365
                      case hy364 => (intro w hSw; (try dsimp only at hSw); go_simp; (try with_reducible rfl))
                      try simp only [Act.put, List.setIfInBounds_toArray, List.set_cons_zero, List.set_cons_succ]
                      refine wpAnyH_take (i := 5) (oi := _) (v := ?v366) rfl (by kernel_rfl) (by kernel_rfl) (by kernel_rfl) (fun _ _ _ h => h) (Or.inl ⟨by rfl, ?hy367⟩) hHeld ?rest368
                      case hy367 => (intro w hSw; (try dsimp only at hSw); go_simp; (try with_reducible rfl))
                      try simp only [Act.put, List.setIfInBounds_toArray, List.set_cons_zero, List.set_cons_succ]
                      refine wpAnyH_take (i := 6) (oi := _) (v := ?v369) rfl (by kernel_rfl) (by kernel_rfl) (by kernel_rfl) (fun _ _ _ h => h) (Or.inl ⟨by rfl, ?hy370⟩) hHeld ?rest371
                      case hy370 => (intro w hSw; (try dsimp only at hSw); go_simp; (try with_reducible rfl))
                      try simp only [Act.put, List.setIfInBounds_toArray, List.set_cons_zero, List.set_cons_succ]
                      refine wpAnyH_take (i := 7) (oi := _) (v := ?v372) rfl (by kernel_rfl) (by kernel_rfl) (by kernel_rfl) (fun _ _ _ h => h) (Or.inl ⟨by rfl, ?hy373⟩) hHeld ?rest374
                      case hy373 => (intro w hSw; (try dsimp only at hSw); go_simp; (try with_reducible rfl))
                      try simp only [Act.put, List.setIfInBounds_toArray, List.set_cons_zero, List.set_cons_succ]
                      refine wpAnyH_ready (rs := [8]) (by kernel_rfl) (by simp) ?_
                      refine AllReadyH.cons (o := _) rfl (fun K hK => ?stp403) ?more404
                      case stp403 =>
                        go_simp
                        refine (sb _).mono ?_
                        rintro e w9 ⟨rfl, rfl⟩
                        (try go_wp2_with fail)
                        refine hK.out _ _ ?hS405 (fun hHeld2 => ?rest406)
                        case hS405 => (exact hHeld)
                        clear hK K hHeld
                        have hHeld := hHeld2
                        clear hHeld2
                        try simp only [Act.put, List.setIfInBounds_toArray, List.set_cons_zero, List.set_cons_succ]
                        refine wpAnyH_ready (rs := [9]) (by kernel_rfl) (by simp) ?_
                        refine AllReadyH.cons (o := _) rfl (fun K hK => ?stp399) ?more400
                        case stp399 =>
                          go_simp
                          refine (fl _ hG5).mono ?_
                          rintro e w6 ⟨rfl, hx6⟩
                          have D6 := D5.dr.next hx6
                          (try go_wp2_with fail)
                          refine hK.out _ _ ?hS401 (fun hHeld2 => ?rest402)
                          case hS401 => (exact ⟨(D6.B.cell (p := ⟨b, off + j * 3, none⟩) hb0).trans hcw0, (D6.B.cell (p := ⟨b, off + j * 3 + 1, none⟩) hb0).trans hcw1, (D6.B.cell (p := ⟨b, off + j * 3 + 2, none⟩) hb0).trans hcw2, D6.F.cell 3 (by simp)⟩)
                          clear hK K hHeld
                          have hHeld := hHeld2
                          clear hHeld2
                          try simp only [Act.put, List.setIfInBounds_toArray, List.set_cons_zero, List.set_cons_succ]
                          refine wpAnyH_take (i := 10) (oi := _) (v := ?v375) rfl (by kernel_rfl) (by kernel_rfl) (by kernel_rfl) (fun _ _ _ h => h) (Or.inl ⟨by rfl, ?hy376⟩) hHeld ?rest377
                          case hy376 => (intro w hSw; (try dsimp only at hSw); go_simp; (try with_reducible rfl))
                          try simp only [Act.put, List.setIfInBounds_toArray, List.set_cons_zero, List.set_cons_succ]
                          refine wpAnyH_take (i := 11) (oi := _) (v := ?v378) rfl (by kernel_rfl) (by kernel_rfl) (by kernel_rfl) (fun _ _ _ h => h) (Or.inl ⟨by rfl, ?hy379⟩) hHeld ?rest380
                          case hy379 => (intro w hSw; (try dsimp only at hSw); go_simp; (try with_reducible rfl))
                          try simp only [Act.put, List.setIfInBounds_toArray, List.set_cons_zero, List.set_cons_succ]
                          refine wpAnyH_take (i := 12) (oi := _) (v := ?v381) rfl (by kernel_rfl) (by kernel_rfl) (by kernel_rfl) (fun _ _ _ h => h) (Or.inl ⟨by rfl, ?hy382⟩) hHeld ?rest383
                          case hy382 => (intro w hSw; (try dsimp only at hSw); go_simp; (try with_reducible rfl))
                          try simp only [Act.put, List.setIfInBounds_toArray, List.set_cons_zero, List.set_cons_succ]
                          refine wpAnyH_take (i := 13) (oi := _) (v := ?v384) rfl (by kernel_rfl) (by kernel_rfl) (by kernel_rfl) (fun _ _ _ h => h) (Or.inl ⟨by rfl, ?hy385⟩) hHeld ?rest386
                          case hy385 => (intro w hSw; (try dsimp only at hSw); go_simp; (try with_reducible rfl))
                          try simp only [Act.put, List.setIfInBounds_toArray, List.set_cons_zero, List.set_cons_succ]
                          refine wpAnyH_ready (rs := [14]) (by kernel_rfl) (by simp) ?_
                          refine AllReadyH.cons (o := _) rfl (fun K hK => ?stp395) ?more396
                          case stp395 =>
                            go_simp
                            refine hK.out _ _ ?hS397 (fun hHeld2 => ?rest398)
                            case hS397 => (exact hHeld)
                            clear hK K hHeld
                            have hHeld := hHeld2
                            clear hHeld2
                            try simp only [Act.put, List.setIfInBounds_toArray, List.set_cons_zero, List.set_cons_succ]
                            refine wpAnyH_ready (rs := [15]) (by kernel_rfl) (by simp) ?_
                            refine AllReadyH.cons (o := _) rfl (fun K hK => ?stp391) ?more392
                            case stp391 =>
                              go_simp
                              refine hK.out _ _ ?hS393 (fun hHeld2 => ?rest394)
                              case hS393 => (exact hHeld)
                              clear hK K hHeld
                              have hHeld := hHeld2
                              clear hHeld2
                              try simp only [Act.put, List.setIfInBounds_toArray, List.set_cons_zero, List.set_cons_succ]
                              refine wpAnyH_ready (rs := [16]) (by kernel_rfl) (by simp) ?_
                              refine AllReadyH.cons (o := _) rfl (fun K hK => ?stp387) ?more388
                              case stp387 =>
                                go_simp
                                refine hK.out _ _ ?hS389 (fun hHeld2 => ?rest390)
                                case hS389 => (exact hHeld)
                                clear hK K hHeld
                                have hHeld := hHeld2
                                clear hHeld2
                                try simp only [Act.put, List.setIfInBounds_toArray, List.set_cons_zero, List.set_cons_succ]
                                refine wpAnyH_done (by kernel_rfl) ?_ _
                                have HN := Lib.hid HR5.out
                                have z0 : (_ : Option Value) = some (.int .i64 0) := D6.Z.cell 0 (by simp [zF])
                                have z1 : (_ : Option Value) = some (.int .i64 0) := D6.Z.cell 1 (by simp [zF])
                                have z2 : (_ : Option Value) = some (.int .i64 0) := D6.Z.cell 2 (by simp [zF])
                                have z3 : (_ : Option Value) = some (.int .i64 0) := D6.Z.cell 3 (by simp [zF])
                                have z4 : (_ : Option Value) = some (.string ⟨#[]⟩) := D6.Z.cell 4 (by simp [zF])
                                have z5 : (_ : Option Value) = some (.int .i64 0) := D6.Z.cell 5 (by simp [zF])
                                have z6 : (_ : Option Value) = some (.bool false) := D6.Z.cell 6 (by simp [zF])
                                have z7 : (_ : Option Value) = some (.int .i64 0) := D6.Z.cell 7 (by simp [zF])
                                have hfz := fun j => D6.Z.free j
                                have x0 : (_ : Option Value) = some (.int .i64 (b0.toNat : Int)) := D6.F.cell 0 (by simp)
                                have x1 : (_ : Option Value) = some (.int .i64 (b1.toNat : Int)) := D6.F.cell 1 (by simp)
                                have x2 : (_ : Option Value) = some (.int .i64 (b2.toNat : Int)) := D6.F.cell 2 (by simp)
                                have x3 : (_ : Option Value) = some (.int .i64 2) := D6.F.cell 3 (by simp)
                                have x4 : (_ : Option Value) = some (.string ⟨#[]⟩) := D6.F.cell 4 (by simp)
                                have x5 : (_ : Option Value) = some (.int .i64 4) := D6.F.cell 5 (by simp)
                                have x6 : (_ : Option Value) = some (.bool false) := D6.F.cell 6 (by simp)
                                have x7 : (_ : Option Value) = some (.int .i64 (pi : Int)) := D6.F.cell 7 (by simp)
                                have hfx := fun j => D6.F.free j
                                go_wp2_with fail
                                refine bodyPost_ret (v := vFound ⟨b0.toNat, b1.toNat, b2.toNat, 2, ⟨#[]⟩, 4, false, (pi : Int)⟩) (by simp [results, Tryz.results25, go_sem, World.cell?_setCell_other, z0, z1, z2, z3, z4, z5, z6, z7, vFound]) rfl ⟨by rw [← HN.out]; rfl, bb8 D6.B _ _ _ _ _ _ _ _⟩
                              exact AllReadyH.nil
                            exact AllReadyH.nil
                          exact AllReadyH.nil
                        exact AllReadyH.nil
                      exact AllReadyH.nil
                    · dsimp only [fldV] at fl
                      obtain ⟨z, hz⟩ : ∃ z, str1 d = z := ⟨_, rfl⟩
                      have HR6 := HR5.out
                      dsimp only at HR6
                      rw [hz] at fl HR6
                      have HR5 := Lib.hid HR6
                      clear HR6 hz
                      cases ok2
                      · skip
                        refine wp_region_held_drew (S := (fun W => W.cell? ⟨b, off + j * 3, none⟩ = some (.int .i64 (kj : Int)) ∧ W.cell? ⟨b, off + j * 3 + 1, none⟩ = some (.int .i64 (pj : Int)) ∧ W.cell? ⟨b, off + j * 3 + 2, none⟩ = some (.int .i64 (bj : Int)) ∧ W.cell? ⟨w.heap.size + 1, 3, none⟩ = some (.int .i64 2))) (by kernel_rfl) ?hS407 (fun hHeld => ?rest408)
                        case hS407 => (exact ⟨y0, y1, y2, x3⟩)
                        refine wpAnyH_take (i := 0) (oi := _) (v := ?v409) rfl (by kernel_rfl) (by kernel_rfl) (by kernel_rfl) (fun _ _ _ h => h) (Or.inl ⟨by rfl, ?hy410⟩) hHeld ?rest411
                        case hy410 => (intro w hSw; (try dsimp only at hSw); go_simp; (try with_reducible rfl))
                        try simp only [Act.put, List.setIfInBounds_toArray, List.set_cons_zero, List.set_cons_succ]
                        refine wpAnyH_take (i := 1) (oi := _) (v := ?v412) rfl (by kernel_rfl) (by kernel_rfl) (by kernel_rfl) (fun _ _ _ h => h) (Or.inl ⟨by rfl, ?hy413⟩) hHeld ?rest414
                        case hy413 => (intro w hSw; (try dsimp only at hSw); go_simp; (try with_reducible rfl))
                        try simp only [Act.put, List.setIfInBounds_toArray, List.set_cons_zero, List.set_cons_succ]
                        refine wpAnyH_take (i := 2) (oi := _) (v := ?v415) rfl (by kernel_rfl) (by kernel_rfl) (by kernel_rfl) (fun _ _ _ h => h) (Or.inl ⟨by rfl, ?hy416⟩) hHeld ?rest417
                        case hy416 => (intro w hSw; (try dsimp only at hSw); go_simp; (try with_reducible rfl))
                        try simp only [Act.put, List.setIfInBounds_toArray, List.set_cons_zero, List.set_cons_succ]
                        refine wpAnyH_take (i := 3) (oi := _) (v := ?v418) rfl (by kernel_rfl) (by kernel_rfl) (by kernel_rfl) (fun _ _ _ h => h) (Or.inl ⟨by rfl, ?hy419⟩) hHeld ?rest420
                        case hy419 => (intro w hSw; (try dsimp only at hSw); go_simp; (try with_reducible rfl))
                        try simp only [Act.put, List.setIfInBounds_toArray, List.set_cons_zero, List.set_cons_succ]
                        refine wpAnyH_take (i := 4) (oi := _) (v := ?v421) rfl (by kernel_rfl) (by kernel_rfl) (by kernel_rfl) (fun _ _ _ h => h) (Or.inl ⟨by rfl, ?hy422⟩) hHeld ?rest423
                        case hy422 => (intro w hSw; (try dsimp only at hSw); go_simp; (try with_reducible rfl))
                        try simp only [Act.put, List.setIfInBounds_toArray, List.set_cons_zero, List.set_cons_succ]
                        refine wpAnyH_take (i := 5) (oi := _) (v := ?v424) rfl (by kernel_rfl) (by kernel_rfl) (by kernel_rfl) (fun _ _ _ h => h) (Or.inl ⟨by rfl, ?hy425⟩) hHeld ?rest426
                        case hy425 => (intro w hSw; (try dsimp only at hSw); go_simp; (try with_reducible rfl))
                        try simp only [Act.put, List.setIfInBounds_toArray, List.set_cons_zero, List.set_cons_succ]
                        refine wpAnyH_take (i := 6) (oi := _) (v := ?v427) rfl (by kernel_rfl) (by kernel_rfl) (by kernel_rfl) (fun _ _ _ h => h) (Or.inl ⟨by rfl, ?hy428⟩) hHeld ?rest429
                        case hy428 => (intro w hSw; (try dsimp only at hSw); go_simp; (try with_reducible rfl))
                        try simp only [Act.put, List.setIfInBounds_toArray, List.set_cons_zero, List.set_cons_succ]
                        refine wpAnyH_take (i := 7) (oi := _) (v := ?v430) rfl (by kernel_rfl) (by kernel_rfl) (by kernel_rfl) (fun _ _ _ h => h) (Or.inl ⟨by rfl, ?hy431⟩) hHeld ?rest432
                        case hy431 => (intro w hSw; (try dsimp only at hSw); go_simp; (try with_reducible rfl))
                        try simp only [Act.put, List.setIfInBounds_toArray, List.set_cons_zero, List.set_cons_succ]
                        refine wpAnyH_ready (rs := [8]) (by kernel_rfl) (by simp) ?_
                        refine AllReadyH.cons (o := _) rfl (fun K hK => ?stp461) ?more462
                        case stp461 =>
                          go_simp
                          refine (sb _).mono ?_
                          rintro e w9 ⟨rfl, rfl⟩
                          (try go_wp2_with fail)
                          refine hK.out _ _ ?hS463 (fun hHeld2 => ?rest464)
                          case hS463 => (exact hHeld)
                          clear hK K hHeld
                          have hHeld := hHeld2
                          clear hHeld2
                          try simp only [Act.put, List.setIfInBounds_toArray, List.set_cons_zero, List.set_cons_succ]
                          refine wpAnyH_ready (rs := [9]) (by kernel_rfl) (by simp) ?_
                          refine AllReadyH.cons (o := _) rfl (fun K hK => ?stp457) ?more458
                          case stp457 =>
                            go_simp
                            refine (fl _ hG5).mono ?_
                            rintro e w6 ⟨rfl, hx6⟩
                            have D6 := D5.dr.next hx6
                            (try go_wp2_with fail)
                            refine hK.out _ _ ?hS459 (fun hHeld2 => ?rest460)
                            case hS459 => (exact ⟨(D6.B.cell (p := ⟨b, off + j * 3, none⟩) hb0).trans hcw0, (D6.B.cell (p := ⟨b, off + j * 3 + 1, none⟩) hb0).trans hcw1, (D6.B.cell (p := ⟨b, off + j * 3 + 2, none⟩) hb0).trans hcw2, D6.F.cell 3 (by simp)⟩)
                            clear hK K hHeld
                            have hHeld := hHeld2
                            clear hHeld2
                            try simp only [Act.put, List.setIfInBounds_toArray, List.set_cons_zero, List.set_cons_succ]
                            refine wpAnyH_take (i := 10) (oi := _) (v := ?v433) rfl (by kernel_rfl) (by kernel_rfl) (by kernel_rfl) (fun _ _ _ h => h) (Or.inl ⟨by rfl, ?hy434⟩) hHeld ?rest435
                            case hy434 => (intro w hSw; (try dsimp only at hSw); go_simp; (try with_reducible rfl))
                            try simp only [Act.put, List.setIfInBounds_toArray, List.set_cons_zero, List.set_cons_succ]
                            refine wpAnyH_take (i := 11) (oi := _) (v := ?v436) rfl (by kernel_rfl) (by kernel_rfl) (by kernel_rfl) (fun _ _ _ h => h) (Or.inl ⟨by rfl, ?hy437⟩) hHeld ?rest438
                            case hy437 => (intro w hSw; (try dsimp only at hSw); go_simp; (try with_reducible rfl))
                            try simp only [Act.put, List.setIfInBounds_toArray, List.set_cons_zero, List.set_cons_succ]
                            refine wpAnyH_take (i := 12) (oi := _) (v := ?v439) rfl (by kernel_rfl) (by kernel_rfl) (by kernel_rfl) (fun _ _ _ h => h) (Or.inl ⟨by rfl, ?hy440⟩) hHeld ?rest441
                            case hy440 => (intro w hSw; (try dsimp only at hSw); go_simp; (try with_reducible rfl))
                            try simp only [Act.put, List.setIfInBounds_toArray, List.set_cons_zero, List.set_cons_succ]
                            refine wpAnyH_take (i := 13) (oi := _) (v := ?v442) rfl (by kernel_rfl) (by kernel_rfl) (by kernel_rfl) (fun _ _ _ h => h) (Or.inl ⟨by rfl, ?hy443⟩) hHeld ?rest444
                            case hy443 => (intro w hSw; (try dsimp only at hSw); go_simp; (try with_reducible rfl))
                            try simp only [Act.put, List.setIfInBounds_toArray, List.set_cons_zero, List.set_cons_succ]
                            refine wpAnyH_ready (rs := [14]) (by kernel_rfl) (by simp) ?_
                            refine AllReadyH.cons (o := _) rfl (fun K hK => ?stp453) ?more454
                            case stp453 =>
                              go_simp
                              refine hK.out _ _ ?hS455 (fun hHeld2 => ?rest456)
                              case hS455 => (exact hHeld)
                              clear hK K hHeld
                              have hHeld := hHeld2
                              clear hHeld2
                              try simp only [Act.put, List.setIfInBounds_toArray, List.set_cons_zero, List.set_cons_succ]
                              refine wpAnyH_ready (rs := [15]) (by kernel_rfl) (by simp) ?_
                              refine AllReadyH.cons (o := _) rfl (fun K hK => ?stp449) ?more450
                              case stp449 =>
                                go_simp
                                refine hK.out _ _ ?hS451 (fun hHeld2 => ?rest452)
                                case hS451 => (exact hHeld)
                                clear hK K hHeld
                                have hHeld := hHeld2
                                clear hHeld2
                                try simp only [Act.put, List.setIfInBounds_toArray, List.set_cons_zero, List.set_cons_succ]
                                refine wpAnyH_ready (rs := [16]) (by kernel_rfl) (by simp) ?_
                                refine AllReadyH.cons (o := _) rfl (fun K hK => ?stp445) ?more446
                                case stp445 =>
                                  go_simp
                                  refine hK.out _ _ ?hS447 (fun hHeld2 => ?rest448)
                                  case hS447 => (exact hHeld)
                                  clear hK K hHeld
                                  have hHeld := hHeld2
                                  clear hHeld2
                                  try simp only [Act.put, List.setIfInBounds_toArray, List.set_cons_zero, List.set_cons_succ]
                                  refine wpAnyH_done (by kernel_rfl) ?_ _
                                  have HN := Lib.hid HR5.out
                                  have z0 : (_ : Option Value) = some (.int .i64 0) := D6.Z.cell 0 (by simp [zF])
                                  have z1 : (_ : Option Value) = some (.int .i64 0) := D6.Z.cell 1 (by simp [zF])
                                  have z2 : (_ : Option Value) = some (.int .i64 0) := D6.Z.cell 2 (by simp [zF])
                                  have z3 : (_ : Option Value) = some (.int .i64 0) := D6.Z.cell 3 (by simp [zF])
                                  have z4 : (_ : Option Value) = some (.string ⟨#[]⟩) := D6.Z.cell 4 (by simp [zF])
                                  have z5 : (_ : Option Value) = some (.int .i64 0) := D6.Z.cell 5 (by simp [zF])
                                  have z6 : (_ : Option Value) = some (.bool false) := D6.Z.cell 6 (by simp [zF])
                                  have z7 : (_ : Option Value) = some (.int .i64 0) := D6.Z.cell 7 (by simp [zF])
                                  have hfz := fun j => D6.Z.free j
                                  have x0 : (_ : Option Value) = some (.int .i64 (b0.toNat : Int)) := D6.F.cell 0 (by simp)
                                  have x1 : (_ : Option Value) = some (.int .i64 (b1.toNat : Int)) := D6.F.cell 1 (by simp)
                                  have x2 : (_ : Option Value) = some (.int .i64 (b2.toNat : Int)) := D6.F.cell 2 (by simp)
                                  have x3 : (_ : Option Value) = some (.int .i64 2) := D6.F.cell 3 (by simp)
                                  have x4 : (_ : Option Value) = some (.string ⟨#[]⟩) := D6.F.cell 4 (by simp)
                                  have x5 : (_ : Option Value) = some (.int .i64 4) := D6.F.cell 5 (by simp)
                                  have x6 : (_ : Option Value) = some (.bool false) := D6.F.cell 6 (by simp)
                                  have x7 : (_ : Option Value) = some (.int .i64 (pi : Int)) := D6.F.cell 7 (by simp)
                                  have hfx := fun j => D6.F.free j
                                  have yk0 := (D6.B.cell (p := ⟨b, off + j * 3, none⟩) hb0).trans hcw0
                                  go_upto_region 20 with fail
                                  have D7 : ZX w (((w6.setCell ⟨w.heap.size + 1, 4, none⟩ (.string z)).setCell ⟨w.heap.size + 1, 6, none⟩ (.bool K3)).setCell ⟨w.heap.size + 1, 5, none⟩ (.int .i64 3)) [.int .i64 (b0.toNat : Int), .int .i64 (b1.toNat : Int), .int .i64 (b2.toNat : Int), .int .i64 2, .string z, .int .i64 3, .bool K3, .int .i64 (pi : Int)] := (((D6.put 4 _).put 6 _).put 5 _)
                                  clear z0 z1 z2 z3 z4 z5 z6 z7 x0 x1 x2 x3 x4 x5 x6 x7 hfz hfx yk0
                                  generalize (((w6.setCell ⟨w.heap.size + 1, 4, none⟩ (.string z)).setCell ⟨w.heap.size + 1, 6, none⟩ (.bool K3)).setCell ⟨w.heap.size + 1, 5, none⟩ (.int .i64 3)) = W7 at D7 ⊢
                                  have z0 : (_ : Option Value) = some (.int .i64 0) := D7.Z.cell 0 (by simp [zF])
                                  have z1 : (_ : Option Value) = some (.int .i64 0) := D7.Z.cell 1 (by simp [zF])
                                  have z2 : (_ : Option Value) = some (.int .i64 0) := D7.Z.cell 2 (by simp [zF])
                                  have z3 : (_ : Option Value) = some (.int .i64 0) := D7.Z.cell 3 (by simp [zF])
                                  have z4 : (_ : Option Value) = some (.string ⟨#[]⟩) := D7.Z.cell 4 (by simp [zF])
                                  have z5 : (_ : Option Value) = some (.int .i64 0) := D7.Z.cell 5 (by simp [zF])
                                  have z6 : (_ : Option Value) = some (.bool false) := D7.Z.cell 6 (by simp [zF])
                                  have z7 : (_ : Option Value) = some (.int .i64 0) := D7.Z.cell 7 (by simp [zF])
                                  have hfz := fun j => D7.Z.free j
                                  have x0 : (_ : Option Value) = some (.int .i64 (b0.toNat : Int)) := D7.F.cell 0 (by simp)
                                  have x1 : (_ : Option Value) = some (.int .i64 (b1.toNat : Int)) := D7.F.cell 1 (by simp)
                                  have x2 : (_ : Option Value) = some (.int .i64 (b2.toNat : Int)) := D7.F.cell 2 (by simp)
                                  have x3 : (_ : Option Value) = some (.int .i64 2) := D7.F.cell 3 (by simp)
                                  have x4 : (_ : Option Value) = some (.string z) := D7.F.cell 4 (by simp)
                                  have x5 : (_ : Option Value) = some (.int .i64 3) := D7.F.cell 5 (by simp)
                                  have x6 : (_ : Option Value) = some (.bool K3) := D7.F.cell 6 (by simp)
                                  have x7 : (_ : Option Value) = some (.int .i64 (pi : Int)) := D7.F.cell 7 (by simp)
                                  have hfx := fun j => D7.F.free j
                                  go_wp2_with fail
                                  refine bodyPost_ret (v := vFound ⟨b0.toNat, b1.toNat, b2.toNat, 2, z, 3, K3, (pi : Int)⟩) (by simp [results, Tryz.results25, go_sem, World.cell?_setCell_other, z0, z1, z2, z3, z4, z5, z6, z7, vFound]) rfl ⟨by rw [← HN.out]; rfl, bb8 D7.B _ _ _ _ _ _ _ _⟩
                                exact AllReadyH.nil
                              exact AllReadyH.nil
                            exact AllReadyH.nil
                          exact AllReadyH.nil
                        exact AllReadyH.nil
                      · skip
                        refine wp_region_held_drew (S := (fun W => W.cell? ⟨b, off + j * 3, none⟩ = some (.int .i64 (kj : Int)) ∧ W.cell? ⟨b, off + j * 3 + 1, none⟩ = some (.int .i64 (pj : Int)) ∧ W.cell? ⟨b, off + j * 3 + 2, none⟩ = some (.int .i64 (bj : Int)) ∧ W.cell? ⟨w.heap.size + 1, 3, none⟩ = some (.int .i64 2))) (by kernel_rfl) ?hS465 (fun hHeld => ?rest466)
                        case hS465 => (exact ⟨y0, y1, y2, x3⟩)
                        refine wpAnyH_take (i := 0) (oi := _) (v := ?v467) rfl (by kernel_rfl) (by kernel_rfl) (by kernel_rfl) (fun _ _ _ h => h) (Or.inl ⟨by rfl, ?hy468⟩) hHeld ?rest469
                        case hy468 => (intro w hSw; (try dsimp only at hSw); go_simp; (try with_reducible rfl))
                        try simp only [Act.put, List.setIfInBounds_toArray, List.set_cons_zero, List.set_cons_succ]
                        refine wpAnyH_take (i := 1) (oi := _) (v := ?v470) rfl (by kernel_rfl) (by kernel_rfl) (by kernel_rfl) (fun _ _ _ h => h) (Or.inl ⟨by rfl, ?hy471⟩) hHeld ?rest472
                        case hy471 => (intro w hSw; (try dsimp only at hSw); go_simp; (try with_reducible rfl))
                        try simp only [Act.put, List.setIfInBounds_toArray, List.set_cons_zero, List.set_cons_succ]
                        refine wpAnyH_take (i := 2) (oi := _) (v := ?v473) rfl (by kernel_rfl) (by kernel_rfl) (by kernel_rfl) (fun _ _ _ h => h) (Or.inl ⟨by rfl, ?hy474⟩) hHeld ?rest475
                        case hy474 => (intro w hSw; (try dsimp only at hSw); go_simp; (try with_reducible rfl))
                        try simp only [Act.put, List.setIfInBounds_toArray, List.set_cons_zero, List.set_cons_succ]
                        refine wpAnyH_take (i := 3) (oi := _) (v := ?v476) rfl (by kernel_rfl) (by kernel_rfl) (by kernel_rfl) (fun _ _ _ h => h) (Or.inl ⟨by rfl, ?hy477⟩) hHeld ?rest478
                        case hy477 => (intro w hSw; (try dsimp only at hSw); go_simp; (try with_reducible rfl))
                        try simp only [Act.put, List.setIfInBounds_toArray, List.set_cons_zero, List.set_cons_succ]
                        refine wpAnyH_take (i := 4) (oi := _) (v := ?v479) rfl (by kernel_rfl) (by kernel_rfl) (by kernel_rfl) (fun _ _ _ h => h) (Or.inl ⟨by rfl, ?hy480⟩) hHeld ?rest481
                        case hy480 => (intro w hSw; (try dsimp only at hSw); go_simp; (try with_reducible rfl))
                        try simp only [Act.put, List.setIfInBounds_toArray, List.set_cons_zero, List.set_cons_succ]
                        refine wpAnyH_take (i := 5) (oi := _) (v := ?v482) rfl (by kernel_rfl) (by kernel_rfl) (by kernel_rfl) (fun _ _ _ h => h) (Or.inl ⟨by rfl, ?hy483⟩) hHeld ?rest484
                        case hy483 => (intro w hSw; (try dsimp only at hSw); go_simp; (try with_reducible rfl))
                        try simp only [Act.put, List.setIfInBounds_toArray, List.set_cons_zero, List.set_cons_succ]
                        refine wpAnyH_take (i := 6) (oi := _) (v := ?v485) rfl (by kernel_rfl) (by kernel_rfl) (by kernel_rfl) (fun _ _ _ h => h) (Or.inl ⟨by rfl, ?hy486⟩) hHeld ?rest487
                        case hy486 => (intro w hSw; (try dsimp only at hSw); go_simp; (try with_reducible rfl))
                        try simp only [Act.put, List.setIfInBounds_toArray, List.set_cons_zero, List.set_cons_succ]
                        refine wpAnyH_take (i := 7) (oi := _) (v := ?v488) rfl (by kernel_rfl) (by kernel_rfl) (by kernel_rfl) (fun _ _ _ h => h) (Or.inl ⟨by rfl, ?hy489⟩) hHeld ?rest490
                        case hy489 => (intro w hSw; (try dsimp only at hSw); go_simp; (try with_reducible rfl))
                        try simp only [Act.put, List.setIfInBounds_toArray, List.set_cons_zero, List.set_cons_succ]
                        refine wpAnyH_ready (rs := [8]) (by kernel_rfl) (by simp) ?_
                        refine AllReadyH.cons (o := _) rfl (fun K hK => ?stp519) ?more520
                        case stp519 =>
                          go_simp
                          refine (sb _).mono ?_
                          rintro e w9 ⟨rfl, rfl⟩
                          (try go_wp2_with fail)
                          refine hK.out _ _ ?hS521 (fun hHeld2 => ?rest522)
                          case hS521 => (exact hHeld)
                          clear hK K hHeld
                          have hHeld := hHeld2
                          clear hHeld2
                          try simp only [Act.put, List.setIfInBounds_toArray, List.set_cons_zero, List.set_cons_succ]
                          refine wpAnyH_ready (rs := [9]) (by kernel_rfl) (by simp) ?_
                          refine AllReadyH.cons (o := _) rfl (fun K hK => ?stp515) ?more516
                          case stp515 =>
                            go_simp
                            refine (fl _ hG5).mono ?_
                            rintro e w6 ⟨rfl, hx6⟩
                            have D6 := D5.dr.next hx6
                            (try go_wp2_with fail)
                            refine hK.out _ _ ?hS517 (fun hHeld2 => ?rest518)
                            case hS517 => (exact ⟨(D6.B.cell (p := ⟨b, off + j * 3, none⟩) hb0).trans hcw0, (D6.B.cell (p := ⟨b, off + j * 3 + 1, none⟩) hb0).trans hcw1, (D6.B.cell (p := ⟨b, off + j * 3 + 2, none⟩) hb0).trans hcw2, D6.F.cell 3 (by simp)⟩)
                            clear hK K hHeld
                            have hHeld := hHeld2
                            clear hHeld2
                            try simp only [Act.put, List.setIfInBounds_toArray, List.set_cons_zero, List.set_cons_succ]
                            refine wpAnyH_take (i := 10) (oi := _) (v := ?v491) rfl (by kernel_rfl) (by kernel_rfl) (by kernel_rfl) (fun _ _ _ h => h) (Or.inl ⟨by rfl, ?hy492⟩) hHeld ?rest493
                            case hy492 => (intro w hSw; (try dsimp only at hSw); go_simp; (try with_reducible rfl))
                            try simp only [Act.put, List.setIfInBounds_toArray, List.set_cons_zero, List.set_cons_succ]
                            refine wpAnyH_take (i := 11) (oi := _) (v := ?v494) rfl (by kernel_rfl) (by kernel_rfl) (by kernel_rfl) (fun _ _ _ h => h) (Or.inl ⟨by rfl, ?hy495⟩) hHeld ?rest496
                            case hy495 => (intro w hSw; (try dsimp only at hSw); go_simp; (try with_reducible rfl))
                            try simp only [Act.put, List.setIfInBounds_toArray, List.set_cons_zero, List.set_cons_succ]
                            refine wpAnyH_take (i := 12) (oi := _) (v := ?v497) rfl (by kernel_rfl) (by kernel_rfl) (by kernel_rfl) (fun _ _ _ h => h) (Or.inl ⟨by rfl, ?hy498⟩) hHeld ?rest499
                            case hy498 => (intro w hSw; (try dsimp only at hSw); go_simp; (try with_reducible rfl))
                            try simp only [Act.put, List.setIfInBounds_toArray, List.set_cons_zero, List.set_cons_succ]
                            refine wpAnyH_take (i := 13) (oi := _) (v := ?v500) rfl (by kernel_rfl) (by kernel_rfl) (by kernel_rfl) (fun _ _ _ h => h) (Or.inl ⟨by rfl, ?hy501⟩) hHeld ?rest502
                            case hy501 => (intro w hSw; (try dsimp only at hSw); go_simp; (try with_reducible rfl))
                            try simp only [Act.put, List.setIfInBounds_toArray, List.set_cons_zero, List.set_cons_succ]
                            refine wpAnyH_ready (rs := [14]) (by kernel_rfl) (by simp) ?_
                            refine AllReadyH.cons (o := _) rfl (fun K hK => ?stp511) ?more512
                            case stp511 =>
                              go_simp
                              refine hK.out _ _ ?hS513 (fun hHeld2 => ?rest514)
                              case hS513 => (exact hHeld)
                              clear hK K hHeld
                              have hHeld := hHeld2
                              clear hHeld2
                              try simp only [Act.put, List.setIfInBounds_toArray, List.set_cons_zero, List.set_cons_succ]
                              refine wpAnyH_ready (rs := [15]) (by kernel_rfl) (by simp) ?_
                              refine AllReadyH.cons (o := _) rfl (fun K hK => ?stp507) ?more508
                              case stp507 =>
                                go_simp
                                refine hK.out _ _ ?hS509 (fun hHeld2 => ?rest510)
                                case hS509 => (exact hHeld)
                                clear hK K hHeld
                                have hHeld := hHeld2
                                clear hHeld2
                                try simp only [Act.put, List.setIfInBounds_toArray, List.set_cons_zero, List.set_cons_succ]
                                refine wpAnyH_ready (rs := [16]) (by kernel_rfl) (by simp) ?_
                                refine AllReadyH.cons (o := _) rfl (fun K hK => ?stp503) ?more504
                                case stp503 =>
                                  go_simp
                                  refine hK.out _ _ ?hS505 (fun hHeld2 => ?rest506)
                                  case hS505 => (exact hHeld)
                                  clear hK K hHeld
                                  have hHeld := hHeld2
                                  clear hHeld2
                                  try simp only [Act.put, List.setIfInBounds_toArray, List.set_cons_zero, List.set_cons_succ]
                                  refine wpAnyH_done (by kernel_rfl) ?_ _
                                  have HN := Lib.hid HR5.out
                                  have z0 : (_ : Option Value) = some (.int .i64 0) := D6.Z.cell 0 (by simp [zF])
                                  have z1 : (_ : Option Value) = some (.int .i64 0) := D6.Z.cell 1 (by simp [zF])
                                  have z2 : (_ : Option Value) = some (.int .i64 0) := D6.Z.cell 2 (by simp [zF])
                                  have z3 : (_ : Option Value) = some (.int .i64 0) := D6.Z.cell 3 (by simp [zF])
                                  have z4 : (_ : Option Value) = some (.string ⟨#[]⟩) := D6.Z.cell 4 (by simp [zF])
                                  have z5 : (_ : Option Value) = some (.int .i64 0) := D6.Z.cell 5 (by simp [zF])
                                  have z6 : (_ : Option Value) = some (.bool false) := D6.Z.cell 6 (by simp [zF])
                                  have z7 : (_ : Option Value) = some (.int .i64 0) := D6.Z.cell 7 (by simp [zF])
                                  have hfz := fun j => D6.Z.free j
                                  have x0 : (_ : Option Value) = some (.int .i64 (b0.toNat : Int)) := D6.F.cell 0 (by simp)
                                  have x1 : (_ : Option Value) = some (.int .i64 (b1.toNat : Int)) := D6.F.cell 1 (by simp)
                                  have x2 : (_ : Option Value) = some (.int .i64 (b2.toNat : Int)) := D6.F.cell 2 (by simp)
                                  have x3 : (_ : Option Value) = some (.int .i64 2) := D6.F.cell 3 (by simp)
                                  have x4 : (_ : Option Value) = some (.string ⟨#[]⟩) := D6.F.cell 4 (by simp)
                                  have x5 : (_ : Option Value) = some (.int .i64 4) := D6.F.cell 5 (by simp)
                                  have x6 : (_ : Option Value) = some (.bool false) := D6.F.cell 6 (by simp)
                                  have x7 : (_ : Option Value) = some (.int .i64 (pi : Int)) := D6.F.cell 7 (by simp)
                                  have hfx := fun j => D6.F.free j
                                  have yk0 := (D6.B.cell (p := ⟨b, off + j * 3, none⟩) hb0).trans hcw0
                                  go_upto_region 20 with fail
                                  have D7 : ZX w ((((w6.setCell ⟨w.heap.size + 1, 4, none⟩ (.string z)).setCell ⟨w.heap.size + 1, 6, none⟩ (.bool K3)).setCell ⟨w.heap.size + 1, 5, none⟩ (.int .i64 3)).setCell ⟨w.heap.size + 1, 5, none⟩ (.int .i64 1)) [.int .i64 (b0.toNat : Int), .int .i64 (b1.toNat : Int), .int .i64 (b2.toNat : Int), .int .i64 2, .string z, .int .i64 1, .bool K3, .int .i64 (pi : Int)] := ((((D6.put 4 _).put 6 _).put 5 _).put 5 _)
                                  clear z0 z1 z2 z3 z4 z5 z6 z7 x0 x1 x2 x3 x4 x5 x6 x7 hfz hfx yk0
                                  generalize ((((w6.setCell ⟨w.heap.size + 1, 4, none⟩ (.string z)).setCell ⟨w.heap.size + 1, 6, none⟩ (.bool K3)).setCell ⟨w.heap.size + 1, 5, none⟩ (.int .i64 3)).setCell ⟨w.heap.size + 1, 5, none⟩ (.int .i64 1)) = W7 at D7 ⊢
                                  have z0 : (_ : Option Value) = some (.int .i64 0) := D7.Z.cell 0 (by simp [zF])
                                  have z1 : (_ : Option Value) = some (.int .i64 0) := D7.Z.cell 1 (by simp [zF])
                                  have z2 : (_ : Option Value) = some (.int .i64 0) := D7.Z.cell 2 (by simp [zF])
                                  have z3 : (_ : Option Value) = some (.int .i64 0) := D7.Z.cell 3 (by simp [zF])
                                  have z4 : (_ : Option Value) = some (.string ⟨#[]⟩) := D7.Z.cell 4 (by simp [zF])
                                  have z5 : (_ : Option Value) = some (.int .i64 0) := D7.Z.cell 5 (by simp [zF])
                                  have z6 : (_ : Option Value) = some (.bool false) := D7.Z.cell 6 (by simp [zF])
                                  have z7 : (_ : Option Value) = some (.int .i64 0) := D7.Z.cell 7 (by simp [zF])
                                  have hfz := fun j => D7.Z.free j
                                  have x0 : (_ : Option Value) = some (.int .i64 (b0.toNat : Int)) := D7.F.cell 0 (by simp)
                                  have x1 : (_ : Option Value) = some (.int .i64 (b1.toNat : Int)) := D7.F.cell 1 (by simp)
                                  have x2 : (_ : Option Value) = some (.int .i64 (b2.toNat : Int)) := D7.F.cell 2 (by simp)
                                  have x3 : (_ : Option Value) = some (.int .i64 2) := D7.F.cell 3 (by simp)
                                  have x4 : (_ : Option Value) = some (.string z) := D7.F.cell 4 (by simp)
                                  have x5 : (_ : Option Value) = some (.int .i64 1) := D7.F.cell 5 (by simp)
                                  have x6 : (_ : Option Value) = some (.bool K3) := D7.F.cell 6 (by simp)
                                  have x7 : (_ : Option Value) = some (.int .i64 (pi : Int)) := D7.F.cell 7 (by simp)
                                  have hfx := fun j => D7.F.free j
                                  go_wp2_with fail
                                  refine bodyPost_ret (v := vFound ⟨b0.toNat, b1.toNat, b2.toNat, 2, z, 1, K3, (pi : Int)⟩) (by simp [results, Tryz.results25, go_sem, World.cell?_setCell_other, z0, z1, z2, z3, z4, z5, z6, z7, vFound]) rfl ⟨by rw [← HN.out]; rfl, bb8 D7.B _ _ _ _ _ _ _ _⟩
                                exact AllReadyH.nil
                              exact AllReadyH.nil
                            exact AllReadyH.nil
                          exact AllReadyH.nil
                        exact AllReadyH.nil

          exact AllReadyH.nil
        exact AllReadyH.nil
      exact AllReadyH.nil
    exact AllReadyH.nil
end Go.Proofs.YtlfmpgfobkmgfaaGreatDoor
