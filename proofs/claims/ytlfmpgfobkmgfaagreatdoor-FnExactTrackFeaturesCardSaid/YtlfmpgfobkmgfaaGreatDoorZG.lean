/- Walks: the texts Y15 as one text. -/
import Derived.Test.YtlfmpgfobkmgfaaGreatDoorZC
namespace Go.Proofs.YtlfmpgfobkmgfaaGreatDoor
open Go.RowKit Go.Deep Go.Lib
set_option linter.unusedVariables false
set_option linter.unusedSimpArgs false

/-- The row of features behind its box (the first block made), and what lay before is kept. -/
structure SX (w0 W : World) (v : Value) (l : List DFeature) : Prop where
  F : BX W w0.heap.size 22 [v]
  O : W.ownsRow (w0.heap.size + 1) 35 3 v l.length (flat fFeature l)
  Bw : BB w0 W
/-- The same with the boxes of a round: the index and the sector. -/
structure RX (w0 W : World) (v : Value) (l : List DFeature) (bi bf : Nat) (i : Int) (y : DFound) : Prop where
  X : SX w0 W v l
  I : BX W bi 3 [.int .i64 i]
  Y : BX W bf 45 (fFound y)
  hi : v.ownBlock ≠ some bi
  hf : v.ownBlock ≠ some bf
  bi0 : w0.heap.size < bi
  bf0 : w0.heap.size < bf
section
variable {w0 W W' : World} {v : Value} {l : List DFeature} {bi bf : Nat} {i : Int} {y : DFound}
theorem SX.al (H : SX w0 W v l) (o : Obj) : SX w0 (W.alloc o) v l := ⟨H.F.al o, World.ownsRow.alloc H.O o, BB.al H.Bw o⟩
theorem SX.next (H : SX w0 W v l) (hx : Below W.heap.size W W') : SX w0 W' v l := ⟨H.F.below hx H.F.lt, own_later H.O hx (Nat.le_refl _), BB.next H.Bw hx⟩
theorem RX.next (H : RX w0 W v l bi bf i y) (hx : Below W.heap.size W W') : RX w0 W' v l bi bf i y := ⟨H.X.next hx, H.I.below hx H.I.lt, H.Y.below hx H.Y.lt, H.hi, H.hf, H.bi0, H.bf0⟩
end
theorem SX.start (w0 : World) : SX w0 (w0.alloc (.cells #[.slice none 0 0] 22)) (.slice none 0 0) [] := ⟨BX.made w0 _ _, World.ownsRow_nil _ _ _ _, BB.al (BB.start w0) _⟩

set_option maxRecDepth 100000 in
set_option maxHeartbeats 4000000 in
theorem add_any (k x : Int) {w0 W : World} {v : Value} {l : List DFeature} {bi bf : Nat} {i : Int} {y : DFound} (H : RX w0 W v l bi bf i y) (hl : l.length ≤ 1000000) :
    Calls Tryz.prog 26 #[.int .i64 k, .int .i64 x, .pointer (some ⟨w0.heap.size, 0, none⟩), .pointer (some ⟨bi, 0, none⟩)] W fun e W' => e = .returned (.tuple #[]) ∧ ∃ v', RX w0 W' v' (l ++ [(⟨k, i, x⟩ : DFeature)]) bi bf i y := by
  obtain ⟨A, c, rfl⟩ := own_form H.X.O
  have f0 : (_ : Option Value) = some (.slice A l.length c) := H.X.F.cell 0 (by simp)
  have i0 : (_ : Option Value) = some (.int .i64 i) := H.I.cell 0 (by simp)
  have ffz := fun j => H.X.F.free j
  have hO := H.X.O
  have hbase : w0.heap.size + 1 ≤ W.heap.size := H.X.F.lt
  have hby : 24 ≤ 1000 := by decide
  have hlb : l.length ≤ 100000000 := by omega
  go_enter Tryz.func26, Tryz.ntmps26
  have hne : (Value.slice A l.length c).ownBlock ≠ some w0.heap.size := OO.ne_old hO (Nat.lt_succ_self _)
  have hL1 : (l ++ [(⟨k, i, x⟩ : DFeature)]).length = l.length + 1 := by rw [List.length_append]; rfl
  go_wp2_with (at_builtin; go_must (refine wpList_appF (f := fFeature) rfl (.tmp 6) (.tmp 11) 22 rfl eltFeature hby (.slice A l.length c) l rfl hO #[.int .i64 k, .int .i64 i, .int .i64 x] 35 (⟨k, i, x⟩ : DFeature) 1 rfl rfl rfl (oneE _) hlb hbase ?_); intro v' w' hown' hg' hat' hbl'; rw [hL1] at hown'; obtain ⟨A', c', rfl⟩ := own_form hown'; have F' := (H.X.F.al (.cells #[.int .i64 k, .int .i64 i, .int .i64 x] 35)).grown hg' hne; have I' := (H.I.al (.cells #[.int .i64 k, .int .i64 i, .int .i64 x] 35)).grown hg' H.hi; have Y' := (H.Y.al (.cells #[.int .i64 k, .int .i64 i, .int .i64 x] 35)).grown hg' H.hf; have p0 : (_ : Option Value) = some (.slice A l.length c) := F'.cell 0 (by simp); have pfz := fun j => F'.free j)
  have hne' : (Value.slice A' (l.length + 1) c').ownBlock ≠ some w0.heap.size := OO.ne_old hown' (Nat.lt_succ_self _)
  have hIl := H.I.lt
  have hYl := H.Y.lt
  refine bodyPost_end (v := .tuple #[]) (by simp [results, Tryz.results26, go_sem]) rfl ⟨rfl, .slice A' (l.length + 1) c', ⟨⟨F'.put 0 _, ?_, ?_⟩, I'.far (a := ⟨w0.heap.size, 0, none⟩) (fun e => by have h1 := H.bi0; have h2 : bi = w0.heap.size := e; omega) _, Y'.far (a := ⟨w0.heap.size, 0, none⟩) (fun e => by have h1 := H.bf0; have h2 : bf = w0.heap.size := e; omega) _, ?_, ?_, H.bi0, H.bf0⟩⟩
  · rw [hL1]
    exact OO.put hown' (a := ⟨w0.heap.size, 0, none⟩) (Nat.lt_succ_self _) _
  · exact BB.put (Below.trans H.X.Bw (hbl'.mono (Nat.le_succ _))) (a := ⟨w0.heap.size, 0, none⟩) (Nat.le_refl _) _
  · rcases hat' with h | h
    · rw [h]; exact H.hi
    · rw [h]; intro e; have := Option.some.inj e; omega
  · rcases hat' with h | h
    · rw [h]; exact H.hf
    · rw [h]; intro e; have := Option.some.inj e; omega


set_option maxRecDepth 100000 in
set_option maxHeartbeats 8000000 in
theorem sectorFeatures_a (zs : List DFound) (A : Option Addr) (q : Nat) (cy hd : Int) (w : World) (hr : Rd w w.heap.size 8 A zs.length (flat fFound zs)) (hl : zs.length ≤ 100) (hq : zs.length ≤ q) :
    Calls Tryz.prog 17 #[.slice A zs.length q, .int .i64 cy, .int .i64 hd] w fun e w' => ∃ v, e = .returned v ∧ w'.ownsRow w.heap.size 35 3 v (ftK zs cy hd zs.length).length (flat fFeature (ftK zs cy hd zs.length)) ∧ Below w.heap.size w w' := by
  have eg := fun args (W : World) => (show (callFunc 26 args).run Tryz.prog W = .ok (.enter 26 args) W from by kernel_rfl)
  have S0 := SX.start w
  go_enter Tryz.func17, Tryz.ntmps17
  go_wp2
  generalize (w.alloc (.cells #[.slice none 0 0] 22)) = w1 at S0 ⊢
  go_loopw [14] (fun i wr => ∃ (k : Nat) (v : Value) (l : List DFeature), i = .int .i64 (k : Int) ∧ k ≤ zs.length ∧ SX w wr v l ∧ Hid (l = ftK zs cy hd k)) (fun i _ => zs.length - (intOf i).toNat)
  case atStart => exact ⟨0, _, [], rfl, Nat.zero_le _, S0, Lib.hid rfl⟩
  case round =>
    obtain ⟨k, v, l, rfl, hk, S, HL⟩ := hrel
    clear S0
    by_cases hlt : k < zs.length
    · have hlti : decide ((k : Int) < (zs.length : Int)) = true := decide_eq_true (by omega)
      have hlti2 : (k : Int) < (zs.length : Int) := by omega
      obtain ⟨b, off, he, hbb, hc⟩ := (hr.below S.Bw).at_ fFound_len rfl k hlt
      cases he
      obtain ⟨y, hy⟩ : ∃ y, zs[k] = y := ⟨_, rfl⟩
      rw [hy] at hc
      have hc0 := hc 0 _ (by omega) rfl
      have hc1 := hc 1 _ (by omega) rfl
      have hc2 := hc 2 _ (by omega) rfl
      have hc3 := hc 3 _ (by omega) rfl
      have hc4 := hc 4 _ (by omega) rfl
      have hc5 := hc 5 _ (by omega) rfl
      have hc6 := hc 6 _ (by omega) rfl
      have hc7 := hc 7 _ (by omega) rfl
      clear hc
      simp only [← Nat.add_assoc, Nat.add_zero] at hc0 hc1 hc2 hc3 hc4 hc5 hc6 hc7
      have R0 : RX w ((wr.alloc (.cells #[.int .i64 (k : Int)] 3)).alloc (.cells #[.int .i64 y.f0, .int .i64 y.f1, .int .i64 y.f2, .int .i64 y.f3, .string y.f4, .int .i64 y.f5, .bool y.f6, .int .i64 y.f7] 45)) v l wr.heap.size (wr.heap.size + 1) (k : Int) y := by
        have hw0 := S.F.lt
        have ho : ∀ g, wr.heap.size ≤ g → v.ownBlock ≠ some g := fun g hg e => by have := (World.ownsRow.lt S.O g e).2; omega
        exact ⟨(S.al _).al _, (BX.made wr _ _).al _, BX.made1 wr _ _ _, ho _ (Nat.le_refl _), ho _ (Nat.le_succ _), by omega, by omega⟩
      go_upto_region 5 with fail
      generalize ((wr.alloc (.cells #[.int .i64 (k : Int)] 3)).alloc (.cells #[.int .i64 y.f0, .int .i64 y.f1, .int .i64 y.f2, .int .i64 y.f3, .string y.f4, .int .i64 y.f5, .bool y.f6, .int .i64 y.f7] 45)) = w2 at R0 ⊢
      have hr2 := hr.below R0.X.Bw
      clear hc0 hc1 hc2 hc3 hc4 hc5 hc6 hc7 S
      obtain ⟨bi, hbi⟩ : ∃ x, wr.heap.size = x := ⟨_, rfl⟩
      obtain ⟨bf, hbf⟩ : ∃ x, wr.heap.size + 1 = x := ⟨_, rfl⟩
      rw [hbf, hbi] at R0
      rw [hbf, hbi]
      clear hbi hbf
      have hgD : zs.getD k dF0 = y := by rw [List.getD_eq_getElem?_getD, List.getElem?_eq_getElem hlt, Option.getD_some, hy]
      have HS := Lib.hid (show ftK zs cy hd (k + 1) = l ++ ftF zs cy hd k y by rw [HL.out, ← hgD]; rfl)
      have hll : l.length ≤ 4000 := by rw [HL.out]; have := ftK_len zs cy hd k; omega
      have hix := fun c => indexFd_any (some ⟨b, off, none⟩) c (zs.take k) y bf w2 ((Rd.take_ fFound_len hr2 (i := k) hk).more R0.X.Bw.size) R0.Y (by rw [List.length_take]; omega)
      rw [List.length_take, Nat.min_eq_left hk] at hix
      obtain ⟨D, hD⟩ : ∃ D, ftD zs k y = D := ⟨_, rfl⟩
      have hD' : (zs.take k).findIdx? (sameF y) = D := hD
      rw [hD'] at hix
      have HSn := Lib.hid (show ¬ y.f5 = 2 → ftK zs cy hd (k + 1) = ((l ++ dupF k D) ++ adF cy hd k y) ++ stF k y ++ deF k y from fun h => by rw [HS.out]; unfold ftF; rw [if_neg h, hD, List.append_assoc, List.append_assoc, List.append_assoc])
      have HSy := Lib.hid (show y.f5 = 2 → ftK zs cy hd (k + 1) = l ++ [⟨3, (k : Int), 0⟩] from fun h => by rw [HS.out]; unfold ftF; rw [if_pos h])
      clear hD hD' HS hy hgD hr2 HL
      have y0 : (_ : Option Value) = some (.int .i64 y.f0) := R0.Y.cell 0 (by simp [fFound])
      have y1 : (_ : Option Value) = some (.int .i64 y.f1) := R0.Y.cell 1 (by simp [fFound])
      have y5 : (_ : Option Value) = some (.int .i64 y.f5) := R0.Y.cell 5 (by simp [fFound])
      have y6 : (_ : Option Value) = some (.bool y.f6) := R0.Y.cell 6 (by simp [fFound])
      have i0 : (_ : Option Value) = some (.int .i64 (k : Int)) := R0.I.cell 0 (by simp)
      have hkc : k ≤ q := by omega
      have hkc2 : ¬ (q : Int) < (k : Int) := by omega
      by_cases e5 : y.f5 = 2
      · have HN := Lib.hid (HSy.out e5)
        have d5 : (y.f5 == 2) = true := by simp [e5]
        clear HSn HSy hix
        go_wp2_with (go_at_call 26; (refine (add_any _ _ R0 (by first | omega | (simp only [List.length_append, List.length_singleton]; omega))).mono ?_); rintro e w3 ⟨rfl, v3, R3⟩; have R0 := R3; clear R3; have y0 : (_ : Option Value) = some (.int .i64 y.f0) := R0.Y.cell 0 (by simp [fFound]); have y1 : (_ : Option Value) = some (.int .i64 y.f1) := R0.Y.cell 1 (by simp [fFound]); have y5 : (_ : Option Value) = some (.int .i64 y.f5) := R0.Y.cell 5 (by simp [fFound]); have y6 : (_ : Option Value) = some (.bool y.f6) := R0.Y.cell 6 (by simp [fFound]))
        go_roundw
        case rel => exact ⟨k + 1, _, _, by go_num, by omega, R0.X, Lib.hid HN.out.symm⟩
        case measure => (simp [intOf] <;> omega)
      · have d5 : (y.f5 == 2) = false := by simp [e5]
        have HN := Lib.hid (HSn.out e5)
        clear HSn HSy
        go_upto_if 31 with (go_at_call 27; (refine (hix _).mono ?_); rintro e w3 ⟨rfl, hx3⟩; have R1 := RX.next R0 hx3)
        clear R0 hix hx3 y0 y1 y5 y6 i0
        have R0 := R1
        clear R1
        go_cut [34] (fun _ wx => ∃ (v1 : Value) (l1 : List DFeature), RX w wx v1 l1 bi bf (k : Int) y ∧ Hid (l1 = l ++ dupF k D))
        case first =>
          rcases D with _ | j
          · rw [show decide ((0 : Int) ≤ idxF none) = false from rfl]
            dsimp only [idxF]
            go_wp2_with fail
            go_meet
            exact ⟨v, l, R0, Lib.hid (by simp [dupF])⟩
          · rw [show decide ((0 : Int) ≤ idxF (some j)) = true from decide_eq_true (Int.natCast_nonneg j)]
            dsimp only [idxF]
            go_wp2_with (go_at_call 26; (refine (add_any _ _ R0 (by first | omega | (simp only [List.length_append, List.length_singleton]; omega))).mono ?_); rintro e w3 ⟨rfl, v3, R3⟩; have R0 := R3; clear R3; have y0 : (_ : Option Value) = some (.int .i64 y.f0) := R0.Y.cell 0 (by simp [fFound]); have y1 : (_ : Option Value) = some (.int .i64 y.f1) := R0.Y.cell 1 (by simp [fFound]); have y5 : (_ : Option Value) = some (.int .i64 y.f5) := R0.Y.cell 5 (by simp [fFound]); have y6 : (_ : Option Value) = some (.bool y.f6) := R0.Y.cell 6 (by simp [fFound]))
            go_meet
            exact ⟨_, _, R0, Lib.hid (by simp [dupF])⟩
        case rest =>
          obtain ⟨v1, l1, R1, HL1⟩ := hcut
          have hl1 : l1.length ≤ 4001 := by rw [HL1.out, List.length_append]; have := dupF_len k D; omega
          have HN1 := Lib.hid (show ftK zs cy hd (k + 1) = (l1 ++ adF cy hd k y) ++ stF k y ++ deF k y by rw [HN.out, HL1.out])
          clear R0 HN HL1
          have R0 := R1
          clear R1
          have y0 : (_ : Option Value) = some (.int .i64 y.f0) := R0.Y.cell 0 (by simp [fFound])
          have y1 : (_ : Option Value) = some (.int .i64 y.f1) := R0.Y.cell 1 (by simp [fFound])
          have y5 : (_ : Option Value) = some (.int .i64 y.f5) := R0.Y.cell 5 (by simp [fFound])
          have y6 : (_ : Option Value) = some (.bool y.f6) := R0.Y.cell 6 (by simp [fFound])
          go_upto_region 11 with fail
          go_cut [44] (fun t wx => wc = wx ∧ t = .bool (!(decide (y.f0 = cy ∧ y.f1 = hd))))
          case first =>
            by_cases h0 : y.f0 = cy
            · have d0 : (y.f0 != cy) = false := by simp [h0]
              by_cases h1 : y.f1 = hd
              · have d1 : (y.f1 != hd) = false := by simp [h1]
                have hb : (!(decide (y.f0 = cy ∧ y.f1 = hd))) = false := by simp [h0, h1]
                go_wp2_with fail
                go_meet
                exact ⟨(by first | rfl | trivial), by rw [hb]⟩
              · have d1 : (y.f1 != hd) = true := by simp [h1]
                have hb : (!(decide (y.f0 = cy ∧ y.f1 = hd))) = true := by simp [h1]
                go_wp2_with fail
                go_meet
                exact ⟨(by first | rfl | trivial), by rw [hb]⟩
            · have d0 : (y.f0 != cy) = true := by simp [h0]
              have hb : (!(decide (y.f0 = cy ∧ y.f1 = hd))) = true := by simp [h0]
              go_wp2_with fail
              go_meet
              exact ⟨(by first | rfl | trivial), by rw [hb]⟩
          case rest =>
            obtain ⟨rfl, rfl⟩ := hcut
            clear y0 y1 y5 y6
            go_upto_if 44 with fail
            go_cut [46] (fun _ wx => ∃ (v2 : Value) (l2 : List DFeature), RX w wx v2 l2 bi bf (k : Int) y ∧ Hid (l2 = l1 ++ adF cy hd k y))
            case first =>
              by_cases h01 : y.f0 = cy ∧ y.f1 = hd
              · have hb : decide (y.f0 = cy ∧ y.f1 = hd) = true := decide_eq_true h01
                rw [hb]
                go_wp2_with fail
                go_meet
                exact ⟨v1, l1, R0, Lib.hid (by unfold adF; rw [if_pos h01, List.append_nil])⟩
              · have hb : decide (y.f0 = cy ∧ y.f1 = hd) = false := decide_eq_false h01
                rw [hb]
                have HA := Lib.hid (show adF cy hd k y = [⟨2, (k : Int), 0⟩] by unfold adF; rw [if_neg h01])
                clear h01
                go_wp2_with (go_at_call 26; (refine (add_any _ _ R0 (by first | omega | (simp only [List.length_append, List.length_singleton]; omega))).mono ?_); rintro e w3 ⟨rfl, v3, R3⟩; have R0 := R3; clear R3; have y0 : (_ : Option Value) = some (.int .i64 y.f0) := R0.Y.cell 0 (by simp [fFound]); have y1 : (_ : Option Value) = some (.int .i64 y.f1) := R0.Y.cell 1 (by simp [fFound]); have y5 : (_ : Option Value) = some (.int .i64 y.f5) := R0.Y.cell 5 (by simp [fFound]); have y6 : (_ : Option Value) = some (.bool y.f6) := R0.Y.cell 6 (by simp [fFound]))
                go_meet
                exact ⟨_, _, R0, Lib.hid (by rw [HA.out])⟩
            case rest =>
              obtain ⟨v2, l2, R2, HL2⟩ := hcut
              have hadl : (adF cy hd k y).length ≤ 1 := by unfold adF; split <;> simp
              have hl2 : l2.length ≤ 4002 := by rw [HL2.out, List.length_append]; omega
              have HN2 := Lib.hid (show ftK zs cy hd (k + 1) = (l2 ++ stF k y) ++ deF k y by rw [HN1.out, HL2.out])
              clear R0 HN1 HL2 hl1 hadl
              have R0 := R2
              clear R2
              have y0 : (_ : Option Value) = some (.int .i64 y.f0) := R0.Y.cell 0 (by simp [fFound])
              have y1 : (_ : Option Value) = some (.int .i64 y.f1) := R0.Y.cell 1 (by simp [fFound])
              have y5 : (_ : Option Value) = some (.int .i64 y.f5) := R0.Y.cell 5 (by simp [fFound])
              have y6 : (_ : Option Value) = some (.bool y.f6) := R0.Y.cell 6 (by simp [fFound])
              by_cases e3 : y.f5 = 3
              · have d3 : (y.f5 == 3) = true := by simp [e3]
                have d4 : (y.f5 == 4) = false := by simp [e3]
                have HA := Lib.hid (show stF k y = [⟨4, (k : Int), 0⟩] by unfold stF; rw [if_pos e3])
                clear e3
                cases h6 : y.f6
                · have HD := Lib.hid (show deF k y = [] by unfold deF; rw [h6]; rfl)
                  go_wp2_with (go_at_call 26; (refine (add_any _ _ R0 (by first | omega | (simp only [List.length_append, List.length_singleton]; omega))).mono ?_); rintro e w3 ⟨rfl, v3, R3⟩; have R0 := R3; clear R3; have y0 : (_ : Option Value) = some (.int .i64 y.f0) := R0.Y.cell 0 (by simp [fFound]); have y1 : (_ : Option Value) = some (.int .i64 y.f1) := R0.Y.cell 1 (by simp [fFound]); have y5 : (_ : Option Value) = some (.int .i64 y.f5) := R0.Y.cell 5 (by simp [fFound]); have y6 : (_ : Option Value) = some (.bool y.f6) := R0.Y.cell 6 (by simp [fFound]))
                  go_roundw
                  case rel => exact ⟨k + 1, _, _, by go_num, by omega, R0.X, Lib.hid (by rw [HN2.out, HA.out, HD.out]; simp)⟩
                  case measure => (simp [intOf] <;> omega)
                · have HD := Lib.hid (show deF k y = [⟨6, (k : Int), 0⟩] by unfold deF; rw [h6]; rfl)
                  go_wp2_with (go_at_call 26; (refine (add_any _ _ R0 (by first | omega | (simp only [List.length_append, List.length_singleton]; omega))).mono ?_); rintro e w3 ⟨rfl, v3, R3⟩; have R0 := R3; clear R3; have y0 : (_ : Option Value) = some (.int .i64 y.f0) := R0.Y.cell 0 (by simp [fFound]); have y1 : (_ : Option Value) = some (.int .i64 y.f1) := R0.Y.cell 1 (by simp [fFound]); have y5 : (_ : Option Value) = some (.int .i64 y.f5) := R0.Y.cell 5 (by simp [fFound]); have y6 : (_ : Option Value) = some (.bool y.f6) := R0.Y.cell 6 (by simp [fFound]))
                  go_roundw
                  case rel => exact ⟨k + 1, _, _, by go_num, by omega, R0.X, Lib.hid (by rw [HN2.out, HA.out, HD.out])⟩
                  case measure => (simp [intOf] <;> omega)
              · have d3 : (y.f5 == 3) = false := by simp [e3]
                by_cases e4 : y.f5 = 4
                · have d4 : (y.f5 == 4) = true := by simp [e4]
                  have HA := Lib.hid (show stF k y = [⟨5, (k : Int), 0⟩] by unfold stF; rw [if_neg e3, if_pos e4])
                  clear e3 e4
                  cases h6 : y.f6
                  · have HD := Lib.hid (show deF k y = [] by unfold deF; rw [h6]; rfl)
                    go_wp2_with (go_at_call 26; (refine (add_any _ _ R0 (by first | omega | (simp only [List.length_append, List.length_singleton]; omega))).mono ?_); rintro e w3 ⟨rfl, v3, R3⟩; have R0 := R3; clear R3; have y0 : (_ : Option Value) = some (.int .i64 y.f0) := R0.Y.cell 0 (by simp [fFound]); have y1 : (_ : Option Value) = some (.int .i64 y.f1) := R0.Y.cell 1 (by simp [fFound]); have y5 : (_ : Option Value) = some (.int .i64 y.f5) := R0.Y.cell 5 (by simp [fFound]); have y6 : (_ : Option Value) = some (.bool y.f6) := R0.Y.cell 6 (by simp [fFound]))
                    go_roundw
                    case rel => exact ⟨k + 1, _, _, by go_num, by omega, R0.X, Lib.hid (by rw [HN2.out, HA.out, HD.out]; simp)⟩
                    case measure => (simp [intOf] <;> omega)
                  · have HD := Lib.hid (show deF k y = [⟨6, (k : Int), 0⟩] by unfold deF; rw [h6]; rfl)
                    go_wp2_with (go_at_call 26; (refine (add_any _ _ R0 (by first | omega | (simp only [List.length_append, List.length_singleton]; omega))).mono ?_); rintro e w3 ⟨rfl, v3, R3⟩; have R0 := R3; clear R3; have y0 : (_ : Option Value) = some (.int .i64 y.f0) := R0.Y.cell 0 (by simp [fFound]); have y1 : (_ : Option Value) = some (.int .i64 y.f1) := R0.Y.cell 1 (by simp [fFound]); have y5 : (_ : Option Value) = some (.int .i64 y.f5) := R0.Y.cell 5 (by simp [fFound]); have y6 : (_ : Option Value) = some (.bool y.f6) := R0.Y.cell 6 (by simp [fFound]))
                    go_roundw
                    case rel => exact ⟨k + 1, _, _, by go_num, by omega, R0.X, Lib.hid (by rw [HN2.out, HA.out, HD.out])⟩
                    case measure => (simp [intOf] <;> omega)
                · have d4 : (y.f5 == 4) = false := by simp [e4]
                  have HA := Lib.hid (show stF k y = [] by unfold stF; rw [if_neg e3, if_neg e4])
                  clear e3 e4
                  cases h6 : y.f6
                  · have HD := Lib.hid (show deF k y = [] by unfold deF; rw [h6]; rfl)
                    go_wp2_with (go_at_call 26; (refine (add_any _ _ R0 (by first | omega | (simp only [List.length_append, List.length_singleton]; omega))).mono ?_); rintro e w3 ⟨rfl, v3, R3⟩; have R0 := R3; clear R3; have y0 : (_ : Option Value) = some (.int .i64 y.f0) := R0.Y.cell 0 (by simp [fFound]); have y1 : (_ : Option Value) = some (.int .i64 y.f1) := R0.Y.cell 1 (by simp [fFound]); have y5 : (_ : Option Value) = some (.int .i64 y.f5) := R0.Y.cell 5 (by simp [fFound]); have y6 : (_ : Option Value) = some (.bool y.f6) := R0.Y.cell 6 (by simp [fFound]))
                    go_roundw
                    case rel => exact ⟨k + 1, _, _, by go_num, by omega, R0.X, Lib.hid (by rw [HN2.out, HA.out, HD.out]; simp)⟩
                    case measure => (simp [intOf] <;> omega)
                  · have HD := Lib.hid (show deF k y = [⟨6, (k : Int), 0⟩] by unfold deF; rw [h6]; rfl)
                    go_wp2_with (go_at_call 26; (refine (add_any _ _ R0 (by first | omega | (simp only [List.length_append, List.length_singleton]; omega))).mono ?_); rintro e w3 ⟨rfl, v3, R3⟩; have R0 := R3; clear R3; have y0 : (_ : Option Value) = some (.int .i64 y.f0) := R0.Y.cell 0 (by simp [fFound]); have y1 : (_ : Option Value) = some (.int .i64 y.f1) := R0.Y.cell 1 (by simp [fFound]); have y5 : (_ : Option Value) = some (.int .i64 y.f5) := R0.Y.cell 5 (by simp [fFound]); have y6 : (_ : Option Value) = some (.bool y.f6) := R0.Y.cell 6 (by simp [fFound]))
                    go_roundw
                    case rel => exact ⟨k + 1, _, _, by go_num, by omega, R0.X, Lib.hid (by rw [HN2.out, HA.out, HD.out]; simp)⟩
                    case measure => (simp [intOf] <;> omega)
    · have hlti : decide ((k : Int) < (zs.length : Int)) = false := decide_eq_false (by omega)
      have hlti2 : ¬ (k : Int) < (zs.length : Int) := by omega
      obtain rfl : k = zs.length := by omega
      obtain ⟨A3, c3, rfl⟩ := own_form S.O
      have p0 : (_ : Option Value) = some (.slice A3 l.length c3) := S.F.cell 0 (by simp)
      go_wp2
      go_ret
      exact ⟨_, rfl, by rw [← HL.out]; exact own_base S.O (Nat.le_succ _), S.Bw⟩
end Go.Proofs.YtlfmpgfobkmgfaaGreatDoor
