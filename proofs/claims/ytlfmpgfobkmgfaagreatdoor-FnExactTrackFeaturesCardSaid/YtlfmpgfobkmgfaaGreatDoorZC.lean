/- Walks: the texts T18 T19 T20 A4 A5 Q1y as one text. -/
import Derived.Test.YtlfmpgfobkmgfaaGreatDoorZB
import Derived.Deep.CutBlock
import Derived.Test.YtlfmpgfobkmgfaaGreatDoorQBx
namespace Go.Proofs.YtlfmpgfobkmgfaaGreatDoor
open Go.RowKit
set_option linter.unusedVariables false
set_option linter.unusedSimpArgs false

def fstV (k : Nat) : Option Nat → Int
  | some j => (j : Int)
  | none => (k : Int)
set_option maxRecDepth 100000 in
set_option maxHeartbeats 8000000 in
theorem l11First_any (zs : List DFound) (A : Option Addr) (q k : Nat) (w : World) (hr : Rd w w.heap.size 8 A zs.length (flat fFound zs)) (hk : k < zs.length) (hl : zs.length ≤ 100000) :
    Calls Tryz.prog 22 #[.slice A zs.length q, .int .i64 (k : Int)] w fun e w' => e = .returned (.int .i64 (fstV k (ftD zs k zs[k]))) ∧ ∃ m, w' = w.drewN m := by
  obtain ⟨b, off, rfl, hb0, hck⟩ := hr.at_ fFound_len rfl k hk
  obtain ⟨R, hR⟩ : ∃ R, fstV k (ftD zs k zs[k]) = R := ⟨_, rfl⟩
  rw [hR]
  have HR := Lib.hid hR
  obtain ⟨⟨y0, y1, y2, y3, y4, y5, y6, y7⟩, hy⟩ : ∃ y, zs[k] = y := ⟨_, rfl⟩
  rw [hy] at hck HR
  have HS := Lib.hid (show ∀ j (hj : j < k), (∀ i (hi : i < zs.length), i < j → sameF ⟨y0, y1, y2, y3, y4, y5, y6, y7⟩ zs[i] = false) → sameF ⟨y0, y1, y2, y3, y4, y5, y6, y7⟩ (zs[j]'(by omega)) = true → (j : Int) = R from fun j hj h1 h2 => by
    rw [← HR.out, ftD_some (by omega) hj h2 h1]
    rfl)
  have HE := Lib.hid (show (∀ i (hi : i < zs.length), i < k → sameF ⟨y0, y1, y2, y3, y4, y5, y6, y7⟩ zs[i] = false) → (k : Int) = R from fun h => by
    rw [← HR.out, ftD_none (by omega) h]
    rfl)
  have ck0 := hck 0 _ (by omega) rfl
  have ck1 := hck 1 _ (by omega) rfl
  have ck2 := hck 2 _ (by omega) rfl
  have ck3 := hck 3 _ (by omega) rfl
  have ck5 := hck 5 _ (by omega) rfl
  simp only [← Nat.add_assoc, Nat.add_zero] at ck0 ck1 ck2 ck3 ck5
  clear hck hR hy HR
  go_enter Tryz.func22, Tryz.ntmps22
  go_wp2
  go_loopw [5] (fun i wr => ∃ j : Nat, i = .int .i64 (j : Int) ∧ j ≤ k ∧ (∃ m, wr = w.drewN m) ∧ Hid (∀ i (hi : i < zs.length), i < j → sameF ⟨y0, y1, y2, y3, y4, y5, y6, y7⟩ zs[i] = false)) (fun i _ => k - (intOf i).toNat)
  case atStart => exact ⟨0, rfl, Nat.zero_le _, ⟨0, rfl⟩, Lib.hid (fun i hi h => absurd h (Nat.not_lt_zero _))⟩
  case round =>
    obtain ⟨j, rfl, hj, ⟨m, rfl⟩, HJ⟩ := hrel
    by_cases hlt : j < k
    · have hlti : decide ((j : Int) < (k : Int)) = true := decide_eq_true (by omega)
      have hjl : j < zs.length := by omega
      obtain ⟨b', off', he, _, hcj⟩ := hr.at_ fFound_len rfl j hjl
      cases he
      have HNO : sameF ⟨y0, y1, y2, y3, y4, y5, y6, y7⟩ zs[j] = false → Hid (∀ i (hi : i < zs.length), i < j + 1 → sameF ⟨y0, y1, y2, y3, y4, y5, y6, y7⟩ zs[i] = false) := fun h => Lib.hid (fun i hi hij => by
        by_cases hie : i = j
        · subst hie; exact h
        · exact HJ.out i hi (by omega))
      have HYES : sameF ⟨y0, y1, y2, y3, y4, y5, y6, y7⟩ zs[j] = true → Hid ((j : Int) = R) := fun h => Lib.hid (HS.out j hlt HJ.out h)
      obtain ⟨⟨x0, x1, x2, x3, x4, x5, x6, x7⟩, hx⟩ : ∃ x, zs[j] = x := ⟨_, rfl⟩
      rw [hx] at hcj HNO HYES
      have cj0 := hcj 0 _ (by omega) rfl
      have cj1 := hcj 1 _ (by omega) rfl
      have cj2 := hcj 2 _ (by omega) rfl
      have cj3 := hcj 3 _ (by omega) rfl
      have cj5 := hcj 5 _ (by omega) rfl
      simp only [← Nat.add_assoc, Nat.add_zero] at cj0 cj1 cj2 cj3 cj5
      clear hcj hx HJ
      by_cases e5 : x5 = 2
      · have d5 : (x5 != 2) = false := by simp [e5]
        have HN := HNO (by unfold sameF; simp [e5])
        clear HNO HYES
        go_wp2_with fail
        go_quiet (fail)
        go_wp2
        go_roundw
        case rel => exact ⟨j + 1, by go_num, by omega, by repeat (first | exact ⟨_, rfl⟩ | exact ⟨_, World.drewN_drewN _ _ _⟩), HN⟩
        case measure => simp [intOf]; omega
      · have d5 : (x5 != 2) = true := by simp [e5]
        by_cases e0 : x0 = y0
        rotate_left
        · have d0 : (x0 == y0) = false := by simp [e0]
          have HN := HNO (by unfold sameF; simp [e5, e0])
          clear HNO HYES
          go_wp2_with fail
          go_quiet (fail)
          go_wp2
          go_roundw
          case rel => exact ⟨j + 1, by go_num, by omega, by repeat (first | exact ⟨_, rfl⟩ | exact ⟨_, World.drewN_drewN _ _ _⟩), HN⟩
          case measure => simp [intOf]; omega
        have d0 : (x0 == y0) = true := by simp [e0]
        by_cases e1 : x1 = y1
        rotate_left
        · have d1 : (x1 == y1) = false := by simp [e1]
          have HN := HNO (by unfold sameF; simp [e5, e0, e1])
          clear HNO HYES
          go_wp2_with fail
          go_quiet (fail)
          go_wp2
          go_roundw
          case rel => exact ⟨j + 1, by go_num, by omega, by repeat (first | exact ⟨_, rfl⟩ | exact ⟨_, World.drewN_drewN _ _ _⟩), HN⟩
          case measure => simp [intOf]; omega
        have d1 : (x1 == y1) = true := by simp [e1]
        by_cases e2 : x2 = y2
        rotate_left
        · have d2 : (x2 == y2) = false := by simp [e2]
          have HN := HNO (by unfold sameF; simp [e5, e0, e1, e2])
          clear HNO HYES
          go_wp2_with fail
          go_quiet (fail)
          go_wp2
          go_roundw
          case rel => exact ⟨j + 1, by go_num, by omega, by repeat (first | exact ⟨_, rfl⟩ | exact ⟨_, World.drewN_drewN _ _ _⟩), HN⟩
          case measure => simp [intOf]; omega
        have d2 : (x2 == y2) = true := by simp [e2]
        by_cases e3 : x3 = y3
        rotate_left
        · have d3 : (x3 == y3) = false := by simp [e3]
          have HN := HNO (by unfold sameF; simp [e5, e0, e1, e2, e3])
          clear HNO HYES
          go_wp2_with fail
          go_quiet (fail)
          go_wp2
          go_roundw
          case rel => exact ⟨j + 1, by go_num, by omega, by repeat (first | exact ⟨_, rfl⟩ | exact ⟨_, World.drewN_drewN _ _ _⟩), HN⟩
          case measure => simp [intOf]; omega
        have d3 : (x3 == y3) = true := by simp [e3]
        have HN := HYES (by unfold sameF; simp [e5, e0, e1, e2, e3])
        clear HNO HYES e0 e1 e2 e3
        go_wp2_with fail
        go_quiet (fail)
        go_wp2
        go_ret
        exact ⟨ret_int (by rw [HN.out]), by repeat (first | exact ⟨_, rfl⟩ | exact ⟨_, World.drewN_drewN _ _ _⟩)⟩
    · have hlti : decide ((j : Int) < (k : Int)) = false := decide_eq_false (by omega)
      obtain rfl : j = k := by omega
      have HN := Lib.hid (HE.out HJ.out)
      go_wp2_with fail
      go_ret
      exact ⟨ret_int (by rw [← HN.out]), m, rfl⟩

theorem oneFo (x : DFound) : ∀ u ∈ fFound x, u.oneCell' = true := by
  intro u hu
  simp only [fFound, List.mem_cons, List.not_mem_nil, or_false] at hu
  rcases hu with rfl | rfl | rfl | rfl | rfl | rfl | rfl | rfl <;> rfl
set_option maxRecDepth 100000 in
set_option maxHeartbeats 8000000 in
theorem l09Read_any (f : Int) (s : ByteArray) (ms : List MK) (A : Option Addr) (q : Nat) (w : World) (h0 : 0 < s.size) (hs : s.size ≤ 8000) (hbits : bitsB (bl s)) (hr : Rd w w.heap.size 3 A ms.length (flat fM ms)) (hl : ms.length ≤ 64) (hms : inM s.size ms) :
    Calls Tryz.prog 21 #[.string s, .int .i64 f, .slice A ms.length q] w fun e w' => ∃ v, e = .returned v ∧ w'.ownsRow w.heap.size 45 8 v ((hdK ms ms.length).map (secF f (bl s) ms)).length (flat fFound ((hdK ms ms.length).map (secF f (bl s) ms))) ∧ Below w.heap.size w w' := by
  have hby : 72 ≤ 1000 := by decide
  obtain ⟨R, hR⟩ : ∃ R, (hdK ms ms.length).map (secF f (bl s) ms) = R := ⟨_, rfl⟩
  rw [hR]
  have HR := Lib.hid hR
  clear hR
  have sec := fun (i : Nat) (W : World) (hi : i < ms.length) (hW : BB w W) => l09Sector_any f s ms A q i W h0 hs hbits ((hr.below hW).more hW.size) hi (by omega) hms
  go_enter Tryz.func21, Tryz.ntmps21
  go_wp2
  have O0 := World.ownsRow_lit (base := w.heap.size) (e := 45) (size := 8) w #[] 0 (Nat.le_refl _) (by simp) (by simp)
  have hB0 : BB w (w.alloc (.cells #[] 45)) := BB.al (BB.start w) _
  generalize (w.alloc (.cells #[] 45)) = w1 at O0 hB0 ⊢
  go_loopw [7, 8] (fun v i wr => ∃ (k : Nat) (l : List DFound) (B : Option Addr) (q' : Nat), i = .int .i64 (k : Int) ∧ k ≤ ms.length ∧ v = .slice B l.length q' ∧ OO wr w.heap.size 45 8 (.slice B l.length q') l.length (flat fFound l) ∧ BB w wr ∧ Hid (l = (hdK ms k).map (secF f (bl s) ms))) (fun _ i _ => ms.length - (intOf i).toNat)
  case atStart => exact ⟨0, [], _, _, rfl, Nat.zero_le _, rfl, O0, hB0, Lib.hid rfl⟩
  case round =>
    obtain ⟨k, l, B, q', rfl, hk, rfl, O, hB, HL⟩ := hrel
    clear O0 hB0
    by_cases hlt : k < ms.length
    · have hlti : decide ((k : Int) < (ms.length : Int)) = true := decide_eq_true (by omega)
      obtain ⟨b, off, he, hb0, hck⟩ := (hr.below hB).at_ fM_len rfl k hlt
      cases he
      have c0 := hck 0 _ (by omega) rfl
      simp only [← Nat.add_assoc, Nat.add_zero] at c0
      rw [mkD_get hlt] at c0
      obtain ⟨hkk, _, _⟩ := inM_at hms hlt
      have HS := Lib.hid (hdK_s ms k)
      have HK := Lib.hid (show (ms.getD k (0, 0, 0)).1 = (mkD ms k).1 from rfl)
      obtain ⟨kk, hkd⟩ : ∃ x, (mkD ms k).1 = x := ⟨_, rfl⟩
      rw [hkd] at hkk HK
      have c0' : wr.cell? ⟨b, off + k * 3, none⟩ = some (.int .i64 (kk : Int)) := by rw [← hkd]; exact c0
      clear c0 hkd hck
      have hll : l.length ≤ 100 := by rw [HL.out, List.length_map]; have := hdK_len ms k; omega
      by_cases h1 : kk = 1
      · have e1 : ((kk : Int) == 1) = true := by rw [h1]; rfl
        have HN := Lib.hid (show l ++ [secF f (bl s) ms k] = (hdK ms (k + 1)).map (secF f (bl s) ms) by rw [HS.out, HK.out, h1, List.map_append, HL.out]; rfl)
        have sk := sec k wr hlt hB
        obtain ⟨y, hy⟩ : ∃ y, secF f (bl s) ms k = y := ⟨_, rfl⟩
        rw [hy] at sk HN
        clear hy h1 hkk
        unfold vFound at sk
        have hbs0 := Below.size hB
        go_upto_region 6 with fail
        go_wp2_with (first
          | (go_at_call 33; (with_reducible refine sk.mono ?_); rintro e w5 ⟨rfl, hx5⟩; have O5 := own_later O hx5 (Nat.le_refl _); have hB5 : BB w w5 := BB.next hB hx5; have hbs := Below.size hB5)
          | (at_builtin; go_must (refine wpList_appF (f := fFound) (by rfl) (.tmp 22) (.tmp 28) 28 (by rfl) eltFound hby (.slice B l.length q') l (by rfl) (OOf O5) _ _ y 1 (by rfl) (by rfl) (by rfl) (oneFo y) (by omega) hbs ?_); intro v' w' hown' hg' hat' hbl'))
        have hl1 : (l ++ [y]).length = l.length + 1 := by rw [List.length_append]; rfl
        obtain ⟨B5, c5, rfl⟩ := own_form hown'
        go_roundw
        case rel => exact ⟨k + 1, l ++ [y], B5, c5, by go_num, hlt, (by first | rfl | rw [hl1]), hown', Below.trans hB5 hbl', HN⟩
        case measure => simp [intOf]; omega
      · have e1 : ((kk : Int) == 1) = false := by rw [beq_eq_false_iff_ne]; omega
        have HN := Lib.hid (show l = (hdK ms (k + 1)).map (secF f (bl s) ms) by rw [HS.out, HK.out, if_neg (by simp [h1]), List.append_nil, HL.out])
        clear h1 hkk
        go_wp2_with fail
        go_roundw
        case rel => exact ⟨k + 1, l, B, q', by go_num, hlt, rfl, O, hB, HN⟩
        case measure => simp [intOf]; omega
    · have hlti : decide ((k : Int) < (ms.length : Int)) = false := decide_eq_false (by omega)
      obtain rfl : k = ms.length := by omega
      have HN := Lib.hid (HL.out.trans HR.out)
      go_wp2_with fail
      go_ret
      exact ⟨_, rfl, by rw [← HN.out]; exact OOf O, hB⟩
end Go.Proofs.YtlfmpgfobkmgfaaGreatDoor
namespace Go.Proofs.YtlfmpgfobkmgfaaGreatDoor
open Go.RowKit Go.Deep
set_option linter.unusedVariables false
set_option linter.unusedSimpArgs false

theorem oneE (x : DFeature) : ∀ u ∈ fFeature x, u.oneCell' = true := by
  intro u hu
  simp only [fFeature, List.mem_cons, List.not_mem_nil, or_false] at hu
  rcases hu with rfl | rfl | rfl <;> rfl
theorem eltFeature : Elt Tryz.prog 22 35 3 24 (.agg #[.int .i64 0, .int .i64 0, .int .i64 0]) := Elt.mk' Tryz.underlying22 (by kernel_rfl) rfl (by decide)
/-- A round: the row of features and the box of the sector. -/
structure FX (w W : World) (bf : Nat) (y : DFound) (v : Value) (l : List DFeature) : Prop where
  O : OO W w.heap.size 35 3 v l.length (flat fFeature l)
  F : BX W bf 45 (fFound y)
  B : BB w W
  hf : v.ownBlock ≠ some bf
section
variable {w W W' : World} {bf : Nat} {y : DFound} {v v' : Value} {l : List DFeature} {x : DFeature}
theorem FX.dn (H : FX w W bf y v l) (n : Nat) : FX w (W.drewN n) bf y v l := ⟨OO.dn H.O n, H.F, BB.dn H.B n, H.hf⟩
theorem FX.next (H : FX w W bf y v l) (hx : Below W.heap.size W W') : FX w W' bf y v l := ⟨own_later H.O hx (Nat.le_refl _), H.F.below hx H.F.lt, BB.next H.B hx, H.hf⟩
theorem FX.app {cs : Array Value} {te : TypeId} (H : FX w W bf y v l) (hown : W'.ownsRow w.heap.size 35 3 v' (l ++ [x]).length (flat fFeature (l ++ [x]))) (hg : (W.alloc (.cells cs te)).grownBy W' v.ownBlock) (hat : v'.ownBlock = v.ownBlock ∨ v'.ownBlock = some (W.heap.size + 1)) (hbl : Below w.heap.size W W') : FX w W' bf y v' (l ++ [x]) :=
  ⟨hown, (H.F.al (.cells cs te)).grown hg H.hf, Below.trans H.B hbl, by
    have := H.F.lt
    rcases hat with h | h
    · rw [h]; exact H.hf
    · rw [h]; intro e; have := Option.some.inj e; omega⟩
end

set_option maxRecDepth 100000 in
set_option maxHeartbeats 8000000 in
theorem l11Features_any (zs : List DFound) (A : Option Addr) (q : Nat) (cy hd : Int) (w : World) (hr : Rd w w.heap.size 8 A zs.length (flat fFound zs)) (hl : zs.length ≤ 100) :
    Calls Tryz.prog 12 #[.slice A zs.length q, .int .i64 cy, .int .i64 hd] w fun e w' => ∃ v, e = .returned v ∧ w'.ownsRow w.heap.size 35 3 v (ftK zs cy hd zs.length).length (flat fFeature (ftK zs cy hd zs.length)) ∧ Below w.heap.size w w' := by
  have hby : 24 ≤ 1000 := by decide
  obtain ⟨R, hR⟩ : ∃ R, ftK zs cy hd zs.length = R := ⟨_, rfl⟩
  rw [hR]
  have HR := Lib.hid hR
  clear hR
  have fst := fun (k : Nat) (W : World) (hk : k < zs.length) (hW : BB w W) => l11First_any zs A q k W ((hr.below hW).more hW.size) hk (by omega)
  go_enter Tryz.func12, Tryz.ntmps12
  go_wp2
  have O0 := World.ownsRow_lit (base := w.heap.size) (e := 35) (size := 3) w #[] 0 (Nat.le_refl _) (by simp) (by simp)
  have hB0 : BB w (w.alloc (.cells #[] 35)) := BB.al (BB.start w) _
  generalize (w.alloc (.cells #[] 35)) = w1 at O0 hB0 ⊢
  go_loopw [7, 8] (fun v i wr => ∃ (k : Nat) (l : List DFeature) (B : Option Addr) (q' : Nat), i = .int .i64 (k : Int) ∧ k ≤ zs.length ∧ v = .slice B l.length q' ∧ OO wr w.heap.size 35 3 (.slice B l.length q') l.length (flat fFeature l) ∧ BB w wr ∧ Hid (l = ftK zs cy hd k)) (fun _ i _ => zs.length - (intOf i).toNat)
  case atStart => exact ⟨0, [], _, _, rfl, Nat.zero_le _, rfl, O0, hB0, Lib.hid rfl⟩
  case round =>
    obtain ⟨k, l, B, q', rfl, hk, rfl, O, hB, HL⟩ := hrel
    clear O0 hB0
    by_cases hlt : k < zs.length
    · have hlti : decide ((k : Int) < (zs.length : Int)) = true := decide_eq_true (by omega)
      obtain ⟨b, off, he, hb0, hck⟩ := (hr.below hB).at_ fFound_len rfl k hlt
      cases he
      obtain ⟨y, hy⟩ : ∃ y, zs[k] = y := ⟨_, rfl⟩
      rw [hy] at hck
      have ck0 := hck 0 _ (by omega) rfl
      have ck1 := hck 1 _ (by omega) rfl
      have ck2 := hck 2 _ (by omega) rfl
      have ck3 := hck 3 _ (by omega) rfl
      have ck4 := hck 4 _ (by omega) rfl
      have ck5 := hck 5 _ (by omega) rfl
      have ck6 := hck 6 _ (by omega) rfl
      have ck7 := hck 7 _ (by omega) rfl
      simp only [← Nat.add_assoc, Nat.add_zero] at ck0 ck1 ck2 ck3 ck4 ck5 ck6 ck7
      have hgD : zs.getD k dF0 = y := by rw [List.getD_eq_getElem?_getD, List.getElem?_eq_getElem hlt, Option.getD_some, hy]
      have HS := Lib.hid (show ftK zs cy hd (k + 1) = l ++ ftF zs cy hd k y by rw [HL.out, ← hgD]; rfl)
      have hll : l.length ≤ 1000 := by rw [HL.out]; have := ftK_len zs cy hd k; omega
      have fk := fun W hW => fst k W hlt hW
      rw [hy] at fk
      clear hck hy hgD HL
      obtain ⟨D, hD⟩ : ∃ D, ftD zs k y = D := ⟨_, rfl⟩
      have hDl : ∀ j, D = some j → j < k := fun j h => ftD_lt (hD.trans h)
      rw [hD] at fk
      have HSn := Lib.hid (show ¬ y.f5 = 2 → ftK zs cy hd (k + 1) = ((l ++ dupF k D) ++ adF cy hd k y) ++ stF k y ++ deF k y from fun h => by rw [HS.out]; unfold ftF; rw [if_neg h, hD, List.append_assoc, List.append_assoc, List.append_assoc])
      have HSy := Lib.hid (show y.f5 = 2 → ftK zs cy hd (k + 1) = l ++ [⟨3, (k : Int), 0⟩] from fun h => by rw [HS.out]; unfold ftF; rw [if_pos h])
      clear hD HS
      have X0 : FX w (wr.alloc (.cells (fFound y).toArray 45)) wr.heap.size y (.slice B l.length q') l := ⟨OO.al O _, BX.made wr 45 (fFound y), BB.al hB _, fun e => by have := (World.ownsRow.lt O _ e).2; omega⟩
      unfold fFound at X0
      go_upto_region 6 with fail
      have X1 : FX w (wr.alloc (.cells #[.int .i64 y.f0, .int .i64 y.f1, .int .i64 y.f2, .int .i64 y.f3, .string y.f4, .int .i64 y.f5, .bool y.f6, .int .i64 y.f7] 45)) wr.heap.size y (.slice B l.length q') l := X0
      clear X0 ck0 ck1 ck2 ck3 ck4 ck5 ck6 ck7 O hB
      generalize (wr.alloc (.cells #[.int .i64 y.f0, .int .i64 y.f1, .int .i64 y.f2, .int .i64 y.f3, .string y.f4, .int .i64 y.f5, .bool y.f6, .int .i64 y.f7] 45)) = w2 at X1 ⊢
      have hlb : l.length ≤ 100000000 := by omega
      have z5 : w2.cell? ⟨wr.heap.size, 5, none⟩ = some (.int .i64 y.f5) := X1.F.cell 5 (by simp [fFound])
      by_cases e5 : y.f5 = 2
      · have HN := Lib.hid (HSy.out e5)
        have d5 : (y.f5 == 2) = true := by simp [e5]
        clear HSn HSy
        have he : BB w w2 := X1.B
        go_wp2_with (at_builtin; go_must (refine wpList_appF (f := fFeature) (by rfl) (.tmp 27) (.tmp 30) 22 (by rfl) eltFeature hby (.slice B (l).length q') (l) (by rfl) (OOf X1.O) #[.int .i64 3, .int .i64 (k : Int), .int .i64 0] 35 ⟨3, (k : Int), 0⟩ 1 (by rfl) (by rfl) (by rfl) (oneE _) hlb (Below.size X1.B) ?_); intro v' w' hown' hg' hat' hbl'; have X5 := X1.app hown' hg' hat' hbl')
        obtain ⟨B5, c5, rfl⟩ := own_form hown'
        have hl1 : (l ++ [(⟨3, (k : Int), 0⟩ : DFeature)]).length = l.length + 1 := by rw [List.length_append]; rfl
        go_roundw
        case rel => exact ⟨k + 1, _, B5, c5, by go_num, hlt, rfl, X5.O, X5.B, Lib.hid HN.out.symm⟩
        case measure => simp [intOf]; omega
      · have d5 : (y.f5 == 2) = false := by simp [e5]
        have HN := Lib.hid (HSn.out e5)
        clear HSn HSy
        go_upto_if 37 with (go_at_call 22; (with_reducible refine (fk _ X1.B).mono ?_); rintro e w5 ⟨rfl, n5, rfl⟩)
        have X2 := X1.dn n5
        clear X1 z5
        generalize w2.drewN n5 = w3 at X2 ⊢
        have hk1 : k ≤ 100 := by omega
        go_cut [7] (fun v wx => ∃ (l1 : List DFeature) (B1 : Option Addr) (q1 : Nat), v = .slice B1 l1.length q1 ∧ FX w wx wr.heap.size y (.slice B1 l1.length q1) l1 ∧ Hid (l1 = l ++ dupF k D))
        case first =>
          rcases D with _ | j
          · rw [show decide (fstV k none < (k : Int)) = false from decide_eq_false (by show ¬ (k : Int) < (k : Int); omega)]
            dsimp only [fstV]
            go_wp2_with fail
            go_meet
            exact ⟨l, B, q', rfl, X2, Lib.hid (by simp [dupF])⟩
          · have hjk := hDl j rfl
            rw [show decide (fstV k (some j) < (k : Int)) = true from decide_eq_true (by show (j : Int) < (k : Int); omega)]
            dsimp only [fstV]
            go_wp2_with (at_builtin; go_must (refine wpList_appF (f := fFeature) (by rfl) (.tmp 38) (.tmp 42) 22 (by rfl) eltFeature hby (.slice B (l).length q') (l) (by rfl) (OOf X2.O) #[.int .i64 1, .int .i64 (k : Int), .int .i64 (j : Int)] 35 ⟨1, (k : Int), j⟩ 1 (by rfl) (by rfl) (by rfl) (oneE _) hlb (Below.size X2.B) ?_); intro v' w' hown' hg' hat' hbl'; have X5 := X2.app hown' hg' hat' hbl')
            obtain ⟨B5, c5, rfl⟩ := own_form hown'
            go_meet
            exact ⟨_, B5, c5, rfl, X5, Lib.hid (by simp [dupF])⟩
        case rest =>
          obtain ⟨l1, B1, q1, rfl, X3, HL1⟩ := hcut
          have hlb1 : l1.length ≤ 100000000 := by rw [HL1.out, List.length_append]; have := dupF_len k D; omega
          have HN1 := Lib.hid (show ftK zs cy hd (k + 1) = (l1 ++ adF cy hd k y) ++ stF k y ++ deF k y by rw [HN.out, HL1.out])
          have HLE := Lib.hid (show l1.length ≤ l.length + 1 by rw [HL1.out, List.length_append]; have := dupF_len k D; omega)
          clear X2 HN HL1 hDl fk hr fst
          have z0 : wc.cell? ⟨wr.heap.size, 0, none⟩ = some (.int .i64 y.f0) := X3.F.cell 0 (by simp [fFound])
          have z1 : wc.cell? ⟨wr.heap.size, 1, none⟩ = some (.int .i64 y.f1) := X3.F.cell 1 (by simp [fFound])
          go_upto_region 12 with fail
          go_cut [53] (fun t wx => wc = wx ∧ t = .bool (!(decide (y.f0 = cy ∧ y.f1 = hd))))
          case first =>
            by_cases h0 : y.f0 = cy
            · have d0 : (y.f0 != cy) = false := by simp [h0]
              by_cases h1 : y.f1 = hd
              · have d1 : (y.f1 != hd) = false := by simp [h1]
                have hb : (!(decide (y.f0 = cy ∧ y.f1 = hd))) = false := by simp [h0, h1]
                go_wp2_with fail
                go_meet
                exact ⟨(by first | rfl | trivial), by rw [hb]⟩
              · have d1 : (y.f1 != hd) = true := by simp [h1]
                have hb : (!(decide (y.f0 = cy ∧ y.f1 = hd))) = true := by simp [h1]
                go_wp2_with fail
                go_meet
                exact ⟨(by first | rfl | trivial), by rw [hb]⟩
            · have d0 : (y.f0 != cy) = true := by simp [h0]
              have hb : (!(decide (y.f0 = cy ∧ y.f1 = hd))) = true := by simp [h0]
              go_wp2_with fail
              go_meet
              exact ⟨(by first | rfl | trivial), by rw [hb]⟩
          case rest =>
            obtain ⟨rfl, rfl⟩ := hcut
            clear z0 z1
            go_upto_if 53 with fail
            go_cut [7] (fun v wx => ∃ (l2 : List DFeature) (B2 : Option Addr) (q2 : Nat), v = .slice B2 l2.length q2 ∧ FX w wx wr.heap.size y (.slice B2 l2.length q2) l2 ∧ Hid (l2 = l1 ++ adF cy hd k y))
            case first =>
              by_cases h01 : y.f0 = cy ∧ y.f1 = hd
              · have hb : decide (y.f0 = cy ∧ y.f1 = hd) = true := decide_eq_true h01
                rw [hb]
                go_wp2_with fail
                go_meet
                exact ⟨l1, B1, q1, rfl, X3, Lib.hid (by unfold adF; rw [if_pos h01, List.append_nil])⟩
              · have hb : decide (y.f0 = cy ∧ y.f1 = hd) = false := decide_eq_false h01
                rw [hb]
                have HA := Lib.hid (show adF cy hd k y = [⟨2, (k : Int), 0⟩] by unfold adF; rw [if_neg h01])
                clear h01
                go_wp2_with (at_builtin; go_must (refine wpList_appF (f := fFeature) (by rfl) (.tmp 54) (.tmp 57) 22 (by rfl) eltFeature hby (.slice B1 (l1).length q1) (l1) (by rfl) (OOf X3.O) #[.int .i64 2, .int .i64 (k : Int), .int .i64 0] 35 ⟨2, (k : Int), 0⟩ 1 (by rfl) (by rfl) (by rfl) (oneE _) hlb1 (Below.size X3.B) ?_); intro v' w' hown' hg' hat' hbl'; have X5 := X3.app hown' hg' hat' hbl')
                obtain ⟨B5, c5, rfl⟩ := own_form hown'
                go_meet
                exact ⟨_, B5, c5, rfl, X5, Lib.hid (by rw [HA.out])⟩
            case rest =>
              obtain ⟨l2, B2, q2, rfl, X4, HL2⟩ := hcut
              have hadl : (adF cy hd k y).length ≤ 1 := by unfold adF; split <;> simp
              have HLE2 := Lib.hid (show l2.length ≤ l.length + 2 by rw [HL2.out, List.length_append]; have := HLE.out; omega)
              have hlb2 : l2.length ≤ 100000000 := by have := HLE2.out; omega
              have HN2 := Lib.hid (show ftK zs cy hd (k + 1) = (l2 ++ stF k y) ++ deF k y by rw [HN1.out, HL2.out])
              clear X3 HN1 HL2 HLE hadl hlb1
              have z5 : wc.cell? ⟨wr.heap.size, 5, none⟩ = some (.int .i64 y.f5) := X4.F.cell 5 (by simp [fFound])
              go_upto_block 2 with fail
              go_cut [7] (fun v wx => ∃ (l3 : List DFeature) (B3 : Option Addr) (q3 : Nat), v = .slice B3 l3.length q3 ∧ FX w wx wr.heap.size y (.slice B3 l3.length q3) l3 ∧ Hid (l3 = l2 ++ stF k y))
              case first =>
                by_cases h3 : y.f5 = 3
                · have d3 : (y.f5 == 3) = true := by simp [h3]
                  have HA := Lib.hid (show stF k y = [⟨4, (k : Int), 0⟩] by unfold stF; rw [if_pos h3])
                  clear h3
                  go_wp2_with (at_builtin; go_must (refine wpList_appF (f := fFeature) (by rfl) (.tmp 63) (.tmp 66) 22 (by rfl) eltFeature hby (.slice B2 (l2).length q2) (l2) (by rfl) (OOf X4.O) #[.int .i64 4, .int .i64 (k : Int), .int .i64 0] 35 ⟨4, (k : Int), 0⟩ 1 (by rfl) (by rfl) (by rfl) (oneE _) hlb2 (Below.size X4.B) ?_); intro v' w' hown' hg' hat' hbl'; have X5 := X4.app hown' hg' hat' hbl')
                  obtain ⟨B5, c5, rfl⟩ := own_form hown'
                  go_meet
                  exact ⟨_, B5, c5, rfl, X5, Lib.hid (by rw [HA.out])⟩
                · have d3 : (y.f5 == 3) = false := by simp [h3]
                  by_cases h4 : y.f5 = 4
                  · have d4 : (y.f5 == 4) = true := by simp [h4]
                    have HA := Lib.hid (show stF k y = [⟨5, (k : Int), 0⟩] by unfold stF; rw [if_neg h3, if_pos h4])
                    clear h3 h4
                    go_wp2_with (at_builtin; go_must (refine wpList_appF (f := fFeature) (by rfl) (.tmp 70) (.tmp 73) 22 (by rfl) eltFeature hby (.slice B2 (l2).length q2) (l2) (by rfl) (OOf X4.O) #[.int .i64 5, .int .i64 (k : Int), .int .i64 0] 35 ⟨5, (k : Int), 0⟩ 1 (by rfl) (by rfl) (by rfl) (oneE _) hlb2 (Below.size X4.B) ?_); intro v' w' hown' hg' hat' hbl'; have X5 := X4.app hown' hg' hat' hbl')
                    obtain ⟨B5, c5, rfl⟩ := own_form hown'
                    go_meet
                    exact ⟨_, B5, c5, rfl, X5, Lib.hid (by rw [HA.out])⟩
                  · have d4 : (y.f5 == 4) = false := by simp [h4]
                    have HA := Lib.hid (show stF k y = [] by unfold stF; rw [if_neg h3, if_neg h4])
                    clear h3 h4
                    go_wp2_with fail
                    go_meet
                    exact ⟨l2, B2, q2, rfl, X4, Lib.hid (by rw [HA.out, List.append_nil])⟩
              case rest =>
                obtain ⟨l3, B3, q3, rfl, X6, HL3⟩ := hcut
                have hstl : (stF k y).length ≤ 1 := by unfold stF; split; simp; split <;> simp
                have hlb3 : l3.length ≤ 100000000 := by rw [HL3.out, List.length_append]; have := HLE2.out; omega
                have HN3 := Lib.hid (show ftK zs cy hd (k + 1) = l3 ++ deF k y by rw [HN2.out, HL3.out])
                clear X4 HN2 HL3 HLE2 hstl hlb2 z5
                have z6 : wc.cell? ⟨wr.heap.size, 6, none⟩ = some (.bool y.f6) := X6.F.cell 6 (by simp [fFound])
                cases h6 : y.f6
                · have HA := Lib.hid (show l3 = ftK zs cy hd (k + 1) by rw [HN3.out]; unfold deF; rw [if_neg (by rw [h6]; decide), List.append_nil])
                  rw [h6] at z6
                  go_wp2_with fail
                  go_roundw
                  case rel => exact ⟨k + 1, l3, B3, q3, by go_num, hlt, rfl, X6.O, X6.B, HA⟩
                  case measure => simp [intOf]; omega
                · have HA := Lib.hid (show l3 ++ [⟨6, (k : Int), 0⟩] = ftK zs cy hd (k + 1) by rw [HN3.out]; unfold deF; rw [if_pos h6])
                  rw [h6] at z6
                  go_wp2_with (at_builtin; go_must (refine wpList_appF (f := fFeature) (by rfl) (.tmp 77) (.tmp 80) 22 (by rfl) eltFeature hby (.slice B3 (l3).length q3) (l3) (by rfl) (OOf X6.O) #[.int .i64 6, .int .i64 (k : Int), .int .i64 0] 35 ⟨6, (k : Int), 0⟩ 1 (by rfl) (by rfl) (by rfl) (oneE _) hlb3 (Below.size X6.B) ?_); intro v' w' hown' hg' hat' hbl'; have X5 := X6.app hown' hg' hat' hbl')
                  obtain ⟨B5, c5, rfl⟩ := own_form hown'
                  go_roundw
                  case rel => exact ⟨k + 1, _, B5, c5, by go_num, hlt, rfl, X5.O, X5.B, HA⟩
                  case measure => simp [intOf]; omega
    · have hlti : decide ((k : Int) < (zs.length : Int)) = false := decide_eq_false (by omega)
      obtain rfl : k = zs.length := by omega
      have HN := Lib.hid (HL.out.trans HR.out)
      go_wp2_with fail
      go_ret
      exact ⟨_, rfl, by rw [← HN.out]; exact OOf O, hB⟩
end Go.Proofs.YtlfmpgfobkmgfaaGreatDoor
namespace Go.Proofs.YtlfmpgfobkmgfaaGreatDoor
open Go.RowKit
set_option linter.unusedVariables false
set_option linter.unusedSimpArgs false

theorem marks_in (f : Int) (c : List UInt8) (hf : f = 1 ∨ f = 2 ∨ f = 3) (h0 : 0 < c.length) : inM c.length (marksS f c) := by
  unfold marksS
  split
  · intro m hm
    cases hm
  · intro m hm
    unfold mkS at hm
    obtain ⟨s, hs, e⟩ := List.mem_filterMap.1 hm
    obtain ⟨k, hk, rfl⟩ := Option.map_eq_some_iff.1 e
    refine ⟨?_, ?_, Nat.mod_lt _ h0⟩
    · unfold kindA at hk
      split at hk
      · cases hk; exact .inl rfl
      · split at hk
        · cases hk; exact .inr (.inl rfl)
        · split at hk
          · cases hk; exact .inr (.inr rfl)
          · cases hk
    · show s.1 < c.length
      unfold sitesF at hs
      split at hs
      · unfold gSites at hs
        obtain ⟨⟨a, d⟩, hx, rfl⟩ := List.mem_map.1 hs
        exact (sync_mem hx).1
      · unfold fSites at hs
        obtain ⟨a, ha, rfl⟩ := List.mem_map.1 hs
        exact List.mem_range.1 ha
theorem cells_bits {s : ByteArray} (h : cellsB s = true) : bitsB (bl s) := by
  unfold cellsB at h
  simp only [Bool.and_eq_true, decide_eq_true_eq] at h
  intro x hx
  have h2 := List.all_eq_true.1 h.2.2 x hx
  unfold cellB at h2
  rw [Bool.or_eq_true, beq_iff_eq, beq_iff_eq] at h2
  rcases h2 with e | e
  · exact .inl (UInt8.toNat_inj.1 (e.trans rfl))
  · exact .inr (UInt8.toNat_inj.1 (e.trans rfl))
theorem fmS_ok {f : Int} {s : ByteArray} (h : (fmS f s).2 = 0) : cellsB s = true ∧ (f = 1 ∨ f = 2 ∨ f = 3) ∧ (fmS f s).1 = marksS f (bl s) ∧ (fmS f s).1.length ≤ 64 := by
  unfold fmS at h ⊢
  split at h
  · rename_i hc
    rw [if_pos hc]
    split at h
    · cases h
    · rename_i h64
      rw [if_neg h64]
      exact ⟨hc.1, in13 hc.2, rfl, by show (marksS f (bl s)).length ≤ 64; omega⟩
  · cases h
theorem fmS_in {f : Int} {s : ByteArray} (h : (fmS f s).2 = 0) : inM s.size (fmS f s).1 := by
  obtain ⟨h1, h2, h3, _⟩ := fmS_ok h
  rw [h3, ← blen s]
  exact marks_in f (bl s) h2 (by rw [blen]; exact (cells_n h1).1)
/-- The sectors of a track and the code. -/
def rtF (f : Int) (s : ByteArray) : List DFound × Int := if (fmS f s).2 = 0 then ((hdK (fmS f s).1 (fmS f s).1.length).map (secF f (bl s) (fmS f s).1), 0) else ([], (fmS f s).2)
theorem rtF_len (f : Int) (s : ByteArray) : (rtF f s).1.length ≤ 64 := by
  unfold rtF
  split
  · rename_i h
    show ((hdK (fmS f s).1 (fmS f s).1.length).map (secF f (bl s) (fmS f s).1)).length ≤ 64
    rw [List.length_map]
    have h1 := hdK_len (fmS f s).1 (fmS f s).1.length
    have h2 := (fmS_ok h).2.2.2
    omega
  · exact Nat.zero_le _
set_option maxHeartbeats 1000000 in
theorem spec_ReadTrack_any (f : Int) (s : ByteArray) (w : World) (hs : s.size ≤ 1048576) :
    Calls Tryz.prog 9 #[.string s, .int .i64 f] w fun e w' => ∃ A q, e = .returned (.tuple #[.slice A (rtF f s).1.length q, .int .i64 (rtF f s).2]) ∧ OO w' w.heap.size 45 8 (.slice A (rtF f s).1.length q) (rtF f s).1.length (flat fFound (rtF f s).1) ∧ Below w.heap.size w w' := by
  have fm := fun W => spec_FindMarks_any f s W hs
  have hok : (fmS f s).2 = 0 → 0 < s.size ∧ s.size ≤ 8000 ∧ bitsB (bl s) ∧ (fmS f s).1.length ≤ 64 ∧ inM s.size (fmS f s).1 := fun h => by
    have h1 := fmS_ok h
    exact ⟨(cells_n h1.1).1, (cells_n h1.1).2, cells_bits h1.1, h1.2.2.2, fmS_in h⟩
  obtain ⟨R, hR⟩ : ∃ R, rtF f s = R := ⟨_, rfl⟩
  rw [hR]
  have HR := Lib.hid (show (if (fmS f s).2 = 0 then ((hdK (fmS f s).1 (fmS f s).1.length).map (secF f (bl s) (fmS f s).1), 0) else ([], (fmS f s).2)) = R from hR)
  clear hR
  obtain ⟨⟨ms, c⟩, hms⟩ : ∃ m, fmS f s = m := ⟨_, rfl⟩
  rw [hms] at fm hok HR
  dsimp only at fm hok HR
  clear hms
  by_cases hc : c = 0
  · obtain ⟨h0, h8, hbits, h64, hin⟩ := hok hc
    have HN := Lib.hid (show ((hdK ms ms.length).map (secF f (bl s) ms), 0) = R by rw [← HR.out, if_pos hc])
    have hc2 : (c != 0) = false := by simp [hc]
    clear HR hok hc
    have rd := fun (A : Option Addr) (q : Nat) (W : World) hr => l09Read_any f s ms A q W h0 h8 hbits hr h64 hin
    obtain ⟨L, hL⟩ : ∃ L, (hdK ms ms.length).map (secF f (bl s) ms) = L := ⟨_, rfl⟩
    rw [hL] at rd HN
    clear hL
    go_enter Tryz.func9, Tryz.ntmps9
    go_wp2_with (first
      | (go_at_call 20; (with_reducible refine (fm _).mono ?_); rintro e w2 ⟨A, q, rfl, O2, hx2⟩)
      | (go_at_call 21; (with_reducible refine (rd A q _ (Rd.of_own (OOf O2))).mono ?_); rintro e w3 ⟨v3, rfl, O3, hx3⟩; obtain ⟨A3, q3, rfl⟩ := own_form O3))
    go_ret2
    rw [← HN.out]
    exact ⟨A3, q3, rfl, own_base O3 (Below.size hx2), BB.next hx2 hx3⟩
  · have HN := Lib.hid (show ([], c) = R by rw [← HR.out, if_neg hc])
    have hc2 : (c != 0) = true := by simp [hc]
    clear HR hok hc
    go_enter Tryz.func9, Tryz.ntmps9
    go_wp2_with (go_at_call 20; (with_reducible refine (fm _).mono ?_); rintro e w2 ⟨A, q, rfl, O2, hx2⟩)
    go_ret2
    rw [← HN.out]
    exact ⟨none, 0, rfl, World.ownsRow_nil _ _ _ _, hx2⟩

/-- The feature of a long track. -/
def lgF (s : ByteArray) (n : Int) : DFeature × Bool := if cellsB s = true ∧ inB n 1 8000 = true ∧ n < (s.size : Int) then (⟨8, 0, (s.size : Int) - n⟩, true) else (⟨0, 0, 0⟩, false)
def lgV (x : DFeature × Bool) : Value := .tuple #[.agg #[.int .i64 x.1.f0, .int .i64 x.1.f1, .int .i64 x.1.f2], .bool x.2]
set_option maxHeartbeats 1000000 in
theorem spec_LongFeature_any (s : ByteArray) (n : Int) (w : World) (hs : s.size ≤ 1048576) :
    Calls Tryz.prog 13 #[.string s, .int .i64 n] w fun e w' => e = .returned (lgV (lgF s n)) ∧ Below w.heap.size w w' := by
  have vc := fun W => spec_ValidCells_any s W hs
  have li := fun W => l00In_any n 1 8000 W
  have F0 := BX.made w 35 [.int .i64 0, .int .i64 0, .int .i64 0]
  have hB : BB w (w.alloc (.cells #[.int .i64 0, .int .i64 0, .int .i64 0] 35)) := BB.al (BB.start w) _
  have z0 : (_ : Option Value) = some (.int .i64 0) := F0.cell 0 (by simp)
  have z1 : (_ : Option Value) = some (.int .i64 0) := F0.cell 1 (by simp)
  have z2 : (_ : Option Value) = some (.int .i64 0) := F0.cell 2 (by simp)
  have hfz := fun j => F0.free j
  have hno : ¬ (cellsB s = true ∧ inB n 1 8000 = true ∧ n < (s.size : Int)) → lgF s n = (⟨0, 0, 0⟩, false) := fun h => if_neg h
  have hyes : (cellsB s = true ∧ inB n 1 8000 = true ∧ n < (s.size : Int)) → lgF s n = (⟨8, 0, (s.size : Int) - n⟩, true) := fun h => if_pos h
  obtain ⟨R, hR⟩ : ∃ R, lgF s n = R := ⟨_, rfl⟩
  rw [hR] at hno hyes ⊢
  clear hR
  cases hc : cellsB s
  · rw [hc] at vc hno hyes
    have HN := Lib.hid (hno (by simp))
    clear hno hyes
    go_enter Tryz.func13, Tryz.ntmps13
    go_wp2_with (go_at_call 23; (with_reducible refine (vc _).mono ?_); rintro e w2 ⟨rfl, rfl⟩)
    refine bodyPost_ret (v := .tuple #[.agg #[.int .i64 0, .int .i64 0, .int .i64 0], .bool false]) (by simp [results, Tryz.results13, go_sem, World.cell?_setCell_other, z0, z1, z2]) rfl ⟨by rw [HN.out]; rfl, ?_⟩
    first | exact BB.al (BB.start w) _ | exact ((hB.put (a := ⟨w.heap.size, 0, none⟩) (Nat.le_refl _) _).put (a := ⟨w.heap.size, 1, none⟩) (Nat.le_refl _) _).put (a := ⟨w.heap.size, 2, none⟩) (Nat.le_refl _) _
  · rw [hc] at vc hno hyes
    cases hi : inB n 1 8000
    · rw [hi] at li hno hyes
      have HN := Lib.hid (hno (by simp))
      clear hno hyes
      go_enter Tryz.func13, Tryz.ntmps13
      go_wp2_with (first | (go_at_call 23; (with_reducible refine (vc _).mono ?_); rintro e w2 ⟨rfl, rfl⟩) | (go_at_call 11; (with_reducible refine (li _).mono ?_); rintro e w2 ⟨rfl, rfl⟩))
      refine bodyPost_ret (v := .tuple #[.agg #[.int .i64 0, .int .i64 0, .int .i64 0], .bool false]) (by simp [results, Tryz.results13, go_sem, World.cell?_setCell_other, z0, z1, z2]) rfl ⟨by rw [HN.out]; rfl, ?_⟩
      first | exact BB.al (BB.start w) _ | exact ((hB.put (a := ⟨w.heap.size, 0, none⟩) (Nat.le_refl _) _).put (a := ⟨w.heap.size, 1, none⟩) (Nat.le_refl _) _).put (a := ⟨w.heap.size, 2, none⟩) (Nat.le_refl _) _
    · have hi2 := inB_yes hi
      rw [hi] at li hno hyes
      by_cases hn : n < (s.size : Int)
      · have HN := Lib.hid (hyes ⟨rfl, rfl, hn⟩)
        have hd : decide ((s.size : Int) ≤ n) = false := decide_eq_false (by omega)
        have hd2 : ¬ (s.size : Int) ≤ n := by omega
        have hw : IntKind.i64.wrap ((s.size : Int) - n) = (s.size : Int) - n := IntWalk.i64_in _ (by omega)
        clear hno hyes
        go_enter Tryz.func13, Tryz.ntmps13
        go_wp2_with (first | (go_at_call 23; (with_reducible refine (vc _).mono ?_); rintro e w2 ⟨rfl, rfl⟩) | (go_at_call 11; (with_reducible refine (li _).mono ?_); rintro e w2 ⟨rfl, rfl⟩))
        refine bodyPost_ret (v := .tuple #[.agg #[.int .i64 8, .int .i64 0, .int .i64 ((s.size : Int) - n)], .bool true]) (by simp [results, Tryz.results13, go_sem, World.cell?_setCell_other, z0, z1, z2]) rfl ⟨by rw [HN.out]; rfl, ?_⟩
        first | exact BB.al (BB.start w) _ | exact ((hB.put (a := ⟨w.heap.size, 0, none⟩) (Nat.le_refl _) _).put (a := ⟨w.heap.size, 1, none⟩) (Nat.le_refl _) _).put (a := ⟨w.heap.size, 2, none⟩) (Nat.le_refl _) _
      · have HN := Lib.hid (hno (fun h => hn h.2.2))
        have hd : decide ((s.size : Int) ≤ n) = true := decide_eq_true (by omega)
        have hd2 : (s.size : Int) ≤ n := by omega
        clear hno hyes
        go_enter Tryz.func13, Tryz.ntmps13
        go_wp2_with (first | (go_at_call 23; (with_reducible refine (vc _).mono ?_); rintro e w2 ⟨rfl, rfl⟩) | (go_at_call 11; (with_reducible refine (li _).mono ?_); rintro e w2 ⟨rfl, rfl⟩))
        refine bodyPost_ret (v := .tuple #[.agg #[.int .i64 0, .int .i64 0, .int .i64 0], .bool false]) (by simp [results, Tryz.results13, go_sem, World.cell?_setCell_other, z0, z1, z2]) rfl ⟨by rw [HN.out]; rfl, ?_⟩
        first | exact BB.al (BB.start w) _ | exact ((hB.put (a := ⟨w.heap.size, 0, none⟩) (Nat.le_refl _) _).put (a := ⟨w.heap.size, 1, none⟩) (Nat.le_refl _) _).put (a := ⟨w.heap.size, 2, none⟩) (Nat.le_refl _) _

/-- The answer. -/
def tfF (s : ByteArray) (f cy hd n : Int) : List DFeature × Int :=
  if (rtF f s).2 = 0 then (if ((inB cy 0 255 && inB hd 0 255) && inB n 1 8000) = true then (ftK (rtF f s).1 cy hd (rtF f s).1.length ++ (if (lgF s n).2 = true then [(lgF s n).1] else []), 0) else ([], 2)) else ([], (rtF f s).2)
set_option maxRecDepth 100000 in
set_option maxHeartbeats 4000000 in
theorem spec_TrackFeatures_any (s : ByteArray) (f cy hd n : Int) (w : World) (hs : s.size ≤ 1048576) :
    Calls Tryz.prog 4 #[.string s, .int .i64 f, .int .i64 cy, .int .i64 hd, .int .i64 n] w fun e w' => ∃ A q, e = .returned (.tuple #[.slice A (tfF s f cy hd n).1.length q, .int .i64 (tfF s f cy hd n).2]) ∧ OO w' w.heap.size 35 3 (.slice A (tfF s f cy hd n).1.length q) (tfF s f cy hd n).1.length (flat fFeature (tfF s f cy hd n).1) ∧ Below w.heap.size w w' := by
  have hby : 24 ≤ 1000 := by decide
  have rt := fun W => spec_ReadTrack_any f s W hs
  have rl := rtF_len f s
  have tk := fun W => l11Track_any cy hd W
  have li := fun W => l00In_any n 1 8000 W
  have lg := fun W => spec_LongFeature_any s n W hs
  obtain ⟨R, hR⟩ : ∃ R, tfF s f cy hd n = R := ⟨_, rfl⟩
  rw [hR]
  have HR := Lib.hid hR
  unfold tfF at HR
  clear hR
  obtain ⟨⟨zs, c⟩, hz⟩ : ∃ x, rtF f s = x := ⟨_, rfl⟩
  rw [hz] at rt rl HR
  dsimp only at rt rl HR
  clear hz
  by_cases hc : c = 0
  rotate_left
  · have HN := Lib.hid (show ([], c) = R by rw [← HR.out, if_neg hc])
    have hc2 : (c != 0) = true := by simp [hc]
    clear HR hc
    go_enter Tryz.func4, Tryz.ntmps4
    go_wp2_with (go_at_call 9; (with_reducible refine (rt _).mono ?_); rintro e w2 ⟨A, q, rfl, O2, hx2⟩)
    go_ret2
    rw [← HN.out]
    exact ⟨none, 0, rfl, World.ownsRow_nil _ _ _ _, hx2⟩
  have hc2 : (c != 0) = false := by simp [hc]
  have HR1 := Lib.hid ((if_pos hc).symm.trans HR.out)
  clear HR hc
  cases hb1 : (inB cy 0 255 && inB hd 0 255)
  · have HN := Lib.hid (show ([], 2) = R by rw [← HR1.out, hb1]; rfl)
    rw [hb1] at tk
    clear hb1 HR1
    go_enter Tryz.func4, Tryz.ntmps4
    go_wp2_with (first
      | (go_at_call 9; (with_reducible refine (rt _).mono ?_); rintro e w2 ⟨A, q, rfl, O2, hx2⟩) | (go_at_call 10; (with_reducible refine (tk _).mono ?_); rintro e w3 ⟨rfl, rfl⟩))
    go_ret2
    rw [← HN.out]
    exact ⟨none, 0, rfl, World.ownsRow_nil _ _ _ _, hx2⟩
  cases hb2 : inB n 1 8000
  · have HN := Lib.hid (show ([], 2) = R by rw [← HR1.out, hb1, hb2]; rfl)
    rw [hb1] at tk
    rw [hb2] at li
    clear hb1 hb2 HR1
    go_enter Tryz.func4, Tryz.ntmps4
    go_wp2_with (first
      | (go_at_call 9; (with_reducible refine (rt _).mono ?_); rintro e w2 ⟨A, q, rfl, O2, hx2⟩) | (go_at_call 10; (with_reducible refine (tk _).mono ?_); rintro e w3 ⟨rfl, rfl⟩) | (go_at_call 11; (with_reducible refine (li _).mono ?_); rintro e w3 ⟨rfl, rfl⟩))
    go_ret2
    rw [← HN.out]
    exact ⟨none, 0, rfl, World.ownsRow_nil _ _ _ _, hx2⟩
  have HR2 := Lib.hid (show (ftK zs cy hd zs.length ++ (if (lgF s n).2 = true then [(lgF s n).1] else []), 0) = R by rw [← HR1.out, hb1, hb2]; rfl)
  rw [hb1] at tk
  rw [hb2] at li
  clear hb1 hb2 HR1
  have ft := fun (A : Option Addr) (q : Nat) (W : World) hr => l11Features_any zs A q cy hd W hr (by omega)
  have fll := ftK_len zs cy hd zs.length
  obtain ⟨L, hL⟩ : ∃ L, ftK zs cy hd zs.length = L := ⟨_, rfl⟩
  rw [hL] at ft HR2 fll
  clear hL
  obtain ⟨⟨⟨g0, g1, g2⟩, gb⟩, hg⟩ : ∃ x, lgF s n = x := ⟨_, rfl⟩
  rw [hg] at lg HR2
  unfold lgV at lg
  dsimp only at lg HR2
  clear hg
  have hlb : L.length ≤ 100000000 := by omega
  cases gb
  · have HN := Lib.hid (show (L, 0) = R by rw [← HR2.out]; simp)
    clear HR2
    go_enter Tryz.func4, Tryz.ntmps4
    go_wp2_with (first
      | (go_at_call 9; (with_reducible refine (rt _).mono ?_); rintro e w2 ⟨A, q, rfl, O2, hx2⟩) | (go_at_call 10; (with_reducible refine (tk _).mono ?_); rintro e w3 ⟨rfl, rfl⟩) | (go_at_call 11; (with_reducible refine (li _).mono ?_); rintro e w3 ⟨rfl, rfl⟩)
      | (go_at_call 12; (with_reducible refine (ft A q _ (Rd.of_own (OOf O2))).mono ?_); rintro e w4 ⟨v4, rfl, O4, hx4⟩; obtain ⟨A4, q4, rfl⟩ := own_form O4; have hB4 := BB.next hx2 hx4; have O4' := own_base O4 (Below.size hx2))
      | (go_at_call 13; (with_reducible refine (lg _).mono ?_); rintro e w5 ⟨rfl, hx5⟩; have O5 := own_later O4' hx5 (Nat.le_refl _); have hB5 := BB.next hB4 hx5))
    go_ret2
    rw [← HN.out]
    exact ⟨A4, q4, rfl, World.ownsRow.alloc O5 _, BB.al hB5 _⟩
  · have HN := Lib.hid (show (L ++ [⟨g0, g1, g2⟩], 0) = R by rw [← HR2.out]; simp)
    clear HR2
    go_enter Tryz.func4, Tryz.ntmps4
    go_upto_region 9 with (first
      | (go_at_call 9; (with_reducible refine (rt _).mono ?_); rintro e w2 ⟨A, q, rfl, O2, hx2⟩) | (go_at_call 10; (with_reducible refine (tk _).mono ?_); rintro e w3 ⟨rfl, rfl⟩) | (go_at_call 11; (with_reducible refine (li _).mono ?_); rintro e w3 ⟨rfl, rfl⟩)
      | (go_at_call 12; (with_reducible refine (ft A q _ (Rd.of_own (OOf O2))).mono ?_); rintro e w4 ⟨v4, rfl, O4, hx4⟩; obtain ⟨A4, q4, rfl⟩ := own_form O4; have hB4 := BB.next hx2 hx4; have O4' := own_base O4 (Below.size hx2))
      | (go_at_call 13; (with_reducible refine (lg _).mono ?_); rintro e w5 ⟨rfl, hx5⟩; have O5 := World.ownsRow.alloc (own_later O4' hx5 (Nat.le_refl _)) (.cells #[.int .i64 g0, .int .i64 g1, .int .i64 g2] 35); have hB5 : BB w (w5.alloc (.cells #[.int .i64 g0, .int .i64 g1, .int .i64 g2] 35)) := BB.al (BB.next hB4 hx5) _; have G5 := BX.made w5 35 [.int .i64 g0, .int .i64 g1, .int .i64 g2]; have p0 : (_ : Option Value) = some (.int .i64 g0) := G5.cell 0 (by simp); have p1 : (_ : Option Value) = some (.int .i64 g1) := G5.cell 1 (by simp); have p2 : (_ : Option Value) = some (.int .i64 g2) := G5.cell 2 (by simp)))
    generalize (w5.alloc (.cells #[.int .i64 g0, .int .i64 g1, .int .i64 g2] 35)) = w6 at O5 hB5 p0 p1 p2 ⊢
    go_wp2_with (at_builtin; go_must (refine wpList_appF (f := fFeature) (by rfl) (.tmp 46) (.tmp 48) 22 (by rfl) eltFeature hby (.slice A4 L.length q4) L (by rfl) O5 #[.int .i64 g0, .int .i64 g1, .int .i64 g2] 35 ⟨g0, g1, g2⟩ 1 (by rfl) (by rfl) (by rfl) (oneE _) hlb (Below.size hB5) ?_); intro v' w' hown' hg' hat' hbl')
    obtain ⟨A9, q9, rfl⟩ := own_form hown'
    go_ret2
    rw [← HN.out]
    exact ⟨A9, q9, rfl, hown', Below.trans hB5 hbl'⟩
end Go.Proofs.YtlfmpgfobkmgfaaGreatDoor
namespace Go.Proofs.YtlfmpgfobkmgfaaGreatDoor
open Go.RowKit
set_option linter.unusedVariables false
set_option linter.unusedSimpArgs false

/-- The bits of a byte as cells. -/
def bitL (b : Nat) : Nat → List UInt8
  | 0 => []
  | n + 1 => UInt8.ofNat (48 + bitOf b n) :: bitL b n
theorem bitL_len (b : Nat) : ∀ n, (bitL b n).length = n
  | 0 => rfl
  | n + 1 => by unfold bitL; rw [List.length_cons, bitL_len b n]
def clkL : List UInt8 := [49, 49, 48, 48, 48, 49, 49, 49]
def fmK (bs : List UInt8) (k : Nat) : List UInt8 := (List.range k).flatMap fun i => [clkL.getD (i % 8) 0, bs.getD i 0]
theorem fmK_s (bs : List UInt8) (k : Nat) : fmK bs (k + 1) = fmK bs k ++ [clkL.getD (k % 8) 0, bs.getD k 0] := by
  unfold fmK
  rw [List.range_succ, List.flatMap_append]
  simp
theorem fmK_len (bs : List UInt8) : ∀ k, (fmK bs k).length = 2 * k
  | 0 => rfl
  | k + 1 => by rw [fmK_s, List.length_append, fmK_len bs k]; rfl
set_option maxRecDepth 100000 in
theorem fm_I (k : Nat) (hk : k = 1 ∨ k = 2 ∨ k = 3) : fmK (bitL (mbN 1 k) 8) 8 = fmM (mbN 1 k) := by
  rcases hk with rfl | rfl | rfl <;> decide +kernel
def mfL : Bool → List UInt8 → List UInt8
  | _, [] => []
  | last, x :: xs => (if last = false ∧ x = 48 then 49 else 48) :: x :: mfL (x == 49) xs
set_option maxRecDepth 100000 in
theorem mf_I (k : Nat) (hk : k = 1 ∨ k = 2 ∨ k = 3) : mfL true (bitL (mbN 2 k) 8) = encL (mbN 2 k) true 8 true := by
  rcases hk with rfl | rfl | rfl <;> decide +kernel

theorem cw_mod (c : List UInt8) (x i : Nat) : cw c (x % c.length + i) = cw c (x + i) := by
  unfold cw
  rw [Nat.mod_add_mod]
theorem cir_mod (c : List UInt8) (x m : Nat) : cir c (x % c.length) m = cir c x m := by
  unfold cir
  refine List.map_congr_left (fun i _ => ?_)
  exact cw_mod c x i
theorem cw_eq {c : List UInt8} {k : Nat} (h : k < c.length) : cw c k = c[k] := by
  unfold cw
  rw [Nat.mod_eq_of_lt h, List.getD_eq_getElem?_getD, List.getElem?_eq_getElem h, Option.getD_some]
theorem cw_eq2 {c : List UInt8} {k : Nat} (h1 : c.length ≤ k) (h : k - c.length < c.length) : cw c k = c[k - c.length] := by
  unfold cw
  rw [Nat.mod_eq_sub_mod h1, Nat.mod_eq_of_lt h, List.getD_eq_getElem?_getD, List.getElem?_eq_getElem h, Option.getD_some]
theorem cir_get {c : List UInt8} {a m i : Nat} (h : i < (cir c a m).length) : (cir c a m)[i] = cw c (a + i) := by simp only [cir, List.getElem_map, List.getElem_range]
theorem cir_1 {c : List UInt8} {a m : Nat} (h : a + m ≤ c.length) : (c.drop a).take m = cir c a m := by
  apply List.ext_getElem
  · rw [cir_len, List.length_take, List.length_drop]; omega
  · intro i h1 h2
    rw [cir_len] at h2
    rw [List.getElem_take, List.getElem_drop, cir_get, cw_eq (by omega)]
theorem cir_2 {c : List UInt8} {a m : Nat} (ha : a ≤ c.length) (h : c.length < a + m) (h2 : m ≤ c.length) : c.drop a ++ c.take (a + m - c.length) = cir c a m := by
  apply List.ext_getElem
  · rw [cir_len, List.length_append, List.length_take, List.length_drop]; omega
  · intro i h1 h3
    rw [cir_len] at h3
    rw [cir_get]
    by_cases hi : a + i < c.length
    · rw [List.getElem_append_left (by rw [List.length_drop]; omega), List.getElem_drop, cw_eq hi]
    · rw [List.getElem_append_right (by rw [List.length_drop]; omega), List.getElem_take, cw_eq2 (by omega) (by omega)]
      congr 1
      rw [List.length_drop]
      omega
theorem cir_3 {c : List UInt8} {a m : Nat} (ha : a ≤ c.length) (h2 : m ≤ c.length) : ((c ++ c).drop a).take m = cir c a m := by
  by_cases h : a + m ≤ c.length
  · rw [List.drop_append_of_le_length ha, List.take_append_of_le_length (by rw [List.length_drop]; omega)]
    exact cir_1 h
  · rw [List.drop_append_of_le_length ha, List.take_append, List.take_of_length_le (by rw [List.length_drop]; omega), List.length_drop, ← cir_2 ha (by omega) h2]
    congr 2
    omega
theorem pre_fit {c p : List UInt8} {a : Nat} (ha : a ≤ c.length) (hp : p.length ≤ c.length) : decide (((c ++ c).drop a).take p.length = p) = fitB c p a := by
  rw [fit_cir, cir_3 ha hp]

/-- The syncs that impl finds. -/
def syncI (c : List UInt8) : List (Nat × Nat) := if (∀ x ∈ c, x = 49) then (if 10 ≤ c.length then [(0, c.length)] else []) else syncL c
theorem cir_ones {c : List UInt8} (h0 : 0 < c.length) (h : ∀ x ∈ c, x = 49) (a n : Nat) : cir c a n = List.replicate n 49 := by
  rw [List.eq_replicate_iff]
  refine ⟨cir_len c a n, fun b hb => ?_⟩
  unfold cir at hb
  obtain ⟨i, _, rfl⟩ := List.mem_map.1 hb
  have hlt := Nat.mod_lt (a + i) h0
  unfold cw
  rw [List.getD_eq_getElem?_getD, List.getElem?_eq_getElem hlt, Option.getD_some]
  exact h _ (List.getElem_mem _)
theorem cw_ones {c : List UInt8} (h0 : 0 < c.length) (h : ∀ x ∈ c, x = 49) (a : Nat) : cw c a = 49 := by
  have hlt := Nat.mod_lt a h0
  unfold cw
  rw [List.getD_eq_getElem?_getD, List.getElem?_eq_getElem hlt, Option.getD_some]
  exact h _ (List.getElem_mem _)
theorem kind_ones {c : List UInt8} (h0 : 0 < c.length) (h : ∀ x ∈ c, x = 49) (a : Nat) : kindA (patL 3) c a = none := by
  unfold kindA
  rw [fit_cir, fit_cir, fit_cir, cir_ones h0 h, cir_ones h0 h, cir_ones h0 h]
  decide +kernel
theorem sync_ones {c : List UInt8} (h : ∀ x ∈ c, x = 49) : syncL c = [] := by
  unfold syncL
  rw [List.filterMap_eq_nil_iff]
  intro a ha
  have := List.mem_range.1 ha
  have h0 : 0 < c.length := by omega
  exact if_neg (fun g => g.2.1 (cw_ones h0 h _))
theorem syncI_len (c : List UInt8) : (syncI c).length ≤ c.length := by
  unfold syncI
  split
  · split
    · rw [List.length_singleton]; omega
    · exact Nat.zero_le _
  · exact synK_len c c.length
theorem syncI_mem {c : List UInt8} {a d : Nat} (h : (a, d) ∈ syncI c) : a < c.length ∧ d ≤ c.length := by
  unfold syncI at h
  split at h
  · split at h
    · rw [List.mem_singleton] at h
      cases h
      exact ⟨by omega, Nat.le_refl _⟩
    · cases h
  · exact sync_mem h
theorem gcr_I {c : List UInt8} (h0 : 0 < c.length) : mkS (patL 3) 10 c ((syncI c).map fun s => (s.1, s.1 + s.2)) = mkS (patL 3) 10 c (gSites c) := by
  unfold syncI
  split
  · rename_i h
    unfold gSites
    rw [sync_ones h]
    split
    · unfold mkS
      rw [List.map_cons, List.map_nil, List.filterMap_cons, kind_ones h0 h]
      rfl
    · rfl
  · rfl
/-- The marks of kinds 1 to K at a sync. -/
def sK (c : List UInt8) (a d : Nat) (K : Nat) : List MK := (List.range K).filterMap fun j => oneK (patL 3) 10 c (j + 1) (a, d)
theorem sK_s (c : List UInt8) (a d K : Nat) : sK c a d (K + 1) = sK c a d K ++ (if fitB c (patL 3 (K + 1)) d = true then [(K + 1, a, (d + 10) % c.length)] else []) := by
  unfold sK
  rw [List.range_succ, List.filterMap_append, List.filterMap_cons]
  unfold oneK
  split <;> rename_i h <;> split at h <;> simp_all
theorem sK_3 (c : List UInt8) (a d : Nat) : sK c a d 3 = ((kindA (patL 3) c d).map fun k => (k, a, (d + 10) % c.length)).toList := by
  have hu := fun k k' hk hk' h1 h2 => (pat3_f 3 (by omega)).uniq (c := c) (a := d) (k := k) (k' := k') hk hk' h1 h2
  have h12 := hu 1 2 (by omega) (by omega)
  have h13 := hu 1 3 (by omega) (by omega)
  have h23 := hu 2 3 (by omega) (by omega)
  rw [sK_s, sK_s, sK_s]
  unfold kindA sK
  by_cases f1 : fitB c (patL 3 1) d = true
  · have f2 : ¬ fitB c (patL 3 2) d = true := fun h => by have := h12 f1 h; omega
    have f3 : ¬ fitB c (patL 3 3) d = true := fun h => by have := h13 f1 h; omega
    rw [if_pos f1, if_neg f2, if_neg f3, if_pos f1]
    rfl
  · by_cases f2 : fitB c (patL 3 2) d = true
    · have f3 : ¬ fitB c (patL 3 3) d = true := fun h => by have := h23 f2 h; omega
      rw [if_neg f1, if_pos f2, if_neg f3, if_neg f1, if_pos f2]
      rfl
    · rw [if_neg f1, if_neg f2, if_neg f1, if_neg f2]
      split <;> rfl
def gmK (c : List UInt8) (L : List (Nat × Nat)) (j : Nat) : List MK := mkS (patL 3) 10 c ((L.take j).map fun s => (s.1, s.1 + s.2))
theorem gmK_s {c : List UInt8} {L : List (Nat × Nat)} {j : Nat} (h : j < L.length) : gmK c L (j + 1) = gmK c L j ++ sK c L[j].1 (L[j].1 + L[j].2) 3 := by
  rw [sK_3]
  unfold gmK mkS
  rw [List.take_succ_eq_append_getElem h, List.map_append, List.filterMap_append]
  congr 1
theorem gmK_len (c : List UInt8) (L : List (Nat × Nat)) (j : Nat) : (gmK c L j).length ≤ L.length := by
  unfold gmK mkS
  refine Nat.le_trans (List.length_filterMap_le _ _) ?_
  rw [List.length_map, List.length_take]
  omega
theorem gmK_e {s : ByteArray} (h0 : 0 < s.size) : gmK (bl s) (syncI (bl s)) (syncI (bl s)).length = marksS 3 (bl s) := by
  unfold gmK
  rw [List.take_length, gcr_I (by rw [blen]; exact h0)]
  unfold marksS
  split
  · rename_i h
    have hL : syncL (bl s) = [] := by
      unfold syncL
      rw [List.filterMap_eq_nil_iff]
      intro a _
      refine if_neg (fun g => ?_)
      have := ones_le (bl s) (bl s).length a
      have h' : (bl s).length < 10 := h
      omega
    unfold gSites
    rw [hL]
    rfl
  · rfl
theorem ones_lt {c : List UInt8} (h : ∃ j, j < c.length ∧ c.getD j 0 ≠ 49) (a : Nat) : onesF c a c.length < c.length := by
  have key : ∀ f a, onesF c a f = f → ∀ i, i < f → cw c (a + i) = 49 := by
    intro f
    induction f with
    | zero => intro a _ i hi; omega
    | succ f ih =>
      intro a e i hi
      unfold onesF at e
      split at e
      · rename_i h1
        rcases i with _ | i
        · exact h1
        · have := ih (a + 1) (by omega) i (by omega)
          rwa [show a + (i + 1) = a + 1 + i by omega]
      · omega
  have hle := ones_le c c.length a
  rcases Nat.lt_or_ge (onesF c a c.length) c.length with h1 | h1
  · exact h1
  · exfalso
    obtain ⟨j, hj, hne⟩ := h
    have hk := key c.length a (by omega)
    have h0 : 0 < c.length := by omega
    -- the index i with (a + i) % n = j
    have := hk ((j + (c.length - a % c.length)) % c.length) (Nat.mod_lt _ h0)
    unfold cw at this
    rw [Nat.add_mod_mod] at this
    have hm := Nat.mod_lt a h0
    have hd := Nat.div_add_mod a c.length
    rw [show a + (j + (c.length - a % c.length)) = j + c.length * (a / c.length + 1) by rw [Nat.mul_add, Nat.mul_one]; omega, Nat.add_mul_mod_self_left, Nat.mod_eq_of_lt hj] at this
    exact hne this

/-- The bytes behind i bits. -/
def bytP (bits : List UInt8) (nb i : Nat) : List UInt8 := (List.range nb).map fun j => UInt8.ofNat (b8n (fun k => bits.getD (8 * j + k) 48) (min 8 (i - 8 * j)))
theorem bytP_len (bits : List UInt8) (nb i : Nat) : (bytP bits nb i).length = nb := by simp [bytP]
theorem bytP_0 (bits : List UInt8) (nb : Nat) : bytP bits nb 0 = List.replicate nb 0 := by
  rw [List.eq_replicate_iff]
  refine ⟨bytP_len bits nb 0, fun b hb => ?_⟩
  unfold bytP at hb
  obtain ⟨i, _, rfl⟩ := List.mem_map.1 hb
  rw [Nat.zero_sub]
  rfl
theorem bytP_e (bits : List UInt8) (nb : Nat) : bytP bits nb (8 * nb) = bytesL bits nb := by
  unfold bytP bytesL b8
  refine List.map_congr_left (fun i hi => ?_)
  have := List.mem_range.1 hi
  rw [show min 8 (8 * nb - 8 * i) = 8 by omega]
theorem bytP_at (bits : List UInt8) (nb i m : Nat) (h : m < (bytP bits nb i).length) : (bytP bits nb i)[m] = UInt8.ofNat (b8n (fun k => bits.getD (8 * m + k) 48) (min 8 (i - 8 * m))) := by simp only [bytP, List.getElem_map, List.getElem_range]
theorem bytP_get (bits : List UInt8) (nb i j n : Nat) (hi : i = 8 * j + n) (hn : n < 8) (hj : j < nb) : (bytP bits nb i)[j]'(by rw [bytP_len]; exact hj) = UInt8.ofNat (b8n (fun k => bits.getD (8 * j + k) 48) n) := by
  rw [bytP_at, show min 8 (i - 8 * j) = n by omega]
theorem bytP_s (bits : List UInt8) (nb i j n : Nat) (hi : i = 8 * j + n) (hn : n < 8) (hj : j < nb) : bytP bits nb (i + 1) = (bytP bits nb i).set j (UInt8.ofNat (b8n (fun k => bits.getD (8 * j + k) 48) n * 2 + (bits.getD i 48).toNat % 2)) := by
  apply List.ext_getElem
  · rw [List.length_set, bytP_len, bytP_len]
  · intro m h1 h2
    rw [bytP_len] at h1
    by_cases hm : m = j
    · subst hm
      rw [List.getElem_set_self]
      rw [bytP_at, show min 8 (i + 1 - 8 * m) = n + 1 by omega, hi]
      rfl
    · rw [List.getElem_set_ne (fun e => hm e.symm)]
      rw [bytP_at, bytP_at]
      have : min 8 (i + 1 - 8 * m) = min 8 (i - 8 * m) := by omega
      rw [this]

def woL (n : Nat) : List UInt8 := [UInt8.ofNat (n / 256), UInt8.ofNat (n % 256)]
def woB (n : Nat) : ByteArray := str1 (woL n)
theorem chk_eq {r : List UInt8} {n sum : Nat} (h : r.length = n + 2) (hs : sum < 65536) : decide (r.take n ++ woL sum = r) = decide (sum = wdL r n) := by
  have e1 : r = r.take n ++ [r.getD n 0, r.getD (n + 1) 0] := by
    apply List.ext_getElem
    · rw [List.length_append, List.length_take]; simp; omega
    · intro i h1 h2
      by_cases hi : i < n
      · rw [List.getElem_append_left (by rw [List.length_take]; omega), List.getElem_take]
      · rw [List.getElem_append_right (by rw [List.length_take]; omega)]
        have hl : (r.take n).length = n := by rw [List.length_take]; omega
        by_cases h3 : i = n
        · subst h3
          simp only [hl, Nat.sub_self, List.getElem_cons_zero]
          rw [List.getD_eq_getElem?_getD, List.getElem?_eq_getElem h1, Option.getD_some]
        · have : i = n + 1 := by omega
          subst this
          simp only [hl, Nat.add_sub_cancel_left, List.getElem_cons_succ, List.getElem_cons_zero]
          rw [List.getD_eq_getElem?_getD, List.getElem?_eq_getElem h1, Option.getD_some]
  have hA := (r.getD n 0).toNat_lt
  have hB := (r.getD (n + 1) 0).toNat_lt
  rw [decide_eq_decide]
  unfold wdL woL
  constructor
  · intro e
    rw [e1] at e
    have e2 : [UInt8.ofNat (sum / 256), UInt8.ofNat (sum % 256)] = [r.getD n 0, r.getD (n + 1) 0] := by
      rw [← e1] at e
      exact List.append_cancel_left (e.trans e1)
    have e3 := List.cons.inj e2
    have e4 := List.cons.inj e3.2
    rw [← e3.1, ← e4.1, UInt8.toNat_ofNat', UInt8.toNat_ofNat']
    omega
  · intro e
    have e5 : [UInt8.ofNat (sum / 256), UInt8.ofNat (sum % 256)] = [r.getD n 0, r.getD (n + 1) 0] := by
      congr 1
      · apply UInt8.toNat_inj.1
        rw [UInt8.toNat_ofNat', e]; omega
      · congr 1
        apply UInt8.toNat_inj.1
        rw [UInt8.toNat_ofNat', e]; omega
    rw [e5]
    exact e1.symm
theorem mod_int (n a b : Nat) (h0 : 0 < n) (ha : a < n) (hb : b < n) : ((((b : Int) - (a : Int)).tmod (n : Int)) + (n : Int)).tmod (n : Int) = (((b + n - a) % n : Nat) : Int) := by
  by_cases h : a ≤ b
  · have e1 : ((b : Int) - (a : Int)) = ((b - a : Nat) : Int) := by omega
    rw [e1, rem_nat, Nat.mod_eq_of_lt (by omega), show ((b - a : Nat) : Int) + (n : Int) = ((b + n - a : Nat) : Int) by omega, rem_nat]
  · have e1 : ((b : Int) - (a : Int)) = -((a - b : Nat) : Int) := by omega
    rw [e1, Int.neg_tmod, rem_nat, Nat.mod_eq_of_lt (by omega), show -((a - b : Nat) : Int) + (n : Int) = ((b + n - a : Nat) : Int) by omega, rem_nat]
end Go.Proofs.YtlfmpgfobkmgfaaGreatDoor
namespace Go.Proofs.YtlfmpgfobkmgfaaGreatDoor
open Go.RowKit
set_option linter.unusedVariables false
set_option linter.unusedSimpArgs false

/-- The bytes of 2k groups. -/
def rawK (c : List UInt8) (k : Nat) : List UInt8 := (List.range k).map fun i => UInt8.ofNat (16 * gvP (grp c (2 * i)) + gvP (grp c (2 * i + 1)))
theorem rawK_s (c : List UInt8) (k : Nat) : rawK c (k + 1) = rawK c k ++ [UInt8.ofNat (16 * gvP (grp c (2 * k)) + gvP (grp c (2 * k + 1)))] := by
  unfold rawK
  rw [List.range_succ, List.map_append]
  rfl
theorem rawK_len (c : List UInt8) (k : Nat) : (rawK c k).length = k := by simp [rawK]
theorem rawF_3 {c : List UInt8} {m : Nat} (h : c.length = 10 * m) : rawF 3 c = (rawK c m, okK c (2 * m)) := by
  unfold rawF
  rw [if_pos rfl, show c.length / 5 = 2 * m by omega, show c.length / 10 = m by omega, gbytes]
  rfl
theorem rawF_o {f : Int} (hf : ¬ f = 3) {c : List UInt8} {m : Nat} (h : c.length = 16 * m) : rawF f c = (bytesL (odds c) m, true) := by
  unfold rawF
  rw [if_neg hf, show c.length / 16 = m by omega]
theorem okK_2 (c : List UInt8) (k : Nat) : okK c (2 * (k + 1)) = ((okK c (2 * k) && decide (0 ≤ gvI (grp c (2 * k)))) && decide (0 ≤ gvI (grp c (2 * k + 1)))) := by
  rw [show 2 * (k + 1) = 2 * k + 1 + 1 by omega, okK_s, okK_s]
theorem oddK_odds {c : List UInt8} {n : Nat} (h : c.length = 2 * n) : oddK c n = odds c := by
  unfold oddK odds
  rw [h, Nat.mul_div_cancel_left _ (by omega)]
theorem all_cell {l : List UInt8} (h : bitsB l) : l.all cellB = true := by
  rw [List.all_eq_true]
  intro x hx
  rcases h x hx with rfl | rfl <;> rfl
/-- A row of bytes that is made. -/
theorem made_MarkB (W : World) (m : Nat) : MarkB (W.alloc (.cells (madeCells #[.int .u8 0] m) 5)) W.heap.size 5 (List.replicate m 0) := by
  refine ⟨_, _, heap_alloc_new W _, ?_, ?_⟩
  · intro j hj
    have hj' : j < m := by simpa using hj
    rw [List.getElem_replicate]
    simp [madeCells, hj', Nat.mod_one]
  · intro j _
    simp
end Go.Proofs.YtlfmpgfobkmgfaaGreatDoor
namespace Go.Proofs.YtlfmpgfobkmgfaaGreatDoor
open Go.RowKit Go.Lib
set_option linter.unusedVariables false
set_option linter.unusedSimpArgs false

set_option maxRecDepth 100000 in
set_option maxHeartbeats 2000000 in
theorem addressOf_any (x : DFound) (w : World) : Calls Tryz.prog 29 #[vFound x] w fun e w' => e = .returned (.agg #[.int .i64 x.f0, .int .i64 x.f1, .int .i64 x.f2, .int .i64 x.f3]) ∧ Below w.heap.size w w' := by
  have F0 := (BX.made w 45 (fFound x)).al (.cells #[.int .i64 0, .int .i64 0, .int .i64 0, .int .i64 0] 54)
  have F1 := BX.made1 w (.cells (fFound x).toArray 45) 54 [.int .i64 0, .int .i64 0, .int .i64 0, .int .i64 0]
  have hB : BB w ((w.alloc (.cells (fFound x).toArray 45)).alloc (.cells #[.int .i64 0, .int .i64 0, .int .i64 0, .int .i64 0] 54)) := BB.al (BB.al (BB.start w) _) _
  have c0 : (_ : Option Value) = some (.int .i64 x.f0) := F0.cell 0 (by simp [fFound])
  have c1 : (_ : Option Value) = some (.int .i64 x.f1) := F0.cell 1 (by simp [fFound])
  have c2 : (_ : Option Value) = some (.int .i64 x.f2) := F0.cell 2 (by simp [fFound])
  have c3 : (_ : Option Value) = some (.int .i64 x.f3) := F0.cell 3 (by simp [fFound])
  have z0 : (_ : Option Value) = some (.int .i64 0) := F1.cell 0 (by simp)
  have z1 : (_ : Option Value) = some (.int .i64 0) := F1.cell 1 (by simp)
  have z2 : (_ : Option Value) = some (.int .i64 0) := F1.cell 2 (by simp)
  have z3 : (_ : Option Value) = some (.int .i64 0) := F1.cell 3 (by simp)
  have hfz := fun j => F1.free j
  unfold fFound at F0 F1 hB c0 c1 c2 c3 z0 z1 z2 z3 hfz
  unfold vFound
  go_enter Tryz.func29, Tryz.ntmps29
  go_wp2
  refine bodyPost_ret (v := .agg #[.int .i64 x.f0, .int .i64 x.f1, .int .i64 x.f2, .int .i64 x.f3]) (by simp [results, Tryz.results29, go_sem, World.cell?_setCell_other, z0, z1, z2, z3]) rfl ⟨rfl, ?_⟩
  exact (by with_reducible repeat (first | exact Below.refl _ _ | assumption | refine below_step ?_ (by assumption) | refine Below.drew ?_ | refine below_drewN ?_ _ | refine below_alloc ?_ _ | refine Below.setCell ?_ (by simp; try omega) _))

set_option maxRecDepth 100000 in
set_option maxHeartbeats 4000000 in
theorem same2_any (f g : DFound) (bf : Nat) (w : World) (F : BX w bf 45 (fFound f)) :
    Calls Tryz.prog 28 #[vFound g, .pointer (some ⟨bf, 0, none⟩)] w fun e w' => e = .returned (.bool (sameF f g)) ∧ Below w.heap.size w w' := by
  obtain ⟨f0, f1, f2, f3, f4, f5, f6, f7⟩ := f
  obtain ⟨g0, g1, g2, g3, g4, g5, g6, g7⟩ := g
  have G0 := BX.made w 45 (fFound ⟨g0, g1, g2, g3, g4, g5, g6, g7⟩)
  have F0 := F.al (.cells (fFound ⟨g0, g1, g2, g3, g4, g5, g6, g7⟩).toArray 45)
  have hB : BB w (w.alloc (.cells (fFound ⟨g0, g1, g2, g3, g4, g5, g6, g7⟩).toArray 45)) := BB.al (BB.start w) _
  unfold vFound sameF
  unfold fFound at G0 F0 hB
  dsimp only at G0 F0 hB ⊢
  obtain ⟨B, hB0⟩ : ∃ B, (decide (g5 ≠ 2) && (decide (g0 = f0) && (decide (g1 = f1) && (decide (g2 = f2) && decide (g3 = f3))))) = B := ⟨_, rfl⟩
  rw [hB0]
  have HB := Lib.hid hB0
  clear hB0
  go_enter Tryz.func28, Tryz.ntmps28
  go_upto_region 1 with fail
  generalize (w.alloc (.cells #[.int .i64 g0, .int .i64 g1, .int .i64 g2, .int .i64 g3, .string g4, .int .i64 g5, .bool g6, .int .i64 g7] 45)) = w1 at G0 F0 hB ⊢
  have kg0 := gw_cell (show (_ : Option Value) = some (.int .i64 g0) from G0.cell 0 (by simp))
  have kg1 := gw_cell (show (_ : Option Value) = some (.int .i64 g1) from G0.cell 1 (by simp))
  have kg2 := gw_cell (show (_ : Option Value) = some (.int .i64 g2) from G0.cell 2 (by simp))
  have kg3 := gw_cell (show (_ : Option Value) = some (.int .i64 g3) from G0.cell 3 (by simp))
  have kg4 := gw_cell (show (_ : Option Value) = some (.string g4) from G0.cell 4 (by simp))
  have kg5 := gw_cell (show (_ : Option Value) = some (.int .i64 g5) from G0.cell 5 (by simp))
  have kg6 := gw_cell (show (_ : Option Value) = some (.bool g6) from G0.cell 6 (by simp))
  have kg7 := gw_cell (show (_ : Option Value) = some (.int .i64 g7) from G0.cell 7 (by simp))
  have kf0 := gw_cell (show (_ : Option Value) = some (.int .i64 f0) from F0.cell 0 (by simp))
  have kf1 := gw_cell (show (_ : Option Value) = some (.int .i64 f1) from F0.cell 1 (by simp))
  have kf2 := gw_cell (show (_ : Option Value) = some (.int .i64 f2) from F0.cell 2 (by simp))
  have kf3 := gw_cell (show (_ : Option Value) = some (.int .i64 f3) from F0.cell 3 (by simp))
  have kf4 := gw_cell (show (_ : Option Value) = some (.string f4) from F0.cell 4 (by simp))
  have kf5 := gw_cell (show (_ : Option Value) = some (.int .i64 f5) from F0.cell 5 (by simp))
  have kf6 := gw_cell (show (_ : Option Value) = some (.bool f6) from F0.cell 6 (by simp))
  have kf7 := gw_cell (show (_ : Option Value) = some (.int .i64 f7) from F0.cell 7 (by simp))
  have pg := fun (p' : Regrown) => qb_below p' (addressOf_any ⟨g0, g1, g2, g3, g4, g5, g6, g7⟩ (Sort.grow (redrawn w1 p'.d) p'.os))
  have pf := fun (p' : Regrown) => qb_below p' (addressOf_any ⟨f0, f1, f2, f3, f4, f5, f6, f7⟩ (Sort.grow (redrawn w1 p'.d) p'.os))
  unfold vFound at pg pf
  dsimp only at pg pf
  by_cases h5 : g5 = 2
  · subst h5
    obtain rfl : B = false := by rw [← HB.out]; simp
    refine wp_region_quiet_below (by kernel_rfl) (by kernel_rfl) ?_
    repeat (go_big_quiet_step (first | with_reducible exact pg _ | with_reducible exact pf _))
    refine wpQuiet_nil ?_
    intro _ hw'
    obtain ⟨pq, hw''⟩ := hw'
    subst hw''
    have hB2 : BB w (Sort.grow (redrawn w1 pq.d) pq.os) := BB.next hB (gw_below w1 pq)
    generalize Sort.grow (redrawn w1 pq.d) pq.os = w5 at hB2 ⊢
    go_wp2
    go_ret
    exact ⟨rfl, hB2⟩
  have hd : (g5 == 2) = false := by simp [h5]
  have hd2 : (g5 != 2) = true := by simp [bne, h5]
  by_cases e0 : g0 = f0
  rotate_left
  · have d0 : (g0 == f0) = false := by simp [e0]
    obtain rfl : B = false := by rw [← HB.out]; simp [e0]
    refine wp_region_quiet_below (by kernel_rfl) (by kernel_rfl) ?_
    repeat (go_big_quiet_step (first | with_reducible exact pg _ | with_reducible exact pf _))
    refine wpQuiet_nil ?_
    intro _ hw'
    obtain ⟨pq, hw''⟩ := hw'
    subst hw''
    have hB2 : BB w (Sort.grow (redrawn w1 pq.d) pq.os) := BB.next hB (gw_below w1 pq)
    generalize Sort.grow (redrawn w1 pq.d) pq.os = w5 at hB2 ⊢
    go_wp2
    go_ret
    exact ⟨rfl, hB2⟩
  subst e0
  by_cases e1 : g1 = f1
  rotate_left
  · have d1 : (g1 == f1) = false := by simp [e1]
    obtain rfl : B = false := by rw [← HB.out]; simp [e1]
    refine wp_region_quiet_below (by kernel_rfl) (by kernel_rfl) ?_
    repeat (go_big_quiet_step (first | with_reducible exact pg _ | with_reducible exact pf _))
    refine wpQuiet_nil ?_
    intro _ hw'
    obtain ⟨pq, hw''⟩ := hw'
    subst hw''
    have hB2 : BB w (Sort.grow (redrawn w1 pq.d) pq.os) := BB.next hB (gw_below w1 pq)
    generalize Sort.grow (redrawn w1 pq.d) pq.os = w5 at hB2 ⊢
    go_wp2
    go_ret
    exact ⟨rfl, hB2⟩
  subst e1
  by_cases e2 : g2 = f2
  rotate_left
  · have d2 : (g2 == f2) = false := by simp [e2]
    obtain rfl : B = false := by rw [← HB.out]; simp [e2]
    refine wp_region_quiet_below (by kernel_rfl) (by kernel_rfl) ?_
    repeat (go_big_quiet_step (first | with_reducible exact pg _ | with_reducible exact pf _))
    refine wpQuiet_nil ?_
    intro _ hw'
    obtain ⟨pq, hw''⟩ := hw'
    subst hw''
    have hB2 : BB w (Sort.grow (redrawn w1 pq.d) pq.os) := BB.next hB (gw_below w1 pq)
    generalize Sort.grow (redrawn w1 pq.d) pq.os = w5 at hB2 ⊢
    go_wp2
    go_ret
    exact ⟨rfl, hB2⟩
  subst e2
  by_cases e3 : g3 = f3
  rotate_left
  · have d3 : (g3 == f3) = false := by simp [e3]
    obtain rfl : B = false := by rw [← HB.out]; simp [e3]
    refine wp_region_quiet_below (by kernel_rfl) (by kernel_rfl) ?_
    repeat (go_big_quiet_step (first | with_reducible exact pg _ | with_reducible exact pf _))
    refine wpQuiet_nil ?_
    intro _ hw'
    obtain ⟨pq, hw''⟩ := hw'
    subst hw''
    have hB2 : BB w (Sort.grow (redrawn w1 pq.d) pq.os) := BB.next hB (gw_below w1 pq)
    generalize Sort.grow (redrawn w1 pq.d) pq.os = w5 at hB2 ⊢
    go_wp2
    go_ret
    exact ⟨rfl, hB2⟩
  subst e3
  obtain rfl : B = true := by rw [← HB.out]; simp [h5]
  refine wp_region_quiet_below (by kernel_rfl) (by kernel_rfl) ?_
  repeat (go_big_quiet_step (first | with_reducible exact pg _ | with_reducible exact pf _))
  refine wpQuiet_nil ?_
  intro _ hw'
  obtain ⟨pq, hw''⟩ := hw'
  subst hw''
  have hB2 : BB w (Sort.grow (redrawn w1 pq.d) pq.os) := BB.next hB (gw_below w1 pq)
  generalize Sort.grow (redrawn w1 pq.d) pq.os = w5 at hB2 ⊢
  go_wp2
  go_ret
  exact ⟨rfl, hB2⟩
theorem Rd.take_ {α : Type} {f : α → List Value} {w : World} {B size : Nat} {A : Option Addr} {l : List α} (hf : ∀ x, (f x).length = size) (h : Rd w B size A l.length (flat f l)) {i : Nat} (hi : i ≤ l.length) : Rd w B size A (l.take i).length (flat f (l.take i)) := by
  have e : flat f (l.take i) ++ flat f (l.drop i) = flat f l := by rw [← flat_append, List.take_append_drop]
  refine ⟨flat_length f size hf _, fun h0 => ?_⟩
  obtain ⟨b, off, hA, hb, hc⟩ := h.2 (by rw [List.length_take] at h0; omega)
  refine ⟨b, off, hA, hb, fun j hj => ?_⟩
  have hj2 : j < (flat f l).length := by rw [← e, List.length_append]; omega
  rw [hc j hj2]
  have : (flat f l)[j] = (flat f (l.take i) ++ flat f (l.drop i))[j]'(by rw [e]; exact hj2) := by congr 1; exact e.symm
  rw [this, List.getElem_append_left hj]
set_option maxRecDepth 100000 in
set_option maxHeartbeats 4000000 in
theorem indexFd_any (A : Option Addr) (cp : Nat) (zs : List DFound) (f : DFound) (bf : Nat) (w : World) (hr : Rd w w.heap.size 8 A zs.length (flat fFound zs)) (F : BX w bf 45 (fFound f)) (hn : zs.length ≤ 1048576) :
    Calls Tryz.prog 27 #[.slice A zs.length cp, .func (.func 28) #[] #[.pointer (some ⟨bf, 0, none⟩)]] w fun e w' => e = .returned (.int .i64 (idxF (zs.findIdx? (sameF f)))) ∧ Below w.heap.size w w' := by
  have eg := fun args (W : World) => (show (callFunc 28 args).run Tryz.prog W = .ok (.enter 28 args) W from by kernel_rfl)
  obtain ⟨R, hR⟩ : ∃ R, zs.findIdx? (sameF f) = R := ⟨_, rfl⟩
  rw [hR]
  have HR := Lib.hid hR
  clear hR
  have hFl := F.lt
  go_enter Tryz.func27, Tryz.ntmps27
  go_wp2
  go_loopw [5, 8] (fun _ i wr => ∃ k : Nat, k ≤ zs.length ∧ i = .int .i64 k ∧ Below w.heap.size w wr ∧ Hid (∀ j (hj : j < zs.length), j < k → sameF f zs[j] = false)) (fun _ i _ => zs.length - (intOf i).toNat)
  case atStart => exact ⟨0, Nat.zero_le _, rfl, Below.refl _ _, Lib.hid (fun j hj h => absurd h (Nat.not_lt_zero _))⟩
  case round =>
    obtain ⟨k, hk, rfl, hb, HI⟩ := hrel
    by_cases hlt : k < zs.length
    · have hlti : (k : Int) < (zs.length : Int) := by omega
      obtain ⟨b, off, rfl, hbb, hc⟩ := (hr.below hb).at_ fFound_len rfl k hlt
      have hc0 := hc 0 _ (by omega) rfl
      have hc1 := hc 1 _ (by omega) rfl
      have hc2 := hc 2 _ (by omega) rfl
      have hc3 := hc 3 _ (by omega) rfl
      have hc4 := hc 4 _ (by omega) rfl
      have hc5 := hc 5 _ (by omega) rfl
      have hc6 := hc 6 _ (by omega) rfl
      have hc7 := hc 7 _ (by omega) rfl
      clear hc
      have hcall := same2_any f zs[k] bf wr (F.below hb hFl)
      obtain ⟨g, hg⟩ : ∃ g, zs[k] = g := ⟨_, rfl⟩
      obtain ⟨B, hB⟩ : ∃ B, sameF f g = B := ⟨_, rfl⟩
      rw [hg] at hcall hc0 hc1 hc2 hc3 hc4 hc5 hc6 hc7
      rw [hB] at hcall
      obtain ⟨g0, g1, g2, g3, g4, g5, g6, g7⟩ := g
      unfold vFound at hcall
      dsimp only at hcall hc0 hc1 hc2 hc3 hc4 hc5 hc6 hc7
      simp only [← Nat.add_assoc, Nat.add_zero] at hc0 hc1 hc2 hc3 hc4 hc5 hc6 hc7
      cases B
      · have HN := Lib.hid (show ∀ j (hj : j < zs.length), j < k + 1 → sameF f zs[j] = false from fun j hj hjk => by
          by_cases e : j = k
          · subst e; rw [hg]; exact hB
          · exact HI.out j hj (by omega))
        clear hg hB
        go_wp2_with (go_at_call 28; refine hcall.mono ?_; rintro e w1 ⟨rfl, hx1⟩; replace hb := below_step hb hx1)
        go_roundw
        case rel => exact ⟨k + 1, by omega, by go_num, hb, HN⟩
        case measure => (simp [intOf] <;> omega)
      · have HN := Lib.hid (show R = some k from HR.out.symm.trans (find_some hlt (by rw [hg]; exact hB) HI.out))
        clear hg hB
        go_wp2_with (go_at_call 28; refine hcall.mono ?_; rintro e w1 ⟨rfl, hx1⟩; replace hb := below_step hb hx1)
        go_ret
        exact ⟨by rw [HN.out]; rfl, hb⟩
    · have hlti : ¬ (k : Int) < (zs.length : Int) := by omega
      have HN := Lib.hid (show R = none from HR.out.symm.trans (find_none (n := k) (by omega) HI.out))
      go_wp2
      go_ret
      exact ⟨by rw [HN.out]; rfl, hb⟩
end Go.Proofs.YtlfmpgfobkmgfaaGreatDoor
