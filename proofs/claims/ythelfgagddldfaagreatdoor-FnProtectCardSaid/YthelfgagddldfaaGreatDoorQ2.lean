/- Walks: the features of found sectors. -/
import Derived.Test.YthelfgagddldfaaGreatDoorQ1
namespace Go.Proofs.YthelfgagddldfaaGreatDoor
open Go.RowKit Go.Lib
set_option linter.unusedVariables false
set_option linter.unusedSimpArgs false

def fT (t : Int × Int × Int) : List Value := [.int .i64 t.1, .int .i64 t.2.1, .int .i64 t.2.2]
theorem fT_len (t : Int × Int × Int) : (fT t).length = 3 := rfl
theorem oneT (t : Int × Int × Int) : ∀ u ∈ fT t, u.oneCell' = true := by
  intro u hu
  simp only [fT, List.mem_cons, List.not_mem_nil, or_false] at hu
  rcases hu with rfl | rfl | rfl <;> rfl
theorem eltFeat : Elt Tryz.prog 37 29 3 24 (.agg #[.int .i64 0, .int .i64 0, .int .i64 0]) := Elt.mk' Tryz.underlying37 (by kernel_rfl) rfl (by decide)

/-- The row of features behind its box (the first block made), and what lay before is kept. -/
structure SX (w0 W : World) (v : Value) (l : List (Int × Int × Int)) : Prop where
  F : BX W w0.heap.size 37 [v]
  O : W.ownsRow (w0.heap.size + 1) 29 3 v l.length (flat fT l)
  Bw : BB w0 W
/-- The same with the boxes of a round: the index and the sector. -/
structure RX (w0 W : World) (v : Value) (l : List (Int × Int × Int)) (bi bf : Nat) (i : Int) (y : DFound) : Prop where
  X : SX w0 W v l
  I : BX W bi 3 [.int .i64 i]
  Y : BX W bf 62 (fFound y)
  hi : v.ownBlock ≠ some bi
  hf : v.ownBlock ≠ some bf
  bi0 : w0.heap.size < bi
  bf0 : w0.heap.size < bf
section
variable {w0 W W' : World} {v : Value} {l : List (Int × Int × Int)} {bi bf : Nat} {i : Int} {y : DFound}
theorem SX.al (H : SX w0 W v l) (o : Obj) : SX w0 (W.alloc o) v l := ⟨H.F.al o, World.ownsRow.alloc H.O o, BB.al H.Bw o⟩
theorem SX.next (H : SX w0 W v l) (hx : Below W.heap.size W W') : SX w0 W' v l := ⟨H.F.below hx H.F.lt, own_later H.O hx (Nat.le_refl _), BB.next H.Bw hx⟩
theorem RX.next (H : RX w0 W v l bi bf i y) (hx : Below W.heap.size W W') : RX w0 W' v l bi bf i y := ⟨H.X.next hx, H.I.below hx H.I.lt, H.Y.below hx H.Y.lt, H.hi, H.hf, H.bi0, H.bf0⟩
end
theorem SX.start (w0 : World) : SX w0 (w0.alloc (.cells #[.slice none 0 0] 37)) (.slice none 0 0) [] := ⟨BX.made w0 _ _, World.ownsRow_nil _ _ _ _, BB.al (BB.start w0) _⟩

set_option maxRecDepth 100000 in
set_option maxHeartbeats 4000000 in
theorem add_any (k x : Int) {w0 W : World} {v : Value} {l : List (Int × Int × Int)} {bi bf : Nat} {i : Int} {y : DFound} (H : RX w0 W v l bi bf i y) (hl : l.length ≤ 1000000) :
    Calls Tryz.prog 42 #[.int .i64 k, .int .i64 x, .pointer (some ⟨w0.heap.size, 0, none⟩), .pointer (some ⟨bi, 0, none⟩)] W fun e W' => e = .returned (.tuple #[]) ∧ ∃ v', RX w0 W' v' (l ++ [(k, i, x)]) bi bf i y := by
  obtain ⟨A, c, rfl⟩ := own_form H.X.O
  have f0 : (_ : Option Value) = some (.slice A l.length c) := H.X.F.cell 0 (by simp)
  have i0 : (_ : Option Value) = some (.int .i64 i) := H.I.cell 0 (by simp)
  have ffz := fun j => H.X.F.free j
  have hO := H.X.O
  have hbase : w0.heap.size + 1 ≤ W.heap.size := H.X.F.lt
  have hby : 24 ≤ 1000 := by decide
  have hlb : l.length ≤ 100000000 := by omega
  go_enter Tryz.func42, Tryz.ntmps42
  have hne : (Value.slice A l.length c).ownBlock ≠ some w0.heap.size := OO.ne_old hO (Nat.lt_succ_self _)
  have hL1 : (l ++ [(k, i, x)]).length = l.length + 1 := by rw [List.length_append]; rfl
  go_wp2_with (at_builtin; go_must (refine wpList_appF (f := fT) rfl (.tmp 6) (.tmp 11) 37 rfl eltFeat hby (.slice A l.length c) l rfl hO #[.int .i64 k, .int .i64 i, .int .i64 x] 29 (k, i, x) 1 rfl rfl rfl (oneT _) hlb hbase ?_); intro v' w' hown' hg' hat' hbl'; rw [hL1] at hown'; obtain ⟨A', c', rfl⟩ := own_form hown'; have F' := (H.X.F.al (.cells #[.int .i64 k, .int .i64 i, .int .i64 x] 29)).grown hg' hne; have I' := (H.I.al (.cells #[.int .i64 k, .int .i64 i, .int .i64 x] 29)).grown hg' H.hi; have Y' := (H.Y.al (.cells #[.int .i64 k, .int .i64 i, .int .i64 x] 29)).grown hg' H.hf; have p0 : (_ : Option Value) = some (.slice A l.length c) := F'.cell 0 (by simp); have pfz := fun j => F'.free j)
  have hne' : (Value.slice A' (l.length + 1) c').ownBlock ≠ some w0.heap.size := OO.ne_old hown' (Nat.lt_succ_self _)
  have hIl := H.I.lt
  have hYl := H.Y.lt
  refine bodyPost_end (v := .tuple #[]) (by simp [results, Tryz.results42, go_sem]) rfl ⟨rfl, .slice A' (l.length + 1) c', ⟨⟨F'.put 0 _, ?_, ?_⟩, I'.far (a := ⟨w0.heap.size, 0, none⟩) (fun e => by have h1 := H.bi0; have h2 : bi = w0.heap.size := e; omega) _, Y'.far (a := ⟨w0.heap.size, 0, none⟩) (fun e => by have h1 := H.bf0; have h2 : bf = w0.heap.size := e; omega) _, ?_, ?_, H.bi0, H.bf0⟩⟩
  · rw [hL1]
    exact OO.put hown' (a := ⟨w0.heap.size, 0, none⟩) (Nat.lt_succ_self _) _
  · exact BB.put (Below.trans H.X.Bw (hbl'.mono (Nat.le_succ _))) (a := ⟨w0.heap.size, 0, none⟩) (Nat.le_refl _) _
  · rcases hat' with h | h
    · rw [h]; exact H.hi
    · rw [h]; intro e; have := Option.some.inj e; omega
  · rcases hat' with h | h
    · rw [h]; exact H.hf
    · rw [h]; intro e; have := Option.some.inj e; omega

theorem ftAt_y {xs : List DSectorSpec} {cy hd : Int} {k : Nat} {y : DSectorSpec} (h : xs.getD k noSS = y) : ftAt xs cy hd k = if y.f6 = true then [(3, (k : Int), 0)] else
    dupL k (dupI (xs.take k) y) ++ ((if y.f0 = cy ∧ y.f1 = hd then [] else [(2, (k : Int), 0)]) ++ ((if y.f7 = true then [(4, (k : Int), 0)] else []) ++ (if y.f5 = true then [(6, (k : Int), 0)] else []))) := by
  unfold ftAt
  rw [h]
set_option maxRecDepth 100000 in
set_option maxHeartbeats 8000000 in
theorem sectorFeatures_any (cy hd : Int) (A : Option Addr) (cp : Nat) (xs : List DSectorSpec) (w : World) (hr : Rd w w.heap.size 8 A (xs.map foB).length (flat fFound (xs.map foB))) (hn : xs.length ≤ 1000) (hcp : xs.length ≤ cp) :
    Calls Tryz.prog 25 #[.slice A (xs.map foB).length cp, .int .i64 cy, .int .i64 hd] w fun e w' => ∃ v, e = .returned v ∧ w'.ownsRow w.heap.size 29 3 v (ftsL xs cy hd xs.length).length (flat fT (ftsL xs cy hd xs.length)) ∧ Below w.heap.size w w' := by
  have eg := fun args (W : World) => (show (callFunc 42 args).run Tryz.prog W = .ok (.enter 42 args) W from by kernel_rfl)
  have S0 := SX.start w
  have hlm : (xs.map foB).length = xs.length := List.length_map ..
  obtain ⟨n, hnn⟩ : ∃ n, (xs.map foB).length = n := ⟨_, rfl⟩
  have hxn : xs.length = n := by omega
  rw [hnn] at hr ⊢
  rw [hxn] at hn hcp ⊢
  have HN := Lib.hid hnn
  have HX := Lib.hid hxn
  clear hnn hxn hlm
  go_enter Tryz.func25, Tryz.ntmps25
  go_wp2
  generalize (w.alloc (.cells #[.slice none 0 0] 37)) = w1 at S0 ⊢
  go_loopw [14] (fun i wr => ∃ (k : Nat) (v : Value) (l : List (Int × Int × Int)), i = .int .i64 (k : Int) ∧ k ≤ n ∧ SX w wr v l ∧ Hid (l = ftsL xs cy hd k)) (fun i _ => n - (intOf i).toNat)
  case atStart => exact ⟨0, _, [], rfl, Nat.zero_le _, S0, Lib.hid rfl⟩
  case round =>
    obtain ⟨k, v, l, rfl, hk, S, HL⟩ := hrel
    by_cases hlt : k < n
    · have hlti : (k : Int) < (n : Int) := by omega
      have hkx : k < xs.length := by rw [HX.out]; exact hlt
      obtain ⟨b, off, rfl, hbb, hc⟩ := (hr.below S.Bw).at_ fFound_len HN.out.symm k hlt
      have hc0 := hc 0 _ (by omega) rfl
      have hc1 := hc 1 _ (by omega) rfl
      have hc2 := hc 2 _ (by omega) rfl
      have hc3 := hc 3 _ (by omega) rfl
      have hc4 := hc 4 _ (by omega) rfl
      have hc5 := hc 5 _ (by omega) rfl
      have hc6 := hc 6 _ (by omega) rfl
      have hc7 := hc 7 _ (by omega) rfl
      clear hc
      rw [List.getElem_map] at hc0 hc1 hc2 hc3 hc4 hc5 hc6 hc7
      obtain ⟨y, hy⟩ : ∃ y, xs[k] = y := ⟨_, rfl⟩
      rw [hy] at hc0 hc1 hc2 hc3 hc4 hc5 hc6 hc7
      unfold foB at hc0 hc1 hc2 hc3 hc4 hc5 hc6 hc7
      dsimp only [fFound] at hc0 hc1 hc2 hc3 hc4 hc5 hc6 hc7
      simp only [← Nat.add_assoc, Nat.add_zero] at hc0 hc1 hc2 hc3 hc4 hc5 hc6 hc7
      have R0 : RX w ((wr.alloc (.cells #[.int .i64 (k : Int)] 3)).alloc (.cells #[.int .i64 y.f0, .int .i64 y.f1, .int .i64 y.f2, .int .i64 y.f3, .string ByteArray.empty, .int .i64 (fsB y), .bool y.f5, .int .i64 0] 62)) v l wr.heap.size (wr.heap.size + 1) (k : Int) (foB y) := by
        have hw0 := S.F.lt
        have ho : ∀ g, wr.heap.size ≤ g → v.ownBlock ≠ some g := fun g hg e => by have := (World.ownsRow.lt S.O g e).2; omega
        exact ⟨(S.al _).al _, (BX.made wr _ _).al _, BX.made1 wr _ _ _, ho _ (Nat.le_refl _), ho _ (Nat.le_succ _), by omega, by omega⟩
      go_upto_region 5 with fail
      generalize ((wr.alloc (.cells #[.int .i64 (k : Int)] 3)).alloc (.cells #[.int .i64 y.f0, .int .i64 y.f1, .int .i64 y.f2, .int .i64 y.f3, .string ByteArray.empty, .int .i64 (fsB y), .bool y.f5, .int .i64 0] 62)) = w2 at R0 ⊢
      have hr2 := hr.below R0.X.Bw
      clear hc0 hc1 hc2 hc3 hc4 hc5 hc6 hc7 S
      obtain ⟨bi, hbi⟩ : ∃ x, wr.heap.size = x := ⟨_, rfl⟩
      obtain ⟨bf, hbf⟩ : ∃ x, wr.heap.size + 1 = x := ⟨_, rfl⟩
      rw [hbf, hbi] at R0
      rw [hbf, hbi]
      clear hbi hbf
      have hll : l.length ≤ 4000 := by rw [HL.out]; have := ftsL_len xs cy hd k; omega
      have HA := Lib.hid (show ftAt xs cy hd k = _ from ftAt_y (getD_of (by rw [List.getElem?_eq_getElem hkx, hy] : xs[k]? = some y)))
      have hix := fun c => indexFd_any (some ⟨b, off, none⟩) c ((xs.map foB).take k) (foB y) bf w2 ((Rd.take_ fFound_len (HN.out ▸ hr2 : Rd w2 w.heap.size 8 _ (xs.map foB).length _) (i := k) (by rw [HN.out]; exact hk)).more R0.X.Bw.size) R0.Y (by rw [List.length_take, HN.out]; omega)
      rw [List.length_take, HN.out, Nat.min_eq_left hk, fo_find] at hix
      obtain ⟨D, hD⟩ : ∃ D, dupI (xs.take k) y = D := ⟨_, rfl⟩
      rw [hD] at hix HA
      clear hD hy hr2 hr
      have y0 : (_ : Option Value) = some (.int .i64 y.f0) := R0.Y.cell 0 (by simp [fFound])
      have y1 : (_ : Option Value) = some (.int .i64 y.f1) := R0.Y.cell 1 (by simp [fFound])
      have y5 : (_ : Option Value) = some (.int .i64 (fsB y)) := R0.Y.cell 5 (by simp [fFound])
      have y6 : (_ : Option Value) = some (.bool y.f5) := R0.Y.cell 6 (by simp [fFound])
      have i0 : (_ : Option Value) = some (.int .i64 (k : Int)) := R0.I.cell 0 (by simp)
      have hkc : k ≤ cp := by omega
      have hkc2 : ¬ (cp : Int) < (k : Int) := by omega
      cases h6 : y.f6
      rotate_left
      · have e5 : fsB y = 2 := by unfold fsB; rw [if_pos h6]
        clear hix
        have HA2 := Lib.hid (show ftAt xs cy hd k = [(3, (k : Int), 0)] by rw [HA.out, if_pos h6])
        go_wp2_with (go_at_call 42; (refine (add_any _ _ R0 (by first | omega | (simp only [List.length_append, List.length_singleton]; omega))).mono ?_); rintro e w3 ⟨rfl, v3, R3⟩; have R0 := R3; clear R3; have y0 : (_ : Option Value) = some (.int .i64 y.f0) := R0.Y.cell 0 (by simp [fFound]); have y1 : (_ : Option Value) = some (.int .i64 y.f1) := R0.Y.cell 1 (by simp [fFound]); have y5 : (_ : Option Value) = some (.int .i64 (fsB y)) := R0.Y.cell 5 (by simp [fFound]); have y6 : (_ : Option Value) = some (.bool y.f5) := R0.Y.cell 6 (by simp [fFound]))
        go_roundw
        case rel => exact ⟨k + 1, _, _, by go_num, by omega, R0.X, Lib.hid (by rw [ftsL_s, ← HL.out, HA2.out])⟩
        case measure => (simp [intOf] <;> omega)
      · have h6n : ¬ y.f6 = true := by rw [h6]; decide
        have HA1 := Lib.hid (show ftAt xs cy hd k = dupL k D ++ ((if y.f0 = cy ∧ y.f1 = hd then [] else [(2, (k : Int), 0)]) ++ ((if y.f7 = true then [(4, (k : Int), 0)] else []) ++ (if y.f5 = true then [(6, (k : Int), 0)] else []))) by rw [HA.out, if_neg h6n])
        clear HA
        have e5 : fsB y = 1 ∨ fsB y = 3 := by unfold fsB; rw [if_neg h6n]; split <;> simp
        have e7 : y.f7 = decide (fsB y = 3) := by unfold fsB; rw [if_neg h6n]; cases y.f7 <;> rfl
        have HE7 := Lib.hid e7
        clear e7 h6 h6n
        have hdup : (D = none ∧ idxF D = -1) ∨ ∃ j : Nat, D = some j ∧ idxF D = (j : Int) := by
          cases D with
          | none => exact .inl ⟨rfl, rfl⟩
          | some j => exact .inr ⟨j, rfl, rfl⟩
        rcases hdup with ⟨hD, hI⟩ | ⟨j, hD, hI⟩
        all_goals rw [hI] at hix
        all_goals have HD := Lib.hid hD
        all_goals clear hD hI
        rotate_left
        · have hj0 : decide ((0 : Int) ≤ (j : Int)) = true := decide_eq_true (Int.natCast_nonneg j)
          by_cases a0 : y.f0 = cy
          · have n0 : (y.f0 != cy) = false := by simp [a0]
            by_cases a1 : y.f1 = hd
            · have n1 : (y.f1 != hd) = false := by simp [a1]
              have HF := Lib.hid (if_pos (⟨a0, a1⟩ : y.f0 = cy ∧ y.f1 = hd) : (if y.f0 = cy ∧ y.f1 = hd then ([] : List (Int × Int × Int)) else [(2, (k : Int), 0)]) = [])
              clear a0 a1
              rcases e5 with e5 | e5 <;> cases h5 : y.f5
              all_goals
                go_wp2_with (first | (go_at_call 43; (refine (hix _).mono ?_); rintro e w3 ⟨rfl, hx3⟩; have R0 := RX.next R0 hx3; clear hx3; have y0 : (_ : Option Value) = some (.int .i64 y.f0) := R0.Y.cell 0 (by simp [fFound]); have y1 : (_ : Option Value) = some (.int .i64 y.f1) := R0.Y.cell 1 (by simp [fFound]); have y5 : (_ : Option Value) = some (.int .i64 (fsB y)) := R0.Y.cell 5 (by simp [fFound]); have y6 : (_ : Option Value) = some (.bool y.f5) := R0.Y.cell 6 (by simp [fFound])) | (go_at_call 42; (refine (add_any _ _ R0 (by first | omega | (simp only [List.length_append, List.length_singleton]; omega))).mono ?_); rintro e w3 ⟨rfl, v3, R3⟩; have R0 := R3; clear R3; have y0 : (_ : Option Value) = some (.int .i64 y.f0) := R0.Y.cell 0 (by simp [fFound]); have y1 : (_ : Option Value) = some (.int .i64 y.f1) := R0.Y.cell 1 (by simp [fFound]); have y5 : (_ : Option Value) = some (.int .i64 (fsB y)) := R0.Y.cell 5 (by simp [fFound]); have y6 : (_ : Option Value) = some (.bool y.f5) := R0.Y.cell 6 (by simp [fFound])))
                go_roundw
                case rel => exact ⟨k + 1, _, _, by go_num, by omega, R0.X, Lib.hid (by rw [ftsL_s, ← HL.out, HA1.out, HD.out, HF.out, HE7.out, e5, h5]; simp [dupL])⟩
                case measure => (simp [intOf] <;> omega)
            · have n1 : (y.f1 != hd) = true := by simp [a1]
              have HF := Lib.hid (if_neg (fun h => a1 h.2) : (if y.f0 = cy ∧ y.f1 = hd then ([] : List (Int × Int × Int)) else [(2, (k : Int), 0)]) = [(2, (k : Int), 0)])
              clear a0 a1
              rcases e5 with e5 | e5 <;> cases h5 : y.f5
              all_goals
                go_wp2_with (first | (go_at_call 43; (refine (hix _).mono ?_); rintro e w3 ⟨rfl, hx3⟩; have R0 := RX.next R0 hx3; clear hx3; have y0 : (_ : Option Value) = some (.int .i64 y.f0) := R0.Y.cell 0 (by simp [fFound]); have y1 : (_ : Option Value) = some (.int .i64 y.f1) := R0.Y.cell 1 (by simp [fFound]); have y5 : (_ : Option Value) = some (.int .i64 (fsB y)) := R0.Y.cell 5 (by simp [fFound]); have y6 : (_ : Option Value) = some (.bool y.f5) := R0.Y.cell 6 (by simp [fFound])) | (go_at_call 42; (refine (add_any _ _ R0 (by first | omega | (simp only [List.length_append, List.length_singleton]; omega))).mono ?_); rintro e w3 ⟨rfl, v3, R3⟩; have R0 := R3; clear R3; have y0 : (_ : Option Value) = some (.int .i64 y.f0) := R0.Y.cell 0 (by simp [fFound]); have y1 : (_ : Option Value) = some (.int .i64 y.f1) := R0.Y.cell 1 (by simp [fFound]); have y5 : (_ : Option Value) = some (.int .i64 (fsB y)) := R0.Y.cell 5 (by simp [fFound]); have y6 : (_ : Option Value) = some (.bool y.f5) := R0.Y.cell 6 (by simp [fFound])))
                go_roundw
                case rel => exact ⟨k + 1, _, _, by go_num, by omega, R0.X, Lib.hid (by rw [ftsL_s, ← HL.out, HA1.out, HD.out, HF.out, HE7.out, e5, h5]; simp [dupL])⟩
                case measure => (simp [intOf] <;> omega)
          · have n0 : (y.f0 != cy) = true := by simp [a0]
            have HF := Lib.hid (if_neg (fun h => a0 h.1) : (if y.f0 = cy ∧ y.f1 = hd then ([] : List (Int × Int × Int)) else [(2, (k : Int), 0)]) = [(2, (k : Int), 0)])
            clear a0
            rcases e5 with e5 | e5 <;> cases h5 : y.f5
            all_goals
              go_wp2_with (first | (go_at_call 43; (refine (hix _).mono ?_); rintro e w3 ⟨rfl, hx3⟩; have R0 := RX.next R0 hx3; clear hx3; have y0 : (_ : Option Value) = some (.int .i64 y.f0) := R0.Y.cell 0 (by simp [fFound]); have y1 : (_ : Option Value) = some (.int .i64 y.f1) := R0.Y.cell 1 (by simp [fFound]); have y5 : (_ : Option Value) = some (.int .i64 (fsB y)) := R0.Y.cell 5 (by simp [fFound]); have y6 : (_ : Option Value) = some (.bool y.f5) := R0.Y.cell 6 (by simp [fFound])) | (go_at_call 42; (refine (add_any _ _ R0 (by first | omega | (simp only [List.length_append, List.length_singleton]; omega))).mono ?_); rintro e w3 ⟨rfl, v3, R3⟩; have R0 := R3; clear R3; have y0 : (_ : Option Value) = some (.int .i64 y.f0) := R0.Y.cell 0 (by simp [fFound]); have y1 : (_ : Option Value) = some (.int .i64 y.f1) := R0.Y.cell 1 (by simp [fFound]); have y5 : (_ : Option Value) = some (.int .i64 (fsB y)) := R0.Y.cell 5 (by simp [fFound]); have y6 : (_ : Option Value) = some (.bool y.f5) := R0.Y.cell 6 (by simp [fFound])))
              go_roundw
              case rel => exact ⟨k + 1, _, _, by go_num, by omega, R0.X, Lib.hid (by rw [ftsL_s, ← HL.out, HA1.out, HD.out, HF.out, HE7.out, e5, h5]; simp [dupL])⟩
              case measure => (simp [intOf] <;> omega)
        · by_cases a0 : y.f0 = cy
          · have n0 : (y.f0 != cy) = false := by simp [a0]
            by_cases a1 : y.f1 = hd
            · have n1 : (y.f1 != hd) = false := by simp [a1]
              have HF := Lib.hid (if_pos (⟨a0, a1⟩ : y.f0 = cy ∧ y.f1 = hd) : (if y.f0 = cy ∧ y.f1 = hd then ([] : List (Int × Int × Int)) else [(2, (k : Int), 0)]) = [])
              clear a0 a1
              rcases e5 with e5 | e5 <;> cases h5 : y.f5
              all_goals
                go_wp2_with (first | (go_at_call 43; (refine (hix _).mono ?_); rintro e w3 ⟨rfl, hx3⟩; have R0 := RX.next R0 hx3; clear hx3; have y0 : (_ : Option Value) = some (.int .i64 y.f0) := R0.Y.cell 0 (by simp [fFound]); have y1 : (_ : Option Value) = some (.int .i64 y.f1) := R0.Y.cell 1 (by simp [fFound]); have y5 : (_ : Option Value) = some (.int .i64 (fsB y)) := R0.Y.cell 5 (by simp [fFound]); have y6 : (_ : Option Value) = some (.bool y.f5) := R0.Y.cell 6 (by simp [fFound])) | (go_at_call 42; (refine (add_any _ _ R0 (by first | omega | (simp only [List.length_append, List.length_singleton]; omega))).mono ?_); rintro e w3 ⟨rfl, v3, R3⟩; have R0 := R3; clear R3; have y0 : (_ : Option Value) = some (.int .i64 y.f0) := R0.Y.cell 0 (by simp [fFound]); have y1 : (_ : Option Value) = some (.int .i64 y.f1) := R0.Y.cell 1 (by simp [fFound]); have y5 : (_ : Option Value) = some (.int .i64 (fsB y)) := R0.Y.cell 5 (by simp [fFound]); have y6 : (_ : Option Value) = some (.bool y.f5) := R0.Y.cell 6 (by simp [fFound])))
                go_roundw
                case rel => exact ⟨k + 1, _, _, by go_num, by omega, R0.X, Lib.hid (by rw [ftsL_s, ← HL.out, HA1.out, HD.out, HF.out, HE7.out, e5, h5]; simp [dupL])⟩
                case measure => (simp [intOf] <;> omega)
            · have n1 : (y.f1 != hd) = true := by simp [a1]
              have HF := Lib.hid (if_neg (fun h => a1 h.2) : (if y.f0 = cy ∧ y.f1 = hd then ([] : List (Int × Int × Int)) else [(2, (k : Int), 0)]) = [(2, (k : Int), 0)])
              clear a0 a1
              rcases e5 with e5 | e5 <;> cases h5 : y.f5
              all_goals
                go_wp2_with (first | (go_at_call 43; (refine (hix _).mono ?_); rintro e w3 ⟨rfl, hx3⟩; have R0 := RX.next R0 hx3; clear hx3; have y0 : (_ : Option Value) = some (.int .i64 y.f0) := R0.Y.cell 0 (by simp [fFound]); have y1 : (_ : Option Value) = some (.int .i64 y.f1) := R0.Y.cell 1 (by simp [fFound]); have y5 : (_ : Option Value) = some (.int .i64 (fsB y)) := R0.Y.cell 5 (by simp [fFound]); have y6 : (_ : Option Value) = some (.bool y.f5) := R0.Y.cell 6 (by simp [fFound])) | (go_at_call 42; (refine (add_any _ _ R0 (by first | omega | (simp only [List.length_append, List.length_singleton]; omega))).mono ?_); rintro e w3 ⟨rfl, v3, R3⟩; have R0 := R3; clear R3; have y0 : (_ : Option Value) = some (.int .i64 y.f0) := R0.Y.cell 0 (by simp [fFound]); have y1 : (_ : Option Value) = some (.int .i64 y.f1) := R0.Y.cell 1 (by simp [fFound]); have y5 : (_ : Option Value) = some (.int .i64 (fsB y)) := R0.Y.cell 5 (by simp [fFound]); have y6 : (_ : Option Value) = some (.bool y.f5) := R0.Y.cell 6 (by simp [fFound])))
                go_roundw
                case rel => exact ⟨k + 1, _, _, by go_num, by omega, R0.X, Lib.hid (by rw [ftsL_s, ← HL.out, HA1.out, HD.out, HF.out, HE7.out, e5, h5]; simp [dupL])⟩
                case measure => (simp [intOf] <;> omega)
          · have n0 : (y.f0 != cy) = true := by simp [a0]
            have HF := Lib.hid (if_neg (fun h => a0 h.1) : (if y.f0 = cy ∧ y.f1 = hd then ([] : List (Int × Int × Int)) else [(2, (k : Int), 0)]) = [(2, (k : Int), 0)])
            clear a0
            rcases e5 with e5 | e5 <;> cases h5 : y.f5
            all_goals
              go_wp2_with (first | (go_at_call 43; (refine (hix _).mono ?_); rintro e w3 ⟨rfl, hx3⟩; have R0 := RX.next R0 hx3; clear hx3; have y0 : (_ : Option Value) = some (.int .i64 y.f0) := R0.Y.cell 0 (by simp [fFound]); have y1 : (_ : Option Value) = some (.int .i64 y.f1) := R0.Y.cell 1 (by simp [fFound]); have y5 : (_ : Option Value) = some (.int .i64 (fsB y)) := R0.Y.cell 5 (by simp [fFound]); have y6 : (_ : Option Value) = some (.bool y.f5) := R0.Y.cell 6 (by simp [fFound])) | (go_at_call 42; (refine (add_any _ _ R0 (by first | omega | (simp only [List.length_append, List.length_singleton]; omega))).mono ?_); rintro e w3 ⟨rfl, v3, R3⟩; have R0 := R3; clear R3; have y0 : (_ : Option Value) = some (.int .i64 y.f0) := R0.Y.cell 0 (by simp [fFound]); have y1 : (_ : Option Value) = some (.int .i64 y.f1) := R0.Y.cell 1 (by simp [fFound]); have y5 : (_ : Option Value) = some (.int .i64 (fsB y)) := R0.Y.cell 5 (by simp [fFound]); have y6 : (_ : Option Value) = some (.bool y.f5) := R0.Y.cell 6 (by simp [fFound])))
              go_roundw
              case rel => exact ⟨k + 1, _, _, by go_num, by omega, R0.X, Lib.hid (by rw [ftsL_s, ← HL.out, HA1.out, HD.out, HF.out, HE7.out, e5, h5]; simp [dupL])⟩
              case measure => (simp [intOf] <;> omega)
    · have hlti : ¬ (k : Int) < (n : Int) := by omega
      obtain rfl : k = n := by omega
      obtain ⟨A3, c3, rfl⟩ := own_form S.O
      have p0 : (_ : Option Value) = some (.slice A3 l.length c3) := S.F.cell 0 (by simp)
      go_wp2
      go_ret
      exact ⟨_, rfl, by rw [← HL.out]; exact own_base S.O (Nat.le_succ _), S.Bw⟩
end Go.Proofs.YthelfgagddldfaaGreatDoor
