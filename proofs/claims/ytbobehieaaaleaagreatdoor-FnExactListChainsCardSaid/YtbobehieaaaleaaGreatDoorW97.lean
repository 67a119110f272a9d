/- Walks: openChains. -/
import Derived.Test.YtbobehieaaaleaaGreatDoorW96
import Derived.Test.YtbobehieaaaleaaGreatDoorShelf
import Derived.Deep.RegionHeld3
import Derived.Deep.RegionLaw
import Derived.Deep.DeepCutAuto
import Derived.Test.YtbobehieaaaleaaGreatDoorMem2
namespace Go.Proofs.YtbobehieaaaleaaGreatDoor
open Go.RowKit
set_option linter.unusedVariables false

theorem hdB_eq {l : List ByteArray} {b0 : ByteArray} {s : Nat} (hh : l.headD ⟨#[]⟩ = b0) (hs : s0 l = s) : hdB l = decide (b0 = hdS l.length s) := by rw [hdB, hh, hs]
theorem str_eq (a b : ByteArray) : (a.toList == b.toList) = decide (a = b) := by
  by_cases h : a = b
  · subst h
    simp
  · rw [decide_eq_false h]
    apply beq_false_of_ne
    intro e
    rw [ByteArray.toList_eq, ByteArray.toList_eq] at e
    exact h (by
      obtain ⟨⟨x⟩⟩ := a
      obtain ⟨⟨y⟩⟩ := b
      have : x = y := e
      rw [this])
theorem join_nil : ∀ l : List ByteArray, Lib.join (l.map (·.data.toList)) [] = jn l
  | [] => rfl
  | [a] => by simp [Lib.join, jn]
  | a :: b :: t => by
    have := join_nil (b :: t)
    simp only [List.map_cons] at this ⊢
    rw [show ∀ (x y : List UInt8) (r : List (List UInt8)), Lib.join (x :: y :: r) [] = x ++ Lib.join (y :: r) [] from fun x y r => by simp [Lib.join, List.intercalate], this]
    simp [jn]
theorem Rd.of_mark {w : World} {g : Nat} {e : TypeId} {l : List UInt8} (h : MarkB w g e l) : Rd w w.heap.size 1 (some ⟨g, 0, none⟩) l.length (bcells l) :=
  ⟨by rw [bcells_length, Nat.mul_one], fun _ => ⟨g, 0, rfl, h.lt, fun j hj => by
    have hj' : j < l.length := by rwa [bcells_length] at hj
    rw [Nat.zero_add, h.cell j hj']
    simp [bcells]⟩⟩
set_option maxRecDepth 100000 in
set_option maxHeartbeats 2000000 in
theorem openChains_any (A : Option Addr) (cp : Nat) (l : List ByteArray) (w : World) (h : Rd w w.heap.size 1 A l.length (flat fS l)) (hn : l.length ≤ 1048576) (hcp : l.length ≤ cp) :
    Calls Tryz.prog 14 #[.slice A l.length cp] w fun e w' => ∃ pv, e = .returned (.tuple #[pv, .int .i64 (chC l)]) ∧ Below w.heap.size w w' ∧ (chC l = 0 → ∃ (g : Nat) (a : Option Addr) (c : Nat), pv = .pointer (some ⟨g, 0, none⟩) ∧ CP w' g [.int .i64 (l.length : Int), .int .i64 (s0 l : Int), .int .i64 (chE l.length : Int), .int .i64 (chD l.length (s0 l) : Int), .int .i64 (chX l.length (s0 l) : Int), .slice a (jn l).length c] ∧ Rd w' w'.heap.size 1 a (jn l).length (bcells (jn l))) ∧ (chC l ≠ 0 → pv = .pointer none) := by
  have hib := isBlocks_any A cp l w h hn
  cases hbk : blkB l
  · rw [hbk] at hib
    have HR := Lib.hid (chC_1 hbk)
    clear hbk
    go_enter Tryz.func14, Tryz.ntmps14
    go_wp2_with (go_at_call 23; refine hib.mono ?_; rintro e w9 ⟨rfl, rfl⟩)
    (try simp only [Exit.inBlock, Exit.then]); refine bodyPost_ret (results_tmp2 rfl _ _ _) rfl ?_
    exact ⟨.pointer none, by rw [HR.out]; rfl, Below.refl _ _, fun e => absurd (HR.out.symm.trans e) (by decide), fun _ => rfl⟩
  rw [hbk] at hib
  obtain ⟨n8, n128, s3, hall⟩ := blk_yes hbk
  have hpos : 0 < l.length := by omega
  have hposi : (0 : Int) < (l.length : Int) := by omega
  obtain ⟨b, off, rfl, hbb, hc⟩ := h.at_ fS_len rfl 0 hpos
  have hc0 := hc 0 _ (by omega) rfl
  clear hc
  simp only [Nat.zero_mul, Nat.add_zero] at hc0
  obtain ⟨b0, hb0⟩ : ∃ x, l[0] = x := ⟨_, rfl⟩
  have hs0 : s0 l = b0.size := by rw [s0_eq hpos, hb0]
  have hhd : l.headD ⟨#[]⟩ = b0 := by rw [head_eq hpos, hb0]
  rw [hb0] at hc0
  rw [hs0] at s3 hall ⊢
  clear hb0
  have h6 : 6 ≤ b0.size := by omega
  have h32 : b0.size ≤ 32 := by omega
  have hlay := fun W => chainLayout_any l.length b0.size W n128 (by omega) h32
  have hdr := fun (d x : Int) W => chainHeader_any l.length b0.size d x W n128 h6 h32
  have HDB := Lib.hid (hdB_eq hhd hs0)
  have HBK := Lib.hid hbk
  have HJ := Lib.hid (show Lib.join (l.map (·.data.toList)) (⟨#[]⟩ : ByteArray).data.toList = jn l from join_nil l)
  have hjl : (jn l).length ≤ 4096 := by
    rw [jn_len l b0.size hall]
    have := Nat.mul_le_mul n128 h32
    omega
  obtain ⟨H, hH⟩ : ∃ H, hdS l.length b0.size = H := ⟨_, rfl⟩
  rw [hH] at hdr HDB
  clear hbk hhd hs0 hall s3 hH
  generalize chE l.length = E at *
  generalize chD l.length b0.size = D at *
  generalize chX l.length b0.size = X at *
  have hsz := fun W => size_string_any (some ⟨b, off, none⟩) l.length cp W
  go_enter Tryz.func14, Tryz.ntmps14
  go_upto_region 3 with (go_at_call 23; refine hib.mono ?_; rintro e w9 ⟨rfl, rfl⟩)
  clear hib
  go_cut [4] (fun p wx => ∃ (g : Nat), p = .pointer (some ⟨g, 0, none⟩) ∧ BB w wx ∧ CP wx g [.int .i64 (l.length : Int), .int .i64 (b0.size : Int), .int .i64 (E : Int), .int .i64 (D : Int), .int .i64 (X : Int)])
  case first =>
    have hB := BB.start w
    have s_B := hB.dr
    have t_B := fun (o : Obj) => (BB.al hB o).dr
    have s_0 : (_ : Option Value) = some (.string b0) := (hB.dr).cell hbb |>.trans hc0
    have t_0 := fun (o : Obj) => (show (_ : Option Value) = some (.string b0) from ((BB.al hB o).dr).cell hbb |>.trans hc0)
    go_region_held3 (fun W => BB w W ∧ W.cell? ⟨b, off, none⟩ = some (.string b0)) (refine ⟨?_, ?_⟩ <;> first | with_reducible assumption | with_reducible exact t_B _ | with_reducible exact t_0 _) (first
      | (go_at_call 25; refine (hsz _).mono ?_; rintro e w9 ⟨rfl, rfl⟩)
      | (go_at_call 24; have con := hlay w.drew; (with_reducible refine con.mono ?_); clear con; rintro e w3 ⟨rfl, hx3⟩; clear s_B t_B s_0 t_0; replace hB : BB w _ := BB.next (hB.dr) hx3; have s_B := hB; have t_B := fun (o : Obj) => BB.al hB o; have s_0 : (_ : Option Value) = some (.string b0) := (hB).cell hbb |>.trans hc0; have t_0 := fun (o : Obj) => (show (_ : Option Value) = some (.string b0) from (BB.al hB o).cell hbb |>.trans hc0))
      | (go_at_call 24; have con := fun (o : Obj) => hlay (w.alloc o).drew; (with_reducible refine (con _).mono ?_); clear con; rintro e w3 ⟨rfl, hx3⟩; clear s_B t_B s_0 t_0; have F : BX ((w.alloc (.cells #[.int .i64 0, .int .i64 0, .int .i64 0, .int .i64 0, .int .i64 0] 33)).drew) w.heap.size 33 [.int .i64 0, .int .i64 0, .int .i64 0, .int .i64 0, .int .i64 0] := BX.made w 33 [.int .i64 0, .int .i64 0, .int .i64 0, .int .i64 0, .int .i64 0]; replace F := F.below hx3 (by simp); replace hB : BB w _ := BB.next ((BB.al hB _).dr) hx3; have s_B := hB; have t_B := fun (o : Obj) => BB.al hB o; have s_0 : (_ : Option Value) = some (.string b0) := (hB).cell hbb |>.trans hc0; have t_0 := fun (o : Obj) => (show (_ : Option Value) = some (.string b0) from (BB.al hB o).cell hbb |>.trans hc0); have z_0 : (_ : Option Value) = some (.int .i64 0) := F.cell 0 (by simp); have z_1 : (_ : Option Value) = some (.int .i64 0) := F.cell 1 (by simp); have z_2 : (_ : Option Value) = some (.int .i64 0) := F.cell 2 (by simp); have z_3 : (_ : Option Value) = some (.int .i64 0) := F.cell 3 (by simp); have z_4 : (_ : Option Value) = some (.int .i64 0) := F.cell 4 (by simp); have hfz := fun j => F.free j; have P8 := (((((F.put 0 (.int .i64 (l.length : Int))).put 1 (.int .i64 (b0.size : Int))).put 2 (.int .i64 (E : Int))).put 3 (.int .i64 (D : Int))).put 4 (.int .i64 (X : Int))); have hBq := (((((hB.put (a := ⟨w.heap.size, 0, none⟩) (Nat.le_refl _) (.int .i64 (l.length : Int))).put (a := ⟨w.heap.size, 1, none⟩) (Nat.le_refl _) (.int .i64 (b0.size : Int))).put (a := ⟨w.heap.size, 2, none⟩) (Nat.le_refl _) (.int .i64 (E : Int))).put (a := ⟨w.heap.size, 3, none⟩) (Nat.le_refl _) (.int .i64 (D : Int))).put (a := ⟨w.heap.size, 4, none⟩) (Nat.le_refl _) (.int .i64 (X : Int))); have u_0 : (_ : Option Value) = some (.string b0) := (Below.cell hBq hbb).trans hc0; have mf := True.intro))
    all_goals
      go_wp2_with fail
      go_meet
      first
        | (have := mf; exact ⟨w.heap.size, rfl, hBq, BX.cp P8⟩)
        | exact ⟨w3.heap.size, rfl, hB.al _, CP.made w3 [.int .i64 (l.length : Int), .int .i64 (b0.size : Int), .int .i64 (E : Int), .int .i64 (D : Int), .int .i64 (X : Int)] 33⟩
  case rest =>
    obtain ⟨g, rfl, hB, D0⟩ := hcut
    have k0 := gw_cell (show wc.cell? ⟨b, off, none⟩ = some (.string b0) from (hB.cell hbb).trans hc0)
    have k1 := gw_cell (show wc.cell? ⟨g, 0, none⟩ = some (.int .i64 (l.length : Int)) from D0 0 (by simp))
    have k2 := gw_cell (show wc.cell? ⟨g, 1, none⟩ = some (.int .i64 (b0.size : Int)) from D0 1 (by simp))
    have k3 := gw_cell (show wc.cell? ⟨g, 2, none⟩ = some (.int .i64 (E : Int)) from D0 2 (by simp))
    have k4 := gw_cell (show wc.cell? ⟨g, 3, none⟩ = some (.int .i64 (D : Int)) from D0 3 (by simp))
    have k5 := gw_cell (show wc.cell? ⟨g, 4, none⟩ = some (.int .i64 (X : Int)) from D0 4 (by simp))
    have hq := fun (p' : Regrown) => qb_below p' (hdr (D : Int) (X : Int) (Sort.grow (redrawn wc p'.d) p'.os))
    go_wp2_with fail
    refine wp_region_quiet_below (by kernel_rfl) (by kernel_rfl) ?_
    repeat (go_big_quiet_step ((first | with_reducible exact hq _)))
    refine wpQuiet_nil ?_
    intro _ hw'
    obtain ⟨pq, hw''⟩ := hw'
    subst hw''
    have hb6 := gw_below wc pq
    generalize Sort.grow (redrawn wc pq.d) pq.os = w6 at hb6 ⊢
    clear hq k0 k1 k2 k3 k4 k5 hdr hlay hsz
    replace D0 := D0.next hb6
    replace hB : BB w _ := BB.next hB hb6
    cases hh : (b0.toList == H.toList)
    · have hhn : (b0.toList != H.toList) = true := by rw [bne, hh]; rfl
      have HR := Lib.hid (chC_2 HBK.out (by rw [HDB.out, ← str_eq, hh]))
      clear hh
      go_wp2
      (try simp only [Exit.inBlock, Exit.then]); refine bodyPost_ret (results_tmp2 rfl _ _ _) rfl ?_
      exact ⟨.pointer none, by rw [HR.out]; rfl, hB, fun e => absurd (HR.out.symm.trans e) (by decide), fun _ => rfl⟩
    have hhn : (b0.toList != H.toList) = false := by rw [bne, hh]; rfl
    have HR := Lib.hid (chC_3 HBK.out (by rw [HDB.out, ← str_eq, hh]))
    clear hh
    have hbk2 : b < w6.heap.size := Nat.lt_of_lt_of_le hbb (Below.size hB)
    have hcl : ∀ (j : Nat) (x : ByteArray), l[j]? = some x → w6.drew.cell? ⟨b, off + j, none⟩ = some (.string x) := by
      intro j x hx
      obtain ⟨hj, rfl⟩ := List.getElem?_eq_some_iff.1 hx
      obtain ⟨b', off', he, hb', hc⟩ := h.at_ fS_len rfl j hj
      cases he
      have h1 := hc 0 _ (by omega) rfl
      simp only [Nat.mul_one, Nat.add_zero] at h1
      exact (Below.cell (BB.dr hB) (p := ⟨b, off + j, none⟩) hbb).trans h1
    have con : Calls Tryz.prog 27 #[.slice (some ⟨b, off, none⟩) l.length cp, .string ⟨#[]⟩] w6.drew fun e w' => e = .returned (.string ⟨(jn l).toArray⟩) ∧ Below w6.drew.heap.size w6.drew w' := by
      rw [← HJ.out]
      exact Tryz.strings_Join b off cp l ⟨#[]⟩ w6.drew hcl hbk2 (by omega) hcp (by rw [HJ.out]; omega)
    have hJd : (⟨(jn l).toArray⟩ : ByteArray).data.toList = jn l := rfl
    generalize (⟨(jn l).toArray⟩ : ByteArray) = J at con hJd
    have hJs : J.size = (jn l).length := by rw [← hJd, Array.length_toList]; rfl
    have HJD := Lib.hid hJd
    have hJb : J.size ≤ 4096 := by omega
    have HJS := Lib.hid hJs
    clear hJd hJs hcl
    have hcv := fun (W : World) => run_bytes_of_string (P := Tryz.prog) W 9 34 5 J Tryz.underlying9 Tryz.underlying34 Tryz.underlying5
    go_wp2_with fail
    have s_0 : (_ : Option Value) = some (.int .i64 (l.length : Int)) := (D0.dr) 0 (by simp)
    have s_1 : (_ : Option Value) = some (.int .i64 (b0.size : Int)) := (D0.dr) 1 (by simp)
    have s_2 : (_ : Option Value) = some (.int .i64 (E : Int)) := (D0.dr) 2 (by simp)
    have s_3 : (_ : Option Value) = some (.int .i64 (D : Int)) := (D0.dr) 3 (by simp)
    have s_4 : (_ : Option Value) = some (.int .i64 (X : Int)) := (D0.dr) 4 (by simp)
    have t_0 := fun (o : Obj) => (show (_ : Option Value) = some (.int .i64 (l.length : Int)) from ((CP.al D0 o).dr) 0 (by simp))
    have t_1 := fun (o : Obj) => (show (_ : Option Value) = some (.int .i64 (b0.size : Int)) from ((CP.al D0 o).dr) 1 (by simp))
    have t_2 := fun (o : Obj) => (show (_ : Option Value) = some (.int .i64 (E : Int)) from ((CP.al D0 o).dr) 2 (by simp))
    have t_3 := fun (o : Obj) => (show (_ : Option Value) = some (.int .i64 (D : Int)) from ((CP.al D0 o).dr) 3 (by simp))
    have t_4 := fun (o : Obj) => (show (_ : Option Value) = some (.int .i64 (X : Int)) from ((CP.al D0 o).dr) 4 (by simp))
    have u_0 := fun (o o2 : Obj) => (show (_ : Option Value) = some (.int .i64 (l.length : Int)) from ((CP.al (CP.al D0 o) o2).dr) 0 (by simp))
    have u_1 := fun (o o2 : Obj) => (show (_ : Option Value) = some (.int .i64 (b0.size : Int)) from ((CP.al (CP.al D0 o) o2).dr) 1 (by simp))
    have u_2 := fun (o o2 : Obj) => (show (_ : Option Value) = some (.int .i64 (E : Int)) from ((CP.al (CP.al D0 o) o2).dr) 2 (by simp))
    have u_3 := fun (o o2 : Obj) => (show (_ : Option Value) = some (.int .i64 (D : Int)) from ((CP.al (CP.al D0 o) o2).dr) 3 (by simp))
    have u_4 := fun (o o2 : Obj) => (show (_ : Option Value) = some (.int .i64 (X : Int)) from ((CP.al (CP.al D0 o) o2).dr) 4 (by simp))
    go_region_law (go_simp; (go_at_call 27; refine con.mono ?_; rintro e w7 ⟨rfl, hx7⟩; clear s_0 t_0 u_0 s_1 t_1 u_1 s_2 t_2 u_2 s_3 t_3 u_3 s_4 t_4 u_4; replace D0 := D0.dr.next hx7; replace hB : BB w _ := BB.next (BB.dr hB) hx7; have s_0 : (_ : Option Value) = some (.int .i64 (l.length : Int)) := (D0.dr) 0 (by simp); have s_1 : (_ : Option Value) = some (.int .i64 (b0.size : Int)) := (D0.dr) 1 (by simp); have s_2 : (_ : Option Value) = some (.int .i64 (E : Int)) := (D0.dr) 2 (by simp); have s_3 : (_ : Option Value) = some (.int .i64 (D : Int)) := (D0.dr) 3 (by simp); have s_4 : (_ : Option Value) = some (.int .i64 (X : Int)) := (D0.dr) 4 (by simp); have t_0 := fun (o : Obj) => (show (_ : Option Value) = some (.int .i64 (l.length : Int)) from ((CP.al D0 o).dr) 0 (by simp)); have t_1 := fun (o : Obj) => (show (_ : Option Value) = some (.int .i64 (b0.size : Int)) from ((CP.al D0 o).dr) 1 (by simp)); have t_2 := fun (o : Obj) => (show (_ : Option Value) = some (.int .i64 (E : Int)) from ((CP.al D0 o).dr) 2 (by simp)); have t_3 := fun (o : Obj) => (show (_ : Option Value) = some (.int .i64 (D : Int)) from ((CP.al D0 o).dr) 3 (by simp)); have t_4 := fun (o : Obj) => (show (_ : Option Value) = some (.int .i64 (X : Int)) from ((CP.al D0 o).dr) 4 (by simp)); have u_0 := fun (o o2 : Obj) => (show (_ : Option Value) = some (.int .i64 (l.length : Int)) from ((CP.al (CP.al D0 o) o2).dr) 0 (by simp)); have u_1 := fun (o o2 : Obj) => (show (_ : Option Value) = some (.int .i64 (b0.size : Int)) from ((CP.al (CP.al D0 o) o2).dr) 1 (by simp)); have u_2 := fun (o o2 : Obj) => (show (_ : Option Value) = some (.int .i64 (E : Int)) from ((CP.al (CP.al D0 o) o2).dr) 2 (by simp)); have u_3 := fun (o o2 : Obj) => (show (_ : Option Value) = some (.int .i64 (D : Int)) from ((CP.al (CP.al D0 o) o2).dr) 3 (by simp)); have u_4 := fun (o o2 : Obj) => (show (_ : Option Value) = some (.int .i64 (X : Int)) from ((CP.al (CP.al D0 o) o2).dr) 4 (by simp)); have v_0 : (_ : Option Value) = some (.int .i64 (l.length : Int)) := D0 0 (by simp); have v_1 : (_ : Option Value) = some (.int .i64 (b0.size : Int)) := D0 1 (by simp); have v_2 : (_ : Option Value) = some (.int .i64 (E : Int)) := D0 2 (by simp); have v_3 : (_ : Option Value) = some (.int .i64 (D : Int)) := D0 3 (by simp); have v_4 : (_ : Option Value) = some (.int .i64 (X : Int)) := D0 4 (by simp)))
    all_goals
      go_wp2
      (try simp only [Exit.inBlock, Exit.then]); refine bodyPost_ret (results_tmp2 rfl _ _ _) rfl ?_
      have hBw : Below w.heap.size w w7 := hB
      have hmk := MarkB.made (e := 5) w7 J (grownCap w7 J.size 0 5)
      have hlt := hmk.lt
      refine ⟨.pointer (some ⟨w7.heap.size + 1, 0, none⟩), by rw [HR.out]; rfl, ?_, fun _ => ⟨w7.heap.size + 1, some ⟨w7.heap.size, 0, none⟩, grownCap w7 J.size 0 5, rfl, ?_, ?_⟩, fun e => absurd HR.out e⟩
      · exact (by with_reducible repeat (first | exact Below.refl _ _ | assumption | refine below_step ?_ (by assumption) | refine Below.drew ?_ | refine below_drewN ?_ _ | refine below_alloc ?_ _ | refine Below.setCell ?_ (by simp; try omega) _))
      · rw [← HJS.out]
        have hcp := CP.made (w7.alloc (.cells (bytesRow J (grownCap w7 J.size 0 5)) 5 ((bytesRow J (grownCap w7 J.size 0 5)).size, (bytesRow J (grownCap w7 J.size 0 5)).size + 1))) [.int .i64 (l.length : Int), .int .i64 (b0.size : Int), .int .i64 (E : Int), .int .i64 (D : Int), .int .i64 (X : Int), .slice (some ⟨w7.heap.size, 0, none⟩) J.size (grownCap w7 J.size 0 5)] 46
        rw [World.size_alloc] at hcp
        exact hcp.dr
      · have hrd := Rd.of_mark ((hmk.below (below_alloc (Below.refl (w7.alloc (.cells (bytesRow J (grownCap w7 J.size 0 5)) 5 ((bytesRow J (grownCap w7 J.size 0 5)).size, (bytesRow J (grownCap w7 J.size 0 5)).size + 1))).heap.size _) (.cells #[.int .i64 (l.length : Int), .int .i64 (b0.size : Int), .int .i64 (E : Int), .int .i64 (D : Int), .int .i64 (X : Int), .slice (some ⟨w7.heap.size, 0, none⟩) J.size (grownCap w7 J.size 0 5)] 46)) hlt))
        rw [HJD.out] at hrd
        exact hrd
end Go.Proofs.YtbobehieaaaleaaGreatDoor
