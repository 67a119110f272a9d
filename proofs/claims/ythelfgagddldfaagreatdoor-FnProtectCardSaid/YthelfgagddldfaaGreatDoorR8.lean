/- Walks: numbers between blanks (impl). -/
import Derived.Test.YthelfgagddldfaaGreatDoorR7
namespace Go.Proofs.YthelfgagddldfaaGreatDoor
open Go.RowKit Go.Lib
set_option linter.unusedVariables false
set_option linter.unusedSimpArgs false

theorem wdL_len (l : List UInt8) : (wdL l).length = (splL l).length := List.length_map _
theorem wdL_get (l : List UInt8) (j : Nat) (h : j < (wdL l).length) (h2 : j < (splL l).length) : (wdL l)[j] = mkR (splL l)[j] := List.getElem_map ..
theorem split_any (t : ByteArray) (w : World) (ht : t.size ≤ 1048576) (G : GW w) : Calls Tryz.prog 15 #[.string t, .string ⟨#[32]⟩] w fun e w' => ∃ g, e = .returned (.slice (some ⟨g, 0, none⟩) (wdL t.data.toList).length (wdL t.data.toList).length) ∧ (∀ j, (hj : j < (wdL t.data.toList).length) → w'.cell? ⟨g, j, none⟩ = some (.string (wdL t.data.toList)[j])) ∧ w.heap.size ≤ g ∧ g < w'.heap.size ∧ Below w.heap.size w w' := by
  obtain ⟨m, hm⟩ := G.ml
  refine (Tryz.strings_Split t ⟨#[32]⟩ m w (by omega) hm (by decide)).mono ?_
  rintro e w' ⟨rfl, rfl⟩
  have e1 := splB_wd _ t rfl
  have e2 := splitB_all ⟨#[32]⟩ (by decide) 0 _ t rfl
  rw [e1] at e2
  refine ⟨w.heap.size, by rw [e2], ?_, Nat.le_refl _, by rw [World.size_alloc]; omega, below_alloc (Below.refl _ _) _⟩
  intro j hj
  rw [e1]
  rw [World.cell?_alloc_new]
  simp [hj]
theorem spl_cnt : ∀ l : List UInt8, (splL l).length ≤ l.length + 1
  | [] => Nat.le_refl _
  | b :: r => by
    have := spl_cnt r
    unfold splL
    split
    · rw [List.length_cons, List.length_cons]
      omega
    · split
      · simp
      · rename_i h t heq
        rw [heq, List.length_cons] at this
        rw [List.length_cons, List.length_cons]
        omega
theorem mm_snoc {a : List (List UInt8)} {x : List UInt8} {l : List Int} {v : Int} (h : a.mapM readD = some l) (g : readD x = some v) : (a ++ [x]).mapM readD = some (l ++ [v]) := by
  simp [List.mapM_append, h, g]
theorem mm_none {a b : List (List UInt8)} {x : List UInt8} {l : List Int} (h : a.mapM readD = some l) (g : readD x = none) : (a ++ x :: b).mapM readD = none := by
  simp [List.mapM_append, List.mapM_cons, h, g]
set_option maxRecDepth 100000 in
set_option maxHeartbeats 4000000 in
theorem splitNumbers_any (t : ByteArray) (w : World) (ht : t.size ≤ 1048576) (G : GW w) : Calls Tryz.prog 16 #[.string t, .string ⟨#[32]⟩] w fun e w' => ((∃ L A c, (splL t.data.toList).mapM readD = some L ∧ L ≠ [] ∧ e = .returned (.tuple #[.slice A L.length c, .bool true]) ∧ w'.ownsRow w.heap.size 2 1 (.slice A L.length c) L.length (flat fI L)) ∨ ((splL t.data.toList).mapM readD = none ∧ e = .returned (.tuple #[.slice none 0 0, .bool false]))) ∧ Below w.heap.size w w' := by
  have sp := split_any t w ht G
  have hlt := bl_len t
  have hsl := spl_len t.data.toList
  have hwl := wdL_len t.data.toList
  have hwg := wdL_get t.data.toList
  have hcnt := spl_cnt t.data.toList
  have hne : 0 < (splL t.data.toList).length := by
    cases h : splL t.data.toList with
    | nil => exact absurd h (splL_ne _)
    | cons x r => simp
  generalize wdL t.data.toList = wl at sp hwl hwg
  generalize splL t.data.toList = SL at *
  have HWG := Lib.hid hwg
  have HSL := Lib.hid hsl
  have HLN := Lib.hid hwl
  have hwn : wl.length ≤ wl.length := Nat.le_refl _
  have GX := Lib.hid G
  have HNE := Lib.hid hne
  have HCNT := Lib.hid (show SL.length ≤ 1048577 by omega)
  clear hwg hsl hwl G hne hcnt
  have RD := Lib.hid (fun (x : List UInt8) (hx : x ∈ SL) (W : World) (hb : BB w W) => (show Calls Tryz.prog 33 #[.string (mkR x)] W fun e w' => ((∃ v, readD x = some v ∧ -9223372036854775808 ≤ v ∧ v ≤ 9223372036854775807 ∧ e = .returned (.tuple #[.int .i64 v, .bool true])) ∨ (readD x = none ∧ e = .returned (.tuple #[.int .i64 0, .bool false]))) ∧ Below W.heap.size W w' from readDecimal_any (mkR x) W (by rw [mkR_size]; have := HSL.out x hx; omega) (GX.out.bb hb)))
  go_enter Tryz.func16, Tryz.ntmps16
  go_wp2_with (go_at_call 15; (with_reducible refine sp.mono ?_); rintro e w1 ⟨g, rfl, hcw, hg1, hg2, hx1⟩; have hB1 : BB w w1 := hx1; have HC1 := Lib.hid hcw; clear hcw)
  clear sp
  have O1 : w1.ownsRow w1.heap.size 2 1 (.slice none 0 0) 0 (flat fI []) := World.ownsRow_nil _ _ _ _
  have hz1 : w1.heap.size ≤ w1.heap.size := Nat.le_refl _
  obtain ⟨B1, hB1e⟩ : ∃ B1, w1.heap.size = B1 := ⟨_, rfl⟩
  have hwB : w.heap.size ≤ B1 := by rw [← hB1e]; exact Below.size hB1
  rw [hB1e] at O1 hg2
  have hz1 : B1 ≤ w1.heap.size := by omega
  clear hB1e hx1
  go_loopw [6, 15] (fun v i wr => ∃ (k : Nat) (A6 : Option Addr) (c6 : Nat) (L : List Int), i = .int .i64 (k : Int) ∧ k ≤ wl.length ∧ v = .slice A6 L.length c6 ∧ Hid (L.length = k) ∧ Hid ((SL.take k).mapM readD = some L) ∧ wr.ownsRow B1 2 1 v L.length (flat fI L) ∧ Hid (∀ j, (hj : j < wl.length) → wr.cell? ⟨g, j, none⟩ = some (.string wl[j])) ∧ BB w wr ∧ B1 ≤ wr.heap.size) (fun _ i _ => wl.length - (RowKit.intOf i).toNat)
  case atStart => exact ⟨0, none, 0, [], rfl, Nat.zero_le _, rfl, Lib.hid rfl, Lib.hid rfl, O1, HC1, hB1, hz1⟩
  case round =>
    clear O1 HC1 hB1 hz1
    obtain ⟨k, A6, c6, L, rfl, hk, rfl, hLk, HI, O, HC, hB, hBz⟩ := hrel
    by_cases hlt2 : k < wl.length
    · have hlti : (k : Int) < (wl.length : Int) := by omega
      have hkd : decide ((k : Int) < (wl.length : Int)) = true := decide_eq_true hlti
      have ck := HC.out k hlt2
      have hkS : k < SL.length := by have := HLN.out; omega
      rw [HWG.out k hlt2 hkS] at ck
      have hxm : SL[k] ∈ SL := List.getElem_mem hkS
      have HT := Lib.hid (show SL.take (k + 1) = SL.take k ++ [SL[k]] from List.take_succ_eq_append_getElem hkS)
      have HD := Lib.hid (show SL = SL.take k ++ SL[k] :: SL.drop (k + 1) by rw [← List.drop_eq_getElem_cons hkS, List.take_append_drop])
      obtain ⟨x, hx⟩ : ∃ x, SL[k] = x := ⟨_, rfl⟩
      rw [hx] at ck hxm HT HD
      have rd := RD.out x hxm wr hB
      generalize mkR x = X at ck rd
      have hk32 : k ≤ 100000000 := by have h8 := HCNT.out; have h9 := HLN.out; omega
      clear hx hxm hkS
      go_upto_region 6 with (go_at_call 33; (with_reducible refine rd.mono ?_); rintro e w3 ⟨hcase, hx3⟩; rcases hcase with ⟨v, hv, hv0, hv1, rfl⟩ | ⟨hv, rfl⟩)
      · have HU := Lib.hid (show (SL.take (k + 1)).mapM readD = some (L ++ [v]) by rw [HT.out]; exact mm_snoc HI.out hv)
        have HIL := Lib.hid (show (L ++ [v]).length = L.length + 1 by rw [List.length_append]; rfl)
        have hB3 : BB w w3 := BB.next hB hx3
        have hz3 : B1 ≤ w3.heap.size := Nat.le_trans hBz hx3.size
        have O3 := own_later O hx3 (Nat.le_refl _)
        have HC3 := Lib.hid (fun j hj => (Below.cell hx3 (p := ⟨g, j, none⟩) (by show g < wr.heap.size; omega)).trans (HC.out j hj))
        have hL8 : L.length ≤ 100000000 := by have := hLk.out; omega
        clear hv HT HD
        go_wp2_with (at_builtin; go_must (refine wpList_appF (f := fI) rfl (.tmp 26) (.tmp 28) 48 rfl eltI (by decide) _ L rfl O3 _ _ v 1 rfl (by rfl) rfl (fun u hu => by simp only [fI, List.mem_cons, List.not_mem_nil, or_false] at hu; subst hu; rfl) hL8 hz3 ?_); intro v5 w5 O5 hg5 hat5 hb5; obtain ⟨A5, c5, rfl⟩ := own_form O5; have hB5 : BB w w5 := Below.trans hB3 (hb5.mono hwB))
        go_roundw
        case rel => exact ⟨k + 1, A5, c5, L ++ [v], by go_num, by omega, by rw [HIL.out], Lib.hid (by rw [HIL.out, hLk.out]), HU, by have h9 := O5; rw [HIL.out] at h9 ⊢; exact h9, Lib.hid (fun j hj => (Below.cell hb5 (p := ⟨g, j, none⟩) hg2).trans (HC3.out j hj)), hB5, Nat.le_trans hz3 hb5.size⟩
        case measure => simp [RowKit.intOf]; omega
      · have HR := Lib.hid (show SL.mapM readD = none by rw [HD.out]; exact mm_none HI.out hv)
        have hB3 : BB w w3 := BB.next hB hx3
        clear hv HT HD
        go_wp2_with fail
        (try simp only [Exit.inBlock, Exit.then])
        refine bodyPost_ret (results_tmp2 rfl _ _ _) rfl ?_
        exact ⟨Or.inr ⟨HR.out, rfl⟩, hB3⟩
    · have hlti : ¬ (k : Int) < (wl.length : Int) := by omega
      have hkd : decide ((k : Int) < (wl.length : Int)) = false := decide_eq_false hlti
      have HR := Lib.hid (show SL.mapM readD = some L by
        have := HI.out
        rwa [List.take_of_length_le (by have := HLN.out; omega)] at this)
      have HL0 := Lib.hid (show L ≠ [] from fun e => by
        have h7 := hLk.out
        rw [e] at h7
        have h8 := HLN.out
        have h9 := HNE.out
        simp at h7
        omega)
      go_wp2_with fail
      (try simp only [Exit.inBlock, Exit.then])
      refine bodyPost_ret (results_tmp2 rfl _ _ _) rfl ?_
      first
        | exact ⟨Or.inl ⟨L, A6, c6, HR.out, HL0.out, rfl, own_base O hwB⟩, hB⟩
        | exact ⟨Or.inl ⟨L, HR.out, HL0.out, A6, c6, rfl, own_base O hwB⟩, hB⟩
end Go.Proofs.YthelfgagddldfaaGreatDoor
