/- Walks: ReadFeature (impl). -/
import Derived.Test.YtjcghghhpmghhaaDoorR9
namespace Go.Proofs.YtjcghghhpmghhaaDoor
open Go.RowKit Go.Lib
set_option linter.unusedVariables false
set_option linter.unusedSimpArgs false

theorem joL_cons {w : List UInt8} {r : List (List UInt8)} (h : r ≠ []) : joL (w :: r) = w ++ 32 :: joL r := by
  cases r with
  | nil => exact absurd rfl h
  | cons x r => rfl
theorem join_jo : ∀ L : List (List UInt8), Lib.join L [32] = joL L
  | [] => rfl
  | [w] => by simp [Lib.join, joL]
  | w :: x :: r => by
    have h := join_jo (x :: r)
    rw [joL_cons (by simp), ← h]
    simp [Lib.join, List.intercalate]
theorem jo_spl : ∀ l : List UInt8, joL (splL l) = l
  | [] => rfl
  | b :: r => by
    have h := jo_spl r
    unfold splL
    split
    · rename_i hb
      rw [joL_cons (splL_ne r), h, hb]
      rfl
    · split
      · rename_i heq
        exact absurd heq (splL_ne r)
      · rename_i x t heq
        rw [heq] at h
        cases t with
        | nil =>
          show b :: x = b :: r
          have h2 : x = r := h
          rw [h2]
        | cons y t =>
          rw [joL_cons (by simp)] at h ⊢
          rw [List.cons_append, h]
theorem jo_tail (l : List UInt8) : (joL (splL l).tail).length ≤ l.length := by
  have h := jo_spl l
  cases hs : splL l with
  | nil => exact absurd hs (splL_ne l)
  | cons x r =>
    rw [hs] at h
    show (joL r).length ≤ l.length
    cases r with
    | nil => exact Nat.zero_le _
    | cons y r =>
      rw [joL_cons (by simp)] at h
      rw [← h, List.length_append, List.length_cons]
      omega
theorem join_any (t : ByteArray) (g : Nat) (w : World) (ht : t.size ≤ 1048576) (hc : ∀ j, (hj : j < (wdL t.data.toList).length) → w.cell? ⟨g, j, none⟩ = some (.string (wdL t.data.toList)[j])) (hg : g < w.heap.size) (h2 : 1 < (wdL t.data.toList).length) :
    Calls Tryd.prog 13 #[.slice (some ⟨g, 1, none⟩) ((wdL t.data.toList).length - 1) ((wdL t.data.toList).length - 1), .string ⟨#[32]⟩] w fun e w' => e = .returned (.string (mkR (joL (splL t.data.toList).tail))) ∧ Below w.heap.size w w' := by
  have hl : (wdL t.data.toList).tail.length = (wdL t.data.toList).length - 1 := List.length_tail
  have ej : Lib.join ((wdL t.data.toList).tail.map (·.data.toList)) (⟨#[32]⟩ : ByteArray).data.toList = joL (splL t.data.toList).tail := by
    have e1 : (wdL t.data.toList).tail.map (·.data.toList) = (splL t.data.toList).tail := by
      unfold wdL
      rw [← List.map_tail, List.map_map]
      show (splL t.data.toList).tail.map (fun x => x) = _
      rw [List.map_id']
    rw [e1]
    exact join_jo _
  have hjl := jo_tail t.data.toList
  rw [bl_len] at hjl
  have hcnt := spl_cnt t.data.toList
  rw [bl_len, ← wdL_len] at hcnt
  have con := Tryd.strings_Join g 1 ((wdL t.data.toList).length - 1) (wdL t.data.toList).tail ⟨#[32]⟩ w (by
    intro j x hx
    rw [List.getElem?_tail] at hx
    obtain ⟨hj, rfl⟩ := List.getElem?_eq_some_iff.1 hx
    have := hc (j + 1) hj
    rw [show 1 + j = j + 1 by omega]
    exact this) hg (by omega) (by omega) (by rw [ej]; omega)
  rw [ej, hl] at con
  exact con
theorem fk_n {k : Nat} {x0 : Int} {r : List Int} (h : ¬ k = 8) (g : ¬ 1 < (x0 :: r).length) : fk k (x0 :: r) = ((k : Int), x0, 0) := by
  unfold fk
  rw [if_neg h, if_neg g, if_neg h]
  rfl
theorem fk_n2 {k : Nat} {x0 x1 : Int} {r : List Int} (h : ¬ k = 8) : fk k (x0 :: x1 :: r) = ((k : Int), x0, x1) := by
  unfold fk
  rw [if_neg h, if_pos (by simp)]
  rfl
theorem fk_8 {x0 : Int} {r : List Int} (g : ¬ 1 < (x0 :: r).length) : fk 8 (x0 :: r) = ((8 : Int), 0, x0) := by
  unfold fk
  rw [if_pos rfl, if_neg g, if_pos rfl]
  rfl
theorem fk_82 {x0 x1 : Int} {r : List Int} : fk 8 (x0 :: x1 :: r) = ((8 : Int), 0, x1) := by
  unfold fk
  rw [if_pos rfl, if_pos (by simp)]
  rfl
theorem own_ints {w : World} {B g c : Nat} {l : List Int} (O : w.ownsRow B 2 1 (.slice (some ⟨g, 0, none⟩) l.length c) l.length (flat fI l)) (j : Nat) (hj : j < l.length) : w.cell? ⟨g, j, none⟩ = some (.int .i64 l[j]) := by
  obtain ⟨b, off, e, _, hc⟩ := (RR.own O).at_ fI_len rfl j hj
  cases e
  have := hc 0 _ (by omega) rfl
  simpa using this
set_option maxRecDepth 100000 in
set_option maxHeartbeats 16000000 in
theorem impl_ReadFeature_any (t : ByteArray) (w : World) (ht : t.size ≤ 1048576) (G : GW w) : Calls Tryd.prog 5 #[.string t] w fun e w' => e = .returned (.tuple #[.agg #[.int .i64 (rfF t.data.toList).1, .int .i64 (rfF t.data.toList).2.1, .int .i64 (rfF t.data.toList).2.2], .bool (rfOk t.data.toList)]) ∧ Below w.heap.size w w' := by
  have Z0 := BX.made w 23 [.int .i64 0, .int .i64 0, .int .i64 0]
  have hB0 : BB w (w.alloc (.cells #[.int .i64 0, .int .i64 0, .int .i64 0] 23)) := BB.al (BB.start w) _
  have GX := Lib.hid G
  have sp := split_any t (w.alloc (.cells #[.int .i64 0, .int .i64 0, .int .i64 0] 23)) ht (G.bb hB0)
  have HJO := Lib.hid (fun g W => join_any t g W ht)
  have SN := Lib.hid (fun (W : World) (h : BB w W) => splitNumbers_any (mkR (joL (splL t.data.toList).tail)) W (by rw [mkR_size]; have := jo_tail t.data.toList; rw [bl_len] at this; omega) (GX.out.bb h))
  have hwpos : 0 < (wdL t.data.toList).length := by
    rw [wdL_len]
    cases h : splL t.data.toList with
    | nil => exact absurd h (splL_ne _)
    | cons x r => simp
  have HT1 := Lib.hid (fun (h : (wdL t.data.toList).length = 1) => (show (⟨#[]⟩ : ByteArray) = mkR (joL (splL t.data.toList).tail) by
    rw [wdL_len] at h
    obtain ⟨x, hx⟩ := List.length_eq_one_iff.1 h
    rw [hx]
    rfl))
  have HNU := Lib.hid (show numsL t.data.toList = (splL (joL (splL t.data.toList).tail)).mapM readD from rfl)
  have HTM := Lib.hid (bl_mk t)
  have HNN := Lib.hid (fun h => rf_none (t := t.data.toList) h)
  have HHIT := Lib.hid (fun l k hn h => rf_hit (t := t.data.toList) (l := l) (k := k) hn h)
  have HMISS := Lib.hid (fun l hn h => rf_miss (t := t.data.toList) (l := l) hn h)
  have HFY := Lib.hid (fun h => rfF_y (t := t.data.toList) h)
  have HFN := Lib.hid (fun h => rfF_n (t := t.data.toList) h)
  generalize wdL t.data.toList = wl at sp HJO hwpos HT1
  obtain ⟨JT, hJT⟩ : ∃ x, mkR (joL (splL t.data.toList).tail) = x := ⟨_, rfl⟩
  have SN2 : ∀ (W : World), BB w W → Calls Tryd.prog 12 #[.string JT, .string ⟨#[32]⟩] W fun e w' => ((∃ L A c, numsL t.data.toList = some L ∧ L ≠ [] ∧ e = .returned (.tuple #[.slice A L.length c, .bool true]) ∧ w'.ownsRow W.heap.size 2 1 (.slice A L.length c) L.length (flat fI L)) ∨ (numsL t.data.toList = none ∧ e = .returned (.tuple #[.slice none 0 0, .bool false]))) ∧ Below W.heap.size W w' := fun W h => by
    have := SN.out W h
    rw [hJT] at this
    rw [HNU.out]
    rw [← hJT] at this
    exact hJT ▸ this
  have SN2 := Lib.hid SN2
  rw [hJT] at HJO HT1
  generalize t.data.toList = tl at *
  clear SN HNU hJT G
  have hw1 : 1 ≤ wl.length := hwpos
  have hw1i : (1 : Int) ≤ (wl.length : Int) := by omega
  go_enter Tryd.func5, Tryd.ntmps5
  go_upto_region 2 with (go_at_call 11; (with_reducible refine sp.mono ?_); rintro e w1 ⟨g, rfl, hcw, hg1, hg2, hx1⟩; have Z1 := Z0.below hx1 Z0.lt; have hB1 : BB w w1 := BB.next hB0 hx1)
  have HCW := Lib.hid hcw
  have HZL := Lib.hid Z0.lt
  clear sp Z0 hB0 hx1 hcw hg1
  generalize hgz : w.heap.size = gZ at Z1 HZL ⊢
  have HGZ := Lib.hid hgz
  clear hgz
  go_cut [5, 6] (fun a b wx => ((∃ L g7 c, numsL tl = some L ∧ L ≠ [] ∧ a = .slice (some ⟨g7, 0, none⟩) L.length c ∧ b = .bool true ∧ gZ < g7 ∧ g7 < wx.heap.size ∧ Hid (∀ j, (hj : j < L.length) → wx.cell? ⟨g7, j, none⟩ = some (.int .i64 L[j]))) ∨ (numsL tl = none ∧ a = .slice none 0 0 ∧ b = .bool false)) ∧ BX wx gZ 23 [.int .i64 0, .int .i64 0, .int .i64 0] ∧ BB w wx)
  case first =>
    by_cases h1 : wl.length = 1
    · have hJ := HT1.out h1
      have JC : ∀ W : World, BB w W → Calls Tryd.prog 13 #[.slice (some ⟨g, 0, none⟩) 0 0, .string ⟨#[32]⟩] W fun e w' => e = .returned (.string JT) ∧ BB W w' := fun W hB => (Tryd.strings_Join_none (some ⟨g, 0, none⟩) 0 ⟨#[32]⟩ W).mono (by rintro e w' ⟨rfl, rfl⟩; exact ⟨by rw [hJ], BB.start _⟩)
      clear hJ HT1 HJO
      simp only [h1] at hwpos hw1 hw1i ⊢
      go_wp2_with (first
        | (go_at_call 13; (with_reducible refine (JC _ hB1).mono ?_); rintro e w2 ⟨rfl, hx2⟩; have Z2 := Z1.below hx2 Z1.lt; have hB2 : BB w w2 := BB.next hB1 hx2; have hz2 := Z2.lt)
        | (go_at_call 12; (with_reducible refine (SN2.out _ hB2).mono ?_); rintro e w3 ⟨(⟨L, A, c, hN, hne, rfl, OL⟩ | ⟨hN, rfl⟩), hx3⟩))
      · rw [← h1]
        go_meet
        have hlp : 0 < L.length := List.length_pos_iff.2 hne
        obtain ⟨g7, c7, e7, h7a, h7b⟩ := World.ownsRow.form OL hlp
        cases e7
        exact ⟨Or.inl ⟨L, g7, c, hN, hne, rfl, rfl, by omega, h7b, Lib.hid (fun j hj => own_ints OL j hj)⟩, Z2.below hx3 Z2.lt, BB.next hB2 hx3⟩
      · rw [← h1]
        go_meet
        exact ⟨Or.inr ⟨hN, rfl, rfl⟩, Z2.below hx3 Z2.lt, BB.next hB2 hx3⟩
    · have h2 : 1 < wl.length := by omega
      have JC := HJO.out g w1 HCW.out hg2 h2
      have hcl : (_ : Int) < _ := (show (1 : Int) < (wl.length : Int) by omega)
      clear HT1 HJO
      go_wp2_with (first
        | (go_at_call 13; (with_reducible refine JC.mono ?_); rintro e w2 ⟨rfl, hx2⟩; have Z2 := Z1.below hx2 Z1.lt; have hB2 : BB w w2 := BB.next hB1 hx2; have hz2 := Z2.lt)
        | (go_at_call 12; (with_reducible refine (SN2.out _ hB2).mono ?_); rintro e w3 ⟨(⟨L, A, c, hN, hne, rfl, OL⟩ | ⟨hN, rfl⟩), hx3⟩))
      · go_meet
        have hlp : 0 < L.length := List.length_pos_iff.2 hne
        obtain ⟨g7, c7, e7, h7a, h7b⟩ := World.ownsRow.form OL hlp
        cases e7
        exact ⟨Or.inl ⟨L, g7, c, hN, hne, rfl, rfl, by omega, h7b, Lib.hid (fun j hj => own_ints OL j hj)⟩, Z2.below hx3 Z2.lt, BB.next hB2 hx3⟩
      · go_meet
        exact ⟨Or.inr ⟨hN, rfl, rfl⟩, Z2.below hx3 Z2.lt, BB.next hB2 hx3⟩
  case rest =>
    obtain ⟨hd, Z, hB⟩ := hcut
    clear Z1 hB1 HCW hg2 HT1 HJO SN2 hwpos hw1 hw1i
    obtain ⟨w4, hw4⟩ : ∃ x, x = wc := ⟨_, rfl⟩
    subst hw4
    rcases hd with ⟨L, g7, c, hN, hne, rfl, rfl, hg7, hg7b, HC⟩ | ⟨hN, rfl, rfl⟩
    · have hlp : 0 < L.length := List.length_pos_iff.2 hne
      have HH := Lib.hid (fun k h => HHIT.out L k hN h)
      have HM := Lib.hid (fun h => HMISS.out L hN h)
      clear hne HHIT HMISS HNN hN
      obtain ⟨FK, hFK⟩ : ∃ F, (fun k => fk k L) = F := ⟨_, rfl⟩
      have HFK := Lib.hid (fun k => (show FK k = ((k : Int), if k = 8 then 0 else L.headD 0, if 1 < L.length then L.getD 1 0 else if k = 8 then L.headD 0 else 0) by rw [← hFK]; rfl))
      have HH := Lib.hid (show ∀ k, ftx (FK k) = tl → rfOk tl = true ∧ rfZ tl = FK k by rw [← hFK]; exact fun k h => HH.out k h)
      have HM := Lib.hid (show (∀ k : Nat, 1 ≤ k → k ≤ 8 → ftx (FK k) ≠ tl) → rfOk tl = false by rw [← hFK]; exact HM.out)
      have HC0 := Lib.hid (show w4.cell? ⟨g7, 0, none⟩ = some (.int .i64 (L.headD 0)) by rw [HC.out 0 hlp]; cases L with | nil => exact absurd hlp (by simp) | cons x r => rfl)
      have HC1 := Lib.hid (fun h : 1 < L.length => (show w4.cell? ⟨g7, 1, none⟩ = some (.int .i64 (L.getD 1 0)) by rw [HC.out 1 h, List.getD_eq_getElem?_getD, List.getElem?_eq_getElem h]; rfl))
      clear hFK HC
      generalize L.headD 0 = x0 at HFK HC0
      generalize L.getD 1 0 = x1 at HFK HC1
      generalize L.length = n at *
      have hlpi : (0 : Int) < (n : Int) := by omega
      go_wp2_with fail
      go_loopw [7] (fun i wr => ∃ k : Nat, i = .int .i64 ((k + 1 : Nat) : Int) ∧ k ≤ 8 ∧ BX wr gZ 23 [.int .i64 0, .int .i64 0, .int .i64 0] ∧ g7 < wr.heap.size ∧ Hid (wr.cell? ⟨g7, 0, none⟩ = some (.int .i64 x0)) ∧ Hid (1 < n → wr.cell? ⟨g7, 1, none⟩ = some (.int .i64 x1)) ∧ Hid (∀ j : Nat, 1 ≤ j → j ≤ k → ftx (FK j) ≠ tl) ∧ BB w wr) (fun i _ => 9 - (RowKit.intOf i).toNat)
      case atStart => exact ⟨0, rfl, by omega, Z, hg7b, HC0, HC1, Lib.hid (fun j h1 h2 => by omega), hB⟩
      case round =>
        clear Z hg7b HC0 HC1 hB
        obtain ⟨k, rfl, hk, Z, hg7b, HC0, HC1, HMS, hB⟩ := hrel
        by_cases hlt8 : k < 8
        · have hki : ((k + 1 : Nat) : Int) ≤ 8 := by omega
          have hkd : decide (((k + 1 : Nat) : Int) ≤ 8) = true := decide_eq_true hki
          have hk1 : 0 ≤ ((k + 1 : Nat) : Int) := by omega
          obtain ⟨q, hq⟩ : ∃ q, k + 1 = q := ⟨_, rfl⟩
          rw [hq] at hki hkd hk1 ⊢
          have HFQ := Lib.hid (HFK.out q)
          go_upto_region 9 with fail
          have F := BX.made wr 23 [.int .i64 (q : Int), .int .i64 0, .int .i64 0]
          have Z9 := Z.al (.cells #[.int .i64 (q : Int), .int .i64 0, .int .i64 0] 23)
          have hB9 := BB.al hB (.cells #[.int .i64 (q : Int), .int .i64 0, .int .i64 0] 23)
          have hx9 : Below wr.heap.size wr (wr.alloc (.cells #[.int .i64 (q : Int), .int .i64 0, .int .i64 0] 23)) := BB.al (BB.start wr) _
          have c0 := (Below.cell hx9 (p := ⟨g7, 0, none⟩) hg7b).trans HC0.out
          have HC19 := Lib.hid (fun h => (Below.cell hx9 (p := ⟨g7, 1, none⟩) hg7b).trans (HC1.out h))
          have hzF : gZ < wr.heap.size := Z.lt
          clear hx9 Z hB HC0 HC1
          have F : BX (wr.alloc (.cells #[.int .i64 (q : Int), .int .i64 0, .int .i64 0] 23)) wr.heap.size 23 [.int .i64 (q : Int), .int .i64 0, .int .i64 0] := F
          generalize wr.alloc (.cells #[.int .i64 (q : Int), .int .i64 0, .int .i64 0] 23) = w9 at F Z9 hB9 HC19 c0 ⊢
          generalize wr.heap.size = gF at F hg7b hzF ⊢
          have hwF : w.heap.size ≤ gF := by have := HGZ.out; omega
          have hfz := fun j => F.free j
          have f0 : (_ : Option Value) = some (.int .i64 (q : Int)) := F.cell 0 (by simp)
          have f1 : (_ : Option Value) = some (.int .i64 0) := F.cell 1 (by simp)
          have f2 : (_ : Option Value) = some (.int .i64 0) := F.cell 2 (by simp)
          by_cases h8 : q = 8
          · have q8 : ((q : Int) == 8) = true := by rw [h8]; rfl
            by_cases h1 : 1 < n
            · have HV := Lib.hid (show FK q = ((q : Int), 0, x1) by rw [HFQ.out]; simp [h8, h1])
              have c0b : (_ : Option Value) = some (.int .i64 x0) := (World.cell?_setCell_other w9 ⟨gF, 2, none⟩ ⟨g7, 0, none⟩ (.int .i64 x0) (by intro e; injection e with e1; omega)).trans c0
              have F1 := F.put 2 (.int .i64 x0)
              have Z1 := Z9.far (a := ⟨gF, 2, none⟩) (by show gZ ≠ gF; omega) (.int .i64 x0)
              have hB1 := BB.putR hB9 (a := ⟨gF, 2, none⟩) hwF (.int .i64 x0)
              have hfz1 := fun j => F1.free j
              have p0 : (_ : Option Value) = some (.int .i64 (q : Int)) := F1.cell 0 (by simp)
              have p1 : (_ : Option Value) = some (.int .i64 (0)) := F1.cell 1 (by simp)
              have p2 : (_ : Option Value) = some (.int .i64 (x0)) := F1.cell 2 (by simp)
              have HC11 := Lib.hid (fun h => (show (w9.setCell ⟨gF, 2, none⟩ (.int .i64 x0)).cell? ⟨g7, 1, none⟩ = some (.int .i64 x1) from (World.cell?_setCell_other w9 ⟨gF, 2, none⟩ ⟨g7, 1, none⟩ (.int .i64 x0) (by intro e; injection e with e1; omega)).trans (HC19.out h)))
              have hgt : decide ((1 : Int) < (n : Int)) = true := decide_eq_true (by omega)
              have h1i : (1 : Int) < (n : Int) := by omega
              have c1 := HC19.out h1
              have c1b := HC11.out h1
              have hB2 := BB.putR hB1 (a := ⟨gF, 2, none⟩) hwF (.int .i64 x1)
              have F2 := F1.put 2 (.int .i64 x1)
              have hfz2 := fun j => F2.free j
              have Z2 := Z1.far (a := ⟨gF, 2, none⟩) (by show gZ ≠ gF; omega) (.int .i64 x1)
              have c0c : (_ : Option Value) = some (.int .i64 x0) := (World.cell?_setCell_other (w9.setCell ⟨gF, 2, none⟩ (.int .i64 x0)) ⟨gF, 2, none⟩ ⟨g7, 0, none⟩ (.int .i64 x1) (by intro e; injection e with e1; omega)).trans c0b
              have HC12 := Lib.hid (fun h => (show ((w9.setCell ⟨gF, 2, none⟩ (.int .i64 x0)).setCell ⟨gF, 2, none⟩ (.int .i64 x1)).cell? ⟨g7, 1, none⟩ = some (.int .i64 x1) from (World.cell?_setCell_other _ ⟨gF, 2, none⟩ ⟨g7, 1, none⟩ (.int .i64 x1) (by intro e; injection e with e1; omega)).trans (HC11.out h)))
              clear h1 h8 HFQ
              go_upto_region 14 with fail
              have F13 : BX ((w9.setCell ⟨gF, 2, none⟩ (.int .i64 x0)).setCell ⟨gF, 2, none⟩ (.int .i64 x1)) gF 23 [.int .i64 (q : Int), .int .i64 0, .int .i64 x1] := F2
              have Z13 := Z2
              have hB13 := hB2
              have c013 := c0c
              have HC113 := HC12
              clear F2 Z2 hB2 c0c HC12 c1 c1b hfz2 h1i HC11 c0b F1 Z1 hB1 hfz1 p0 p1 p2 f0 f1 f2 hfz F Z9 hB9 c0 HC19 hgt
              generalize (w9.setCell ⟨gF, 2, none⟩ (.int .i64 x0)).setCell ⟨gF, 2, none⟩ (.int .i64 x1) = w13 at F13 Z13 hB13 c013 HC113 ⊢
              have e0 : (_ : Option Value) = some (.int .i64 (q : Int)) := F13.cell 0 (by simp)
              have e1 : (_ : Option Value) = some (.int .i64 0) := F13.cell 1 (by simp)
              have e2 : (_ : Option Value) = some (.int .i64 x1) := F13.cell 2 (by simp)
              have tx13 := impl_FeatureText_any ((q : Int)) (0) (x1) w13 (GX.out.bb hB13)
              have HCM := Lib.hid (show ((mkR (ftx ((q : Int), (0 : Int), (x1 : Int)))).toList == t.toList) = decide (ftx ((q : Int), (0 : Int), (x1 : Int)) = tl) by rw [HTM.out]; exact mkR_eq _ _)
              cases hc : decide (ftx ((q : Int), (0 : Int), (x1 : Int)) = tl)
              · have hcm : ((mkR (ftx ((q : Int), (0 : Int), (x1 : Int)))).toList == t.toList) = false := HCM.out.trans hc
                have HMQ := Lib.hid (show ftx (FK q) ≠ tl by rw [HV.out]; exact of_decide_eq_false hc)
                generalize mkR (ftx ((q : Int), (0 : Int), (x1 : Int))) = TX at tx13 hcm
                clear hc HCM HV
                go_wp2_with (go_at_call 14; (with_reducible refine tx13.mono ?_); rintro e w5 ⟨rfl, hx5⟩)
                go_roundw
                case rel => exact ⟨k + 1, by rw [hq]; go_num, by omega, Z13.below hx5 Z13.lt, by have := (F13.below hx5 F13.lt).lt; omega, Lib.hid ((Below.cell hx5 (p := ⟨g7, 0, none⟩) (by have := F13.lt; show g7 < _; omega)).trans c013), Lib.hid (fun h => (Below.cell hx5 (p := ⟨g7, 1, none⟩) (by have := F13.lt; show g7 < _; omega)).trans (HC113.out h)), Lib.hid (fun j h1 h2 => (show j ≤ k ∨ j = q by omega).elim (fun h => HMS.out j h1 h) (fun h => h ▸ HMQ.out)), BB.next hB13 hx5⟩
                case measure => simp [RowKit.intOf]; omega
              · have hcm : ((mkR (ftx ((q : Int), (0 : Int), (x1 : Int)))).toList == t.toList) = true := HCM.out.trans hc
                have hgood := HH.out q (by rw [HV.out]; exact of_decide_eq_true hc)
                have HR := Lib.hid (show rfOk tl = true ∧ rfF tl = ((q : Int), (0 : Int), (x1 : Int)) from ⟨hgood.1, by rw [HFY.out hgood.1, hgood.2, HV.out]⟩)
                generalize mkR (ftx ((q : Int), (0 : Int), (x1 : Int))) = TX at tx13 hcm
                clear hc HCM HV hgood
                go_wp2_with (go_at_call 14; (with_reducible refine tx13.mono ?_); rintro e w5 ⟨rfl, hx5⟩; have F5 := F13.below hx5 F13.lt; have Z5 := Z13.below hx5 Z13.lt; have hB5 : BB w w5 := BB.next hB13 hx5; have y0 : (_ : Option Value) = some (.int .i64 (q : Int)) := F5.cell 0 (by simp); have y1 : (_ : Option Value) = some (.int .i64 0) := F5.cell 1 (by simp); have y2 : (_ : Option Value) = some (.int .i64 x1) := F5.cell 2 (by simp); have z0 : (_ : Option Value) = some (.int .i64 0) := Z5.cell 0 (by simp); have z1 : (_ : Option Value) = some (.int .i64 0) := Z5.cell 1 (by simp); have z2 : (_ : Option Value) = some (.int .i64 0) := Z5.cell 2 (by simp); have hfz := fun j => Z5.free j)
                have hne9 : gF ≠ gZ := by omega
                refine bodyPost_ret (v := .tuple #[.agg #[.int .i64 (q : Int), .int .i64 0, .int .i64 x1], .bool true]) (by simp [results, Tryd.results5, go_sem, World.cell?_setCell_other, z0, z1, z2]) rfl ⟨by rw [HR.out.1, HR.out.2], ?_⟩
                exact bb3 HGZ.out hB5 _ _ _
            · have HV := Lib.hid (show FK q = ((q : Int), 0, x0) by rw [HFQ.out]; simp [h8, h1])
              have c0b : (_ : Option Value) = some (.int .i64 x0) := (World.cell?_setCell_other w9 ⟨gF, 2, none⟩ ⟨g7, 0, none⟩ (.int .i64 x0) (by intro e; injection e with e1; omega)).trans c0
              have F1 := F.put 2 (.int .i64 x0)
              have Z1 := Z9.far (a := ⟨gF, 2, none⟩) (by show gZ ≠ gF; omega) (.int .i64 x0)
              have hB1 := BB.putR hB9 (a := ⟨gF, 2, none⟩) hwF (.int .i64 x0)
              have hfz1 := fun j => F1.free j
              have p0 : (_ : Option Value) = some (.int .i64 (q : Int)) := F1.cell 0 (by simp)
              have p1 : (_ : Option Value) = some (.int .i64 (0)) := F1.cell 1 (by simp)
              have p2 : (_ : Option Value) = some (.int .i64 (x0)) := F1.cell 2 (by simp)
              have HC11 := Lib.hid (fun h => (show (w9.setCell ⟨gF, 2, none⟩ (.int .i64 x0)).cell? ⟨g7, 1, none⟩ = some (.int .i64 x1) from (World.cell?_setCell_other w9 ⟨gF, 2, none⟩ ⟨g7, 1, none⟩ (.int .i64 x0) (by intro e; injection e with e1; omega)).trans (HC19.out h)))
              have hgt : decide ((1 : Int) < (n : Int)) = false := decide_eq_false (by omega)
              clear h1 h8 HFQ
              go_upto_region 14 with fail
              have F13 : BX (w9.setCell ⟨gF, 2, none⟩ (.int .i64 x0)) gF 23 [.int .i64 (q : Int), .int .i64 0, .int .i64 x0] := F1
              have Z13 := Z1
              have hB13 := hB1
              have c013 := c0b
              have HC113 := HC11
              clear HC11 c0b F1 Z1 hB1 hfz1 p0 p1 p2 f0 f1 f2 hfz F Z9 hB9 c0 HC19 hgt
              generalize w9.setCell ⟨gF, 2, none⟩ (.int .i64 x0) = w13 at F13 Z13 hB13 c013 HC113 ⊢
              have e0 : (_ : Option Value) = some (.int .i64 (q : Int)) := F13.cell 0 (by simp)
              have e1 : (_ : Option Value) = some (.int .i64 0) := F13.cell 1 (by simp)
              have e2 : (_ : Option Value) = some (.int .i64 x0) := F13.cell 2 (by simp)
              have tx13 := impl_FeatureText_any ((q : Int)) (0) (x0) w13 (GX.out.bb hB13)
              have HCM := Lib.hid (show ((mkR (ftx ((q : Int), (0 : Int), (x0 : Int)))).toList == t.toList) = decide (ftx ((q : Int), (0 : Int), (x0 : Int)) = tl) by rw [HTM.out]; exact mkR_eq _ _)
              cases hc : decide (ftx ((q : Int), (0 : Int), (x0 : Int)) = tl)
              · have hcm : ((mkR (ftx ((q : Int), (0 : Int), (x0 : Int)))).toList == t.toList) = false := HCM.out.trans hc
                have HMQ := Lib.hid (show ftx (FK q) ≠ tl by rw [HV.out]; exact of_decide_eq_false hc)
                generalize mkR (ftx ((q : Int), (0 : Int), (x0 : Int))) = TX at tx13 hcm
                clear hc HCM HV
                go_wp2_with (go_at_call 14; (with_reducible refine tx13.mono ?_); rintro e w5 ⟨rfl, hx5⟩)
                go_roundw
                case rel => exact ⟨k + 1, by rw [hq]; go_num, by omega, Z13.below hx5 Z13.lt, by have := (F13.below hx5 F13.lt).lt; omega, Lib.hid ((Below.cell hx5 (p := ⟨g7, 0, none⟩) (by have := F13.lt; show g7 < _; omega)).trans c013), Lib.hid (fun h => (Below.cell hx5 (p := ⟨g7, 1, none⟩) (by have := F13.lt; show g7 < _; omega)).trans (HC113.out h)), Lib.hid (fun j h1 h2 => (show j ≤ k ∨ j = q by omega).elim (fun h => HMS.out j h1 h) (fun h => h ▸ HMQ.out)), BB.next hB13 hx5⟩
                case measure => simp [RowKit.intOf]; omega
              · have hcm : ((mkR (ftx ((q : Int), (0 : Int), (x0 : Int)))).toList == t.toList) = true := HCM.out.trans hc
                have hgood := HH.out q (by rw [HV.out]; exact of_decide_eq_true hc)
                have HR := Lib.hid (show rfOk tl = true ∧ rfF tl = ((q : Int), (0 : Int), (x0 : Int)) from ⟨hgood.1, by rw [HFY.out hgood.1, hgood.2, HV.out]⟩)
                generalize mkR (ftx ((q : Int), (0 : Int), (x0 : Int))) = TX at tx13 hcm
                clear hc HCM HV hgood
                go_wp2_with (go_at_call 14; (with_reducible refine tx13.mono ?_); rintro e w5 ⟨rfl, hx5⟩; have F5 := F13.below hx5 F13.lt; have Z5 := Z13.below hx5 Z13.lt; have hB5 : BB w w5 := BB.next hB13 hx5; have y0 : (_ : Option Value) = some (.int .i64 (q : Int)) := F5.cell 0 (by simp); have y1 : (_ : Option Value) = some (.int .i64 0) := F5.cell 1 (by simp); have y2 : (_ : Option Value) = some (.int .i64 x0) := F5.cell 2 (by simp); have z0 : (_ : Option Value) = some (.int .i64 0) := Z5.cell 0 (by simp); have z1 : (_ : Option Value) = some (.int .i64 0) := Z5.cell 1 (by simp); have z2 : (_ : Option Value) = some (.int .i64 0) := Z5.cell 2 (by simp); have hfz := fun j => Z5.free j)
                have hne9 : gF ≠ gZ := by omega
                refine bodyPost_ret (v := .tuple #[.agg #[.int .i64 (q : Int), .int .i64 0, .int .i64 x0], .bool true]) (by simp [results, Tryd.results5, go_sem, World.cell?_setCell_other, z0, z1, z2]) rfl ⟨by rw [HR.out.1, HR.out.2], ?_⟩
                exact bb3 HGZ.out hB5 _ _ _
          · have q8 : ((q : Int) == 8) = false := by rw [beq_eq_false_iff_ne]; omega
            by_cases h1 : 1 < n
            · have HV := Lib.hid (show FK q = ((q : Int), x0, x1) by rw [HFQ.out]; simp [h8, h1])
              have c0b : (_ : Option Value) = some (.int .i64 x0) := (World.cell?_setCell_other w9 ⟨gF, 1, none⟩ ⟨g7, 0, none⟩ (.int .i64 x0) (by intro e; injection e with e1; omega)).trans c0
              have F1 := F.put 1 (.int .i64 x0)
              have Z1 := Z9.far (a := ⟨gF, 1, none⟩) (by show gZ ≠ gF; omega) (.int .i64 x0)
              have hB1 := BB.putR hB9 (a := ⟨gF, 1, none⟩) hwF (.int .i64 x0)
              have hfz1 := fun j => F1.free j
              have p0 : (_ : Option Value) = some (.int .i64 (q : Int)) := F1.cell 0 (by simp)
              have p1 : (_ : Option Value) = some (.int .i64 (x0)) := F1.cell 1 (by simp)
              have p2 : (_ : Option Value) = some (.int .i64 (0)) := F1.cell 2 (by simp)
              have HC11 := Lib.hid (fun h => (show (w9.setCell ⟨gF, 1, none⟩ (.int .i64 x0)).cell? ⟨g7, 1, none⟩ = some (.int .i64 x1) from (World.cell?_setCell_other w9 ⟨gF, 1, none⟩ ⟨g7, 1, none⟩ (.int .i64 x0) (by intro e; injection e with e1; omega)).trans (HC19.out h)))
              have hgt : decide ((1 : Int) < (n : Int)) = true := decide_eq_true (by omega)
              have h1i : (1 : Int) < (n : Int) := by omega
              have c1 := HC19.out h1
              have c1b := HC11.out h1
              have hB2 := BB.putR hB1 (a := ⟨gF, 2, none⟩) hwF (.int .i64 x1)
              have F2 := F1.put 2 (.int .i64 x1)
              have hfz2 := fun j => F2.free j
              have Z2 := Z1.far (a := ⟨gF, 2, none⟩) (by show gZ ≠ gF; omega) (.int .i64 x1)
              have c0c : (_ : Option Value) = some (.int .i64 x0) := (World.cell?_setCell_other (w9.setCell ⟨gF, 1, none⟩ (.int .i64 x0)) ⟨gF, 2, none⟩ ⟨g7, 0, none⟩ (.int .i64 x1) (by intro e; injection e with e1; omega)).trans c0b
              have HC12 := Lib.hid (fun h => (show ((w9.setCell ⟨gF, 1, none⟩ (.int .i64 x0)).setCell ⟨gF, 2, none⟩ (.int .i64 x1)).cell? ⟨g7, 1, none⟩ = some (.int .i64 x1) from (World.cell?_setCell_other _ ⟨gF, 2, none⟩ ⟨g7, 1, none⟩ (.int .i64 x1) (by intro e; injection e with e1; omega)).trans (HC11.out h)))
              clear h1 h8 HFQ
              go_upto_region 14 with fail
              have F13 : BX ((w9.setCell ⟨gF, 1, none⟩ (.int .i64 x0)).setCell ⟨gF, 2, none⟩ (.int .i64 x1)) gF 23 [.int .i64 (q : Int), .int .i64 x0, .int .i64 x1] := F2
              have Z13 := Z2
              have hB13 := hB2
              have c013 := c0c
              have HC113 := HC12
              clear F2 Z2 hB2 c0c HC12 c1 c1b hfz2 h1i HC11 c0b F1 Z1 hB1 hfz1 p0 p1 p2 f0 f1 f2 hfz F Z9 hB9 c0 HC19 hgt
              generalize (w9.setCell ⟨gF, 1, none⟩ (.int .i64 x0)).setCell ⟨gF, 2, none⟩ (.int .i64 x1) = w13 at F13 Z13 hB13 c013 HC113 ⊢
              have e0 : (_ : Option Value) = some (.int .i64 (q : Int)) := F13.cell 0 (by simp)
              have e1 : (_ : Option Value) = some (.int .i64 x0) := F13.cell 1 (by simp)
              have e2 : (_ : Option Value) = some (.int .i64 x1) := F13.cell 2 (by simp)
              have tx13 := impl_FeatureText_any ((q : Int)) (x0) (x1) w13 (GX.out.bb hB13)
              have HCM := Lib.hid (show ((mkR (ftx ((q : Int), (x0 : Int), (x1 : Int)))).toList == t.toList) = decide (ftx ((q : Int), (x0 : Int), (x1 : Int)) = tl) by rw [HTM.out]; exact mkR_eq _ _)
              cases hc : decide (ftx ((q : Int), (x0 : Int), (x1 : Int)) = tl)
              · have hcm : ((mkR (ftx ((q : Int), (x0 : Int), (x1 : Int)))).toList == t.toList) = false := HCM.out.trans hc
                have HMQ := Lib.hid (show ftx (FK q) ≠ tl by rw [HV.out]; exact of_decide_eq_false hc)
                generalize mkR (ftx ((q : Int), (x0 : Int), (x1 : Int))) = TX at tx13 hcm
                clear hc HCM HV
                go_wp2_with (go_at_call 14; (with_reducible refine tx13.mono ?_); rintro e w5 ⟨rfl, hx5⟩)
                go_roundw
                case rel => exact ⟨k + 1, by rw [hq]; go_num, by omega, Z13.below hx5 Z13.lt, by have := (F13.below hx5 F13.lt).lt; omega, Lib.hid ((Below.cell hx5 (p := ⟨g7, 0, none⟩) (by have := F13.lt; show g7 < _; omega)).trans c013), Lib.hid (fun h => (Below.cell hx5 (p := ⟨g7, 1, none⟩) (by have := F13.lt; show g7 < _; omega)).trans (HC113.out h)), Lib.hid (fun j h1 h2 => (show j ≤ k ∨ j = q by omega).elim (fun h => HMS.out j h1 h) (fun h => h ▸ HMQ.out)), BB.next hB13 hx5⟩
                case measure => simp [RowKit.intOf]; omega
              · have hcm : ((mkR (ftx ((q : Int), (x0 : Int), (x1 : Int)))).toList == t.toList) = true := HCM.out.trans hc
                have hgood := HH.out q (by rw [HV.out]; exact of_decide_eq_true hc)
                have HR := Lib.hid (show rfOk tl = true ∧ rfF tl = ((q : Int), (x0 : Int), (x1 : Int)) from ⟨hgood.1, by rw [HFY.out hgood.1, hgood.2, HV.out]⟩)
                generalize mkR (ftx ((q : Int), (x0 : Int), (x1 : Int))) = TX at tx13 hcm
                clear hc HCM HV hgood
                go_wp2_with (go_at_call 14; (with_reducible refine tx13.mono ?_); rintro e w5 ⟨rfl, hx5⟩; have F5 := F13.below hx5 F13.lt; have Z5 := Z13.below hx5 Z13.lt; have hB5 : BB w w5 := BB.next hB13 hx5; have y0 : (_ : Option Value) = some (.int .i64 (q : Int)) := F5.cell 0 (by simp); have y1 : (_ : Option Value) = some (.int .i64 x0) := F5.cell 1 (by simp); have y2 : (_ : Option Value) = some (.int .i64 x1) := F5.cell 2 (by simp); have z0 : (_ : Option Value) = some (.int .i64 0) := Z5.cell 0 (by simp); have z1 : (_ : Option Value) = some (.int .i64 0) := Z5.cell 1 (by simp); have z2 : (_ : Option Value) = some (.int .i64 0) := Z5.cell 2 (by simp); have hfz := fun j => Z5.free j)
                have hne9 : gF ≠ gZ := by omega
                refine bodyPost_ret (v := .tuple #[.agg #[.int .i64 (q : Int), .int .i64 x0, .int .i64 x1], .bool true]) (by simp [results, Tryd.results5, go_sem, World.cell?_setCell_other, z0, z1, z2]) rfl ⟨by rw [HR.out.1, HR.out.2], ?_⟩
                exact bb3 HGZ.out hB5 _ _ _
            · have HV := Lib.hid (show FK q = ((q : Int), x0, 0) by rw [HFQ.out]; simp [h8, h1])
              have c0b : (_ : Option Value) = some (.int .i64 x0) := (World.cell?_setCell_other w9 ⟨gF, 1, none⟩ ⟨g7, 0, none⟩ (.int .i64 x0) (by intro e; injection e with e1; omega)).trans c0
              have F1 := F.put 1 (.int .i64 x0)
              have Z1 := Z9.far (a := ⟨gF, 1, none⟩) (by show gZ ≠ gF; omega) (.int .i64 x0)
              have hB1 := BB.putR hB9 (a := ⟨gF, 1, none⟩) hwF (.int .i64 x0)
              have hfz1 := fun j => F1.free j
              have p0 : (_ : Option Value) = some (.int .i64 (q : Int)) := F1.cell 0 (by simp)
              have p1 : (_ : Option Value) = some (.int .i64 (x0)) := F1.cell 1 (by simp)
              have p2 : (_ : Option Value) = some (.int .i64 (0)) := F1.cell 2 (by simp)
              have HC11 := Lib.hid (fun h => (show (w9.setCell ⟨gF, 1, none⟩ (.int .i64 x0)).cell? ⟨g7, 1, none⟩ = some (.int .i64 x1) from (World.cell?_setCell_other w9 ⟨gF, 1, none⟩ ⟨g7, 1, none⟩ (.int .i64 x0) (by intro e; injection e with e1; omega)).trans (HC19.out h)))
              have hgt : decide ((1 : Int) < (n : Int)) = false := decide_eq_false (by omega)
              clear h1 h8 HFQ
              go_upto_region 14 with fail
              have F13 : BX (w9.setCell ⟨gF, 1, none⟩ (.int .i64 x0)) gF 23 [.int .i64 (q : Int), .int .i64 x0, .int .i64 0] := F1
              have Z13 := Z1
              have hB13 := hB1
              have c013 := c0b
              have HC113 := HC11
              clear HC11 c0b F1 Z1 hB1 hfz1 p0 p1 p2 f0 f1 f2 hfz F Z9 hB9 c0 HC19 hgt
              generalize w9.setCell ⟨gF, 1, none⟩ (.int .i64 x0) = w13 at F13 Z13 hB13 c013 HC113 ⊢
              have e0 : (_ : Option Value) = some (.int .i64 (q : Int)) := F13.cell 0 (by simp)
              have e1 : (_ : Option Value) = some (.int .i64 x0) := F13.cell 1 (by simp)
              have e2 : (_ : Option Value) = some (.int .i64 0) := F13.cell 2 (by simp)
              have tx13 := impl_FeatureText_any ((q : Int)) (x0) (0) w13 (GX.out.bb hB13)
              have HCM := Lib.hid (show ((mkR (ftx ((q : Int), (x0 : Int), (0 : Int)))).toList == t.toList) = decide (ftx ((q : Int), (x0 : Int), (0 : Int)) = tl) by rw [HTM.out]; exact mkR_eq _ _)
              cases hc : decide (ftx ((q : Int), (x0 : Int), (0 : Int)) = tl)
              · have hcm : ((mkR (ftx ((q : Int), (x0 : Int), (0 : Int)))).toList == t.toList) = false := HCM.out.trans hc
                have HMQ := Lib.hid (show ftx (FK q) ≠ tl by rw [HV.out]; exact of_decide_eq_false hc)
                generalize mkR (ftx ((q : Int), (x0 : Int), (0 : Int))) = TX at tx13 hcm
                clear hc HCM HV
                go_wp2_with (go_at_call 14; (with_reducible refine tx13.mono ?_); rintro e w5 ⟨rfl, hx5⟩)
                go_roundw
                case rel => exact ⟨k + 1, by rw [hq]; go_num, by omega, Z13.below hx5 Z13.lt, by have := (F13.below hx5 F13.lt).lt; omega, Lib.hid ((Below.cell hx5 (p := ⟨g7, 0, none⟩) (by have := F13.lt; show g7 < _; omega)).trans c013), Lib.hid (fun h => (Below.cell hx5 (p := ⟨g7, 1, none⟩) (by have := F13.lt; show g7 < _; omega)).trans (HC113.out h)), Lib.hid (fun j h1 h2 => (show j ≤ k ∨ j = q by omega).elim (fun h => HMS.out j h1 h) (fun h => h ▸ HMQ.out)), BB.next hB13 hx5⟩
                case measure => simp [RowKit.intOf]; omega
              · have hcm : ((mkR (ftx ((q : Int), (x0 : Int), (0 : Int)))).toList == t.toList) = true := HCM.out.trans hc
                have hgood := HH.out q (by rw [HV.out]; exact of_decide_eq_true hc)
                have HR := Lib.hid (show rfOk tl = true ∧ rfF tl = ((q : Int), (x0 : Int), (0 : Int)) from ⟨hgood.1, by rw [HFY.out hgood.1, hgood.2, HV.out]⟩)
                generalize mkR (ftx ((q : Int), (x0 : Int), (0 : Int))) = TX at tx13 hcm
                clear hc HCM HV hgood
                go_wp2_with (go_at_call 14; (with_reducible refine tx13.mono ?_); rintro e w5 ⟨rfl, hx5⟩; have F5 := F13.below hx5 F13.lt; have Z5 := Z13.below hx5 Z13.lt; have hB5 : BB w w5 := BB.next hB13 hx5; have y0 : (_ : Option Value) = some (.int .i64 (q : Int)) := F5.cell 0 (by simp); have y1 : (_ : Option Value) = some (.int .i64 x0) := F5.cell 1 (by simp); have y2 : (_ : Option Value) = some (.int .i64 0) := F5.cell 2 (by simp); have z0 : (_ : Option Value) = some (.int .i64 0) := Z5.cell 0 (by simp); have z1 : (_ : Option Value) = some (.int .i64 0) := Z5.cell 1 (by simp); have z2 : (_ : Option Value) = some (.int .i64 0) := Z5.cell 2 (by simp); have hfz := fun j => Z5.free j)
                have hne9 : gF ≠ gZ := by omega
                refine bodyPost_ret (v := .tuple #[.agg #[.int .i64 (q : Int), .int .i64 x0, .int .i64 0], .bool true]) (by simp [results, Tryd.results5, go_sem, World.cell?_setCell_other, z0, z1, z2]) rfl ⟨by rw [HR.out.1, HR.out.2], ?_⟩
                exact bb3 HGZ.out hB5 _ _ _
        · have hk8 : k = 8 := by omega
          subst hk8
          have hbad := HM.out HMS.out
          have HR := Lib.hid (And.intro hbad (HFN.out hbad))
          have z0 : (_ : Option Value) = some (.int .i64 0) := Z.cell 0 (by simp)
          have z1 : (_ : Option Value) = some (.int .i64 0) := Z.cell 1 (by simp)
          have z2 : (_ : Option Value) = some (.int .i64 0) := Z.cell 2 (by simp)
          have hfz := fun j => Z.free j
          clear hbad
          go_wp2_with fail
          refine bodyPost_ret (v := .tuple #[.agg #[.int .i64 0, .int .i64 0, .int .i64 0], .bool false]) (by simp [results, Tryd.results5, go_sem, World.cell?_setCell_other, z0, z1, z2]) rfl ⟨by rw [HR.out.1, HR.out.2], ?_⟩
          exact bb3 HGZ.out hB _ _ _
    · have hbad := HNN.out hN
      have HR := Lib.hid (And.intro hbad (HFN.out hbad))
      have z0 : (_ : Option Value) = some (.int .i64 0) := Z.cell 0 (by simp)
      have z1 : (_ : Option Value) = some (.int .i64 0) := Z.cell 1 (by simp)
      have z2 : (_ : Option Value) = some (.int .i64 0) := Z.cell 2 (by simp)
      have hfz := fun j => Z.free j
      clear hbad hN
      go_wp2_with fail
      refine bodyPost_ret (v := .tuple #[.agg #[.int .i64 0, .int .i64 0, .int .i64 0], .bool false]) (by simp [results, Tryd.results5, go_sem, World.cell?_setCell_other, z0, z1, z2]) rfl ⟨by rw [HR.out.1, HR.out.2], ?_⟩
      exact bb3 HGZ.out hB _ _ _
end Go.Proofs.YtjcghghhpmghhaaDoor
