/- Walks: the image of a container (spec). -/
import Derived.Test.YtjjcedodjoieoaaDecM
import Derived.Test.YtjjcedodjoieoaaW118
import Derived.Test.YtjjcedodjoieoaaW120
namespace Go.Proofs.Ytjjcedodjoieoaa
open Go.RowKit
set_option linter.unusedVariables false

set_option maxRecDepth 100000 in
set_option maxHeartbeats 4000000 in
theorem l13Decode_any (t : ByteArray) (w : World) (ht : t.size ≤ 1048576) :
    Calls Try.prog 33 #[.string t] w fun e w' => ∃ v u, e = .returned (.tuple #[.agg #[.int .i64 (imD (decR t)).c, .int .i64 (imD (decR t)).h, .int .i64 (imD (decR t)).p, .int .i64 (imD (decR t)).s, v, u], .int .i64 (decC t)]) ∧ w'.ownsRow w.heap.size 90 2 v (imD (decR t)).l.length (flat fSector (imD (decR t)).l) ∧ w'.ownsRow w.heap.size 9 1 u (imD (decR t)).n.length (flat fS (imD (decR t)).n) ∧ (v.ownBlock = none ∨ v.ownBlock ≠ u.ownBlock) ∧ Below w.heap.size w w' := by
  have Z : BX (w.alloc (.cells #[.int .i64 0, .int .i64 0, .int .i64 0, .int .i64 0, .slice none 0 0, .slice none 0 0] 27)) w.heap.size 27 [.int .i64 0, .int .i64 0, .int .i64 0, .int .i64 0, .slice none 0 0, .slice none 0 0] := BX.made w 27 [.int .i64 0, .int .i64 0, .int .i64 0, .int .i64 0, .slice none 0 0, .slice none 0 0]
  have hB : BB w (w.alloc (.cells #[.int .i64 0, .int .i64 0, .int .i64 0, .int .i64 0, .slice none 0 0, .slice none 0 0] 27)) := (show Below w.heap.size w (w.alloc (.cells #[.int .i64 0, .int .i64 0, .int .i64 0, .int .i64 0, .slice none 0 0, .slice none 0 0] 27)) from (by with_reducible repeat (first | exact Below.refl _ _ | assumption | refine below_step ?_ (by assumption) | refine Below.drew ?_ | refine below_drewN ?_ _ | refine below_alloc ?_ _ | refine Below.setCell ?_ (by simp; try omega) _)))
  by_cases hbig : 8192 < t.size
  · have HD := Lib.hid (dec_1 hbig)
    have hbi : (8192 : Int) < (t.size : Int) := by omega
    clear hbig
    go_enter Try.func33, Try.ntmps33
    go_wp2_with fail
    generalize (w.alloc (.cells #[.int .i64 0, .int .i64 0, .int .i64 0, .int .i64 0, .slice none 0 0, .slice none 0 0] 27)) = wz at *
    have hb2 : Below w.heap.size w _ := hB
    have z0 : (_ : Option Value) = some (.int .i64 0) := Z.cell 0 (by simp)
    have z1 : (_ : Option Value) = some (.int .i64 0) := Z.cell 1 (by simp)
    have z2 : (_ : Option Value) = some (.int .i64 0) := Z.cell 2 (by simp)
    have z3 : (_ : Option Value) = some (.int .i64 0) := Z.cell 3 (by simp)
    have z4 : (_ : Option Value) = some (.slice none 0 0) := Z.cell 4 (by simp)
    have z5 : (_ : Option Value) = some (.slice none 0 0) := Z.cell 5 (by simp)
    have hfz := fun j => Z.free j
    go_wp2
    refine bodyPost_ret (v := .tuple #[.agg #[.int .i64 0, .int .i64 0, .int .i64 0, .int .i64 0, .slice none 0 0, .slice none 0 0], .int .i64 5]) (by simp [results, Try.results33, go_sem, z0, z1, z2, z3, z4, z5]) rfl ⟨.slice none 0 0, .slice none 0 0, by rw [HD.out.1, HD.out.2]; rfl, by rw [HD.out.1]; exact World.ownsRow_nil _ _ _ _, by rw [HD.out.1]; exact World.ownsRow_nil _ _ _ _, .inl rfl, (by with_reducible repeat (first | exact Below.refl _ _ | assumption | refine below_step ?_ (by assumption) | refine Below.drew ?_ | refine below_drewN ?_ _ | refine below_alloc ?_ _ | refine Below.setCell ?_ (by simp; try omega) _))⟩
  have hbi : ¬ (8192 : Int) < (t.size : Int) := by omega
  have hdk := fun W => spec_DecodeChunks_any t W ht
  by_cases hn : dkN t = t.size
  rotate_left
  · have HD := Lib.hid (dec_2 hbig hn)
    have hne : (((dkN t : Nat) : Int) != (t.size : Int)) = true := by simpa using (by omega : ¬ ((dkN t : Nat) : Int) = (t.size : Int))
    generalize dkN t = N at hdk hne
    clear hbig hn
    go_enter Try.func33, Try.ntmps33
    go_wp2_with (go_at_call 42; refine (hdk _).mono ?_; rintro e w1 ⟨v1, rfl, ho1, hx1⟩; replace Z := Z.below hx1 Z.lt; replace hB : BB w _ := BB.next hB hx1; obtain ⟨A1, c1, rfl⟩ := own_form ho1; have hb2 : Below w.heap.size w _ := hB; have z0 : (_ : Option Value) = some (.int .i64 0) := Z.cell 0 (by simp); have z1 : (_ : Option Value) = some (.int .i64 0) := Z.cell 1 (by simp); have z2 : (_ : Option Value) = some (.int .i64 0) := Z.cell 2 (by simp); have z3 : (_ : Option Value) = some (.int .i64 0) := Z.cell 3 (by simp); have z4 : (_ : Option Value) = some (.slice none 0 0) := Z.cell 4 (by simp); have z5 : (_ : Option Value) = some (.slice none 0 0) := Z.cell 5 (by simp); have hfz := fun j => Z.free j)
    refine bodyPost_ret (v := .tuple #[.agg #[.int .i64 0, .int .i64 0, .int .i64 0, .int .i64 0, .slice none 0 0, .slice none 0 0], .int .i64 8]) (by simp [results, Try.results33, go_sem, World.cell?_setCell_other, z0, z1, z2, z3, z4, z5]) rfl ⟨.slice none 0 0, .slice none 0 0, by rw [HD.out.1, HD.out.2]; rfl, by rw [HD.out.1]; exact World.ownsRow_nil _ _ _ _, by rw [HD.out.1]; exact World.ownsRow_nil _ _ _ _, .inl rfl, (by with_reducible repeat (first | exact Below.refl _ _ | assumption | refine below_step ?_ (by assumption) | refine Below.drew ?_ | refine below_drewN ?_ _ | refine below_alloc ?_ _ | refine Below.setCell ?_ (by simp; try omega) _))⟩
  have hneN : (((dkN t : Nat) : Int) != (t.size : Int)) = false := by simp [hn]
  have HD3 := Lib.hid (fun (i : imgOf (dkL t) = none) => dec_3 hbig hn i)
  have HD4 := Lib.hid (fun (x : Im) (i : imgOf (dkL t) = some x) => dec_4 hbig hn i)
  have hL40 := dkL_len t
  have hLin := dkL_in t
  generalize dkL t = L at *
  generalize dkN t = N at hdk hneN
  clear hbig hn
  by_cases h2 : 2 ≤ L.length
  rotate_left
  · have HD := Lib.hid (HD3.out (imgOf_1 h2))
    have hlt : (L.length : Int) < 2 := by omega
    go_enter Try.func33, Try.ntmps33
    go_wp2_with (go_at_call 42; refine (hdk _).mono ?_; rintro e w1 ⟨v1, rfl, ho1, hx1⟩; replace Z := Z.below hx1 Z.lt; replace hB : BB w _ := BB.next hB hx1; obtain ⟨A1, c1, rfl⟩ := own_form ho1; have hb2 : Below w.heap.size w _ := hB; have z0 : (_ : Option Value) = some (.int .i64 0) := Z.cell 0 (by simp); have z1 : (_ : Option Value) = some (.int .i64 0) := Z.cell 1 (by simp); have z2 : (_ : Option Value) = some (.int .i64 0) := Z.cell 2 (by simp); have z3 : (_ : Option Value) = some (.int .i64 0) := Z.cell 3 (by simp); have z4 : (_ : Option Value) = some (.slice none 0 0) := Z.cell 4 (by simp); have z5 : (_ : Option Value) = some (.slice none 0 0) := Z.cell 5 (by simp); have hfz := fun j => Z.free j)
    refine bodyPost_ret (v := .tuple #[.agg #[.int .i64 0, .int .i64 0, .int .i64 0, .int .i64 0, .slice none 0 0, .slice none 0 0], .int .i64 7]) (by simp [results, Try.results33, go_sem, World.cell?_setCell_other, z0, z1, z2, z3, z4, z5]) rfl ⟨.slice none 0 0, .slice none 0 0, by rw [HD.out.1, HD.out.2]; rfl, by rw [HD.out.1]; exact World.ownsRow_nil _ _ _ _, by rw [HD.out.1]; exact World.ownsRow_nil _ _ _ _, .inl rfl, (by with_reducible repeat (first | exact Below.refl _ _ | assumption | refine below_step ?_ (by assumption) | refine Below.drew ?_ | refine below_drewN ?_ _ | refine below_alloc ?_ _ | refine Below.setCell ?_ (by simp; try omega) _))⟩
  have hlt : ¬ (L.length : Int) < 2 := by omega
  have hpos : 0 < L.length := by omega
  have hposi : (0 : Int) < (L.length : Int) := by omega
  obtain ⟨m, hm⟩ : ∃ m, L.length - 1 = m := ⟨_, rfl⟩
  have hwm : IntKind.i64.wrap ((L.length : Int) - 1) = (m : Int) := by rw [show (L.length : Int) - 1 = (m : Int) by omega]; exact IntWalk.i64_in _ (by omega)
  have hmL : m < L.length := by omega
  have hmLi : (m : Int) < (L.length : Int) := by omega
  have h3 := imgOf_3 h2
  have h22 := imgOf_2 h2
  have h4 := imgOf_4 h2
  have hkl := mid_len (L := L)
  have hmid := fun k h => mid_get (L := L) (k := k) h
  have hd0 := hLin L[0] (List.getElem_mem hpos)
  have HM := Lib.hid hm
  have e4 : L[L.length - 1] = L[m] := by congr 1
  rw [e4] at h3 h4
  have hr0 := fun {w1 : World} {base g1 c1 : Nat} (h : w1.ownsRow base 47 2 (.slice (some ⟨g1, 0, none⟩) L.length c1) L.length (flat fChunk L)) => row_cells h 0 hpos
  have hrm := fun {w1 : World} {base g1 c1 : Nat} (h : w1.ownsRow base 47 2 (.slice (some ⟨g1, 0, none⟩) L.length c1) L.length (flat fChunk L)) => row_cells h m hmL
  obtain ⟨⟨k0, d0⟩, hx0⟩ : ∃ x, L[0] = x := ⟨_, rfl⟩
  obtain ⟨⟨km, dm⟩, hxm⟩ : ∃ x, L[m] = x := ⟨_, rfl⟩
  rw [hx0] at h22 h4 hd0 hr0
  rw [hxm] at h3 h4 hrm
  simp only [Nat.zero_mul, Nat.zero_add] at h22 h4 hd0 hr0 h3 hrm
  have HXM := Lib.hid hxm
  have hLin2 : ∀ x ∈ L, x.f1.size ≤ 1048576 := fun x hx => Nat.le_trans (hLin x hx) ht
  clear e4 hx0 hxm hm hLin
  by_cases hg3 : km = 4 ∧ dm.size = 0
  rotate_left
  · have HD := Lib.hid (HD3.out (h3 hg3))
    by_cases hk4 : km = 4
    · have hb4 : (km != 4) = false := by simp [hk4]
      have hdm := str_some (fun h => hg3 ⟨hk4, h⟩)
      clear hg3 hk4 h3 h22 h4 hmid
      go_enter Try.func33, Try.ntmps33
      go_wp2_with (go_at_call 42; refine (hdk _).mono ?_; rintro e w1 ⟨v1, rfl, ho1, hx1⟩; replace Z := Z.below hx1 Z.lt; replace hB : BB w _ := BB.next hB hx1; obtain ⟨g1, c1, hv⟩ := Go.Joins.ownsRow_form ho1 hpos; cases hv; obtain ⟨a0, a1⟩ := hrm ho1; have hb2 : Below w.heap.size w _ := hB; have z0 : (_ : Option Value) = some (.int .i64 0) := Z.cell 0 (by simp); have z1 : (_ : Option Value) = some (.int .i64 0) := Z.cell 1 (by simp); have z2 : (_ : Option Value) = some (.int .i64 0) := Z.cell 2 (by simp); have z3 : (_ : Option Value) = some (.int .i64 0) := Z.cell 3 (by simp); have z4 : (_ : Option Value) = some (.slice none 0 0) := Z.cell 4 (by simp); have z5 : (_ : Option Value) = some (.slice none 0 0) := Z.cell 5 (by simp); have hfz := fun j => Z.free j)
      refine bodyPost_ret (v := .tuple #[.agg #[.int .i64 0, .int .i64 0, .int .i64 0, .int .i64 0, .slice none 0 0, .slice none 0 0], .int .i64 7]) (by simp [results, Try.results33, go_sem, World.cell?_setCell_other, z0, z1, z2, z3, z4, z5]) rfl ⟨.slice none 0 0, .slice none 0 0, by rw [HD.out.1, HD.out.2]; rfl, by rw [HD.out.1]; exact World.ownsRow_nil _ _ _ _, by rw [HD.out.1]; exact World.ownsRow_nil _ _ _ _, .inl rfl, (by with_reducible repeat (first | exact Below.refl _ _ | assumption | refine below_step ?_ (by assumption) | refine Below.drew ?_ | refine below_drewN ?_ _ | refine below_alloc ?_ _ | refine Below.setCell ?_ (by simp; try omega) _))⟩
    · have hb4 : (km != 4) = true := by simpa using hk4
      clear hg3 hk4 h3 h22 h4 hmid
      go_enter Try.func33, Try.ntmps33
      go_wp2_with (go_at_call 42; refine (hdk _).mono ?_; rintro e w1 ⟨v1, rfl, ho1, hx1⟩; replace Z := Z.below hx1 Z.lt; replace hB : BB w _ := BB.next hB hx1; obtain ⟨g1, c1, hv⟩ := Go.Joins.ownsRow_form ho1 hpos; cases hv; obtain ⟨a0, a1⟩ := hrm ho1; have hb2 : Below w.heap.size w _ := hB; have z0 : (_ : Option Value) = some (.int .i64 0) := Z.cell 0 (by simp); have z1 : (_ : Option Value) = some (.int .i64 0) := Z.cell 1 (by simp); have z2 : (_ : Option Value) = some (.int .i64 0) := Z.cell 2 (by simp); have z3 : (_ : Option Value) = some (.int .i64 0) := Z.cell 3 (by simp); have z4 : (_ : Option Value) = some (.slice none 0 0) := Z.cell 4 (by simp); have z5 : (_ : Option Value) = some (.slice none 0 0) := Z.cell 5 (by simp); have hfz := fun j => Z.free j)
      refine bodyPost_ret (v := .tuple #[.agg #[.int .i64 0, .int .i64 0, .int .i64 0, .int .i64 0, .slice none 0 0, .slice none 0 0], .int .i64 7]) (by simp [results, Try.results33, go_sem, World.cell?_setCell_other, z0, z1, z2, z3, z4, z5]) rfl ⟨.slice none 0 0, .slice none 0 0, by rw [HD.out.1, HD.out.2]; rfl, by rw [HD.out.1]; exact World.ownsRow_nil _ _ _ _, by rw [HD.out.1]; exact World.ownsRow_nil _ _ _ _, .inl rfl, (by with_reducible repeat (first | exact Below.refl _ _ | assumption | refine below_step ?_ (by assumption) | refine Below.drew ?_ | refine below_drewN ?_ _ | refine below_alloc ?_ _ | refine Below.setCell ?_ (by simp; try omega) _))⟩
  obtain ⟨hk4, hdm0⟩ := hg3
  obtain rfl := str_empty hdm0
  subst hk4
  clear h3 hdm0
  by_cases hg2 : k0 = 1 ∧ hdB d0 = true
  rotate_left
  · have HD := Lib.hid (HD3.out (h22 hg2))
    have hdisc := fun W => l13Disc_no k0 d0 W (by unfold maxLen; omega) hg2
    clear hg2 h22 h4 hmid
    go_enter Try.func33, Try.ntmps33
    go_wp2_with (first
      | (go_at_call 22; refine (hdisc _).mono ?_; rintro e w2 ⟨rfl, hx2⟩; replace Z := Z.below hx2 Z.lt; replace hB : BB w _ := BB.next hB hx2; clear z0 z1 z2 z3 z4 z5 hfz hb2; have ZZ := Z; replace Z := fun o : Obj => BX.al ZZ o; have hb2 : Below w.heap.size w _ := hB; have z0 := fun o : Obj => (Z o).cell 0 (by simp); have z1 := fun o : Obj => (Z o).cell 1 (by simp); have z2 := fun o : Obj => (Z o).cell 2 (by simp); have z3 := fun o : Obj => (Z o).cell 3 (by simp); have z4 := fun o : Obj => (Z o).cell 4 (by simp); have z5 := fun o : Obj => (Z o).cell 5 (by simp); have hfz := fun (o : Obj) j => (Z o).free j)
      | (go_at_call 42; refine (hdk _).mono ?_; rintro e w1 ⟨v1, rfl, ho1, hx1⟩; replace Z := Z.below hx1 Z.lt; replace hB : BB w _ := BB.next hB hx1; obtain ⟨g1, c1, hv⟩ := Go.Joins.ownsRow_form ho1 hpos; cases hv; obtain ⟨a0, a1⟩ := hrm ho1; obtain ⟨e0, e1⟩ := hr0 ho1; have hb2 : Below w.heap.size w _ := hB; have z0 : (_ : Option Value) = some (.int .i64 0) := Z.cell 0 (by simp); have z1 : (_ : Option Value) = some (.int .i64 0) := Z.cell 1 (by simp); have z2 : (_ : Option Value) = some (.int .i64 0) := Z.cell 2 (by simp); have z3 : (_ : Option Value) = some (.int .i64 0) := Z.cell 3 (by simp); have z4 : (_ : Option Value) = some (.slice none 0 0) := Z.cell 4 (by simp); have z5 : (_ : Option Value) = some (.slice none 0 0) := Z.cell 5 (by simp); have hfz := fun j => Z.free j))
    refine bodyPost_ret (v := .tuple #[.agg #[.int .i64 0, .int .i64 0, .int .i64 0, .int .i64 0, .slice none 0 0, .slice none 0 0], .int .i64 7]) (by simp [results, Try.results33, go_sem, World.cell?_setCell_other, z0, z1, z2, z3, z4, z5]) rfl ⟨.slice none 0 0, .slice none 0 0, by rw [HD.out.1, HD.out.2]; rfl, by rw [HD.out.1]; exact World.ownsRow_nil _ _ _ _, by rw [HD.out.1]; exact World.ownsRow_nil _ _ _ _, .inl rfl, (by with_reducible repeat (first | exact Below.refl _ _ | assumption | refine below_step ?_ (by assumption) | refine Below.drew ?_ | refine below_drewN ?_ _ | refine below_alloc ?_ _ | refine Below.setCell ?_ (by simp; try omega) _))⟩
  obtain ⟨hk1, hh⟩ := hg2
  subst hk1
  have himg := h4 rfl hh rfl rfl
  obtain ⟨n1, n2, n3, n4, n5, n6, n7, n8, n9, n10, n11, n12, n13, n14⟩ := hd_nums hh
  have hdisc := fun W => l13Disc_yes d0 W hh
  rw [show newS (bt d0 3 : Int) (bt d0 4 : Int) (bt d0 5 : Int) (bt d0 6 : Int) = hdL d0 from rfl] at hdisc
  unfold bodyOf at himg
  have hsec : ∀ x ∈ hdL d0, True := fun _ _ => trivial
  rw [n10, n11] at hdisc himg
  generalize hdL d0 = l0 at *
  generalize (bt d0 3 : Int) = c at *
  generalize (bt d0 4 : Int) = h at *
  generalize hdT d0 = T at *
  generalize hdP d0 = P at *
  generalize hdS d0 = s at *
  generalize hdNb d0 = nb at *
  have hNpos : 0 < l0.length := by rw [n9]; exact Nat.mul_pos n14 n3
  obtain ⟨NL, hNL⟩ : ∃ NL, l0.length = NL := ⟨_, rfl⟩
  have HNL : Hid (NL = T * P) := Lib.hid (by rw [← hNL, n9])
  rw [hNL] at hdisc hNpos
  have HL0 := Lib.hid hNL
  clear n9 n12 hNL hh h22 h4 hsec
  go_enter Try.func33, Try.ntmps33
  go_wp2_with (first
    | (go_at_call 22; refine (hdisc _).mono ?_; rintro e w2 ⟨v2, rfl, hown2, hx2⟩; obtain ⟨b, cp, hv⟩ := Go.Joins.ownsRow_form hown2 hNpos; cases hv; replace Z := Z.below hx2 Z.lt; replace hB : BB w _ := BB.next hB hx2; replace OL := OO.next OL hx2)
    | (go_at_call 42; refine (hdk _).mono ?_; rintro e w1 ⟨v1, rfl, ho1, hx1⟩; replace Z := Z.below hx1 Z.lt; replace hB : BB w _ := BB.next hB hx1; obtain ⟨g1, c1, hv⟩ := Go.Joins.ownsRow_form ho1 hpos; cases hv; obtain ⟨a0, a1⟩ := hrm ho1; obtain ⟨e0, e1⟩ := hr0 ho1; have OL : OO w1 _ _ _ _ _ _ := ho1; have hz01 := Z.lt; have Z01 := Z; have hB01 := hB))
  have hgZ := Z.lt
  have hbl := (World.ownsRow.lt hown2 b rfl).2
  have hbw1 := (World.ownsRow.lt hown2 b rfl).1
  have hx2s := hx2.size
  have hNLp := hNpos
  have FX : BX ((w2.alloc (.cells #[.int .i64 c, .int .i64 h, .int .i64 (P : Int), .int .i64 s, .slice (some ⟨b, 0, none⟩) NL cp] 24)).alloc (.cells #[.int .i64 c, .int .i64 h, .int .i64 (P : Int), .int .i64 s, .slice (some ⟨b, 0, none⟩) NL cp, .slice none 0 0] 27)) (w2.heap.size + 1) 27 [.int .i64 c, .int .i64 h, .int .i64 (P : Int), .int .i64 s, .slice (some ⟨b, 0, none⟩) NL cp, .slice none 0 0] := BX.made1 w2 (.cells #[.int .i64 c, .int .i64 h, .int .i64 (P : Int), .int .i64 s, .slice (some ⟨b, 0, none⟩) NL cp] 24) 27 [.int .i64 c, .int .i64 h, .int .i64 (P : Int), .int .i64 s, .slice (some ⟨b, 0, none⟩) NL cp, .slice none 0 0]
  have OX : OO ((w2.alloc (.cells #[.int .i64 c, .int .i64 h, .int .i64 (P : Int), .int .i64 s, .slice (some ⟨b, 0, none⟩) NL cp] 24)).alloc (.cells #[.int .i64 c, .int .i64 h, .int .i64 (P : Int), .int .i64 s, .slice (some ⟨b, 0, none⟩) NL cp, .slice none 0 0] 27)) w1.heap.size 90 2 (.slice (some ⟨b, 0, none⟩) NL cp) NL (flat fSector l0) := OO.al (OO.al hown2 (.cells #[.int .i64 c, .int .i64 h, .int .i64 (P : Int), .int .i64 s, .slice (some ⟨b, 0, none⟩) NL cp] 24)) (.cells #[.int .i64 c, .int .i64 h, .int .i64 (P : Int), .int .i64 s, .slice (some ⟨b, 0, none⟩) NL cp, .slice none 0 0] 27)
  have BX1 : Below w1.heap.size w1 ((w2.alloc (.cells #[.int .i64 c, .int .i64 h, .int .i64 (P : Int), .int .i64 s, .slice (some ⟨b, 0, none⟩) NL cp] 24)).alloc (.cells #[.int .i64 c, .int .i64 h, .int .i64 (P : Int), .int .i64 s, .slice (some ⟨b, 0, none⟩) NL cp, .slice none 0 0] 27)) := below_alloc (below_alloc hx2 _) _
  have hgb : w2.heap.size + 1 ≠ b := by omega
  have hbase : w1.heap.size ≤ w2.heap.size + 1 := by omega
  have hz1 : w.heap.size < w1.heap.size := hz01
  generalize w2.heap.size + 1 = gx at *
  generalize ((w2.alloc (.cells #[.int .i64 c, .int .i64 h, .int .i64 (P : Int), .int .i64 s, .slice (some ⟨b, 0, none⟩) NL cp] 24)).alloc (.cells #[.int .i64 c, .int .i64 h, .int .i64 (P : Int), .int .i64 s, .slice (some ⟨b, 0, none⟩) NL cp, .slice none 0 0] 27)) = w3 at *
  obtain ⟨R, hR⟩ : ∃ R, decG T P nb s (mid L) l0 [] = R := ⟨_, rfl⟩
  rw [hR] at himg
  have HI := Lib.hid himg
  have HR0 := Lib.hid hR
  have HKL := Lib.hid hkl
  clear himg hR hkl hown2 OL Z hB hx2 hx2s hbl hgZ a0 a1 e0 e1
  obtain ⟨base, hbe⟩ : ∃ base, w1.heap.size = base := ⟨_, rfl⟩
  rw [hbe] at hz1 hbase hbw1 OX BX1
  have HBE := Lib.hid hbe
  clear hbe hz01
  go_loopw [10] (fun i wr => ∃ (k : Nat) (l : List DSector) (n : List ByteArray) (B : Option Addr) (q : Nat), k ≤ (mid L).length ∧ i = .int .i64 ((1 + k : Nat) : Int) ∧ l.length = NL ∧ n.length ≤ 8 ∧ BX wr gx 27 [.int .i64 c, .int .i64 h, .int .i64 (P : Int), .int .i64 s, .slice (some ⟨b, 0, none⟩) NL cp, .slice B n.length q] ∧ wr.ownsRow base 90 2 (.slice (some ⟨b, 0, none⟩) NL cp) NL (flat fSector l) ∧ wr.ownsRow base 9 1 (.slice B n.length q) n.length (flat fS n) ∧ (Value.slice B n.length q).ownBlock ≠ some gx ∧ (Value.slice B n.length q).ownBlock ≠ some b ∧ Below base w1 wr ∧ Hid (decG T P nb s ((mid L).drop k) l n = R)) (fun i _ => L.length - (intOf i).toNat)
  case atStart => exact ⟨0, l0, [], none, 0, Nat.zero_le _, rfl, HL0.out, by simp, FX, OX, World.ownsRow_nil _ _ _ _, by simp [Value.ownBlock], by simp [Value.ownBlock], BX1, Lib.hid (by rw [List.drop_zero]; exact HR0.out)⟩
  case round =>
    clear FX OX BX1
    obtain ⟨k, l, n, B, q, hk, rfl, hl, hn8, F, O, K, hgB, hbB, hB1, HG⟩ := hrel
    have hBr : Below w.heap.size w wr := Below.trans hB01 (hB1.mono (Nat.le_of_lt hz1))
    have Zr := Z01.below hB1 hz1
    have hmk := HKL.out
    have hmm := HM.out
    by_cases hlt : k < (mid L).length
    · have hi1 : 1 + k < L.length := by omega
      have hmi : ((1 + k : Nat) : Int) < (m : Int) := by omega
      have hi1i : ((1 + k : Nat) : Int) < (L.length : Int) := by omega
      have hw1 : IntKind.i64.wrap (((1 + k : Nat) : Int) + 1) = ((1 + (k + 1) : Nat) : Int) := IntWalk.i64_in _ (by omega)
      obtain ⟨a0, a1⟩ := row_cells (own_later ho1 hB1 (Nat.le_of_eq HBE.out)) (1 + k) hi1
      have hmg := hmid k hlt hi1
      have hd := hLin2 L[1 + k] (List.getElem_mem hi1)
      obtain ⟨⟨kc, dc⟩, hx⟩ : ∃ x, L[1 + k] = x := ⟨_, rfl⟩
      rw [hx] at a0 a1 hmg hd
      have hd2 : dc.size ≤ maxLen := by
        have h9 : dc.size ≤ 1048576 := hd
        unfold maxLen
        omega
      have con := l13Enter_any gx c h s P T nb b cp l B q n kc dc wr base hd2 n1 n2 n3 n4 n5 n6 n7 n8 (by rw [hl]; exact HNL.out) hn8 (by rw [hl]; exact F) (by rw [hl]; exact O) K hbase hgb hgB hbB (by have := hB1.size; have := HBE.out; omega) hbw1
      rw [hl] at con
      cases hb : entB T P nb s n ⟨kc, dc⟩
      · rw [hb] at con
        have HD := Lib.hid (HD3.out (by rw [HI.out, decG_no hlt (by rw [hmg]; exact hb) HG.out]; rfl))
        generalize hi : 1 + k = i1 at *
        clear hb hmg hx hmm hmk hlt hk
        go_wp2_with (go_at_call 23; refine con.mono ?_; clear con; rintro e w5 ⟨B', q', rfl, F5, O5, K5, hg5, hb5, hx5⟩; have Z := Zr.below hx5 hz1; have hb2 : Below w.heap.size w w5 := hBr.trans (hx5.mono (Nat.le_of_lt hz1)); have z0 : (_ : Option Value) = some (.int .i64 0) := Z.cell 0 (by simp); have z1 : (_ : Option Value) = some (.int .i64 0) := Z.cell 1 (by simp); have z2 : (_ : Option Value) = some (.int .i64 0) := Z.cell 2 (by simp); have z3 : (_ : Option Value) = some (.int .i64 0) := Z.cell 3 (by simp); have z4 : (_ : Option Value) = some (.slice none 0 0) := Z.cell 4 (by simp); have z5 : (_ : Option Value) = some (.slice none 0 0) := Z.cell 5 (by simp); have hfz := fun j => Z.free j)
        refine bodyPost_ret (v := .tuple #[.agg #[.int .i64 0, .int .i64 0, .int .i64 0, .int .i64 0, .slice none 0 0, .slice none 0 0], .int .i64 7]) (by simp [results, Try.results33, go_sem, World.cell?_setCell_other, z0, z1, z2, z3, z4, z5]) rfl ⟨.slice none 0 0, .slice none 0 0, by rw [HD.out.1, HD.out.2]; rfl, by rw [HD.out.1]; exact World.ownsRow_nil _ _ _ _, by rw [HD.out.1]; exact World.ownsRow_nil _ _ _ _, .inl rfl, (by with_reducible repeat (first | exact Below.refl _ _ | assumption | refine below_step ?_ (by assumption) | refine Below.drew ?_ | refine below_drewN ?_ _ | refine below_alloc ?_ _ | refine Below.setCell ?_ (by simp; try omega) _))⟩
      · rw [hb] at con
        have HN := Lib.hid (decG_yes hlt (by rw [hmg]; exact hb) HG.out)
        rw [hmg] at HN
        have hl' := entL_len (T := T) (P := P) (nb := nb) (s := s) (l := l) (by rw [hl]; exact HNL.out) ⟨kc, dc⟩
        rw [← HNL.out] at hl'
        have hn' := entN_len hn8 ⟨kc, dc⟩
        have HLT := Lib.hid hlt
        have HW1 := Lib.hid (show 1 + (k + 1) = 1 + k + 1 from rfl)
        generalize entL T P nb s l ⟨kc, dc⟩ = l' at *
        generalize entN n ⟨kc, dc⟩ = n' at *
        generalize hi : 1 + k = i1 at *
        generalize hi2 : 1 + (k + 1) = i2 at *
        have HI1 := Lib.hid hi
        have HI2 := Lib.hid hi2
        clear hb hmg hx hmm hmk hlt hk hi hi2
        go_wp2_with (go_at_call 23; refine con.mono ?_; clear con; rintro e w5 ⟨B', q', rfl, F5, O5, K5, hg5, hb5, hx5⟩)
        go_roundw
        case rel => exact ⟨k + 1, l', n', B', q', HLT.out, by rw [HI2.out], hl', hn', F5, O5, K5, hg5, hb5, hB1.trans hx5, HN⟩
        case measure => (have := HI1.out; have := HI2.out; have := HLT.out; have := HKL.out; simp [intOf]; omega)
    · have hkm : 1 + k = m := by omega
      rw [hkm]
      have hmi : ¬ (m : Int) < (m : Int) := by omega
      have HD := Lib.hid (HD4.out _ (by rw [HI.out, decG_end hlt HG.out]; rfl))
      have f0 : (_ : Option Value) = some (.int .i64 c) := F.cell 0 (by simp)
      have f1 : (_ : Option Value) = some (.int .i64 h) := F.cell 1 (by simp)
      have f2 : (_ : Option Value) = some (.int .i64 (P : Int)) := F.cell 2 (by simp)
      have f3 : (_ : Option Value) = some (.int .i64 s) := F.cell 3 (by simp)
      have f4 : (_ : Option Value) = some (.slice (some ⟨b, 0, none⟩) NL cp) := F.cell 4 (by simp)
      have f5 : (_ : Option Value) = some (.slice B n.length q) := F.cell 5 (by simp)
      have Z := Zr
      have z0 : (_ : Option Value) = some (.int .i64 0) := Z.cell 0 (by simp)
      have z1 : (_ : Option Value) = some (.int .i64 0) := Z.cell 1 (by simp)
      have z2 : (_ : Option Value) = some (.int .i64 0) := Z.cell 2 (by simp)
      have z3 : (_ : Option Value) = some (.int .i64 0) := Z.cell 3 (by simp)
      have z4 : (_ : Option Value) = some (.slice none 0 0) := Z.cell 4 (by simp)
      have z5 : (_ : Option Value) = some (.slice none 0 0) := Z.cell 5 (by simp)
      have hfz := fun j => Z.free j
      have O' : World.ownsRow wr base 90 2 (.slice (some ⟨b, 0, none⟩) NL cp) l.length (flat fSector l) := by rw [hl]; exact O
      have HLL := Lib.hid hl
      clear hmm hmk hlt hk hkm hl
      go_wp2
      refine bodyPost_ret (v := .tuple #[.agg #[.int .i64 c, .int .i64 h, .int .i64 (P : Int), .int .i64 s, .slice (some ⟨b, 0, none⟩) NL cp, .slice B n.length q], .int .i64 0]) (by simp [results, Try.results33, go_sem, World.cell?_setCell_other, z0, z1, z2, z3, z4, z5]) rfl ⟨.slice (some ⟨b, 0, none⟩) NL cp, .slice B n.length q, by rw [HD.out.1, HD.out.2]; rfl, ?_, ?_, .inr (fun e => hbB e.symm), (by with_reducible repeat (first | exact Below.refl _ _ | assumption | refine below_step ?_ (by assumption) | refine Below.drew ?_ | refine below_drewN ?_ _ | refine below_alloc ?_ _ | refine Below.setCell ?_ (by simp; try omega) _))⟩
      · rw [HD.out.1]
        show World.ownsRow _ _ _ _ _ l.length (flat fSector l)
        exact own_base (ownsRow_setCell_below (ownsRow_setCell_below (ownsRow_setCell_below (ownsRow_setCell_below (ownsRow_setCell_below (ownsRow_setCell_below O' hz1 _) hz1 _) hz1 _) hz1 _) hz1 _) hz1 _) (Nat.le_of_lt hz1)
      · rw [HD.out.1]
        show World.ownsRow _ _ _ _ _ n.length (flat fS n)
        exact own_base (ownsRow_setCell_below (ownsRow_setCell_below (ownsRow_setCell_below (ownsRow_setCell_below (ownsRow_setCell_below (ownsRow_setCell_below K hz1 _) hz1 _) hz1 _) hz1 _) hz1 _) hz1 _) (Nat.le_of_lt hz1)

set_option maxRecDepth 100000 in
set_option maxHeartbeats 2000000 in
theorem spec_DecodeImage_any (t : ByteArray) (w : World) (ht : t.size ≤ 1048576) :
    Calls Try.prog 12 #[.string t] w fun e w' => ∃ v u, e = .returned (.tuple #[.agg #[.int .i64 (imD (decR t)).c, .int .i64 (imD (decR t)).h, .int .i64 (imD (decR t)).p, .int .i64 (imD (decR t)).s, v, u], .int .i64 (decC t)]) ∧ w'.ownsRow w.heap.size 90 2 v (imD (decR t)).l.length (flat fSector (imD (decR t)).l) ∧ w'.ownsRow w.heap.size 9 1 u (imD (decR t)).n.length (flat fS (imD (decR t)).n) ∧ (v.ownBlock = none ∨ v.ownBlock ≠ u.ownBlock) ∧ Below w.heap.size w w' := by
  have Z : BX (w.alloc (.cells #[.int .i64 0, .int .i64 0, .int .i64 0, .int .i64 0, .slice none 0 0, .slice none 0 0] 27)) w.heap.size 27 [.int .i64 0, .int .i64 0, .int .i64 0, .int .i64 0, .slice none 0 0, .slice none 0 0] := BX.made w 27 [.int .i64 0, .int .i64 0, .int .i64 0, .int .i64 0, .slice none 0 0, .slice none 0 0]
  have hB : BB w (w.alloc (.cells #[.int .i64 0, .int .i64 0, .int .i64 0, .int .i64 0, .slice none 0 0, .slice none 0 0] 27)) := (show Below w.heap.size w (w.alloc (.cells #[.int .i64 0, .int .i64 0, .int .i64 0, .int .i64 0, .slice none 0 0, .slice none 0 0] 27)) from (by with_reducible repeat (first | exact Below.refl _ _ | assumption | refine below_step ?_ (by assumption) | refine Below.drew ?_ | refine below_drewN ?_ _ | refine below_alloc ?_ _ | refine Below.setCell ?_ (by simp; try omega) _)))
  have hq := fun W => l13Decode_any t W ht
  generalize imD (decR t) = X at *
  generalize decC t = code at *
  go_enter Try.func12, Try.ntmps12
  go_wp2_with (go_at_call 33; refine (hq _).mono ?_; rintro e w2 ⟨v, u, rfl, O, K, ne, hx2⟩; have hz1 := Z.lt; obtain ⟨A2, c2, rfl⟩ := own_form O; obtain ⟨A3, c3, rfl⟩ := own_form K; replace Z := Z.below hx2 Z.lt; have hb2 : Below w.heap.size w w2 := BB.next hB hx2; have z0 : (_ : Option Value) = some (.int .i64 0) := Z.cell 0 (by simp); have z1 : (_ : Option Value) = some (.int .i64 0) := Z.cell 1 (by simp); have z2 : (_ : Option Value) = some (.int .i64 0) := Z.cell 2 (by simp); have z3 : (_ : Option Value) = some (.int .i64 0) := Z.cell 3 (by simp); have z4 : (_ : Option Value) = some (.slice none 0 0) := Z.cell 4 (by simp); have z5 : (_ : Option Value) = some (.slice none 0 0) := Z.cell 5 (by simp); have hfz := fun j => Z.free j)
  refine bodyPost_ret (v := .tuple #[.agg #[.int .i64 X.c, .int .i64 X.h, .int .i64 X.p, .int .i64 X.s, .slice A2 X.l.length c2, .slice A3 X.n.length c3], .int .i64 code]) (by simp [results, Try.results12, go_sem, World.cell?_setCell_other, z0, z1, z2, z3, z4, z5]) rfl ⟨_, _, rfl, ?_, ?_, ne, (by with_reducible repeat (first | exact Below.refl _ _ | assumption | refine below_step ?_ (by assumption) | refine Below.drew ?_ | refine below_drewN ?_ _ | refine below_alloc ?_ _ | refine Below.setCell ?_ (by simp; try omega) _))⟩
  · exact own_base (ownsRow_setCell_below (ownsRow_setCell_below (ownsRow_setCell_below (ownsRow_setCell_below (ownsRow_setCell_below (ownsRow_setCell_below O hz1 _) hz1 _) hz1 _) hz1 _) hz1 _) hz1 _) (Nat.le_of_lt hz1)
  · exact own_base (ownsRow_setCell_below (ownsRow_setCell_below (ownsRow_setCell_below (ownsRow_setCell_below (ownsRow_setCell_below (ownsRow_setCell_below K hz1 _) hz1 _) hz1 _) hz1 _) hz1 _) hz1 _) (Nat.le_of_lt hz1)
end Go.Proofs.Ytjjcedodjoieoaa
