/- Walks: the image of a container (impl). -/
import Derived.Test.YtjjcedodjoieoaaDecM
import Derived.Test.YtjjcedodjoieoaaW119
import Derived.Test.YtjjcedodjoieoaaW120
namespace Go.Proofs.Ytjjcedodjoieoaa
open Go.RowKit
set_option linter.unusedVariables false

set_option maxRecDepth 100000 in
set_option maxHeartbeats 4000000 in
theorem imageOf_any (v1 : Value) (base1 : Nat) (L : List DChunk) (w : World) (ho1 : w.ownsRow base1 47 2 v1 L.length (flat fChunk L)) (hL40 : L.length ≤ 40) (hLin2 : ∀ x ∈ L, x.f1.size ≤ 1048576) :
    Calls Try.prog 35 #[v1] w fun e w' => ∃ v u, e = .returned (.tuple #[.agg #[.int .i64 (imD (imgOf L)).c, .int .i64 (imD (imgOf L)).h, .int .i64 (imD (imgOf L)).p, .int .i64 (imD (imgOf L)).s, v, u], .bool (imgOf L).isSome]) ∧ w'.ownsRow w.heap.size 90 2 v (imD (imgOf L)).l.length (flat fSector (imD (imgOf L)).l) ∧ w'.ownsRow w.heap.size 9 1 u (imD (imgOf L)).n.length (flat fS (imD (imgOf L)).n) ∧ (v.ownBlock = none ∨ v.ownBlock ≠ u.ownBlock) ∧ Below w.heap.size w w' := by
  have Z0 : BX (w.alloc (.cells #[.int .i64 0, .int .i64 0, .int .i64 0, .int .i64 0, .slice none 0 0, .slice none 0 0] 27)) w.heap.size 27 [.int .i64 0, .int .i64 0, .int .i64 0, .int .i64 0, .slice none 0 0, .slice none 0 0] := BX.made w 27 [.int .i64 0, .int .i64 0, .int .i64 0, .int .i64 0, .slice none 0 0, .slice none 0 0]
  have hB0 : BB w (w.alloc (.cells #[.int .i64 0, .int .i64 0, .int .i64 0, .int .i64 0, .slice none 0 0, .slice none 0 0] 27)) := (show Below w.heap.size w (w.alloc (.cells #[.int .i64 0, .int .i64 0, .int .i64 0, .int .i64 0, .slice none 0 0, .slice none 0 0] 27)) from (by with_reducible repeat (first | exact Below.refl _ _ | assumption | refine below_step ?_ (by assumption) | refine Below.drew ?_ | refine below_drewN ?_ _ | refine below_alloc ?_ _ | refine Below.setCell ?_ (by simp; try omega) _)))
  have ho0 : OO (w.alloc (.cells #[.int .i64 0, .int .i64 0, .int .i64 0, .int .i64 0, .slice none 0 0, .slice none 0 0] 27)) _ _ _ _ _ _ := OO.al ho1 (.cells #[.int .i64 0, .int .i64 0, .int .i64 0, .int .i64 0, .slice none 0 0, .slice none 0 0] 27)
  obtain ⟨w1, hw1⟩ : ∃ w1, w1 = (w.alloc (.cells #[.int .i64 0, .int .i64 0, .int .i64 0, .int .i64 0, .slice none 0 0, .slice none 0 0] 27)) := ⟨_, rfl⟩
  have Z := Z0
  have hB := hB0
  have ho := ho0
  rw [← hw1] at Z hB ho
  have HW := Lib.hid hw1
  clear hw1
  have hb2 : Below w.heap.size w (w.alloc (.cells #[.int .i64 0, .int .i64 0, .int .i64 0, .int .i64 0, .slice none 0 0, .slice none 0 0] 27)) := hB0
  have z0 : (_ : Option Value) = some (.int .i64 0) := Z0.cell 0 (by simp)
  have z1 : (_ : Option Value) = some (.int .i64 0) := Z0.cell 1 (by simp)
  have z2 : (_ : Option Value) = some (.int .i64 0) := Z0.cell 2 (by simp)
  have z3 : (_ : Option Value) = some (.int .i64 0) := Z0.cell 3 (by simp)
  have z4 : (_ : Option Value) = some (.slice none 0 0) := Z0.cell 4 (by simp)
  have z5 : (_ : Option Value) = some (.slice none 0 0) := Z0.cell 5 (by simp)
  have hfz := fun j => Z0.free j
  by_cases h2 : 2 ≤ L.length
  rotate_left
  · have HD := Lib.hid (imgOf_1 h2)
    have hw : IntKind.i64.wrap ((L.length : Int) - 1) = (L.length : Int) - 1 := IntWalk.i64_in _ (by omega)
    have hlt : (L.length : Int) - 1 < 1 := by omega
    obtain ⟨A1, c1, rfl⟩ := own_form ho1
    clear ho1 ho0 ho
    go_enter Try.func35, Try.ntmps35
    go_wp2
    refine bodyPost_ret (v := .tuple #[.agg #[.int .i64 0, .int .i64 0, .int .i64 0, .int .i64 0, .slice none 0 0, .slice none 0 0], .bool false]) (by simp [results, Try.results35, go_sem, z0, z1, z2, z3, z4, z5]) rfl ⟨.slice none 0 0, .slice none 0 0, by rw [HD.out]; rfl, by rw [HD.out]; exact World.ownsRow_nil _ _ _ _, by rw [HD.out]; exact World.ownsRow_nil _ _ _ _, .inl rfl, (by with_reducible repeat (first | exact Below.refl _ _ | assumption | refine below_step ?_ (by assumption) | refine Below.drew ?_ | refine below_drewN ?_ _ | refine below_alloc ?_ _ | refine Below.setCell ?_ (by simp; try omega) _))⟩
  have hpos : 0 < L.length := by omega
  have hposi : (0 : Int) < (L.length : Int) := by omega
  obtain ⟨g1, c1, hv⟩ := Go.Joins.ownsRow_form ho1 hpos
  subst hv
  have hcc := own_capD ho1
  obtain ⟨m, hm⟩ : ∃ m, L.length - 1 = m := ⟨_, rfl⟩
  have hwm : IntKind.i64.wrap ((L.length : Int) - 1) = (m : Int) := by rw [show (L.length : Int) - 1 = (m : Int) by omega]; exact IntWalk.i64_in _ (by omega)
  have hlt : ¬ (m : Int) < 1 := by omega
  have hmL : m < L.length := by omega
  have hmLi : (m : Int) < (L.length : Int) := by omega
  have h3 := imgOf_3 h2
  have h22 := imgOf_2 h2
  have h4 := imgOf_4 h2
  have hkl := mid_len (L := L)
  have hmid := fun k h => mid_get (L := L) (k := k) h
  have hd0 := hLin2 L[0] (List.getElem_mem hpos)
  have HM := Lib.hid hm
  have e4 : L[L.length - 1] = L[m] := by congr 1
  rw [e4] at h3 h4
  obtain ⟨e0, e1⟩ := row_cells (OOf ho0) 0 hpos
  obtain ⟨a0, a1⟩ := row_cells (OOf ho0) m hmL
  obtain ⟨⟨k0, d0⟩, hx0⟩ : ∃ x, L[0] = x := ⟨_, rfl⟩
  obtain ⟨⟨km, dm⟩, hxm⟩ : ∃ x, L[m] = x := ⟨_, rfl⟩
  rw [hx0] at h22 h4 hd0 e0 e1
  rw [hxm] at h3 h4 a0 a1
  simp only [Nat.zero_mul, Nat.zero_add] at h22 h4 hd0 e0 e1 h3 a0 a1
  clear e4 hx0 hxm hm
  by_cases hk1 : k0 = 1
  rotate_left
  · have HD := Lib.hid (h22 (fun x => hk1 x.1))
    have hb1 : (k0 != 1) = true := by simpa using hk1
    clear hk1 h22 h3 h4 hmid
    go_enter Try.func35, Try.ntmps35
    go_wp2
    refine bodyPost_ret (v := .tuple #[.agg #[.int .i64 0, .int .i64 0, .int .i64 0, .int .i64 0, .slice none 0 0, .slice none 0 0], .bool false]) (by simp [results, Try.results35, go_sem, z0, z1, z2, z3, z4, z5]) rfl ⟨.slice none 0 0, .slice none 0 0, by rw [HD.out]; rfl, by rw [HD.out]; exact World.ownsRow_nil _ _ _ _, by rw [HD.out]; exact World.ownsRow_nil _ _ _ _, .inl rfl, (by with_reducible repeat (first | exact Below.refl _ _ | assumption | refine below_step ?_ (by assumption) | refine Below.drew ?_ | refine below_drewN ?_ _ | refine below_alloc ?_ _ | refine Below.setCell ?_ (by simp; try omega) _))⟩
  subst hk1
  by_cases hg3 : km = 4 ∧ dm.size = 0
  rotate_left
  · have HD := Lib.hid (h3 hg3)
    by_cases hk4 : km = 4
    · have hdm := str_some (fun h => hg3 ⟨hk4, h⟩)
      subst hk4
      clear hg3 h3 h22 h4 hmid
      go_enter Try.func35, Try.ntmps35
      go_wp2
      refine bodyPost_ret (v := .tuple #[.agg #[.int .i64 0, .int .i64 0, .int .i64 0, .int .i64 0, .slice none 0 0, .slice none 0 0], .bool false]) (by simp [results, Try.results35, go_sem, z0, z1, z2, z3, z4, z5]) rfl ⟨.slice none 0 0, .slice none 0 0, by rw [HD.out]; rfl, by rw [HD.out]; exact World.ownsRow_nil _ _ _ _, by rw [HD.out]; exact World.ownsRow_nil _ _ _ _, .inl rfl, (by with_reducible repeat (first | exact Below.refl _ _ | assumption | refine below_step ?_ (by assumption) | refine Below.drew ?_ | refine below_drewN ?_ _ | refine below_alloc ?_ _ | refine Below.setCell ?_ (by simp; try omega) _))⟩
    · have hb4 : (km == 4) = false := by simpa using hk4
      clear hg3 hk4 h3 h22 h4 hmid
      go_enter Try.func35, Try.ntmps35
      go_wp2
      refine bodyPost_ret (v := .tuple #[.agg #[.int .i64 0, .int .i64 0, .int .i64 0, .int .i64 0, .slice none 0 0, .slice none 0 0], .bool false]) (by simp [results, Try.results35, go_sem, z0, z1, z2, z3, z4, z5]) rfl ⟨.slice none 0 0, .slice none 0 0, by rw [HD.out]; rfl, by rw [HD.out]; exact World.ownsRow_nil _ _ _ _, by rw [HD.out]; exact World.ownsRow_nil _ _ _ _, .inl rfl, (by with_reducible repeat (first | exact Below.refl _ _ | assumption | refine below_step ?_ (by assumption) | refine Below.drew ?_ | refine below_drewN ?_ _ | refine below_alloc ?_ _ | refine Below.setCell ?_ (by simp; try omega) _))⟩
  obtain ⟨hk4, hdm0⟩ := hg3
  obtain rfl := str_empty hdm0
  subst hk4
  clear h3 hdm0
  cases hh : hdB d0
  · have HD := Lib.hid (h22 (fun x => by rw [hh] at x; cases x.2))
    have hrd := fun W => readHeader_no d0 W (by unfold maxLen; omega) hh
    clear hh h22 h4 hmid
    go_enter Try.func35, Try.ntmps35
    go_wp2_with (go_at_call 25; rw [← HW.out]; refine (hrd _).mono ?_; rintro e w2 ⟨rfl, hx2⟩; replace Z := Z.below hx2 Z.lt; replace hB : BB w _ := BB.next hB hx2; clear z0 z1 z2 z3 z4 z5 hfz hb2; have ZA := fun o : Obj => BX.al Z o; have hb2 : Below w.heap.size w _ := hB; have z0 := fun o : Obj => (ZA o).cell 0 (by simp); have z1 := fun o : Obj => (ZA o).cell 1 (by simp); have z2 := fun o : Obj => (ZA o).cell 2 (by simp); have z3 := fun o : Obj => (ZA o).cell 3 (by simp); have z4 := fun o : Obj => (ZA o).cell 4 (by simp); have z5 := fun o : Obj => (ZA o).cell 5 (by simp); have hfz := fun (o : Obj) j => (ZA o).free j)
    refine bodyPost_ret (v := .tuple #[.agg #[.int .i64 0, .int .i64 0, .int .i64 0, .int .i64 0, .slice none 0 0, .slice none 0 0], .bool false]) (by simp [results, Try.results35, go_sem, World.cell?_setCell_other, z0, z1, z2, z3, z4, z5]) rfl ⟨.slice none 0 0, .slice none 0 0, by rw [HD.out]; rfl, by rw [HD.out]; exact World.ownsRow_nil _ _ _ _, by rw [HD.out]; exact World.ownsRow_nil _ _ _ _, .inl rfl, (by with_reducible repeat (first | exact Below.refl _ _ | assumption | refine below_step ?_ (by assumption) | refine Below.drew ?_ | refine below_drewN ?_ _ | refine below_alloc ?_ _ | refine Below.setCell ?_ (by simp; try omega) _))⟩
  have himg := h4 rfl hh rfl rfl
  obtain ⟨n1, n2, n3, n4, n5, n6, n7, n8, n9, n10, n11, n12, n13, n14⟩ := hd_nums hh
  have hdisc := fun W => readHeader_yes d0 W hh
  rw [show newS (bt d0 3 : Int) (bt d0 4 : Int) (bt d0 5 : Int) (bt d0 6 : Int) = hdL d0 from rfl] at hdisc
  unfold bodyOf at himg
  rw [n10, n11] at hdisc himg
  generalize hdL d0 = l0 at *
  generalize (bt d0 3 : Int) = c at *
  generalize (bt d0 4 : Int) = h at *
  generalize hdT d0 = T at *
  generalize hdP d0 = P at *
  generalize hdS d0 = s at *
  generalize hdNb d0 = nb at *
  have hNpos : 0 < l0.length := by rw [n9]; exact Nat.mul_pos n14 n3
  obtain ⟨NL, hNL⟩ : ∃ NL, l0.length = NL := ⟨_, rfl⟩
  have HNL : Hid (NL = T * P) := Lib.hid (by rw [← hNL, n9])
  rw [hNL] at hdisc hNpos
  have HL0 := Lib.hid hNL
  have hm1 : 1 ≤ m := by omega
  have hm1i : (1 : Int) ≤ (m : Int) := by omega
  have hmc : m ≤ c1 := by omega
  have hmci : (m : Int) ≤ (c1 : Int) := by omega
  have hc1 : ¬ c1 = 1 := by omega
  have hc2 : ¬ 1 = c1 := by omega
  clear n9 n12 hNL hh h22 h4
  go_enter Try.func35, Try.ntmps35
  go_wp2_with (go_at_call 25; rw [← HW.out]; refine (hdisc _).mono ?_; rintro e w2 ⟨v2, rfl, hown2, hx2⟩; obtain ⟨b, cp, hv⟩ := Go.Joins.ownsRow_form hown2 hNpos; cases hv)
  have hbl := (World.ownsRow.lt hown2 b rfl).2
  have hbw1 := (World.ownsRow.lt hown2 b rfl).1
  have hcp := own_capD hown2
  have hx2s := hx2.size
  have FX : BX ((w2.alloc (.cells #[.int .i64 c, .int .i64 h, .int .i64 (P : Int), .int .i64 s, .slice (some ⟨b, 0, none⟩) NL cp] 24)).alloc (.cells #[.int .i64 c, .int .i64 h, .int .i64 (P : Int), .int .i64 s, .slice (some ⟨b, 0, none⟩) NL cp, .slice none 0 0] 27)) (w2.heap.size + 1) 27 [.int .i64 c, .int .i64 h, .int .i64 (P : Int), .int .i64 s, .slice (some ⟨b, 0, none⟩) NL cp, .slice none 0 0] := BX.made1 w2 (.cells #[.int .i64 c, .int .i64 h, .int .i64 (P : Int), .int .i64 s, .slice (some ⟨b, 0, none⟩) NL cp] 24) 27 [.int .i64 c, .int .i64 h, .int .i64 (P : Int), .int .i64 s, .slice (some ⟨b, 0, none⟩) NL cp, .slice none 0 0]
  have OX : OO ((w2.alloc (.cells #[.int .i64 c, .int .i64 h, .int .i64 (P : Int), .int .i64 s, .slice (some ⟨b, 0, none⟩) NL cp] 24)).alloc (.cells #[.int .i64 c, .int .i64 h, .int .i64 (P : Int), .int .i64 s, .slice (some ⟨b, 0, none⟩) NL cp, .slice none 0 0] 27)) w1.heap.size 90 2 (.slice (some ⟨b, 0, none⟩) NL cp) NL (flat fSector l0) := OO.al (OO.al hown2 (.cells #[.int .i64 c, .int .i64 h, .int .i64 (P : Int), .int .i64 s, .slice (some ⟨b, 0, none⟩) NL cp] 24)) (.cells #[.int .i64 c, .int .i64 h, .int .i64 (P : Int), .int .i64 s, .slice (some ⟨b, 0, none⟩) NL cp, .slice none 0 0] 27)
  have BX1 : Below w1.heap.size w1 ((w2.alloc (.cells #[.int .i64 c, .int .i64 h, .int .i64 (P : Int), .int .i64 s, .slice (some ⟨b, 0, none⟩) NL cp] 24)).alloc (.cells #[.int .i64 c, .int .i64 h, .int .i64 (P : Int), .int .i64 s, .slice (some ⟨b, 0, none⟩) NL cp, .slice none 0 0] 27)) := below_alloc (below_alloc hx2 _) _
  have hgb : w2.heap.size + 1 ≠ b := by omega
  have hbase : w1.heap.size ≤ w2.heap.size + 1 := by omega
  have hz1 : w.heap.size < w1.heap.size := Z.lt
  generalize w2.heap.size + 1 = gx at *
  generalize ((w2.alloc (.cells #[.int .i64 c, .int .i64 h, .int .i64 (P : Int), .int .i64 s, .slice (some ⟨b, 0, none⟩) NL cp] 24)).alloc (.cells #[.int .i64 c, .int .i64 h, .int .i64 (P : Int), .int .i64 s, .slice (some ⟨b, 0, none⟩) NL cp, .slice none 0 0] 27)) = w3 at *
  obtain ⟨R, hR⟩ : ∃ R, decG T P nb s (mid L) l0 [] = R := ⟨_, rfl⟩
  rw [hR] at himg
  have HI := Lib.hid himg
  have HR0 := Lib.hid hR
  have HKL := Lib.hid hkl
  clear himg hR hkl hown2 hx2 hx2s hbl a0 a1 e0 e1 z0 z1 z2 z3 z4 z5 hfz hb2 ho0 Z0 hB0
  obtain ⟨base, hbe⟩ : ∃ base, w1.heap.size = base := ⟨_, rfl⟩
  rw [hbe] at hz1 hbase hbw1 OX BX1
  have HBE := Lib.hid hbe
  clear hbe
  have hz1' := Nat.le_of_lt hz1
  obtain ⟨m2, hm2⟩ : ∃ m2, m - 1 = m2 := ⟨_, rfl⟩
  rw [hm2]
  have HM2 := Lib.hid hm2
  clear hm2
  go_loopw [48] (fun i wr => ∃ (k : Nat) (l : List DSector) (n : List ByteArray) (B : Option Addr) (q : Nat), k ≤ (mid L).length ∧ i = .int .i64 (k : Int) ∧ l.length = NL ∧ n.length ≤ 8 ∧ BX wr gx 27 [.int .i64 c, .int .i64 h, .int .i64 (P : Int), .int .i64 s, .slice (some ⟨b, 0, none⟩) NL cp, .slice B n.length q] ∧ wr.ownsRow base 90 2 (.slice (some ⟨b, 0, none⟩) NL cp) NL (flat fSector l) ∧ wr.ownsRow base 9 1 (.slice B n.length q) n.length (flat fS n) ∧ (Value.slice B n.length q).ownBlock ≠ some gx ∧ (Value.slice B n.length q).ownBlock ≠ some b ∧ Below base w1 wr ∧ Hid (decG T P nb s ((mid L).drop k) l n = R)) (fun i _ => L.length - (intOf i).toNat)
  case atStart => exact ⟨0, l0, [], none, 0, Nat.zero_le _, rfl, HL0.out, by simp, FX, OX, World.ownsRow_nil _ _ _ _, by simp [Value.ownBlock], by simp [Value.ownBlock], BX1, Lib.hid (by rw [List.drop_zero]; exact HR0.out)⟩
  case round =>
    clear FX OX BX1
    obtain ⟨k, l, n, B, q, hk, rfl, hl, hn8, F, O, K, hgB, hbB, hB1, HG⟩ := hrel
    have hBr : Below w.heap.size w wr := Below.trans hB (hB1.mono hz1')
    have Zr := Z.below hB1 hz1
    have hmk := HKL.out
    have hmm := HM.out
    have hmm2 := HM2.out
    by_cases hlt : k < (mid L).length
    · have hi1 : 1 + k < L.length := by omega
      have hkm2 : k < m2 := by omega
      have hmi : (k : Int) < (m2 : Int) := by omega
      have hkc1 : k < c1 - 1 := by omega
      have hw1 : IntKind.i64.wrap ((k : Int) + 1) = ((k + 1 : Nat) : Int) := IntWalk.i64_in _ (by omega)
      obtain ⟨a0, a1⟩ := row_cells (own_later (OOf ho) hB1 (Nat.le_of_eq HBE.out)) (1 + k) hi1
      rw [show (1 + k) * 2 = 2 + k * 2 by omega] at a0 a1
      have hmg := hmid k hlt hi1
      have hd := hLin2 L[1 + k] (List.getElem_mem hi1)
      obtain ⟨⟨kc, dc⟩, hx⟩ : ∃ x, L[1 + k] = x := ⟨_, rfl⟩
      rw [hx] at a0 a1 hmg hd
      have hd2 : dc.size ≤ maxLen := by
        have h9 : dc.size ≤ 1048576 := hd
        unfold maxLen
        omega
      have hbs : base ≤ wr.heap.size := by have := hB1.size; have := HBE.out; omega
      have Fq := F.al (.cells #[.int .i64 kc, .string dc] 47)
      have Zq := Zr.al (.cells #[.int .i64 kc, .string dc] 47)
      have Cq : CP (wr.alloc (.cells #[.int .i64 kc, .string dc] 47)) wr.heap.size [.int .i64 kc, .string dc] := CP.made wr [.int .i64 kc, .string dc] 47
      have Oq := OO.al O (.cells #[.int .i64 kc, .string dc] 47)
      have Kq := OO.al K (.cells #[.int .i64 kc, .string dc] 47)
      have Bq := Below.alloc hB1 hbs (.cells #[.int .i64 kc, .string dc] 47)
      have hbq : Below w.heap.size w (wr.alloc (.cells #[.int .i64 kc, .string dc] 47)) := below_alloc hBr _
      have hgc : wr.heap.size ≠ b := by have := (World.ownsRow.lt O b rfl).2; omega
      have HMG := Lib.hid hmg
      have HLT := Lib.hid hlt
      clear hmg hx hmm hmk hmm2 hd
      go_upto_region 12 with fail
      clear a0 a1 F Zr O K hB1 hBr
      generalize wr.heap.size = gc at *
      generalize wr.alloc (.cells #[.int .i64 kc, .string dc] 47) = w6 at *
      have c0 : (_ : Option Value) = some (.int .i64 kc) := Cq 0 (by simp)
      have cd : (_ : Option Value) = some (.string dc) := Cq 1 (by simp)
      have f0 : (_ : Option Value) = some (.int .i64 c) := Fq.cell 0 (by simp)
      have f1 : (_ : Option Value) = some (.int .i64 h) := Fq.cell 1 (by simp)
      have f2 : (_ : Option Value) = some (.int .i64 (P : Int)) := Fq.cell 2 (by simp)
      have f3 : (_ : Option Value) = some (.int .i64 s) := Fq.cell 3 (by simp)
      have f4 : (_ : Option Value) = some (.slice (some ⟨b, 0, none⟩) NL cp) := Fq.cell 4 (by simp)
      have f5 : (_ : Option Value) = some (.slice B n.length q) := Fq.cell 5 (by simp)
      by_cases hk2 : kc = 2
      · subst hk2
        have hcon := readTrackData_any c h s P T nb b cp l dc w6 base hd2 n1 n2 n3 n4 n5 n6 n7 n8 (by rw [hl]; exact HNL.out) (by rw [hl]; exact hcp) (by rw [hl]; exact Oq)
        rw [hl] at hcon
        have hbk3 : ((2 : Int) == 3) = false := rfl
        have hnz : some b ≠ some w.heap.size := by intro e; cases e; omega
        cases htk : trk T P nb s dc with
        | none =>
          have HD := Lib.hid (show imgOf L = none by rw [HI.out, decG_no HLT.out (by rw [HMG.out, entB_trk rfl, htk]; rfl) HG.out]; rfl)
          rw [htk] at hcon
          replace hcon : Calls Try.prog 26 _ w6 fun e w' => e = .returned (.bool false) ∧ _ := hcon
          clear htk
          go_wp2_with (go_at_call 26; refine hcon.mono ?_; clear hcon; rintro e w7 ⟨rfl, O7, hg7⟩; clear c0 cd; have Cf := CP.far Cq hg7 (by intro e; cases e; exact hgc rfl); have c0 : (_ : Option Value) = some (.int .i64 2) := Cf 0 (by simp); have Z := Zq.grown hg7 hnz; have hb2 : Below w.heap.size w w7 := hbq.grown hg7 hbq.size (fun y hy => by cases hy; omega); have z0 : (_ : Option Value) = some (.int .i64 0) := Z.cell 0 (by simp); have z1 : (_ : Option Value) = some (.int .i64 0) := Z.cell 1 (by simp); have z2 : (_ : Option Value) = some (.int .i64 0) := Z.cell 2 (by simp); have z3 : (_ : Option Value) = some (.int .i64 0) := Z.cell 3 (by simp); have z4 : (_ : Option Value) = some (.slice none 0 0) := Z.cell 4 (by simp); have z5 : (_ : Option Value) = some (.slice none 0 0) := Z.cell 5 (by simp); have hfz := fun j => Z.free j)
          refine bodyPost_ret (v := .tuple #[.agg #[.int .i64 0, .int .i64 0, .int .i64 0, .int .i64 0, .slice none 0 0, .slice none 0 0], .bool false]) (by simp [results, Try.results35, go_sem, World.cell?_setCell_other, z0, z1, z2, z3, z4, z5]) rfl ⟨.slice none 0 0, .slice none 0 0, by rw [HD.out]; rfl, by rw [HD.out]; exact World.ownsRow_nil _ _ _ _, by rw [HD.out]; exact World.ownsRow_nil _ _ _ _, .inl rfl, (by with_reducible repeat (first | exact Below.refl _ _ | assumption | refine below_step ?_ (by assumption) | refine Below.drew ?_ | refine below_drewN ?_ _ | refine below_alloc ?_ _ | refine Below.setCell ?_ (by simp; try omega) _))⟩
        | some ss =>
          have hN := decG_yes HLT.out (by rw [HMG.out, entB_trk rfl, htk]; rfl) HG.out
          rw [HMG.out, entL_yes rfl, entN_no (by decide)] at hN
          have HN := Lib.hid hN
          have hl' := rtL_len (T := T) (P := P) (nb := nb) (s := s) (l := l) (by rw [hl]; exact HNL.out) dc
          rw [← HNL.out] at hl'
          rw [htk] at hcon
          replace hcon : Calls Try.prog 26 _ w6 fun e w' => e = .returned (.bool true) ∧ _ := hcon
          generalize rtL T P nb s l dc = l' at *
          clear htk hN
          go_wp2_with (go_at_call 26; refine hcon.mono ?_; clear hcon; rintro e w7 ⟨rfl, O7, hg7⟩; have F7 := Fq.grown hg7 (by intro e; cases e; exact hgb rfl); have K7 := World.ownsRow.kept (OOf Kq) hg7 (.inr hbB); have B7 := Bq.grown hg7 (by have := Bq.size; have := HBE.out; omega) (fun y hy => by cases hy; exact hbw1))
          go_roundw
          case rel => exact ⟨k + 1, l', n, B, q, HLT.out, rfl, hl', hn8, F7, O7, K7, hgB, hbB, B7, HN⟩
          case measure => (have := HLT.out; have := HKL.out; simp [intOf]; omega)
      · have hbk2 : (kc == 2) = false := by simpa using hk2
        have hvn := fun W => validNote_any dc W hd2
        have Z := Zq
        have hb2 := hbq
        have z0 : (_ : Option Value) = some (.int .i64 0) := Z.cell 0 (by simp)
        have z1 : (_ : Option Value) = some (.int .i64 0) := Z.cell 1 (by simp)
        have z2 : (_ : Option Value) = some (.int .i64 0) := Z.cell 2 (by simp)
        have z3 : (_ : Option Value) = some (.int .i64 0) := Z.cell 3 (by simp)
        have z4 : (_ : Option Value) = some (.slice none 0 0) := Z.cell 4 (by simp)
        have z5 : (_ : Option Value) = some (.slice none 0 0) := Z.cell 5 (by simp)
        have hfz := fun j => Z.free j
        by_cases hk3 : kc = 3
        rotate_left
        · have hbk3 : (kc == 3) = false := by simpa using hk3
          have HD := Lib.hid (show imgOf L = none by rw [HI.out, decG_no HLT.out (by rw [HMG.out]; exact entB_no hk3 hk2) HG.out]; rfl)
          clear hk2 hk3
          go_wp2
          refine bodyPost_ret (v := .tuple #[.agg #[.int .i64 0, .int .i64 0, .int .i64 0, .int .i64 0, .slice none 0 0, .slice none 0 0], .bool false]) (by simp [results, Try.results35, go_sem, World.cell?_setCell_other, z0, z1, z2, z3, z4, z5]) rfl ⟨.slice none 0 0, .slice none 0 0, by rw [HD.out]; rfl, by rw [HD.out]; exact World.ownsRow_nil _ _ _ _, by rw [HD.out]; exact World.ownsRow_nil _ _ _ _, .inl rfl, (by with_reducible repeat (first | exact Below.refl _ _ | assumption | refine below_step ?_ (by assumption) | refine Below.drew ?_ | refine below_drewN ?_ _ | refine below_alloc ?_ _ | refine Below.setCell ?_ (by simp; try omega) _))⟩
        · subst hk3
          cases hnb1 : noteB dc
          · have HD := Lib.hid (show imgOf L = none by rw [HI.out, decG_no HLT.out (by rw [HMG.out, entB_note rfl hnb1]; rfl) HG.out]; rfl)
            rw [hnb1] at hvn
            clear hnb1
            go_wp2_with (go_at_call 27; refine (hvn _).mono ?_; rintro e w7 ⟨rfl, rfl⟩)
            refine bodyPost_ret (v := .tuple #[.agg #[.int .i64 0, .int .i64 0, .int .i64 0, .int .i64 0, .slice none 0 0, .slice none 0 0], .bool false]) (by simp [results, Try.results35, go_sem, World.cell?_setCell_other, z0, z1, z2, z3, z4, z5]) rfl ⟨.slice none 0 0, .slice none 0 0, by rw [HD.out]; rfl, by rw [HD.out]; exact World.ownsRow_nil _ _ _ _, by rw [HD.out]; exact World.ownsRow_nil _ _ _ _, .inl rfl, (by with_reducible repeat (first | exact Below.refl _ _ | assumption | refine below_step ?_ (by assumption) | refine Below.drew ?_ | refine below_drewN ?_ _ | refine below_alloc ?_ _ | refine Below.setCell ?_ (by simp; try omega) _))⟩
          · rw [hnb1] at hvn
            by_cases h8 : n.length < 8
            rotate_left
            · have HD := Lib.hid (show imgOf L = none by rw [HI.out, decG_no HLT.out (by rw [HMG.out, entB_note rfl hnb1, decide_eq_false h8]; rfl) HG.out]; rfl)
              have hge : ¬ (n.length : Int) < 8 := by omega
              clear hnb1 h8 hn8
              go_wp2_with (go_at_call 27; refine (hvn _).mono ?_; rintro e w7 ⟨rfl, rfl⟩)
              refine bodyPost_ret (v := .tuple #[.agg #[.int .i64 0, .int .i64 0, .int .i64 0, .int .i64 0, .slice none 0 0, .slice none 0 0], .bool false]) (by simp [results, Try.results35, go_sem, World.cell?_setCell_other, z0, z1, z2, z3, z4, z5]) rfl ⟨.slice none 0 0, .slice none 0 0, by rw [HD.out]; rfl, by rw [HD.out]; exact World.ownsRow_nil _ _ _ _, by rw [HD.out]; exact World.ownsRow_nil _ _ _ _, .inl rfl, (by with_reducible repeat (first | exact Below.refl _ _ | assumption | refine below_step ?_ (by assumption) | refine Below.drew ?_ | refine below_drewN ?_ _ | refine below_alloc ?_ _ | refine Below.setCell ?_ (by simp; try omega) _))⟩
            · have hN := decG_yes HLT.out (by rw [HMG.out, entB_note rfl hnb1, decide_eq_true h8]; rfl) HG.out
              rw [HMG.out, entL_no (by decide), entN_yes rfl hnb1 h8] at hN
              have HN := Lib.hid hN
              have hge : (n.length : Int) < 8 := by omega
              have hn9 : (n ++ [dc]).length ≤ 8 := by simp; omega
              have hby16 : 16 ≤ 1000 := by decide
              have hnbig : n.length ≤ 100000000 := by omega
              have hbs6 : base ≤ w6.heap.size := by have := Bq.size; have := HBE.out; omega
              have hgx6 := Fq.lt
              have hb6 := (World.ownsRow.lt (OOf Oq) b rfl).2
              have hlen1 : (n ++ [dc]).length = n.length + 1 := by simp
              have HL1 := Lib.hid hlen1
              clear hnb1 h8 hN hlen1 z0 z1 z2 z3 z4 z5 hfz
              go_wp2_with (first
                | (at_builtin; go_must (refine wpList_appF (f := fS) rfl _ _ 25 rfl eltStr hby16 (.slice B n.length q) n rfl (OOf Kq) _ _ dc _ rfl rfl rfl (oneStr dc) hnbig hbs6 ?_); intro v8 w8 K8 hg8 hat8 hbl8; obtain ⟨A5, c5, rfl⟩ := own_form K8; have F8 := (Fq.al (.cells #[.string dc] 9)).grown hg8 hgB; have O8 := World.ownsRow.kept (OO.al Oq (.cells #[.string dc] 9)) hg8 (.inr (fun e => hbB e.symm)); have g5 : (_ : Option Value) = some (.slice B n.length q) := F8.cell 5 (by simp); have hfz := fun j => F8.free j; have hg1 : (Value.slice A5 (n ++ [dc]).length c5).ownBlock ≠ some gx := (by rcases hat8 with h | h <;> rw [h] <;> first | exact hgB | (intro e; simp at e; omega)); have hb1 : (Value.slice A5 (n ++ [dc]).length c5).ownBlock ≠ some b := (by rcases hat8 with h | h <;> rw [h] <;> first | exact hbB | (intro e; simp at e; omega)); rw [HL1.out] at K8 hg1 hb1)
                | (go_at_call 27; refine (hvn _).mono ?_; rintro e w7 ⟨rfl, rfl⟩))
              go_roundw
              case rel => exact ⟨k + 1, l, n ++ [dc], A5, c5, HLT.out, rfl, hl, hn9, by rw [HL1.out]; exact F8.put 5 _, OO.putne O8 (a := ⟨gx, 5, none⟩) (by intro e; apply hgb; simpa [Value.ownBlock] using e.symm) _, by rw [HL1.out]; exact OO.putne K8 (a := ⟨gx, 5, none⟩) hg1 _, by rw [HL1.out]; exact hg1, by rw [HL1.out]; exact hb1, Below.setCell (Bq.trans hbl8) hbase _, HN⟩
              case measure => (have := HLT.out; have := HKL.out; simp [intOf]; omega)
    · have hkm : k = m2 := by omega
      subst hkm
      have hmi : ¬ (k : Int) < (k : Int) := by omega
      have HD := Lib.hid (show imgOf L = some ⟨c, h, P, s, l, n⟩ by rw [HI.out, decG_end hlt HG.out]; rfl)
      have f0 : (_ : Option Value) = some (.int .i64 c) := F.cell 0 (by simp)
      have f1 : (_ : Option Value) = some (.int .i64 h) := F.cell 1 (by simp)
      have f2 : (_ : Option Value) = some (.int .i64 (P : Int)) := F.cell 2 (by simp)
      have f3 : (_ : Option Value) = some (.int .i64 s) := F.cell 3 (by simp)
      have f4 : (_ : Option Value) = some (.slice (some ⟨b, 0, none⟩) NL cp) := F.cell 4 (by simp)
      have f5 : (_ : Option Value) = some (.slice B n.length q) := F.cell 5 (by simp)
      have Z := Zr
      have z0 : (_ : Option Value) = some (.int .i64 0) := Z.cell 0 (by simp)
      have z1 : (_ : Option Value) = some (.int .i64 0) := Z.cell 1 (by simp)
      have z2 : (_ : Option Value) = some (.int .i64 0) := Z.cell 2 (by simp)
      have z3 : (_ : Option Value) = some (.int .i64 0) := Z.cell 3 (by simp)
      have z4 : (_ : Option Value) = some (.slice none 0 0) := Z.cell 4 (by simp)
      have z5 : (_ : Option Value) = some (.slice none 0 0) := Z.cell 5 (by simp)
      have hfz := fun j => Z.free j
      have O' : World.ownsRow wr base 90 2 (.slice (some ⟨b, 0, none⟩) NL cp) l.length (flat fSector l) := by rw [hl]; exact O
      clear hmm hmk hlt hk hl hmm2
      go_wp2
      refine bodyPost_ret (v := .tuple #[.agg #[.int .i64 c, .int .i64 h, .int .i64 (P : Int), .int .i64 s, .slice (some ⟨b, 0, none⟩) NL cp, .slice B n.length q], .bool true]) (by simp [results, Try.results35, go_sem, World.cell?_setCell_other, z0, z1, z2, z3, z4, z5]) rfl ⟨.slice (some ⟨b, 0, none⟩) NL cp, .slice B n.length q, by rw [HD.out]; rfl, ?_, ?_, .inr (fun e => hbB e.symm), (by with_reducible repeat (first | exact Below.refl _ _ | assumption | refine below_step ?_ (by assumption) | refine Below.drew ?_ | refine below_drewN ?_ _ | refine below_alloc ?_ _ | refine Below.setCell ?_ (by simp; try omega) _))⟩
      · rw [HD.out]
        show World.ownsRow _ _ _ _ _ l.length (flat fSector l)
        exact own_base (ownsRow_setCell_below (ownsRow_setCell_below (ownsRow_setCell_below (ownsRow_setCell_below (ownsRow_setCell_below (ownsRow_setCell_below O' hz1 _) hz1 _) hz1 _) hz1 _) hz1 _) hz1 _) hz1'
      · rw [HD.out]
        show World.ownsRow _ _ _ _ _ n.length (flat fS n)
        exact own_base (ownsRow_setCell_below (ownsRow_setCell_below (ownsRow_setCell_below (ownsRow_setCell_below (ownsRow_setCell_below (ownsRow_setCell_below K hz1 _) hz1 _) hz1 _) hz1 _) hz1 _) hz1 _) hz1'

set_option maxRecDepth 100000 in
set_option maxHeartbeats 2000000 in
theorem impl_DecodeImage_any (t : ByteArray) (w : World) (ht : t.size ≤ 1048576) :
    Calls Try.prog 13 #[.string t] w fun e w' => ∃ v u, e = .returned (.tuple #[.agg #[.int .i64 (imD (decR t)).c, .int .i64 (imD (decR t)).h, .int .i64 (imD (decR t)).p, .int .i64 (imD (decR t)).s, v, u], .int .i64 (decC t)]) ∧ w'.ownsRow w.heap.size 90 2 v (imD (decR t)).l.length (flat fSector (imD (decR t)).l) ∧ w'.ownsRow w.heap.size 9 1 u (imD (decR t)).n.length (flat fS (imD (decR t)).n) ∧ (v.ownBlock = none ∨ v.ownBlock ≠ u.ownBlock) ∧ Below w.heap.size w w' := by
  have Z : BX (w.alloc (.cells #[.int .i64 0, .int .i64 0, .int .i64 0, .int .i64 0, .slice none 0 0, .slice none 0 0] 27)) w.heap.size 27 [.int .i64 0, .int .i64 0, .int .i64 0, .int .i64 0, .slice none 0 0, .slice none 0 0] := BX.made w 27 [.int .i64 0, .int .i64 0, .int .i64 0, .int .i64 0, .slice none 0 0, .slice none 0 0]
  have hB : BB w (w.alloc (.cells #[.int .i64 0, .int .i64 0, .int .i64 0, .int .i64 0, .slice none 0 0, .slice none 0 0] 27)) := (show Below w.heap.size w (w.alloc (.cells #[.int .i64 0, .int .i64 0, .int .i64 0, .int .i64 0, .slice none 0 0, .slice none 0 0] 27)) from (by with_reducible repeat (first | exact Below.refl _ _ | assumption | refine below_step ?_ (by assumption) | refine Below.drew ?_ | refine below_drewN ?_ _ | refine below_alloc ?_ _ | refine Below.setCell ?_ (by simp; try omega) _)))
  have hb2 : Below w.heap.size w (w.alloc (.cells #[.int .i64 0, .int .i64 0, .int .i64 0, .int .i64 0, .slice none 0 0, .slice none 0 0] 27)) := hB
  by_cases hbig : 8192 < t.size
  · have HD := Lib.hid (dec_1 hbig)
    have hbi : (8192 : Int) < (t.size : Int) := by omega
    have z0 : (_ : Option Value) = some (.int .i64 0) := Z.cell 0 (by simp)
    have z1 : (_ : Option Value) = some (.int .i64 0) := Z.cell 1 (by simp)
    have z2 : (_ : Option Value) = some (.int .i64 0) := Z.cell 2 (by simp)
    have z3 : (_ : Option Value) = some (.int .i64 0) := Z.cell 3 (by simp)
    have z4 : (_ : Option Value) = some (.slice none 0 0) := Z.cell 4 (by simp)
    have z5 : (_ : Option Value) = some (.slice none 0 0) := Z.cell 5 (by simp)
    have hfz := fun j => Z.free j
    clear hbig
    go_enter Try.func13, Try.ntmps13
    go_wp2
    refine bodyPost_ret (v := .tuple #[.agg #[.int .i64 0, .int .i64 0, .int .i64 0, .int .i64 0, .slice none 0 0, .slice none 0 0], .int .i64 5]) (by simp [results, Try.results13, go_sem, z0, z1, z2, z3, z4, z5]) rfl ⟨.slice none 0 0, .slice none 0 0, by rw [HD.out.1, HD.out.2]; rfl, by rw [HD.out.1]; exact World.ownsRow_nil _ _ _ _, by rw [HD.out.1]; exact World.ownsRow_nil _ _ _ _, .inl rfl, (by with_reducible repeat (first | exact Below.refl _ _ | assumption | refine below_step ?_ (by assumption) | refine Below.drew ?_ | refine below_drewN ?_ _ | refine below_alloc ?_ _ | refine Below.setCell ?_ (by simp; try omega) _))⟩
  have hbi : ¬ (8192 : Int) < (t.size : Int) := by omega
  have hdk := fun W => impl_DecodeChunks_any t W ht
  by_cases hn : dkN t = t.size
  rotate_left
  · have HD := Lib.hid (dec_2 hbig hn)
    have hne : (((dkN t : Nat) : Int) != (t.size : Int)) = true := by simpa using (by omega : ¬ ((dkN t : Nat) : Int) = (t.size : Int))
    generalize dkN t = N at hdk hne
    clear hbig hn hb2
    go_enter Try.func13, Try.ntmps13
    go_wp2_with (go_at_call 34; refine (hdk _).mono ?_; rintro e w1 ⟨v1, rfl, ho1, hx1⟩; replace Z := Z.below hx1 Z.lt; replace hB : BB w _ := BB.next hB hx1; have hb2 : Below w.heap.size w _ := hB; have z0 : (_ : Option Value) = some (.int .i64 0) := Z.cell 0 (by simp); have z1 : (_ : Option Value) = some (.int .i64 0) := Z.cell 1 (by simp); have z2 : (_ : Option Value) = some (.int .i64 0) := Z.cell 2 (by simp); have z3 : (_ : Option Value) = some (.int .i64 0) := Z.cell 3 (by simp); have z4 : (_ : Option Value) = some (.slice none 0 0) := Z.cell 4 (by simp); have z5 : (_ : Option Value) = some (.slice none 0 0) := Z.cell 5 (by simp); have hfz := fun j => Z.free j)
    refine bodyPost_ret (v := .tuple #[.agg #[.int .i64 0, .int .i64 0, .int .i64 0, .int .i64 0, .slice none 0 0, .slice none 0 0], .int .i64 8]) (by simp [results, Try.results13, go_sem, World.cell?_setCell_other, z0, z1, z2, z3, z4, z5]) rfl ⟨.slice none 0 0, .slice none 0 0, by rw [HD.out.1, HD.out.2]; rfl, by rw [HD.out.1]; exact World.ownsRow_nil _ _ _ _, by rw [HD.out.1]; exact World.ownsRow_nil _ _ _ _, .inl rfl, (by with_reducible repeat (first | exact Below.refl _ _ | assumption | refine below_step ?_ (by assumption) | refine Below.drew ?_ | refine below_drewN ?_ _ | refine below_alloc ?_ _ | refine Below.setCell ?_ (by simp; try omega) _))⟩
  have hneN : (((dkN t : Nat) : Int) != (t.size : Int)) = false := by simp [hn]
  have HD3 := Lib.hid (fun (i : imgOf (dkL t) = none) => dec_3 hbig hn i)
  have HD4 := Lib.hid (fun (x : Im) (i : imgOf (dkL t) = some x) => dec_4 hbig hn i)
  have hL40 := dkL_len t
  have hLin2 : ∀ x ∈ dkL t, x.f1.size ≤ 1048576 := fun x hx => Nat.le_trans (dkL_in t x hx) ht
  generalize dkL t = L at *
  generalize dkN t = N at hdk hneN
  have him := fun (v1 : Value) W (h : World.ownsRow W _ 47 2 v1 L.length (flat fChunk L)) => imageOf_any v1 (w.heap.size + 1) L W h hL40 hLin2
  clear hbig hn hb2
  cases hi : imgOf L with
  | none =>
    have HD := Lib.hid (HD3.out hi)
    rw [hi] at him
    clear hi
    go_enter Try.func13, Try.ntmps13
    go_wp2_with (first
      | (go_at_call 35; refine (him _ _ ho1).mono ?_; rintro e w2 ⟨v, u, rfl, O, K, ne, hx2⟩; obtain ⟨A2, c2, rfl⟩ := own_form O; obtain ⟨A3, c3, rfl⟩ := own_form K; replace Z := Z.below hx2 Z.lt; replace hB : BB w _ := BB.next hB hx2; have hb2 : Below w.heap.size w _ := hB; have ZA := fun o : Obj => BX.al Z o; have z0 := fun o : Obj => (ZA o).cell 0 (by simp); have z1 := fun o : Obj => (ZA o).cell 1 (by simp); have z2 := fun o : Obj => (ZA o).cell 2 (by simp); have z3 := fun o : Obj => (ZA o).cell 3 (by simp); have z4 := fun o : Obj => (ZA o).cell 4 (by simp); have z5 := fun o : Obj => (ZA o).cell 5 (by simp); have hfz := fun (o : Obj) j => (ZA o).free j)
      | (go_at_call 34; refine (hdk _).mono ?_; rintro e w1 ⟨v1, rfl, ho1, hx1⟩; replace ho1 := own_base (base' := w.heap.size + 1) ho1 (by simp); replace Z := Z.below hx1 Z.lt; replace hB : BB w _ := BB.next hB hx1))
    refine bodyPost_ret (v := .tuple #[.agg #[.int .i64 0, .int .i64 0, .int .i64 0, .int .i64 0, .slice none 0 0, .slice none 0 0], .int .i64 7]) (by simp [results, Try.results13, go_sem, World.cell?_setCell_other, z0, z1, z2, z3, z4, z5]) rfl ⟨.slice none 0 0, .slice none 0 0, by rw [HD.out.1, HD.out.2]; rfl, by rw [HD.out.1]; exact World.ownsRow_nil _ _ _ _, by rw [HD.out.1]; exact World.ownsRow_nil _ _ _ _, .inl rfl, (by with_reducible repeat (first | exact Below.refl _ _ | assumption | refine below_step ?_ (by assumption) | refine Below.drew ?_ | refine below_drewN ?_ _ | refine below_alloc ?_ _ | refine Below.setCell ?_ (by simp; try omega) _))⟩
  | some X =>
    have HD := Lib.hid (HD4.out X hi)
    rw [hi, show imD (some X) = X from rfl] at him
    clear hi
    go_enter Try.func13, Try.ntmps13
    go_wp2_with (first
      | (go_at_call 35; refine (him _ _ ho1).mono ?_; rintro e w2 ⟨v, u, rfl, O, K, ne, hx2⟩; have hz1 := Z.lt; obtain ⟨A2, c2, rfl⟩ := own_form O; obtain ⟨A3, c3, rfl⟩ := own_form K; replace Z := Z.below hx2 Z.lt; replace hB : BB w _ := BB.next hB hx2; have hb2 : Below w.heap.size w _ := hB; have ZA := fun o : Obj => BX.al Z o; have z0 := fun o : Obj => (ZA o).cell 0 (by simp); have z1 := fun o : Obj => (ZA o).cell 1 (by simp); have z2 := fun o : Obj => (ZA o).cell 2 (by simp); have z3 := fun o : Obj => (ZA o).cell 3 (by simp); have z4 := fun o : Obj => (ZA o).cell 4 (by simp); have z5 := fun o : Obj => (ZA o).cell 5 (by simp); have hfz := fun (o : Obj) j => (ZA o).free j)
      | (go_at_call 34; refine (hdk _).mono ?_; rintro e w1 ⟨v1, rfl, ho1, hx1⟩; replace ho1 := own_base (base' := w.heap.size + 1) ho1 (by simp); replace Z := Z.below hx1 Z.lt; replace hB : BB w _ := BB.next hB hx1))
    refine bodyPost_ret (v := .tuple #[.agg #[.int .i64 X.c, .int .i64 X.h, .int .i64 X.p, .int .i64 X.s, .slice A2 X.l.length c2, .slice A3 X.n.length c3], .int .i64 0]) (by simp [results, Try.results13, go_sem, World.cell?_setCell_other, z0, z1, z2, z3, z4, z5]) rfl ⟨.slice A2 X.l.length c2, .slice A3 X.n.length c3, by rw [HD.out.1, HD.out.2]; rfl, ?_, ?_, ne, (by with_reducible repeat (first | exact Below.refl _ _ | assumption | refine below_step ?_ (by assumption) | refine Below.drew ?_ | refine below_drewN ?_ _ | refine below_alloc ?_ _ | refine Below.setCell ?_ (by simp; try omega) _))⟩
    · rw [HD.out.1]
      exact own_base (ownsRow_setCell_below (ownsRow_setCell_below (ownsRow_setCell_below (ownsRow_setCell_below (ownsRow_setCell_below (ownsRow_setCell_below (OO.al O _) hz1 _) hz1 _) hz1 _) hz1 _) hz1 _) hz1 _) (Nat.le_of_lt hz1)
    · rw [HD.out.1]
      exact own_base (ownsRow_setCell_below (ownsRow_setCell_below (ownsRow_setCell_below (ownsRow_setCell_below (ownsRow_setCell_below (ownsRow_setCell_below (OO.al K _) hz1 _) hz1 _) hz1 _) hz1 _) hz1 _) hz1 _) (Nat.le_of_lt hz1)
end Go.Proofs.Ytjjcedodjoieoaa
