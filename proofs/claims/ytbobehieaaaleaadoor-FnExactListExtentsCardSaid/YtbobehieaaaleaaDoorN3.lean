/- Walks: the texts X8 X9 G1 G2x U1 U2 U3 U4 SStrM as one text. -/
import Derived.Test.YtbobehieaaaleaaDoorN6
import Derived.Test.YtbobehieaaaleaaDoorN5
import Derived.Test.YtbobehieaaaleaaDoorShelf
import Derived.Lib.MinMax
import Derived.Test.YtbobehieaaaleaaDoorSString
import Derived.Sort.OwnSorted
import Derived.Sort.Walk0
import Derived.Deep.AppendSrc
import Derived.Deep.CutBlock
import Derived.Deep.DeepCutAuto
import Derived.Test.YtbobehieaaaleaaDoorPut
import Derived.Test.YtbobehieaaaleaaDoorMem5
import Derived.Sort.KeysCollected
import Derived.Lib.RowBridge
import Derived.Maps.RangeWalk
import Derived.Maps.OwnSet
import Derived.Test.YtbobehieaaaleaaDoorShelf2
import Derived.Lib.OwnBridge
import Derived.Test.YtbobehieaaaleaaDoorMark
import Derived.Deep.RegionHeld3
namespace Go.Proofs.YtbobehieaaaleaaDoor
set_option linter.unusedVariables false
open Go.RowKit

set_option maxRecDepth 100000 in
set_option maxHeartbeats 16000000 in
theorem entryX_any (g b z E Y bb off n c : Nat) (J : List UInt8) (k : Nat) (w : World) (d : CP w g [.int .i64 (b : Int), .int .i64 (z : Int), .int .i64 (E : Int), .int .i64 (Y : Int), .slice (some ⟨bb, off, none⟩) n c]) (hr : RR w 1 (some ⟨bb, off, none⟩) n (bcells J)) (hk : z + 16 * (k + 1) ≤ n) (hs : z ≤ 32) (hn : n ≤ 4096) (hnc : n ≤ c) :
    Calls Tryd.prog 54 #[.pointer (some ⟨g, 0, none⟩), .int .i64 (k : Int)] w fun r w' => ∃ A c, r = .returned (.tuple #[.agg #[.int .i64 (xeE (z : Int) (xRaw J z k)).st, .string (xeE (z : Int) (xRaw J z k)).nm, .int .i64 (xeE (z : Int) (xRaw J z k)).nu, .int .i64 (xeE (z : Int) (xRaw J z k)).tl, .slice A (xeE (z : Int) (xRaw J z k)).bl.length c], .bool (xeOk (z : Int) (xRaw J z k))]) ∧ w'.ownsRow w.heap.size 2 1 (.slice A (xeE (z : Int) (xRaw J z k)).bl.length c) (xeE (z : Int) (xRaw J z k)).bl.length (flat fI (xeE (z : Int) (xRaw J z k)).bl) ∧ BB w w' := by
  have F0 := BX.made w 59 [.int .i64 0, .string ⟨#[]⟩, .int .i64 0, .int .i64 0, .slice none 0 0]
  have hB0 : BB w (w.alloc (.cells #[.int .i64 0, .string ⟨#[]⟩, .int .i64 0, .int .i64 0, .slice none 0 0] 59)) := BB.al (BB.start w) _
  have hg : g < w.heap.size := (cell_spot (d 0 (by simp))).2
  have hb0 : bb < w.heap.size := by
    obtain ⟨b1, o1, he, hb, _⟩ := hr.2 (by omega)
    cases he
    exact hb
  have raw := entryBytes_any g b z E Y bb off n c J k (w.alloc (.cells #[.int .i64 0, .string ⟨#[]⟩, .int .i64 0, .int .i64 0, .slice none 0 0] 59)) (CP.al d (.cells #[.int .i64 0, .string ⟨#[]⟩, .int .i64 0, .int .i64 0, .slice none 0 0] 59)) (RR.al hr (.cells #[.int .i64 0, .string ⟨#[]⟩, .int .i64 0, .int .i64 0, .slice none 0 0] 59)) hk hs hn hnc
  have hnJ : n = J.length := by have := hr.1; rw [bcells_length] at this; omega
  have hBl : (xRaw J z k).length = 16 := xRaw_len (by rw [← hnJ]; exact hk)
  obtain ⟨B, hBe⟩ : ∃ B, xRaw J z k = B := ⟨_, rfl⟩
  rw [hBe] at raw hBl ⊢
  obtain ⟨o, ho⟩ : ∃ o, off + (z + 16 * k) = o := ⟨_, rfl⟩
  rw [ho] at raw
  obtain ⟨A2, hA2⟩ : ∃ A2, (some ⟨bb, off, none⟩ : Option Addr) = A2 := ⟨_, rfl⟩
  rw [hA2] at d
  clear hBe ho hr hA2 hnJ
  go_enter Tryd.func54, Tryd.ntmps54
  have w0 : IntKind.i64.wrap (gb B 0 : Int) = (gb B 0 : Int) := by have := gb_lt B 0; exact IntWalk.i64_in _ (by omega)
  go_upto_if 19 with (go_at_call 75; (with_reducible refine raw.mono ?_); rintro r w1 ⟨vc, rfl, hvc, rfl, R1⟩; have b0 := rr_byte R1 hBl 0 (by decide); simp only [Nat.add_zero] at b0)
  have hl0 : (w.alloc (.cells #[.int .i64 0, .string ⟨#[]⟩, .int .i64 0, .int .i64 0, .slice none 0 0] 59)).heap.size = w.heap.size + 1 := World.size_alloc w _
  have H : E0 w ((w.alloc (.cells #[.int .i64 0, .string ⟨#[]⟩, .int .i64 0, .int .i64 0, .slice none 0 0] 59)).alloc (.cells #[.int .i64 (gb B 0 : Int), .string ⟨#[]⟩, .int .i64 0, .int .i64 0, .slice none 0 0] 59)) (w.alloc (.cells #[.int .i64 0, .string ⟨#[]⟩, .int .i64 0, .int .i64 0, .slice none 0 0] 59)).heap.size bb o g [.int .i64 (gb B 0 : Int), .string ⟨#[]⟩, .int .i64 0, .int .i64 0, .slice none 0 0] B [.int .i64 (b : Int), .int .i64 (z : Int), .int .i64 (E : Int), .int .i64 (Y : Int), .slice A2 n c] := ⟨BX.made (w.alloc (.cells #[.int .i64 0, .string ⟨#[]⟩, .int .i64 0, .int .i64 0, .slice none 0 0] 59)) 59 [.int .i64 (gb B 0 : Int), .string ⟨#[]⟩, .int .i64 0, .int .i64 0, .slice none 0 0], F0.al (.cells #[.int .i64 (gb B 0 : Int), .string ⟨#[]⟩, .int .i64 0, .int .i64 0, .slice none 0 0] 59), RR.al R1 (.cells #[.int .i64 (gb B 0 : Int), .string ⟨#[]⟩, .int .i64 0, .int .i64 0, .slice none 0 0] 59), CP.al (CP.al d (.cells #[.int .i64 0, .string ⟨#[]⟩, .int .i64 0, .int .i64 0, .slice none 0 0] 59)) (.cells #[.int .i64 (gb B 0 : Int), .string ⟨#[]⟩, .int .i64 0, .int .i64 0, .slice none 0 0] 59), BB.al hB0 (.cells #[.int .i64 (gb B 0 : Int), .string ⟨#[]⟩, .int .i64 0, .int .i64 0, .slice none 0 0] 59), by omega, by omega, by omega, hg⟩
  clear raw R1 F0 hB0 d hb0 b0
  generalize ((w.alloc (.cells #[.int .i64 0, .string ⟨#[]⟩, .int .i64 0, .int .i64 0, .slice none 0 0] 59)).alloc (.cells #[.int .i64 (gb B 0 : Int), .string ⟨#[]⟩, .int .i64 0, .int .i64 0, .slice none 0 0] 59)) = w2 at H ⊢
  rw [hl0] at H
  generalize w.heap.size + 1 = X at H ⊢
  clear hl0
  have hX := H.hX

  go_cut [8, 40] (fun _ _ wx => ∃ (A5 : Option Addr) (c5 : Nat), E0 w wx X bb o g [.int .i64 (xeR B).st, .string (xeR B).nm, .int .i64 (xeR B).nu, .int .i64 (xeR B).tl, .slice A5 (xeR B).bl.length c5] B [.int .i64 (b : Int), .int .i64 (z : Int), .int .i64 (E : Int), .int .i64 (Y : Int), .slice A2 n c] ∧ OO wx (X + 1) 2 1 (.slice A5 (xeR B).bl.length c5) (xeR B).bl.length (flat fI (xeR B).bl))
  case first =>
    by_cases h0 : gb B 0 = 0
    · have h0b : ((gb B 0 : Int) != 0) = false := by rw [h0]; rfl
      have hR := xeR_0 h0
      rw [h0] at H
      go_wp2_with fail
      go_meet
      refine ⟨none, 0, ?_, ?_⟩
      · rw [hR]; exact H
      · rw [hR]; exact World.ownsRow_nil _ _ _ _
    have h0b : ((gb B 0 : Int) != 0) = true := by simp; omega
    have hR := Lib.hid (xeR_1 h0)
    clear h0
    have f0 : (_ : Option Value) = some (.int .i64 (gb B 0 : Int)) := H.F.cell 0 (by simp)
    have hf := fun j => H.F.free j
    have f1 : (_ : Option Value) = some (.string ⟨#[]⟩) := H.F.cell 1 (by simp)
    have i9 : 9 ≤ vc := by omega
    have i1 : ¬ vc = 1 := by omega
    have hcv := conv_rr (P := Tryd.prog) (src := 41) (dst := 9) Tryd.underlying41 Tryd.underlying5 Tryd.underlying9 (rr_sub H.R hBl.symm 1 8 (by decide) (by decide)) (by rw [List.length_take, List.length_drop, hBl]; rfl) (vc - 1)
    obtain ⟨N, hN⟩ : ∃ N : ByteArray, (⟨((B.drop 1).take 8).toArray⟩ : ByteArray) = N := ⟨_, rfl⟩
    rw [hN] at hcv
    have hNs : N.size ≤ 8 := by
      rw [← hN]
      show ((B.drop 1).take 8).toArray.size ≤ 8
      rw [List.size_toArray, List.length_take]
      omega
    have hNx : trB N 32 = xNm B := by rw [← hN]; rfl
    have tt : ∀ W, Calls Tryd.prog 41 #[.string N, .string ⟨#[32]⟩] W fun e w' => e = .returned (.string (xNm B)) ∧ W = w' := fun W => by
      have := Tryd.strings_TrimRight_one N 32 (by decide) W (by omega)
      rw [← hNx]
      exact this.mono fun e w' h => ⟨h.1, h.2.symm⟩
    clear hN hNx hNs
    have H1 := H.put 1 (.string (xNm B))
    go_upto_region 5 with (go_at_call 41; (with_reducible refine (tt _).mono ?_); rintro r w9 ⟨rfl, rfl⟩)
    clear f0 f1 hf hcv tt H h0b i9 i1
    generalize (w2.setCell ⟨X, 1, none⟩ (.string (xNm B))) = w3 at H1 ⊢
    have w9 : IntKind.i64.wrap (gb B 9 : Int) = (gb B 9 : Int) := by have := gb_lt B 9; exact IntWalk.i64_in _ (by omega)
    have w10 : IntKind.i64.wrap (gb B 10 : Int) = (gb B 10 : Int) := by have := gb_lt B 10; exact IntWalk.i64_in _ (by omega)
    go_cut [25] (fun _ wx => E0 w wx X bb o g [.int .i64 (gb B 0 : Int), .string (xNm B), .int .i64 (gb B 9 : Int), .int .i64 (gb B 10 : Int), .slice none 0 0] B [.int .i64 (b : Int), .int .i64 (z : Int), .int .i64 (E : Int), .int .i64 (Y : Int), .slice A2 n c])
    case first =>
      have b9 := rr_byte H1.R hBl 9 (by decide)
      have b10 := rr_byte H1.R hBl 10 (by decide)
      have hf1 := fun j => H1.F.free j
      have f2 : (_ : Option Value) = some (.int .i64 0) := H1.F.cell 2 (by simp)
      have H2 := H1.put 2 (.int .i64 (gb B 9 : Int))
      have b10' := rr_byte H2.R hBl 10 (by decide)
      have hf2 := fun j => H2.F.free j
      have f3 : (_ : Option Value) = some (.int .i64 0) := H2.F.cell 3 (by simp)
      have f3' : (_ : Option Value) = some (.int .i64 0) := H1.F.cell 3 (by simp)
      have H3 := H2.put 3 (.int .i64 (gb B 10 : Int))
      go_region_with (fail)
      all_goals
        go_wp2_with fail
        go_meet
        exact E0.dr H3
    case rest =>
      clear H1 w9 w10
      have H3 := hcut
      clear hcut
      obtain ⟨w3, hw3⟩ : ∃ x, x = wc := ⟨_, rfl⟩
      subst hw3
      have b11 := rr_byte H3.R hBl 11 (by decide)
      obtain ⟨m, hm⟩ : ∃ m, gb B 11 = m := ⟨_, rfl⟩
      have hml := gb_lt B 11
      rw [hm] at b11 hml
      have w11 : IntKind.i64.wrap (m : Int) = (m : Int) := IntWalk.i64_in _ (by omega)
      obtain ⟨M, hM⟩ : ∃ M, min m 4 = M := ⟨_, rfl⟩
      have hmn : min (m : Int) 4 = (M : Int) := by omega
      have HM := Lib.hid (show min (gb B 11) 4 = M by rw [hm]; exact hM)
      have hM4 : M ≤ 4 := by omega
      clear hm hM
      go_wp2_with fail
      go_loopw [8, 40] (fun _ i wr => ∃ (L : List Int) (A5 : Option Addr) (c5 : Nat), i = .int .i64 (L.length : Int) ∧ L.length ≤ M ∧ Hid (L = xBl B L.length) ∧ E0 w wr X bb o g [.int .i64 (gb B 0 : Int), .string (xNm B), .int .i64 (gb B 9 : Int), .int .i64 (gb B 10 : Int), .slice A5 L.length c5] B [.int .i64 (b : Int), .int .i64 (z : Int), .int .i64 (E : Int), .int .i64 (Y : Int), .slice A2 n c] ∧ OO wr (X + 1) 2 1 (.slice A5 L.length c5) L.length (flat fI L)) (fun _ i _ => 4 - (intOf i).toNat)
      case atStart => exact ⟨[], none, 0, rfl, Nat.zero_le _, Lib.hid (by rw [List.length_nil, xBl_0]), H3, World.ownsRow_nil _ _ _ _⟩
      case round =>
        clear H3 b11 hmn w11
        obtain ⟨L, A5, c5, rfl, hLm, HL, H, O⟩ := hrel
        have hL4 : L.length ≤ 4 := by omega
        have fin : L.length = M → ∃ (A5 : Option Addr) (c5 : Nat), E0 w wr X bb o g [.int .i64 (xeR B).st, .string (xeR B).nm, .int .i64 (xeR B).nu, .int .i64 (xeR B).tl, .slice A5 (xeR B).bl.length c5] B [.int .i64 (b : Int), .int .i64 (z : Int), .int .i64 (E : Int), .int .i64 (Y : Int), .slice A2 n c] ∧ OO wr (X + 1) 2 1 (.slice A5 (xeR B).bl.length c5) (xeR B).bl.length (flat fI (xeR B).bl) := fun e => by
          rw [hR.out]
          have h9 := HL.out
          have h8 := HM.out
          rw [e] at h9
          rw [← h8] at h9
          exact ⟨A5, c5, by rw [← h9]; exact H, by rw [← h9]; exact O⟩
        by_cases h1 : L.length < M
        · have d1 : (L.length : Int) < (M : Int) := by omega
          obtain ⟨J, hJ⟩ : ∃ J, 12 + L.length = J := ⟨_, rfl⟩
          have hJw : IntKind.i64.wrap (12 + (L.length : Int)) = (J : Int) := by rw [IntWalk.i64_in _ (by omega)]; omega
          have hJi : (J : Int) < 16 := by omega
          have bJ := rr_byte H.R hBl J (by omega)
          obtain ⟨x, hx⟩ : ∃ x, gb B J = x := ⟨_, rfl⟩
          have hxl := gb_lt B J
          rw [hx] at bJ hxl
          have hxw : IntKind.i64.wrap (x : Int) = (x : Int) := IntWalk.i64_in _ (by omega)
          have HN := Lib.hid (show L ++ [(x : Int)] = xBl B (L ++ [(x : Int)]).length by
            rw [List.length_append, List.length_singleton, ← xBl_step (by omega)]
            have h9 := HL.out
            rw [← h9, ← hx, ← gb_get (by omega)]
            simp only [hJ])
          have hL1 : (L ++ [(x : Int)]).length = L.length + 1 := by rw [List.length_append]; rfl
          have hLn : L.length + 1 ≤ M := by omega
          have q4 : (_ : Option Value) = some (.slice A5 L.length c5) := H.F.cell 4 (by simp)
          have q4o := fun (o : Obj) => (show (_ : Option Value) = some (.slice A5 L.length c5) from (BX.al H.F o).cell 4 (by simp))
          have hkw : IntKind.i64.wrap ((L.length : Int) + 1) = ((L.length + 1 : Nat) : Int) := by rw [IntWalk.i64_in _ (by omega)]; omega
          have hby : 8 ≤ 1000 := by decide
          have hlb : L.length ≤ 100000000 := by omega
          have hbase : X + 1 ≤ wr.heap.size := H.F.lt
          have hrow : ∀ j, (Value.slice A5 L.length c5).ownBlock = some j → X + 1 ≤ j := fun j e => (World.ownsRow.lt (OOf O) j e).1
          clear hx HL fin h1 hJ
          go_wp2_with fail
          go_region_law (refine step_appG (w := wr.drew) (f := fI) rfl (.tmp 44) (.tmp 51) 55 rfl eltI hby (.slice A5 L.length c5) L L.length rfl rfl (OO.dr O) #[.int .i64 (x : Int)] 2 (x : Int) 1 rfl rfl rfl (oneInt _) hlb hbase ?_; intro v7 w7 O7 hg7 hat7 hbl7; obtain ⟨A7, c7, rfl⟩ := own_form O7; have H7 := (E0.al (E0.dr H) (.cells #[.int .i64 (x : Int)] 2)).row hg7 hrow; have p4 : (_ : Option Value) = some (.slice A5 L.length c5) := H7.F.cell 4 (by simp); have hf7 := fun j => H7.F.free j)
          all_goals
            rw [hL1] at O7
            have H8 := H7.put 4 (.slice A7 (L.length + 1) c7)
            have hv7 : (Value.slice A7 (L.length + 1) c7).ownBlock ≠ some X := fun e => by have := (World.ownsRow.lt O7 X e).1; omega
            have O8 : OO _ _ _ _ _ _ _ := OO.putne O7 (a := ⟨X, 4, none⟩) hv7 (.slice A7 (L.length + 1) c7)
            go_wp2_with fail
            go_roundw
            case rel => exact ⟨L ++ [(x : Int)], A7, c7, by rw [hL1]; rfl, by rw [hL1]; exact hLn, HN, by rw [hL1]; exact H8, by rw [hL1]; exact O8⟩
            case measure => simp [intOf]; omega
        · have d1 : ¬ (L.length : Int) < (M : Int) := by omega
          have hfin := fin (by omega)
          clear fin
          go_wp2_with fail
          go_meet
          exact hfin
  case rest =>
    clear hX
    obtain ⟨A5, c5, H, O⟩ := hcut
    obtain ⟨w3, hw3⟩ : ∃ x, x = wc := ⟨_, rfl⟩
    subst hw3
    have hX := H.hX
    obtain ⟨ok1, ok2, ok3, ok4, ok5, ok6, ok7, ok8, ok9⟩ := xeR_ok B
    have V0 := fun h => xeOk_v (s := (z : Int)) (B := B) h
    have V1 := fun h g => xeOk_b (s := (z : Int)) (B := B) h g
    have V2 := fun h g => xeOk_y (s := (z : Int)) (B := B) h g
    generalize xeR B = e at H O ok1 ok2 ok3 ok4 ok5 ok6 ok7 ok8 ok9 V0 V1 V2
    have hxl := xB_len ok1.1
    have x0 : (_ : Option Value) = some (.int .i64 e.st) := H.F.cell 0 (by simp)
    have x1 : (_ : Option Value) = some (.string e.nm) := H.F.cell 1 (by simp)
    have x2 : (_ : Option Value) = some (.int .i64 e.nu) := H.F.cell 2 (by simp)
    have x3 : (_ : Option Value) = some (.int .i64 e.tl) := H.F.cell 3 (by simp)
    have x4 : (_ : Option Value) = some (.slice A5 e.bl.length c5) := H.F.cell 4 (by simp)
    have va' := fun (W : World) (h1 : CP W g [.int .i64 (b : Int), .int .i64 (z : Int), .int .i64 (E : Int), .int .i64 (Y : Int), .slice A2 n c]) (h2 : RR W 1 A5 e.bl.length (flat fI e.bl)) => validX_any g c5 e A5 A2 b z E Y n c W h1 h2 ok1 ok2 ok9
    have hpe : ∀ (W : World), RR W 1 A5 e.bl.length (flat fI e.bl) → Calls Tryd.prog 77 #[.agg #[.int .i64 e.st, .string e.nm, .int .i64 e.nu, .int .i64 e.tl, .slice A5 e.bl.length c5]] W fun r w' => ∃ G c, r = .returned (.slice (some ⟨G, 0, none⟩) 16 c) ∧ RR w' 1 (some ⟨G, 0, none⟩) 16 (bcells (xB e)) ∧ Below W.heap.size W w' := fun W h2 => by
      refine (putExtent_any c5 e A5 W h2 ok1 ok2 ok9 ⟨ok3, ok4⟩ ⟨ok5, ok6⟩ ⟨ok7, ok8⟩).mono ?_
      rintro r w' ⟨G, c, rfl, hc, hG, M, hB⟩
      refine ⟨G, c, rfl, ?_, hB⟩
      have := Rd.of_mark M
      rwa [hxl] at this
    cases hV : xV (z : Int) e
    · have HR := V0 hV
      rw [hV] at va'
      have va := va' w3 H.D (RR.own (OOf O))
      clear V0 V1 V2 hV va'
      go_wp2_with ((go_simp; (go_at_call 76; (with_reducible refine va.mono ?_); rintro r w5 ⟨rfl, hx5⟩; have H5 := H.next hx5; have O5 : OO _ _ _ _ _ _ _ := OO.next O hx5; have y0 : (_ : Option Value) = some (.int .i64 e.st) := H5.F.cell 0 (by simp); have y1 : (_ : Option Value) = some (.string e.nm) := H5.F.cell 1 (by simp); have y2 : (_ : Option Value) = some (.int .i64 e.nu) := H5.F.cell 2 (by simp); have y3 : (_ : Option Value) = some (.int .i64 e.tl) := H5.F.cell 3 (by simp); have y4 : (_ : Option Value) = some (.slice A5 e.bl.length c5) := H5.F.cell 4 (by simp); have q0 : (_ : Option Value) = some (.int .i64 0) := H5.Z.cell 0 (by simp); have q1 : (_ : Option Value) = some (.string ⟨#[]⟩) := H5.Z.cell 1 (by simp); have q2 : (_ : Option Value) = some (.int .i64 0) := H5.Z.cell 2 (by simp); have q3 : (_ : Option Value) = some (.int .i64 0) := H5.Z.cell 3 (by simp); have q4 : (_ : Option Value) = some (.slice none 0 0) := H5.Z.cell 4 (by simp); have hfz5 := fun j => H5.Z.free j; have pe5 := hpe w5 (RR.own (OOf O5)))))
      have HF := H5
      clear O5 H5 pe5
      have HR := Lib.hid HR
      go_wp2_with fail
      refine bodyPost_ret (v := .tuple #[.agg #[.int .i64 0, .string ⟨#[]⟩, .int .i64 0, .int .i64 0, .slice none 0 0], .bool false]) (by simp [results, Tryd.results54, go_sem, World.cell?_setCell_other, q0, q1, q2, q3, q4]) rfl ⟨none, 0, by rw [HR.out.1, HR.out.2]; rfl, by rw [HR.out.2]; exact World.ownsRow_nil _ _ _ _, ?_⟩
      have hp : ∀ (W : World) (j : Nat) (u : Value), BB w W → BB w (W.setCell ⟨w.heap.size, j, none⟩ u) := fun W j u h => BB.put h (a := ⟨w.heap.size, j, none⟩) (Nat.le_refl _) u
      exact hp _ _ _ (hp _ _ _ (hp _ _ _ (hp _ _ _ (hp _ _ _ HF.Bw))))
    rw [hV] at va'
    have va := va' w3 H.D (RR.own (OOf O))
    have heq := fun (W : World) (G cG : Nat) (h1 : RR W 1 (some ⟨G, 0, none⟩) 16 (bcells (xB e))) (h2 : RR W 1 (some ⟨bb, o, none⟩) 16 (bcells B)) => equalB_any (some ⟨G, 0, none⟩) (some ⟨bb, o, none⟩) cG vc 16 (xB e) B W h1 h2 hxl hBl (by decide)
    clear va'
    by_cases hg2 : xB e = B
    · have HR := V2 hV hg2
      rw [decide_eq_true hg2] at heq
      clear V0 V1 V2 hV hg2
      go_wp2_with (first | (go_simp; (go_at_call 76; (with_reducible refine va.mono ?_); rintro r w5 ⟨rfl, hx5⟩; have H5 := H.next hx5; have O5 : OO _ _ _ _ _ _ _ := OO.next O hx5; have y0 : (_ : Option Value) = some (.int .i64 e.st) := H5.F.cell 0 (by simp); have y1 : (_ : Option Value) = some (.string e.nm) := H5.F.cell 1 (by simp); have y2 : (_ : Option Value) = some (.int .i64 e.nu) := H5.F.cell 2 (by simp); have y3 : (_ : Option Value) = some (.int .i64 e.tl) := H5.F.cell 3 (by simp); have y4 : (_ : Option Value) = some (.slice A5 e.bl.length c5) := H5.F.cell 4 (by simp); have q0 : (_ : Option Value) = some (.int .i64 0) := H5.Z.cell 0 (by simp); have q1 : (_ : Option Value) = some (.string ⟨#[]⟩) := H5.Z.cell 1 (by simp); have q2 : (_ : Option Value) = some (.int .i64 0) := H5.Z.cell 2 (by simp); have q3 : (_ : Option Value) = some (.int .i64 0) := H5.Z.cell 3 (by simp); have q4 : (_ : Option Value) = some (.slice none 0 0) := H5.Z.cell 4 (by simp); have hfz5 := fun j => H5.Z.free j; have pe5 := hpe w5 (RR.own (OOf O5)))) | (go_simp; (go_at_call 77; (with_reducible refine pe5.mono ?_); rintro r w6 ⟨G, cG, rfl, rG, hx6⟩; have H6 := H5.next hx6; have O6 : OO _ _ _ _ _ _ _ := OO.next O5 hx6; have eq6 := heq w6 G cG rG H6.R)) | (go_simp; (go_at_call 43; (with_reducible refine eq6.mono ?_); rintro r w7 ⟨rfl, hx7⟩; have H7 := H6.next hx7; have O7 : OO _ _ _ _ _ _ _ := OO.next O6 hx7; have x0 : (_ : Option Value) = some (.int .i64 e.st) := H7.F.cell 0 (by simp); have x1 : (_ : Option Value) = some (.string e.nm) := H7.F.cell 1 (by simp); have x2 : (_ : Option Value) = some (.int .i64 e.nu) := H7.F.cell 2 (by simp); have x3 : (_ : Option Value) = some (.int .i64 e.tl) := H7.F.cell 3 (by simp); have x4 : (_ : Option Value) = some (.slice A5 e.bl.length c5) := H7.F.cell 4 (by simp); have z0 : (_ : Option Value) = some (.int .i64 0) := H7.Z.cell 0 (by simp); have z1 : (_ : Option Value) = some (.string ⟨#[]⟩) := H7.Z.cell 1 (by simp); have z2 : (_ : Option Value) = some (.int .i64 0) := H7.Z.cell 2 (by simp); have z3 : (_ : Option Value) = some (.int .i64 0) := H7.Z.cell 3 (by simp); have z4 : (_ : Option Value) = some (.slice none 0 0) := H7.Z.cell 4 (by simp); have hfz := fun j => H7.Z.free j)))
      all_goals
        have HF := H7
        have OF := O7
        clear O5 H5 H6 O6
        have HR := Lib.hid HR
        have hXw : X ≠ w.heap.size := by omega
        go_wp2_with fail
        refine bodyPost_ret (v := .tuple #[.agg #[.int .i64 e.st, .string e.nm, .int .i64 e.nu, .int .i64 e.tl, .slice A5 e.bl.length c5], .bool true]) (by simp [results, Tryd.results54, go_sem, World.cell?_setCell_other, z0, z1, z2, z3, z4]) rfl ⟨A5, c5, by rw [HR.out.1, HR.out.2], ?_, ?_⟩
        · rw [HR.out.2]
          have hp : ∀ (W : World) (j : Nat) (u : Value), OO W (X + 1) 2 1 (.slice A5 e.bl.length c5) e.bl.length (flat fI e.bl) → OO (W.setCell ⟨w.heap.size, j, none⟩ u) (X + 1) 2 1 (.slice A5 e.bl.length c5) e.bl.length (flat fI e.bl) := fun W j u h => OO.put h (a := ⟨w.heap.size, j, none⟩) (by show w.heap.size < X + 1; omega) u
          exact own_base (OOf (hp _ _ _ (hp _ _ _ (hp _ _ _ (hp _ _ _ (hp _ _ _ OF)))))) (by omega)
        · have hp : ∀ (W : World) (j : Nat) (u : Value), BB w W → BB w (W.setCell ⟨w.heap.size, j, none⟩ u) := fun W j u h => BB.put h (a := ⟨w.heap.size, j, none⟩) (Nat.le_refl _) u
          exact hp _ _ _ (hp _ _ _ (hp _ _ _ (hp _ _ _ (hp _ _ _ HF.Bw))))
    · have HR := V1 hV hg2
      rw [decide_eq_false hg2] at heq
      clear V0 V1 V2 hV hg2
      go_wp2_with (first | (go_simp; (go_at_call 76; (with_reducible refine va.mono ?_); rintro r w5 ⟨rfl, hx5⟩; have H5 := H.next hx5; have O5 : OO _ _ _ _ _ _ _ := OO.next O hx5; have y0 : (_ : Option Value) = some (.int .i64 e.st) := H5.F.cell 0 (by simp); have y1 : (_ : Option Value) = some (.string e.nm) := H5.F.cell 1 (by simp); have y2 : (_ : Option Value) = some (.int .i64 e.nu) := H5.F.cell 2 (by simp); have y3 : (_ : Option Value) = some (.int .i64 e.tl) := H5.F.cell 3 (by simp); have y4 : (_ : Option Value) = some (.slice A5 e.bl.length c5) := H5.F.cell 4 (by simp); have q0 : (_ : Option Value) = some (.int .i64 0) := H5.Z.cell 0 (by simp); have q1 : (_ : Option Value) = some (.string ⟨#[]⟩) := H5.Z.cell 1 (by simp); have q2 : (_ : Option Value) = some (.int .i64 0) := H5.Z.cell 2 (by simp); have q3 : (_ : Option Value) = some (.int .i64 0) := H5.Z.cell 3 (by simp); have q4 : (_ : Option Value) = some (.slice none 0 0) := H5.Z.cell 4 (by simp); have hfz5 := fun j => H5.Z.free j; have pe5 := hpe w5 (RR.own (OOf O5)))) | (go_simp; (go_at_call 77; (with_reducible refine pe5.mono ?_); rintro r w6 ⟨G, cG, rfl, rG, hx6⟩; have H6 := H5.next hx6; have O6 : OO _ _ _ _ _ _ _ := OO.next O5 hx6; have eq6 := heq w6 G cG rG H6.R)) | (go_simp; (go_at_call 43; (with_reducible refine eq6.mono ?_); rintro r w7 ⟨rfl, hx7⟩; have H7 := H6.next hx7; have O7 : OO _ _ _ _ _ _ _ := OO.next O6 hx7; have x0 : (_ : Option Value) = some (.int .i64 e.st) := H7.F.cell 0 (by simp); have x1 : (_ : Option Value) = some (.string e.nm) := H7.F.cell 1 (by simp); have x2 : (_ : Option Value) = some (.int .i64 e.nu) := H7.F.cell 2 (by simp); have x3 : (_ : Option Value) = some (.int .i64 e.tl) := H7.F.cell 3 (by simp); have x4 : (_ : Option Value) = some (.slice A5 e.bl.length c5) := H7.F.cell 4 (by simp); have z0 : (_ : Option Value) = some (.int .i64 0) := H7.Z.cell 0 (by simp); have z1 : (_ : Option Value) = some (.string ⟨#[]⟩) := H7.Z.cell 1 (by simp); have z2 : (_ : Option Value) = some (.int .i64 0) := H7.Z.cell 2 (by simp); have z3 : (_ : Option Value) = some (.int .i64 0) := H7.Z.cell 3 (by simp); have z4 : (_ : Option Value) = some (.slice none 0 0) := H7.Z.cell 4 (by simp); have hfz := fun j => H7.Z.free j)))
      all_goals
        have HF := H7
        clear O5 H5 H6 O6
        have HR := Lib.hid HR
        go_wp2_with fail
        refine bodyPost_ret (v := .tuple #[.agg #[.int .i64 0, .string ⟨#[]⟩, .int .i64 0, .int .i64 0, .slice none 0 0], .bool false]) (by simp [results, Tryd.results54, go_sem, World.cell?_setCell_other, z0, z1, z2, z3, z4]) rfl ⟨none, 0, by rw [HR.out.1, HR.out.2]; rfl, by rw [HR.out.2]; exact World.ownsRow_nil _ _ _ _, ?_⟩
        have hp : ∀ (W : World) (j : Nat) (u : Value), BB w W → BB w (W.setCell ⟨w.heap.size, j, none⟩ u) := fun W j u h => BB.put h (a := ⟨w.heap.size, j, none⟩) (Nat.le_refl _) u
        exact hp _ _ _ (hp _ _ _ (hp _ _ _ (hp _ _ _ (hp _ _ _ HF.Bw))))
end Go.Proofs.YtbobehieaaaleaaDoor
namespace Go.Proofs.YtbobehieaaaleaaDoor
set_option linter.unusedVariables false
open Go.RowKit
set_option linter.unusedSimpArgs false

def eaB (l : List ByteArray) (x : Int) : List UInt8 := xRaw (jn l) (s0 l) x.toNat
/-- The entry that ExtentAt answers, and its code. -/
def eaC (l : List ByteArray) (x : Int) : Int := if exB l then (if inB x 0 ((l.length / 4 : Nat) - 1) then (if xeOk (s0 l : Int) (eaB l x) then 0 else 7) else 2) else 7
def eaE (l : List ByteArray) (x : Int) : XE := if exB l then (if inB x 0 ((l.length / 4 : Nat) - 1) then (if xeOk (s0 l : Int) (eaB l x) then xeR (eaB l x) else xe0) else xe0) else xe0
theorem ea_1 {l : List ByteArray} {x : Int} (h : exB l = false) : eaC l x = 7 ∧ eaE l x = xe0 := by simp only [eaC, eaE, h, if_true, Bool.false_eq_true, if_false, and_self]
theorem ea_2 {l : List ByteArray} {x E1 : Int} (h : exB l = true) (hE : ((l.length / 4 : Nat) : Int) - 1 = E1) (g : inB x 0 E1 = false) : eaC l x = 2 ∧ eaE l x = xe0 := by subst hE; simp only [eaC, eaE, h, g, if_true, Bool.false_eq_true, if_false, and_self]
theorem ea_3 {l : List ByteArray} {x E1 : Int} {z : Nat} {B : List UInt8} (h : exB l = true) (hE : ((l.length / 4 : Nat) : Int) - 1 = E1) (g : inB x 0 E1 = true) (hz : s0 l = z) (hB : eaB l x = B) (k : xeOk (z : Int) B = false) : eaC l x = 7 ∧ eaE l x = xe0 := by subst hE hz hB; simp only [eaC, eaE, h, g, k, if_true, Bool.false_eq_true, if_false, and_self]
theorem ea_4 {l : List ByteArray} {x E1 : Int} {z : Nat} {B : List UInt8} (h : exB l = true) (hE : ((l.length / 4 : Nat) : Int) - 1 = E1) (g : inB x 0 E1 = true) (hz : s0 l = z) (hB : eaB l x = B) (k : xeOk (z : Int) B = true) : eaC l x = 0 ∧ eaE l x = xeE (z : Int) B := by subst hE hz hB; simp only [eaC, eaE, xeE, h, g, k, if_true, Bool.false_eq_true, if_false, and_self]
theorem eaE_len (l : List ByteArray) (x : Int) : (eaE l x).bl.length ≤ 4 := by
  unfold eaE
  split
  · split
    · split
      · exact (xeR_ok (eaB l x)).1.1
      · exact Nat.zero_le _
    · exact Nat.zero_le _
  · exact Nat.zero_le _
theorem ex_yes {l : List ByteArray} (h : exB l = true) : blkB l = true := by
  rw [exB, Bool.and_eq_true] at h
  exact h.1
section
variable {w W : World} {vs : List Value}
theorem bb5 {w W : World} (h : BB w W) (u0 u1 u2 u3 u4 : Value) : BB w (((((W.setCell ⟨w.heap.size, 0, none⟩ u0).setCell ⟨w.heap.size, 1, none⟩ u1).setCell ⟨w.heap.size, 2, none⟩ u2).setCell ⟨w.heap.size, 3, none⟩ u3).setCell ⟨w.heap.size, 4, none⟩ u4) := by
  have hp : ∀ (W : World) (j : Nat) (u : Value), BB w W → BB w (W.setCell ⟨w.heap.size, j, none⟩ u) := fun W j u h => BB.put h (a := ⟨w.heap.size, j, none⟩) (Nat.le_refl _) u
  exact hp _ _ _ (hp _ _ _ (hp _ _ _ (hp _ _ _ (hp _ _ _ h))))
end

end Go.Proofs.YtbobehieaaaleaaDoor
namespace Go.Proofs.YtbobehieaaaleaaDoor
set_option linter.unusedVariables false
open Go.RowKit

def kb (x : ByteArray) : List UInt8 := x.data.toList
def mkb (x : List UInt8) : ByteArray := ⟨x.toArray⟩
theorem mk_kb (x : ByteArray) : mkb (kb x) = x := rfl
theorem kb_inj {x y : ByteArray} (h : kb x = kb y) : x = y := by rw [← mk_kb x, h, mk_kb]
/-- The names in order. -/
def sortN (l : List ByteArray) : List ByteArray := ((l.map kb).mergeSort fun x y => decide (x ≤ y)).map mkb
def ltN (t x : ByteArray) : Bool := Op.bytesLess x.toList t.toList
def insN (l : List ByteArray) (t : ByteArray) : List ByteArray := l.takeWhile (ltN t) ++ t :: l.dropWhile (ltN t)
theorem ltN_eq (t x : ByteArray) : ltN t x = decide (kb x < kb t) := by
  rw [ltN, bytesLess_eq, ByteArray.toList_eq, ByteArray.toList_eq]
  rfl
theorem insN_nil (t : ByteArray) : insN [] t = [t] := rfl
theorem insN_lt {t x : ByteArray} {l : List ByteArray} (h : ltN t x = true) : insN (x :: l) t = x :: insN l t := by
  rw [insN, List.takeWhile_cons, List.dropWhile_cons, if_pos h, if_pos h]
  rfl
theorem insN_ge {t x : ByteArray} {l : List ByteArray} (h : ltN t x = false) : insN (x :: l) t = t :: x :: l := by
  rw [insN, List.takeWhile_cons, List.dropWhile_cons, if_neg (by rw [h]; decide), if_neg (by rw [h]; decide)]
  rfl
theorem insN_perm (t : ByteArray) : ∀ l : List ByteArray, (insN l t).Perm (t :: l)
  | [] => .refl _
  | x :: l => by
    cases h : ltN t x
    · rw [insN_ge h]
    · rw [insN_lt h]
      exact ((insN_perm t l).cons x).trans (.swap _ _ _)
def leN (x y : ByteArray) : Prop := kb x ≤ kb y
theorem leN_trans {a b c : ByteArray} (h : leN a b) (g : leN b c) : leN a c := List.le_trans h g
theorem insN_sorted (t : ByteArray) : ∀ l : List ByteArray, l.Pairwise leN → (insN l t).Pairwise leN
  | [], _ => by simp [insN_nil]
  | x :: l, h => by
    obtain ⟨h1, h2⟩ := List.pairwise_cons.1 h
    cases hx : ltN t x
    · rw [insN_ge hx]
      rw [ltN_eq, decide_eq_false_iff_not] at hx
      have hx' : leN t x := hx
      refine List.pairwise_cons.2 ⟨fun y hy => ?_, h⟩
      rcases List.mem_cons.1 hy with rfl | hy
      · exact hx'
      · exact leN_trans hx' (h1 y hy)
    · rw [insN_lt hx]
      rw [ltN_eq, decide_eq_true_eq] at hx
      refine List.pairwise_cons.2 ⟨fun y hy => ?_, insN_sorted t l h2⟩
      rcases List.mem_cons.1 ((insN_perm t l).mem_iff.1 hy) with rfl | hy
      · exact List.le_of_lt hx
      · exact h1 y hy
theorem fold_sorted : ∀ (ns a : List ByteArray), a.Pairwise leN → (ns.foldl insN a).Pairwise leN
  | [], _, h => h
  | t :: ns, a, h => fold_sorted ns _ (insN_sorted t a h)
theorem fold_perm : ∀ (ns a : List ByteArray), (ns.foldl insN a).Perm (ns ++ a)
  | [], _ => .refl _
  | t :: ns, a => (fold_perm ns (insN a t)).trans (((insN_perm t a).append_left ns).trans List.perm_middle)
theorem sortN_perm (l : List ByteArray) : (sortN l).Perm l := by
  have h := (List.mergeSort_perm (l.map kb) fun x y => decide (x ≤ y)).map mkb
  rw [List.map_map, show mkb ∘ kb = id from funext mk_kb, List.map_id] at h
  exact h
theorem sortN_sorted (l : List ByteArray) : (sortN l).Pairwise leN := by
  rw [sortN, List.pairwise_map]
  refine List.Pairwise.imp ?_ (List.pairwise_mergeSort (le := fun x y => decide (x ≤ y)) (fun a b c h g => ?_) (fun a b => ?_) (l.map kb))
  · intro a b h
    exact of_decide_eq_true (p := a ≤ b) h
  · exact decide_eq_true (List.le_trans (of_decide_eq_true h) (of_decide_eq_true g))
  · rcases List.le_total a b with h | h <;> simp [h]
theorem fold_sort (ns : List ByteArray) : ns.foldl insN [] = sortN ns := by
  refine List.Perm.eq_of_pairwise (le := leN) (fun a b _ _ h g => ?_) (fold_sorted ns [] List.Pairwise.nil) (sortN_sorted ns) ?_
  · exact kb_inj (Std.le_antisymm h g)
  · have h := fold_perm ns []
    rw [List.append_nil] at h
    exact h.trans (sortN_perm ns).symm
theorem tw_dw {p : ByteArray → Bool} : ∀ (l : List ByteArray) (k : Nat), (∀ j, (hj : j < l.length) → j < k → p l[j] = true) → (k = l.length ∨ ∃ hk : k < l.length, p l[k] = false) → l.takeWhile p = l.take k ∧ l.dropWhile p = l.drop k
  | [], k, _, _ => by simp
  | x :: l, 0, _, h => by
    rcases h with h | ⟨_, h⟩
    · cases h
    · rw [List.getElem_cons_zero] at h
      rw [List.takeWhile_cons, List.dropWhile_cons, if_neg (by rw [h]; decide), if_neg (by rw [h]; decide)]
      exact ⟨rfl, rfl⟩
  | x :: l, k + 1, hf, h => by
    have hx : p x = true := hf 0 (by simp) (by omega)
    rw [List.takeWhile_cons, List.dropWhile_cons, if_pos hx, if_pos hx, List.take_succ_cons, List.drop_succ_cons]
    obtain ⟨h1, h2⟩ := tw_dw l k (fun j hj hjn => hf (j + 1) (by simp; omega) (by omega)) (by
      rcases h with h | ⟨hk, h⟩
      · left; simp at h; omega
      · right
        refine ⟨by simp at hk; omega, ?_⟩
        rwa [List.getElem_cons_succ] at h)
    rw [h1, h2]
    exact ⟨rfl, rfl⟩
theorem insN_at {l : List ByteArray} {t : ByteArray} {k : Nat} (h : l.takeWhile (ltN t) = l.take k ∧ l.dropWhile (ltN t) = l.drop k) : insN l t = l.take k ++ t :: l.drop k := by rw [insN, h.1, h.2]
/-- Inserts a name in order, once. -/
def insU (l : List ByteArray) (t : ByteArray) : List ByteArray := if (l.dropWhile (ltN t)).head? = some t then l else insN l t
theorem insU_yes {l : List ByteArray} {t : ByteArray} {k : Nat} (h : l.takeWhile (ltN t) = l.take k ∧ l.dropWhile (ltN t) = l.drop k) (hk : k < l.length) (e : l[k] = t) : insU l t = l := by
  have : (l.dropWhile (ltN t)).head? = some t := by rw [h.2, List.head?_drop, List.getElem?_eq_getElem hk, e]
  rw [insU, if_pos this]
theorem insU_no {l : List ByteArray} {t : ByteArray} {k : Nat} (h : l.takeWhile (ltN t) = l.take k ∧ l.dropWhile (ltN t) = l.drop k) (e : ∀ hk : k < l.length, l[k] ≠ t) : insU l t = l.take k ++ t :: l.drop k := by
  have : ¬ (l.dropWhile (ltN t)).head? = some t := by
    rw [h.2, List.head?_drop]
    intro e2
    obtain ⟨hk, e3⟩ := List.getElem?_eq_some_iff.1 e2
    exact e hk e3
  rw [insU, if_neg this, insN_at h]
section
variable {P : Program}
theorem flat_fS (l : List ByteArray) : flat fS l = l.map Value.string := by
  induction l with
  | nil => rfl
  | cons x l ih =>
    rw [List.map_cons, ← ih]
    rfl
theorem flat_enc (l : List ByteArray) : flat fS l = (l.map kb).map encStr := by
  rw [flat_fS, List.map_map]
  rfl
theorem src_str {W : World} {g k : Nat} {t e' : TypeId} (hk : P.underlying t = some (.slice e')) {l : List ByteArray} (hc : ∀ j, (hj : j < l.length) → W.cell? ⟨g, j, none⟩ = some (.string l[j])) (M : List ByteArray) (m c : Nat) (hm : m = M.length) (hM : ∀ j u, M[j]? = some u → l[k + j]? = some u) :
    Src P 1 t (.slice (some ⟨g, k, none⟩) m c) m (flat fS M) W := by
  subst hm
  refine Src.ofSlice _ hk ⟨g, k, none⟩ M.length c (flat fS M) (by rw [flat_fS, List.length_map, Nat.mul_one]) ?_ ?_
  · intro j u hj
    rw [flat_fS, List.getElem?_map] at hj
    obtain ⟨x, hx, rfl⟩ := Option.map_eq_some_iff.1 hj
    obtain ⟨hl, rfl⟩ := List.getElem?_eq_some_iff.1 (hM j x hx)
    rw [show (⟨g, k, none⟩ : Addr).add j = ⟨g, k + j, none⟩ by
      unfold Addr.add
      split
      · rename_i h0; subst h0; rfl
      · rfl]
    exact hc (k + j) hl
  · intro u hu
    rw [flat_fS] at hu
    obtain ⟨x, _, rfl⟩ := List.mem_map.1 hu
    rfl
theorem str_cells {W : World} {B g : Nat} {l : List ByteArray} (h : Rd W B 1 (some ⟨g, 0, none⟩) l.length (flat fS l)) (j : Nat) (hj : j < l.length) : W.cell? ⟨g, j, none⟩ = some (.string l[j]) := by
  obtain ⟨b, off, e, _, hc⟩ := h.at_ fS_len rfl j hj
  cases e
  have := hc 0 _ (by omega) rfl
  simpa using this
end
end Go.Proofs.YtbobehieaaaleaaDoor
namespace Go.Proofs.YtbobehieaaaleaaDoor
set_option linter.unusedVariables false
open Go.RowKit

set_option maxRecDepth 100000 in
set_option maxHeartbeats 4000000 in
theorem l17Name_any (g c : Nat) (l : List ByteArray) (t : ByteArray) (w : World) (hr : RR w 1 (some ⟨g, 0, none⟩) l.length (flat fS l)) (hg : g < w.heap.size) (hcap : l.length ≤ c) (hn : l.length ≤ 1000) :
    Calls Tryd.prog 24 #[.slice (some ⟨g, 0, none⟩) l.length c, .string t] w fun e w' => (e = .returned (.slice (some ⟨g, 0, none⟩) l.length c) ∧ w = w' ∧ insU l t = l) ∨ ∃ g' c', e = .returned (.slice (some ⟨g', 0, none⟩) (insU l t).length c') ∧ w'.ownsRow w.heap.size 9 1 (.slice (some ⟨g', 0, none⟩) (insU l t).length c') (insU l t).length (flat fS (insU l t)) ∧ Below w.heap.size w w' := by
  have HC := Lib.hid (str_cells hr)
  have hB := BB.start w
  go_enter Tryd.func24, Tryd.ntmps24
  go_upto_block 0 with fail
  go_cut [5] (fun i wx => w = wx ∧ ∃ k : Nat, i = .int .i64 (k : Int) ∧ k ≤ l.length ∧ Hid (l.takeWhile (ltN t) = l.take k ∧ l.dropWhile (ltN t) = l.drop k))
  case first =>
    go_wp2_with fail
    go_loop [5] (fun i => ∃ k : Nat, i = .int .i64 (k : Int) ∧ k ≤ l.length ∧ Hid (∀ j, (hj : j < l.length) → j < k → ltN t l[j] = true)) (fun i => l.length - (intOf i).toNat)
    case atStart => exact ⟨0, rfl, Nat.zero_le _, Lib.hid (fun j hj h => absurd h (by omega))⟩
    case round =>
      obtain ⟨k, rfl, hk, HI⟩ := hrel
      by_cases hlt : k < l.length
      · have hlti : (k : Int) < (l.length : Int) := by omega
        have hd : decide ((k : Int) < (l.length : Int)) = true := decide_eq_true hlti
        have ck := HC.out k hlt
        have HT : ltN t l[k] = true → Hid (∀ j, (hj : j < l.length) → j < k + 1 → ltN t l[j] = true) := fun h => Lib.hid (fun j hj h2 => by
          by_cases hjk : j = k
          · subst hjk; exact h
          · exact HI.out j hj (by omega))
        have HF : ltN t l[k] = false → Hid (l.takeWhile (ltN t) = l.take k ∧ l.dropWhile (ltN t) = l.drop k) := fun h => Lib.hid (tw_dw l k HI.out (Or.inr ⟨hlt, h⟩))
        obtain ⟨x, hx⟩ : ∃ x, l[k] = x := ⟨_, rfl⟩
        rw [hx] at ck HT HF
        clear hx
        cases hbl : Op.bytesLess x.toList t.toList
        · have HN := HF hbl
          clear HF HT
          go_wp2_with fail
          go_meet
          exact ⟨rfl, k, rfl, hk, HN⟩
        · have HN := HT hbl
          clear HF HT
          go_wp2_with fail
          go_round
          case rel => exact ⟨k + 1, by go_num, by omega, HN⟩
          case measure => simp [intOf]; omega
      · have hlti : ¬ (k : Int) < (l.length : Int) := by omega
        have hd : decide ((k : Int) < (l.length : Int)) = false := decide_eq_false hlti
        have HN := Lib.hid (tw_dw l k HI.out (Or.inl (by omega)))
        go_wp2_with fail
        go_meet
        exact ⟨rfl, k, rfl, hk, HN⟩
  case rest =>
    obtain ⟨rfl, k, rfl, hk, HI⟩ := hcut
    have HU := insU_yes (l := l) (t := t) (k := k) HI.out
    have HN := insU_no (l := l) (t := t) (k := k) HI.out
    by_cases hlt : k < l.length
    · have hlti : (k : Int) < (l.length : Int) := by omega
      have hd : decide ((k : Int) < (l.length : Int)) = true := decide_eq_true hlti
      have ck := HC.out k hlt
      by_cases he : l[k] = t
      · have HR := Lib.hid (HU hlt he)
        rw [he] at ck
        have hbe : (t.toList == t.toList) = true := by simp
        clear HU HN he
        go_wp2_with fail
        go_ret
        exact Or.inl ⟨rfl, rfl, HR.out⟩
      · have HNN := Lib.hid (HN (fun _ => he))
        have hbe : (l[k].toList == t.toList) = false := by
          rw [beq_eq_false_iff_ne]
          intro e
          rw [ByteArray.toList_eq, ByteArray.toList_eq] at e
          exact he (kb_inj e)
        obtain ⟨x, hx⟩ : ∃ x, l[k] = x := ⟨_, rfl⟩
        rw [hx] at ck hbe
        clear HU HN he hx
        go_upto_region 6 with fail
        clear hbe ck hd
        have HL := Lib.hid HNN.out
        clear HI
        have hown0 := own_lit0 (e := 9) (size := 1) w w.heap.size (Nat.le_refl _)
        have hw0 : ∀ j, (hj : j < l.length) → (w.alloc (.cells #[] 9)).cell? ⟨g, j, none⟩ = some (.string l[j]) := fun j hj => (Below.cell (BB.al hB (.cells #[] 9)) (p := ⟨g, j, none⟩) hg).trans (HC.out j hj)
        have hM1 : ∀ j u, (l.take k)[j]? = some u → l[0 + j]? = some u := fun j u h => by
          rw [List.getElem?_take] at h
          split at h
          · rwa [Nat.zero_add]
          · cases h
        have hk1 : k = (l.take k).length := by rw [List.length_take]; omega
        have HM2 := Lib.hid (show ∀ j u, (l.drop k)[j]? = some u → l[k + j]? = some u from fun j u h => by rwa [List.getElem?_drop] at h)
        have HK2 := Lib.hid (show l.length - k = (l.drop k).length by rw [List.length_drop])
        have hkc : k ≤ c := by omega
        have hkl : (k : Int) ≤ (l.length : Int) := by omega
        have s1 := src_str (P := Tryd.prog) (k := 0) (t := 22) Tryd.underlying22 hw0 (l.take k) k c hk1 hM1
        have HK1 := Lib.hid hk1
        clear hw0 hM1 hk1
        go_upto_region 7 with (at_builtin; go_must (refine wpList_app _ rfl _ _ _ _ rfl w.heap.size 9 _ 1 16 eltStr _ 0 [] rfl hown0 _ k (flat fS (l.take k)) rfl s1 (by unfold maxLen; omega) (by omega) (by rw [World.size_alloc]; omega) ?_); intro v3 w3 hown3 hg3 hat3; rw [Nat.zero_add, List.nil_append] at hown3; have hb3 := below_of_own hown0 (by rw [World.size_alloc]; omega) hg3)
        have hB3 : BB w w3 := Below.trans (BB.al hB (.cells #[] 9)) hb3
        have hown3 : w3.ownsRow w.heap.size 9 1 v3 (l.take k).length (flat fS (l.take k)) := by rw [← HK1.out]; exact hown3
        have hsz3 : w.heap.size ≤ w3.heap.size := Below.size hB3
        have htk : (l.take k).length ≤ 100000000 := by rw [← HK1.out]; omega
        clear s1 hown0 hb3 hg3 hat3
        obtain ⟨A3, c3, rfl⟩ := own_form hown3
        go_upto_region 8 with (at_builtin; go_must (refine wpList_appF (f := fS) rfl (.tmp 39) (.tmp 41) 22 rfl eltStr (by decide) _ (l.take k) rfl hown3 _ _ t 1 rfl (by rfl) rfl (fun u hu => by simp only [fS, List.mem_cons, List.not_mem_nil, or_false] at hu; subst hu; rfl) htk hsz3 ?_); intro v4 w4 hown4 hg4 hat4 hb4)
        have hB4 : BB w w4 := Below.trans hB3 hb4
        have hsz4 : w.heap.size ≤ w4.heap.size := Below.size hB4
        clear hown3 hg4 hat4 hb4 hsz3 htk
        have hw4 : ∀ j, (hj : j < l.length) → w4.cell? ⟨g, j, none⟩ = some (.string l[j]) := fun j hj => (Below.cell hB4 (p := ⟨g, j, none⟩) hg).trans (HC.out j hj)
        have HW4 := Lib.hid hw4
        clear hw4
        have hl4 : (l.take k ++ [t]).length + (l.length - k) ≤ 1001 := by rw [List.length_append, List.length_singleton, ← HK1.out]; omega
        have hl5 : ((l.take k ++ [t]).length + (l.length - k)) * 16 ≤ 140737488355328 := by omega
        have hl6 : (l.take k ++ [t]).length + (l.length - k) ≤ maxLen := by unfold maxLen; omega
        have fin0 : ∀ m v5 w5, m = l.length - k → w5.ownsRow w.heap.size 9 1 v5 ((l.take k ++ [t]).length + m) (flat fS (l.take k ++ [t]) ++ flat fS (l.drop k)) → BB w w5 → ∃ g' c', v5 = .slice (some ⟨g', 0, none⟩) (insU l t).length c' ∧ w5.ownsRow w.heap.size 9 1 (.slice (some ⟨g', 0, none⟩) (insU l t).length c') (insU l t).length (flat fS (insU l t)) ∧ Below w.heap.size w w5 := fun m v5 w5 hm h5 hB5 => by
          subst hm
          have e1 : (insU l t).length = (l.take k ++ [t]).length + (l.length - k) := by rw [HL.out, List.length_append, List.length_append, List.length_cons, List.length_singleton, ← HK2.out]; omega
          have e2 : flat fS (insU l t) = flat fS (l.take k ++ [t]) ++ flat fS (l.drop k) := by rw [HL.out, ← flat_append, List.append_assoc]; rfl
          rw [← e1, ← e2] at h5
          rcases h5.2 with ⟨_, h0⟩ | ⟨g', cap, cur, hv, _⟩
          · rw [e1, List.length_append, List.length_singleton] at h0
            omega
          · subst hv
            exact ⟨g', cap, rfl, h5, hB5⟩
        have fin := Lib.hid fin0
        clear HL fin0
        by_cases hck : c = k
        · have hkk : k = l.length := by omega
          have hnil : l.drop k = [] := List.drop_eq_nil_of_le (by omega)
          have s3 := src_str (P := Tryd.prog) (k := 0) (t := 22) Tryd.underlying22 HW4.out (l.drop k) 0 0 (by rw [hnil]; rfl) (fun j u h => by rw [hnil] at h; cases h)
          have hz : 0 = l.length - k := by omega
          have HZ := Lib.hid hz
          have hl4 : (l.take k ++ [t]).length + 0 ≤ 1001 := by omega
          have hl5 : ((l.take k ++ [t]).length + 0) * 16 ≤ 140737488355328 := by omega
          have hl6 : (l.take k ++ [t]).length + 0 ≤ maxLen := by unfold maxLen; omega
          subst hck
          clear hnil hkk HW4 HM2 HK1 HK2 hz
          go_wp2_with (at_builtin; go_must (refine wpList_app _ rfl _ _ _ _ rfl w.heap.size 9 _ 1 16 eltStr _ (l.take c ++ [t]).length (flat fS (l.take c ++ [t])) rfl hown4 _ 0 (flat fS (l.drop c)) rfl s3 hl6 hl5 hsz4 ?_); intro v5 w5 hown5 hg5 hat5; have hb5 := below_of_own hown4 hsz4 hg5)
          obtain ⟨g', c', rfl, h1, h2⟩ := fin.out _ _ _ HZ.out hown5 (Below.trans hB4 hb5)
          go_ret
          exact (Or.inr ⟨g', c', rfl, h1, h2⟩)
        · have s3 := src_str (P := Tryd.prog) (k := k) (t := 22) Tryd.underlying22 HW4.out (l.drop k) (l.length - k) (c - k) HK2.out HM2.out
          clear HW4 HM2 HK1 HK2
          go_wp2_with (at_builtin; go_must (refine wpList_app _ rfl _ _ _ _ rfl w.heap.size 9 _ 1 16 eltStr _ (l.take k ++ [t]).length (flat fS (l.take k ++ [t])) rfl hown4 _ (l.length - k) (flat fS (l.drop k)) rfl s3 hl6 hl5 hsz4 ?_); intro v5 w5 hown5 hg5 hat5; have hb5 := below_of_own hown4 hsz4 hg5)
          obtain ⟨g', c', rfl, h1, h2⟩ := fin.out _ _ _ rfl hown5 (Below.trans hB4 hb5)
          go_ret
          exact (Or.inr ⟨g', c', rfl, h1, h2⟩)
    · have hlti : ¬ (k : Int) < (l.length : Int) := by omega
      have hd : decide ((k : Int) < (l.length : Int)) = false := decide_eq_false hlti
      have HNN := Lib.hid (HN (fun h => absurd h hlt))
      clear HU HN
      go_upto_region 6 with fail
      clear hd
      have HL := Lib.hid HNN.out
      clear HI
      have hown0 := own_lit0 (e := 9) (size := 1) w w.heap.size (Nat.le_refl _)
      have hw0 : ∀ j, (hj : j < l.length) → (w.alloc (.cells #[] 9)).cell? ⟨g, j, none⟩ = some (.string l[j]) := fun j hj => (Below.cell (BB.al hB (.cells #[] 9)) (p := ⟨g, j, none⟩) hg).trans (HC.out j hj)
      have hM1 : ∀ j u, (l.take k)[j]? = some u → l[0 + j]? = some u := fun j u h => by
        rw [List.getElem?_take] at h
        split at h
        · rwa [Nat.zero_add]
        · cases h
      have hk1 : k = (l.take k).length := by rw [List.length_take]; omega
      have HM2 := Lib.hid (show ∀ j u, (l.drop k)[j]? = some u → l[k + j]? = some u from fun j u h => by rwa [List.getElem?_drop] at h)
      have HK2 := Lib.hid (show l.length - k = (l.drop k).length by rw [List.length_drop])
      have hkc : k ≤ c := by omega
      have hkl : (k : Int) ≤ (l.length : Int) := by omega
      have s1 := src_str (P := Tryd.prog) (k := 0) (t := 22) Tryd.underlying22 hw0 (l.take k) k c hk1 hM1
      have HK1 := Lib.hid hk1
      clear hw0 hM1 hk1
      go_upto_region 7 with (at_builtin; go_must (refine wpList_app _ rfl _ _ _ _ rfl w.heap.size 9 _ 1 16 eltStr _ 0 [] rfl hown0 _ k (flat fS (l.take k)) rfl s1 (by unfold maxLen; omega) (by omega) (by rw [World.size_alloc]; omega) ?_); intro v3 w3 hown3 hg3 hat3; rw [Nat.zero_add, List.nil_append] at hown3; have hb3 := below_of_own hown0 (by rw [World.size_alloc]; omega) hg3)
      have hB3 : BB w w3 := Below.trans (BB.al hB (.cells #[] 9)) hb3
      have hown3 : w3.ownsRow w.heap.size 9 1 v3 (l.take k).length (flat fS (l.take k)) := by rw [← HK1.out]; exact hown3
      have hsz3 : w.heap.size ≤ w3.heap.size := Below.size hB3
      have htk : (l.take k).length ≤ 100000000 := by rw [← HK1.out]; omega
      clear s1 hown0 hb3 hg3 hat3
      obtain ⟨A3, c3, rfl⟩ := own_form hown3
      go_upto_region 8 with (at_builtin; go_must (refine wpList_appF (f := fS) rfl (.tmp 39) (.tmp 41) 22 rfl eltStr (by decide) _ (l.take k) rfl hown3 _ _ t 1 rfl (by rfl) rfl (fun u hu => by simp only [fS, List.mem_cons, List.not_mem_nil, or_false] at hu; subst hu; rfl) htk hsz3 ?_); intro v4 w4 hown4 hg4 hat4 hb4)
      have hB4 : BB w w4 := Below.trans hB3 hb4
      have hsz4 : w.heap.size ≤ w4.heap.size := Below.size hB4
      clear hown3 hg4 hat4 hb4 hsz3 htk
      have hw4 : ∀ j, (hj : j < l.length) → w4.cell? ⟨g, j, none⟩ = some (.string l[j]) := fun j hj => (Below.cell hB4 (p := ⟨g, j, none⟩) hg).trans (HC.out j hj)
      have HW4 := Lib.hid hw4
      clear hw4
      have hl4 : (l.take k ++ [t]).length + (l.length - k) ≤ 1001 := by rw [List.length_append, List.length_singleton, ← HK1.out]; omega
      have hl5 : ((l.take k ++ [t]).length + (l.length - k)) * 16 ≤ 140737488355328 := by omega
      have hl6 : (l.take k ++ [t]).length + (l.length - k) ≤ maxLen := by unfold maxLen; omega
      have fin0 : ∀ m v5 w5, m = l.length - k → w5.ownsRow w.heap.size 9 1 v5 ((l.take k ++ [t]).length + m) (flat fS (l.take k ++ [t]) ++ flat fS (l.drop k)) → BB w w5 → ∃ g' c', v5 = .slice (some ⟨g', 0, none⟩) (insU l t).length c' ∧ w5.ownsRow w.heap.size 9 1 (.slice (some ⟨g', 0, none⟩) (insU l t).length c') (insU l t).length (flat fS (insU l t)) ∧ Below w.heap.size w w5 := fun m v5 w5 hm h5 hB5 => by
        subst hm
        have e1 : (insU l t).length = (l.take k ++ [t]).length + (l.length - k) := by rw [HL.out, List.length_append, List.length_append, List.length_cons, List.length_singleton, ← HK2.out]; omega
        have e2 : flat fS (insU l t) = flat fS (l.take k ++ [t]) ++ flat fS (l.drop k) := by rw [HL.out, ← flat_append, List.append_assoc]; rfl
        rw [← e1, ← e2] at h5
        rcases h5.2 with ⟨_, h0⟩ | ⟨g', cap, cur, hv, _⟩
        · rw [e1, List.length_append, List.length_singleton] at h0
          omega
        · subst hv
          exact ⟨g', cap, rfl, h5, hB5⟩
      have fin := Lib.hid fin0
      clear HL fin0
      by_cases hck : c = k
      · have hkk : k = l.length := by omega
        have hnil : l.drop k = [] := List.drop_eq_nil_of_le (by omega)
        have s3 := src_str (P := Tryd.prog) (k := 0) (t := 22) Tryd.underlying22 HW4.out (l.drop k) 0 0 (by rw [hnil]; rfl) (fun j u h => by rw [hnil] at h; cases h)
        have hz : 0 = l.length - k := by omega
        have HZ := Lib.hid hz
        have hl4 : (l.take k ++ [t]).length + 0 ≤ 1001 := by omega
        have hl5 : ((l.take k ++ [t]).length + 0) * 16 ≤ 140737488355328 := by omega
        have hl6 : (l.take k ++ [t]).length + 0 ≤ maxLen := by unfold maxLen; omega
        subst hck
        clear hnil hkk HW4 HM2 HK1 HK2 hz
        go_wp2_with (at_builtin; go_must (refine wpList_app _ rfl _ _ _ _ rfl w.heap.size 9 _ 1 16 eltStr _ (l.take c ++ [t]).length (flat fS (l.take c ++ [t])) rfl hown4 _ 0 (flat fS (l.drop c)) rfl s3 hl6 hl5 hsz4 ?_); intro v5 w5 hown5 hg5 hat5; have hb5 := below_of_own hown4 hsz4 hg5)
        obtain ⟨g', c', rfl, h1, h2⟩ := fin.out _ _ _ HZ.out hown5 (Below.trans hB4 hb5)
        go_ret
        exact (Or.inr ⟨g', c', rfl, h1, h2⟩)
      · have s3 := src_str (P := Tryd.prog) (k := k) (t := 22) Tryd.underlying22 HW4.out (l.drop k) (l.length - k) (c - k) HK2.out HM2.out
        clear HW4 HM2 HK1 HK2
        go_wp2_with (at_builtin; go_must (refine wpList_app _ rfl _ _ _ _ rfl w.heap.size 9 _ 1 16 eltStr _ (l.take k ++ [t]).length (flat fS (l.take k ++ [t])) rfl hown4 _ (l.length - k) (flat fS (l.drop k)) rfl s3 hl6 hl5 hsz4 ?_); intro v5 w5 hown5 hg5 hat5; have hb5 := below_of_own hown4 hsz4 hg5)
        obtain ⟨g', c', rfl, h1, h2⟩ := fin.out _ _ _ rfl hown5 (Below.trans hB4 hb5)
        go_ret
        exact (Or.inr ⟨g', c', rfl, h1, h2⟩)
end Go.Proofs.YtbobehieaaaleaaDoor
namespace Go.Proofs.YtbobehieaaaleaaDoor
set_option linter.unusedVariables false
open Go.RowKit

def ltB (x y : ByteArray) : Prop := kb x < kb y
theorem ltB_irr {x : ByteArray} (h : ltB x x) : False := List.lt_irrefl _ h
theorem ltB_trans {a b c : ByteArray} (h : ltB a b) (g : ltB b c) : ltB a c := List.lt_trans h g
theorem leN_cases {x y : ByteArray} (h : leN x y) (g : x ≠ y) : ltB x y := by
  rcases Classical.em (ltB x y) with h1 | h1
  · exact h1
  · exact absurd (kb_inj (Std.le_antisymm h (show kb y ≤ kb x from h1))) g
theorem insU_lt {t x : ByteArray} {l : List ByteArray} (h : ltN t x = true) : insU (x :: l) t = x :: insU l t := by
  unfold insU
  rw [List.dropWhile_cons, if_pos h, insN_lt h]
  split <;> rfl
theorem insU_eq {x : ByteArray} {l : List ByteArray} (h : ltN x x = false) : insU (x :: l) x = x :: l := by
  have e : List.dropWhile (ltN x) (x :: l) = x :: l := by
    rw [List.dropWhile_cons, h]
    rfl
  unfold insU
  rw [e, if_pos (by rfl)]
theorem insU_gt {t x : ByteArray} {l : List ByteArray} (h : ltN t x = false) (g : x ≠ t) : insU (x :: l) t = t :: x :: l := by
  have e : List.dropWhile (ltN t) (x :: l) = x :: l := by
    rw [List.dropWhile_cons, h]
    rfl
  unfold insU
  rw [e, insN_ge h, if_neg]
  intro e
  exact g (Option.some.inj e)
theorem insU_nil (t : ByteArray) : insU [] t = [t] := by
  unfold insU
  rw [if_neg (by simp)]
  rfl
theorem insU_ok (t : ByteArray) : ∀ l : List ByteArray, l.Pairwise ltB → (insU l t).Pairwise ltB ∧ ∀ y, y ∈ insU l t ↔ y = t ∨ y ∈ l
  | [], _ => by simp [insU_nil]
  | x :: l, h => by
    obtain ⟨h1, h2⟩ := List.pairwise_cons.1 h
    cases hx : ltN t x
    · have hx' : leN t x := by
        rw [ltN_eq, decide_eq_false_iff_not] at hx
        exact hx
      by_cases he : x = t
      · subst he
        rw [insU_eq hx]
        refine ⟨h, fun y => ?_⟩
        rw [List.mem_cons]
        constructor
        · intro g; exact Or.inr g
        · rintro (g | g)
          · exact Or.inl g
          · exact g
      · rw [insU_gt hx he]
        have h3 : ltB t x := leN_cases hx' (fun e => he e.symm)
        refine ⟨List.pairwise_cons.2 ⟨fun y hy => ?_, h⟩, fun y => by rw [List.mem_cons]⟩
        rcases List.mem_cons.1 hy with rfl | hy
        · exact h3
        · exact ltB_trans h3 (h1 y hy)
    · rw [insU_lt hx]
      obtain ⟨i1, i2⟩ := insU_ok t l h2
      rw [ltN_eq, decide_eq_true_eq] at hx
      refine ⟨List.pairwise_cons.2 ⟨fun y hy => ?_, i1⟩, fun y => ?_⟩
      · rcases (i2 y).1 hy with rfl | hy
        · exact hx
        · exact h1 y hy
      · rw [List.mem_cons, i2, List.mem_cons]
        constructor
        · rintro (g | g | g)
          · exact Or.inr (Or.inl g)
          · exact Or.inl g
          · exact Or.inr (Or.inr g)
        · rintro (g | g | g)
          · exact Or.inr (Or.inl g)
          · exact Or.inl g
          · exact Or.inr (Or.inr g)
theorem foldU_ok : ∀ (ns a : List ByteArray), a.Pairwise ltB → (ns.foldl insU a).Pairwise ltB ∧ ∀ y, y ∈ ns.foldl insU a ↔ y ∈ ns ∨ y ∈ a
  | [], _, h => ⟨h, fun y => by simp⟩
  | t :: ns, a, h => by
    obtain ⟨h1, h2⟩ := insU_ok t a h
    obtain ⟨h3, h4⟩ := foldU_ok ns _ h1
    refine ⟨h3, fun y => ?_⟩
    rw [List.foldl_cons, h4, h2, List.mem_cons]
    constructor
    · rintro (g | g | g)
      · exact Or.inl (Or.inr g)
      · exact Or.inl (Or.inl g)
      · exact Or.inr g
    · rintro ((g | g) | g)
      · exact Or.inr (Or.inl g)
      · exact Or.inl g
      · exact Or.inr (Or.inr g)
theorem cmp_ok (d : Array (List UInt8)) (hs : ∀ i j, i < j → j < d.size → d[i]! ≤ d[j]!) : ∀ m, m ≤ d.size → (Lib.compactUpTo d m).Pairwise (· < ·) ∧ (∀ x, x ∈ Lib.compactUpTo d m ↔ ∃ i, i < m ∧ d[i]! = x)
  | 0, _ => by
    refine ⟨List.Pairwise.nil, fun x => ?_⟩
    show x ∈ [] ↔ _
    simp
  | m + 1, h => by
    obtain ⟨h1, h2⟩ := cmp_ok d hs m (by omega)
    rw [Lib.compactUpTo_succ]
    cases hk : Lib.keeps d m
    · have hk' : ∃ j, j < m ∧ d[j]! = d[m]! := by
        have hk2 := of_decide_eq_false hk
        refine ⟨m - 1, ?_, ?_⟩
        · have : m ≠ 0 := fun e => hk2 (Or.inl e)
          omega
        · exact (Classical.byContradiction fun e => hk2 (Or.inr e) : d[m]! = d[m - 1]!).symm
      simp only [Bool.false_eq_true, if_false, List.append_nil]
      refine ⟨h1, fun x => ?_⟩
      rw [h2]
      constructor
      · rintro ⟨i, hi, e⟩
        exact ⟨i, by omega, e⟩
      · rintro ⟨i, hi, e⟩
        by_cases him : i = m
        · obtain ⟨j, hj, e2⟩ := hk'
          exact ⟨j, hj, by rw [e2, ← him, e]⟩
        · exact ⟨i, by omega, e⟩
    · simp only [if_true]
      refine ⟨?_, fun x => ?_⟩
      · rw [List.pairwise_append]
        refine ⟨h1, by simp, fun a ha b hb => ?_⟩
        rw [List.mem_singleton] at hb
        subst hb
        obtain ⟨i, hi, e⟩ := (h2 a).1 ha
        subst e
        have hm1 : d[i]! ≤ d[m - 1]! := by
          by_cases him : i = m - 1
          · rw [him]; exact List.le_refl _
          · exact hs i (m - 1) (by omega) (by omega)
        have hm2 : d[m - 1]! ≤ d[m]! := hs (m - 1) m (by omega) (by omega)
        have hne : d[m]! ≠ d[m - 1]! := by
          rcases of_decide_eq_true hk with g | g
          · omega
          · exact g
        rcases Classical.em (d[i]! < d[m]!) with g | g
        · exact g
        · exact absurd (Std.le_antisymm (show d[m]! ≤ d[m-1]! from List.le_trans g hm1) hm2) hne
      · rw [List.mem_append, h2, List.mem_singleton]
        constructor
        · rintro (⟨i, hi, e⟩ | e)
          · exact ⟨i, by omega, e⟩
          · exact ⟨m, by omega, e.symm⟩
        · rintro ⟨i, hi, e⟩
          by_cases him : i = m
          · exact Or.inr (by rw [← e, him])
          · exact Or.inl ⟨i, by omega, e⟩
/-- The names in order, each once. -/
def uniqB (ss : List (List UInt8)) : List (List UInt8) := Lib.compact (ss.mergeSort fun x y => decide (x ≤ y))
def uniqN (l : List ByteArray) : List ByteArray := (uniqB (l.map kb)).map mkb
theorem uniqB_ok (ss : List (List UInt8)) : (uniqB ss).Pairwise (· < ·) ∧ ∀ x, x ∈ uniqB ss ↔ x ∈ ss := by
  have hp : (ss.mergeSort fun x y => decide (x ≤ y)).Pairwise (fun a b => decide (a ≤ b) = true) := List.pairwise_mergeSort (le := fun x y => decide (x ≤ y)) (fun a b c h g => decide_eq_true (List.le_trans (of_decide_eq_true h) (of_decide_eq_true g))) (fun a b => by rcases List.le_total a b with h | h <;> simp [h]) ss
  unfold uniqB
  have hmem : ∀ x, x ∈ (ss.mergeSort fun x y => decide (x ≤ y)) ↔ x ∈ ss := fun x => List.mem_mergeSort
  generalize (ss.mergeSort fun x y => decide (x ≤ y)) = zs at hp hmem
  obtain ⟨h1, h2⟩ := cmp_ok zs.toArray (fun i j hij hj => by
    have hj' : j < zs.length := by simpa using hj
    have := List.pairwise_iff_getElem.1 hp i j (by omega) hj' hij
    simpa [getElem!_pos, show i < zs.length by omega, hj'] using this) zs.length (by simp)
  refine ⟨h1, fun x => ?_⟩
  show x ∈ Lib.compactUpTo zs.toArray zs.length ↔ _
  rw [h2, ← hmem, List.mem_iff_getElem]
  constructor
  · rintro ⟨i, hi, e⟩
    exact ⟨i, hi, by simpa [getElem!_pos, hi] using e⟩
  · rintro ⟨i, hi, e⟩
    exact ⟨i, hi, by simpa [getElem!_pos, hi] using e⟩
theorem uniqN_kb (l : List ByteArray) : (uniqN l).map kb = uniqB (l.map kb) := by
  rw [uniqN, List.map_map, show kb ∘ mkb = id from funext fun x => rfl, List.map_id]
theorem fold_uniq (ns : List ByteArray) : ns.foldl insU [] = uniqN ns := by
  obtain ⟨h1, h2⟩ := foldU_ok ns [] List.Pairwise.nil
  obtain ⟨h3, h4⟩ := uniqB_ok (ns.map kb)
  have h5 : (uniqN ns).Pairwise ltB := by
    have : ((uniqN ns).map kb).Pairwise (· < ·) := by rw [uniqN_kb]; exact h3
    rwa [List.pairwise_map] at this
  refine List.Perm.eq_of_pairwise (le := ltB) (fun a b _ _ h g => (ltB_irr (ltB_trans h g)).elim) h1 h5 ?_
  refine (List.perm_ext_iff_of_nodup (h1.imp fun {a b} (h : ltB a b) (e : a = b) => ltB_irr (e ▸ h)) (h5.imp fun {a b} (h : ltB a b) (e : a = b) => ltB_irr (e ▸ h))).2 fun y => ?_
  rw [h2]
  have e1 : y ∈ uniqN ns ↔ kb y ∈ uniqB (ns.map kb) := by
    rw [← uniqN_kb, List.mem_map]
    constructor
    · intro g; exact ⟨y, g, rfl⟩
    · rintro ⟨z, hz, e⟩
      rwa [← kb_inj e]
  rw [e1, h4, List.mem_map]
  constructor
  · rintro (g | g)
    · exact ⟨y, g, rfl⟩
    · cases g
  · rintro ⟨z, hz, e⟩
    rw [← kb_inj e]
    exact Or.inl hz
theorem uniqB_perm {a b : List (List UInt8)} (h : a.Perm b) : uniqB a = uniqB b := by unfold uniqB; rw [mergeSort_of_perm h]
theorem uniqN_len (l : List ByteArray) : (uniqN l).length ≤ l.length := by
  rw [uniqN, List.length_map, uniqB]
  refine Nat.le_trans (Lib.compact_length_le _) ?_
  rw [List.length_mergeSort, List.length_map]
  exact Nat.le_refl _

/-- The k-th entry of a disk, the empty one where it is wrong. -/
def xeK (J : List UInt8) (z k : Nat) : XE := xeE (z : Int) (xRaw J z k)
/-- The numbers of the used ones among the first k entries. -/
def usX (J : List UInt8) (z k : Nat) : List Nat := (List.range k).filter fun i => decide ((xeK J z i).st = 1)
theorem usX_0 (J : List UInt8) (z : Nat) : usX J z 0 = [] := rfl
theorem usX_y {J : List UInt8} {z k : Nat} (h : (xeK J z k).st = 1) : usX J z (k + 1) = usX J z k ++ [k] := by
  simp [usX, List.range_succ, List.filter_append, h]
theorem usX_n {J : List UInt8} {z k : Nat} (h : ¬ (xeK J z k).st = 1) : usX J z (k + 1) = usX J z k := by
  simp [usX, List.range_succ, List.filter_append, h]
theorem usX_mem {J : List UInt8} {z k i : Nat} : i ∈ usX J z k ↔ i < k ∧ (xeK J z i).st = 1 := by
  simp [usX, List.mem_filter, List.mem_range]
theorem usX_nodup (J : List UInt8) (z k : Nat) : (usX J z k).Nodup := List.Pairwise.filter _ List.nodup_range
theorem usX_len (J : List UInt8) (z k : Nat) : (usX J z k).length ≤ k := Nat.le_trans (List.length_filter_le _ _) (Nat.le_of_eq List.length_range)
def nmX (J : List UInt8) (z i : Nat) : ByteArray := (xeK J z i).nm
/-- The code and the names that ListExtents answers. -/
def lxC (l : List ByteArray) : Int := if exB l then 0 else 7
def lxL (l : List ByteArray) : List ByteArray := if exB l then uniqN ((usX (jn l) (s0 l) (l.length / 4)).map (nmX (jn l) (s0 l))) else []
theorem lx_1 {l : List ByteArray} (h : exB l = false) : lxC l = 7 ∧ lxL l = [] := by simp only [lxC, lxL, h, Bool.false_eq_true, if_false, and_self]
theorem lx_2 {l : List ByteArray} {J : List UInt8} {z E : Nat} (h : exB l = true) (hJ : jn l = J) (hz : s0 l = z) (hE : l.length / 4 = E) : lxC l = 0 ∧ lxL l = uniqN ((usX J z E).map (nmX J z)) := by
  subst hJ hz hE
  simp only [lxC, lxL, h, if_true, and_self]
theorem lxL_len {l : List ByteArray} (hn : l.length ≤ 1048576) : (lxL l).length ≤ 1048576 := by
  unfold lxL
  split
  · refine Nat.le_trans (uniqN_len _) ?_
    rw [List.length_map]
    exact Nat.le_trans (usX_len _ _ _) (by omega)
  · exact Nat.zero_le _
/-- An entry as a value. -/
structure XV where
  st : Int
  nm : ByteArray
  nu : Int
  tl : Int
  A : Option Addr
  n : Nat
  c : Nat
def xv (e : XV) : Value := .agg #[.int .i64 e.st, .string e.nm, .int .i64 e.nu, .int .i64 e.tl, .slice e.A e.n e.c]
/-- What is read of an entry in a map: its name. -/
def RxL : List Value → Option ByteArray
  | [.int .i64 _, .string nm, .int .i64 _, .int .i64 _, .slice _ _ _] => some nm
  | _ => none
def Rx : Value → Option (DataW Unit × List MemPlace)
  | .agg a => (RxL a.toList).map fun nm => (.lit (.string nm.data.toList), [])
  | _ => none
theorem Rx_xv (e : XV) : Rx (xv e) = some (.lit (.string e.nm.data.toList), []) := rfl
theorem RxL_inv (l : List Value) (nm : ByteArray) (h : RxL l = some nm) : ∃ e : XV, l = [.int .i64 e.st, .string e.nm, .int .i64 e.nu, .int .i64 e.tl, .slice e.A e.n e.c] := by
  unfold RxL at h
  split at h
  · exact ⟨⟨_, _, _, _, _, _, _⟩, rfl⟩
  · cases h
theorem Rx_inv (v : Value) (y : DataW Unit × List MemPlace) (h : Rx v = some y) : ∃ e, v = xv e := by
  cases v with
  | agg a =>
    obtain ⟨nm, hnm, _⟩ := Option.map_eq_some_iff.1 h
    obtain ⟨e, he⟩ := RxL_inv _ _ hnm
    refine ⟨e, ?_⟩
    have : a = #[.int .i64 e.st, .string e.nm, .int .i64 e.nu, .int .i64 e.tl, .slice e.A e.n e.c] := by
      apply Array.ext'
      rw [he]
    rw [this]
    rfl
  | _ => cases h
/-- What the map of the used entries holds. -/
def DX (J : List UInt8) (z : Nat) : Nat → DataW Unit
  | 0 => .map []
  | k + 1 => if (xeK J z k).st = 1 then (DX J z k).put (.int .i64 (k : Int)) (.lit (.string (nmX J z k).data.toList)) else DX J z k
theorem DX_y {J : List UInt8} {z k : Nat} (h : (xeK J z k).st = 1) : DX J z (k + 1) = (DX J z k).put (.int .i64 (k : Int)) (.lit (.string (nmX J z k).data.toList)) := by rw [DX, if_pos h]
theorem DX_n {J : List UInt8} {z k : Nat} (h : ¬ (xeK J z k).st = 1) : DX J z (k + 1) = DX J z k := by rw [DX, if_neg h]
theorem DX_map (J : List UInt8) (z : Nat) : ∀ k, Maps.IsMap (DX J z k)
  | 0 => Maps.isMap_empty
  | k + 1 => by
    rw [DX]
    split
    · exact (DX_map J z k).put _ _
    · exact DX_map J z k
theorem DX_has (J : List UInt8) (z : Nat) : ∀ (k : Nat) (x : Int), Maps.has (DX J z k) (.int .i64 x) = true ↔ ∃ i : Nat, (i : Int) = x ∧ i ∈ usX J z k
  | 0, x => by
    rw [usX_0]
    constructor
    · intro h; cases h
    · rintro ⟨i, _, h⟩; cases h
  | k + 1, x => by
    by_cases h : (xeK J z k).st = 1
    · rw [DX_y h, usX_y h]
      by_cases hx : x = (k : Int)
      · subst hx
        rw [Maps.has_put_same (DX_map J z k) (show WideAt.IsKeyLit (.int .i64 (k : Int)) from trivial)]
        exact ⟨fun _ => ⟨k, rfl, by simp⟩, fun _ => rfl⟩
      · rw [Maps.has_put_other (by intro e; injection e with e1 e2; exact hx e2), DX_has J z k x]
        constructor
        · rintro ⟨i, hi, hm⟩
          exact ⟨i, hi, by simp [hm]⟩
        · rintro ⟨i, hi, hm⟩
          rcases List.mem_append.1 hm with hm | hm
          · exact ⟨i, hi, hm⟩
          · rw [List.mem_singleton] at hm
            exact absurd (by rw [← hi, hm]) hx
    · rw [DX_n h, usX_n h]
      exact DX_has J z k x
theorem DX_at (J : List UInt8) (z : Nat) : ∀ (k i : Nat), i ∈ usX J z k → ∀ zd, (DX J z k).atKey (.int .i64 (i : Int)) zd = .lit (.string (nmX J z i).data.toList)
  | 0, i, h, _ => by rw [usX_0] at h; cases h
  | k + 1, i, hm, zd => by
    by_cases h : (xeK J z k).st = 1
    · rw [DX_y h]
      rw [usX_y h] at hm
      by_cases hx : i = k
      · subst hx
        exact Maps.atKey_put_same (DX_map J z i) (show WideAt.IsKeyLit (.int .i64 (i : Int)) from trivial) _ _
      · rw [Maps.atKey_put_other (by intro e; injection e with e1 e2; exact hx (by omega))]
        refine DX_at J z k i ?_ zd
        rcases List.mem_append.1 hm with hm | hm
        · exact hm
        · rw [List.mem_singleton] at hm
          exact absurd hm hx
    · rw [DX_n h]
      rw [usX_n h] at hm
      exact DX_at J z k i hm zd
/-- The numbers met so far in a range over the map. -/
def CoX (J : List UInt8) (z E : Nat) (left : Lit → Bool) (ks : List Nat) : Prop := ks.Nodup ∧ ∀ i, i ∈ ks ↔ (i ∈ usX J z E ∧ left (.int .i64 (i : Int)) = false)
theorem CoX_start (J : List UInt8) (z E : Nat) : CoX J z E (Maps.has (DX J z E)) [] := ⟨List.nodup_nil, fun i => by
  constructor
  · intro h; cases h
  · rintro ⟨h1, h2⟩
    rw [(DX_has J z E (i : Int)).2 ⟨i, rfl, h1⟩] at h2
    cases h2⟩
theorem CoX_step {J : List UInt8} {z E : Nat} {left : Lit → Bool} {ks : List Nat} (h : CoX J z E left ks) {x : Int} {y : DataW Unit} (hl : left (.int .i64 x) = true) (hat : ∀ zd, (DX J z E).atKey (.int .i64 x) zd = y) :
    ∃ i : Nat, x = (i : Int) ∧ y = .lit (.string (nmX J z i).data.toList) ∧ CoX J z E (fun q => left q && !q.sameKey (.int .i64 x)) (ks ++ [i]) := by
  have hhas := Maps.has_true_of_atKey hat
  obtain ⟨i, rfl, hi⟩ := (DX_has J z E x).1 hhas
  refine ⟨i, rfl, by rw [← hat (.lit (.bool true)), DX_at J z E i hi], ?_, fun j => ?_⟩
  · refine List.nodup_append.2 ⟨h.1, by simp, fun a ha b hb => ?_⟩
    rw [List.mem_singleton] at hb
    subst hb
    intro e
    subst e
    rw [((h.2 a).1 ha).2] at hl
    cases hl
  · by_cases hj : j = i
    · subst hj
      simp [hi, Lit.sameKey]
    · have : ¬ (j : Int) = (i : Int) := by omega
      simp [h.2 j, hj, Lit.sameKey, this]
theorem CoX_perm {J : List UInt8} {z E : Nat} {left : Lit → Bool} {ks : List Nat} (h : CoX J z E left ks) (hl : ∀ q, left q = false) : ks.Perm (usX J z E) :=
  (List.perm_ext_iff_of_nodup h.1 (usX_nodup J z E)).2 fun i => by rw [h.2, hl]; simp
end Go.Proofs.YtbobehieaaaleaaDoor
namespace Go.Proofs.YtbobehieaaaleaaDoor
set_option linter.unusedVariables false
open Go.RowKit

def toI (l : List Nat) : List Int := l.map fun (i : Nat) => (i : Int)
theorem toI_len (l : List Nat) : (toI l).length = l.length := List.length_map _
theorem toI_snoc (l : List Nat) (k : Nat) : toI (l ++ [k]) = toI l ++ [(k : Int)] := by simp [toI]
theorem xeK_n {J : List UInt8} {z k : Nat} (h : xeOk (z : Int) (xRaw J z k) = false) : ¬ (xeK J z k).st = 1 := by
  have e : xeE (z : Int) (xRaw J z k) = xe0 := by
    unfold xeE
    rw [h]
    rfl
  rw [xeK, e]
  decide
theorem l17Name_own (B g c : Nat) (l : List ByteArray) (t : ByteArray) (w : World) (O : w.ownsRow B 9 1 (.slice (some ⟨g, 0, none⟩) l.length c) l.length (flat fS l)) (hB : B ≤ w.heap.size) (hn : l.length ≤ 1000) :
    Calls Tryd.prog 24 #[.slice (some ⟨g, 0, none⟩) l.length c, .string t] w fun e w' => ∃ g' c', e = .returned (.slice (some ⟨g', 0, none⟩) (insU l t).length c') ∧ w'.ownsRow B 9 1 (.slice (some ⟨g', 0, none⟩) (insU l t).length c') (insU l t).length (flat fS (insU l t)) ∧ Below w.heap.size w w' := by
  refine (l17Name_any g c l t w (RR.own O) (World.ownsRow.lt O g rfl).2 (own_capX O) hn).mono ?_
  rintro e w' (⟨rfl, rfl, h⟩ | ⟨g', c', rfl, h1, h2⟩)
  · rw [h]
    exact ⟨g, c, rfl, O, Below.refl _ _⟩
  · exact ⟨g', c', rfl, own_base h1 hB, h2⟩
theorem hs_room {z E n k : Nat} (hs : z = 8 ∨ z = 16 ∨ z = 32) (hE : n / 4 = E) (hk : k < E) : z + 16 * (k + 1) ≤ n * z := by
  rcases hs with rfl | rfl | rfl <;> omega
set_option maxRecDepth 100000 in
set_option maxHeartbeats 8000000 in
theorem l17Used_any (g b z E Y : Nat) (A : Option Addr) (cp : Nat) (l : List ByteArray) (w : World) (d : CP w g [.int .i64 (b : Int), .int .i64 (z : Int), .int .i64 (E : Int), .int .i64 (Y : Int)]) (hr : RR w 1 A l.length (flat fS l)) (hs : z = 8 ∨ z = 16 ∨ z = 32) (hl : ∀ x ∈ l, x.size = z) (hn : l.length ≤ 128) (hE : l.length / 4 = E) :
    Calls Tryd.prog 22 #[.slice A l.length cp, .pointer (some ⟨g, 0, none⟩), .string ⟨#[]⟩] w fun r w' => ∃ v, r = .returned v ∧ w'.ownsRow w.heap.size 2 1 v (toI (usX (jn l) z E)).length (flat fI (toI (usX (jn l) z E))) ∧ Below w.heap.size w w' := by
  have hg : g < w.heap.size := (cell_spot (d 0 (by simp))).2
  have hE32 : E ≤ 32 := by omega
  obtain ⟨J, hJ⟩ : ∃ J, jn l = J := ⟨_, rfl⟩
  rw [hJ]
  have AT := Lib.hid (fun (k : Nat) (W : World) (hb : BB w W) (hk : k < E) => (show Calls Tryd.prog 23 #[.slice A l.length cp, .pointer (some ⟨g, 0, none⟩), .int .i64 (k : Int)] W fun r w' => ∃ A c, r = .returned (.tuple #[.agg #[.int .i64 (xeK J z k).st, .string (xeK J z k).nm, .int .i64 (xeK J z k).nu, .int .i64 (xeK J z k).tl, .slice A (xeK J z k).bl.length c], .bool (xeOk (z : Int) (xRaw J z k))]) ∧ w'.ownsRow W.heap.size 2 1 (.slice A (xeK J z k).bl.length c) (xeK J z k).bl.length (flat fI (xeK J z k).bl) ∧ BB W w' from by
    rw [← hJ]
    exact l17At_any g b z E Y A cp l k W (fun j hj => (Below.cell hb (p := ⟨g, j, none⟩) hg).trans (d j hj)) (RR.back hr hb) hs hl hn (hs_room hs hE hk)))
  have hlit := own_lit0 (e := 2) (size := 1) w w.heap.size (Nat.le_refl _)
  have hB0 : BB w (w.alloc (.cells #[] 2)) := BB.al (BB.start w) _
  have HD := Lib.hid d
  clear hr hs hl hn hE hJ d
  go_enter Tryd.func22, Tryd.ntmps22
  go_wp2_with fail
  generalize hW1 : w.alloc (.cells #[] 2) = w2 at hlit hB0 ⊢
  clear hW1
  go_loopw [7, 8] (fun v i wr => ∃ (k : Nat) (A6 : Option Addr) (c6 : Nat) (L : List Int), i = .int .i64 (k : Int) ∧ k ≤ E ∧ v = .slice A6 L.length c6 ∧ L.length ≤ k ∧ Hid (L = toI (usX J z k)) ∧ wr.ownsRow w.heap.size 2 1 v L.length (flat fI L) ∧ BB w wr) (fun _ i _ => E - (intOf i).toNat)
  case atStart => exact ⟨0, _, _, [], rfl, Nat.zero_le _, rfl, Nat.zero_le _, Lib.hid rfl, hlit, hB0⟩
  case round =>
    clear hlit hB0
    obtain ⟨k, A6, c6, L, rfl, hk, rfl, hLk, HI, O, hB⟩ := hrel
    have d2 : (_ : Option Value) = some (.int .i64 (E : Int)) := (Below.cell hB (p := ⟨g, 2, none⟩) hg).trans (HD.out 2 (by simp))
    by_cases hlt : k < E
    · have hlti : (k : Int) < (E : Int) := by omega
      have hd : decide ((k : Int) < (E : Int)) = true := decide_eq_true hlti
      have at1 := AT.out k wr hB hlt
      have HN := fun h => usX_n (J := J) (z := z) (k := k) h
      have HY := fun h => usX_y (J := J) (z := z) (k := k) h
      have HX := fun h => xeK_n (J := J) (z := z) (k := k) h
      generalize xeK J z k = e at at1 HN HY HX
      generalize xeOk (z : Int) (xRaw J z k) = ok at at1 HX
      have stay : usX J z (k + 1) = usX J z k → Hid (L = toI (usX J z (k + 1))) := fun h => Lib.hid (by rw [h]; exact HI.out)
      cases ok
      · have HU := stay (HN (HX rfl))
        clear HN HY HX stay
        go_wp2_with (go_at_call 23; (with_reducible refine at1.mono ?_); rintro r w3 ⟨A3, c3, rfl, O3, hx3⟩; have O4 : OO _ _ _ _ _ _ _ := OO.next O hx3; have hB4 : BB w w3 := BB.next hB hx3)
        go_roundw
        case rel => exact ⟨k + 1, A6, c6, L, by go_num, by omega, rfl, by omega, HU, OOf (OO.al O4 _), BB.al hB4 _⟩
        case measure => simp [intOf]; omega
      · by_cases hst : e.st = 1
        · have hsb : (e.st == 1) = true := by simpa using hst
          have HU := Lib.hid (show L ++ [(k : Int)] = toI (usX J z (k + 1)) by rw [HY hst, toI_snoc, ← HI.out])
          have HIL := Lib.hid (show (L ++ [(k : Int)]).length = L.length + 1 by rw [List.length_append]; rfl)
          have hL16 : L.length ≤ 100000000 := by omega
          clear HN HY HX stay hst
          go_wp2_with (first
            | (go_at_call 23; (with_reducible refine at1.mono ?_); rintro r w3 ⟨A3, c3, rfl, O3, hx3⟩; have O4 := fun (o : Obj) => (OOf (OO.al (OO.next O hx3) o)); have hB4 := fun (o : Obj) => (BB.al (BB.next hB hx3) o); have hz4 := fun (o : Obj) => Below.size (hB4 o))
            | (at_builtin; go_must (refine wpList_appF (f := fI) rfl (.tmp 43) (.tmp 45) 55 rfl eltI (by decide) _ L rfl (O4 _) _ _ (k : Int) 1 (by rw [World.size_alloc]; rfl) (by rfl) rfl (oneInt _) hL16 (hz4 _) ?_); intro v5 w5 O5 hg5 hat5 hb5; obtain ⟨A5, c5, rfl⟩ := own_form O5; have hB5 := Below.trans (hB4 _) hb5))
          go_roundw
          case rel => exact ⟨k + 1, A5, c5, L ++ [(k : Int)], by go_num, by omega, by rw [HIL.out], by have := HIL.out; omega, HU, by have h9 := O5; rw [HIL.out] at h9 ⊢; exact h9, hB5⟩
          case measure => simp [intOf]; omega
        · have hsb : (e.st == 1) = false := by simpa using hst
          have HU := stay (HN hst)
          clear HN HY HX stay hst
          go_wp2_with (go_at_call 23; (with_reducible refine at1.mono ?_); rintro r w3 ⟨A3, c3, rfl, O3, hx3⟩; have O4 : OO _ _ _ _ _ _ _ := OO.next O hx3; have hB4 : BB w w3 := BB.next hB hx3)
          go_roundw
          case rel => exact ⟨k + 1, A6, c6, L, by go_num, by omega, rfl, by omega, HU, OOf (OO.al O4 _), BB.al hB4 _⟩
          case measure => simp [intOf]; omega
    · have hlti : ¬ (k : Int) < (E : Int) := by omega
      have hd : decide ((k : Int) < (E : Int)) = false := decide_eq_false hlti
      have HR := Lib.hid (show toI (usX J z E) = L by rw [show E = k by omega]; exact HI.out.symm)
      go_wp2_with fail
      go_ret
      exact ⟨_, rfl, by rw [HR.out]; exact O, hB⟩
set_option maxRecDepth 100000 in
set_option maxHeartbeats 8000000 in
theorem spec_ListExtents_any (A : Option Addr) (cp : Nat) (l : List ByteArray) (w : World) (h : Rd w w.heap.size 1 A l.length (flat fS l)) (hn : l.length ≤ 1048576) :
    Calls Tryd.prog 11 #[.slice A l.length cp] w fun e w' => ∃ v, e = .returned (.tuple #[v, .int .i64 (lxC l)]) ∧ w'.ownsRow w.heap.size 9 1 v (lxL l).length (flat fS (lxL l)) ∧ Below w.heap.size w w' := by
  have con := l17On_any A cp l w h hn
  cases hex : exB l
  · rw [hex] at con
    simp only [loN, Bool.false_eq_true, if_false] at con
    have HR := Lib.hid (lx_1 hex)
    clear hex
    go_enter Tryd.func11, Tryd.ntmps11
    go_wp2_with (go_at_call 21; (with_reducible refine con.mono ?_); rintro r w1 ⟨rfl, hx1⟩; have hB1 : BB w w1 := hx1)
    (try simp only [Exit.inBlock, Exit.then])
    refine bodyPost_ret (results_tmp2 rfl _ _ _) rfl ?_
    exact ⟨_, by first | (rw [HR.out.1]; rfl) | rw [HR.out.1], by rw [HR.out.2]; exact World.ownsRow_nil _ _ _ _, BB.al hB1 _⟩
  obtain ⟨n8, n128, s3, hall⟩ := blk_yes (ex_yes hex)
  rw [hex] at con
  simp only [loN, if_true] at con
  obtain ⟨z, hz⟩ : ∃ z, s0 l = z := ⟨_, rfl⟩
  obtain ⟨E, hE⟩ : ∃ E, l.length / 4 = E := ⟨_, rfl⟩
  obtain ⟨Y, hY⟩ : ∃ Y, exD l.length (s0 l) = Y := ⟨_, rfl⟩
  obtain ⟨J, hJ⟩ : ∃ J, jn l = J := ⟨_, rfl⟩
  have HR := Lib.hid (lx_2 hex hJ hz hE)
  rw [hY, hz, hE] at con
  rw [hz] at s3 hall
  have hE32 : E ≤ 32 := by omega
  have US := Lib.hid (fun (g : Nat) (W : World) (hb : BB w W) (d : CP W g [.int .i64 (l.length : Int), .int .i64 (z : Int), .int .i64 (E : Int), .int .i64 (Y : Int)]) => (show Calls Tryd.prog 22 #[.slice A l.length cp, .pointer (some ⟨g, 0, none⟩), .string ⟨#[]⟩] W fun r w' => ∃ v, r = .returned v ∧ w'.ownsRow W.heap.size 2 1 v (toI (usX J z E)).length (flat fI (toI (usX J z E))) ∧ Below W.heap.size W w' from by
    rw [← hJ]
    exact l17Used_any g l.length z E Y A cp l W d (RR.back h hb) s3 hall n128 hE))
  have AT := Lib.hid (fun (g k : Nat) (W : World) (hb : BB w W) (d : CP W g [.int .i64 (l.length : Int), .int .i64 (z : Int), .int .i64 (E : Int), .int .i64 (Y : Int)]) (hk : k < E) => (show Calls Tryd.prog 23 #[.slice A l.length cp, .pointer (some ⟨g, 0, none⟩), .int .i64 (k : Int)] W fun r w' => ∃ A c, r = .returned (.tuple #[.agg #[.int .i64 (xeK J z k).st, .string (xeK J z k).nm, .int .i64 (xeK J z k).nu, .int .i64 (xeK J z k).tl, .slice A (xeK J z k).bl.length c], .bool (xeOk (z : Int) (xRaw J z k))]) ∧ w'.ownsRow W.heap.size 2 1 (.slice A (xeK J z k).bl.length c) (xeK J z k).bl.length (flat fI (xeK J z k).bl) ∧ BB W w' from by
    rw [← hJ]
    exact l17At_any g l.length z E Y A cp l k W d (RR.back h hb) s3 hall n128 (hs_room s3 hE hk)))
  clear hex hz hE hY hJ s3 hall n8 n128
  go_enter Tryd.func11, Tryd.ntmps11
  go_upto_region 4 with (go_at_call 21; (with_reducible refine con.mono ?_); rintro r w1 ⟨rfl, hx1⟩; have hB1 : BB w w1 := hx1)
  clear con
  have D1 := CP.made w1 [.int .i64 (l.length : Int), .int .i64 (z : Int), .int .i64 (E : Int), .int .i64 (Y : Int)] 52
  have hB2 := BB.al hB1 (.cells #[.int .i64 (l.length : Int), .int .i64 (z : Int), .int .i64 (E : Int), .int .i64 (Y : Int)] 52)
  generalize hW2 : w1.alloc (.cells #[.int .i64 (l.length : Int), .int .i64 (z : Int), .int .i64 (E : Int), .int .i64 (Y : Int)] 52) = w2 at D1 hB2 ⊢
  generalize w1.heap.size = g at D1 ⊢
  clear hW2 hB1 hx1
  have hz2 : w.heap.size ≤ w2.heap.size := Below.size hB2
  have hlit := own_lit0 (e := 9) (size := 1) w2 w.heap.size hz2
  have D2 := CP.al D1 (.cells #[] 9)
  have hB3 := BB.al hB2 (.cells #[] 9)
  have us1 := US.out g (w2.alloc (.cells #[] 9)) hB3 D2
  obtain ⟨U, hU⟩ : ∃ U, usX J z E = U := ⟨_, rfl⟩
  have HUM := Lib.hid (fun i (hi : i ∈ U) => (usX_mem.1 (by rw [hU]; exact hi) : i < E ∧ _).1)
  rw [hU] at us1
  have HUL := Lib.hid (show U.length ≤ E by rw [← hU]; exact usX_len J z E)
  have HR := Lib.hid (show lxC l = 0 ∧ lxL l = uniqN (U.map (nmX J z)) from by rw [← hU]; exact HR.out)
  obtain ⟨UI, hUI⟩ : ∃ UI, toI U = UI := ⟨_, rfl⟩
  rw [hUI] at us1
  have HUI := Lib.hid hUI
  clear hU US hUI
  generalize hA2 : (.slice (some ⟨w2.heap.size, 0, none⟩) 0 0 : Value) = v2 at hlit ⊢
  subst hA2
  go_upto_block 0 with (go_at_call 22; (with_reducible refine us1.mono ?_); rintro r w4 ⟨v7, rfl, O7, hx4⟩; obtain ⟨A7, c7, rfl⟩ := own_form O7; have D4 := CP.next D2 hx4; have hB4 : BB w w4 := BB.next hB3 hx4; have N4 := own_later hlit hx4 (Nat.le_refl _); have R7 : RR w4 1 A7 UI.length (flat fI UI) := RR.own O7)
  clear D1 D2 hB2 hB3 hlit us1 O7 hx4 hz2
  go_wp2_with fail
  go_loopw [6, 8] (fun v i wr => ∃ (k g6 c6 : Nat) (L : List ByteArray), i = .int .i64 (k : Int) ∧ k ≤ UI.length ∧ v = .slice (some ⟨g6, 0, none⟩) L.length c6 ∧ L.length ≤ k ∧ Hid (L = ((U.take k).map (nmX J z)).foldl insU []) ∧ wr.ownsRow w.heap.size 9 1 v L.length (flat fS L) ∧ BB w wr ∧ CP wr g [.int .i64 (l.length : Int), .int .i64 (z : Int), .int .i64 (E : Int), .int .i64 (Y : Int)] ∧ RR wr 1 A7 UI.length (flat fI UI)) (fun _ i _ => UI.length - (intOf i).toNat)
  case atStart => exact ⟨0, _, _, [], rfl, Nat.zero_le _, rfl, Nat.zero_le _, Lib.hid rfl, N4, hB4, D4, R7⟩
  case round =>
    clear D4 hB4 N4 R7
    obtain ⟨k, g6, c6, L, rfl, hk, rfl, hLk, HI, O, hB, D, R⟩ := hrel
    by_cases hlt : k < UI.length
    · have hlti : (k : Int) < (UI.length : Int) := by omega
      have hd : decide ((k : Int) < (UI.length : Int)) = true := decide_eq_true hlti
      have hltU : k < U.length := by have := toI_len U; rw [HUI.out] at this; omega
      obtain ⟨b7, o7, rfl, hb7, hc7⟩ := R.at_ fI_len rfl k hlt
      have ck := hc7 0 _ (by omega) rfl
      simp only [Nat.mul_one, Nat.add_zero] at ck
      have hux : UI[k] = ((U[k] : Nat) : Int) := by
        have h9 := HUI.out
        subst h9
        simp [toI]
      rw [hux] at ck
      clear hc7 hux
      have hux : U[k] ∈ U := List.getElem_mem hltU
      have HT := Lib.hid (show (U.take (k + 1)).map (nmX J z) = (U.take k).map (nmX J z) ++ [nmX J z U[k]] by rw [List.take_succ_eq_append_getElem hltU, List.map_append, List.map_singleton])
      obtain ⟨x, hx⟩ : ∃ x, U[k] = x := ⟨_, rfl⟩
      rw [hx] at ck hux HT
      have at1 := AT.out g x wr hB D (HUM.out x hux)
      have HN := Lib.hid (show nmX J z x = (xeK J z x).nm from rfl)
      generalize xeK J z x = e at at1 HN
      generalize xeOk (z : Int) (xRaw J z x) = ok at at1
      have HU2 := Lib.hid (show insU L e.nm = ((U.take (k + 1)).map (nmX J z)).foldl insU [] by rw [HT.out, List.foldl_append, ← HI.out, HN.out]; rfl)
      have hil : (insU L e.nm).length ≤ k + 1 := by
        rw [HU2.out, fold_uniq]
        refine Nat.le_trans (uniqN_len _) ?_
        rw [List.length_map]
        exact List.length_take_le _ _
      have hL16 : L.length ≤ 1000 := by have := HUL.out; omega
      have hk32 : k ≤ 32 := by have := HUL.out; omega
      clear hx hux HT HN hltU hb7
      go_wp2_with (first
        | (go_at_call 23; (with_reducible refine at1.mono ?_); rintro r w3 ⟨A3, c3, rfl, O3, hx3⟩; have O4 := fun (o : Obj) => (OOf (OO.al (OO.next O hx3) o)); have hB4 := fun (o : Obj) => (BB.al (BB.next hB hx3) o); have D4 := fun (o : Obj) => (CP.al (CP.next D hx3) o); have R4 := fun (o : Obj) => (RR.al (RR.next R hx3) o); have nm4 := fun (o : Obj) => l17Name_own w.heap.size g6 c6 L e.nm (w3.alloc o) (O4 o) (Below.size (hB4 o)) hL16)
        | (go_at_call 24; (with_reducible refine (nm4 _).mono ?_); rintro r w5 ⟨g9, c9, rfl, O5, hx5⟩; have hB5 := BB.next (hB4 _) hx5; have D5 := CP.next (D4 _) hx5; have R5 := RR.next (R4 _) hx5))
      go_roundw
      case rel => exact ⟨k + 1, g9, c9, insU L e.nm, by go_num, by omega, rfl, hil, HU2, O5, hB5, D5, R5⟩
      case measure => simp [intOf]; omega
    · have hlti : ¬ (k : Int) < (UI.length : Int) := by omega
      have hd : decide ((k : Int) < (UI.length : Int)) = false := decide_eq_false hlti
      have HQ := Lib.hid (show lxC l = 0 ∧ lxL l = L by
        have h9 := toI_len U
        rw [HUI.out] at h9
        have h8 := HI.out
        rw [List.take_of_length_le (by omega), fold_uniq] at h8
        rw [h8]
        exact HR.out)
      go_wp2_with fail
      (try simp only [Exit.inBlock, Exit.then])
      refine bodyPost_ret (results_tmp2 rfl _ _ _) rfl ?_
      exact ⟨_, by first | (rw [HQ.out.1]; rfl) | rw [HQ.out.1], by rw [HQ.out.2]; exact O, hB⟩
end Go.Proofs.YtbobehieaaaleaaDoor
namespace Go.Proofs.YtbobehieaaaleaaDoor
set_option linter.unusedVariables false
open Go.RowKit

theorem lawI : Maps.Keyed Tryd.prog 2 := Maps.int_keyed Tryd.underlying2
theorem map_next {w w' : World} {P : Program} {k : TypeId} {R : Value → Option (DataW Unit × List MemPlace)} {b n : Nat} {D : DataW Unit} (h : w.ownsMap P k R b n D) (hx : Below w.heap.size w w') : w'.ownsMap P k R b n D := by
  have hlt := h.lt
  obtain ⟨es, clock, hb, F, hs, hD⟩ := h
  exact ⟨es, clock, (hx.block b hlt).trans hb, F, hs, hD⟩
set_option maxRecDepth 100000 in
set_option maxHeartbeats 8000000 in
theorem usedM_any (g b z E Y bb off n c : Nat) (J : List UInt8) (w : World) (d : CP w g [.int .i64 (b : Int), .int .i64 (z : Int), .int .i64 (E : Int), .int .i64 (Y : Int), .slice (some ⟨bb, off, none⟩) n c]) (hr : RR w 1 (some ⟨bb, off, none⟩) n (bcells J)) (hroom : ∀ k, k < E → z + 16 * (k + 1) ≤ n) (hs : z ≤ 32) (hn : n ≤ 4096) (hnc : n ≤ c) (hE : E ≤ 32) :
    Calls Tryd.prog 26 #[.pointer (some ⟨g, 0, none⟩)] w fun r w' => r = .returned (.map (some w.heap.size)) ∧ w'.ownsMap Tryd.prog 2 Rx w.heap.size E (DX J z E) ∧ Below w.heap.size w w' := by
  have hg : g < w.heap.size := (cell_spot (d 0 (by simp))).2
  have AT := Lib.hid (fun (k : Nat) (W : World) (hb : BB w W) (hk : k < E) => (show Calls Tryd.prog 54 #[.pointer (some ⟨g, 0, none⟩), .int .i64 (k : Int)] W fun r w' => ∃ A c, r = .returned (.tuple #[.agg #[.int .i64 (xeK J z k).st, .string (xeK J z k).nm, .int .i64 (xeK J z k).nu, .int .i64 (xeK J z k).tl, .slice A (xeK J z k).bl.length c], .bool (xeOk (z : Int) (xRaw J z k))]) ∧ w'.ownsRow W.heap.size 2 1 (.slice A (xeK J z k).bl.length c) (xeK J z k).bl.length (flat fI (xeK J z k).bl) ∧ BB W w' from
    entryX_any g b z E Y bb off n c J k W (fun j hj => (Below.cell hb (p := ⟨g, j, none⟩) hg).trans (d j hj)) (RR.back hr hb) (hroom k hk) hs hn hnc))
  have d2 : (_ : Option Value) = some (.int .i64 (E : Int)) := (CP.al d (.map #[] 0)) 2 (by simp)
  have hB0 : BB w (w.alloc (.map #[] 0)) := BB.al (BB.start w) _
  have M0 := World.ownsMap_made w Tryd.prog 2 Rx
  have hmm := @run_makeMap Tryd.prog
  clear hr hroom hs hn hnc d
  go_enter Tryd.func26, Tryd.ntmps26
  go_wp2_with fail
  clear hmm d2
  generalize hW1 : w.alloc (.map #[] 0) = w2 at M0 hB0 ⊢
  obtain ⟨B, hBe⟩ : ∃ B, w.heap.size = B := ⟨_, rfl⟩
  rw [hBe] at M0 ⊢
  have HBE := Lib.hid hBe
  clear hW1 hBe hg
  go_loopw [13] (fun i wr => ∃ (k : Nat), i = .int .i64 (k : Int) ∧ k ≤ E ∧ wr.ownsMap Tryd.prog 2 Rx B k (DX J z k) ∧ BB w wr) (fun i _ => E - (intOf i).toNat)
  case atStart => exact ⟨0, rfl, Nat.zero_le _, M0, hB0⟩
  case round =>
    clear M0 hB0
    obtain ⟨k, rfl, hk, M, hB⟩ := hrel
    by_cases hlt : k < E
    · have hlti : (k : Int) < (E : Int) := by omega
      have hd : decide ((k : Int) < (E : Int)) = true := decide_eq_true hlti
      have at1 := AT.out k wr hB hlt
      have HN := fun h => DX_n (J := J) (z := z) (k := k) h
      have HY := fun h => DX_y (J := J) (z := z) (k := k) h
      have HX := fun h => xeK_n (J := J) (z := z) (k := k) h
      have HNM := Lib.hid (show nmX J z k = (xeK J z k).nm from rfl)
      generalize xeK J z k = e at at1 HN HY HX HNM
      generalize xeOk (z : Int) (xRaw J z k) = ok at at1 HX
      have hkey : _root_.Go.keyOf Tryd.prog 2 (.int .i64 (k : Int)) = some (.int .i64 (k : Int)) := Maps.keyOf_int_mk Tryd.underlying2 (WalkArith.wf_i64 (by omega))
      have HKEY := Lib.hid hkey
      cases ok
      · have HU := Lib.hid (HN (HX rfl))
        clear HN HY HX hkey
        go_wp2_with (go_at_call 54; (with_reducible refine at1.mono ?_); rintro r w3 ⟨A3, c3, rfl, O3, hx3⟩; have M4 := map_next M hx3; have hB4 : BB w w3 := BB.next hB hx3)
        go_roundw
        case rel => exact ⟨k + 1, by go_num, by omega, by rw [HU.out]; exact (M4.alloc _).mono (by omega), BB.al hB4 _⟩
        case measure => simp [intOf]; omega
      · by_cases hst : e.st = 1
        · have hsb : (e.st == 1) = true := by simpa using hst
          have HU := Lib.hid (HY hst)
          have hk9 : k < maxLen := by unfold maxLen; omega
          clear HN HY HX hst hkey
          go_wp2_with (first
            | (go_at_call 54; (with_reducible refine at1.mono ?_); rintro r w3 ⟨A3, c3, rfl, O3, hx3⟩; have M4 := fun (o : Obj) => (map_next M hx3).alloc o; have hB4 := fun (o : Obj) => (BB.al (BB.next hB hx3) o); have RV := Lib.hid (Rx_xv ⟨e.st, e.nm, e.nu, e.tl, A3, e.bl.length, c3⟩))
            | (at_mapUpdate; refine wpList_mapUpdate_own _ rfl _ _ _ 66 rfl 2 59 lawI Tryd.underlying66 Rx B k _ rfl (M4 _) hk9 _ _ _ rfl rfl HKEY.out _ _ RV.out ?_; intro w5 M5 hg5; have hB5 : BB w w5 := Below.grown (hB4 _) hg5 (Below.size (hB4 _)) (fun j hj => by cases hj; exact Nat.le_of_eq HBE.out); try go_frame))
          go_roundw
          case rel => exact ⟨k + 1, by go_num, by omega, by rw [HU.out, HNM.out]; exact M5, hB5⟩
          case measure => simp [intOf]; omega
        · have hsb : (e.st == 1) = false := by simpa using hst
          have HU := Lib.hid (HN hst)
          clear HN HY HX hst hkey
          go_wp2_with (go_at_call 54; (with_reducible refine at1.mono ?_); rintro r w3 ⟨A3, c3, rfl, O3, hx3⟩; have M4 := map_next M hx3; have hB4 : BB w w3 := BB.next hB hx3)
          go_roundw
          case rel => exact ⟨k + 1, by go_num, by omega, by rw [HU.out]; exact (M4.alloc _).mono (by omega), BB.al hB4 _⟩
          case measure => simp [intOf]; omega
    · have hlti : ¬ (k : Int) < (E : Int) := by omega
      have hd : decide ((k : Int) < (E : Int)) = false := decide_eq_false hlti
      have hkE : k = E := by omega
      have M9 : wr.ownsMap Tryd.prog 2 Rx B E (DX J z E) := by rw [hkE] at M; exact M
      clear hkE
      go_wp2_with fail
      go_ret
      have hBe := HBE.out
      refine ⟨?_, ?_, hB⟩
      · rw [hBe]; rfl
      · rw [hBe]; exact M9
end Go.Proofs.YtbobehieaaaleaaDoor
namespace Go.Proofs.YtbobehieaaaleaaDoor
set_option linter.unusedVariables false
open Go.RowKit

theorem uniqN_nil : uniqN [] = [] := by simp [uniqN, uniqB, Lib.compact, Lib.compactUpTo]
/-- What stands when the names have been sorted and made unique. -/
theorem uniq_own {w : World} {B g cap nq q : Nat} {os : Array Obj} {L : List ByteArray} {cur : Array Value} (hbase : B ≤ g) (hb : w.heap[g]? = some (.cells cur 9 (0, 0))) (h1 : L.length ≤ cap) (h2 : cap ≤ maxLen) (h3 : cur.size = cap * 1) (w5 : World) (hw5 : w5 = Go.Sort.grow (Go.Sort.putRow encStr (Go.Sort.ahead w nq) g 0 ((L.map kb).mergeSort fun x y => decide (x ≤ y)).toArray) os) :
    w5.ownsRow B 9 1 (.slice (some ⟨g, 0, none⟩) L.length cap) L.length (((L.map kb).mergeSort fun x y => decide (x ≤ y)).map encStr) ∧
    (Go.Sort.putRow encStr (Go.Sort.ahead w5 q) g 0 (uniqB (L.map kb) ++ List.replicate (L.length - (uniqB (L.map kb)).length) []).toArray).ownsRow B 9 1 (.slice (some ⟨g, 0, none⟩) (uniqN L).length cap) (uniqN L).length (flat fS (uniqN L)) := by
  have hs := ownsRow_sorted (w := w) (n := nq) (os := os) (ss := L.map kb) (ts := (L.map kb).mergeSort fun x y => decide (x ≤ y)) (by rw [List.length_mergeSort]) hbase hb (by rw [List.length_map]; exact h1) h2 h3
  rw [← hw5, List.length_map] at hs
  refine ⟨hs, ?_⟩
  have hle := Lib.compact_length_le ((L.map kb).mergeSort fun x y => decide (x ≤ y))
  rw [List.length_mergeSort, List.length_map] at hle
  have hc := Lib.ownsRow_putRow (q := q) (k := (uniqB (L.map kb)).length) (ys := uniqB (L.map kb) ++ List.replicate (L.length - (uniqB (L.map kb)).length) []) hs (by rw [List.length_append, List.length_replicate]; unfold uniqB; omega) hle
  rw [List.take_left] at hc
  rw [flat_enc, uniqN_kb]
  have e : (uniqN L).length = (uniqB (L.map kb)).length := by rw [uniqN, List.length_map]
  rw [e]
  exact hc
theorem of_data (x y : ByteArray) (h : x.data.toList = y.data.toList) : x = y := kb_inj h
set_option maxRecDepth 100000 in
set_option maxHeartbeats 8000000 in
theorem impl_ListExtents_any (A : Option Addr) (cp : Nat) (l : List ByteArray) (w : World) (h : Rd w w.heap.size 1 A l.length (flat fS l)) (hn : l.length ≤ 1048576) (hcp : l.length ≤ cp) :
    Calls Tryd.prog 12 #[.slice A l.length cp] w fun e w' => ∃ v, e = .returned (.tuple #[v, .int .i64 (lxC l)]) ∧ w'.ownsRow w.heap.size 9 1 v (lxL l).length (flat fS (lxL l)) ∧ Below w.heap.size w w' := by
  have con := openExtents_any A cp l w h hn hcp (fun b s x w h1 h2 h3 => extentHeader_any b s x w h1 h2 h3)
  cases hex : exB l
  · rw [hex] at con
    have HR := Lib.hid (lx_1 hex)
    clear hex
    go_enter Tryd.func12, Tryd.ntmps12
    go_wp2_with (go_at_call 25; (with_reducible refine con.mono ?_); rintro r w1 ⟨pv, rfl, hx1, -, hno⟩; obtain rfl := hno (by first | trivial | rfl); have hB1 : BB w w1 := hx1)
    (try simp only [Exit.inBlock, Exit.then])
    refine bodyPost_ret (results_tmp2 rfl _ _ _) rfl ?_
    exact ⟨_, by first | (rw [HR.out.1]; rfl) | rw [HR.out.1], by rw [HR.out.2]; exact World.ownsRow_nil _ _ _ _, hB1⟩
  obtain ⟨n8, n128, s3, hall⟩ := blk_yes (ex_yes hex)
  rw [hex] at con
  have hjn : (jn l).length = l.length * s0 l := jn_len l (s0 l) hall
  have hj0 : 0 < (jn l).length ∧ (jn l).length ≤ 4096 := by
    rw [hjn]
    rcases s3 with e | e | e <;> rw [e] <;> omega
  replace con := con.mono fun r w1 => (fun ⟨pv, e, hx, hy, _⟩ => by
    obtain ⟨g, a, c, e2, D, R, hc⟩ := hy rfl
    obtain ⟨bb, off, e3, hb, _⟩ := R.2 (by omega)
    subst e2 e3
    exact ⟨g, bb, off, c, e, hx, D, R, hc⟩ : _ → ∃ g bb off c, r = .returned (.tuple #[.pointer (some ⟨g, 0, none⟩), .bool true]) ∧ Below w.heap.size w w1 ∧ CP w1 g [.int .i64 (l.length : Int), .int .i64 (s0 l : Int), .int .i64 (l.length / 4 : Nat), .int .i64 (exD l.length (s0 l) : Int), .slice (some ⟨bb, off, none⟩) (jn l).length c] ∧ RR w1 1 (some ⟨bb, off, none⟩) (jn l).length (bcells (jn l)) ∧ (jn l).length ≤ c)
  obtain ⟨z, hz⟩ : ∃ z, s0 l = z := ⟨_, rfl⟩
  obtain ⟨E, hE⟩ : ∃ E, l.length / 4 = E := ⟨_, rfl⟩
  obtain ⟨Y, hY⟩ : ∃ Y, exD l.length (s0 l) = Y := ⟨_, rfl⟩
  obtain ⟨J, hJ⟩ : ∃ J, jn l = J := ⟨_, rfl⟩
  have HR := Lib.hid (lx_2 hex hJ hz hE)
  rw [hY, hz, hE, hJ] at con
  rw [hJ] at hj0 hjn
  rw [hz] at s3 hjn
  have hE32 : E ≤ 32 := by omega
  have hroom : ∀ k, k < E → z + 16 * (k + 1) ≤ J.length := fun k hk => by rw [hjn]; exact hs_room s3 hE hk
  have hz32 : z ≤ 32 := by omega
  obtain ⟨n, hnJ⟩ : ∃ n, J.length = n := ⟨_, rfl⟩
  rw [hnJ] at con hj0 hroom
  have UM := Lib.hid (fun (g bb off c : Nat) (W : World) (D : CP W g [.int .i64 (l.length : Int), .int .i64 (z : Int), .int .i64 (E : Int), .int .i64 (Y : Int), .slice (some ⟨bb, off, none⟩) n c]) (R : RR W 1 (some ⟨bb, off, none⟩) n (bcells J)) (hc : n ≤ c) => usedM_any g l.length z E Y bb off n c J W D R hroom hz32 hj0.2 hc hE32)
  clear hex hz hE hY hJ s3 hall n8 n128 hjn hnJ hroom hz32 hj0
  go_enter Tryd.func12, Tryd.ntmps12
  go_upto_region 4 with (go_at_call 25; (with_reducible refine con.mono ?_); rintro r w1 ⟨g, bb, off, c, rfl, hx1, D1, R1, hnc⟩; have hB1 : BB w w1 := hx1; have um1 := UM.out g bb off c w1 D1 R1 hnc)
  clear con UM
  go_upto_block 0 with (first
    | (go_at_call 26; (with_reducible refine um1.mono ?_); rintro r w2 ⟨rfl, M2, hx2⟩; have hB2 : BB w w2 := BB.next hB1 hx2; have hlt2 := M2.lt)
    | (at_range; refine wpList_range_own _ rfl _ 66 rfl 2 59 lawI Tryd.underlying66 Rx _ _ _ rfl M2 ?_; intro w0 hrg0 hg0 hs0; go_frame))
  have hsz := M2.size_le
  have hBw0 : BB w w0 := Below.grown hB2 hg0 (Below.size hB2) (fun j hj => by cases hj)
  have hb1 : w.heap.size ≤ w1.heap.size := Below.size hB1
  obtain ⟨B1, hB1e⟩ : ∃ B1, w0.heap.size = B1 := ⟨_, rfl⟩
  have hr1 : w2.heap.size < B1 := by omega
  have hb2 : w1.heap.size < B1 := by omega
  have hb3 : w.heap.size ≤ B1 := by omega
  have H00 : w0.ownsRow B1 9 1 (.slice none 0 0) 0 (flat fS []) := World.ownsRow_nil _ _ _ _
  have hz0 : B1 ≤ w0.heap.size := by omega
  have HBR : w.heap.size ≤ w2.heap.size := Below.size hB2
  generalize w2.heap.size = r at hrg0 hr1 HBR ⊢
  generalize w1.heap.size = mb at hrg0 hb2 ⊢
  clear um1 M2 hx2 hB2 hlt2 hg0 hs0 hB1 hx1 D1 R1 hnc hB1e hb1
  have hmb := hrg0.owns.lt
  go_wp2_with fail
  go_loopw [6] (fun v wr => ∃ (left : Lit → Bool) (cnt : Nat) (ks : List Nat) (A6 : Option Addr) (c6 : Nat) (L : List ByteArray), wr.ranges Tryd.prog 2 Rx mb r E (DX J z E) left cnt ∧ L.length + cnt ≤ E ∧ v = .slice A6 L.length c6 ∧ Hid (L = ks.map (nmX J z)) ∧ CoX J z E left ks ∧ wr.ownsRow B1 9 1 v L.length (flat fS L) ∧ BB w wr ∧ B1 ≤ wr.heap.size) (fun _ wr => wr.rangeLeft mb r)
  case atStart => exact ⟨_, _, [], none, 0, [], hrg0, by simpa using hsz, rfl, Lib.hid rfl, CoX_start J z E, H00, hBw0, hz0⟩
  case round =>
    clear hrg0 hBw0 H00 hz0 hmb hsz
    obtain ⟨left, cnt, ks, A6, c6, L, hrg, hcn, rfl, HI, hC, O, hB, hBz⟩ := hrel
    go_wp2_with (at_next; refine wpList_next_ranges _ rfl _ rfl 2 lawI Rx (Value.int .i64) xv (fun key kl hk => by obtain ⟨x, hx, _⟩ := Maps.keyOf_int_inv Tryd.underlying2 hk; exact ⟨x, hx⟩) (fun v y hv => Rx_inv v y hv) mb r E _ _ _ rfl hrg ?_ ?_)
    · intro hc0 hl0
      have hP := CoX_perm hC hl0
      have HQ := Lib.hid (show lxC l = 0 ∧ lxL l = uniqN L by
        refine ⟨HR.out.1, ?_⟩
        rw [HR.out.2, HI.out]
        unfold uniqN
        rw [uniqB_perm (((hP.map (nmX J z)).map kb).symm)])
      clear hP hC
      rcases O.2 with ⟨hv, h0⟩ | ⟨g6, cap, cur, hv, hbase, hb, h1, h2, h3, h4⟩
      · have hL : L = [] := List.eq_nil_of_length_eq_zero h0
        clear HI
        subst hL
        cases hv
        have HQ := Lib.hid (show lxC l = 0 ∧ lxL l = [] from ⟨HQ.out.1, HQ.out.2.trans uniqN_nil⟩)
        have so := fun W => Tryd.slices_Sort_string_none none 0 W
        have co := fun W => Tryd.slices_Compact_string_empty none 0 W
        go_wp2_with (first | (go_at_call 27; (with_reducible refine (so _).mono ?_); rintro r w5 ⟨rfl, rfl⟩) | (go_at_call 28; (with_reducible refine (co _).mono ?_); rintro r w6 ⟨rfl, rfl⟩))
        (try simp only [Exit.inBlock, Exit.then])
        refine bodyPost_ret (results_tmp2 rfl _ _ _) rfl ?_
        exact ⟨_, by first | (rw [HQ.out.1]; rfl) | rw [HQ.out.1], by rw [HQ.out.2]; exact World.ownsRow_nil _ _ _ _, hB⟩
      · cases hv
        have hH : Go.Sort.Holds encStr wr g6 0 (L.map kb).toArray := holds_of_block hb (by rw [List.length_map, ← flat_enc, ← Nat.mul_one L.length]; exact h4)
        have so := Tryd.slices_Sort_string g6 0 c6 (L.map kb) wr hH (Array.getElem?_eq_some_iff.1 hb).1 (by rw [List.length_map]; omega)
        rw [List.length_map] at so
        have FI := Lib.hid (fun nq os q w5 hw5 => uniq_own (nq := nq) (os := os) (q := q) hbase hb h1 h2 h3 w5 hw5)
        have CO := Lib.hid (fun (w5 : World) (O5 : w5.ownsRow B1 9 1 (.slice (some ⟨g6, 0, none⟩) L.length c6) L.length (((L.map kb).mergeSort fun x y => decide (x ≤ y)).map encStr)) => (show Calls Tryd.prog 28 #[.slice (some ⟨g6, 0, none⟩) L.length c6] w5 fun e w' => e = .returned (.slice (some ⟨g6, 0, none⟩) (uniqN L).length c6) ∧ ∃ q, w' = Go.Sort.putRow encStr (Go.Sort.ahead w5 q) g6 0 (uniqB (L.map kb) ++ List.replicate (L.length - (uniqB (L.map kb)).length) []).toArray from by
          obtain ⟨g9, c9, e9, _, _, _, _, _, hH9⟩ := Lib.holds_of_ownsRow O5 (by intro e; cases e)
          cases e9
          have := Tryd.slices_Compact_string g6 0 c6 ((L.map kb).mergeSort fun x y => decide (x ≤ y)) w5 hH9 (by rw [List.length_mergeSort, List.length_map]; omega) (by rw [List.length_mergeSort, List.length_map]; exact h1)
          rw [List.length_mergeSort, List.length_map] at this
          rw [uniqN, List.length_map]
          exact this))
        have hg6 : w.heap.size ≤ g6 := by omega
        have GB := Lib.hid (fun (nq : Nat) (os : Array Obj) (d : Array (List UInt8)) => Below.grown hB (grownBy_sorted (n := nq) (os := os) (g := g6) d) (Below.size hB) (fun j hj => by cases hj; exact hg6))
        go_wp2_with (first
          | (go_at_call 27; (with_reducible refine so.mono ?_); rintro r w5 ⟨rfl, nq, os, hw5⟩; have O5 := fun q => FI.out nq os q w5 hw5; have co5 := CO.out w5 (O5 0).1; have hB5 : BB w w5 := (by rw [hw5]; exact GB.out nq os _); clear hw5)
          | (go_at_call 28; (with_reducible refine co5.mono ?_); rintro r w6 ⟨rfl, q, hw6⟩; have O6 := (O5 q).2; rw [← hw6] at O6; have hB6 : BB w w6 := (by rw [hw6]; exact Lib.below_putRow hB5 hg6); clear hw6))
        (try simp only [Exit.inBlock, Exit.then])
        refine bodyPost_ret (results_tmp2 rfl _ _ _) rfl ?_
        exact ⟨_, by first | (rw [HQ.out.1]; rfl) | rw [HQ.out.1], by rw [HQ.out.2]; exact own_base O6 hb3, hB6⟩
    · intro x cv kl yd yp w2 cnt2 hkey hlk hv hat hrg2 hlt hg2 hs2 hen
      obtain ⟨x', ex, rfl, _⟩ := Maps.keyOf_int_inv Tryd.underlying2 hkey
      obtain rfl : x = x' := by injection ex
      obtain ⟨i, hxi, hyd, hC2⟩ := CoX_step hC hlk hat
      have hnm : cv.nm = nmX J z i := by
        rw [Rx_xv] at hv
        injection hv with hv
        injection hv with hv _
        rw [hyd] at hv
        injection hv with hv
        injection hv with hv
        exact of_data _ _ hv
      have HN := Lib.hid (show L ++ [cv.nm] = (ks ++ [i]).map (nmX J z) by rw [List.map_append, ← HI.out, hnm]; rfl)
      have HIL := Lib.hid (show (L ++ [cv.nm]).length = L.length + 1 by rw [List.length_append]; rfl)
      have hne : some r ≠ (Value.slice A6 L.length c6).ownBlock := fun e => by have := (World.ownsRow.lt O r e.symm).1; omega
      have hneb : some mb ≠ (Value.slice A6 L.length c6).ownBlock := fun e => by have := (World.ownsRow.lt O mb e.symm).1; omega
      have O2 := World.ownsRow.kept O hg2 (Or.inr hne.symm)
      have hrw : w.heap.size ≤ r := by have h9 := HBR; exact h9
      have hB2 : BB w w2 := Below.grown hB hg2 (Below.size hB) (fun j hj => by cases hj; exact hrw)
      have hz2 : B1 ≤ w2.heap.size := Nat.le_trans hBz hg2.size
      have hL16 : L.length ≤ 100000000 := by omega
      have O4 := fun (o : Obj) => World.ownsRow.alloc O2 o
      have hz4 := fun (o : Obj) => (show B1 ≤ (w2.alloc o).heap.size by rw [World.size_alloc]; omega)
      have hw4 := fun (o : Obj) => (show w.heap.size ≤ (w2.alloc o).heap.size by have := hz4 o; omega)
      have HLT := Lib.hid (And.intro hlt hs2)
      have HNE := Lib.hid (And.intro hne hneb)
      have HKS := Lib.hid hC2
      have HLE := Lib.hid (show hrg.left_eq = hrg.left_eq from rfl)
      clear hs2 hkey hlk hv hat hlt hnm hyd hxi hC hC2 hne hneb HLE
      obtain ⟨st, nm, nu, tl, A3, n3, c3⟩ := cv
      simp only [xv] at hen ⊢
      go_wp2_with (at_builtin; go_must (refine wpList_appF (f := fS) rfl (.tmp 23) (.tmp 26) 22 rfl eltStr (by decide) _ L rfl (O4 _) _ _ nm 1 (by rw [World.size_alloc]; rfl) (by rfl) rfl (fun u hu => by simp only [fS, List.mem_cons, List.not_mem_nil, or_false] at hu; subst hu; rfl) hL16 (hz4 _) ?_); intro v5 w5 O5 hg5 hat5 hb5; obtain ⟨A5, c5, rfl⟩ := own_form O5; have hrg5 := ((hrg2.alloc _).alloc _).kept hg5 HNE.out.2 HNE.out.1; have hB5 : BB w w5 := Below.trans (BB.al hB2 _) (hb5.mono hb3); have hz5 := Nat.le_trans (hz4 _) hb5.size)
      go_roundw
      case rel =>
        have hcn2 := HLT.out.1
        refine ⟨_, cnt2, ks ++ [i], A5, c5, L ++ [nm], hrg5, by rw [List.length_append, List.length_singleton]; omega, by rw [List.length_append]; rfl, HN, HKS.out, ?_, hB5, hz5⟩
        have h9 := O5
        rw [List.length_append] at h9 ⊢
        exact h9
      case measure => rw [hrg5.left_eq, hrg.left_eq]; exact HLT.out.1
end Go.Proofs.YtbobehieaaaleaaDoor
namespace Go.Proofs.YtbobehieaaaleaaDoor
set_option linter.unusedVariables false
open Go.RowKit Go.ChangeShapes Go.WideShapes Go.Deep

def mksString (k m : Nat) : List ByteArray := (List.range m).map fun i => mtxt (k + i)
theorem mksString_len (k m : Nat) : (mksString k m).length = m := by simp [mksString]
theorem mksString_succ (k m : Nat) : mksString k (m + 1) = mksString k m ++ [mtxt (k + m)] := by simp [mksString, List.range_succ]
theorem mksString_get (k m i : Nat) (h : i < (mksString k m).length) : (mksString k m)[i] = mtxt (k + i) := by simp [mksString]
theorem mksString_put (k m : Nat) (l : List ByteArray) (h : m < l.length) : (flat fS (mksString k m ++ l.drop m)).set m (.string (mtxt (k + m))) = flat fS (mksString k (m + 1) ++ l.drop (m + 1)) := by
  have := flat_put fS 1 fS_len (mksString k m) (l.drop (m + 1)) l[m] (mtxt (k + m))
  rw [mksString_len, Nat.mul_one] at this
  rw [List.drop_eq_getElem_cons h, mksString_succ, List.append_assoc]
  exact this
set_option maxRecDepth 100000 in
set_option maxHeartbeats 1000000 in
theorem markStringS_any (A : Option Addr) (c k : Nat) (l : List ByteArray) (w : World) (base : Nat) (h : w.ownsRow base 9 1 (.slice A l.length c) l.length (flat fS l)) (hk1 : 1 ≤ k) (hk2 : k ≤ 10000000000) (hl : l.length ≤ 10000000000) :
    Calls Tryd.prog 13 #[.slice A l.length c, .int .i64 (k : Int)] w fun e w' => e = .returned (.int .i64 ((k + 1 * l.length : Nat) : Int)) ∧ w'.ownsRow base 9 1 (.slice A l.length c) l.length (flat fS (mksString k l.length)) ∧ w.grownBy w' (Value.slice A l.length c).ownBlock := by
  go_enter Tryd.func13, Tryd.ntmps13
  go_wp2
  go_loopw [1, 5] (fun kk i wr => ∃ m q : Nat, m ≤ l.length ∧ k + m = q ∧ i = .int .i64 m ∧ kk = .int .i64 q ∧ wr.ownsRow base 9 1 (.slice A l.length c) l.length (flat fS (mksString k m ++ l.drop m)) ∧ w.grownBy wr (Value.slice A l.length c).ownBlock) (fun _ i _ => l.length - (intOf i).toNat)
  case atStart => exact ⟨0, k, Nat.zero_le _, by omega, rfl, rfl, h, World.grownBy.refl _ _⟩
  case round =>
    obtain ⟨m, q, hm, hq, rfl, rfl, ho, hg⟩ := hrel
    by_cases hlt : m < l.length
    · obtain ⟨g, cap, hv⟩ := Go.Joins.ownsRow_form ho (by omega)
      cases hv
      have hput := mksString_put k m l hlt
      rw [hq] at hput
      have hm0 := fun W => markText_any q W (by omega) (by omega)
      go_wp2_with (go_at_call 29; refine (hm0 _).mono ?_; rintro e w10 ⟨rfl, hx⟩; replace hg := hg.trans (only_of_below hx _); replace ho := own_later ho hx (Nat.le_refl _); obtain ⟨u0, hu0⟩ := own_some ho m (by omega); have hz0 := World.ownsRow.frozenAt ho m)
      go_roundw
      case rel =>
        refine ⟨m + 1, q + 1, by omega, by omega, by go_num, by go_num, ?_, hg.trans (World.ownsRow.stored ho _ _).2⟩
        rw [← hput]
        exact (World.ownsRow.stored ho _ _).1
      case measure => (simp [intOf] <;> omega)
    · obtain rfl : m = l.length := by omega
      rw [List.drop_length, List.append_nil] at ho
      go_wp2
      go_ret
      exact ⟨ret_int (by omega), ho, hg⟩
set_option maxRecDepth 100000 in
set_option maxHeartbeats 1000000 in
theorem heldStringS_any (A : Option Addr) (c k n : Nat) (w : World) (h : Rd w w.heap.size 1 A n (flat fS (mksString k n))) (hk1 : 1 ≤ k) (hk2 : k ≤ 10000000000) (hl : n ≤ 10000000000) :
    Calls Tryd.prog 14 #[.slice A n c, .int .i64 (k : Int)] w fun e w' => e = .returned (.int .i64 ((k + 1 * n : Nat) : Int)) ∧ Below w.heap.size w w' := by
  go_enter Tryd.func14, Tryd.ntmps14
  go_wp2
  go_loopw [1, 5] (fun kk i wr => ∃ i' q : Nat, i' ≤ n ∧ k + i' = q ∧ i = .int .i64 i' ∧ kk = .int .i64 q ∧ Below w.heap.size w wr) (fun _ i _ => n - (intOf i).toNat)
  case atStart => exact ⟨0, k, Nat.zero_le _, by omega, rfl, rfl, Below.refl _ _⟩
  case round =>
    obtain ⟨i, q, hi, hq, rfl, rfl, hb⟩ := hrel
    by_cases hlt : i < n
    · obtain ⟨b, off, rfl, hbb, hc⟩ := h.at_ fS_len (mksString_len k n).symm i hlt
      have hc0 := hc 0 (.string (mtxt q)) (by omega) (by rw [mksString_get, hq]; rfl)
      clear hc
      simp only [Nat.mul_one, Nat.add_zero] at hc0
      have hm0 := fun W => markText_any q W (by omega) (by omega)
      obtain ⟨hcb, hfb⟩ := bcell hb
      have hr0 := (hb.cell (p := ⟨b, off + i, none⟩) hbb).trans hc0
      go_wp2_with fail
      go_region_held3 (fun W => Below w.heap.size w W ∧ W.cell? ⟨b, off + i, none⟩ = some (.string (mtxt q))) (first | exact keepS hc0 hbb (Below.drew hb) | exact keepS hc0 hbb (below_step (Below.drew hb) hx)) (first | (go_at_call 29; refine (hm0 _).mono ?_; rintro e w0 ⟨rfl, hx⟩))
      replace hb := below_step (Below.drew hb) hx
      clear hcb hfb
      obtain ⟨hcb, hfb⟩ := bcell hb
      go_wp2
      go_roundw
      case rel => exact ⟨i + 1, q + 1, by omega, by omega, by go_num, by go_num, hb⟩
      case measure => (simp [intOf] <;> omega)
    · obtain rfl : i = n := by omega
      go_wp2
      go_ret
      exact ⟨ret_int (by omega), hb⟩
end Go.Proofs.YtbobehieaaaleaaDoor
