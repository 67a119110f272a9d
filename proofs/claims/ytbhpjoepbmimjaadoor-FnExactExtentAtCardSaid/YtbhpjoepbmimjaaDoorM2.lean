/- Walks: the texts X4 X6 X7 X8 X9 SExtentEntry SStrM as one text. -/
import Derived.Test.YtbhpjoepbmimjaaDoorM1
import Derived.Deep.RegionLaw
import Derived.Deep.RegionWith
import Derived.Deep.DeepCutAuto
import Derived.Deep.QuietTactic
import Derived.Lib.QuietBelow
import Derived.Test.YtbhpjoepbmimjaaDoorQB
import Derived.Test.YtbhpjoepbmimjaaDoorW97
import Derived.Test.YtbhpjoepbmimjaaDoorShelf
import Derived.Lib.MinMax
import Derived.Test.YtbhpjoepbmimjaaDoorW108
import Derived.Test.YtbhpjoepbmimjaaDoorW106
import Derived.Test.YtbhpjoepbmimjaaDoorSInt64
import Derived.Test.YtbhpjoepbmimjaaDoorOpen
import Derived.Test.YtbhpjoepbmimjaaDoorStep
import Derived.Test.YtbhpjoepbmimjaaDoorSString
import Derived.Test.YtbhpjoepbmimjaaDoorMark
import Derived.Deep.RegionHeld3
namespace Go.Proofs.YtbhpjoepbmimjaaDoor
set_option linter.unusedVariables false
open Go.RowKit

section
variable {P : Program} {e : TypeId} {w : World}
theorem run_copy_cut (w : World) (dT sT ty elem : TypeId) (b o dLen dCap : Nat) (t : ByteArray)
    (hu : P.underlying dT = some (.slice elem)) (hz : ∀ w, (Go.sizeOf elem).run P w = .ok 1 w) (hle : dLen ≤ t.size)
    (hc : ∀ j, j < dLen → (w.cell? ⟨b, o + j, none⟩).isSome = true) (hf : ∀ j, j < dLen → w.frozen? ⟨b, o + j, none⟩ = false) :
    (Builtin.copy_ #[dT, sT] ty #[.slice (some ⟨b, o, none⟩) dLen dCap, .string t]).run P w = .ok (goInt dLen) (w.setCells b o ((t.data.toList.take dLen).map fun x => Value.int .u8 (x.toNat : Int))) := by
  have hmin : Nat.min t.size dLen = dLen := Nat.min_eq_right hle
  have hl : ((t.data.toList.take dLen).map fun x => Value.int .u8 (x.toNat : Int)).length = dLen := by
    rw [List.length_map, List.length_take, ← Lib.size_eq]
    omega
  have hst := run_storeCells_cells (P := P) b o ((t.data.toList.take dLen).map fun x => Value.int .u8 (x.toNat : Int)) 0 w (by rw [hl]; simpa using hc) (by rw [hl]; simpa using hf) (by
    intro v hv
    obtain ⟨x, _, rfl⟩ := List.mem_map.1 hv
    rfl)
  simp [Builtin.copy_, run_underlying hu, Builtin.lenOf, Builtin.firstCells, hz, hmin]
  rw [← List.map_take, hst]
  rfl
theorem MarkB.copyC {g : Nat} {l : List UInt8} (hm : MarkB w g e l) (dT sT ty : TypeId) (E : Elt P dT e 1 1 (.int .u8 0)) (off : Nat) (str : ByteArray) (dLen dCap : Nat) (hfit : off + dLen ≤ l.length) (hle : dLen ≤ str.size) (B : Nat) (hB : B ≤ g) :
    ∃ w', (Builtin.copy_ #[dT, sT] ty #[.slice (some ⟨g, off, none⟩) dLen dCap, .string str]).run P w = .ok (goInt dLen) w' ∧
      MarkB w' g e (l.take off ++ str.data.toList.take dLen ++ l.drop (off + dLen)) ∧ Below B w w' ∧ ∀ q : Addr, q.block ≠ g → w'.cell? q = w.cell? q := by
  obtain ⟨ht, ⟨i, hi, hz, hsize, hby⟩, hzs, hsz⟩ := E
  have hstr : (str.data.toList.take dLen).length = dLen := by
    rw [List.length_take, Array.length_toList]
    exact Nat.min_eq_left hle
  refine ⟨_, run_copy_cut (P := P) w dT sT ty e g off dLen dCap str ht (fun W => by simp [sizeOf, typeInfo, hi, hsize]) hle (fun j hj => ?_) (fun j hj => ?_), ?_, Go.below_setCells hB _ _ _ (Below.refl _ _), fun q hq => setCells_other g _ _ _ q hq⟩
  · rw [hm.cell (off + j) (by omega)]
    rfl
  · exact hm.free (off + j) (by omega)
  · have := MarkB.setCells (str.data.toList.take dLen) off w l hm
    rw [putL_eq _ _ _ (by omega), hstr] at this
    exact this
theorem step_copyC {ops : Array Oper} {o : Oper} {a : Act} {K : Act → World → Prop} {Q : Exit → Act → World → Prop} {E0 : Prop} (hgd : o.guard = none) (d x : Operand) (t tx : TypeId)
    (ho : o.op = .call { callee := .builtin .copy, args := #[d, x], argTypes := #[t, tx] }) (E : Elt P t e 1 1 (.int .u8 0))
    {g : Nat} {l : List UInt8} (hm : MarkB w g e l) (off dLen dCap : Nat) (hd : a.eval d = .slice (some ⟨g, off, none⟩) dLen dCap) (str : ByteArray) (hx : a.eval x = .string str)
    (hfit : off + dLen ≤ l.length) (hle : dLen ≤ str.size) (B : Nat) (hB : B ≤ g)
    (h : ∀ w', MarkB w' g e (l.take off ++ str.data.toList.take dLen ++ l.drop (off + dLen)) → Below B w w' → (∀ q : Addr, q.block ≠ g → w'.cell? q = w.cell? q) → K (a.put o.dst (goInt dLen)) w') :
    if Region.wanted o (yielded ops a.tmps) = true then Oper.wp P o a w K Q else E0 := by
  have hw : Region.wanted o (yielded ops a.tmps) = true := by simp [Region.wanted, hgd]
  rw [if_pos hw]
  obtain ⟨w', hr, h2, h3, h4⟩ := hm.copyC (P := P) t tx o.type E off str dLen dCap hfit hle B hB
  unfold Oper.wp execOp
  simp only [ho, resolve, invoke, builtin, Sem.run_bind, Sem.run_pure, Result.andThen_ok, List.map_toArray, List.map_cons, List.map_nil, hd, hx, hr]
  exact h w' h2 h3 h4
end
/-- A name with eight spaces behind it. -/
theorem nm_pad {nm : ByteArray} (h : nm.size ≤ 8) {R : List UInt8} (hR : R.length = 16) : R.take 1 ++ (nm ++ ⟨#[32, 32, 32, 32, 32, 32, 32, 32]⟩).data.toList.take 8 ++ R.drop (1 + 8) = spl 1 (nmC nm) 8 R := by
  unfold spl
  congr 2
  have hl : nm.data.toList.length = nm.size := by rw [Array.length_toList]; rfl
  apply List.ext_getElem
  · simp [ByteArray.data_append, hl] <;> omega
  · intro i h1 h2
    have hi : i < 8 := by simpa using h2
    rw [List.getElem_take, List.getElem_map, List.getElem_range]
    have e1 : (nm ++ (⟨#[32, 32, 32, 32, 32, 32, 32, 32]⟩ : ByteArray)).data.toList = nm.data.toList ++ List.replicate 8 32 := by
      rw [ByteArray.data_append, Array.toList_append]
      rfl
    by_cases hn : i < nm.size
    · rw [nmC_in hn]
      simp only [e1]
      rw [List.getElem_append_left (by omega)]
      rfl
    · rw [nmC_out hn]
      simp only [e1]
      rw [List.getElem_append_right (by omega), List.getElem_replicate]
set_option maxRecDepth 100000 in
set_option maxHeartbeats 8000000 in
theorem putExtent_any (cp : Nat) (e : XE) (A : Option Addr) (w : World) (hr : RR w 1 A e.bl.length (flat fI e.bl)) (hb : okBl e.bl) (hnm : e.nm.size ≤ 8) (hz : e.st = 0 → e = xe0) (hst : 0 ≤ e.st ∧ e.st ≤ 255) (hnu : 0 ≤ e.nu ∧ e.nu ≤ 255) (htl : 0 ≤ e.tl ∧ e.tl ≤ 255) :
    Calls Tryd.prog 66 #[.agg #[.int .i64 e.st, .string e.nm, .int .i64 e.nu, .int .i64 e.tl, .slice A e.bl.length cp]] w fun r w' => ∃ G c, r = .returned (.slice (some ⟨G, 0, none⟩) 16 c) ∧ 16 ≤ c ∧ w.heap.size ≤ G ∧ MarkB w' G 5 (xB e) ∧ BB w w' := by
  have hmk := fun W => eltB.make 16 (by omega) (by omega) W
  simp only [Nat.mul_one, show (Value.int .u8 0).cells = #[Value.int .u8 0] from rfl, Int.cast_ofNat_Int] at hmk
  have M0 := mark_zero (w.alloc (.cells #[.int .i64 e.st, .string e.nm, .int .i64 e.nu, .int .i64 e.tl, .slice A e.bl.length cp] 34)) 16 5
  rw [World.size_alloc] at M0
  have hB0 : BB w ((w.alloc (.cells #[.int .i64 e.st, .string e.nm, .int .i64 e.nu, .int .i64 e.tl, .slice A e.bl.length cp] 34)).alloc (.cells (madeCells #[Value.int .u8 0] 16) 5)) := BB.al (BB.al (BB.start w) _) _
  have D0 := CP.al (CP.made w [.int .i64 e.st, .string e.nm, .int .i64 e.nu, .int .i64 e.tl, .slice A e.bl.length cp] 34) (.cells (madeCells #[Value.int .u8 0] 16) 5)
  by_cases h0 : e.st = 0
  · obtain rfl := hz h0
    have d0 : (_ : Option Value) = some (.int .i64 0) := D0 0 (by simp)
    clear hz hst hnu htl hb hr hnm D0 h0
    go_enter Tryd.func66, Tryd.ntmps66
    go_wp2_with fail
    go_ret
    exact ⟨w.heap.size + 1, 16, rfl, Nat.le_refl _, Nat.le_succ _, by rw [xB_0]; exact M0, hB0⟩
  have h0b : (e.st == 0) = false := by simpa using h0
  have HX := Lib.hid (xB_1 h0)
  obtain ⟨st, nm, nu, tl, bl⟩ := e
  simp only at hb hnm hst hnu htl h0b HX hr D0 M0 hB0 ⊢
  generalize xB ⟨st, nm, nu, tl, bl⟩ = XB at HX ⊢
  have d0 : (_ : Option Value) = some (.int .i64 st) := D0 0 (by simp)
  have a0 := byte_of hst.1 hst.2
  have a1 := byte_of hnu.1 hnu.2
  have a2 := byte_of htl.1 htl.2
  obtain ⟨hb4, hbb⟩ := hb
  have w0 : IntKind.u8.wrap st = st := IntWalk.u8_in _ (by omega)
  have w1 : IntKind.u8.wrap nu = nu := IntWalk.u8_in _ (by omega)
  have w2 : IntKind.u8.wrap tl = tl := IntWalk.u8_in _ (by omega)
  have w3 : IntKind.u8.wrap (bl.length : Int) = (bl.length : Int) := IntWalk.u8_in _ (by omega)
  have a3 : ((UInt8.ofNat bl.length).toNat : Int) = (bl.length : Int) := by rw [UInt8.toNat_ofNat']; omega
  obtain ⟨R1, hR1⟩ : ∃ R, z16.set 0 (UInt8.ofNat st.toNat) = R := ⟨_, rfl⟩
  have hl1 : R1.length = 16 := by rw [← hR1, List.length_set, z16_len]
  have M1 := M0.set_ 0 (UInt8.ofNat st.toNat) st a0.symm
  rw [show (List.replicate 16 (0 : UInt8)) = z16 from rfl, hR1] at M1
  rw [hR1] at HX
  have c0 := M0.cell 0 (by decide)
  have f0 := M0.free 0 (by decide)
  have D1 := CP.put D0 (a := ⟨w.heap.size + 1, 0, none⟩) (by show w.heap.size ≠ w.heap.size + 1; omega) (.int .u8 st)
  have hB1 : BB w _ := BB.put hB0 (a := ⟨w.heap.size + 1, 0, none⟩) (Nat.le_succ _) (.int .u8 st)
  have i0 : (0 : Int) < 16 := by decide
  clear hz h0 hst hnu htl D0 hR1
  go_enter Tryd.func66, Tryd.ntmps66
  go_upto_region 5 with fail
  clear d0 c0 f0 hB0 M0 hmk i0
  have hws : ((w.alloc (.cells #[.int .i64 st, .string nm, .int .i64 nu, .int .i64 tl, .slice A bl.length cp] 34)).alloc (.cells ((madeCells #[Value.int .u8 0] 16).setIfInBounds 0 (.int .u8 st)) 5)) = (((w.alloc (.cells #[.int .i64 st, .string nm, .int .i64 nu, .int .i64 tl, .slice A bl.length cp] 34)).alloc (.cells (madeCells #[Value.int .u8 0] 16) 5)).setCell ⟨w.heap.size + 1, 0, none⟩ (.int .u8 st)) := by simp [go_sem]
  rw [← hws] at M1 D1 hB1
  clear hws
  generalize ((w.alloc (.cells #[.int .i64 st, .string nm, .int .i64 nu, .int .i64 tl, .slice A bl.length cp] 34)).alloc (.cells ((madeCells #[Value.int .u8 0] 16).setIfInBounds 0 (.int .u8 st)) 5)) = wA at M1 D1 hB1 ⊢
  obtain ⟨G, hG⟩ : ∃ G, w.heap.size + 1 = G := ⟨_, rfl⟩
  have hGle : w.heap.size ≤ G := by omega
  have hgG : w.heap.size ≠ G := by omega
  simp only [hG] at M1 ⊢
  obtain ⟨g, hg⟩ : ∃ g, w.heap.size = g := ⟨_, rfl⟩
  have HG := Lib.hid hg
  rw [hg] at D1 hgG
  clear hG
  simp only [hg]
  have d1 : (_ : Option Value) = some (.string nm) := D1 1 (by simp)
  have hpad : (nm ++ (⟨#[32, 32, 32, 32, 32, 32, 32, 32]⟩ : ByteArray)).size = nm.size + 8 := by rw [ByteArray.size_append]; rfl
  have hno : ¬ 9223372036854775807 < nm.size + 8 := by omega
  have i1 : (1 : Nat) ≤ 9 := by decide
  have i9 : (9 : Nat) ≤ 16 := by decide
  have i16 : ¬ (16 : Nat) = 1 := by decide
  have Md : MarkB wA.drew G 5 R1 := M1
  have hpl : 8 ≤ (nm ++ (⟨#[32, 32, 32, 32, 32, 32, 32, 32]⟩ : ByteArray)).size := by omega
  go_region_law (refine step_copyC rfl (.tmp 17) (.tmp 20) 48 9 rfl eltB Md 1 8 15 rfl (nm ++ (⟨#[32, 32, 32, 32, 32, 32, 32, 32]⟩ : ByteArray)) rfl (by omega) hpl G (Nat.le_refl _) ?_; intro w5 M5 hb5 hoth5)
  have D5 : CP w5 g [.int .i64 st, .string nm, .int .i64 nu, .int .i64 tl, .slice A bl.length cp] := fun j hj => (hoth5 ⟨g, j, none⟩ hgG).trans (D1 j hj)
  have hB5 : BB w w5 := Below.trans (BB.dr hB1) (hb5.mono hGle)
  rw [nm_pad hnm hl1] at M5
  have hsl : (spl 1 (nmC nm) 8 R1).length = 16 := by rw [spl_len (by omega)]; exact hl1
  generalize spl 1 (nmC nm) 8 R1 = R at M5 hsl HX
  clear hoth5 hb5 Md M1 hB1 D1 d1 hpad hpl
  have d2 : (_ : Option Value) = some (.int .i64 nu) := D5 2 (by simp)
  have d3 : (_ : Option Value) = some (.int .i64 tl) := D5 3 (by simp)
  have d4 : (_ : Option Value) = some (.slice A bl.length cp) := D5 4 (by simp)
  have c9 := M5.cell 9 (by omega)
  have f9 := M5.free 9 (by omega)
  have M9 := M5.set_ 9 (UInt8.ofNat nu.toNat) nu a1.symm
  have D9 := CP.put D5 (a := ⟨G, 9, none⟩) hgG (.int .u8 nu)
  have hB9 : BB w _ := BB.put hB5 (a := ⟨G, 9, none⟩) hGle (.int .u8 nu)
  have d3' : (_ : Option Value) = some (.int .i64 tl) := D9 3 (by simp)
  have d4' : (_ : Option Value) = some (.slice A bl.length cp) := D9 4 (by simp)
  have c10 := M9.cell 10 (by rw [List.length_set]; omega)
  have f10 := M9.free 10 (by rw [List.length_set]; omega)
  have M10 := M9.set_ 10 (UInt8.ofNat tl.toNat) tl a2.symm
  have D10 := CP.put D9 (a := ⟨G, 10, none⟩) hgG (.int .u8 tl)
  have hB10 : BB w _ := BB.put hB9 (a := ⟨G, 10, none⟩) hGle (.int .u8 tl)
  have d4'' : (_ : Option Value) = some (.slice A bl.length cp) := D10 4 (by simp)
  have c11 := M10.cell 11 (by rw [List.length_set, List.length_set]; omega)
  have f11 := M10.free 11 (by rw [List.length_set, List.length_set]; omega)
  have M11 := M10.set_ 11 (UInt8.ofNat bl.length) (bl.length : Int) a3.symm
  have D11 := CP.put D10 (a := ⟨G, 11, none⟩) hgG (.int .u8 (bl.length : Int))
  have hB11 : BB w _ := BB.put hB10 (a := ⟨G, 11, none⟩) hGle (.int .u8 (bl.length : Int))
  have j9 : (9 : Int) < 16 := by decide
  have j10 : (10 : Int) < 16 := by decide
  have j11 : (11 : Int) < 16 := by decide
  obtain ⟨R2, hR2⟩ : ∃ R2, ((R.set 9 (UInt8.ofNat nu.toNat)).set 10 (UInt8.ofNat tl.toNat)).set 11 (UInt8.ofNat bl.length) = R2 := ⟨_, rfl⟩
  have hl2 : R2.length = 16 := by rw [← hR2, List.length_set, List.length_set, List.length_set]; exact hsl
  rw [hR2] at M11 HX
  clear hR2 M9 M10 D9 D10 hB9 hB10
  go_upto_region 6 with fail
  go_cut [22] (fun _ wx => MarkB wx G 5 R2 ∧ CP wx g [.int .i64 st, .string nm, .int .i64 nu, .int .i64 tl, .slice A bl.length cp] ∧ BB w wx)
  case first =>
    go_region_with (fail)
    all_goals
      go_wp2_with fail
      go_meet
      exact ⟨M11, D11, BB.dr hB11⟩
  case rest =>
    clear d2 d3 d4 d3' d4' d4'' c9 f9 c10 f10 c11 f11 M5 D5 hB5 M11 D11 hB11 hsl
    obtain ⟨M11, D11, hB11⟩ := hcut
    obtain ⟨wB, hwB⟩ : ∃ x, x = wc := ⟨_, rfl⟩
    subst hwB
    have d4 : (_ : Option Value) = some (.slice A bl.length cp) := D11 4 (by simp)
    go_wp2_with fail
    go_loopw [4, 5, 41] (fun _ _ i wr => ∃ k : Nat, k ≤ bl.length ∧ i = .int .i64 (k : Int) ∧ MarkB wr G 5 (spl 12 (blC bl) k R2) ∧ BB w wr) (fun _ _ i _ => bl.length - (intOf i).toNat)
    case atStart => exact ⟨0, Nat.zero_le _, rfl, by rw [spl_0]; exact M11, hB11⟩
    case round =>
      clear M11 D11 hB11 d4
      obtain ⟨k, hk, rfl, M, hB⟩ := hrel
      by_cases hlt : k < bl.length
      · have hlti : (k : Int) < (bl.length : Int) := by omega
        have hsl : (spl 12 (blC bl) k R2).length = 16 := by rw [spl_len (by omega)]; exact hl2
        have hst := spl_step (q := 12) (i := k) (f := blC bl) (R := R2) (by omega)
        generalize spl 12 (blC bl) k R2 = R at M hsl hst
        have hj : 12 + k < R.length := by omega
        obtain ⟨J, hJ⟩ : ∃ J, 12 + k = J := ⟨_, rfl⟩
        rw [hJ] at hst hj
        have hw : IntKind.i64.wrap (12 + (k : Int)) = (J : Int) := by rw [IntWalk.i64_in _ (by omega)]; omega
        have hij : (J : Int) < 16 := by omega
        obtain ⟨b, off, rfl, hbk, hcc⟩ := Rd.at_ (RR.back hr hB) fI_len rfl k hlt
        have hc0 := hcc 0 _ (by omega) rfl
        clear hcc
        simp only [Nat.mul_one, Nat.add_zero] at hc0
        have hmem := hbb _ (List.getElem_mem hlt)
        rw [blC_in hlt] at hst
        obtain ⟨x, hx⟩ : ∃ x, bl[k] = x := ⟨_, rfl⟩
        rw [hx] at hc0 hmem hst
        have wx : IntKind.u8.wrap x = x := IntWalk.u8_in _ (by omega)
        have ax := byte_of hmem.1 hmem.2
        have c1 := M.cell J hj
        have f1 := M.free J hj
        have M2 := M.set_ J (UInt8.ofNat x.toNat) x ax.symm
        rw [hst] at M2
        have hB2 : BB w _ := BB.put hB (a := ⟨G, J, none⟩) hGle (.int .u8 x)
        clear hst hx ax hJ
        go_wp2_with fail
        go_roundw
        case rel => exact ⟨k + 1, by omega, by go_num, M2, hB2⟩
        case measure => simp [intOf]; omega
      · have hlti : ¬ (k : Int) < (bl.length : Int) := by omega
        obtain rfl : k = bl.length := by omega
        go_wp2_with fail
        go_ret
        exact ⟨G, 16, rfl, Nat.le_refl _, by rw [← HG.out]; exact hGle, by rw [HX.out]; exact M, hB⟩
end Go.Proofs.YtbhpjoepbmimjaaDoor
namespace Go.Proofs.YtbhpjoepbmimjaaDoor
set_option linter.unusedVariables false
open Go.RowKit

theorem tk_step {P Q : List UInt8} {k : Nat} (h : P.take k = Q.take k) (hp : k < P.length) (hq : k < Q.length) (e : P[k] = Q[k]) : P.take (k + 1) = Q.take (k + 1) := by
  rw [List.take_succ_eq_append_getElem hp, List.take_succ_eq_append_getElem hq, h, e]
theorem bcells_at (P : List UInt8) (k : Nat) (h : k < P.length) : (bcells P)[k]'(by rw [bcells_length]; exact h) = .int .u8 (P[k].toNat : Int) := by simp [bcells]
theorem RR.byte {w : World} {A : Option Addr} {P : List UInt8} {n : Nat} (hr : RR w 1 A n (bcells P)) (hn : n = P.length) (k : Nat) (hk : k < P.length) : ∃ b off, A = some ⟨b, off, none⟩ ∧ b < w.heap.size ∧ w.cell? ⟨b, off + k, none⟩ = some (.int .u8 (P[k].toNat : Int)) := by
  obtain ⟨b, off, he, hb, hc⟩ := hr.2 (by omega)
  refine ⟨b, off, he, hb, ?_⟩
  rw [hc k (by rw [bcells_length]; exact hk), bcells_at]
set_option maxRecDepth 100000 in
set_option maxHeartbeats 1000000 in
theorem equalB_any (A A' : Option Addr) (cp cp' n : Nat) (P Q : List UInt8) (w : World) (hr : RR w 1 A n (bcells P)) (hr' : RR w 1 A' n (bcells Q)) (hp : P.length = n) (hq : Q.length = n) (hn : n ≤ 1048576) :
    Calls Tryd.prog 53 #[.slice A n cp, .slice A' n cp'] w fun e w' => e = .returned (.bool (decide (P = Q))) ∧ Below w.heap.size w w' := by
  go_enter Tryd.func53, Tryd.ntmps53
  go_wp2
  go_loopw [5, 13] (fun _ i wr => ∃ k : Nat, k ≤ n ∧ i = .int .i64 (k : Int) ∧ Hid (P.take k = Q.take k) ∧ BB w wr) (fun _ i _ => n - (intOf i).toNat)
  case atStart => exact ⟨0, Nat.zero_le _, rfl, Lib.hid rfl, BB.start w⟩
  case round =>
    obtain ⟨k, hk, rfl, HT, hB⟩ := hrel
    by_cases hlt : k < n
    · have hlti : (k : Int) < (n : Int) := by omega
      obtain ⟨b, off, rfl, hbb, hc1⟩ := RR.byte (RR.back hr hB) hp.symm k (by omega)
      obtain ⟨b', off', rfl, hbb', hc2⟩ := RR.byte (RR.back hr' hB) hq.symm k (by omega)
      have hkp : k < P.length := by omega
      have hkq : k < Q.length := by omega
      have hst := fun (e : P[k] = Q[k]) => tk_step HT.out hkp hkq e
      have hno : ¬ P[k] = Q[k] → decide (P = Q) = false := fun e => decide_eq_false (fun x => e (by subst x; rfl))
      obtain ⟨x, hx⟩ : ∃ x, P[k] = x := ⟨_, rfl⟩
      obtain ⟨y, hy⟩ : ∃ y, Q[k] = y := ⟨_, rfl⟩
      rw [hx] at hc1
      rw [hy] at hc2
      rw [hx, hy] at hno hst
      clear hx hy
      by_cases he : x = y
      · have HN := Lib.hid (hst he)
        have hxy : ((x.toNat : Int) != (y.toNat : Int)) = false := by subst he; simp
        clear hst hno he
        go_wp2_with fail
        go_quiet (fail)
        go_wp2_with fail
        go_roundw
        case rel => exact ⟨k + 1, by omega, by go_num, HN, BB.dn hB _⟩
        case measure => simp [intOf]; omega
      · have HN := Lib.hid (hno he)
        have hxy : ((x.toNat : Int) != (y.toNat : Int)) = true := by
          rw [bne_iff_ne]
          intro e
          exact he (UInt8.toNat_inj.1 (by omega))
        clear hst hno he
        go_wp2_with fail
        go_quiet (fail)
        go_wp2_with fail
        go_ret
        exact ⟨ret_bool HN.out.symm, BB.dn hB _⟩
    · have hlti : ¬ (k : Int) < (n : Int) := by omega
      have HN := Lib.hid (show decide (P = Q) = true by
        have h1 := HT.out
        rw [List.take_of_length_le (by omega), List.take_of_length_le (by omega)] at h1
        exact decide_eq_true h1)
      go_wp2_with fail
      go_ret
      exact ⟨ret_bool HN.out.symm, hB⟩
end Go.Proofs.YtbhpjoepbmimjaaDoor
namespace Go.Proofs.YtbhpjoepbmimjaaDoor
set_option linter.unusedVariables false
open Go.RowKit

theorem xeR_0 {B : List UInt8} (h : gb B 0 = 0) : xeR B = xe0 := by unfold xeR; exact if_pos h
theorem xeR_1 {B : List UInt8} (h : ¬ gb B 0 = 0) : xeR B = ⟨(gb B 0 : Int), xNm B, (gb B 9 : Int), (gb B 10 : Int), xBl B (min (gb B 11) 4)⟩ := by unfold xeR; exact if_neg h
theorem gb_lt (B : List UInt8) (k : Nat) : gb B k < 256 := (B.getD k 0).toNat_lt
theorem xBl_0 (B : List UInt8) : xBl B 0 = [] := by simp [xBl]
theorem xBl_step {B : List UInt8} {k : Nat} (h : 12 + k < B.length) : xBl B k ++ [((B[12 + k].toNat : Nat) : Int)] = xBl B (k + 1) := by
  have h1 : k < (B.drop 12).length := by rw [List.length_drop]; omega
  unfold xBl
  rw [List.take_succ_eq_append_getElem h1, List.map_append, List.map_singleton, List.getElem_drop]
theorem xBl_len {B : List UInt8} {k : Nat} (h : 12 + k ≤ B.length) : (xBl B k).length = k := by
  simp only [xBl, List.length_map, List.length_take, List.length_drop]
  omega
theorem xeOk_v {s : Int} {B : List UInt8} (h : xV s (xeR B) = false) : xeOk s B = false ∧ xeE s B = xe0 := by
  have : xeOk s B = false := by unfold xeOk; rw [h]; rfl
  exact ⟨this, by unfold xeE; rw [this]; rfl⟩
theorem xeOk_b {s : Int} {B : List UInt8} (h : xV s (xeR B) = true) (g : ¬ xB (xeR B) = B) : xeOk s B = false ∧ xeE s B = xe0 := by
  have : xeOk s B = false := by unfold xeOk; rw [h, decide_eq_false g]; rfl
  exact ⟨this, by unfold xeE; rw [this]; rfl⟩
theorem xeOk_y {s : Int} {B : List UInt8} (h : xV s (xeR B) = true) (g : xB (xeR B) = B) : xeOk s B = true ∧ xeE s B = xeR B := by
  have : xeOk s B = true := by unfold xeOk; rw [h, decide_eq_true g]; rfl
  exact ⟨this, by unfold xeE; rw [this]; rfl⟩
theorem xB_len {e : XE} (h : e.bl.length ≤ 4) : (xB e).length = 16 := by
  unfold xB
  split
  · exact z16_len
  · have h1 : (spl 1 (nmC e.nm) 8 (z16.set 0 (UInt8.ofNat e.st.toNat))).length = 16 := by rw [spl_len (by rw [List.length_set, z16_len]; omega), List.length_set, z16_len]
    rw [spl_len (by rw [List.length_set, List.length_set, List.length_set, h1]; omega), List.length_set, List.length_set, List.length_set, h1]
/-- A box of an entry at X, an empty one at the start of the call, the bytes that are read, the layout behind g. -/
structure E0 (w W : World) (X bb off g : Nat) (vs : List Value) (B : List UInt8) (LY : List Value) : Prop where
  F : BX W X 34 vs
  Z : BX W w.heap.size 34 [.int .i64 0, .string ⟨#[]⟩, .int .i64 0, .int .i64 0, .slice none 0 0]
  R : RR W 1 (some ⟨bb, off, none⟩) 16 (bcells B)
  D : CP W g LY
  Bw : BB w W
  hX : w.heap.size < X
  hb : bb < X
  hb0 : bb ≠ w.heap.size
  hg : g < w.heap.size
section
variable {w W W' : World} {X bb off g : Nat} {vs LY : List Value} {B : List UInt8}
theorem RR.putx {A : Option Addr} {n : Nat} {xs : List Value} (h : RR W 1 (some ⟨bb, off, none⟩) n xs) {a : Addr} (ha : bb ≠ a.block) (u : Value) : RR (W.setCell a u) 1 (some ⟨bb, off, none⟩) n xs := by
  refine ⟨h.1, fun hn => ?_⟩
  obtain ⟨b, o, he, hb, hc⟩ := h.2 hn
  cases he
  exact ⟨_, _, rfl, by simpa using hb, fun j hj => (World.cell?_setCell_other W a ⟨bb, off + j, none⟩ u (by intro e; exact ha (by rw [e]))).trans (hc j hj)⟩
theorem RR.farx {n : Nat} {xs : List Value} {row : Option Nat} (h : RR W 1 (some ⟨bb, off, none⟩) n xs) (hg : W.grownBy W' row) (hne : row ≠ some bb) : RR W' 1 (some ⟨bb, off, none⟩) n xs := by
  refine ⟨h.1, fun hn => ?_⟩
  obtain ⟨b, o, he, hb, hc⟩ := h.2 hn
  cases he
  refine ⟨_, _, rfl, Nat.lt_of_lt_of_le hb hg.size, fun j hj => ?_⟩
  rw [World.grownBy.cell_far hg ⟨bb, off + j, none⟩ hb (fun e => hne e.symm)]
  exact hc j hj
theorem E0.al (H : E0 w W X bb off g vs B LY) (o : Obj) : E0 w (W.alloc o) X bb off g vs B LY := ⟨H.F.al o, H.Z.al o, RR.al H.R o, CP.al H.D o, BB.al H.Bw o, H.hX, H.hb, H.hb0, H.hg⟩
theorem E0.dr (H : E0 w W X bb off g vs B LY) : E0 w W.drew X bb off g vs B LY := ⟨H.F, H.Z, H.R, H.D, BB.dr H.Bw, H.hX, H.hb, H.hb0, H.hg⟩
theorem E0.dn (H : E0 w W X bb off g vs B LY) (n : Nat) : E0 w (W.drewN n) X bb off g vs B LY := ⟨H.F, H.Z, H.R, H.D, BB.dn H.Bw n, H.hX, H.hb, H.hb0, H.hg⟩
theorem E0.next (H : E0 w W X bb off g vs B LY) (hx : Below W.heap.size W W') : E0 w W' X bb off g vs B LY := ⟨H.F.below hx H.F.lt, H.Z.below hx H.Z.lt, RR.next H.R hx, CP.next H.D hx, BB.next H.Bw hx, H.hX, H.hb, H.hb0, H.hg⟩
theorem E0.put (H : E0 w W X bb off g vs B LY) (j : Nat) (u : Value) : E0 w (W.setCell ⟨X, j, none⟩ u) X bb off g (vs.set j u) B LY := by
  have h1 := H.hX
  have h2 := H.hb
  have h3 := H.hg
  exact ⟨H.F.put j u, H.Z.far (a := ⟨X, j, none⟩) (by show w.heap.size ≠ X; omega) u, RR.putx (A := none) H.R (a := ⟨X, j, none⟩) (by show bb ≠ X; omega) u, CP.put H.D (a := ⟨X, j, none⟩) (by show g ≠ X; omega) u, BB.put H.Bw (a := ⟨X, j, none⟩) (by show w.heap.size ≤ X; omega) u, h1, h2, H.hb0, h3⟩
theorem E0.row (H : E0 w W X bb off g vs B LY) {row : Option Nat} (hg : W.grownBy W' row) (hr : ∀ j, row = some j → X + 1 ≤ j) : E0 w W' X bb off g vs B LY := by
  have h1 := H.hX
  have h2 := H.hb
  have h3 := H.hg
  exact ⟨H.F.grownx hg (fun e => by have := hr _ e; omega), H.Z.grownx hg (fun e => by have := hr _ e; omega), RR.farx H.R hg (fun e => by have := hr _ e; omega), CP.far H.D hg (fun e => by have := hr _ e; omega), Below.grown H.Bw hg (Below.size H.Bw) (fun k hk => by have := hr k hk; omega), h1, h2, H.hb0, h3⟩
theorem conv_rr {P : Program} {src dst e : TypeId} {n : Nat} {Q : List UInt8} (hs : P.underlying src = some (.slice e)) (he : P.underlying e = some (.int .u8)) (hd : P.underlying dst = some .string) (h : RR W 1 (some ⟨bb, off, none⟩) n (bcells Q)) (hn : n = Q.length) (c : Nat) :
    (convert src dst (.slice (some ⟨bb, off, none⟩) n c)).run P W = .ok (.string ⟨Q.toArray⟩) W := by
  subst hn
  refine run_convert_bytes_back W src dst e ⟨bb, off, none⟩ c Q hs he hd ?_
  intro j hj
  obtain ⟨b, o, hbe, hb, hc⟩ := h.2 (by omega)
  cases hbe
  have h1 := hc j (by rw [bcells_length]; exact hj)
  rw [show (⟨bb, off, none⟩ : Addr).add j = ⟨bb, off + j, none⟩ by
    unfold Addr.add
    split
    · rename_i h0; rw [h0]; rfl
    · rfl, h1, bcells_at]
theorem rr_sub {n : Nat} {Q : List UInt8} (h : RR W 1 (some ⟨bb, off, none⟩) n (bcells Q)) (hn : n = Q.length) (a m : Nat) (ham : a + m ≤ n) (hm : 0 < m) : RR W 1 (some ⟨bb, off + a, none⟩) m (bcells ((Q.drop a).take m)) := by
  have hl : ((Q.drop a).take m).length = m := by rw [List.length_take, List.length_drop]; omega
  refine ⟨by rw [bcells_length, hl, Nat.mul_one], fun _ => ?_⟩
  obtain ⟨b, o, hbe, hb, hc⟩ := h.2 (by omega)
  cases hbe
  refine ⟨bb, off + a, rfl, hb, fun j hj => ?_⟩
  rw [bcells_length, hl] at hj
  have h1 := hc (a + j) (by rw [bcells_length]; omega)
  rw [show off + (a + j) = off + a + j by omega] at h1
  rw [h1]
  simp only [bcells, List.getElem_map, List.getElem_take, List.getElem_drop]
theorem own_capX {w : World} {base : Nat} {e : TypeId} {size n c : Nat} {A : Option Addr} {xs : List Value} (h : w.ownsRow base e size (.slice A n c) n xs) : n ≤ c := by
  rcases h.2 with ⟨_, h0⟩ | ⟨g, cap, cur, hv, _, _, h1, _⟩
  · omega
  · cases hv
    exact h1
theorem rr_byte {Q : List UInt8} (h : RR W 1 (some ⟨bb, off, none⟩) 16 (bcells Q)) (hQ : Q.length = 16) (j : Nat) (hj : j < 16) : W.cell? ⟨bb, off + j, none⟩ = some (.int .u8 (gb Q j : Int)) := by
  obtain ⟨b, o, hbe, hb, hc⟩ := h.2 (by omega)
  cases hbe
  rw [hc j (by rw [bcells_length]; omega), bcells_at Q j (by omega), gb_get (by omega)]
end
set_option maxRecDepth 100000 in
set_option maxHeartbeats 16000000 in
theorem l17At_any (g b z E Y : Nat) (A : Option Addr) (cp : Nat) (l : List ByteArray) (k : Nat) (w : World) (d : CP w g [.int .i64 (b : Int), .int .i64 (z : Int), .int .i64 (E : Int), .int .i64 (Y : Int)]) (hr : RR w 1 A l.length (flat fS l)) (hs : z = 8 ∨ z = 16 ∨ z = 32) (hl : ∀ x ∈ l, x.size = z) (hn : l.length ≤ 128) (hk : z + 16 * (k + 1) ≤ l.length * z) :
    Calls Tryd.prog 28 #[.slice A l.length cp, .pointer (some ⟨g, 0, none⟩), .int .i64 (k : Int)] w fun r w' => ∃ A c, r = .returned (.tuple #[.agg #[.int .i64 (xeE (z : Int) (xRaw (jn l) z k)).st, .string (xeE (z : Int) (xRaw (jn l) z k)).nm, .int .i64 (xeE (z : Int) (xRaw (jn l) z k)).nu, .int .i64 (xeE (z : Int) (xRaw (jn l) z k)).tl, .slice A (xeE (z : Int) (xRaw (jn l) z k)).bl.length c], .bool (xeOk (z : Int) (xRaw (jn l) z k))]) ∧ w'.ownsRow w.heap.size 2 1 (.slice A (xeE (z : Int) (xRaw (jn l) z k)).bl.length c) (xeE (z : Int) (xRaw (jn l) z k)).bl.length (flat fI (xeE (z : Int) (xRaw (jn l) z k)).bl) ∧ BB w w' := by
  have F0 := BX.made w 34 [.int .i64 0, .string ⟨#[]⟩, .int .i64 0, .int .i64 0, .slice none 0 0]
  have hB0 : BB w (w.alloc (.cells #[.int .i64 0, .string ⟨#[]⟩, .int .i64 0, .int .i64 0, .slice none 0 0] 34)) := BB.al (BB.start w) _
  have hg : g < w.heap.size := (cell_spot (d 0 (by simp))).2
  have raw := l17Raw_any g b z E Y A cp l k (w.alloc (.cells #[.int .i64 0, .string ⟨#[]⟩, .int .i64 0, .int .i64 0, .slice none 0 0] 34)) (CP.al d (.cells #[.int .i64 0, .string ⟨#[]⟩, .int .i64 0, .int .i64 0, .slice none 0 0] 34)) (RR.al hr (.cells #[.int .i64 0, .string ⟨#[]⟩, .int .i64 0, .int .i64 0, .slice none 0 0] 34)) hs hl hn hk
  have hBl : (xRaw (jn l) z k).length = 16 := xRaw_len (by rw [jn_len l z hl]; exact hk)
  obtain ⟨B, hBe⟩ : ∃ B, xRaw (jn l) z k = B := ⟨_, rfl⟩
  rw [hBe] at raw hBl ⊢
  clear hBe
  go_enter Tryd.func28, Tryd.ntmps28
  have w0 : IntKind.i64.wrap (gb B 0 : Int) = (gb B 0 : Int) := by have := gb_lt B 0; exact IntWalk.i64_in _ (by omega)
  go_upto_if 22 with (go_at_call 58; (with_reducible refine raw.mono ?_); rintro r w1 ⟨v, rfl, O1, hx1⟩; obtain ⟨bb, vc, rfl, hb0, hb1⟩ := World.ownsRow.form O1 (by decide); have b0 := rr_byte (RR.own O1) hBl 0 (by decide))
  have hvc := own_capX O1
  have hl0 : (w.alloc (.cells #[.int .i64 0, .string ⟨#[]⟩, .int .i64 0, .int .i64 0, .slice none 0 0] 34)).heap.size = w.heap.size + 1 := World.size_alloc w _
  have H : E0 w (w1.alloc (.cells #[.int .i64 (gb B 0 : Int), .string ⟨#[]⟩, .int .i64 0, .int .i64 0, .slice none 0 0] 34)) w1.heap.size bb 0 g [.int .i64 (gb B 0 : Int), .string ⟨#[]⟩, .int .i64 0, .int .i64 0, .slice none 0 0] B [.int .i64 (b : Int), .int .i64 (z : Int), .int .i64 (E : Int), .int .i64 (Y : Int)] := ⟨BX.made w1 34 [.int .i64 (gb B 0 : Int), .string ⟨#[]⟩, .int .i64 0, .int .i64 0, .slice none 0 0], (F0.below hx1 F0.lt).al (.cells #[.int .i64 (gb B 0 : Int), .string ⟨#[]⟩, .int .i64 0, .int .i64 0, .slice none 0 0] 34), RR.al (RR.own O1) (.cells #[.int .i64 (gb B 0 : Int), .string ⟨#[]⟩, .int .i64 0, .int .i64 0, .slice none 0 0] 34), CP.al (CP.next (CP.al d (.cells #[.int .i64 0, .string ⟨#[]⟩, .int .i64 0, .int .i64 0, .slice none 0 0] 34)) hx1) (.cells #[.int .i64 (gb B 0 : Int), .string ⟨#[]⟩, .int .i64 0, .int .i64 0, .slice none 0 0] 34), BB.al (BB.next hB0 hx1) (.cells #[.int .i64 (gb B 0 : Int), .string ⟨#[]⟩, .int .i64 0, .int .i64 0, .slice none 0 0] 34), by have := hx1.size; omega, hb1, by omega, hg⟩
  have hrX : RR (w1.alloc (.cells #[.int .i64 (gb B 0 : Int), .string ⟨#[]⟩, .int .i64 0, .int .i64 0, .slice none 0 0] 34)) 1 A l.length (flat fS l) := RR.back hr H.Bw
  clear raw O1 hx1 F0 hB0 d hb0 hb1 hl0 b0
  generalize (w1.alloc (.cells #[.int .i64 (gb B 0 : Int), .string ⟨#[]⟩, .int .i64 0, .int .i64 0, .slice none 0 0] 34)) = w2 at H hrX ⊢
  generalize w1.heap.size = X at H ⊢
  have hX := H.hX
  go_cut [10] (fun _ wx => ∃ (A5 : Option Addr) (c5 : Nat), E0 w wx X bb 0 g [.int .i64 (xeR B).st, .string (xeR B).nm, .int .i64 (xeR B).nu, .int .i64 (xeR B).tl, .slice A5 (xeR B).bl.length c5] B [.int .i64 (b : Int), .int .i64 (z : Int), .int .i64 (E : Int), .int .i64 (Y : Int)] ∧ OO wx (X + 1) 2 1 (.slice A5 (xeR B).bl.length c5) (xeR B).bl.length (flat fI (xeR B).bl))
  case first =>
    by_cases h0 : gb B 0 = 0
    · have h0b : ((gb B 0 : Int) != 0) = false := by rw [h0]; rfl
      have hR := xeR_0 h0
      rw [h0] at H
      go_wp2_with fail
      go_meet
      refine ⟨none, 0, ?_, ?_⟩
      · rw [hR]; exact H
      · rw [hR]; exact World.ownsRow_nil _ _ _ _
    have h0b : ((gb B 0 : Int) != 0) = true := by simp; omega
    have hR := Lib.hid (xeR_1 h0)
    clear h0
    have f0 : (_ : Option Value) = some (.int .i64 (gb B 0 : Int)) := H.F.cell 0 (by simp)
    have hf := fun j => H.F.free j
    have f1 : (_ : Option Value) = some (.string ⟨#[]⟩) := H.F.cell 1 (by simp)
    have i9 : 9 ≤ vc := by omega
    have i1 : ¬ vc = 1 := by omega
    have hcv := conv_rr (P := Tryd.prog) (src := 48) (dst := 9) Tryd.underlying48 Tryd.underlying5 Tryd.underlying9 (rr_sub H.R hBl.symm 1 8 (by decide) (by decide)) (by rw [List.length_take, List.length_drop, hBl]; rfl) (vc - 1)
    simp only [Nat.zero_add] at hcv
    obtain ⟨N, hN⟩ : ∃ N : ByteArray, (⟨((B.drop 1).take 8).toArray⟩ : ByteArray) = N := ⟨_, rfl⟩
    rw [hN] at hcv
    have hNs : N.size ≤ 8 := by
      rw [← hN]
      show ((B.drop 1).take 8).toArray.size ≤ 8
      rw [List.size_toArray, List.length_take]
      omega
    have hNx : trB N 32 = xNm B := by rw [← hN]; rfl
    have tt : ∀ W, Calls Tryd.prog 59 #[.string N] W fun e w' => e = .returned (.string (xNm B)) ∧ W = w' := fun W => by
      have := l28Title_any N W (by omega)
      rwa [hNx] at this
    clear hN hNx hNs
    have H1 := H.put 1 (.string (xNm B))
    have w9 : IntKind.i64.wrap (gb B 9 : Int) = (gb B 9 : Int) := by have := gb_lt B 9; exact IntWalk.i64_in _ (by omega)
    have w10 : IntKind.i64.wrap (gb B 10 : Int) = (gb B 10 : Int) := by have := gb_lt B 10; exact IntWalk.i64_in _ (by omega)
    have b9 := rr_byte H1.R hBl 9 (by decide)
    have hf1 := fun j => H1.F.free j
    have f2 : (_ : Option Value) = some (.int .i64 0) := H1.F.cell 2 (by simp)
    have H2 := H1.put 2 (.int .i64 (gb B 9 : Int))
    have b10 := rr_byte H2.R hBl 10 (by decide)
    have hf2 := fun j => H2.F.free j
    have f3 : (_ : Option Value) = some (.int .i64 0) := H2.F.cell 3 (by simp)
    have H3 := H2.put 3 (.int .i64 (gb B 10 : Int))
    simp only [Nat.zero_add] at b9 b10
    go_wp2_with (go_at_call 59; (with_reducible refine (tt _).mono ?_); rintro r w9 ⟨rfl, rfl⟩)
    clear f0 f1 f2 f3 hf hf1 hf2 b9 b10 hcv tt H H1 H2 w9 w10 h0b
    generalize (((w2.setCell ⟨X, 1, none⟩ (.string (xNm B))).setCell ⟨X, 2, none⟩ (.int .i64 (gb B 9 : Int))).setCell ⟨X, 3, none⟩ (.int .i64 (gb B 10 : Int))) = w3 at H3 ⊢
    go_loopw [10] (fun i wr => ∃ (L : List Int) (A5 : Option Addr) (c5 : Nat), i = .int .u8 (L.length : Int) ∧ L.length ≤ min (gb B 11) 4 ∧ Hid (L = xBl B L.length) ∧ E0 w wr X bb 0 g [.int .i64 (gb B 0 : Int), .string (xNm B), .int .i64 (gb B 9 : Int), .int .i64 (gb B 10 : Int), .slice A5 L.length c5] B [.int .i64 (b : Int), .int .i64 (z : Int), .int .i64 (E : Int), .int .i64 (Y : Int)] ∧ OO wr (X + 1) 2 1 (.slice A5 L.length c5) L.length (flat fI L)) (fun i _ => 4 - (intOf i).toNat)
    case atStart => exact ⟨[], none, 0, rfl, Nat.zero_le _, Lib.hid (by rw [List.length_nil, xBl_0]), H3, World.ownsRow_nil _ _ _ _⟩
    case round =>
      clear H3
      obtain ⟨L, A5, c5, rfl, hLm, HL, H, O⟩ := hrel
      have b11 := rr_byte H.R hBl 11 (by decide)
      simp only [Nat.zero_add] at b11
      have hL4 : L.length ≤ 4 := by omega
      have fin : L.length = min (gb B 11) 4 → ∃ (A5 : Option Addr) (c5 : Nat), E0 w wr X bb 0 g [.int .i64 (xeR B).st, .string (xeR B).nm, .int .i64 (xeR B).nu, .int .i64 (xeR B).tl, .slice A5 (xeR B).bl.length c5] B [.int .i64 (b : Int), .int .i64 (z : Int), .int .i64 (E : Int), .int .i64 (Y : Int)] ∧ OO wr (X + 1) 2 1 (.slice A5 (xeR B).bl.length c5) (xeR B).bl.length (flat fI (xeR B).bl) := fun e => by
        rw [hR.out]
        have h9 := HL.out
        rw [e] at h9
        exact ⟨A5, c5, by rw [← h9]; exact H, by rw [← h9]; exact O⟩
      by_cases h1 : L.length < gb B 11
      · have d1 : decide ((L.length : Int) < (gb B 11 : Int)) = true := decide_eq_true (by omega)
        by_cases h2 : L.length < 4
        · have d2 : decide ((L.length : Int) < 4) = true := decide_eq_true (by omega)
          obtain ⟨J, hJ⟩ : ∃ J, 12 + L.length = J := ⟨_, rfl⟩
          have hJw : IntKind.u8.wrap (12 + (L.length : Int)) = (J : Int) := by rw [IntWalk.u8_in _ (by omega)]; omega
          have hJi : (J : Int) < 16 := by omega
          have bJ := rr_byte H.R hBl J (by omega)
          simp only [Nat.zero_add] at bJ
          obtain ⟨x, hx⟩ : ∃ x, gb B J = x := ⟨_, rfl⟩
          have hxl := gb_lt B J
          rw [hx] at bJ hxl
          have hxw : IntKind.i64.wrap (x : Int) = (x : Int) := IntWalk.i64_in _ (by omega)
          have HN := Lib.hid (show L ++ [(x : Int)] = xBl B (L ++ [(x : Int)]).length by
            rw [List.length_append, List.length_singleton, ← xBl_step (by omega)]
            have h9 := HL.out
            rw [← h9, ← hx, ← gb_get (by omega)]
            simp only [hJ])
          have hL1 : (L ++ [(x : Int)]).length = L.length + 1 := by rw [List.length_append]; rfl
          have hLn : L.length + 1 ≤ min (gb B 11) 4 := by omega
          have q4 : (_ : Option Value) = some (.slice A5 L.length c5) := H.F.cell 4 (by simp)
          have q4o := fun (o : Obj) => (show (_ : Option Value) = some (.slice A5 L.length c5) from (BX.al H.F o).cell 4 (by simp))
          have hkw : IntKind.u8.wrap ((L.length : Int) + 1) = ((L.length + 1 : Nat) : Int) := by rw [IntWalk.u8_in _ (by omega)]; omega
          have hby : 8 ≤ 1000 := by decide
          have hlb : L.length ≤ 100000000 := by omega
          have hbase : X + 1 ≤ wr.heap.size := H.F.lt
          have hrow : ∀ j, (Value.slice A5 L.length c5).ownBlock = some j → X + 1 ≤ j := fun j e => (World.ownsRow.lt (OOf O) j e).1
          clear hx HL fin h1 hJ
          go_wp2_with fail
          go_region_law (refine step_appG (w := wr.drew) (f := fI) rfl (.tmp 50) (.tmp 57) 32 rfl eltI hby (.slice A5 L.length c5) L L.length rfl rfl (OO.dr O) #[.int .i64 (x : Int)] 2 (x : Int) 1 rfl rfl rfl (oneInt _) hlb hbase ?_; intro v7 w7 O7 hg7 hat7 hbl7; obtain ⟨A7, c7, rfl⟩ := own_form O7; have H7 := (E0.al (E0.dr H) (.cells #[.int .i64 (x : Int)] 2)).row hg7 hrow; have p4 : (_ : Option Value) = some (.slice A5 L.length c5) := H7.F.cell 4 (by simp); have hf7 := fun j => H7.F.free j)
          all_goals
            rw [hL1] at O7
            have H8 := H7.put 4 (.slice A7 (L.length + 1) c7)
            have hv7 : (Value.slice A7 (L.length + 1) c7).ownBlock ≠ some X := fun e => by have := (World.ownsRow.lt O7 X e).1; omega
            have O8 : OO _ _ _ _ _ _ _ := OO.putne O7 (a := ⟨X, 4, none⟩) hv7 (.slice A7 (L.length + 1) c7)
            go_wp2_with fail
            go_roundw
            case rel => exact ⟨L ++ [(x : Int)], A7, c7, by rw [hL1]; rfl, by rw [hL1]; exact hLn, HN, by rw [hL1]; exact H8, by rw [hL1]; exact O8⟩
            case measure => simp [intOf]; omega
        · have d2 : decide ((L.length : Int) < 4) = false := decide_eq_false (by omega)
          have hfin := fin (by omega)
          clear fin
          go_wp2_with fail
          go_meet
          exact hfin
      · have d1 : decide ((L.length : Int) < (gb B 11 : Int)) = false := decide_eq_false (by omega)
        have hfin := fin (by omega)
        clear fin
        go_wp2_with fail
        go_meet
        exact hfin
  case rest =>
    clear hX
    obtain ⟨A5, c5, H, O⟩ := hcut
    obtain ⟨w3, hw3⟩ : ∃ x, x = wc := ⟨_, rfl⟩
    subst hw3
    have hX := H.hX
    obtain ⟨ok1, ok2, ok3, ok4, ok5, ok6, ok7, ok8, ok9⟩ := xeR_ok B
    have V0 := fun h => xeOk_v (s := (z : Int)) (B := B) h
    have V1 := fun h g => xeOk_b (s := (z : Int)) (B := B) h g
    have V2 := fun h g => xeOk_y (s := (z : Int)) (B := B) h g
    generalize xeR B = e at H O ok1 ok2 ok3 ok4 ok5 ok6 ok7 ok8 ok9 V0 V1 V2
    have hxl := xB_len ok1.1
    have l1 : (_ : Option Value) = some (.int .i64 (z : Int)) := H.D 1 (by simp)
    have va := l17Valid_any X c5 e A5 (z : Int) w3.drew (BX.cp H.F) (RR.own (OOf (OO.dr O))) ok1 ok2 ok9
    cases hV : xV (z : Int) e
    · have HR := V0 hV
      have va' := fun (W : World) (h1 : CP W X [.int .i64 e.st, .string e.nm, .int .i64 e.nu, .int .i64 e.tl, .slice A5 e.bl.length c5]) (h2 : RR W 1 A5 e.bl.length (flat fI e.bl)) => l17Valid_any X c5 e A5 (z : Int) W h1 h2 ok1 ok2 ok9
      rw [hV] at va'
      have kl := gw_cell l1
      have hRO := RR.own (OOf O)
      have p1 := fun (p' : Regrown) => qb_below p' (va' (Sort.grow (redrawn w3 p'.d) p'.os) (CP.next (BX.cp H.F) (gw_below w3 p')) (RR.next hRO (gw_below w3 p')))
      clear V0 V1 V2 hV va va'
      go_upto_region 11 with fail
      refine wp_region_quiet_below (by kernel_rfl) (by kernel_rfl) ?_
      repeat (go_big_quiet_step (first | with_reducible exact p1 _))
      refine wpQuiet_nil ?_
      intro _ hw'
      obtain ⟨pq, hw''⟩ := hw'
      subst hw''
      have HF := H.next (gw_below w3 pq)
      clear p1 kl l1
      generalize Sort.grow (redrawn w3 pq.d) pq.os = w5 at HF ⊢
      have HR := Lib.hid HR
      have z0 : (_ : Option Value) = some (.int .i64 0) := HF.Z.cell 0 (by simp)
      have z1 : (_ : Option Value) = some (.string ⟨#[]⟩) := HF.Z.cell 1 (by simp)
      have z2 : (_ : Option Value) = some (.int .i64 0) := HF.Z.cell 2 (by simp)
      have z3 : (_ : Option Value) = some (.int .i64 0) := HF.Z.cell 3 (by simp)
      have z4 : (_ : Option Value) = some (.slice none 0 0) := HF.Z.cell 4 (by simp)
      have hfz := fun j => HF.Z.free j
      go_wp2_with fail
      refine bodyPost_ret (v := .tuple #[.agg #[.int .i64 0, .string ⟨#[]⟩, .int .i64 0, .int .i64 0, .slice none 0 0], .bool false]) (by simp [results, Tryd.results28, go_sem, World.cell?_setCell_other, z0, z1, z2, z3, z4]) rfl ⟨none, 0, by rw [HR.out.1, HR.out.2]; rfl, by rw [HR.out.2]; exact World.ownsRow_nil _ _ _ _, ?_⟩
      have hp : ∀ (W : World) (j : Nat) (u : Value), BB w W → BB w (W.setCell ⟨w.heap.size, j, none⟩ u) := fun W j u h => BB.put h (a := ⟨w.heap.size, j, none⟩) (Nat.le_refl _) u
      exact hp _ _ _ (hp _ _ _ (hp _ _ _ (hp _ _ _ (hp _ _ _ HF.Bw))))
    rw [hV] at va
    obtain ⟨S2, hS2⟩ : ∃ S : ByteArray, (⟨B.toArray⟩ : ByteArray) = S := ⟨_, rfl⟩
    obtain ⟨S1, hS1⟩ : ∃ S : ByteArray, (⟨(xB e).toArray⟩ : ByteArray) = S := ⟨_, rfl⟩
    have hcB : ∀ W : World, RR W 1 (some ⟨bb, 0, none⟩) 16 (bcells B) → (convert 48 9 (.slice (some ⟨bb, 0, none⟩) 16 vc)).run Tryd.prog W = .ok (.string S2) W := fun W h => by
      have := conv_rr (P := Tryd.prog) (src := 48) (dst := 9) Tryd.underlying48 Tryd.underlying5 Tryd.underlying9 h hBl.symm vc
      rwa [hS2] at this
    have hby : ∀ (W : World), CP W X [.int .i64 e.st, .string e.nm, .int .i64 e.nu, .int .i64 e.tl, .slice A5 e.bl.length c5] → RR W 1 A5 e.bl.length (flat fI e.bl) → Calls Tryd.prog 61 #[.pointer (some ⟨X, 0, none⟩)] W fun r w' => ∃ G c, r = .returned (.slice (some ⟨G, 0, none⟩) 16 c) ∧ (convert 48 9 (.slice (some ⟨G, 0, none⟩) 16 c)).run Tryd.prog w' = .ok (.string S1) w' ∧ Below W.heap.size W w' := fun W h1 h2 => by
      refine (l17Bytes_any X c5 e A5 W h1 h2 ok1 ok2 ok9 ⟨ok3, ok4⟩ ⟨ok5, ok6⟩ ⟨ok7, ok8⟩).mono ?_
      rintro r w' ⟨G, c, rfl, hc, hG, M, hB⟩
      refine ⟨G, c, rfl, ?_, hB⟩
      have := MarkB.b2s (P := Tryd.prog) (dst := 9) Tryd.underlying48 Tryd.underlying5 Tryd.underlying9 M c 16 hxl.symm
      rwa [hS1] at this
    by_cases hg2 : xB e = B
    · have HR := V2 hV hg2
      have hcmp : (S1.toList != S2.toList) = false := by rw [← hS1, ← hS2, hg2]; simp
      have hcmp2 : (!(S1.toList == S2.toList)) = false := hcmp
      clear V0 V1 V2 hV hg2 hS1 hS2
      go_wp2_with fail
      go_region_law (first | (go_simp; (go_at_call 60; (with_reducible refine va.mono ?_); rintro r w5 ⟨rfl, hx5⟩; have H5 := (E0.dr H).next hx5; have O5 : OO _ _ _ _ _ _ _ := OO.next (OO.dr O) hx5; have cvB5 := hcB _ H5.R; have by5 := hby w5 (BX.cp H5.F) (RR.own (OOf O5)))) | (go_simp; (go_at_call 61; (with_reducible refine by5.mono ?_); rintro r w6 ⟨G, cG, rfl, cvG, hx6⟩; have H6 := H5.next hx6; have O6 : OO _ _ _ _ _ _ _ := OO.next O5 hx6; have cvB6 := hcB _ H6.R; have x0 : (_ : Option Value) = some (.int .i64 e.st) := H6.F.cell 0 (by simp); have x1 : (_ : Option Value) = some (.string e.nm) := H6.F.cell 1 (by simp); have x2 : (_ : Option Value) = some (.int .i64 e.nu) := H6.F.cell 2 (by simp); have x3 : (_ : Option Value) = some (.int .i64 e.tl) := H6.F.cell 3 (by simp); have x4 : (_ : Option Value) = some (.slice A5 e.bl.length c5) := H6.F.cell 4 (by simp); have z0 : (_ : Option Value) = some (.int .i64 0) := H6.Z.cell 0 (by simp); have z1 : (_ : Option Value) = some (.string ⟨#[]⟩) := H6.Z.cell 1 (by simp); have z2 : (_ : Option Value) = some (.int .i64 0) := H6.Z.cell 2 (by simp); have z3 : (_ : Option Value) = some (.int .i64 0) := H6.Z.cell 3 (by simp); have z4 : (_ : Option Value) = some (.slice none 0 0) := H6.Z.cell 4 (by simp); have hfz := fun j => H6.Z.free j)))
      all_goals
        have HF := H6
        have OF := O6
        clear O5 H5 cvB5 cvB6 cvG
        have HR := Lib.hid HR
        have hXw : X ≠ w.heap.size := by omega
        go_wp2_with fail
        refine bodyPost_ret (v := .tuple #[.agg #[.int .i64 e.st, .string e.nm, .int .i64 e.nu, .int .i64 e.tl, .slice A5 e.bl.length c5], .bool true]) (by simp [results, Tryd.results28, go_sem, World.cell?_setCell_other, z0, z1, z2, z3, z4]) rfl ⟨A5, c5, by rw [HR.out.1, HR.out.2], ?_, ?_⟩
        · rw [HR.out.2]
          have hp : ∀ (W : World) (j : Nat) (u : Value), OO W (X + 1) 2 1 (.slice A5 e.bl.length c5) e.bl.length (flat fI e.bl) → OO (W.setCell ⟨w.heap.size, j, none⟩ u) (X + 1) 2 1 (.slice A5 e.bl.length c5) e.bl.length (flat fI e.bl) := fun W j u h => OO.put h (a := ⟨w.heap.size, j, none⟩) (by show w.heap.size < X + 1; omega) u
          exact own_base (OOf (hp _ _ _ (hp _ _ _ (hp _ _ _ (hp _ _ _ (hp _ _ _ OF)))))) (by omega)
        · have hp : ∀ (W : World) (j : Nat) (u : Value), BB w W → BB w (W.setCell ⟨w.heap.size, j, none⟩ u) := fun W j u h => BB.put h (a := ⟨w.heap.size, j, none⟩) (Nat.le_refl _) u
          exact hp _ _ _ (hp _ _ _ (hp _ _ _ (hp _ _ _ (hp _ _ _ HF.Bw))))
    · have HR := V1 hV hg2
      have hcmp : (S1.toList != S2.toList) = true := by
        rw [bne_iff_ne]
        intro e9
        apply hg2
        rw [← hS1, ← hS2, ByteArray.toList_eq, ByteArray.toList_eq] at e9
        simpa using e9
      have hcmp2 : (!(S1.toList == S2.toList)) = true := hcmp
      clear V0 V1 V2 hV hg2 hS1 hS2
      go_wp2_with fail
      go_region_law (first | (go_simp; (go_at_call 60; (with_reducible refine va.mono ?_); rintro r w5 ⟨rfl, hx5⟩; have H5 := (E0.dr H).next hx5; have O5 : OO _ _ _ _ _ _ _ := OO.next (OO.dr O) hx5; have cvB5 := hcB _ H5.R; have by5 := hby w5 (BX.cp H5.F) (RR.own (OOf O5)))) | (go_simp; (go_at_call 61; (with_reducible refine by5.mono ?_); rintro r w6 ⟨G, cG, rfl, cvG, hx6⟩; have H6 := H5.next hx6; have O6 : OO _ _ _ _ _ _ _ := OO.next O5 hx6; have cvB6 := hcB _ H6.R; have x0 : (_ : Option Value) = some (.int .i64 e.st) := H6.F.cell 0 (by simp); have x1 : (_ : Option Value) = some (.string e.nm) := H6.F.cell 1 (by simp); have x2 : (_ : Option Value) = some (.int .i64 e.nu) := H6.F.cell 2 (by simp); have x3 : (_ : Option Value) = some (.int .i64 e.tl) := H6.F.cell 3 (by simp); have x4 : (_ : Option Value) = some (.slice A5 e.bl.length c5) := H6.F.cell 4 (by simp); have z0 : (_ : Option Value) = some (.int .i64 0) := H6.Z.cell 0 (by simp); have z1 : (_ : Option Value) = some (.string ⟨#[]⟩) := H6.Z.cell 1 (by simp); have z2 : (_ : Option Value) = some (.int .i64 0) := H6.Z.cell 2 (by simp); have z3 : (_ : Option Value) = some (.int .i64 0) := H6.Z.cell 3 (by simp); have z4 : (_ : Option Value) = some (.slice none 0 0) := H6.Z.cell 4 (by simp); have hfz := fun j => H6.Z.free j)))
      all_goals
        have HF := H6
        clear O5 H5 cvB5 cvB6 cvG
        have HR := Lib.hid HR
        go_wp2_with fail
        refine bodyPost_ret (v := .tuple #[.agg #[.int .i64 0, .string ⟨#[]⟩, .int .i64 0, .int .i64 0, .slice none 0 0], .bool false]) (by simp [results, Tryd.results28, go_sem, World.cell?_setCell_other, z0, z1, z2, z3, z4]) rfl ⟨none, 0, by rw [HR.out.1, HR.out.2]; rfl, by rw [HR.out.2]; exact World.ownsRow_nil _ _ _ _, ?_⟩
        have hp : ∀ (W : World) (j : Nat) (u : Value), BB w W → BB w (W.setCell ⟨w.heap.size, j, none⟩ u) := fun W j u h => BB.put h (a := ⟨w.heap.size, j, none⟩) (Nat.le_refl _) u
        exact hp _ _ _ (hp _ _ _ (hp _ _ _ (hp _ _ _ (hp _ _ _ HF.Bw))))
end Go.Proofs.YtbhpjoepbmimjaaDoor
namespace Go.Proofs.YtbhpjoepbmimjaaDoor
set_option linter.unusedVariables false
open Go.RowKit

set_option maxRecDepth 100000 in
set_option maxHeartbeats 16000000 in
theorem entryX_any (g b z E Y bb off n c : Nat) (J : List UInt8) (k : Nat) (w : World) (d : CP w g [.int .i64 (b : Int), .int .i64 (z : Int), .int .i64 (E : Int), .int .i64 (Y : Int), .slice (some ⟨bb, off, none⟩) n c]) (hr : RR w 1 (some ⟨bb, off, none⟩) n (bcells J)) (hk : z + 16 * (k + 1) ≤ n) (hs : z ≤ 32) (hn : n ≤ 4096) (hnc : n ≤ c) :
    Calls Tryd.prog 30 #[.pointer (some ⟨g, 0, none⟩), .int .i64 (k : Int)] w fun r w' => ∃ A c, r = .returned (.tuple #[.agg #[.int .i64 (xeE (z : Int) (xRaw J z k)).st, .string (xeE (z : Int) (xRaw J z k)).nm, .int .i64 (xeE (z : Int) (xRaw J z k)).nu, .int .i64 (xeE (z : Int) (xRaw J z k)).tl, .slice A (xeE (z : Int) (xRaw J z k)).bl.length c], .bool (xeOk (z : Int) (xRaw J z k))]) ∧ w'.ownsRow w.heap.size 2 1 (.slice A (xeE (z : Int) (xRaw J z k)).bl.length c) (xeE (z : Int) (xRaw J z k)).bl.length (flat fI (xeE (z : Int) (xRaw J z k)).bl) ∧ BB w w' := by
  have F0 := BX.made w 34 [.int .i64 0, .string ⟨#[]⟩, .int .i64 0, .int .i64 0, .slice none 0 0]
  have hB0 : BB w (w.alloc (.cells #[.int .i64 0, .string ⟨#[]⟩, .int .i64 0, .int .i64 0, .slice none 0 0] 34)) := BB.al (BB.start w) _
  have hg : g < w.heap.size := (cell_spot (d 0 (by simp))).2
  have hb0 : bb < w.heap.size := by
    obtain ⟨b1, o1, he, hb, _⟩ := hr.2 (by omega)
    cases he
    exact hb
  have raw := entryBytes_any g b z E Y bb off n c J k (w.alloc (.cells #[.int .i64 0, .string ⟨#[]⟩, .int .i64 0, .int .i64 0, .slice none 0 0] 34)) (CP.al d (.cells #[.int .i64 0, .string ⟨#[]⟩, .int .i64 0, .int .i64 0, .slice none 0 0] 34)) (RR.al hr (.cells #[.int .i64 0, .string ⟨#[]⟩, .int .i64 0, .int .i64 0, .slice none 0 0] 34)) hk hs hn hnc
  have hnJ : n = J.length := by have := hr.1; rw [bcells_length] at this; omega
  have hBl : (xRaw J z k).length = 16 := xRaw_len (by rw [← hnJ]; exact hk)
  obtain ⟨B, hBe⟩ : ∃ B, xRaw J z k = B := ⟨_, rfl⟩
  rw [hBe] at raw hBl ⊢
  obtain ⟨o, ho⟩ : ∃ o, off + (z + 16 * k) = o := ⟨_, rfl⟩
  rw [ho] at raw
  obtain ⟨A2, hA2⟩ : ∃ A2, (some ⟨bb, off, none⟩ : Option Addr) = A2 := ⟨_, rfl⟩
  rw [hA2] at d
  clear hBe ho hr hA2 hnJ
  go_enter Tryd.func30, Tryd.ntmps30
  have w0 : IntKind.i64.wrap (gb B 0 : Int) = (gb B 0 : Int) := by have := gb_lt B 0; exact IntWalk.i64_in _ (by omega)
  go_upto_if 19 with (go_at_call 64; (with_reducible refine raw.mono ?_); rintro r w1 ⟨vc, rfl, hvc, rfl, R1⟩; have b0 := rr_byte R1 hBl 0 (by decide); simp only [Nat.add_zero] at b0)
  have hl0 : (w.alloc (.cells #[.int .i64 0, .string ⟨#[]⟩, .int .i64 0, .int .i64 0, .slice none 0 0] 34)).heap.size = w.heap.size + 1 := World.size_alloc w _
  have H : E0 w ((w.alloc (.cells #[.int .i64 0, .string ⟨#[]⟩, .int .i64 0, .int .i64 0, .slice none 0 0] 34)).alloc (.cells #[.int .i64 (gb B 0 : Int), .string ⟨#[]⟩, .int .i64 0, .int .i64 0, .slice none 0 0] 34)) (w.alloc (.cells #[.int .i64 0, .string ⟨#[]⟩, .int .i64 0, .int .i64 0, .slice none 0 0] 34)).heap.size bb o g [.int .i64 (gb B 0 : Int), .string ⟨#[]⟩, .int .i64 0, .int .i64 0, .slice none 0 0] B [.int .i64 (b : Int), .int .i64 (z : Int), .int .i64 (E : Int), .int .i64 (Y : Int), .slice A2 n c] := ⟨BX.made (w.alloc (.cells #[.int .i64 0, .string ⟨#[]⟩, .int .i64 0, .int .i64 0, .slice none 0 0] 34)) 34 [.int .i64 (gb B 0 : Int), .string ⟨#[]⟩, .int .i64 0, .int .i64 0, .slice none 0 0], F0.al (.cells #[.int .i64 (gb B 0 : Int), .string ⟨#[]⟩, .int .i64 0, .int .i64 0, .slice none 0 0] 34), RR.al R1 (.cells #[.int .i64 (gb B 0 : Int), .string ⟨#[]⟩, .int .i64 0, .int .i64 0, .slice none 0 0] 34), CP.al (CP.al d (.cells #[.int .i64 0, .string ⟨#[]⟩, .int .i64 0, .int .i64 0, .slice none 0 0] 34)) (.cells #[.int .i64 (gb B 0 : Int), .string ⟨#[]⟩, .int .i64 0, .int .i64 0, .slice none 0 0] 34), BB.al hB0 (.cells #[.int .i64 (gb B 0 : Int), .string ⟨#[]⟩, .int .i64 0, .int .i64 0, .slice none 0 0] 34), by omega, by omega, by omega, hg⟩
  clear raw R1 F0 hB0 d hb0 b0
  generalize ((w.alloc (.cells #[.int .i64 0, .string ⟨#[]⟩, .int .i64 0, .int .i64 0, .slice none 0 0] 34)).alloc (.cells #[.int .i64 (gb B 0 : Int), .string ⟨#[]⟩, .int .i64 0, .int .i64 0, .slice none 0 0] 34)) = w2 at H ⊢
  rw [hl0] at H
  generalize w.heap.size + 1 = X at H ⊢
  clear hl0
  have hX := H.hX

  go_cut [8, 40] (fun _ _ wx => ∃ (A5 : Option Addr) (c5 : Nat), E0 w wx X bb o g [.int .i64 (xeR B).st, .string (xeR B).nm, .int .i64 (xeR B).nu, .int .i64 (xeR B).tl, .slice A5 (xeR B).bl.length c5] B [.int .i64 (b : Int), .int .i64 (z : Int), .int .i64 (E : Int), .int .i64 (Y : Int), .slice A2 n c] ∧ OO wx (X + 1) 2 1 (.slice A5 (xeR B).bl.length c5) (xeR B).bl.length (flat fI (xeR B).bl))
  case first =>
    by_cases h0 : gb B 0 = 0
    · have h0b : ((gb B 0 : Int) != 0) = false := by rw [h0]; rfl
      have hR := xeR_0 h0
      rw [h0] at H
      go_wp2_with fail
      go_meet
      refine ⟨none, 0, ?_, ?_⟩
      · rw [hR]; exact H
      · rw [hR]; exact World.ownsRow_nil _ _ _ _
    have h0b : ((gb B 0 : Int) != 0) = true := by simp; omega
    have hR := Lib.hid (xeR_1 h0)
    clear h0
    have f0 : (_ : Option Value) = some (.int .i64 (gb B 0 : Int)) := H.F.cell 0 (by simp)
    have hf := fun j => H.F.free j
    have f1 : (_ : Option Value) = some (.string ⟨#[]⟩) := H.F.cell 1 (by simp)
    have i9 : 9 ≤ vc := by omega
    have i1 : ¬ vc = 1 := by omega
    have hcv := conv_rr (P := Tryd.prog) (src := 48) (dst := 9) Tryd.underlying48 Tryd.underlying5 Tryd.underlying9 (rr_sub H.R hBl.symm 1 8 (by decide) (by decide)) (by rw [List.length_take, List.length_drop, hBl]; rfl) (vc - 1)
    obtain ⟨N, hN⟩ : ∃ N : ByteArray, (⟨((B.drop 1).take 8).toArray⟩ : ByteArray) = N := ⟨_, rfl⟩
    rw [hN] at hcv
    have hNs : N.size ≤ 8 := by
      rw [← hN]
      show ((B.drop 1).take 8).toArray.size ≤ 8
      rw [List.size_toArray, List.length_take]
      omega
    have hNx : trB N 32 = xNm B := by rw [← hN]; rfl
    have tt : ∀ W, Calls Tryd.prog 51 #[.string N, .string ⟨#[32]⟩] W fun e w' => e = .returned (.string (xNm B)) ∧ W = w' := fun W => by
      have := Tryd.strings_TrimRight_one N 32 (by decide) W (by omega)
      rw [← hNx]
      exact this.mono fun e w' h => ⟨h.1, h.2.symm⟩
    clear hN hNx hNs
    have H1 := H.put 1 (.string (xNm B))
    go_upto_region 5 with (go_at_call 51; (with_reducible refine (tt _).mono ?_); rintro r w9 ⟨rfl, rfl⟩)
    clear f0 f1 hf hcv tt H h0b i9 i1
    generalize (w2.setCell ⟨X, 1, none⟩ (.string (xNm B))) = w3 at H1 ⊢
    have w9 : IntKind.i64.wrap (gb B 9 : Int) = (gb B 9 : Int) := by have := gb_lt B 9; exact IntWalk.i64_in _ (by omega)
    have w10 : IntKind.i64.wrap (gb B 10 : Int) = (gb B 10 : Int) := by have := gb_lt B 10; exact IntWalk.i64_in _ (by omega)
    go_cut [25] (fun _ wx => E0 w wx X bb o g [.int .i64 (gb B 0 : Int), .string (xNm B), .int .i64 (gb B 9 : Int), .int .i64 (gb B 10 : Int), .slice none 0 0] B [.int .i64 (b : Int), .int .i64 (z : Int), .int .i64 (E : Int), .int .i64 (Y : Int), .slice A2 n c])
    case first =>
      have b9 := rr_byte H1.R hBl 9 (by decide)
      have b10 := rr_byte H1.R hBl 10 (by decide)
      have hf1 := fun j => H1.F.free j
      have f2 : (_ : Option Value) = some (.int .i64 0) := H1.F.cell 2 (by simp)
      have H2 := H1.put 2 (.int .i64 (gb B 9 : Int))
      have b10' := rr_byte H2.R hBl 10 (by decide)
      have hf2 := fun j => H2.F.free j
      have f3 : (_ : Option Value) = some (.int .i64 0) := H2.F.cell 3 (by simp)
      have f3' : (_ : Option Value) = some (.int .i64 0) := H1.F.cell 3 (by simp)
      have H3 := H2.put 3 (.int .i64 (gb B 10 : Int))
      go_region_with (fail)
      all_goals
        go_wp2_with fail
        go_meet
        exact E0.dr H3
    case rest =>
      clear H1 w9 w10
      have H3 := hcut
      clear hcut
      obtain ⟨w3, hw3⟩ : ∃ x, x = wc := ⟨_, rfl⟩
      subst hw3
      have b11 := rr_byte H3.R hBl 11 (by decide)
      obtain ⟨m, hm⟩ : ∃ m, gb B 11 = m := ⟨_, rfl⟩
      have hml := gb_lt B 11
      rw [hm] at b11 hml
      have w11 : IntKind.i64.wrap (m : Int) = (m : Int) := IntWalk.i64_in _ (by omega)
      obtain ⟨M, hM⟩ : ∃ M, min m 4 = M := ⟨_, rfl⟩
      have hmn : min (m : Int) 4 = (M : Int) := by omega
      have HM := Lib.hid (show min (gb B 11) 4 = M by rw [hm]; exact hM)
      have hM4 : M ≤ 4 := by omega
      clear hm hM
      go_wp2_with fail
      go_loopw [8, 40] (fun _ i wr => ∃ (L : List Int) (A5 : Option Addr) (c5 : Nat), i = .int .i64 (L.length : Int) ∧ L.length ≤ M ∧ Hid (L = xBl B L.length) ∧ E0 w wr X bb o g [.int .i64 (gb B 0 : Int), .string (xNm B), .int .i64 (gb B 9 : Int), .int .i64 (gb B 10 : Int), .slice A5 L.length c5] B [.int .i64 (b : Int), .int .i64 (z : Int), .int .i64 (E : Int), .int .i64 (Y : Int), .slice A2 n c] ∧ OO wr (X + 1) 2 1 (.slice A5 L.length c5) L.length (flat fI L)) (fun _ i _ => 4 - (intOf i).toNat)
      case atStart => exact ⟨[], none, 0, rfl, Nat.zero_le _, Lib.hid (by rw [List.length_nil, xBl_0]), H3, World.ownsRow_nil _ _ _ _⟩
      case round =>
        clear H3 b11 hmn w11
        obtain ⟨L, A5, c5, rfl, hLm, HL, H, O⟩ := hrel
        have hL4 : L.length ≤ 4 := by omega
        have fin : L.length = M → ∃ (A5 : Option Addr) (c5 : Nat), E0 w wr X bb o g [.int .i64 (xeR B).st, .string (xeR B).nm, .int .i64 (xeR B).nu, .int .i64 (xeR B).tl, .slice A5 (xeR B).bl.length c5] B [.int .i64 (b : Int), .int .i64 (z : Int), .int .i64 (E : Int), .int .i64 (Y : Int), .slice A2 n c] ∧ OO wr (X + 1) 2 1 (.slice A5 (xeR B).bl.length c5) (xeR B).bl.length (flat fI (xeR B).bl) := fun e => by
          rw [hR.out]
          have h9 := HL.out
          have h8 := HM.out
          rw [e] at h9
          rw [← h8] at h9
          exact ⟨A5, c5, by rw [← h9]; exact H, by rw [← h9]; exact O⟩
        by_cases h1 : L.length < M
        · have d1 : (L.length : Int) < (M : Int) := by omega
          obtain ⟨J, hJ⟩ : ∃ J, 12 + L.length = J := ⟨_, rfl⟩
          have hJw : IntKind.i64.wrap (12 + (L.length : Int)) = (J : Int) := by rw [IntWalk.i64_in _ (by omega)]; omega
          have hJi : (J : Int) < 16 := by omega
          have bJ := rr_byte H.R hBl J (by omega)
          obtain ⟨x, hx⟩ : ∃ x, gb B J = x := ⟨_, rfl⟩
          have hxl := gb_lt B J
          rw [hx] at bJ hxl
          have hxw : IntKind.i64.wrap (x : Int) = (x : Int) := IntWalk.i64_in _ (by omega)
          have HN := Lib.hid (show L ++ [(x : Int)] = xBl B (L ++ [(x : Int)]).length by
            rw [List.length_append, List.length_singleton, ← xBl_step (by omega)]
            have h9 := HL.out
            rw [← h9, ← hx, ← gb_get (by omega)]
            simp only [hJ])
          have hL1 : (L ++ [(x : Int)]).length = L.length + 1 := by rw [List.length_append]; rfl
          have hLn : L.length + 1 ≤ M := by omega
          have q4 : (_ : Option Value) = some (.slice A5 L.length c5) := H.F.cell 4 (by simp)
          have q4o := fun (o : Obj) => (show (_ : Option Value) = some (.slice A5 L.length c5) from (BX.al H.F o).cell 4 (by simp))
          have hkw : IntKind.i64.wrap ((L.length : Int) + 1) = ((L.length + 1 : Nat) : Int) := by rw [IntWalk.i64_in _ (by omega)]; omega
          have hby : 8 ≤ 1000 := by decide
          have hlb : L.length ≤ 100000000 := by omega
          have hbase : X + 1 ≤ wr.heap.size := H.F.lt
          have hrow : ∀ j, (Value.slice A5 L.length c5).ownBlock = some j → X + 1 ≤ j := fun j e => (World.ownsRow.lt (OOf O) j e).1
          clear hx HL fin h1 hJ
          go_wp2_with fail
          go_region_law (refine step_appG (w := wr.drew) (f := fI) rfl (.tmp 44) (.tmp 51) 32 rfl eltI hby (.slice A5 L.length c5) L L.length rfl rfl (OO.dr O) #[.int .i64 (x : Int)] 2 (x : Int) 1 rfl rfl rfl (oneInt _) hlb hbase ?_; intro v7 w7 O7 hg7 hat7 hbl7; obtain ⟨A7, c7, rfl⟩ := own_form O7; have H7 := (E0.al (E0.dr H) (.cells #[.int .i64 (x : Int)] 2)).row hg7 hrow; have p4 : (_ : Option Value) = some (.slice A5 L.length c5) := H7.F.cell 4 (by simp); have hf7 := fun j => H7.F.free j)
          all_goals
            rw [hL1] at O7
            have H8 := H7.put 4 (.slice A7 (L.length + 1) c7)
            have hv7 : (Value.slice A7 (L.length + 1) c7).ownBlock ≠ some X := fun e => by have := (World.ownsRow.lt O7 X e).1; omega
            have O8 : OO _ _ _ _ _ _ _ := OO.putne O7 (a := ⟨X, 4, none⟩) hv7 (.slice A7 (L.length + 1) c7)
            go_wp2_with fail
            go_roundw
            case rel => exact ⟨L ++ [(x : Int)], A7, c7, by rw [hL1]; rfl, by rw [hL1]; exact hLn, HN, by rw [hL1]; exact H8, by rw [hL1]; exact O8⟩
            case measure => simp [intOf]; omega
        · have d1 : ¬ (L.length : Int) < (M : Int) := by omega
          have hfin := fin (by omega)
          clear fin
          go_wp2_with fail
          go_meet
          exact hfin
  case rest =>
    clear hX
    obtain ⟨A5, c5, H, O⟩ := hcut
    obtain ⟨w3, hw3⟩ : ∃ x, x = wc := ⟨_, rfl⟩
    subst hw3
    have hX := H.hX
    obtain ⟨ok1, ok2, ok3, ok4, ok5, ok6, ok7, ok8, ok9⟩ := xeR_ok B
    have V0 := fun h => xeOk_v (s := (z : Int)) (B := B) h
    have V1 := fun h g => xeOk_b (s := (z : Int)) (B := B) h g
    have V2 := fun h g => xeOk_y (s := (z : Int)) (B := B) h g
    generalize xeR B = e at H O ok1 ok2 ok3 ok4 ok5 ok6 ok7 ok8 ok9 V0 V1 V2
    have hxl := xB_len ok1.1
    have x0 : (_ : Option Value) = some (.int .i64 e.st) := H.F.cell 0 (by simp)
    have x1 : (_ : Option Value) = some (.string e.nm) := H.F.cell 1 (by simp)
    have x2 : (_ : Option Value) = some (.int .i64 e.nu) := H.F.cell 2 (by simp)
    have x3 : (_ : Option Value) = some (.int .i64 e.tl) := H.F.cell 3 (by simp)
    have x4 : (_ : Option Value) = some (.slice A5 e.bl.length c5) := H.F.cell 4 (by simp)
    have va' := fun (W : World) (h1 : CP W g [.int .i64 (b : Int), .int .i64 (z : Int), .int .i64 (E : Int), .int .i64 (Y : Int), .slice A2 n c]) (h2 : RR W 1 A5 e.bl.length (flat fI e.bl)) => validX_any g c5 e A5 A2 b z E Y n c W h1 h2 ok1 ok2 ok9
    have hpe : ∀ (W : World), RR W 1 A5 e.bl.length (flat fI e.bl) → Calls Tryd.prog 66 #[.agg #[.int .i64 e.st, .string e.nm, .int .i64 e.nu, .int .i64 e.tl, .slice A5 e.bl.length c5]] W fun r w' => ∃ G c, r = .returned (.slice (some ⟨G, 0, none⟩) 16 c) ∧ RR w' 1 (some ⟨G, 0, none⟩) 16 (bcells (xB e)) ∧ Below W.heap.size W w' := fun W h2 => by
      refine (putExtent_any c5 e A5 W h2 ok1 ok2 ok9 ⟨ok3, ok4⟩ ⟨ok5, ok6⟩ ⟨ok7, ok8⟩).mono ?_
      rintro r w' ⟨G, c, rfl, hc, hG, M, hB⟩
      refine ⟨G, c, rfl, ?_, hB⟩
      have := Rd.of_mark M
      rwa [hxl] at this
    cases hV : xV (z : Int) e
    · have HR := V0 hV
      rw [hV] at va'
      have va := va' w3 H.D (RR.own (OOf O))
      clear V0 V1 V2 hV va'
      go_wp2_with ((go_simp; (go_at_call 65; (with_reducible refine va.mono ?_); rintro r w5 ⟨rfl, hx5⟩; have H5 := H.next hx5; have O5 : OO _ _ _ _ _ _ _ := OO.next O hx5; have y0 : (_ : Option Value) = some (.int .i64 e.st) := H5.F.cell 0 (by simp); have y1 : (_ : Option Value) = some (.string e.nm) := H5.F.cell 1 (by simp); have y2 : (_ : Option Value) = some (.int .i64 e.nu) := H5.F.cell 2 (by simp); have y3 : (_ : Option Value) = some (.int .i64 e.tl) := H5.F.cell 3 (by simp); have y4 : (_ : Option Value) = some (.slice A5 e.bl.length c5) := H5.F.cell 4 (by simp); have q0 : (_ : Option Value) = some (.int .i64 0) := H5.Z.cell 0 (by simp); have q1 : (_ : Option Value) = some (.string ⟨#[]⟩) := H5.Z.cell 1 (by simp); have q2 : (_ : Option Value) = some (.int .i64 0) := H5.Z.cell 2 (by simp); have q3 : (_ : Option Value) = some (.int .i64 0) := H5.Z.cell 3 (by simp); have q4 : (_ : Option Value) = some (.slice none 0 0) := H5.Z.cell 4 (by simp); have hfz5 := fun j => H5.Z.free j; have pe5 := hpe w5 (RR.own (OOf O5)))))
      have HF := H5
      clear O5 H5 pe5
      have HR := Lib.hid HR
      go_wp2_with fail
      refine bodyPost_ret (v := .tuple #[.agg #[.int .i64 0, .string ⟨#[]⟩, .int .i64 0, .int .i64 0, .slice none 0 0], .bool false]) (by simp [results, Tryd.results30, go_sem, World.cell?_setCell_other, q0, q1, q2, q3, q4]) rfl ⟨none, 0, by rw [HR.out.1, HR.out.2]; rfl, by rw [HR.out.2]; exact World.ownsRow_nil _ _ _ _, ?_⟩
      have hp : ∀ (W : World) (j : Nat) (u : Value), BB w W → BB w (W.setCell ⟨w.heap.size, j, none⟩ u) := fun W j u h => BB.put h (a := ⟨w.heap.size, j, none⟩) (Nat.le_refl _) u
      exact hp _ _ _ (hp _ _ _ (hp _ _ _ (hp _ _ _ (hp _ _ _ HF.Bw))))
    rw [hV] at va'
    have va := va' w3 H.D (RR.own (OOf O))
    have heq := fun (W : World) (G cG : Nat) (h1 : RR W 1 (some ⟨G, 0, none⟩) 16 (bcells (xB e))) (h2 : RR W 1 (some ⟨bb, o, none⟩) 16 (bcells B)) => equalB_any (some ⟨G, 0, none⟩) (some ⟨bb, o, none⟩) cG vc 16 (xB e) B W h1 h2 hxl hBl (by decide)
    clear va'
    by_cases hg2 : xB e = B
    · have HR := V2 hV hg2
      rw [decide_eq_true hg2] at heq
      clear V0 V1 V2 hV hg2
      go_wp2_with (first | (go_simp; (go_at_call 65; (with_reducible refine va.mono ?_); rintro r w5 ⟨rfl, hx5⟩; have H5 := H.next hx5; have O5 : OO _ _ _ _ _ _ _ := OO.next O hx5; have y0 : (_ : Option Value) = some (.int .i64 e.st) := H5.F.cell 0 (by simp); have y1 : (_ : Option Value) = some (.string e.nm) := H5.F.cell 1 (by simp); have y2 : (_ : Option Value) = some (.int .i64 e.nu) := H5.F.cell 2 (by simp); have y3 : (_ : Option Value) = some (.int .i64 e.tl) := H5.F.cell 3 (by simp); have y4 : (_ : Option Value) = some (.slice A5 e.bl.length c5) := H5.F.cell 4 (by simp); have q0 : (_ : Option Value) = some (.int .i64 0) := H5.Z.cell 0 (by simp); have q1 : (_ : Option Value) = some (.string ⟨#[]⟩) := H5.Z.cell 1 (by simp); have q2 : (_ : Option Value) = some (.int .i64 0) := H5.Z.cell 2 (by simp); have q3 : (_ : Option Value) = some (.int .i64 0) := H5.Z.cell 3 (by simp); have q4 : (_ : Option Value) = some (.slice none 0 0) := H5.Z.cell 4 (by simp); have hfz5 := fun j => H5.Z.free j; have pe5 := hpe w5 (RR.own (OOf O5)))) | (go_simp; (go_at_call 66; (with_reducible refine pe5.mono ?_); rintro r w6 ⟨G, cG, rfl, rG, hx6⟩; have H6 := H5.next hx6; have O6 : OO _ _ _ _ _ _ _ := OO.next O5 hx6; have eq6 := heq w6 G cG rG H6.R)) | (go_simp; (go_at_call 53; (with_reducible refine eq6.mono ?_); rintro r w7 ⟨rfl, hx7⟩; have H7 := H6.next hx7; have O7 : OO _ _ _ _ _ _ _ := OO.next O6 hx7; have x0 : (_ : Option Value) = some (.int .i64 e.st) := H7.F.cell 0 (by simp); have x1 : (_ : Option Value) = some (.string e.nm) := H7.F.cell 1 (by simp); have x2 : (_ : Option Value) = some (.int .i64 e.nu) := H7.F.cell 2 (by simp); have x3 : (_ : Option Value) = some (.int .i64 e.tl) := H7.F.cell 3 (by simp); have x4 : (_ : Option Value) = some (.slice A5 e.bl.length c5) := H7.F.cell 4 (by simp); have z0 : (_ : Option Value) = some (.int .i64 0) := H7.Z.cell 0 (by simp); have z1 : (_ : Option Value) = some (.string ⟨#[]⟩) := H7.Z.cell 1 (by simp); have z2 : (_ : Option Value) = some (.int .i64 0) := H7.Z.cell 2 (by simp); have z3 : (_ : Option Value) = some (.int .i64 0) := H7.Z.cell 3 (by simp); have z4 : (_ : Option Value) = some (.slice none 0 0) := H7.Z.cell 4 (by simp); have hfz := fun j => H7.Z.free j)))
      all_goals
        have HF := H7
        have OF := O7
        clear O5 H5 H6 O6
        have HR := Lib.hid HR
        have hXw : X ≠ w.heap.size := by omega
        go_wp2_with fail
        refine bodyPost_ret (v := .tuple #[.agg #[.int .i64 e.st, .string e.nm, .int .i64 e.nu, .int .i64 e.tl, .slice A5 e.bl.length c5], .bool true]) (by simp [results, Tryd.results30, go_sem, World.cell?_setCell_other, z0, z1, z2, z3, z4]) rfl ⟨A5, c5, by rw [HR.out.1, HR.out.2], ?_, ?_⟩
        · rw [HR.out.2]
          have hp : ∀ (W : World) (j : Nat) (u : Value), OO W (X + 1) 2 1 (.slice A5 e.bl.length c5) e.bl.length (flat fI e.bl) → OO (W.setCell ⟨w.heap.size, j, none⟩ u) (X + 1) 2 1 (.slice A5 e.bl.length c5) e.bl.length (flat fI e.bl) := fun W j u h => OO.put h (a := ⟨w.heap.size, j, none⟩) (by show w.heap.size < X + 1; omega) u
          exact own_base (OOf (hp _ _ _ (hp _ _ _ (hp _ _ _ (hp _ _ _ (hp _ _ _ OF)))))) (by omega)
        · have hp : ∀ (W : World) (j : Nat) (u : Value), BB w W → BB w (W.setCell ⟨w.heap.size, j, none⟩ u) := fun W j u h => BB.put h (a := ⟨w.heap.size, j, none⟩) (Nat.le_refl _) u
          exact hp _ _ _ (hp _ _ _ (hp _ _ _ (hp _ _ _ (hp _ _ _ HF.Bw))))
    · have HR := V1 hV hg2
      rw [decide_eq_false hg2] at heq
      clear V0 V1 V2 hV hg2
      go_wp2_with (first | (go_simp; (go_at_call 65; (with_reducible refine va.mono ?_); rintro r w5 ⟨rfl, hx5⟩; have H5 := H.next hx5; have O5 : OO _ _ _ _ _ _ _ := OO.next O hx5; have y0 : (_ : Option Value) = some (.int .i64 e.st) := H5.F.cell 0 (by simp); have y1 : (_ : Option Value) = some (.string e.nm) := H5.F.cell 1 (by simp); have y2 : (_ : Option Value) = some (.int .i64 e.nu) := H5.F.cell 2 (by simp); have y3 : (_ : Option Value) = some (.int .i64 e.tl) := H5.F.cell 3 (by simp); have y4 : (_ : Option Value) = some (.slice A5 e.bl.length c5) := H5.F.cell 4 (by simp); have q0 : (_ : Option Value) = some (.int .i64 0) := H5.Z.cell 0 (by simp); have q1 : (_ : Option Value) = some (.string ⟨#[]⟩) := H5.Z.cell 1 (by simp); have q2 : (_ : Option Value) = some (.int .i64 0) := H5.Z.cell 2 (by simp); have q3 : (_ : Option Value) = some (.int .i64 0) := H5.Z.cell 3 (by simp); have q4 : (_ : Option Value) = some (.slice none 0 0) := H5.Z.cell 4 (by simp); have hfz5 := fun j => H5.Z.free j; have pe5 := hpe w5 (RR.own (OOf O5)))) | (go_simp; (go_at_call 66; (with_reducible refine pe5.mono ?_); rintro r w6 ⟨G, cG, rfl, rG, hx6⟩; have H6 := H5.next hx6; have O6 : OO _ _ _ _ _ _ _ := OO.next O5 hx6; have eq6 := heq w6 G cG rG H6.R)) | (go_simp; (go_at_call 53; (with_reducible refine eq6.mono ?_); rintro r w7 ⟨rfl, hx7⟩; have H7 := H6.next hx7; have O7 : OO _ _ _ _ _ _ _ := OO.next O6 hx7; have x0 : (_ : Option Value) = some (.int .i64 e.st) := H7.F.cell 0 (by simp); have x1 : (_ : Option Value) = some (.string e.nm) := H7.F.cell 1 (by simp); have x2 : (_ : Option Value) = some (.int .i64 e.nu) := H7.F.cell 2 (by simp); have x3 : (_ : Option Value) = some (.int .i64 e.tl) := H7.F.cell 3 (by simp); have x4 : (_ : Option Value) = some (.slice A5 e.bl.length c5) := H7.F.cell 4 (by simp); have z0 : (_ : Option Value) = some (.int .i64 0) := H7.Z.cell 0 (by simp); have z1 : (_ : Option Value) = some (.string ⟨#[]⟩) := H7.Z.cell 1 (by simp); have z2 : (_ : Option Value) = some (.int .i64 0) := H7.Z.cell 2 (by simp); have z3 : (_ : Option Value) = some (.int .i64 0) := H7.Z.cell 3 (by simp); have z4 : (_ : Option Value) = some (.slice none 0 0) := H7.Z.cell 4 (by simp); have hfz := fun j => H7.Z.free j)))
      all_goals
        have HF := H7
        clear O5 H5 H6 O6
        have HR := Lib.hid HR
        go_wp2_with fail
        refine bodyPost_ret (v := .tuple #[.agg #[.int .i64 0, .string ⟨#[]⟩, .int .i64 0, .int .i64 0, .slice none 0 0], .bool false]) (by simp [results, Tryd.results30, go_sem, World.cell?_setCell_other, z0, z1, z2, z3, z4]) rfl ⟨none, 0, by rw [HR.out.1, HR.out.2]; rfl, by rw [HR.out.2]; exact World.ownsRow_nil _ _ _ _, ?_⟩
        have hp : ∀ (W : World) (j : Nat) (u : Value), BB w W → BB w (W.setCell ⟨w.heap.size, j, none⟩ u) := fun W j u h => BB.put h (a := ⟨w.heap.size, j, none⟩) (Nat.le_refl _) u
        exact hp _ _ _ (hp _ _ _ (hp _ _ _ (hp _ _ _ (hp _ _ _ HF.Bw))))
end Go.Proofs.YtbhpjoepbmimjaaDoor
namespace Go.Proofs.YtbhpjoepbmimjaaDoor
set_option linter.unusedVariables false
open Go.RowKit
set_option linter.unusedSimpArgs false

def eaB (l : List ByteArray) (x : Int) : List UInt8 := xRaw (jn l) (s0 l) x.toNat
/-- The entry that ExtentAt answers, and its code. -/
def eaC (l : List ByteArray) (x : Int) : Int := if exB l then (if inB x 0 ((l.length / 4 : Nat) - 1) then (if xeOk (s0 l : Int) (eaB l x) then 0 else 7) else 2) else 7
def eaE (l : List ByteArray) (x : Int) : XE := if exB l then (if inB x 0 ((l.length / 4 : Nat) - 1) then (if xeOk (s0 l : Int) (eaB l x) then xeR (eaB l x) else xe0) else xe0) else xe0
theorem ea_1 {l : List ByteArray} {x : Int} (h : exB l = false) : eaC l x = 7 ∧ eaE l x = xe0 := by simp only [eaC, eaE, h, if_true, Bool.false_eq_true, if_false, and_self]
theorem ea_2 {l : List ByteArray} {x E1 : Int} (h : exB l = true) (hE : ((l.length / 4 : Nat) : Int) - 1 = E1) (g : inB x 0 E1 = false) : eaC l x = 2 ∧ eaE l x = xe0 := by subst hE; simp only [eaC, eaE, h, g, if_true, Bool.false_eq_true, if_false, and_self]
theorem ea_3 {l : List ByteArray} {x E1 : Int} {z : Nat} {B : List UInt8} (h : exB l = true) (hE : ((l.length / 4 : Nat) : Int) - 1 = E1) (g : inB x 0 E1 = true) (hz : s0 l = z) (hB : eaB l x = B) (k : xeOk (z : Int) B = false) : eaC l x = 7 ∧ eaE l x = xe0 := by subst hE hz hB; simp only [eaC, eaE, h, g, k, if_true, Bool.false_eq_true, if_false, and_self]
theorem ea_4 {l : List ByteArray} {x E1 : Int} {z : Nat} {B : List UInt8} (h : exB l = true) (hE : ((l.length / 4 : Nat) : Int) - 1 = E1) (g : inB x 0 E1 = true) (hz : s0 l = z) (hB : eaB l x = B) (k : xeOk (z : Int) B = true) : eaC l x = 0 ∧ eaE l x = xeE (z : Int) B := by subst hE hz hB; simp only [eaC, eaE, xeE, h, g, k, if_true, Bool.false_eq_true, if_false, and_self]
theorem eaE_len (l : List ByteArray) (x : Int) : (eaE l x).bl.length ≤ 4 := by
  unfold eaE
  split
  · split
    · split
      · exact (xeR_ok (eaB l x)).1.1
      · exact Nat.zero_le _
    · exact Nat.zero_le _
  · exact Nat.zero_le _
theorem ex_yes {l : List ByteArray} (h : exB l = true) : blkB l = true := by
  rw [exB, Bool.and_eq_true] at h
  exact h.1
section
variable {w W : World} {vs : List Value}
theorem bb5 {w W : World} (h : BB w W) (u0 u1 u2 u3 u4 : Value) : BB w (((((W.setCell ⟨w.heap.size, 0, none⟩ u0).setCell ⟨w.heap.size, 1, none⟩ u1).setCell ⟨w.heap.size, 2, none⟩ u2).setCell ⟨w.heap.size, 3, none⟩ u3).setCell ⟨w.heap.size, 4, none⟩ u4) := by
  have hp : ∀ (W : World) (j : Nat) (u : Value), BB w W → BB w (W.setCell ⟨w.heap.size, j, none⟩ u) := fun W j u h => BB.put h (a := ⟨w.heap.size, j, none⟩) (Nat.le_refl _) u
  exact hp _ _ _ (hp _ _ _ (hp _ _ _ (hp _ _ _ (hp _ _ _ h))))
end

set_option maxRecDepth 100000 in
set_option maxHeartbeats 8000000 in
theorem spec_ExtentAt_any (A : Option Addr) (cp : Nat) (l : List ByteArray) (x : Int) (w : World) (h : RR w 1 A l.length (flat fS l)) (hn : l.length ≤ 1048576) :
    Calls Tryd.prog 12 #[.slice A l.length cp, .int .i64 x] w fun r w' => ∃ A c, r = .returned (.tuple #[.agg #[.int .i64 (eaE l x).st, .string (eaE l x).nm, .int .i64 (eaE l x).nu, .int .i64 (eaE l x).tl, .slice A (eaE l x).bl.length c], .int .i64 (eaC l x)]) ∧ w'.ownsRow w.heap.size 2 1 (.slice A (eaE l x).bl.length c) (eaE l x).bl.length (flat fI (eaE l x).bl) ∧ BB w w' := by
  have F0 := BX.made w 34 [.int .i64 0, .string ⟨#[]⟩, .int .i64 0, .int .i64 0, .slice none 0 0]
  have hB0 : BB w (w.alloc (.cells #[.int .i64 0, .string ⟨#[]⟩, .int .i64 0, .int .i64 0, .slice none 0 0] 34)) := BB.al (BB.start w) _
  have h0 : RR (w.alloc (.cells #[.int .i64 0, .string ⟨#[]⟩, .int .i64 0, .int .i64 0, .slice none 0 0] 34)) 1 A l.length (flat fS l) := RR.al h (.cells #[.int .i64 0, .string ⟨#[]⟩, .int .i64 0, .int .i64 0, .slice none 0 0] 34)
  have con := l17On_any A cp l (w.alloc (.cells #[.int .i64 0, .string ⟨#[]⟩, .int .i64 0, .int .i64 0, .slice none 0 0] 34)) h0 hn
  cases hex : exB l
  · rw [hex] at con
    simp only [loN, Bool.false_eq_true, if_false] at con
    have HR := Lib.hid (ea_1 (x := x) hex)
    clear hex
    go_enter Tryd.func12, Tryd.ntmps12
    go_wp2_with (go_at_call 27; (with_reducible refine con.mono ?_); rintro r w1 ⟨rfl, hx1⟩; have F1 := F0.below hx1 F0.lt; have hB1 : BB w w1 := BB.next hB0 hx1; have z10 : (_ : Option Value) = some (.int .i64 0) := F1.cell 0 (by simp); have z11 : (_ : Option Value) = some (.string ⟨#[]⟩) := F1.cell 1 (by simp); have z12 : (_ : Option Value) = some (.int .i64 0) := F1.cell 2 (by simp); have z13 : (_ : Option Value) = some (.int .i64 0) := F1.cell 3 (by simp); have z14 : (_ : Option Value) = some (.slice none 0 0) := F1.cell 4 (by simp); have y10 := fun (o : Obj) => (show (_ : Option Value) = some (.int .i64 0) from (BX.al F1 o).cell 0 (by simp)); have y11 := fun (o : Obj) => (show (_ : Option Value) = some (.string ⟨#[]⟩) from (BX.al F1 o).cell 1 (by simp)); have y12 := fun (o : Obj) => (show (_ : Option Value) = some (.int .i64 0) from (BX.al F1 o).cell 2 (by simp)); have y13 := fun (o : Obj) => (show (_ : Option Value) = some (.int .i64 0) from (BX.al F1 o).cell 3 (by simp)); have y14 := fun (o : Obj) => (show (_ : Option Value) = some (.slice none 0 0) from (BX.al F1 o).cell 4 (by simp)); have hfz1 := fun j => F1.free j; have hfy1 := fun (o : Obj) j => (BX.al F1 o).free j)
    refine bodyPost_ret (v := .tuple #[.agg #[.int .i64 0, .string ⟨#[]⟩, .int .i64 0, .int .i64 0, .slice none 0 0], .int .i64 7]) (by simp [results, Tryd.results12, go_sem, World.cell?_setCell_other, z10, y10, z11, y11, z12, y12, z13, y13, z14, y14]) rfl ⟨none, 0, by rw [HR.out.1, HR.out.2]; rfl, by rw [HR.out.2]; exact World.ownsRow_nil _ _ _ _, ?_⟩
    exact bb5 (BB.al hB1 _) _ _ _ _ _
  obtain ⟨n8, n128, s3, hall⟩ := blk_yes (ex_yes hex)
  rw [hex] at con
  simp only [loN, if_true] at con
  obtain ⟨z, hz⟩ : ∃ z, s0 l = z := ⟨_, rfl⟩
  obtain ⟨E, hE⟩ : ∃ E, l.length / 4 = E := ⟨_, rfl⟩
  obtain ⟨Y, hY⟩ : ∃ Y, exD l.length (s0 l) = Y := ⟨_, rfl⟩
  rw [hY, hz, hE] at con
  rw [hz] at s3 hall
  clear hY
  obtain ⟨E1, hE1⟩ : ∃ E1 : Int, (E : Int) - 1 = E1 := ⟨_, rfl⟩
  have hE2 : ((l.length / 4 : Nat) : Int) - 1 = E1 := by rw [hE]; exact hE1
  have hEw : IntKind.i64.wrap ((E : Int) - 1) = E1 := by rw [IntWalk.i64_in _ (by omega)]; exact hE1
  have hwi := fun (W : World) => l00In_any x 0 E1 W
  cases hin : inB x 0 E1
  · rw [hin] at hwi
    have HR := Lib.hid (ea_2 hex hE2 hin)
    clear hex hin hz hE hE1 hE2 s3 hall
    go_enter Tryd.func12, Tryd.ntmps12
    go_wp2_with (first
      | (go_at_call 27; (with_reducible refine con.mono ?_); rintro r w1 ⟨rfl, hx1⟩; have F1 := F0.below hx1 F0.lt; have hB1 : BB w w1 := BB.next hB0 hx1; have z10 : (_ : Option Value) = some (.int .i64 0) := F1.cell 0 (by simp); have z11 : (_ : Option Value) = some (.string ⟨#[]⟩) := F1.cell 1 (by simp); have z12 : (_ : Option Value) = some (.int .i64 0) := F1.cell 2 (by simp); have z13 : (_ : Option Value) = some (.int .i64 0) := F1.cell 3 (by simp); have z14 : (_ : Option Value) = some (.slice none 0 0) := F1.cell 4 (by simp); have y10 := fun (o : Obj) => (show (_ : Option Value) = some (.int .i64 0) from (BX.al F1 o).cell 0 (by simp)); have y11 := fun (o : Obj) => (show (_ : Option Value) = some (.string ⟨#[]⟩) from (BX.al F1 o).cell 1 (by simp)); have y12 := fun (o : Obj) => (show (_ : Option Value) = some (.int .i64 0) from (BX.al F1 o).cell 2 (by simp)); have y13 := fun (o : Obj) => (show (_ : Option Value) = some (.int .i64 0) from (BX.al F1 o).cell 3 (by simp)); have y14 := fun (o : Obj) => (show (_ : Option Value) = some (.slice none 0 0) from (BX.al F1 o).cell 4 (by simp)); have hfz1 := fun j => F1.free j; have hfy1 := fun (o : Obj) j => (BX.al F1 o).free j)
      | (go_at_call 22; (with_reducible refine (hwi _).mono ?_); rintro r w9 ⟨rfl, rfl⟩))
    refine bodyPost_ret (v := .tuple #[.agg #[.int .i64 0, .string ⟨#[]⟩, .int .i64 0, .int .i64 0, .slice none 0 0], .int .i64 2]) (by simp [results, Tryd.results12, go_sem, World.cell?_setCell_other, z10, y10, z11, y11, z12, y12, z13, y13, z14, y14]) rfl ⟨none, 0, by rw [HR.out.1, HR.out.2]; rfl, by rw [HR.out.2]; exact World.ownsRow_nil _ _ _ _, ?_⟩
    exact bb5 (BB.al hB1 _) _ _ _ _ _
  obtain ⟨x0, xE⟩ := inB_yes hin
  rw [hin] at hwi
  obtain ⟨k, hk⟩ : ∃ k : Nat, x = (k : Int) := ⟨x.toNat, by omega⟩
  have hks : z + 16 * (k + 1) ≤ l.length * z := by rcases s3 with rfl | rfl | rfl <;> omega
  have hB : eaB l x = xRaw (jn l) z k := by rw [eaB, hz, hk]; rfl
  have H3 := fun h9 => ea_3 hex hE2 hin hz hB h9
  have H4 := fun h9 => ea_4 hex hE2 hin hz hB h9
  have AT := fun (w1 : World) (hb : BB w w1) => l17At_any w1.heap.size l.length z E Y A cp l k (w1.alloc (.cells #[.int .i64 (l.length : Int), .int .i64 (z : Int), .int .i64 (E : Int), .int .i64 (Y : Int)] 59)) (CP.made w1 [.int .i64 (l.length : Int), .int .i64 (z : Int), .int .i64 (E : Int), .int .i64 (Y : Int)] 59) (RR.back h (BB.al hb (.cells #[.int .i64 (l.length : Int), .int .i64 (z : Int), .int .i64 (E : Int), .int .i64 (Y : Int)] 59))) s3 hall n128 hks
  generalize xRaw (jn l) z k = B at H3 H4 AT
  rw [← hk] at AT
  clear hex hin hz hE hE1 hE2 hk hks hB x0 xE
  cases hok : xeOk (z : Int) B
  · have HR := Lib.hid (H3 hok)
    rw [hok] at AT
    generalize xeE (z : Int) B = e at AT
    clear H3 H4 hok s3 hall
    go_enter Tryd.func12, Tryd.ntmps12
    go_wp2_with (first
      | (go_at_call 27; (with_reducible refine con.mono ?_); rintro r w1 ⟨rfl, hx1⟩; have F1 := F0.below hx1 F0.lt; have hB1 : BB w w1 := BB.next hB0 hx1; have z10 : (_ : Option Value) = some (.int .i64 0) := F1.cell 0 (by simp); have z11 : (_ : Option Value) = some (.string ⟨#[]⟩) := F1.cell 1 (by simp); have z12 : (_ : Option Value) = some (.int .i64 0) := F1.cell 2 (by simp); have z13 : (_ : Option Value) = some (.int .i64 0) := F1.cell 3 (by simp); have z14 : (_ : Option Value) = some (.slice none 0 0) := F1.cell 4 (by simp); have y10 := fun (o : Obj) => (show (_ : Option Value) = some (.int .i64 0) from (BX.al F1 o).cell 0 (by simp)); have y11 := fun (o : Obj) => (show (_ : Option Value) = some (.string ⟨#[]⟩) from (BX.al F1 o).cell 1 (by simp)); have y12 := fun (o : Obj) => (show (_ : Option Value) = some (.int .i64 0) from (BX.al F1 o).cell 2 (by simp)); have y13 := fun (o : Obj) => (show (_ : Option Value) = some (.int .i64 0) from (BX.al F1 o).cell 3 (by simp)); have y14 := fun (o : Obj) => (show (_ : Option Value) = some (.slice none 0 0) from (BX.al F1 o).cell 4 (by simp)); have hfz1 := fun j => F1.free j; have hfy1 := fun (o : Obj) j => (BX.al F1 o).free j; have at1 := AT w1 hB1)
      | (go_at_call 22; (with_reducible refine (hwi _).mono ?_); rintro r w9 ⟨rfl, rfl⟩)
      | (go_at_call 28; (with_reducible refine at1.mono ?_); rintro r w3 ⟨A3, c3, rfl, O3, hx3⟩; have F3 := (BX.al F1 (.cells #[.int .i64 (l.length : Int), .int .i64 (z : Int), .int .i64 (E : Int), .int .i64 (Y : Int)] 59)).below hx3 (BX.al F1 (.cells #[.int .i64 (l.length : Int), .int .i64 (z : Int), .int .i64 (E : Int), .int .i64 (Y : Int)] 59)).lt; have hB3 : BB w w3 := BB.next (BB.al hB1 (.cells #[.int .i64 (l.length : Int), .int .i64 (z : Int), .int .i64 (E : Int), .int .i64 (Y : Int)] 59)) hx3; clear z10 y10 z11 y11 z12 y12 z13 y13 z14 y14 hfz1 hfy1; have z30 : (_ : Option Value) = some (.int .i64 0) := F3.cell 0 (by simp); have z31 : (_ : Option Value) = some (.string ⟨#[]⟩) := F3.cell 1 (by simp); have z32 : (_ : Option Value) = some (.int .i64 0) := F3.cell 2 (by simp); have z33 : (_ : Option Value) = some (.int .i64 0) := F3.cell 3 (by simp); have z34 : (_ : Option Value) = some (.slice none 0 0) := F3.cell 4 (by simp); have y30 := fun (o : Obj) => (show (_ : Option Value) = some (.int .i64 0) from (BX.al F3 o).cell 0 (by simp)); have y31 := fun (o : Obj) => (show (_ : Option Value) = some (.string ⟨#[]⟩) from (BX.al F3 o).cell 1 (by simp)); have y32 := fun (o : Obj) => (show (_ : Option Value) = some (.int .i64 0) from (BX.al F3 o).cell 2 (by simp)); have y33 := fun (o : Obj) => (show (_ : Option Value) = some (.int .i64 0) from (BX.al F3 o).cell 3 (by simp)); have y34 := fun (o : Obj) => (show (_ : Option Value) = some (.slice none 0 0) from (BX.al F3 o).cell 4 (by simp)); have hfz3 := fun j => F3.free j; have hfy3 := fun (o : Obj) j => (BX.al F3 o).free j))
    refine bodyPost_ret (v := .tuple #[.agg #[.int .i64 0, .string ⟨#[]⟩, .int .i64 0, .int .i64 0, .slice none 0 0], .int .i64 7]) (by simp [results, Tryd.results12, go_sem, World.cell?_setCell_other, z30, y30, z31, y31, z32, y32, z33, y33, z34, y34]) rfl ⟨none, 0, by rw [HR.out.1, HR.out.2]; rfl, by rw [HR.out.2]; exact World.ownsRow_nil _ _ _ _, ?_⟩
    exact bb5 (BB.al hB3 _) _ _ _ _ _
  have HR := Lib.hid (H4 hok)
  rw [hok] at AT
  generalize xeE (z : Int) B = e at AT HR
  clear H3 H4 hok s3 hall
  go_enter Tryd.func12, Tryd.ntmps12
  go_wp2_with (first
      | (go_at_call 27; (with_reducible refine con.mono ?_); rintro r w1 ⟨rfl, hx1⟩; have F1 := F0.below hx1 F0.lt; have hB1 : BB w w1 := BB.next hB0 hx1; have z10 : (_ : Option Value) = some (.int .i64 0) := F1.cell 0 (by simp); have z11 : (_ : Option Value) = some (.string ⟨#[]⟩) := F1.cell 1 (by simp); have z12 : (_ : Option Value) = some (.int .i64 0) := F1.cell 2 (by simp); have z13 : (_ : Option Value) = some (.int .i64 0) := F1.cell 3 (by simp); have z14 : (_ : Option Value) = some (.slice none 0 0) := F1.cell 4 (by simp); have y10 := fun (o : Obj) => (show (_ : Option Value) = some (.int .i64 0) from (BX.al F1 o).cell 0 (by simp)); have y11 := fun (o : Obj) => (show (_ : Option Value) = some (.string ⟨#[]⟩) from (BX.al F1 o).cell 1 (by simp)); have y12 := fun (o : Obj) => (show (_ : Option Value) = some (.int .i64 0) from (BX.al F1 o).cell 2 (by simp)); have y13 := fun (o : Obj) => (show (_ : Option Value) = some (.int .i64 0) from (BX.al F1 o).cell 3 (by simp)); have y14 := fun (o : Obj) => (show (_ : Option Value) = some (.slice none 0 0) from (BX.al F1 o).cell 4 (by simp)); have hfz1 := fun j => F1.free j; have hfy1 := fun (o : Obj) j => (BX.al F1 o).free j; have at1 := AT w1 hB1)
      | (go_at_call 22; (with_reducible refine (hwi _).mono ?_); rintro r w9 ⟨rfl, rfl⟩)
      | (go_at_call 28; (with_reducible refine at1.mono ?_); rintro r w3 ⟨A3, c3, rfl, O3, hx3⟩; have F3 := (BX.al F1 (.cells #[.int .i64 (l.length : Int), .int .i64 (z : Int), .int .i64 (E : Int), .int .i64 (Y : Int)] 59)).below hx3 (BX.al F1 (.cells #[.int .i64 (l.length : Int), .int .i64 (z : Int), .int .i64 (E : Int), .int .i64 (Y : Int)] 59)).lt; have hB3 : BB w w3 := BB.next (BB.al hB1 (.cells #[.int .i64 (l.length : Int), .int .i64 (z : Int), .int .i64 (E : Int), .int .i64 (Y : Int)] 59)) hx3; clear z10 y10 z11 y11 z12 y12 z13 y13 z14 y14 hfz1 hfy1; have z30 : (_ : Option Value) = some (.int .i64 0) := F3.cell 0 (by simp); have z31 : (_ : Option Value) = some (.string ⟨#[]⟩) := F3.cell 1 (by simp); have z32 : (_ : Option Value) = some (.int .i64 0) := F3.cell 2 (by simp); have z33 : (_ : Option Value) = some (.int .i64 0) := F3.cell 3 (by simp); have z34 : (_ : Option Value) = some (.slice none 0 0) := F3.cell 4 (by simp); have y30 := fun (o : Obj) => (show (_ : Option Value) = some (.int .i64 0) from (BX.al F3 o).cell 0 (by simp)); have y31 := fun (o : Obj) => (show (_ : Option Value) = some (.string ⟨#[]⟩) from (BX.al F3 o).cell 1 (by simp)); have y32 := fun (o : Obj) => (show (_ : Option Value) = some (.int .i64 0) from (BX.al F3 o).cell 2 (by simp)); have y33 := fun (o : Obj) => (show (_ : Option Value) = some (.int .i64 0) from (BX.al F3 o).cell 3 (by simp)); have y34 := fun (o : Obj) => (show (_ : Option Value) = some (.slice none 0 0) from (BX.al F3 o).cell 4 (by simp)); have hfz3 := fun j => F3.free j; have hfy3 := fun (o : Obj) j => (BX.al F3 o).free j))
  refine bodyPost_ret (v := .tuple #[.agg #[.int .i64 e.st, .string e.nm, .int .i64 e.nu, .int .i64 e.tl, .slice A3 e.bl.length c3], .int .i64 0]) (by simp [results, Tryd.results12, go_sem, World.cell?_setCell_other, z30, y30, z31, y31, z32, y32, z33, y33, z34, y34]) rfl ⟨A3, c3, by rw [HR.out.1, HR.out.2], ?_, ?_⟩
  · rw [HR.out.2]
    have O4 : OO _ _ _ _ _ _ _ := World.ownsRow.alloc O3 (.cells #[.int .i64 e.st, .string e.nm, .int .i64 e.nu, .int .i64 e.tl, .slice A3 e.bl.length c3] 34)
    have hlt : w.heap.size < (w1.alloc (.cells #[.int .i64 (l.length : Int), .int .i64 (z : Int), .int .i64 (E : Int), .int .i64 (Y : Int)] 59)).heap.size := (BX.al F1 _).lt
    refine own_base (OOf (OO.put (OO.put (OO.put (OO.put (OO.put O4 (a := ⟨w.heap.size, 0, none⟩) hlt _) (a := ⟨w.heap.size, 1, none⟩) hlt _) (a := ⟨w.heap.size, 2, none⟩) hlt _) (a := ⟨w.heap.size, 3, none⟩) hlt _) (a := ⟨w.heap.size, 4, none⟩) hlt _)) (Nat.le_of_lt hlt)
  · exact bb5 (BB.al hB3 _) _ _ _ _ _
set_option maxRecDepth 100000 in
set_option maxHeartbeats 8000000 in
theorem impl_ExtentAt_any (A : Option Addr) (cp : Nat) (l : List ByteArray) (x : Int) (w : World) (h : RR w 1 A l.length (flat fS l)) (hn : l.length ≤ 1048576) (hcp : l.length ≤ cp) :
    Calls Tryd.prog 13 #[.slice A l.length cp, .int .i64 x] w fun r w' => ∃ A c, r = .returned (.tuple #[.agg #[.int .i64 (eaE l x).st, .string (eaE l x).nm, .int .i64 (eaE l x).nu, .int .i64 (eaE l x).tl, .slice A (eaE l x).bl.length c], .int .i64 (eaC l x)]) ∧ w'.ownsRow w.heap.size 2 1 (.slice A (eaE l x).bl.length c) (eaE l x).bl.length (flat fI (eaE l x).bl) ∧ BB w w' := by
  have F0 := BX.made w 34 [.int .i64 0, .string ⟨#[]⟩, .int .i64 0, .int .i64 0, .slice none 0 0]
  have hB0 : BB w (w.alloc (.cells #[.int .i64 0, .string ⟨#[]⟩, .int .i64 0, .int .i64 0, .slice none 0 0] 34)) := BB.al (BB.start w) _
  have h0 : RR (w.alloc (.cells #[.int .i64 0, .string ⟨#[]⟩, .int .i64 0, .int .i64 0, .slice none 0 0] 34)) 1 A l.length (flat fS l) := RR.al h (.cells #[.int .i64 0, .string ⟨#[]⟩, .int .i64 0, .int .i64 0, .slice none 0 0] 34)
  have con := openExtents_any A cp l (w.alloc (.cells #[.int .i64 0, .string ⟨#[]⟩, .int .i64 0, .int .i64 0, .slice none 0 0] 34)) h0 hn hcp (fun b s x w h1 h2 h3 => extentHeader_any b s x w h1 h2 h3)
  cases hex : exB l
  · rw [hex] at con
    have HR := Lib.hid (ea_1 (x := x) hex)
    clear hex
    go_enter Tryd.func13, Tryd.ntmps13
    go_wp2_with (go_at_call 29; (with_reducible refine con.mono ?_); rintro r w1 ⟨pv, rfl, hx1, -, hno⟩; obtain rfl := hno (by first | trivial | rfl); have F1 := F0.below hx1 F0.lt; have hB1 : BB w w1 := BB.next hB0 hx1; have z10 : (_ : Option Value) = some (.int .i64 0) := F1.cell 0 (by simp); have z11 : (_ : Option Value) = some (.string ⟨#[]⟩) := F1.cell 1 (by simp); have z12 : (_ : Option Value) = some (.int .i64 0) := F1.cell 2 (by simp); have z13 : (_ : Option Value) = some (.int .i64 0) := F1.cell 3 (by simp); have z14 : (_ : Option Value) = some (.slice none 0 0) := F1.cell 4 (by simp); have y10 := fun (o : Obj) => (show (_ : Option Value) = some (.int .i64 0) from (BX.al F1 o).cell 0 (by simp)); have y11 := fun (o : Obj) => (show (_ : Option Value) = some (.string ⟨#[]⟩) from (BX.al F1 o).cell 1 (by simp)); have y12 := fun (o : Obj) => (show (_ : Option Value) = some (.int .i64 0) from (BX.al F1 o).cell 2 (by simp)); have y13 := fun (o : Obj) => (show (_ : Option Value) = some (.int .i64 0) from (BX.al F1 o).cell 3 (by simp)); have y14 := fun (o : Obj) => (show (_ : Option Value) = some (.slice none 0 0) from (BX.al F1 o).cell 4 (by simp)); have hfz1 := fun j => F1.free j; have hfy1 := fun (o : Obj) j => (BX.al F1 o).free j)
    refine bodyPost_ret (v := .tuple #[.agg #[.int .i64 0, .string ⟨#[]⟩, .int .i64 0, .int .i64 0, .slice none 0 0], .int .i64 7]) (by simp [results, Tryd.results13, go_sem, World.cell?_setCell_other, z10, y10, z11, y11, z12, y12, z13, y13, z14, y14]) rfl ⟨none, 0, by rw [HR.out.1, HR.out.2]; rfl, by rw [HR.out.2]; exact World.ownsRow_nil _ _ _ _, ?_⟩
    exact bb5 hB1 _ _ _ _ _
  obtain ⟨n8, n128, s3, hall⟩ := blk_yes (ex_yes hex)
  rw [hex] at con
  obtain ⟨z, hz⟩ : ∃ z, s0 l = z := ⟨_, rfl⟩
  obtain ⟨E, hE⟩ : ∃ E, l.length / 4 = E := ⟨_, rfl⟩
  obtain ⟨Y, hY⟩ : ∃ Y, exD l.length (s0 l) = Y := ⟨_, rfl⟩
  rw [hY, hz, hE] at con
  rw [hz] at s3 hall
  clear hY
  obtain ⟨E1, hE1⟩ : ∃ E1 : Int, (E : Int) - 1 = E1 := ⟨_, rfl⟩
  have hE2 : ((l.length / 4 : Nat) : Int) - 1 = E1 := by rw [hE]; exact hE1
  have hEw : IntKind.i64.wrap ((E : Int) - 1) = E1 := by rw [IntWalk.i64_in _ (by omega)]; exact hE1
  have hjn : (jn l).length = l.length * z := jn_len l z hall
  have hj0 : 0 < (jn l).length ∧ (jn l).length ≤ 4096 := by
    rw [hjn]
    rcases s3 with rfl | rfl | rfl <;> omega
  replace con : Calls Tryd.prog 29 #[.slice A l.length cp] (w.alloc (.cells #[.int .i64 0, .string ⟨#[]⟩, .int .i64 0, .int .i64 0, .slice none 0 0] 34)) fun r w1 => ∃ g bb off c, r = .returned (.tuple #[.pointer (some ⟨g, 0, none⟩), .bool true]) ∧ Below (w.alloc (.cells #[.int .i64 0, .string ⟨#[]⟩, .int .i64 0, .int .i64 0, .slice none 0 0] 34)).heap.size (w.alloc (.cells #[.int .i64 0, .string ⟨#[]⟩, .int .i64 0, .int .i64 0, .slice none 0 0] 34)) w1 ∧ CP w1 g [.int .i64 (l.length : Int), .int .i64 (z : Int), .int .i64 (E : Int), .int .i64 (Y : Int), .slice (some ⟨bb, off, none⟩) (jn l).length c] ∧ RR w1 1 (some ⟨bb, off, none⟩) (jn l).length (bcells (jn l)) ∧ (jn l).length ≤ c := by
    refine con.mono ?_
    rintro r w1 ⟨pv, rfl, hx, hy, -⟩
    obtain ⟨g, a, c, rfl, D, R, hc⟩ := hy rfl
    obtain ⟨bb, off, rfl, hb, _⟩ := R.2 (by omega)
    exact ⟨g, bb, off, c, rfl, hx, D, R, hc⟩
  have hwi := fun (W : World) => within_any x 0 E1 W
  cases hin : inB x 0 E1
  · rw [hin] at hwi
    have HR := Lib.hid (ea_2 hex hE2 hin)
    clear hex hin hz hE hE1 hE2 s3 hall
    go_enter Tryd.func13, Tryd.ntmps13
    go_wp2_with (first
      | (go_at_call 29; (with_reducible refine con.mono ?_); rintro r w1 ⟨g, bb, off, c, rfl, hx1, D1, R1, hnc⟩; have F1 := F0.below hx1 F0.lt; have hB1 : BB w w1 := BB.next hB0 hx1; have d2 : (_ : Option Value) = some (.int .i64 (E : Int)) := D1 2 (by simp); have z10 : (_ : Option Value) = some (.int .i64 0) := F1.cell 0 (by simp); have z11 : (_ : Option Value) = some (.string ⟨#[]⟩) := F1.cell 1 (by simp); have z12 : (_ : Option Value) = some (.int .i64 0) := F1.cell 2 (by simp); have z13 : (_ : Option Value) = some (.int .i64 0) := F1.cell 3 (by simp); have z14 : (_ : Option Value) = some (.slice none 0 0) := F1.cell 4 (by simp); have y10 := fun (o : Obj) => (show (_ : Option Value) = some (.int .i64 0) from (BX.al F1 o).cell 0 (by simp)); have y11 := fun (o : Obj) => (show (_ : Option Value) = some (.string ⟨#[]⟩) from (BX.al F1 o).cell 1 (by simp)); have y12 := fun (o : Obj) => (show (_ : Option Value) = some (.int .i64 0) from (BX.al F1 o).cell 2 (by simp)); have y13 := fun (o : Obj) => (show (_ : Option Value) = some (.int .i64 0) from (BX.al F1 o).cell 3 (by simp)); have y14 := fun (o : Obj) => (show (_ : Option Value) = some (.slice none 0 0) from (BX.al F1 o).cell 4 (by simp)); have hfz1 := fun j => F1.free j; have hfy1 := fun (o : Obj) j => (BX.al F1 o).free j)
      | (go_at_call 25; (with_reducible refine (hwi _).mono ?_); rintro r w9 ⟨rfl, rfl⟩))
    refine bodyPost_ret (v := .tuple #[.agg #[.int .i64 0, .string ⟨#[]⟩, .int .i64 0, .int .i64 0, .slice none 0 0], .int .i64 2]) (by simp [results, Tryd.results13, go_sem, World.cell?_setCell_other, z10, y10, z11, y11, z12, y12, z13, y13, z14, y14]) rfl ⟨none, 0, by rw [HR.out.1, HR.out.2]; rfl, by rw [HR.out.2]; exact World.ownsRow_nil _ _ _ _, ?_⟩
    exact bb5 hB1 _ _ _ _ _
  obtain ⟨x0, xE⟩ := inB_yes hin
  rw [hin] at hwi
  obtain ⟨k, hk⟩ : ∃ k : Nat, x = (k : Int) := ⟨x.toNat, by omega⟩
  have hks : z + 16 * (k + 1) ≤ l.length * z := by rcases s3 with rfl | rfl | rfl <;> omega
  have hB : eaB l x = xRaw (jn l) z k := by rw [eaB, hz, hk]; rfl
  have H3 := fun h9 => ea_3 hex hE2 hin hz hB h9
  have H4 := fun h9 => ea_4 hex hE2 hin hz hB h9
  have AT := fun (w1 : World) (g bb off c : Nat) (D : CP w1 g [.int .i64 (l.length : Int), .int .i64 (z : Int), .int .i64 (E : Int), .int .i64 (Y : Int), .slice (some ⟨bb, off, none⟩) (jn l).length c]) (R : RR w1 1 (some ⟨bb, off, none⟩) (jn l).length (bcells (jn l))) (hc : (jn l).length ≤ c) => entryX_any g l.length z E Y bb off (jn l).length c (jn l) k w1 D R (by rw [hjn]; exact hks) (by omega) hj0.2 hc
  generalize xRaw (jn l) z k = B at H3 H4 AT
  rw [← hk] at AT
  clear hex hin hz hE hE1 hE2 hk hks hB x0 xE hjn hj0
  cases hok : xeOk (z : Int) B
  · have HR := Lib.hid (H3 hok)
    rw [hok] at AT
    generalize xeE (z : Int) B = e at AT
    clear H3 H4 hok s3 hall
    go_enter Tryd.func13, Tryd.ntmps13
    go_wp2_with (first
      | (go_at_call 29; (with_reducible refine con.mono ?_); rintro r w1 ⟨g, bb, off, c, rfl, hx1, D1, R1, hnc⟩; have F1 := F0.below hx1 F0.lt; have hB1 : BB w w1 := BB.next hB0 hx1; have d2 : (_ : Option Value) = some (.int .i64 (E : Int)) := D1 2 (by simp); have z10 : (_ : Option Value) = some (.int .i64 0) := F1.cell 0 (by simp); have z11 : (_ : Option Value) = some (.string ⟨#[]⟩) := F1.cell 1 (by simp); have z12 : (_ : Option Value) = some (.int .i64 0) := F1.cell 2 (by simp); have z13 : (_ : Option Value) = some (.int .i64 0) := F1.cell 3 (by simp); have z14 : (_ : Option Value) = some (.slice none 0 0) := F1.cell 4 (by simp); have y10 := fun (o : Obj) => (show (_ : Option Value) = some (.int .i64 0) from (BX.al F1 o).cell 0 (by simp)); have y11 := fun (o : Obj) => (show (_ : Option Value) = some (.string ⟨#[]⟩) from (BX.al F1 o).cell 1 (by simp)); have y12 := fun (o : Obj) => (show (_ : Option Value) = some (.int .i64 0) from (BX.al F1 o).cell 2 (by simp)); have y13 := fun (o : Obj) => (show (_ : Option Value) = some (.int .i64 0) from (BX.al F1 o).cell 3 (by simp)); have y14 := fun (o : Obj) => (show (_ : Option Value) = some (.slice none 0 0) from (BX.al F1 o).cell 4 (by simp)); have hfz1 := fun j => F1.free j; have hfy1 := fun (o : Obj) j => (BX.al F1 o).free j; have at1 := AT w1 g bb off c D1 R1 hnc)
      | (go_at_call 25; (with_reducible refine (hwi _).mono ?_); rintro r w9 ⟨rfl, rfl⟩)
      | (go_at_call 30; (with_reducible refine at1.mono ?_); rintro r w3 ⟨A3, c3, rfl, O3, hx3⟩; have F3 := F1.below hx3 F1.lt; have hB3 : BB w w3 := BB.next hB1 hx3; clear z10 y10 z11 y11 z12 y12 z13 y13 z14 y14 hfz1 hfy1; have z30 : (_ : Option Value) = some (.int .i64 0) := F3.cell 0 (by simp); have z31 : (_ : Option Value) = some (.string ⟨#[]⟩) := F3.cell 1 (by simp); have z32 : (_ : Option Value) = some (.int .i64 0) := F3.cell 2 (by simp); have z33 : (_ : Option Value) = some (.int .i64 0) := F3.cell 3 (by simp); have z34 : (_ : Option Value) = some (.slice none 0 0) := F3.cell 4 (by simp); have y30 := fun (o : Obj) => (show (_ : Option Value) = some (.int .i64 0) from (BX.al F3 o).cell 0 (by simp)); have y31 := fun (o : Obj) => (show (_ : Option Value) = some (.string ⟨#[]⟩) from (BX.al F3 o).cell 1 (by simp)); have y32 := fun (o : Obj) => (show (_ : Option Value) = some (.int .i64 0) from (BX.al F3 o).cell 2 (by simp)); have y33 := fun (o : Obj) => (show (_ : Option Value) = some (.int .i64 0) from (BX.al F3 o).cell 3 (by simp)); have y34 := fun (o : Obj) => (show (_ : Option Value) = some (.slice none 0 0) from (BX.al F3 o).cell 4 (by simp)); have hfz3 := fun j => F3.free j; have hfy3 := fun (o : Obj) j => (BX.al F3 o).free j))
    refine bodyPost_ret (v := .tuple #[.agg #[.int .i64 0, .string ⟨#[]⟩, .int .i64 0, .int .i64 0, .slice none 0 0], .int .i64 7]) (by simp [results, Tryd.results13, go_sem, World.cell?_setCell_other, z30, y30, z31, y31, z32, y32, z33, y33, z34, y34]) rfl ⟨none, 0, by rw [HR.out.1, HR.out.2]; rfl, by rw [HR.out.2]; exact World.ownsRow_nil _ _ _ _, ?_⟩
    exact bb5 (BB.al hB3 _) _ _ _ _ _
  have HR := Lib.hid (H4 hok)
  rw [hok] at AT
  generalize xeE (z : Int) B = e at AT HR
  clear H3 H4 hok s3 hall
  go_enter Tryd.func13, Tryd.ntmps13
  go_wp2_with (first
      | (go_at_call 29; (with_reducible refine con.mono ?_); rintro r w1 ⟨g, bb, off, c, rfl, hx1, D1, R1, hnc⟩; have F1 := F0.below hx1 F0.lt; have hB1 : BB w w1 := BB.next hB0 hx1; have d2 : (_ : Option Value) = some (.int .i64 (E : Int)) := D1 2 (by simp); have z10 : (_ : Option Value) = some (.int .i64 0) := F1.cell 0 (by simp); have z11 : (_ : Option Value) = some (.string ⟨#[]⟩) := F1.cell 1 (by simp); have z12 : (_ : Option Value) = some (.int .i64 0) := F1.cell 2 (by simp); have z13 : (_ : Option Value) = some (.int .i64 0) := F1.cell 3 (by simp); have z14 : (_ : Option Value) = some (.slice none 0 0) := F1.cell 4 (by simp); have y10 := fun (o : Obj) => (show (_ : Option Value) = some (.int .i64 0) from (BX.al F1 o).cell 0 (by simp)); have y11 := fun (o : Obj) => (show (_ : Option Value) = some (.string ⟨#[]⟩) from (BX.al F1 o).cell 1 (by simp)); have y12 := fun (o : Obj) => (show (_ : Option Value) = some (.int .i64 0) from (BX.al F1 o).cell 2 (by simp)); have y13 := fun (o : Obj) => (show (_ : Option Value) = some (.int .i64 0) from (BX.al F1 o).cell 3 (by simp)); have y14 := fun (o : Obj) => (show (_ : Option Value) = some (.slice none 0 0) from (BX.al F1 o).cell 4 (by simp)); have hfz1 := fun j => F1.free j; have hfy1 := fun (o : Obj) j => (BX.al F1 o).free j; have at1 := AT w1 g bb off c D1 R1 hnc)
      | (go_at_call 25; (with_reducible refine (hwi _).mono ?_); rintro r w9 ⟨rfl, rfl⟩)
      | (go_at_call 30; (with_reducible refine at1.mono ?_); rintro r w3 ⟨A3, c3, rfl, O3, hx3⟩; have F3 := F1.below hx3 F1.lt; have hB3 : BB w w3 := BB.next hB1 hx3; clear z10 y10 z11 y11 z12 y12 z13 y13 z14 y14 hfz1 hfy1; have z30 : (_ : Option Value) = some (.int .i64 0) := F3.cell 0 (by simp); have z31 : (_ : Option Value) = some (.string ⟨#[]⟩) := F3.cell 1 (by simp); have z32 : (_ : Option Value) = some (.int .i64 0) := F3.cell 2 (by simp); have z33 : (_ : Option Value) = some (.int .i64 0) := F3.cell 3 (by simp); have z34 : (_ : Option Value) = some (.slice none 0 0) := F3.cell 4 (by simp); have y30 := fun (o : Obj) => (show (_ : Option Value) = some (.int .i64 0) from (BX.al F3 o).cell 0 (by simp)); have y31 := fun (o : Obj) => (show (_ : Option Value) = some (.string ⟨#[]⟩) from (BX.al F3 o).cell 1 (by simp)); have y32 := fun (o : Obj) => (show (_ : Option Value) = some (.int .i64 0) from (BX.al F3 o).cell 2 (by simp)); have y33 := fun (o : Obj) => (show (_ : Option Value) = some (.int .i64 0) from (BX.al F3 o).cell 3 (by simp)); have y34 := fun (o : Obj) => (show (_ : Option Value) = some (.slice none 0 0) from (BX.al F3 o).cell 4 (by simp)); have hfz3 := fun j => F3.free j; have hfy3 := fun (o : Obj) j => (BX.al F3 o).free j))
  refine bodyPost_ret (v := .tuple #[.agg #[.int .i64 e.st, .string e.nm, .int .i64 e.nu, .int .i64 e.tl, .slice A3 e.bl.length c3], .int .i64 0]) (by simp [results, Tryd.results13, go_sem, World.cell?_setCell_other, z30, y30, z31, y31, z32, y32, z33, y33, z34, y34]) rfl ⟨A3, c3, by rw [HR.out.1, HR.out.2], ?_, ?_⟩
  · rw [HR.out.2]
    have O4 : OO _ _ _ _ _ _ _ := World.ownsRow.alloc O3 (.cells #[.int .i64 e.st, .string e.nm, .int .i64 e.nu, .int .i64 e.tl, .slice A3 e.bl.length c3] 34)
    have hlt : w.heap.size < w1.heap.size := F1.lt
    refine own_base (OOf (OO.put (OO.put (OO.put (OO.put (OO.put O4 (a := ⟨w.heap.size, 0, none⟩) hlt _) (a := ⟨w.heap.size, 1, none⟩) hlt _) (a := ⟨w.heap.size, 2, none⟩) hlt _) (a := ⟨w.heap.size, 3, none⟩) hlt _) (a := ⟨w.heap.size, 4, none⟩) hlt _)) (Nat.le_of_lt hlt)
  · exact bb5 (BB.al hB3 _) _ _ _ _ _
end Go.Proofs.YtbhpjoepbmimjaaDoor
namespace Go.Proofs.YtbhpjoepbmimjaaDoor
set_option linter.unusedVariables false
open Go.RowKit Go.ChangeShapes Go.WideShapes Go.Deep

set_option maxRecDepth 100000 in
set_option maxHeartbeats 600000 in
theorem eqExtentEntry_any (a0 : Int) (a1 : ByteArray) (a2 : Int) (a3 : Int) (A4 B4 : Option Addr) (c4 d4 : Nat) (l4 : List Int) (w : World) (h4 : Rd w w.heap.size 1 A4 l4.length (flat fI l4)) (g4 : Rd w w.heap.size 1 B4 l4.length (flat fI l4)) (hn4 : l4.length ≤ 1048576) :
    Calls Tryd.prog 14 #[.agg #[.int .i64 a0, .string a1, .int .i64 a2, .int .i64 a3, .slice A4 l4.length c4], .agg #[.int .i64 a0, .string a1, .int .i64 a2, .int .i64 a3, .slice B4 l4.length d4]] w fun e w' => e = .returned (.bool true) ∧ Below w.heap.size w w' := by
  go_enter Tryd.func14, Tryd.ntmps14
  go_wp2_with (first
    | (go_at_call 31; refine (eqInt64S_b A4 B4 c4 d4 l4 _ ((h4.below (by with_reducible repeat (first | exact Below.refl _ _ | assumption | refine below_step ?_ (by assumption) | refine Below.drew ?_ | refine below_drewN ?_ _ | refine below_alloc ?_ _ | refine Below.setCell ?_ (by simp; try omega) _))).more (by first | omega | (simp; done) | (simp; omega))) ((g4.below (by with_reducible repeat (first | exact Below.refl _ _ | assumption | refine below_step ?_ (by assumption) | refine Below.drew ?_ | refine below_drewN ?_ _ | refine below_alloc ?_ _ | refine Below.setCell ?_ (by simp; try omega) _))).more (by first | omega | (simp; done) | (simp; omega))) hn4).mono ?_; rintro e w1 ⟨rfl, hx1⟩; obtain ⟨hc1, hf1⟩ := bcell hx1; have hs1 : w.heap.size + 2 ≤ w1.heap.size := (by have := hx1.size; first | omega | (simp at this; omega)); have mk1 := True.intro))
  go_ret
  exact ⟨rfl, (by with_reducible repeat (first | exact Below.refl _ _ | assumption | refine below_step ?_ (by assumption) | refine Below.drew ?_ | refine below_drewN ?_ _ | refine below_alloc ?_ _ | refine Below.setCell ?_ (by simp; try omega) _))⟩

set_option maxRecDepth 100000 in
set_option maxHeartbeats 600000 in
theorem markExtentEntry_any (a0 : Int) (a1 : ByteArray) (a2 : Int) (a3 : Int) (A4 : Option Addr) (c4 : Nat) (l4 : List Int) (k : Nat) (w : World) (base : Nat) (h : w.ownsRow base 2 1 (.slice A4 l4.length c4) l4.length (flat fI l4)) (hk1 : 1 ≤ k) (hk2 : k ≤ 10000000000) (hl : l4.length ≤ 10000000000) :
    Calls Tryd.prog 16 #[.agg #[.int .i64 a0, .string a1, .int .i64 a2, .int .i64 a3, .slice A4 l4.length c4], .int .i64 (k : Int)] w fun e w' => e = .returned (.int .i64 ((k + l4.length : Nat) : Int)) ∧ w'.ownsRow base 2 1 (.slice A4 l4.length c4) l4.length (flat fI (mksInt64 k l4.length)) ∧ w.grownBy w' (Value.slice A4 l4.length c4).ownBlock := by
  go_enter Tryd.func16, Tryd.ntmps16
  go_wp2_with (go_at_call 33; refine (markInt64S_any A4 c4 k l4 _ base (World.ownsRow.alloc h _) hk1 hk2 hl).mono ?_; rintro e w1 ⟨rfl, ho, hg⟩)
  go_ret
  exact ⟨rfl, ho, (World.grownBy_alloc w _ _).trans hg⟩

set_option maxRecDepth 100000 in
set_option maxHeartbeats 600000 in
theorem heldExtentEntry_any (a0 : Int) (a1 : ByteArray) (a2 : Int) (a3 : Int) (A : Option Addr) (c k n : Nat) (w : World) (h : Rd w w.heap.size 1 A n (flat fI (mksInt64 k n))) (hk1 : 1 ≤ k) (hk2 : k ≤ 10000000000) (hl : n ≤ 10000000000) :
    Calls Tryd.prog 17 #[.agg #[.int .i64 a0, .string a1, .int .i64 a2, .int .i64 a3, .slice A n c], .int .i64 (k : Int)] w fun e w' => e = .returned (.int .i64 ((k + n : Nat) : Int)) ∧ Below w.heap.size w w' := by
  go_enter Tryd.func17, Tryd.ntmps17
  go_wp2_with (go_at_call 34; refine (heldInt64S_any A c k n _ ((h.below (by with_reducible repeat (first | exact Below.refl _ _ | assumption | refine below_step ?_ (by assumption) | refine Below.drew ?_ | refine below_drewN ?_ _ | refine below_alloc ?_ _ | refine Below.setCell ?_ (by simp; try omega) _))).more (by first | omega | (simp; done) | (simp; omega))) hk1 hk2 hl).mono ?_; rintro e w1 ⟨rfl, hx⟩)
  go_ret
  exact ⟨rfl, (by with_reducible repeat (first | exact Below.refl _ _ | assumption | refine below_step ?_ (by assumption) | refine Below.drew ?_ | refine below_drewN ?_ _ | refine below_alloc ?_ _ | refine Below.setCell ?_ (by simp; try omega) _))⟩
end Go.Proofs.YtbhpjoepbmimjaaDoor
namespace Go.Proofs.YtbhpjoepbmimjaaDoor
set_option linter.unusedVariables false
open Go.RowKit Go.ChangeShapes Go.WideShapes Go.Deep

def mksString (k m : Nat) : List ByteArray := (List.range m).map fun i => mtxt (k + i)
theorem mksString_len (k m : Nat) : (mksString k m).length = m := by simp [mksString]
theorem mksString_succ (k m : Nat) : mksString k (m + 1) = mksString k m ++ [mtxt (k + m)] := by simp [mksString, List.range_succ]
theorem mksString_get (k m i : Nat) (h : i < (mksString k m).length) : (mksString k m)[i] = mtxt (k + i) := by simp [mksString]
theorem mksString_put (k m : Nat) (l : List ByteArray) (h : m < l.length) : (flat fS (mksString k m ++ l.drop m)).set m (.string (mtxt (k + m))) = flat fS (mksString k (m + 1) ++ l.drop (m + 1)) := by
  have := flat_put fS 1 fS_len (mksString k m) (l.drop (m + 1)) l[m] (mtxt (k + m))
  rw [mksString_len, Nat.mul_one] at this
  rw [List.drop_eq_getElem_cons h, mksString_succ, List.append_assoc]
  exact this
set_option maxRecDepth 100000 in
set_option maxHeartbeats 1000000 in
theorem markStringS_any (A : Option Addr) (c k : Nat) (l : List ByteArray) (w : World) (base : Nat) (h : w.ownsRow base 9 1 (.slice A l.length c) l.length (flat fS l)) (hk1 : 1 ≤ k) (hk2 : k ≤ 10000000000) (hl : l.length ≤ 10000000000) :
    Calls Tryd.prog 15 #[.slice A l.length c, .int .i64 (k : Int)] w fun e w' => e = .returned (.int .i64 ((k + 1 * l.length : Nat) : Int)) ∧ w'.ownsRow base 9 1 (.slice A l.length c) l.length (flat fS (mksString k l.length)) ∧ w.grownBy w' (Value.slice A l.length c).ownBlock := by
  go_enter Tryd.func15, Tryd.ntmps15
  go_wp2
  go_loopw [1, 5] (fun kk i wr => ∃ m q : Nat, m ≤ l.length ∧ k + m = q ∧ i = .int .i64 m ∧ kk = .int .i64 q ∧ wr.ownsRow base 9 1 (.slice A l.length c) l.length (flat fS (mksString k m ++ l.drop m)) ∧ w.grownBy wr (Value.slice A l.length c).ownBlock) (fun _ i _ => l.length - (intOf i).toNat)
  case atStart => exact ⟨0, k, Nat.zero_le _, by omega, rfl, rfl, h, World.grownBy.refl _ _⟩
  case round =>
    obtain ⟨m, q, hm, hq, rfl, rfl, ho, hg⟩ := hrel
    by_cases hlt : m < l.length
    · obtain ⟨g, cap, hv⟩ := Go.Joins.ownsRow_form ho (by omega)
      cases hv
      have hput := mksString_put k m l hlt
      rw [hq] at hput
      have hm0 := fun W => markText_any q W (by omega) (by omega)
      go_wp2_with (go_at_call 32; refine (hm0 _).mono ?_; rintro e w10 ⟨rfl, hx⟩; replace hg := hg.trans (only_of_below hx _); replace ho := own_later ho hx (Nat.le_refl _); obtain ⟨u0, hu0⟩ := own_some ho m (by omega); have hz0 := World.ownsRow.frozenAt ho m)
      go_roundw
      case rel =>
        refine ⟨m + 1, q + 1, by omega, by omega, by go_num, by go_num, ?_, hg.trans (World.ownsRow.stored ho _ _).2⟩
        rw [← hput]
        exact (World.ownsRow.stored ho _ _).1
      case measure => (simp [intOf] <;> omega)
    · obtain rfl : m = l.length := by omega
      rw [List.drop_length, List.append_nil] at ho
      go_wp2
      go_ret
      exact ⟨ret_int (by omega), ho, hg⟩
set_option maxRecDepth 100000 in
set_option maxHeartbeats 1000000 in
theorem heldStringS_any (A : Option Addr) (c k n : Nat) (w : World) (h : Rd w w.heap.size 1 A n (flat fS (mksString k n))) (hk1 : 1 ≤ k) (hk2 : k ≤ 10000000000) (hl : n ≤ 10000000000) :
    Calls Tryd.prog 20 #[.slice A n c, .int .i64 (k : Int)] w fun e w' => e = .returned (.int .i64 ((k + 1 * n : Nat) : Int)) ∧ Below w.heap.size w w' := by
  go_enter Tryd.func20, Tryd.ntmps20
  go_wp2
  go_loopw [1, 5] (fun kk i wr => ∃ i' q : Nat, i' ≤ n ∧ k + i' = q ∧ i = .int .i64 i' ∧ kk = .int .i64 q ∧ Below w.heap.size w wr) (fun _ i _ => n - (intOf i).toNat)
  case atStart => exact ⟨0, k, Nat.zero_le _, by omega, rfl, rfl, Below.refl _ _⟩
  case round =>
    obtain ⟨i, q, hi, hq, rfl, rfl, hb⟩ := hrel
    by_cases hlt : i < n
    · obtain ⟨b, off, rfl, hbb, hc⟩ := h.at_ fS_len (mksString_len k n).symm i hlt
      have hc0 := hc 0 (.string (mtxt q)) (by omega) (by rw [mksString_get, hq]; rfl)
      clear hc
      simp only [Nat.mul_one, Nat.add_zero] at hc0
      have hm0 := fun W => markText_any q W (by omega) (by omega)
      obtain ⟨hcb, hfb⟩ := bcell hb
      have hr0 := (hb.cell (p := ⟨b, off + i, none⟩) hbb).trans hc0
      go_wp2_with fail
      go_region_held3 (fun W => Below w.heap.size w W ∧ W.cell? ⟨b, off + i, none⟩ = some (.string (mtxt q))) (first | exact keepS hc0 hbb (Below.drew hb) | exact keepS hc0 hbb (below_step (Below.drew hb) hx)) (first | (go_at_call 32; refine (hm0 _).mono ?_; rintro e w0 ⟨rfl, hx⟩))
      replace hb := below_step (Below.drew hb) hx
      clear hcb hfb
      obtain ⟨hcb, hfb⟩ := bcell hb
      go_wp2
      go_roundw
      case rel => exact ⟨i + 1, q + 1, by omega, by omega, by go_num, by go_num, hb⟩
      case measure => (simp [intOf] <;> omega)
    · obtain rfl : i = n := by omega
      go_wp2
      go_ret
      exact ⟨ret_int (by omega), hb⟩
end Go.Proofs.YtbhpjoepbmimjaaDoor
