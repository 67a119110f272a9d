/- Walks: PackBytes of impl. -/
import Derived.Test.YtjjcedodjoieoaaW26
import Derived.StillTailTactics
namespace Go.Proofs.Ytjjcedodjoieoaa
open Go.RowKit
set_option linter.unusedVariables false

theorem pl_step (s : ByteArray) (f to n : Nat) (l R : List UInt8) (h : f < to) (hto : to ≤ s.size) (hn : n = min (to - f) 128) (hr : l ++ plL (seg s f to) = R) :
    ((l ++ [UInt8.ofNat (n - 1)]) ++ (s.extract f (f + n)).data.toList) ++ plL (seg s (f + n) to) = R := by
  have hl := seg_length s f to hto
  rw [plL_step (seg s f to) n (by omega) (by rw [hl]; exact hn), seg_take s f to n (by omega), seg_drop s f to n (by omega)] at hr
  rw [← hr]
  simp [seg]

theorem own_slice {w : World} {base : Nat} {e : TypeId} {v : Value} {l : List UInt8} (h : OwnB w base e v l) : ∃ A m c, v = .slice A m c := by
  obtain ⟨A, c, h⟩ := OwnB.form h
  exact ⟨A, _, c, h⟩

/-- The cells that the closure shares with its maker. -/
def Shares (w : World) (bs bo bf : Nat) (s : ByteArray) (v : Value) (f : Nat) : Prop := Blk w bs 9 #[.string s] ∧ Blk w bo 102 #[v] ∧ Blk w bf 3 #[.int .i64 (f : Int)]

set_option maxRecDepth 100000 in
set_option maxHeartbeats 1000000 in
theorem flush_any (s : ByteArray) (bs bo bf f to : Nat) (out : List UInt8) (v : Value) (w : World) (base : Nat) (h1 : bs < bo) (h2 : bo < bf) (h3 : bf < base) (hbase : base ≤ w.heap.size)
    (hS : Shares w bs bo bf s v f) (hown : OwnB w base 5 v out) (hs : s.size ≤ 4096) (hol : out.length ≤ 100000) (hft : f ≤ to) (hto : to ≤ s.size) :
    Calls Try.prog 101 #[.int .i64 (to : Int), .pointer (some ⟨bf, 0, none⟩), .pointer (some ⟨bo, 0, none⟩), .pointer (some ⟨bs, 0, none⟩)] w fun e w' => e = .returned (.tuple #[]) ∧ ∃ v', Shares w' bs bo bf s v' to ∧ OwnB w' base 5 v' (out ++ plL (seg s f to)) ∧ Below bo w w' ∧ base ≤ w'.heap.size := by
  go_enter Try.func101, Try.ntmps101
  go_wp2
  go_loopw [5] (fun _ wr => ∃ (f' : Nat) (out' : List UInt8) (v' : Value), f ≤ f' ∧ f' ≤ to ∧ out'.length ≤ 100000 + 2 * (f' - f) ∧ Shares wr bs bo bf s v' f' ∧ OwnB wr base 5 v' out' ∧ Below bo w wr ∧ base ≤ wr.heap.size ∧ Hid (out' ++ plL (seg s f' to) = out ++ plL (seg s f to)))
    (fun _ wr => to - (match wr.cell? ⟨bf, 0, none⟩ with | some (.int _ n) => n.toNat | _ => 0))
  case atStart => exact ⟨f, out, v, by omega, hft, by omega, hS, hown, Below.refl _ _, hbase, Lib.hid rfl⟩
  case round =>
    obtain ⟨f', out', v', hf1, hf2, hol', ⟨hbs, hbo, hbf⟩, ho, hb, hbz, HI⟩ := hrel
    have cs := hbs.cell 0
    have co := hbo.cell 0
    have cf := hbf.cell 0
    simp only [List.getElem?_toArray, List.getElem?_cons_zero] at cs co cf
    have cf0 := cf
    have zo := hbo.frozen 0
    have zf := hbf.frozen 0
    by_cases hlt : f' < to
    · by_cases hmin : (to : Int) - f' ≤ 128
      · have HN := Lib.hid (pl_step s f' to (to - f') out' _ hlt hto (by omega) HI.out)
        have hn1 : 0 < (to - f') := by omega
        have hn2 : (to - f') ≤ 128 := by omega
        have hn3 : f' + (to - f') ≤ to := by omega
        have hn4 : f' + (to - f') ≤ s.size := by omega
        obtain ⟨e, hE⟩ : ∃ e : Nat, e = f' + (to - f') := ⟨_, rfl⟩
        rw [← hE] at HN
        have hw1 : IntKind.i64.wrap ((f' : Int) + ((to : Int) - f')) = (e : Int) := by rw [IntWalk.i64_in _ (by omega)]; omega
        have he1 : f' ≤ e := by omega
        have he2 : e ≤ s.size := by omega
        have he3 : (e : Int) ≤ s.size := by omega
        have hee := extsz s f' e he2
        have HE := Lib.hid hE
        clear hE
        have hne1 : ¬ bo = bf := by omega
        have hne2 : ¬ bf = bo := by omega
        go_wp2_with (first
          | fail
          | (at_builtin; go_must (refine wpList_appL rfl _ _ _ rfl eltB _ out' rfl ho _ _ [UInt8.ofNat ((to - f') - 1)] 1 1 rfl (impl_cells1 ((to - f') - 1) _ (by omega) (by omega)) rfl (by simp; omega) hbz ?_; intro v1 w2 ho1 hg1 hat1 hbl1; obtain ⟨A1, m1, c1, rfl⟩ := own_slice ho1; have hbs1 := hbs.below hbl1 (by omega); have hbo1 := hbo.below hbl1 (by omega); have hbf1 := hbf.below hbl1 h3; have co1 := hbo1.cell 0; simp only [List.getElem?_toArray, List.getElem?_cons_zero] at co1; have zo1 := hbo1.frozen 0)))
        have hbs2 := hbs1.far (p := ⟨bo, 0, none⟩) (by show bs ≠ bo; omega) (.slice A1 m1 c1)
        have hbo2 := hbo1.set_ 0 (.slice A1 m1 c1)
        have hbf2 := hbf1.far (p := ⟨bo, 0, none⟩) (by show bf ≠ bo; omega) (.slice A1 m1 c1)
        have ho2 : OwnB (w2.setCell ⟨bo, 0, none⟩ (.slice A1 m1 c1)) base 5 (.slice A1 m1 c1) (out' ++ [UInt8.ofNat ((to - f') - 1)]) := ownsRow_setCell_below ho1 (by show bo < base; omega) (.slice A1 m1 c1)
        have hb2 : Below bo w (w2.setCell ⟨bo, 0, none⟩ (.slice A1 m1 c1)) := (hb.trans (hbl1.mono (by omega))).setCell (p := ⟨bo, 0, none⟩) (Nat.le_refl bo) (.slice A1 m1 c1)
        have hbz2 : base ≤ (w2.setCell ⟨bo, 0, none⟩ (.slice A1 m1 c1)).heap.size := by rw [World.size_setCell]; exact Nat.le_trans hbz hbl1.size
        simp only [List.setIfInBounds_toArray, List.set_cons_zero] at hbo2
        clear hbs1 hbo1 hbf1 co1 zo1 ho1 hg1 hbl1 hbs hbo hbf cs co cf zo zf hb ho
        generalize w2.setCell ⟨bo, 0, none⟩ (.slice A1 m1 c1) = w3 at hbs2 hbo2 hbf2 ho2 hb2 hbz2 ⊢
        have cs := hbs2.cell 0
        have co := hbo2.cell 0
        have cf := hbf2.cell 0
        simp only [List.getElem?_toArray, List.getElem?_cons_zero] at cs co cf
        go_still_tail 7, (by kernel_rfl)
        change wpList _ _ _ _ _ w3.drew
        replace hbs2 := hbs2.drew
        replace hbo2 := hbo2.drew
        replace hbf2 := hbf2.drew
        replace ho2 : OwnB w3.drew base 5 (.slice A1 m1 c1) (out' ++ [UInt8.ofNat ((to - f') - 1)]) := ho2
        replace hb2 := hb2.drew
        replace hbz2 : base ≤ w3.drew.heap.size := hbz2
        clear cs co cf
        generalize w3.drew = w4 at hbs2 hbo2 hbf2 ho2 hb2 hbz2 ⊢
        refine wpList_appS rfl _ _ _ _ rfl eltB Try.underlying9 _ (out' ++ [UInt8.ofNat ((to - f') - 1)]) rfl ho2 (s.extract f' e) rfl (by rw [hee]; simp; omega) hbz2 ?_
        intro v2 w5 ho3 hg3 hat3 hbl3
        obtain ⟨A2, m2, c2, rfl⟩ := own_slice ho3
        have hbs3 := hbs2.below hbl3 (by omega)
        have hbo3 := hbo2.below hbl3 (by omega)
        have hbf3 := hbf2.below hbl3 h3
        have co := hbo3.cell 0
        have cf := hbf3.cell 0
        simp only [List.getElem?_toArray, List.getElem?_cons_zero] at co cf
        have zo := hbo3.frozen 0
        have zf := hbf3.frozen 0
        go_wp2
        have hw6a := (hbs3.far (p := ⟨bo, 0, none⟩) (by show bs ≠ bo; omega) (.slice A2 m2 c2)).far (p := ⟨bf, 0, none⟩) (by show bs ≠ bf; omega) (.int .i64 (e : Int))
        have hw6b := (hbo3.set_ 0 (.slice A2 m2 c2)).far (p := ⟨bf, 0, none⟩) (by show bo ≠ bf; omega) (.int .i64 (e : Int))
        have hw6c := (hbf3.far (p := ⟨bo, 0, none⟩) (by show bf ≠ bo; omega) (.slice A2 m2 c2)).set_ 0 (.int .i64 (e : Int))
        simp only [List.setIfInBounds_toArray, List.set_cons_zero] at hw6b hw6c
        have ho6 := ownsRow_setCell_below (a := ⟨bf, 0, none⟩) (ownsRow_setCell_below (a := ⟨bo, 0, none⟩) ho3 (by show bo < base; omega) (.slice A2 m2 c2)) (by show bf < base; omega) (.int .i64 (e : Int))
        have hb6 := ((hb2.trans (hbl3.mono (by omega))).setCell (p := ⟨bo, 0, none⟩) (Nat.le_refl bo) (.slice A2 m2 c2)).setCell (p := ⟨bf, 0, none⟩) (by show bo ≤ bf; omega) (.int .i64 (e : Int))
        have hz6 : base ≤ ((w5.setCell ⟨bo, 0, none⟩ (.slice A2 m2 c2)).setCell ⟨bf, 0, none⟩ (.int .i64 (e : Int))).heap.size := by rw [World.size_setCell, World.size_setCell]; exact Nat.le_trans hbz2 hbl3.size
        have hc6 := hw6c.cell 0
        simp only [List.getElem?_toArray, List.getElem?_cons_zero] at hc6
        have hle : e ≤ to := by have := HE.out; omega
        have hl6 : ((out' ++ [UInt8.ofNat ((to - f') - 1)]) ++ (s.extract f' e).data.toList).length ≤ 100000 + 2 * (e - f) := by
          rw [List.length_append, List.length_append, size_list', hee, List.length_singleton]
          have := HE.out
          omega
        go_roundw
        case rel => exact ⟨e, _, _, by omega, hle, hl6, ⟨hw6a, hw6b, hw6c⟩, ho6, hb6, hz6, HN⟩
        case measure =>
          have := HE.out
          simp only [hc6, cf0, Int.toNat_natCast]
          omega
      · have HN := Lib.hid (pl_step s f' to 128 out' _ hlt hto (by omega) HI.out)
        have hn1 : 0 < 128 := by omega
        have hn2 : 128 ≤ 128 := by omega
        have hn3 : f' + 128 ≤ to := by omega
        have hn4 : f' + 128 ≤ s.size := by omega
        obtain ⟨e, hE⟩ : ∃ e : Nat, e = f' + 128 := ⟨_, rfl⟩
        rw [← hE] at HN
        have hw1 : IntKind.i64.wrap ((f' : Int) + 128) = (e : Int) := by rw [IntWalk.i64_in _ (by omega)]; omega
        have he1 : f' ≤ e := by omega
        have he2 : e ≤ s.size := by omega
        have he3 : (e : Int) ≤ s.size := by omega
        have hee := extsz s f' e he2
        have HE := Lib.hid hE
        clear hE
        have hne1 : ¬ bo = bf := by omega
        have hne2 : ¬ bf = bo := by omega
        go_wp2_with (first
          | fail
          | (at_builtin; go_must (refine wpList_appL rfl _ _ _ rfl eltB _ out' rfl ho _ _ [UInt8.ofNat (128 - 1)] 1 1 rfl (impl_cells1 (128 - 1) _ (by omega) (by omega)) rfl (by simp; omega) hbz ?_; intro v1 w2 ho1 hg1 hat1 hbl1; obtain ⟨A1, m1, c1, rfl⟩ := own_slice ho1; have hbs1 := hbs.below hbl1 (by omega); have hbo1 := hbo.below hbl1 (by omega); have hbf1 := hbf.below hbl1 h3; have co1 := hbo1.cell 0; simp only [List.getElem?_toArray, List.getElem?_cons_zero] at co1; have zo1 := hbo1.frozen 0)))
        have hbs2 := hbs1.far (p := ⟨bo, 0, none⟩) (by show bs ≠ bo; omega) (.slice A1 m1 c1)
        have hbo2 := hbo1.set_ 0 (.slice A1 m1 c1)
        have hbf2 := hbf1.far (p := ⟨bo, 0, none⟩) (by show bf ≠ bo; omega) (.slice A1 m1 c1)
        have ho2 : OwnB (w2.setCell ⟨bo, 0, none⟩ (.slice A1 m1 c1)) base 5 (.slice A1 m1 c1) (out' ++ [UInt8.ofNat (128 - 1)]) := ownsRow_setCell_below ho1 (by show bo < base; omega) (.slice A1 m1 c1)
        have hb2 : Below bo w (w2.setCell ⟨bo, 0, none⟩ (.slice A1 m1 c1)) := (hb.trans (hbl1.mono (by omega))).setCell (p := ⟨bo, 0, none⟩) (Nat.le_refl bo) (.slice A1 m1 c1)
        have hbz2 : base ≤ (w2.setCell ⟨bo, 0, none⟩ (.slice A1 m1 c1)).heap.size := by rw [World.size_setCell]; exact Nat.le_trans hbz hbl1.size
        simp only [List.setIfInBounds_toArray, List.set_cons_zero] at hbo2
        clear hbs1 hbo1 hbf1 co1 zo1 ho1 hg1 hbl1 hbs hbo hbf cs co cf zo zf hb ho
        generalize w2.setCell ⟨bo, 0, none⟩ (.slice A1 m1 c1) = w3 at hbs2 hbo2 hbf2 ho2 hb2 hbz2 ⊢
        have cs := hbs2.cell 0
        have co := hbo2.cell 0
        have cf := hbf2.cell 0
        simp only [List.getElem?_toArray, List.getElem?_cons_zero] at cs co cf
        go_still_tail 7, (by kernel_rfl)
        change wpList _ _ _ _ _ w3.drew
        replace hbs2 := hbs2.drew
        replace hbo2 := hbo2.drew
        replace hbf2 := hbf2.drew
        replace ho2 : OwnB w3.drew base 5 (.slice A1 m1 c1) (out' ++ [UInt8.ofNat (128 - 1)]) := ho2
        replace hb2 := hb2.drew
        replace hbz2 : base ≤ w3.drew.heap.size := hbz2
        clear cs co cf
        generalize w3.drew = w4 at hbs2 hbo2 hbf2 ho2 hb2 hbz2 ⊢
        refine wpList_appS rfl _ _ _ _ rfl eltB Try.underlying9 _ (out' ++ [UInt8.ofNat (128 - 1)]) rfl ho2 (s.extract f' e) rfl (by rw [hee]; simp; omega) hbz2 ?_
        intro v2 w5 ho3 hg3 hat3 hbl3
        obtain ⟨A2, m2, c2, rfl⟩ := own_slice ho3
        have hbs3 := hbs2.below hbl3 (by omega)
        have hbo3 := hbo2.below hbl3 (by omega)
        have hbf3 := hbf2.below hbl3 h3
        have co := hbo3.cell 0
        have cf := hbf3.cell 0
        simp only [List.getElem?_toArray, List.getElem?_cons_zero] at co cf
        have zo := hbo3.frozen 0
        have zf := hbf3.frozen 0
        go_wp2
        have hw6a := (hbs3.far (p := ⟨bo, 0, none⟩) (by show bs ≠ bo; omega) (.slice A2 m2 c2)).far (p := ⟨bf, 0, none⟩) (by show bs ≠ bf; omega) (.int .i64 (e : Int))
        have hw6b := (hbo3.set_ 0 (.slice A2 m2 c2)).far (p := ⟨bf, 0, none⟩) (by show bo ≠ bf; omega) (.int .i64 (e : Int))
        have hw6c := (hbf3.far (p := ⟨bo, 0, none⟩) (by show bf ≠ bo; omega) (.slice A2 m2 c2)).set_ 0 (.int .i64 (e : Int))
        simp only [List.setIfInBounds_toArray, List.set_cons_zero] at hw6b hw6c
        have ho6 := ownsRow_setCell_below (a := ⟨bf, 0, none⟩) (ownsRow_setCell_below (a := ⟨bo, 0, none⟩) ho3 (by show bo < base; omega) (.slice A2 m2 c2)) (by show bf < base; omega) (.int .i64 (e : Int))
        have hb6 := ((hb2.trans (hbl3.mono (by omega))).setCell (p := ⟨bo, 0, none⟩) (Nat.le_refl bo) (.slice A2 m2 c2)).setCell (p := ⟨bf, 0, none⟩) (by show bo ≤ bf; omega) (.int .i64 (e : Int))
        have hz6 : base ≤ ((w5.setCell ⟨bo, 0, none⟩ (.slice A2 m2 c2)).setCell ⟨bf, 0, none⟩ (.int .i64 (e : Int))).heap.size := by rw [World.size_setCell, World.size_setCell]; exact Nat.le_trans hbz2 hbl3.size
        have hc6 := hw6c.cell 0
        simp only [List.getElem?_toArray, List.getElem?_cons_zero] at hc6
        have hle : e ≤ to := by have := HE.out; omega
        have hl6 : ((out' ++ [UInt8.ofNat (128 - 1)]) ++ (s.extract f' e).data.toList).length ≤ 100000 + 2 * (e - f) := by
          rw [List.length_append, List.length_append, size_list', hee, List.length_singleton]
          have := HE.out
          omega
        go_roundw
        case rel => exact ⟨e, _, _, by omega, hle, hl6, ⟨hw6a, hw6b, hw6c⟩, ho6, hb6, hz6, HN⟩
        case measure =>
          have := HE.out
          simp only [hc6, cf0, Int.toNat_natCast]
          omega
    · obtain rfl : f' = to := by omega
      have hsn : seg s f' f' = [] := List.eq_nil_of_length_eq_zero (by rw [seg_length s _ _ hto]; omega)
      have HR := Lib.hid (show out' = out ++ plL (seg s f f') from by rw [← HI.out, hsn, plL_nil, List.append_nil])
      go_wp2
      go_end0
      exact ⟨rfl, v', ⟨hbs, hbo, hbf⟩, by rw [← HR.out]; exact ho, hb, hbz⟩
end Go.Proofs.Ytjjcedodjoieoaa
