/- Walks: the texts W80s W80 W81 Put W83 W84 W85 W89 W87 W92 W94 W79 OrdM DvM as one text. -/
import Derived.Test.YtcfeelecfmepaaaSSector
import Derived.Test.YtcfeelecfmepaaaMark
import Derived.Test.YtcfeelecfmepaaaW77
import Derived.Test.YtcfeelecfmepaaaW32
import Derived.Test.YtcfeelecfmepaaaQB
import Derived.Test.YtcfeelecfmepaaaW33
import Derived.Test.YtcfeelecfmepaaaW61
import Derived.Test.YtcfeelecfmepaaaStep
import Derived.Test.YtcfeelecfmepaaaMem5
import Derived.Test.YtcfeelecfmepaaaSDisc
import Derived.Deep.RegionHeld3
import Derived.Deep.DeepCutAuto
import Derived.Test.YtcfeelecfmepaaaW73
import Derived.Test.YtcfeelecfmepaaaW31
import Derived.Test.YtcfeelecfmepaaaW78
import Derived.Test.YtcfeelecfmepaaaSString
import Derived.Test.YtcfeelecfmepaaaW70
namespace Go.Proofs.Ytcfeelecfmepaaa
set_option linter.unusedVariables false
open Go.RowKit

theorem setS (l : List DSector) (k : Nat) (hk : k < l.length) (y : DSector) : putV (flat fSector l) (k * 2) (fSector y) = flat fSector (l.set k y) := by
  have := flat_put fSector 2 fSector_len (l.take k) (l.drop (k + 1)) l[k] y
  rw [List.length_take, Nat.min_eq_left (by omega), ← List.drop_eq_getElem_cons hk, List.take_append_drop] at this
  rw [this]
  congr 1
  exact (List.set_eq_take_append_cons_drop.trans (if_pos hk)).symm
end Go.Proofs.Ytcfeelecfmepaaa
namespace Go.Proofs.Ytcfeelecfmepaaa
set_option linter.unusedVariables false
open Go.RowKit

/-- What PutSector answers: d says that the disc is valid, x that the sector is, n is the number of sectors. -/
def ptOk (d x : Bool) (n : Nat) (i : Int) : Bool := d && x && inB i 0 ((n : Int) - 1)
def ptC (d x : Bool) (n : Nat) (i : Int) : Int := if d && x then (if inB i 0 ((n : Int) - 1) then 0 else 2) else 1
def ptN (b : Bool) (v : Int) : Int := if b then v else 0
def ptL (b : Bool) (l : List DSector) (i : Int) (y : DSector) : List DSector := if b then l.set i.toNat y else []
theorem ptL_len (b : Bool) (l : List DSector) (i : Int) (y : DSector) : (ptL b l i y).length ≤ l.length := by
  unfold ptL
  split <;> simp
theorem pt_1 {x : Bool} {n : Nat} {i : Int} : ptOk false x n i = false ∧ ptC false x n i = 1 := by simp [ptOk, ptC]
theorem pt_2 {n : Nat} {i : Int} : ptOk true false n i = false ∧ ptC true false n i = 1 := by simp [ptOk, ptC]
theorem pt_3 {n : Nat} {i : Int} (g : inB i 0 ((n : Int) - 1) = false) : ptOk true true n i = false ∧ ptC true true n i = 2 := by simp [ptOk, ptC, g]
theorem pt_4 {n : Nat} {i : Int} (g : inB i 0 ((n : Int) - 1) = true) : ptOk true true n i = true ∧ ptC true true n i = 0 := by simp [ptOk, ptC, g]
end Go.Proofs.Ytcfeelecfmepaaa
namespace Go.Proofs.Ytcfeelecfmepaaa
set_option linter.unusedVariables false
open Go.RowKit

end Go.Proofs.Ytcfeelecfmepaaa
namespace Go.Proofs.Ytcfeelecfmepaaa
set_option linter.unusedVariables false
open Go.RowKit

theorem BX.cp {w : World} {g : Nat} {t : TypeId} {vs : List Value} (h : BX w g t vs) : CP w g vs := fun j hj => h.cell j hj
theorem BB.put {w W : World} (h : BB w W) {a : Addr} (ha : w.heap.size ≤ a.block) (u : Value) : BB w (W.setCell a u) := Below.setCell h ha u
theorem OO.put {w : World} {base size n : Nat} {e : TypeId} {v : Value} {xs : List Value} (h : OO w base e size v n xs) {a : Addr} (ha : a.block < base) (u : Value) : OO (w.setCell a u) base e size v n xs := ownsRow_setCell_below h ha u
theorem OO.base {w : World} {base base' size n : Nat} {e : TypeId} {v : Value} {xs : List Value} (h : OO w base e size v n xs) (hb : base' ≤ base) : OO w base' e size v n xs := own_base h hb
theorem OO.putne {w : World} {base size n : Nat} {e : TypeId} {v : Value} {xs : List Value} (h : OO w base e size v n xs) {a : Addr} (ha : v.ownBlock ≠ some a.block) (u : Value) : OO (w.setCell a u) base e size v n xs := by
  obtain ⟨h1, h2⟩ := h
  refine ⟨h1, ?_⟩
  rcases h2 with h2 | ⟨g, cap, cur, hv, hg, hh, r⟩
  · exact .inl h2
  · refine .inr ⟨g, cap, cur, hv, hg, (Below.heap_setCell _ _ _ _ (fun e => ha ?_)).trans hh, r⟩
    subst hv
    rw [← e]
    rfl
theorem OO.ne_old {w' : World} {base size n g : Nat} {e : TypeId} {v : Value} {xs : List Value} (h : OO w' base e size v n xs) (hg : g < base) : v.ownBlock ≠ some g := fun hv => by
  have := (World.ownsRow.lt h g hv).1
  omega
end Go.Proofs.Ytcfeelecfmepaaa
namespace Go.Proofs.Ytcfeelecfmepaaa
set_option linter.unusedVariables false
open Go.RowKit

end Go.Proofs.Ytcfeelecfmepaaa
namespace Go.Proofs.Ytcfeelecfmepaaa
set_option linter.unusedVariables false
open Go.RowKit Go.Deep

theorem fI_one {l : List Int} : ∀ u ∈ flat fI l, u.oneCell' = true := by
  intro u hu
  obtain ⟨x, _, hx⟩ := flat_list fI l u hu
  simp only [fI, List.mem_cons, List.not_mem_nil, or_false] at hx
  rcases hx with rfl
  rfl

set_option maxRecDepth 100000 in
set_option maxHeartbeats 2000000 in
theorem l00Own_any (A : Option Addr) (cp : Nat) (l : List Int) (w : World) (hr : Rd w w.heap.size 1 A l.length (flat fI l)) (hn : l.length ≤ 1048576) :
    Calls Try.prog 63 #[.slice A l.length cp] w fun e w' => ∃ v, e = .returned v ∧ w'.ownsRow w.heap.size 2 1 v l.length (flat fI l) ∧ Below w.heap.size w w' := by
  have hown0 := own_lit0 (e := 2) (size := 1) w w.heap.size (Nat.le_refl _)
  have hr0 := hr.alloc (Nat.le_refl _) (.cells #[] 2)
  go_enter Try.func63, Try.ntmps63
  go_wp2_with (at_builtin; go_must (refine wpList_app _ rfl _ _ _ _ rfl w.heap.size 2 _ 1 8 eltI _ 0 [] rfl hown0 _ l.length (flat fI l) rfl (Src.rd Try.underlying27 hr0 fI_one hr.nil_of) (by unfold maxLen; omega) (by omega) (by rw [World.size_alloc]; omega) ?_); intro v3 w3 hown3 hg3 hat3; rw [Nat.zero_add, List.nil_append] at hown3; have hb3 := below_of_own hown0 (by rw [World.size_alloc]; omega) hg3)
  go_ret
  exact ⟨_, rfl, hown3, (below_alloc (Below.refl _ _) _).trans hb3⟩
set_option maxRecDepth 100000 in
set_option maxHeartbeats 2000000 in
theorem cloneInt_any (A : Option Addr) (cp : Nat) (l : List Int) (w : World) (hr : Rd w w.heap.size 1 A l.length (flat fI l)) (hn : l.length ≤ 1048576) :
    Calls Try.prog 38 #[.slice A l.length cp] w fun e w' => ∃ v, e = .returned v ∧ w'.ownsRow w.heap.size 2 1 v l.length (flat fI l) ∧ Below w.heap.size w w' := by
  have q22 : ∀ (w : World) (a : Option Addr) (n c n' c' : Nat), (binOp .eql 27 (.slice a n c) (.slice none n' c')).run Try.prog w = .ok (.bool a.isNone) w := fun w a n c n' c' => Lib.run_eql_slice_nil w _ _ a n c n' c' Try.underlying27
  rcases A with _ | ad
  · have h0 := hr.none_len
    have hl : l = [] := List.eq_nil_of_length_eq_zero h0
    subst hl
    clear h0
    go_enter Try.func38, Try.ntmps38
    go_wp2
    go_ret
    exact ⟨_, rfl, World.ownsRow_nil _ _ _ _, Below.refl _ _⟩
  · have hown0 := own_lit0 (e := 2) (size := 1) w w.heap.size (Nat.le_refl _)
    have hr0 := hr.alloc (Nat.le_refl _) (.cells #[] 2)
    go_enter Try.func38, Try.ntmps38
    go_wp2_with (at_builtin; go_must (refine wpList_app _ rfl _ _ _ _ rfl w.heap.size 2 _ 1 8 eltI _ 0 [] rfl hown0 _ l.length (flat fI l) rfl (Src.rd Try.underlying27 hr0 fI_one (fun e => by cases e)) (by unfold maxLen; omega) (by omega) (by rw [World.size_alloc]; omega) ?_); intro v3 w3 hown3 hg3 hat3; rw [Nat.zero_add, List.nil_append] at hown3; have hb3 := below_of_own hown0 (by rw [World.size_alloc]; omega) hg3)
    go_ret
    exact ⟨_, rfl, hown3, (below_alloc (Below.refl _ _) _).trans hb3⟩

set_option maxRecDepth 100000 in
set_option maxHeartbeats 2000000 in
theorem l15Own_any (g : Nat) (c h p s : Int) (A : Option Addr) (cp : Nat) (l : List DSector) (k r : Int) (N : Option Addr) (q : Nat) (m : List Int) (w : World) (hd : CP w g [.int .i64 c, .int .i64 h, .int .i64 p, .int .i64 s, .slice A l.length cp, .int .i64 k, .int .i64 r, .slice N m.length q]) (hr : Rd w w.heap.size 2 A l.length (flat fSector l)) (hn : l.length ≤ 1048576) (kr : Rd w w.heap.size 1 N m.length (flat fI m)) (kn : m.length ≤ 1048576) :
    Calls Try.prog 49 #[.pointer (some ⟨g, 0, none⟩)] w fun e w' => ∃ (v4 v7 : Value), e = .returned (.agg #[.int .i64 c, .int .i64 h, .int .i64 p, .int .i64 s, v4, .int .i64 k, .int .i64 r, v7]) ∧ w'.ownsRow w.heap.size 53 2 v4 l.length (flat fSector l) ∧ w'.ownsRow w.heap.size 2 1 v7 m.length (flat fI m) ∧ (v4.ownBlock = none ∨ v4.ownBlock ≠ v7.ownBlock) ∧ Below w.heap.size w w' := by
  have hg := (cell_spot (hd 0 (by simp))).2
  simp only at hg
  have hB : Below w.heap.size w ((w.alloc (.cells #[.int .i64 0, .int .i64 0, .int .i64 0, .int .i64 0, .slice none 0 0, .int .i64 0, .int .i64 0, .slice none 0 0] 29)).drew) := (by with_reducible repeat (first | exact Below.refl _ _ | assumption | refine below_step ?_ (by assumption) | refine Below.drew ?_ | refine below_drewN ?_ _ | refine below_alloc ?_ _ | refine Below.setCell ?_ (by simp; try omega) _))
  have D : CP ((w.alloc (.cells #[.int .i64 0, .int .i64 0, .int .i64 0, .int .i64 0, .slice none 0 0, .int .i64 0, .int .i64 0, .slice none 0 0] 29)).drew) g [.int .i64 c, .int .i64 h, .int .i64 p, .int .i64 s, .slice A l.length cp, .int .i64 k, .int .i64 r, .slice N m.length q] := hd.next hB
  have F : BX ((w.alloc (.cells #[.int .i64 0, .int .i64 0, .int .i64 0, .int .i64 0, .slice none 0 0, .int .i64 0, .int .i64 0, .slice none 0 0] 29)).drew) w.heap.size 29 [.int .i64 0, .int .i64 0, .int .i64 0, .int .i64 0, .slice none 0 0, .int .i64 0, .int .i64 0, .slice none 0 0] := BX.made w 29 [.int .i64 0, .int .i64 0, .int .i64 0, .int .i64 0, .slice none 0 0, .int .i64 0, .int .i64 0, .slice none 0 0]
  have hq1 := l12Own_any g c h p s A cp l _ (CP.disc8 D) ((hr.below hB).more hB.size) hn
  have kr1 := (kr.below hB).more hB.size
  have s_5 : (_ : Option Value) = some (.int .i64 k) := D 5 (by simp)
  have s_6 : (_ : Option Value) = some (.int .i64 r) := D 6 (by simp)
  have s_7 : (_ : Option Value) = some (.slice N m.length q) := D 7 (by simp)
  go_enter Try.func49, Try.ntmps49
  go_wp2_with fail
  go_region_held3 (fun W => W.cell? ⟨g, 5, none⟩ = some (.int .i64 k) ∧ W.cell? ⟨g, 6, none⟩ = some (.int .i64 r) ∧ W.cell? ⟨g, 7, none⟩ = some (.slice N m.length q)) (refine ⟨?_, ?_, ?_⟩ <;> with_reducible assumption) (first
    | (go_at_call 63; refine (l00Own_any N q m _ kr1 kn).mono ?_; rintro e w2 ⟨v7, rfl, ho7, hx2⟩; clear s_5 s_6 s_7; obtain ⟨A7, c7, rfl⟩ := own_form ho7; have hne := own_ne ho4 ho7 (Nat.le_refl _); replace D := D.next hx2; replace hB := hB.trans (hx2.mono (by omega)); replace F := F.below hx2 lt1; replace ho4' := OO.next ho4' hx2; have ho7' : OO _ _ _ _ _ _ _ := own_base (base' := w.heap.size + 1) ho7 (by omega); have z1 := fun j => F.free j; have z_0 : (_ : Option Value) = some (.int .i64 0) := F.cell 0 (by simp); have z_1 : (_ : Option Value) = some (.int .i64 0) := F.cell 1 (by simp); have z_2 : (_ : Option Value) = some (.int .i64 0) := F.cell 2 (by simp); have z_3 : (_ : Option Value) = some (.int .i64 0) := F.cell 3 (by simp); have z_4 : (_ : Option Value) = some (.slice none 0 0) := F.cell 4 (by simp); have z_5 : (_ : Option Value) = some (.int .i64 0) := F.cell 5 (by simp); have z_6 : (_ : Option Value) = some (.int .i64 0) := F.cell 6 (by simp); have z_7 : (_ : Option Value) = some (.slice none 0 0) := F.cell 7 (by simp); have s_5 : (_ : Option Value) = some (.int .i64 k) := D 5 (by simp); have s_6 : (_ : Option Value) = some (.int .i64 r) := D 6 (by simp); have s_7 : (_ : Option Value) = some (.slice N m.length q) := D 7 (by simp); have hgn : g ≠ w.heap.size := (by omega); have Dq := ((((((((D.put (a := ⟨w.heap.size, 0, none⟩) hgn (.int .i64 c)).put (a := ⟨w.heap.size, 1, none⟩) hgn (.int .i64 h)).put (a := ⟨w.heap.size, 2, none⟩) hgn (.int .i64 p)).put (a := ⟨w.heap.size, 3, none⟩) hgn (.int .i64 s)).put (a := ⟨w.heap.size, 4, none⟩) hgn (.slice A4 l.length c4)).put (a := ⟨w.heap.size, 5, none⟩) hgn (.int .i64 k)).put (a := ⟨w.heap.size, 6, none⟩) hgn (.int .i64 r)).put (a := ⟨w.heap.size, 7, none⟩) hgn (.slice A7 m.length c7)); have u_5 : (_ : Option Value) = some (.int .i64 k) := Dq 5 (by simp); have u_6 : (_ : Option Value) = some (.int .i64 r) := Dq 6 (by simp); have u_7 : (_ : Option Value) = some (.slice N m.length q) := Dq 7 (by simp); have P := ((((((((F.put 0 (.int .i64 c)).put 1 (.int .i64 h)).put 2 (.int .i64 p)).put 3 (.int .i64 s)).put 4 (.slice A4 l.length c4)).put 5 (.int .i64 k)).put 6 (.int .i64 r)).put 7 (.slice A7 m.length c7)); have r_0 : (_ : Option Value) = some (.int .i64 c) := P.cell 0 (by simp); have r_1 : (_ : Option Value) = some (.int .i64 h) := P.cell 1 (by simp); have r_2 : (_ : Option Value) = some (.int .i64 p) := P.cell 2 (by simp); have r_3 : (_ : Option Value) = some (.int .i64 s) := P.cell 3 (by simp); have r_4 : (_ : Option Value) = some (.slice A4 l.length c4) := P.cell 4 (by simp); have r_5 : (_ : Option Value) = some (.int .i64 k) := P.cell 5 (by simp); have r_6 : (_ : Option Value) = some (.int .i64 r) := P.cell 6 (by simp); have r_7 : (_ : Option Value) = some (.slice A7 m.length c7) := P.cell 7 (by simp); have oq4 := ((((((((ho4'.put (a := ⟨w.heap.size, 0, none⟩) (by simp) (.int .i64 c)).put (a := ⟨w.heap.size, 1, none⟩) (by simp) (.int .i64 h)).put (a := ⟨w.heap.size, 2, none⟩) (by simp) (.int .i64 p)).put (a := ⟨w.heap.size, 3, none⟩) (by simp) (.int .i64 s)).put (a := ⟨w.heap.size, 4, none⟩) (by simp) (.slice A4 l.length c4)).put (a := ⟨w.heap.size, 5, none⟩) (by simp) (.int .i64 k)).put (a := ⟨w.heap.size, 6, none⟩) (by simp) (.int .i64 r)).put (a := ⟨w.heap.size, 7, none⟩) (by simp) (.slice A7 m.length c7)); have oq7 := ((((((((ho7'.put (a := ⟨w.heap.size, 0, none⟩) (by simp) (.int .i64 c)).put (a := ⟨w.heap.size, 1, none⟩) (by simp) (.int .i64 h)).put (a := ⟨w.heap.size, 2, none⟩) (by simp) (.int .i64 p)).put (a := ⟨w.heap.size, 3, none⟩) (by simp) (.int .i64 s)).put (a := ⟨w.heap.size, 4, none⟩) (by simp) (.slice A4 l.length c4)).put (a := ⟨w.heap.size, 5, none⟩) (by simp) (.int .i64 k)).put (a := ⟨w.heap.size, 6, none⟩) (by simp) (.int .i64 r)).put (a := ⟨w.heap.size, 7, none⟩) (by simp) (.slice A7 m.length c7)); have hBq := (((((((((show BB w _ from hB).put (a := ⟨w.heap.size, 0, none⟩) (Nat.le_refl _) (.int .i64 c)).put (a := ⟨w.heap.size, 1, none⟩) (Nat.le_refl _) (.int .i64 h)).put (a := ⟨w.heap.size, 2, none⟩) (Nat.le_refl _) (.int .i64 p)).put (a := ⟨w.heap.size, 3, none⟩) (Nat.le_refl _) (.int .i64 s)).put (a := ⟨w.heap.size, 4, none⟩) (Nat.le_refl _) (.slice A4 l.length c4)).put (a := ⟨w.heap.size, 5, none⟩) (Nat.le_refl _) (.int .i64 k)).put (a := ⟨w.heap.size, 6, none⟩) (Nat.le_refl _) (.int .i64 r)).put (a := ⟨w.heap.size, 7, none⟩) (Nat.le_refl _) (.slice A7 m.length c7)))
    | (go_at_call 45; refine hq1.mono ?_; rintro e w1 ⟨v4, rfl, ho4, hx1⟩; clear s_5 s_6 s_7; obtain ⟨A4, c4, rfl⟩ := own_form ho4; replace D := D.next hx1; replace kr1 := (kr1.below hx1).more hx1.size; replace hB := hB.trans (hx1.mono (by simp)); replace F := F.below hx1 F.lt; have ho4' : OO _ _ _ _ _ _ _ := own_base (base' := w.heap.size + 1) ho4 (by simp); have s_5 : (_ : Option Value) = some (.int .i64 k) := D 5 (by simp); have s_6 : (_ : Option Value) = some (.int .i64 r) := D 6 (by simp); have s_7 : (_ : Option Value) = some (.slice N m.length q) := D 7 (by simp); have lt1 := F.lt))
  go_wp2
  refine bodyPost_ret (v := .agg #[.int .i64 c, .int .i64 h, .int .i64 p, .int .i64 s, .slice A4 l.length c4, .int .i64 k, .int .i64 r, .slice A7 m.length c7]) (by simp [results, Try.results49, go_sem, r_0, r_1, r_2, r_3, r_4, r_5, r_6, r_7]) rfl ⟨_, _, rfl, ?_, ?_, hne, ?_⟩
  · exact own_base oq4 (by omega)
  · exact own_base oq7 (by omega)
  · exact hBq
set_option maxRecDepth 100000 in
set_option maxHeartbeats 2000000 in
theorem cloneDevice_any (c h p s : Int) (A : Option Addr) (cp : Nat) (l : List DSector) (k r : Int) (N : Option Addr) (q : Nat) (m : List Int) (w : World) (hr : Rd w w.heap.size 2 A l.length (flat fSector l)) (hn : l.length ≤ 1048576) (kr : Rd w w.heap.size 1 N m.length (flat fI m)) (kn : m.length ≤ 1048576) :
    Calls Try.prog 22 #[.agg #[.int .i64 c, .int .i64 h, .int .i64 p, .int .i64 s, .slice A l.length cp, .int .i64 k, .int .i64 r, .slice N m.length q]] w fun e w' => ∃ (v4 v7 : Value), e = .returned (.agg #[.int .i64 c, .int .i64 h, .int .i64 p, .int .i64 s, v4, .int .i64 k, .int .i64 r, v7]) ∧ w'.ownsRow w.heap.size 53 2 v4 l.length (flat fSector l) ∧ w'.ownsRow w.heap.size 2 1 v7 m.length (flat fI m) ∧ (v4.ownBlock = none ∨ v4.ownBlock ≠ v7.ownBlock) ∧ Below w.heap.size w w' := by
  have F0 := (BX.made w 29 [.int .i64 c, .int .i64 h, .int .i64 p, .int .i64 s, .slice A l.length cp, .int .i64 k, .int .i64 r, .slice N m.length q]).al (.cells #[.int .i64 0, .int .i64 0, .int .i64 0, .int .i64 0, .slice none 0 0, .int .i64 0, .int .i64 0, .slice none 0 0] 29)
  have F1 := BX.made1 w (.cells #[.int .i64 c, .int .i64 h, .int .i64 p, .int .i64 s, .slice A l.length cp, .int .i64 k, .int .i64 r, .slice N m.length q] 29) 29 [.int .i64 0, .int .i64 0, .int .i64 0, .int .i64 0, .slice none 0 0, .int .i64 0, .int .i64 0, .slice none 0 0]
  have hB : Below w.heap.size w ((w.alloc (.cells #[.int .i64 c, .int .i64 h, .int .i64 p, .int .i64 s, .slice A l.length cp, .int .i64 k, .int .i64 r, .slice N m.length q] 29)).alloc (.cells #[.int .i64 0, .int .i64 0, .int .i64 0, .int .i64 0, .slice none 0 0, .int .i64 0, .int .i64 0, .slice none 0 0] 29)) := (by with_reducible repeat (first | exact Below.refl _ _ | assumption | refine below_step ?_ (by assumption) | refine Below.drew ?_ | refine below_drewN ?_ _ | refine below_alloc ?_ _ | refine Below.setCell ?_ (by simp; try omega) _))
  have hq1 := cloneDisc_any c h p s A cp l _ ((hr.below hB).more hB.size) hn
  go_enter Try.func22, Try.ntmps22
  go_upto_region 2 with (go_at_call 37; refine hq1.mono ?_; rintro e w1 ⟨v4, rfl, ho4, hx1⟩; obtain ⟨A4, c4, rfl⟩ := own_form ho4; replace hB := hB.trans (hx1.mono (by simp; try omega)); replace F0 := F0.below hx1 F0.lt; replace F1 := F1.below hx1 F1.lt; have ho4' : OO _ _ _ _ _ _ _ := own_base (base' := w.heap.size + 1 + 1) ho4 (by simp); have kr1 := (kr.below hB).more hB.size; have z1 := fun j => F0.free j; have z_0 : (_ : Option Value) = some (.int .i64 c) := F0.cell 0 (by simp); have z_1 : (_ : Option Value) = some (.int .i64 h) := F0.cell 1 (by simp); have z_2 : (_ : Option Value) = some (.int .i64 p) := F0.cell 2 (by simp); have z_3 : (_ : Option Value) = some (.int .i64 s) := F0.cell 3 (by simp); have z_4 : (_ : Option Value) = some (.slice A l.length cp) := F0.cell 4 (by simp); have z_5 : (_ : Option Value) = some (.int .i64 k) := F0.cell 5 (by simp); have z_6 : (_ : Option Value) = some (.int .i64 r) := F0.cell 6 (by simp); have z_7 : (_ : Option Value) = some (.slice N m.length q) := F0.cell 7 (by simp); have P0 := (((((F0.put 0 (.int .i64 c)).put 1 (.int .i64 h)).put 2 (.int .i64 p)).put 3 (.int .i64 s)).put 4 (.slice A4 l.length c4)); have P1 := (((((F1.far (a := ⟨w.heap.size, 0, none⟩) (by simp) (.int .i64 c)).far (a := ⟨w.heap.size, 1, none⟩) (by simp) (.int .i64 h)).far (a := ⟨w.heap.size, 2, none⟩) (by simp) (.int .i64 p)).far (a := ⟨w.heap.size, 3, none⟩) (by simp) (.int .i64 s)).far (a := ⟨w.heap.size, 4, none⟩) (by simp) (.slice A4 l.length c4)); have oq4 := (((((ho4'.put (a := ⟨w.heap.size, 0, none⟩) (by simp; try omega) (.int .i64 c)).put (a := ⟨w.heap.size, 1, none⟩) (by simp; try omega) (.int .i64 h)).put (a := ⟨w.heap.size, 2, none⟩) (by simp; try omega) (.int .i64 p)).put (a := ⟨w.heap.size, 3, none⟩) (by simp; try omega) (.int .i64 s)).put (a := ⟨w.heap.size, 4, none⟩) (by simp; try omega) (.slice A4 l.length c4)); have hBq := ((((((show BB w _ from hB).put (a := ⟨w.heap.size, 0, none⟩) (Nat.le_refl _) (.int .i64 c)).put (a := ⟨w.heap.size, 1, none⟩) (Nat.le_refl _) (.int .i64 h)).put (a := ⟨w.heap.size, 2, none⟩) (Nat.le_refl _) (.int .i64 p)).put (a := ⟨w.heap.size, 3, none⟩) (Nat.le_refl _) (.int .i64 s)).put (a := ⟨w.heap.size, 4, none⟩) (Nat.le_refl _) (.slice A4 l.length c4)); have lt1 := F1.lt)
  clear F0 F1 hq1 ho4' ho4 hx1 hB kr1 z1 z_0 z_1 z_2 z_3 z_4 z_5 z_6 z_7
  generalize hws : (((((w1.setCell ⟨w.heap.size, 0, none⟩ (.int .i64 c)).setCell ⟨w.heap.size, 1, none⟩ (.int .i64 h)).setCell ⟨w.heap.size, 2, none⟩ (.int .i64 p)).setCell ⟨w.heap.size, 3, none⟩ (.int .i64 s)).setCell ⟨w.heap.size, 4, none⟩ (.slice A4 l.length c4)) = w2 at P0 P1 oq4 hBq ⊢
  have kr2 := (kr.below hBq).more hBq.size
  have hlt := P1.lt
  clear hws lt1
  have y_0 : (_ : Option Value) = some (.int .i64 c) := P0.cell 0 (by simp)
  have y_1 : (_ : Option Value) = some (.int .i64 h) := P0.cell 1 (by simp)
  have y_2 : (_ : Option Value) = some (.int .i64 p) := P0.cell 2 (by simp)
  have y_3 : (_ : Option Value) = some (.int .i64 s) := P0.cell 3 (by simp)
  have y_4 : (_ : Option Value) = some (.slice A4 l.length c4) := P0.cell 4 (by simp)
  have y_5 : (_ : Option Value) = some (.int .i64 k) := P0.cell 5 (by simp)
  have y_6 : (_ : Option Value) = some (.int .i64 r) := P0.cell 6 (by simp)
  have y_7 : (_ : Option Value) = some (.slice N m.length q) := P0.cell 7 (by simp)
  go_wp2_with (go_at_call 38; refine (cloneInt_any N q m _ kr2 kn).mono ?_; rintro e w3 ⟨v7, rfl, ho7, hx2⟩; clear y_0 y_1 y_2 y_3 y_4 y_5 y_6 y_7; obtain ⟨A7, c7, rfl⟩ := own_form ho7; have hne := own_ne oq4 ho7 (Nat.le_refl _); replace hBq := hBq.next hx2; replace P0 := P0.below hx2 P0.lt; replace P1 := P1.below hx2 hlt; replace oq4 := OO.next oq4 hx2; have ho7' : OO _ _ _ _ _ _ _ := own_base (base' := w.heap.size + 1 + 1) ho7 (by omega); have z1 := fun j => P0.free j; have z2 := fun j => P1.free j; have y_0 : (_ : Option Value) = some (.int .i64 c) := P0.cell 0 (by simp); have y_1 : (_ : Option Value) = some (.int .i64 h) := P0.cell 1 (by simp); have y_2 : (_ : Option Value) = some (.int .i64 p) := P0.cell 2 (by simp); have y_3 : (_ : Option Value) = some (.int .i64 s) := P0.cell 3 (by simp); have y_4 : (_ : Option Value) = some (.slice A4 l.length c4) := P0.cell 4 (by simp); have y_5 : (_ : Option Value) = some (.int .i64 k) := P0.cell 5 (by simp); have y_6 : (_ : Option Value) = some (.int .i64 r) := P0.cell 6 (by simp); have y_7 : (_ : Option Value) = some (.slice N m.length q) := P0.cell 7 (by simp); have z_0 : (_ : Option Value) = some (.int .i64 0) := P1.cell 0 (by simp); have z_1 : (_ : Option Value) = some (.int .i64 0) := P1.cell 1 (by simp); have z_2 : (_ : Option Value) = some (.int .i64 0) := P1.cell 2 (by simp); have z_3 : (_ : Option Value) = some (.int .i64 0) := P1.cell 3 (by simp); have z_4 : (_ : Option Value) = some (.slice none 0 0) := P1.cell 4 (by simp); have z_5 : (_ : Option Value) = some (.int .i64 0) := P1.cell 5 (by simp); have z_6 : (_ : Option Value) = some (.int .i64 0) := P1.cell 6 (by simp); have z_7 : (_ : Option Value) = some (.slice none 0 0) := P1.cell 7 (by simp); have Q0 := (P0.put 7 (.slice A7 m.length c7)); have Q1 := (P1.far (a := ⟨w.heap.size, 7, none⟩) (by simp) (.slice A7 m.length c7)); have q_0 : (_ : Option Value) = some (.int .i64 c) := Q0.cell 0 (by simp); have q_1 : (_ : Option Value) = some (.int .i64 h) := Q0.cell 1 (by simp); have q_2 : (_ : Option Value) = some (.int .i64 p) := Q0.cell 2 (by simp); have q_3 : (_ : Option Value) = some (.int .i64 s) := Q0.cell 3 (by simp); have q_4 : (_ : Option Value) = some (.slice A4 l.length c4) := Q0.cell 4 (by simp); have q_5 : (_ : Option Value) = some (.int .i64 k) := Q0.cell 5 (by simp); have q_6 : (_ : Option Value) = some (.int .i64 r) := Q0.cell 6 (by simp); have q_7 : (_ : Option Value) = some (.slice A7 m.length c7) := Q0.cell 7 (by simp); have x_0 : (_ : Option Value) = some (.int .i64 0) := Q1.cell 0 (by simp); have x_1 : (_ : Option Value) = some (.int .i64 0) := Q1.cell 1 (by simp); have x_2 : (_ : Option Value) = some (.int .i64 0) := Q1.cell 2 (by simp); have x_3 : (_ : Option Value) = some (.int .i64 0) := Q1.cell 3 (by simp); have x_4 : (_ : Option Value) = some (.slice none 0 0) := Q1.cell 4 (by simp); have x_5 : (_ : Option Value) = some (.int .i64 0) := Q1.cell 5 (by simp); have x_6 : (_ : Option Value) = some (.int .i64 0) := Q1.cell 6 (by simp); have x_7 : (_ : Option Value) = some (.slice none 0 0) := Q1.cell 7 (by simp); have QQ := ((((((((Q1.put 0 (.int .i64 c)).put 1 (.int .i64 h)).put 2 (.int .i64 p)).put 3 (.int .i64 s)).put 4 (.slice A4 l.length c4)).put 5 (.int .i64 k)).put 6 (.int .i64 r)).put 7 (.slice A7 m.length c7)); have r_0 : (_ : Option Value) = some (.int .i64 c) := QQ.cell 0 (by simp); have r_1 : (_ : Option Value) = some (.int .i64 h) := QQ.cell 1 (by simp); have r_2 : (_ : Option Value) = some (.int .i64 p) := QQ.cell 2 (by simp); have r_3 : (_ : Option Value) = some (.int .i64 s) := QQ.cell 3 (by simp); have r_4 : (_ : Option Value) = some (.slice A4 l.length c4) := QQ.cell 4 (by simp); have r_5 : (_ : Option Value) = some (.int .i64 k) := QQ.cell 5 (by simp); have r_6 : (_ : Option Value) = some (.int .i64 r) := QQ.cell 6 (by simp); have r_7 : (_ : Option Value) = some (.slice A7 m.length c7) := QQ.cell 7 (by simp); have oz4 := (((((((((oq4.put (a := ⟨w.heap.size, 7, none⟩) (by simp; try omega) (.slice A7 m.length c7)).put (a := ⟨w.heap.size + 1, 0, none⟩) (by simp) (.int .i64 c)).put (a := ⟨w.heap.size + 1, 1, none⟩) (by simp) (.int .i64 h)).put (a := ⟨w.heap.size + 1, 2, none⟩) (by simp) (.int .i64 p)).put (a := ⟨w.heap.size + 1, 3, none⟩) (by simp) (.int .i64 s)).put (a := ⟨w.heap.size + 1, 4, none⟩) (by simp) (.slice A4 l.length c4)).put (a := ⟨w.heap.size + 1, 5, none⟩) (by simp) (.int .i64 k)).put (a := ⟨w.heap.size + 1, 6, none⟩) (by simp) (.int .i64 r)).put (a := ⟨w.heap.size + 1, 7, none⟩) (by simp) (.slice A7 m.length c7)); have oz7 := (((((((((ho7'.put (a := ⟨w.heap.size, 7, none⟩) (by simp; try omega) (.slice A7 m.length c7)).put (a := ⟨w.heap.size + 1, 0, none⟩) (by simp) (.int .i64 c)).put (a := ⟨w.heap.size + 1, 1, none⟩) (by simp) (.int .i64 h)).put (a := ⟨w.heap.size + 1, 2, none⟩) (by simp) (.int .i64 p)).put (a := ⟨w.heap.size + 1, 3, none⟩) (by simp) (.int .i64 s)).put (a := ⟨w.heap.size + 1, 4, none⟩) (by simp) (.slice A4 l.length c4)).put (a := ⟨w.heap.size + 1, 5, none⟩) (by simp) (.int .i64 k)).put (a := ⟨w.heap.size + 1, 6, none⟩) (by simp) (.int .i64 r)).put (a := ⟨w.heap.size + 1, 7, none⟩) (by simp) (.slice A7 m.length c7)); have hBz := (((((((((hBq.put (a := ⟨w.heap.size, 7, none⟩) (Nat.le_refl _) (.slice A7 m.length c7)).put (a := ⟨w.heap.size + 1, 0, none⟩) (by simp) (.int .i64 c)).put (a := ⟨w.heap.size + 1, 1, none⟩) (by simp) (.int .i64 h)).put (a := ⟨w.heap.size + 1, 2, none⟩) (by simp) (.int .i64 p)).put (a := ⟨w.heap.size + 1, 3, none⟩) (by simp) (.int .i64 s)).put (a := ⟨w.heap.size + 1, 4, none⟩) (by simp) (.slice A4 l.length c4)).put (a := ⟨w.heap.size + 1, 5, none⟩) (by simp) (.int .i64 k)).put (a := ⟨w.heap.size + 1, 6, none⟩) (by simp) (.int .i64 r)).put (a := ⟨w.heap.size + 1, 7, none⟩) (by simp) (.slice A7 m.length c7)))
  refine bodyPost_ret (v := .agg #[.int .i64 c, .int .i64 h, .int .i64 p, .int .i64 s, .slice A4 l.length c4, .int .i64 k, .int .i64 r, .slice A7 m.length c7]) (by simp [results, Try.results22, go_sem, r_0, r_1, r_2, r_3, r_4, r_5, r_6, r_7]) rfl ⟨_, _, rfl, ?_, ?_, hne, ?_⟩
  · exact own_base oz4 (by omega)
  · exact own_base oz7 (by omega)
  · exact hBz
end Go.Proofs.Ytcfeelecfmepaaa
namespace Go.Proofs.Ytcfeelecfmepaaa
set_option linter.unusedVariables false
open Go.RowKit

/-- The sectors and the map of the answer of WriteDeviceBlock. -/
def wdL (g : Bool) (l : List DSector) (m : List Int) (i : Int) (y : DSector) : List DSector := if g then l.set (m.getD i.toNat 0).toNat y else []
def wdM (g : Bool) (m : List Int) : List Int := if g then m else []
theorem wdL_len (g : Bool) (l : List DSector) (m : List Int) (i : Int) (y : DSector) : (wdL g l m i y).length ≤ l.length := by
  unfold wdL
  split <;> simp
theorem wdM_len (g : Bool) (m : List Int) : (wdM g m).length ≤ m.length := by
  unfold wdM
  split <;> simp
theorem wdL_in {l : List DSector} {m : List Int} {B X : Nat} (hb : B < m.length) (hx : m[B] = (X : Int)) {y : DSector} : wdL true l m (B : Int) y = l.set X y := by
  simp [wdL, hb, hx]
theorem pt_2' {d : Bool} {n : Nat} {i : Int} : ptOk d false n i = false ∧ ptC d false n i = 1 := by cases d <;> simp [ptOk, ptC]
end Go.Proofs.Ytcfeelecfmepaaa
namespace Go.Proofs.Ytcfeelecfmepaaa
set_option linter.unusedVariables false
open Go.RowKit

/-- Whether a list has a number. -/
def hasB (m : List Int) (x : Int) : Bool := m.contains x
theorem has_next {m : List Int} {x : Int} {k : Nat} {R : Bool} (h : k < m.length) (hs : hasB (m.drop k) x = R) (g : ¬ m[k] = x) : hasB (m.drop (k + 1)) x = R := by
  rw [← hs, hasB, hasB, List.drop_eq_getElem_cons h, List.contains_cons, beq_false_of_ne (fun e => g e.symm), Bool.false_or]
theorem has_yes {m : List Int} {x : Int} {k : Nat} {R : Bool} (h : k < m.length) (hs : hasB (m.drop k) x = R) (g : m[k] = x) : R = true := by
  rw [← hs, hasB, List.drop_eq_getElem_cons h, List.contains_cons, g, beq_self_eq_true, Bool.true_or]
theorem has_no {m : List Int} {x : Int} {k : Nat} {R : Bool} (h : ¬ k < m.length) (hs : hasB (m.drop k) x = R) : R = false := by
  rw [← hs, hasB, List.drop_eq_nil_of_le (by omega)]
  rfl
set_option maxRecDepth 100000 in
set_option maxHeartbeats 400000 in
theorem l00Has_any (N : Option Addr) (q : Nat) (m : List Int) (x : Int) (w : World) (kr : Rd w w.heap.size 1 N m.length (flat fI m)) (kn : m.length ≤ 1048576) :
    Calls Try.prog 48 #[.slice N m.length q, .int .i64 x] w fun e w' => e = .returned (.bool (hasB m x)) ∧ w = w' := by
  go_enter Try.func48, Try.ntmps48
  go_wp2
  go_loop [5] (fun i => ∃ k : Nat, k ≤ m.length ∧ i = .int .i64 k ∧ Hid (hasB (m.drop k) x = hasB m x)) (fun i => m.length - (intOf i).toNat)
  case atStart => exact ⟨0, Nat.zero_le _, rfl, Lib.hid rfl⟩
  case round =>
    obtain ⟨k, hk, rfl, HS⟩ := hrel
    by_cases hlt : k < m.length
    · have hlti : (k : Int) < (m.length : Int) := by omega
      obtain ⟨bb, off, rfl, hbb, hc⟩ := kr.at_ fI_len rfl k hlt
      have hc0 := hc 0 _ (by omega) rfl
      clear hc
      simp only [Nat.mul_one, Nat.add_zero] at hc0
      by_cases hx : m[k] = x
      · have HN := Lib.hid (has_yes hlt HS.out hx)
        have hx2 : (m[k] == x) = true := by simp [hx]
        go_wp2
        go_ret
        exact ⟨ret_bool HN.out.symm, rfl⟩
      · have HN := Lib.hid (has_next hlt HS.out hx)
        have hx2 : (m[k] == x) = false := by simp [hx]
        go_wp2
        go_round
        case rel => exact ⟨k + 1, by omega, by go_num, HN⟩
        case measure => simp [intOf]; omega
    · have HE := Lib.hid (has_no hlt HS.out)
      have hlti : ¬ (k : Int) < (m.length : Int) := by omega
      go_wp2
      go_ret
      exact ⟨ret_bool HE.out.symm, rfl⟩

end Go.Proofs.Ytcfeelecfmepaaa
namespace Go.Proofs.Ytcfeelecfmepaaa
set_option linter.unusedVariables false
open Go.RowKit

theorem ordT_mem (P K : Nat) (hP : 0 < P) : ∀ t, ∀ x ∈ ordT P K t, 0 ≤ x ∧ x < ((t * P : Nat) : Int)
  | 0, x, hx => absurd hx (by simp [ordT])
  | t + 1, x, hx => by
    rw [ordT, List.mem_append] at hx
    have hs : (t + 1) * P = t * P + P := Nat.succ_mul t P
    rcases hx with hx | hx
    · have := ordT_mem P K hP t x hx
      omega
    · have := rowO_mem P (t * P) (t * K) hP P x hx
      omega
/-- The first sector of the order that no block has. -/
def frB (o m : List Int) : Option Int := o.find? (fun x => !hasB m x)
section
variable {o m : List Int} {j : Nat} {F : Option Int}
theorem fr_next (h : j < o.length) (hs : frB (o.drop j) m = F) (g : hasB m o[j] = true) : frB (o.drop (j + 1)) m = F := by
  rw [← hs, List.drop_eq_getElem_cons h, frB, frB, List.find?_cons_of_neg (by simpa using g)]
theorem fr_here (h : j < o.length) (hs : frB (o.drop j) m = F) (g : hasB m o[j] = false) : F = some o[j] := by
  rw [← hs, List.drop_eq_getElem_cons h, frB, List.find?_cons_of_pos (by rw [g]; rfl)]
theorem fr_end (h : ¬ j < o.length) (hs : frB (o.drop j) m = F) : F = none := by
  rw [← hs, List.drop_eq_nil_of_le (by omega)]
  rfl
end
def rpOk (ok : Bool) (n : Nat) (b : Int) (fr : Option Int) : Bool := ok && inB b 0 ((n : Int) - 1) && fr.isSome
def rpC (ok : Bool) (n : Nat) (b : Int) (fr : Option Int) : Int := if ok then (if inB b 0 ((n : Int) - 1) then (if fr.isSome then 0 else 5) else 2) else 1
def rpS (l : List DSector) (m : List Int) (b : Int) (z : ByteArray) : DSector := ⟨if rdB (l.getD (m.getD b.toNat 0).toNat noSec).f1 then (l.getD (m.getD b.toNat 0).toNat noSec).f0 else z, 1⟩
def rpL (g : Bool) (l : List DSector) (m : List Int) (b : Int) (fr : Option Int) (z : ByteArray) : List DSector := if g then l.set (fr.getD 0).toNat (rpS l m b z) else []
def rpM (g : Bool) (m : List Int) (b : Int) (fr : Option Int) : List Int := if g then m.set b.toNat (fr.getD 0) else []
theorem rpL_len (g : Bool) (l : List DSector) (m : List Int) (b : Int) (fr : Option Int) (z : ByteArray) : (rpL g l m b fr z).length ≤ l.length := by
  unfold rpL
  split <;> simp
theorem rpM_len (g : Bool) (m : List Int) (b : Int) (fr : Option Int) : (rpM g m b fr).length ≤ m.length := by
  unfold rpM
  split <;> simp
theorem rp_1 {n : Nat} {b : Int} {fr : Option Int} : rpOk false n b fr = false ∧ rpC false n b fr = 1 := by simp [rpOk, rpC]
theorem rp_2 {n : Nat} {b : Int} {fr : Option Int} (g : inB b 0 ((n : Int) - 1) = false) : rpOk true n b fr = false ∧ rpC true n b fr = 2 := by simp [rpOk, rpC, g]
theorem rp_3 {n : Nat} {b : Int} {fr : Option Int} (g : inB b 0 ((n : Int) - 1) = true) (h : fr = none) : rpOk true n b fr = false ∧ rpC true n b fr = 5 := by simp [rpOk, rpC, g, h]
theorem rp_4 {n : Nat} {b : Int} {fr : Option Int} {x : Int} (g : inB b 0 ((n : Int) - 1) = true) (h : fr = some x) : rpOk true n b fr = true ∧ rpC true n b fr = 0 := by simp [rpOk, rpC, g, h]
theorem rp_L {l : List DSector} {m : List Int} {B X Y : Nat} {fr : Option Int} {z dat : ByteArray} {st : Int} (hb : B < m.length) (hx : m[B] = (X : Int)) (hX : X < l.length) (h0 : l[X].f0 = dat) (h1 : l[X].f1 = st) (hf : fr = some (Y : Int)) :
    rpL true l m (B : Int) fr z = l.set Y ⟨if rdB st then dat else z, 1⟩ := by
  simp [rpL, rpS, hb, hx, hX, h0, h1, hf]
theorem rp_M {m : List Int} {B Y : Nat} {fr : Option Int} (hf : fr = some (Y : Int)) : rpM true m (B : Int) fr = m.set B (Y : Int) := by
  simp [rpM, hf]
theorem flatI_map : ∀ l : List Int, flat fI l = l.map (fun x => Value.int .i64 x)
  | [] => rfl
  | x :: l => by
    have := flatI_map l
    simp only [flat, List.map_cons, List.flatten_cons, fI] at this ⊢
    rw [this]
    rfl
theorem setI (m : List Int) (j : Nat) (x : Int) : (flat fI m).set j (.int .i64 x) = flat fI (m.set j x) := by
  rw [flatI_map, flatI_map, List.map_set]
set_option maxRecDepth 100000 in
set_option maxHeartbeats 4000000 in
theorem spec_ReplaceBlock_any (c h p s : Int) (A : Option Addr) (cp : Nat) (l : List DSector) (k r : Int) (N : Option Addr) (q : Nat) (m : List Int) (b : Int) (w : World) (hr : Rd w w.heap.size 2 A l.length (flat fSector l)) (hn : l.length ≤ 1048576) (hok : ∀ x ∈ l, okSector x) (kr : Rd w w.heap.size 1 N m.length (flat fI m)) (kn : m.length ≤ 1048576) (hqc : m.length ≤ q) :
    Calls Try.prog 31 #[.agg #[.int .i64 c, .int .i64 h, .int .i64 p, .int .i64 s, .slice A l.length cp, .int .i64 k, .int .i64 r, .slice N m.length q], .int .i64 b] w fun e w' => ∃ (v4 v7 : Value), e = .returned (.tuple #[.agg #[.int .i64 (ptN (rpOk (okV (okD c h p s l) l.length k r m) m.length b (frB (ordT p.toNat k.toNat (c * h).toNat) m)) c), .int .i64 (ptN (rpOk (okV (okD c h p s l) l.length k r m) m.length b (frB (ordT p.toNat k.toNat (c * h).toNat) m)) h), .int .i64 (ptN (rpOk (okV (okD c h p s l) l.length k r m) m.length b (frB (ordT p.toNat k.toNat (c * h).toNat) m)) p), .int .i64 (ptN (rpOk (okV (okD c h p s l) l.length k r m) m.length b (frB (ordT p.toNat k.toNat (c * h).toNat) m)) s), v4, .int .i64 (ptN (rpOk (okV (okD c h p s l) l.length k r m) m.length b (frB (ordT p.toNat k.toNat (c * h).toNat) m)) k), .int .i64 (ptN (rpOk (okV (okD c h p s l) l.length k r m) m.length b (frB (ordT p.toNat k.toNat (c * h).toNat) m)) r), v7], .int .i64 (rpC (okV (okD c h p s l) l.length k r m) m.length b (frB (ordT p.toNat k.toNat (c * h).toNat) m))]) ∧ w'.ownsRow w.heap.size 53 2 v4 (rpL (rpOk (okV (okD c h p s l) l.length k r m) m.length b (frB (ordT p.toNat k.toNat (c * h).toNat) m)) l m b (frB (ordT p.toNat k.toNat (c * h).toNat) m) (zerosB (szB s).toNat)).length (flat fSector (rpL (rpOk (okV (okD c h p s l) l.length k r m) m.length b (frB (ordT p.toNat k.toNat (c * h).toNat) m)) l m b (frB (ordT p.toNat k.toNat (c * h).toNat) m) (zerosB (szB s).toNat))) ∧ w'.ownsRow w.heap.size 2 1 v7 (rpM (rpOk (okV (okD c h p s l) l.length k r m) m.length b (frB (ordT p.toNat k.toNat (c * h).toNat) m)) m b (frB (ordT p.toNat k.toNat (c * h).toNat) m)).length (flat fI (rpM (rpOk (okV (okD c h p s l) l.length k r m) m.length b (frB (ordT p.toNat k.toNat (c * h).toNat) m)) m b (frB (ordT p.toNat k.toNat (c * h).toNat) m))) ∧ (v4.ownBlock = none ∨ v4.ownBlock ≠ v7.ownBlock) ∧ Below w.heap.size w w' := by
  have F3 := (BX.made w 29 [.int .i64 c, .int .i64 h, .int .i64 p, .int .i64 s, .slice A l.length cp, .int .i64 k, .int .i64 r, .slice N m.length q]).al (.cells #[.int .i64 0, .int .i64 0, .int .i64 0, .int .i64 0, .slice none 0 0, .int .i64 0, .int .i64 0, .slice none 0 0] 29)
  have F6 := BX.made1 w (.cells #[.int .i64 c, .int .i64 h, .int .i64 p, .int .i64 s, .slice A l.length cp, .int .i64 k, .int .i64 r, .slice N m.length q] 29) 29 [.int .i64 0, .int .i64 0, .int .i64 0, .int .i64 0, .slice none 0 0, .int .i64 0, .int .i64 0, .slice none 0 0]
  obtain ⟨wb, hwb⟩ : ∃ wb, wb = (w.alloc (.cells #[.int .i64 c, .int .i64 h, .int .i64 p, .int .i64 s, .slice A l.length cp, .int .i64 k, .int .i64 r, .slice N m.length q] 29)).alloc (.cells #[.int .i64 0, .int .i64 0, .int .i64 0, .int .i64 0, .slice none 0 0, .int .i64 0, .int .i64 0, .slice none 0 0] 29) := ⟨_, rfl⟩
  rw [← hwb] at F3 F6
  have hb0 : Below w.heap.size w wb := by rw [hwb]; exact (by with_reducible repeat (first | exact Below.refl _ _ | assumption | refine below_step ?_ (by assumption) | refine Below.drew ?_ | refine below_drewN ?_ _ | refine below_alloc ?_ _ | refine Below.setCell ?_ (by simp; try omega) _))
  have hs0 : w.heap.size + 1 < wb.heap.size := F6.lt
  have hrb := (hr.below hb0).more hb0.size
  have krb := (kr.below hb0).more hb0.size
  have HW := Lib.hid hwb
  clear hwb
  have hq := l15Ask_any w.heap.size c h p s A cp l k r N q m b wb F3.cp hrb hn hok krb kn
  cases hv : okV (okD c h p s l) l.length k r m
  · have HV := Lib.hid hv
    have HA := Lib.hid (askC_1 (n := m.length) (b := b))
    clear hv
    have HR := Lib.hid (rp_1 (n := m.length) (b := b) (fr := frB (ordT p.toNat k.toNat (c * h).toNat) m))
    go_enter Try.func31, Try.ntmps31
    go_wp2_with ((go_at_call 47; rw [← HW.out]; refine hq.mono ?_; rintro e w2 ⟨rfl, hx⟩; rw [HV.out, HA.out]; replace F3 := F3.below hx F3.lt; replace F6 := F6.below hx F6.lt; have hB : BB w w2 := hb0.trans (hx.mono (by omega)); have e0 : (_ : Option Value) = some (.int .i64 c) := F3.cell 0 (by simp); have e1 : (_ : Option Value) = some (.int .i64 h) := F3.cell 1 (by simp); have e2 : (_ : Option Value) = some (.int .i64 p) := F3.cell 2 (by simp); have e3 : (_ : Option Value) = some (.int .i64 s) := F3.cell 3 (by simp); have e4 : (_ : Option Value) = some (.slice A l.length cp) := F3.cell 4 (by simp); have e5 : (_ : Option Value) = some (.int .i64 k) := F3.cell 5 (by simp); have e6 : (_ : Option Value) = some (.int .i64 r) := F3.cell 6 (by simp); have e7 : (_ : Option Value) = some (.slice N m.length q) := F3.cell 7 (by simp); have z0 : (_ : Option Value) = some (.int .i64 0) := F6.cell 0 (by simp); have z1 : (_ : Option Value) = some (.int .i64 0) := F6.cell 1 (by simp); have z2 : (_ : Option Value) = some (.int .i64 0) := F6.cell 2 (by simp); have z3 : (_ : Option Value) = some (.int .i64 0) := F6.cell 3 (by simp); have z4 : (_ : Option Value) = some (.slice none 0 0) := F6.cell 4 (by simp); have z5 : (_ : Option Value) = some (.int .i64 0) := F6.cell 5 (by simp); have z6 : (_ : Option Value) = some (.int .i64 0) := F6.cell 6 (by simp); have z7 : (_ : Option Value) = some (.slice none 0 0) := F6.cell 7 (by simp); have hfz := fun j => F6.free j; have mk1 := True.intro))
    refine bodyPost_ret (v := .tuple #[.agg #[.int .i64 0, .int .i64 0, .int .i64 0, .int .i64 0, .slice none 0 0, .int .i64 0, .int .i64 0, .slice none 0 0], .int .i64 1]) (by simp [results, Try.results31, go_sem, World.cell?_setCell_other, z0, z1, z2, z3, z4, z5, z6, z7]) rfl ⟨.slice none 0 0, .slice none 0 0, by rw [HR.out.1, HR.out.2]; rfl, ?_, ?_, .inl rfl, ?_⟩
    · rw [HR.out.1]; exact World.ownsRow_nil _ _ _ _
    · rw [HR.out.1]; exact World.ownsRow_nil _ _ _ _
    · exact (by with_reducible repeat (first | exact Below.refl _ _ | assumption | refine below_step ?_ (by assumption) | refine Below.drew ?_ | refine below_drewN ?_ _ | refine below_alloc ?_ _ | refine Below.setCell ?_ (by simp; try omega) _))
  have hall := (okV_yes hv).2.2.2.2
  have hgeo := okD_geo (okV_yes hv).1
  have hk7 := (okV_yes hv).2.1
  have HV := Lib.hid hv
  clear hv
  cases g1 : inB b 0 ((m.length : Int) - 1)
  · have HA := Lib.hid (askC_2 (n := m.length) g1)
    have HR := Lib.hid (rp_2 (n := m.length) (fr := frB (ordT p.toNat k.toNat (c * h).toNat) m) g1)
    go_enter Try.func31, Try.ntmps31
    go_wp2_with ((go_at_call 47; rw [← HW.out]; refine hq.mono ?_; rintro e w2 ⟨rfl, hx⟩; rw [HV.out, HA.out]; replace F3 := F3.below hx F3.lt; replace F6 := F6.below hx F6.lt; have hB : BB w w2 := hb0.trans (hx.mono (by omega)); have e0 : (_ : Option Value) = some (.int .i64 c) := F3.cell 0 (by simp); have e1 : (_ : Option Value) = some (.int .i64 h) := F3.cell 1 (by simp); have e2 : (_ : Option Value) = some (.int .i64 p) := F3.cell 2 (by simp); have e3 : (_ : Option Value) = some (.int .i64 s) := F3.cell 3 (by simp); have e4 : (_ : Option Value) = some (.slice A l.length cp) := F3.cell 4 (by simp); have e5 : (_ : Option Value) = some (.int .i64 k) := F3.cell 5 (by simp); have e6 : (_ : Option Value) = some (.int .i64 r) := F3.cell 6 (by simp); have e7 : (_ : Option Value) = some (.slice N m.length q) := F3.cell 7 (by simp); have z0 : (_ : Option Value) = some (.int .i64 0) := F6.cell 0 (by simp); have z1 : (_ : Option Value) = some (.int .i64 0) := F6.cell 1 (by simp); have z2 : (_ : Option Value) = some (.int .i64 0) := F6.cell 2 (by simp); have z3 : (_ : Option Value) = some (.int .i64 0) := F6.cell 3 (by simp); have z4 : (_ : Option Value) = some (.slice none 0 0) := F6.cell 4 (by simp); have z5 : (_ : Option Value) = some (.int .i64 0) := F6.cell 5 (by simp); have z6 : (_ : Option Value) = some (.int .i64 0) := F6.cell 6 (by simp); have z7 : (_ : Option Value) = some (.slice none 0 0) := F6.cell 7 (by simp); have hfz := fun j => F6.free j; have mk1 := True.intro))
    refine bodyPost_ret (v := .tuple #[.agg #[.int .i64 0, .int .i64 0, .int .i64 0, .int .i64 0, .slice none 0 0, .int .i64 0, .int .i64 0, .slice none 0 0], .int .i64 2]) (by simp [results, Try.results31, go_sem, World.cell?_setCell_other, z0, z1, z2, z3, z4, z5, z6, z7]) rfl ⟨.slice none 0 0, .slice none 0 0, by rw [HR.out.1, HR.out.2]; rfl, ?_, ?_, .inl rfl, ?_⟩
    · rw [HR.out.1]; exact World.ownsRow_nil _ _ _ _
    · rw [HR.out.1]; exact World.ownsRow_nil _ _ _ _
    · exact (by with_reducible repeat (first | exact Below.refl _ _ | assumption | refine below_step ?_ (by assumption) | refine Below.drew ?_ | refine below_drewN ?_ _ | refine below_alloc ?_ _ | refine Below.setCell ?_ (by simp; try omega) _))
  have HA := Lib.hid (askC_3 (n := m.length) g1)
  obtain ⟨b0, b1⟩ := inB_yes g1
  obtain ⟨B, rfl⟩ : ∃ B : Nat, b = (B : Int) := ⟨b.toNat, by omega⟩
  have hlt : B < m.length := by omega
  have hlti : (B : Int) < (m.length : Int) := by omega
  obtain ⟨x0, x1⟩ := hall m[B] (List.getElem_mem hlt)
  obtain ⟨X, hX⟩ : ∃ X : Nat, m[B] = (X : Int) := ⟨m[B].toNat, by omega⟩
  have hXl : X < l.length := by omega
  have hXi : (X : Int) < (l.length : Int) := by omega
  have hpos : 0 < l.length := by omega
  have hposm : 0 < m.length := by omega
  obtain ⟨kk0, kk1⟩ := inB_yes hk7
  obtain ⟨K, rfl⟩ : ∃ K : Nat, k = (K : Int) := ⟨k.toNat, by omega⟩
  obtain ⟨c1, c2, h1, h2, p1, p2, s1, s2⟩ := geoB_yes hgeo.1
  obtain ⟨m1, m2⟩ := prod2 c1 c2 h1 h2
  obtain ⟨P, rfl⟩ : ∃ P : Nat, p = (P : Int) := ⟨p.toNat, by omega⟩
  obtain ⟨T, hT⟩ : ∃ T : Nat, c * h = (T : Int) := ⟨(c * h).toNat, by omega⟩
  have hNT : l.length = T * P := by
    have := hgeo.2.1
    rw [hT] at this
    omega
  have hmem : ∀ x ∈ ordT P K T, 0 ≤ x ∧ x < (l.length : Int) := by rw [hNT]; exact ordT_mem P K (by omega) T
  have hoL : (ordT P K T).length = l.length := by rw [ordT_len, hNT]
  have hord := fun (W : World) (hd : DP W w.heap.size c h (P : Int) s (.slice A l.length cp)) => l15Order_any w.heap.size c h s (.slice A l.length cp) T P K W hd hT (by omega) (by omega) (by omega) (by omega)
  rw [show frB (ordT (P : Int).toNat (K : Int).toNat (c * h).toNat) m = frB (ordT P K T) m by rw [hT, Int.toNat_natCast, Int.toNat_natCast, Int.toNat_natCast]]
  obtain ⟨nb, y1, y2, y3, y4⟩ := szB_nat s1 s2
  rw [y4]
  obtain ⟨ba, off, rfl, hba, hc⟩ := kr.at_ fI_len rfl B hlt
  have hm0 := hc 0 _ (by omega) rfl
  clear hc
  simp only [Nat.mul_one, Nat.add_zero] at hm0
  rw [hX] at hm0
  obtain ⟨b2, off2, rfl, hb2, hcc⟩ := hr.at_ fSector_len rfl X hXl
  have hs0' := hcc 0 _ (by omega) rfl
  have hs1' := hcc 1 _ (by omega) rfl
  clear hcc
  simp only [← Nat.add_assoc, Nat.add_zero] at hs0' hs1'
  obtain ⟨dat, hdat⟩ : ∃ d, l[X].f0 = d := ⟨_, rfl⟩
  obtain ⟨st, hst⟩ : ∃ d, l[X].f1 = d := ⟨_, rfl⟩
  rw [hdat] at hs0'
  rw [hst] at hs1'
  have HLL := fun (Y : Nat) (hf : frB (ordT P K T) m = some (Y : Int)) => rp_L (z := zerosB nb) hlt hX hXl hdat hst hf
  have HMM := fun (Y : Nat) (hf : frB (ordT P K T) m = some (Y : Int)) => rp_M (m := m) (B := B) hf
  generalize ordT P K T = ord at *
  have hposo : 0 < ord.length := by omega
  clear hT hNT hgeo c1 c2 h1 h2 m1 m2 p2 kk0 x0 x1 hX hdat hst hall hk7
  go_enter Try.func31, Try.ntmps31
  go_wp2_with (first
        | (go_at_call 46; have := mk1; refine (hord _ (CP.disc8 F3.cp)).mono ?_; rintro e w5 ⟨v5, rfl, ho5, hx5⟩; obtain ⟨g5, c5, hv⟩ := Go.Joins.ownsRow_form ho5 hposo; cases hv; have lt5 := World.ownsRow.lt ho5 g5 rfl; have l6 := F6.lt; clear e0 e1 e2 e3 e4 e5 e6 e7 z0 z1 z2 z3 z4 z5 z6 z7 hfz; replace F3 := BX.below F3 hx5 F3.lt; replace F6 := BX.below F6 hx5 F6.lt; replace hB := BB.next hB hx5)
        | (go_at_call 47; rw [← HW.out]; refine hq.mono ?_; rintro e w2 ⟨rfl, hx⟩; rw [HV.out, HA.out]; replace F3 := F3.below hx F3.lt; replace F6 := F6.below hx F6.lt; have hB : BB w w2 := hb0.trans (hx.mono (by omega)); have e0 : (_ : Option Value) = some (.int .i64 c) := F3.cell 0 (by simp); have e1 : (_ : Option Value) = some (.int .i64 h) := F3.cell 1 (by simp); have e2 : (_ : Option Value) = some (.int .i64 (P : Int)) := F3.cell 2 (by simp); have e3 : (_ : Option Value) = some (.int .i64 s) := F3.cell 3 (by simp); have e4 : (_ : Option Value) = some (.slice (some ⟨b2, off2, none⟩) l.length cp) := F3.cell 4 (by simp); have e5 : (_ : Option Value) = some (.int .i64 (K : Int)) := F3.cell 5 (by simp); have e6 : (_ : Option Value) = some (.int .i64 r) := F3.cell 6 (by simp); have e7 : (_ : Option Value) = some (.slice (some ⟨ba, off, none⟩) m.length q) := F3.cell 7 (by simp); have z0 : (_ : Option Value) = some (.int .i64 0) := F6.cell 0 (by simp); have z1 : (_ : Option Value) = some (.int .i64 0) := F6.cell 1 (by simp); have z2 : (_ : Option Value) = some (.int .i64 0) := F6.cell 2 (by simp); have z3 : (_ : Option Value) = some (.int .i64 0) := F6.cell 3 (by simp); have z4 : (_ : Option Value) = some (.slice none 0 0) := F6.cell 4 (by simp); have z5 : (_ : Option Value) = some (.int .i64 0) := F6.cell 5 (by simp); have z6 : (_ : Option Value) = some (.int .i64 0) := F6.cell 6 (by simp); have z7 : (_ : Option Value) = some (.slice none 0 0) := F6.cell 7 (by simp); have hfz := fun j => F6.free j; have mk1 := True.intro))
  clear hq hord HW hrb krb hb0 hs0
  go_loopw [8] (fun i wr => ∃ j : Nat, j ≤ ord.length ∧ i = .int .i64 j ∧ Below w5.heap.size w5 wr ∧ Hid (frB (ord.drop j) m = frB ord m)) (fun i _ => ord.length - (intOf i).toNat)
  case atStart => exact ⟨0, Nat.zero_le _, rfl, Below.refl _ _, Lib.hid rfl⟩
  case round =>
    obtain ⟨j, hj, rfl, hbl, HF⟩ := hrel
    replace F3 := BX.below F3 hbl F3.lt
    replace F6 := BX.below F6 hbl F6.lt
    replace ho5 := OO.next ho5 hbl
    replace hB := BB.next hB hbl
    by_cases hjl : j < ord.length
    rotate_left
    · have hjn : ¬ (j : Int) < (ord.length : Int) := by omega
      have HR := Lib.hid (rp_3 g1 (fr_end hjl HF.out))
      have z0 : (_ : Option Value) = some (.int .i64 0) := F6.cell 0 (by simp)
      have z1 : (_ : Option Value) = some (.int .i64 0) := F6.cell 1 (by simp)
      have z2 : (_ : Option Value) = some (.int .i64 0) := F6.cell 2 (by simp)
      have z3 : (_ : Option Value) = some (.int .i64 0) := F6.cell 3 (by simp)
      have z4 : (_ : Option Value) = some (.slice none 0 0) := F6.cell 4 (by simp)
      have z5 : (_ : Option Value) = some (.int .i64 0) := F6.cell 5 (by simp)
      have z6 : (_ : Option Value) = some (.int .i64 0) := F6.cell 6 (by simp)
      have z7 : (_ : Option Value) = some (.slice none 0 0) := F6.cell 7 (by simp)
      have hfz := fun j => F6.free j
      have hBw : Below w.heap.size w wr := hB
      go_wp2
      refine bodyPost_ret (v := .tuple #[.agg #[.int .i64 0, .int .i64 0, .int .i64 0, .int .i64 0, .slice none 0 0, .int .i64 0, .int .i64 0, .slice none 0 0], .int .i64 5]) (by simp [results, Try.results31, go_sem, World.cell?_setCell_other, z0, z1, z2, z3, z4, z5, z6, z7]) rfl ⟨.slice none 0 0, .slice none 0 0, by rw [HR.out.1, HR.out.2]; rfl, ?_, ?_, .inl rfl, ?_⟩
      · rw [HR.out.1]; exact World.ownsRow_nil _ _ _ _
      · rw [HR.out.1]; exact World.ownsRow_nil _ _ _ _
      · exact (by with_reducible repeat (first | exact Below.refl _ _ | assumption | refine below_step ?_ (by assumption) | refine Below.drew ?_ | refine below_drewN ?_ _ | refine below_alloc ?_ _ | refine Below.setCell ?_ (by simp; try omega) _))
    have hji : (j : Int) < (ord.length : Int) := by omega
    have oR := Rd.of_own ho5
    obtain ⟨bo, offo, hbo, hbo2, hc⟩ := oR.at_ fI_len rfl j hjl
    cases hbo
    have hc0 := hc 0 _ (by omega) rfl
    clear hc oR
    simp only [Nat.mul_one, Nat.zero_add, Nat.add_zero] at hc0
    obtain ⟨x0, x1⟩ := hmem ord[j] (List.getElem_mem hjl)
    obtain ⟨Y, hY⟩ : ∃ Y : Nat, ord[j] = (Y : Int) := ⟨ord[j].toNat, by omega⟩
    have hYl : Y < l.length := by omega
    have hYi : (Y : Int) < (l.length : Int) := by omega
    have FN := fun g => fr_next hjl HF.out g
    have FH := fun g => fr_here hjl HF.out g
    rw [hY] at hc0 FN FH
    clear x0 x1 hY
    have krr := (kr.below hB).more hB.size
    have hq := fun (p' : Regrown) => qb_same p' (l00Has_any (some ⟨ba, off, none⟩) q m (Y : Int) (Sort.grow (redrawn wr p'.d) p'.os) (krr.gw p') kn)
    have k7 := gw_cell (show wr.cell? ⟨w.heap.size, 7, none⟩ = some (.slice (some ⟨ba, off, none⟩) m.length q) from F3.cell 7 (by simp))
    have kO := gw_cell hc0
    cases hcc : hasB m (Y : Int)
    rotate_left
    · rw [hcc] at hq
      have HN := Lib.hid (FN hcc)
      go_wp2_with fail
      refine wp_region_quiet_below (by kernel_rfl) (by kernel_rfl) ?_
      repeat (go_big_quiet_step ((first | with_reducible exact hq _)))
      refine wpQuiet_nil ?_
      intro _ hw'
      obtain ⟨pq, hw''⟩ := hw'
      subst hw''
      have hb6 := gw_below wr pq
      have hc1 := kO pq.d pq.os
      generalize Sort.grow (redrawn wr pq.d) pq.os = w6 at hb6 hc1 ⊢
      have hb7 : Below w5.heap.size w5 w6 := hbl.trans (hb6.mono (Below.size hbl))
      go_wp2
      go_roundw
      case rel => exact ⟨j + 1, by omega, by go_num, hb7, HN⟩
      case measure => (simp [intOf] <;> omega)
    rw [hcc] at hq
    have hfr := FH hcc
    have HR := Lib.hid (rp_4 (n := m.length) g1 hfr)
    have HL := Lib.hid (HLL Y hfr)
    have HM := Lib.hid (HMM Y hfr)
    clear hcc FN FH HLL HMM HF hmem g1
    go_wp2_with fail
    refine wp_region_quiet_below (by kernel_rfl) (by kernel_rfl) ?_
    repeat (go_big_quiet_step ((first | with_reducible exact hq _)))
    refine wpQuiet_nil ?_
    intro _ hw'
    obtain ⟨pq, hw''⟩ := hw'
    subst hw''
    have hb6 := gw_below wr pq
    have hc1 := kO pq.d pq.os
    generalize Sort.grow (redrawn wr pq.d) pq.os = w6 at hb6 hc1 ⊢
    clear k7 kO hq hc0
    replace F3 := BX.below F3 hb6 F3.lt
    replace F6 := BX.below F6 hb6 F6.lt
    replace ho5 := OO.next ho5 hb6
    replace hB := BB.next hB hb6
    go_upto_region 10 with ((go_at_call 49; refine (l15Own_any w.heap.size c h (P : Int) s _ cp l (K : Int) r _ q m _ F3.cp ((hr.below hB).more hB.size) hn ((kr.below hB).more hB.size) kn).mono ?_; rintro e w7 ⟨v4, v7, rfl, ho4, ho7, hne, hx7⟩; obtain ⟨g4, c4, hv⟩ := Go.Joins.ownsRow_form ho4 hpos; cases hv; obtain ⟨g7, c7, hv⟩ := Go.Joins.ownsRow_form ho7 hposm; cases hv; have hc7 := own_cap ho7; have lt4 := World.ownsRow.lt ho4 g4 rfl; have lt7 := World.ownsRow.lt ho7 g7 rfl; have l6' := F6.lt; have l5' := World.ownsRow.lt ho5 g5 rfl; have hc2 := (hx7.cell (p := ⟨g5, j, none⟩) l5'.2).trans hc1; replace F3 := BX.below F3 hx7 F3.lt; replace F6 := BX.below F6 hx7 F6.lt; replace ho5 := OO.next ho5 hx7; replace hB := BB.next hB hx7))
    clear hc1
    replace F3 := BX.al F3 (.cells #[.int .i64 c, .int .i64 h, .int .i64 (P : Int), .int .i64 s, .slice (some ⟨g4, 0, none⟩) l.length c4, .int .i64 (K : Int), .int .i64 r, .slice (some ⟨g7, 0, none⟩) m.length c7] 29)
    replace F6 := BX.al F6 (.cells #[.int .i64 c, .int .i64 h, .int .i64 (P : Int), .int .i64 s, .slice (some ⟨g4, 0, none⟩) l.length c4, .int .i64 (K : Int), .int .i64 r, .slice (some ⟨g7, 0, none⟩) m.length c7] 29)
    replace ho5 := OO.al ho5 (.cells #[.int .i64 c, .int .i64 h, .int .i64 (P : Int), .int .i64 s, .slice (some ⟨g4, 0, none⟩) l.length c4, .int .i64 (K : Int), .int .i64 r, .slice (some ⟨g7, 0, none⟩) m.length c7] 29)
    replace ho4 := OO.al ho4 (.cells #[.int .i64 c, .int .i64 h, .int .i64 (P : Int), .int .i64 s, .slice (some ⟨g4, 0, none⟩) l.length c4, .int .i64 (K : Int), .int .i64 r, .slice (some ⟨g7, 0, none⟩) m.length c7] 29)
    replace ho7 := OO.al ho7 (.cells #[.int .i64 c, .int .i64 h, .int .i64 (P : Int), .int .i64 s, .slice (some ⟨g4, 0, none⟩) l.length c4, .int .i64 (K : Int), .int .i64 r, .slice (some ⟨g7, 0, none⟩) m.length c7] 29)
    replace hB := BB.al hB (.cells #[.int .i64 c, .int .i64 h, .int .i64 (P : Int), .int .i64 s, .slice (some ⟨g4, 0, none⟩) l.length c4, .int .i64 (K : Int), .int .i64 r, .slice (some ⟨g7, 0, none⟩) m.length c7] 29)
    have F8 := BX.made w7 29 [.int .i64 c, .int .i64 h, .int .i64 (P : Int), .int .i64 s, .slice (some ⟨g4, 0, none⟩) l.length c4, .int .i64 (K : Int), .int .i64 r, .slice (some ⟨g7, 0, none⟩) m.length c7]
    have hc1 := (World.cell?_alloc_lt w7 (.cells #[.int .i64 c, .int .i64 h, .int .i64 (P : Int), .int .i64 s, .slice (some ⟨g4, 0, none⟩) l.length c4, .int .i64 (K : Int), .int .i64 r, .slice (some ⟨g7, 0, none⟩) m.length c7] 29) ⟨g5, j, none⟩ (by simp; omega)).trans hc2
    generalize hG : w7.heap.size = G at F8 lt4 lt7 hx7 ⊢
    clear hc2
    generalize w7.alloc (.cells #[.int .i64 c, .int .i64 h, .int .i64 (P : Int), .int .i64 s, .slice (some ⟨g4, 0, none⟩) l.length c4, .int .i64 (K : Int), .int .i64 r, .slice (some ⟨g7, 0, none⟩) m.length c7] 29) = w8 at *
    have n84 : G ≠ g4 := by omega
    have n87 : G ≠ g7 := by omega
    have n64 : w.heap.size + 1 ≠ g4 := by omega
    have n67 : w.heap.size + 1 ≠ g7 := by omega
    have n34 : w.heap.size ≠ g4 := by omega
    have n54 : g5 ≠ g4 := by omega
    have n74 : g7 ≠ g4 := by
      intro e
      rcases hne with h | h
      · cases h
      · exact h (by rw [e]; rfl)
    have o74 : (Value.slice (some ⟨g7, 0, none⟩) m.length c7).ownBlock ≠ some g4 := fun e => n74 (by injection e)
    have o47 : (Value.slice (some ⟨g4, 0, none⟩) l.length c4).ownBlock ≠ some g7 := fun e => n74 (by injection e with e; exact e.symm)
    have hw4 : w.heap.size ≤ g4 := by omega
    have hw7 : w.heap.size ≤ g7 := by omega
    have hw4' : w.heap.size + 2 ≤ g4 := by omega
    have hw7' : w.heap.size + 2 ≤ g7 := by omega
    have kb0 : Y * 2 < l.length * 2 := by omega
    have kb1 : Y * 2 + 1 < l.length * 2 := by omega
    have a0 := (hB.cell (p := ⟨ba, off + B, none⟩) hba).trans hm0
    have a1 := (hB.cell (p := ⟨b2, off2 + X * 2, none⟩) hb2).trans hs0'
    have a2 := (hB.cell (p := ⟨b2, off2 + X * 2 + 1, none⟩) hb2).trans hs1'
    have a3 : (_ : Option Value) = some (.slice (some ⟨b2, off2, none⟩) l.length cp) := F3.cell 4 (by simp)
    have a4 : (_ : Option Value) = some (.slice (some ⟨ba, off, none⟩) m.length q) := F3.cell 7 (by simp)
    have n0 := World.new_ne w8 _ a0
    have n1 := World.new_ne w8 _ a1
    have n2 := World.new_ne w8 _ a2
    have n3 := World.new_ne w8 _ a3
    have n4 := World.new_ne w8 _ a4
    go_region_held3 (fun W => W.cell? ⟨ba, off + B, none⟩ = some (.int .i64 (X : Int)) ∧ W.cell? ⟨b2, off2 + X * 2, none⟩ = some (.string dat) ∧ W.cell? ⟨b2, off2 + X * 2 + 1, none⟩ = some (.int .i64 st) ∧ W.cell? ⟨w.heap.size, 4, none⟩ = some (.slice (some ⟨b2, off2, none⟩) l.length cp) ∧ W.cell? ⟨w.heap.size, 7, none⟩ = some (.slice (some ⟨ba, off, none⟩) m.length q)) (go_keep) (fail)
    go_upto_region 11 with fail
    clear n0 n1 n2 n3 n4 a0 a1 a2 a3 a4
    have ltS := F8.lt
    have lt4b := World.ownsRow.lt ho4 g4 rfl
    have lt7b := World.ownsRow.lt ho7 g7 rfl
    have lt5b := World.ownsRow.lt ho5 g5 rfl
    replace F3 := BX.al F3 (.cells #[.string dat, .int .i64 st] 53)
    replace F6 := BX.al F6 (.cells #[.string dat, .int .i64 st] 53)
    replace F8 := BX.al F8 (.cells #[.string dat, .int .i64 st] 53)
    replace ho5 := OO.al ho5 (.cells #[.string dat, .int .i64 st] 53)
    replace ho4 := OO.al ho4 (.cells #[.string dat, .int .i64 st] 53)
    replace ho7 := OO.al ho7 (.cells #[.string dat, .int .i64 st] 53)
    replace hB := BB.al hB (.cells #[.string dat, .int .i64 st] 53)
    replace F3 := BX.dr F3
    replace F6 := BX.dr F6
    replace F8 := BX.dr F8
    replace ho5 : OO _ _ _ _ _ _ _ := OO.dr ho5
    replace ho4 : OO _ _ _ _ _ _ _ := OO.dr ho4
    replace ho7 : OO _ _ _ _ _ _ _ := OO.dr ho7
    replace hB : BB w _ := BB.dr hB
    have FS : BX (w8.alloc (.cells #[.string dat, .int .i64 st] 53)).drew w8.heap.size 53 [.string dat, .int .i64 st] := BX.made w8 53 [.string dat, .int .i64 st]
    replace hc1 : (w8.alloc (.cells #[.string dat, .int .i64 st] 53)).drew.cell? ⟨g5, j, none⟩ = _ := (World.cell?_alloc_lt w8 (.cells #[.string dat, .int .i64 st] 53) ⟨g5, j, none⟩ (cell_spot hc1).2).trans hc1
    obtain ⟨GS, hGS⟩ : ∃ GS, GS = w8.heap.size := ⟨_, rfl⟩
    rw [← hGS] at FS ltS lt4b lt7b lt5b
    rw [← hGS]
    generalize (w8.alloc (.cells #[.string dat, .int .i64 st] 53)).drew = w9 at *
    clear hGS
    have l36 := F3.lt
    have nS3 : w.heap.size ≠ GS := by omega
    have nS6 : w.heap.size + 1 ≠ GS := by omega
    have nS8 : G ≠ GS := by omega
    have nS5 : g5 ≠ GS := by omega
    have oS4 : (Value.slice (some ⟨g4, 0, none⟩) l.length c4).ownBlock ≠ some GS := fun e => absurd (show g4 = GS by injection e) (by omega)
    have oS7 : (Value.slice (some ⟨g7, 0, none⟩) m.length c7).ownBlock ≠ some GS := fun e => absurd (show g7 = GS by injection e) (by omega)
    have oS5 : (Value.slice (some ⟨g5, 0, none⟩) ord.length c5).ownBlock ≠ some GS := fun e => absurd (show g5 = GS by injection e) (by omega)
    have o54 : (Value.slice (some ⟨g5, 0, none⟩) ord.length c5).ownBlock ≠ some g4 := fun e => n54 (by injection e)
    have n4S : GS ≠ g4 := by omega
    have n7S : GS ≠ g7 := by omega
    have n57 : g5 ≠ g7 := by omega
    have n37 : w.heap.size ≠ g7 := by omega
    have hwS : w.heap.size ≤ GS := by omega
    have f0 : (_ : Option Value) = some (.string dat) := FS.cell 0 (by simp)
    have f1 : (_ : Option Value) = some (.int .i64 st) := FS.cell 1 (by simp)
    cases g : rdB st
    · have HL2 := HL.out
      rw [g] at HL2
      simp only [Bool.false_eq_true, if_false] at HL2
      go_upto_region 14 with (first
            | (go_at_call 51; refine (l01Zeros_any nb _ (by omega)).mono ?_; rintro e w11 ⟨rfl, hx11⟩; clear f0 f1 f2 e3; replace hc2 := (hx11.cell (p := ⟨g5, j, none⟩) (cell_spot hc2).2).trans hc2; replace F3 := BX.below F3 hx11 F3.lt; replace F6 := BX.below F6 hx11 F6.lt; replace F8 := BX.below F8 hx11 F8.lt; replace FS := BX.below FS hx11 FS.lt; replace ho5 := OO.next ho5 hx11; replace ho4 := OO.next ho4 hx11; replace ho7 := OO.next ho7 hx11; replace hB := BB.next hB hx11; have FZ := FS.put 0 (.string (zerosB nb)); have f0 : (_ : Option Value) = some (.string dat) := FS.cell 0 (by simp); have f2 := fun j => FS.free j; have f3 := fun j => FZ.free j; have f4 : (_ : Option Value) = some (.int .i64 st) := FZ.cell 1 (by simp))
            | (go_at_call 16; refine (l12Bytes_any s s1 s2 _).mono ?_; rintro e w9' ⟨rfl, rfl⟩; rw [y1])
            | (go_at_call 50; refine (l15Readable_any dat st _).mono ?_; rintro e w10 ⟨rfl, hx10⟩; rw [g]; have hc2 := (hx10.cell (p := ⟨g5, j, none⟩) (cell_spot hc1).2).trans hc1; replace F3 := BX.below F3 hx10 F3.lt; replace F6 := BX.below F6 hx10 F6.lt; replace F8 := BX.below F8 hx10 F8.lt; replace FS := BX.below FS hx10 FS.lt; replace ho5 := OO.next ho5 hx10; replace ho4 := OO.next ho4 hx10; replace ho7 := OO.next ho7 hx10; replace hB := BB.next hB hx10; clear f0 f1; have f0 : (_ : Option Value) = some (.string dat) := FS.cell 0 (by simp); have f1 : (_ : Option Value) = some (.int .i64 st) := FS.cell 1 (by simp); have f2 := fun j => FS.free j; have e3 : (_ : Option Value) = some (.int .i64 s) := F3.cell 3 (by simp); have mk2 := True.intro))
      clear f0 f2 f3 f4 FZ
      have g3 := ((F3.far (a := ⟨GS, 0, none⟩) nS3 (.string (zerosB nb))).far (a := ⟨GS, 1, none⟩) nS3 (.int .i64 1))
      have g6 := ((F6.far (a := ⟨GS, 0, none⟩) nS6 (.string (zerosB nb))).far (a := ⟨GS, 1, none⟩) nS6 (.int .i64 1))
      have g8 := ((F8.far (a := ⟨GS, 0, none⟩) nS8 (.string (zerosB nb))).far (a := ⟨GS, 1, none⟩) nS8 (.int .i64 1))
      have gS := ((FS.put 0 (.string (zerosB nb))).put 1 (.int .i64 1))
      have q5 := ((ho5.putne (a := ⟨GS, 0, none⟩) oS5 (.string (zerosB nb))).putne (a := ⟨GS, 1, none⟩) oS5 (.int .i64 1))
      have q4 := ((ho4.putne (a := ⟨GS, 0, none⟩) oS4 (.string (zerosB nb))).putne (a := ⟨GS, 1, none⟩) oS4 (.int .i64 1))
      have q7 := ((ho7.putne (a := ⟨GS, 0, none⟩) oS7 (.string (zerosB nb))).putne (a := ⟨GS, 1, none⟩) oS7 (.int .i64 1))
      have qB := ((hB.put (a := ⟨GS, 0, none⟩) hwS (.string (zerosB nb))).put (a := ⟨GS, 1, none⟩) hwS (.int .i64 1))
      have hc3 := ((World.cell?_setCell_other (w11.setCell ⟨GS, 0, none⟩ (.string (zerosB nb))) ⟨GS, 1, none⟩ ⟨g5, j, none⟩ (.int .i64 1) (fun e => nS5 (congrArg Addr.block e.symm))).trans ((World.cell?_setCell_other w11 ⟨GS, 0, none⟩ ⟨g5, j, none⟩ (.string (zerosB nb)) (fun e => nS5 (congrArg Addr.block e.symm))).trans hc2))
      clear F3 F6 F8 FS ho5 ho4 ho7 hB hc1 hc2
      generalize ((w11.setCell ⟨GS, 0, none⟩ (.string (zerosB nb))).setCell ⟨GS, 1, none⟩ (.int .i64 1)) = w12 at g3 g6 g8 gS q5 q4 q7 qB hc3 ⊢
      have d4 : (_ : Option Value) = some (.slice (some ⟨g4, 0, none⟩) l.length c4) := g8.cell 4 (by simp)
      have f0 : (_ : Option Value) = some (.string (zerosB nb)) := gS.cell 0 (by simp)
      have f1 : (_ : Option Value) = some (.int .i64 1) := gS.cell 1 (by simp)
      refine wp_region_still_tail 8 (by kernel_rfl) (by kernel_rfl) ?_
      simp only [List.take_succ_cons, List.take_zero, List.drop_succ_cons, List.drop_zero]
      repeat still_step
      refine wpStill_nil ?_
      change wpList _ _ _ _ _ w12.drew
      clear d4 f0 f1
      replace hc3 : w12.drew.cell? ⟨g5, j, none⟩ = _ := hc3
      replace g3 := BX.dr g3
      replace g6 := BX.dr g6
      replace g8 := BX.dr g8
      replace gS := BX.dr gS
      replace q5 : OO _ _ _ _ _ _ _ := OO.dr q5
      replace q4 : OO _ _ _ _ _ _ _ := OO.dr q4
      replace q7 : OO _ _ _ _ _ _ _ := OO.dr q7
      replace qB : BB w _ := BB.dr qB
      generalize w12.drew = w13 at g3 g6 g8 gS q5 q4 q7 qB hc3 ⊢
      have o1 := World.ownsRow.stored q4 (Y * 2) (.string (zerosB nb)) |>.1
      have o2 := World.ownsRow.stored o1 (Y * 2 + 1) (.int .i64 1) |>.1
      obtain ⟨u0, hu0⟩ := own_some q4 (Y * 2) kb0
      have hz0 := World.ownsRow.frozenAt q4 (Y * 2)
      obtain ⟨u2, hu2⟩ := own_some o1 (Y * 2 + 1) kb1
      have hz2 := World.ownsRow.frozenAt o1 (Y * 2 + 1)
      go_upto_region 15 with fail
      replace g6 := ((g6.far (a := ⟨g4, Y * 2, none⟩) n64 (.string (zerosB nb))).far (a := ⟨g4, Y * 2 + 1, none⟩) n64 (.int .i64 1))
      replace g8 := ((g8.far (a := ⟨g4, Y * 2, none⟩) n84 (.string (zerosB nb))).far (a := ⟨g4, Y * 2 + 1, none⟩) n84 (.int .i64 1))
      replace q7 := ((q7.putne (a := ⟨g4, Y * 2, none⟩) o74 (.string (zerosB nb))).putne (a := ⟨g4, Y * 2 + 1, none⟩) o74 (.int .i64 1))
      replace qB := ((qB.put (a := ⟨g4, Y * 2, none⟩) hw4 (.string (zerosB nb))).put (a := ⟨g4, Y * 2 + 1, none⟩) hw4 (.int .i64 1))
      have hc4 := ((World.cell?_setCell_other (w13.setCell ⟨g4, Y * 2, none⟩ (.string (zerosB nb))) ⟨g4, Y * 2 + 1, none⟩ ⟨g5, j, none⟩ (.int .i64 1) (fun e => n54 (congrArg Addr.block e.symm))).trans ((World.cell?_setCell_other w13 ⟨g4, Y * 2, none⟩ ⟨g5, j, none⟩ (.string (zerosB nb)) (fun e => n54 (congrArg Addr.block e.symm))).trans hc3))
      clear hu0 hz0 hu2 hz2 o1 hc3 gS g3 q5
      generalize ((w13.setCell ⟨g4, Y * 2, none⟩ (.string (zerosB nb))).setCell ⟨g4, Y * 2 + 1, none⟩ (.int .i64 1)) = w14 at g6 g8 q7 qB hc4 o2 ⊢
      have d7 : (_ : Option Value) = some (.slice (some ⟨g7, 0, none⟩) m.length c7) := g8.cell 7 (by simp)
      refine wp_region_still_tail 7 (by kernel_rfl) (by kernel_rfl) ?_
      simp only [List.take_succ_cons, List.take_zero, List.drop_succ_cons, List.drop_zero]
      repeat still_step
      refine wpStill_nil ?_
      change wpList _ _ _ _ _ w14.drew
      clear d7 hc4
      replace g6 := BX.dr g6
      replace g8 := BX.dr g8
      replace q7 : OO _ _ _ _ _ _ _ := OO.dr q7
      replace o2 : OO _ _ _ _ _ _ _ := OO.dr o2
      replace qB : BB w _ := BB.dr qB
      generalize w14.drew = w15 at g6 g8 q7 o2 qB ⊢
      have o7 := World.ownsRow.stored q7 B (.int .i64 (Y : Int)) |>.1
      obtain ⟨u7, hu7⟩ := own_some q7 B (by omega)
      have hz7 := World.ownsRow.frozenAt q7 B
      have P8 := (g8.far (a := ⟨g7, B, none⟩) n87 (.int .i64 (Y : Int)))
      have P6 := (g6.far (a := ⟨g7, B, none⟩) n67 (.int .i64 (Y : Int)))
      have o4 := OO.putne (a := ⟨g7, B, none⟩) o2 o47 (.int .i64 (Y : Int))
      have hBq := (qB.put (a := ⟨g7, B, none⟩) hw7 (.int .i64 (Y : Int)))
      have q_0 : (_ : Option Value) = some (.int .i64 c) := P8.cell 0 (by simp)
      have q_1 : (_ : Option Value) = some (.int .i64 h) := P8.cell 1 (by simp)
      have q_2 : (_ : Option Value) = some (.int .i64 (P : Int)) := P8.cell 2 (by simp)
      have q_3 : (_ : Option Value) = some (.int .i64 s) := P8.cell 3 (by simp)
      have q_4 : (_ : Option Value) = some (.slice (some ⟨g4, 0, none⟩) l.length c4) := P8.cell 4 (by simp)
      have q_5 : (_ : Option Value) = some (.int .i64 (K : Int)) := P8.cell 5 (by simp)
      have q_6 : (_ : Option Value) = some (.int .i64 r) := P8.cell 6 (by simp)
      have q_7 : (_ : Option Value) = some (.slice (some ⟨g7, 0, none⟩) m.length c7) := P8.cell 7 (by simp)
      have z0 : (_ : Option Value) = some (.int .i64 0) := P6.cell 0 (by simp)
      have z1 : (_ : Option Value) = some (.int .i64 0) := P6.cell 1 (by simp)
      have z2 : (_ : Option Value) = some (.int .i64 0) := P6.cell 2 (by simp)
      have z3 : (_ : Option Value) = some (.int .i64 0) := P6.cell 3 (by simp)
      have z4 : (_ : Option Value) = some (.slice none 0 0) := P6.cell 4 (by simp)
      have z5 : (_ : Option Value) = some (.int .i64 0) := P6.cell 5 (by simp)
      have z6 : (_ : Option Value) = some (.int .i64 0) := P6.cell 6 (by simp)
      have z7 : (_ : Option Value) = some (.slice none 0 0) := P6.cell 7 (by simp)
      have hfz := fun j => P6.free j
      go_wp2
      refine bodyPost_ret (v := .tuple #[.agg #[.int .i64 c, .int .i64 h, .int .i64 (P : Int), .int .i64 s, .slice (some ⟨g4, 0, none⟩) l.length c4, .int .i64 (K : Int), .int .i64 r, .slice (some ⟨g7, 0, none⟩) m.length c7], .int .i64 0]) (by simp [results, Try.results31, go_sem, World.cell?_setCell_other, z0, z1, z2, z3, z4, z5, z6, z7]) rfl ⟨_, _, by rw [HR.out.1, HR.out.2]; rfl, ?_, ?_, hne, ?_⟩
      · rw [HR.out.1, HL2, List.length_set, ← setS l Y hYl ⟨(zerosB nb), 1⟩]
        have o3 : OO _ (w.heap.size + 2) _ _ _ _ (putV (flat fSector l) (Y * 2) (fSector ⟨(zerosB nb), 1⟩)) := own_base (base' := w.heap.size + 2) o4 (by omega)
        exact own_base (base' := w.heap.size) ((((((((o3.put (a := ⟨w.heap.size + 1, 0, none⟩) (by simp) (.int .i64 c)).put (a := ⟨w.heap.size + 1, 1, none⟩) (by simp) (.int .i64 h)).put (a := ⟨w.heap.size + 1, 2, none⟩) (by simp) (.int .i64 (P : Int))).put (a := ⟨w.heap.size + 1, 3, none⟩) (by simp) (.int .i64 s)).put (a := ⟨w.heap.size + 1, 4, none⟩) (by simp) (.slice (some ⟨g4, 0, none⟩) l.length c4)).put (a := ⟨w.heap.size + 1, 5, none⟩) (by simp) (.int .i64 (K : Int))).put (a := ⟨w.heap.size + 1, 6, none⟩) (by simp) (.int .i64 r)).put (a := ⟨w.heap.size + 1, 7, none⟩) (by simp) (.slice (some ⟨g7, 0, none⟩) m.length c7)) (by omega)
      · rw [HR.out.1, HM.out, List.length_set, ← setI]
        have o3 : OO _ (w.heap.size + 2) _ _ _ _ ((flat fI m).set B (.int .i64 (Y : Int))) := own_base (base' := w.heap.size + 2) o7 (by omega)
        exact own_base (base' := w.heap.size) ((((((((o3.put (a := ⟨w.heap.size + 1, 0, none⟩) (by simp) (.int .i64 c)).put (a := ⟨w.heap.size + 1, 1, none⟩) (by simp) (.int .i64 h)).put (a := ⟨w.heap.size + 1, 2, none⟩) (by simp) (.int .i64 (P : Int))).put (a := ⟨w.heap.size + 1, 3, none⟩) (by simp) (.int .i64 s)).put (a := ⟨w.heap.size + 1, 4, none⟩) (by simp) (.slice (some ⟨g4, 0, none⟩) l.length c4)).put (a := ⟨w.heap.size + 1, 5, none⟩) (by simp) (.int .i64 (K : Int))).put (a := ⟨w.heap.size + 1, 6, none⟩) (by simp) (.int .i64 r)).put (a := ⟨w.heap.size + 1, 7, none⟩) (by simp) (.slice (some ⟨g7, 0, none⟩) m.length c7)) (by omega)
      · exact ((((((((hBq.put (a := ⟨w.heap.size + 1, 0, none⟩) (by simp) (.int .i64 c)).put (a := ⟨w.heap.size + 1, 1, none⟩) (by simp) (.int .i64 h)).put (a := ⟨w.heap.size + 1, 2, none⟩) (by simp) (.int .i64 (P : Int))).put (a := ⟨w.heap.size + 1, 3, none⟩) (by simp) (.int .i64 s)).put (a := ⟨w.heap.size + 1, 4, none⟩) (by simp) (.slice (some ⟨g4, 0, none⟩) l.length c4)).put (a := ⟨w.heap.size + 1, 5, none⟩) (by simp) (.int .i64 (K : Int))).put (a := ⟨w.heap.size + 1, 6, none⟩) (by simp) (.int .i64 r)).put (a := ⟨w.heap.size + 1, 7, none⟩) (by simp) (.slice (some ⟨g7, 0, none⟩) m.length c7))
    · have HL2 := HL.out
      rw [g] at HL2
      simp only [if_true] at HL2
      go_upto_region 14 with (go_at_call 50; refine (l15Readable_any dat st _).mono ?_; rintro e w10 ⟨rfl, hx10⟩; rw [g]; have hc2 := (hx10.cell (p := ⟨g5, j, none⟩) (cell_spot hc1).2).trans hc1; replace F3 := BX.below F3 hx10 F3.lt; replace F6 := BX.below F6 hx10 F6.lt; replace F8 := BX.below F8 hx10 F8.lt; replace FS := BX.below FS hx10 FS.lt; replace ho5 := OO.next ho5 hx10; replace ho4 := OO.next ho4 hx10; replace ho7 := OO.next ho7 hx10; replace hB := BB.next hB hx10; clear f0 f1; have f0 : (_ : Option Value) = some (.string dat) := FS.cell 0 (by simp); have f1 : (_ : Option Value) = some (.int .i64 st) := FS.cell 1 (by simp); have f2 := fun j => FS.free j; have e3 : (_ : Option Value) = some (.int .i64 s) := F3.cell 3 (by simp); have mk2 := True.intro)
      clear f0 f1 f2 e3
      have g3 := (F3.far (a := ⟨GS, 1, none⟩) nS3 (.int .i64 1))
      have g6 := (F6.far (a := ⟨GS, 1, none⟩) nS6 (.int .i64 1))
      have g8 := (F8.far (a := ⟨GS, 1, none⟩) nS8 (.int .i64 1))
      have gS := (FS.put 1 (.int .i64 1))
      have q5 := (ho5.putne (a := ⟨GS, 1, none⟩) oS5 (.int .i64 1))
      have q4 := (ho4.putne (a := ⟨GS, 1, none⟩) oS4 (.int .i64 1))
      have q7 := (ho7.putne (a := ⟨GS, 1, none⟩) oS7 (.int .i64 1))
      have qB := (hB.put (a := ⟨GS, 1, none⟩) hwS (.int .i64 1))
      have hc3 := ((World.cell?_setCell_other w10 ⟨GS, 1, none⟩ ⟨g5, j, none⟩ (.int .i64 1) (fun e => nS5 (congrArg Addr.block e.symm))).trans hc2)
      clear F3 F6 F8 FS ho5 ho4 ho7 hB hc1 hc2
      generalize (w10.setCell ⟨GS, 1, none⟩ (.int .i64 1)) = w12 at g3 g6 g8 gS q5 q4 q7 qB hc3 ⊢
      have d4 : (_ : Option Value) = some (.slice (some ⟨g4, 0, none⟩) l.length c4) := g8.cell 4 (by simp)
      have f0 : (_ : Option Value) = some (.string dat) := gS.cell 0 (by simp)
      have f1 : (_ : Option Value) = some (.int .i64 1) := gS.cell 1 (by simp)
      refine wp_region_still_tail 8 (by kernel_rfl) (by kernel_rfl) ?_
      simp only [List.take_succ_cons, List.take_zero, List.drop_succ_cons, List.drop_zero]
      repeat still_step
      refine wpStill_nil ?_
      change wpList _ _ _ _ _ w12.drew
      clear d4 f0 f1
      replace hc3 : w12.drew.cell? ⟨g5, j, none⟩ = _ := hc3
      replace g3 := BX.dr g3
      replace g6 := BX.dr g6
      replace g8 := BX.dr g8
      replace gS := BX.dr gS
      replace q5 : OO _ _ _ _ _ _ _ := OO.dr q5
      replace q4 : OO _ _ _ _ _ _ _ := OO.dr q4
      replace q7 : OO _ _ _ _ _ _ _ := OO.dr q7
      replace qB : BB w _ := BB.dr qB
      generalize w12.drew = w13 at g3 g6 g8 gS q5 q4 q7 qB hc3 ⊢
      have o1 := World.ownsRow.stored q4 (Y * 2) (.string dat) |>.1
      have o2 := World.ownsRow.stored o1 (Y * 2 + 1) (.int .i64 1) |>.1
      obtain ⟨u0, hu0⟩ := own_some q4 (Y * 2) kb0
      have hz0 := World.ownsRow.frozenAt q4 (Y * 2)
      obtain ⟨u2, hu2⟩ := own_some o1 (Y * 2 + 1) kb1
      have hz2 := World.ownsRow.frozenAt o1 (Y * 2 + 1)
      go_upto_region 15 with fail
      replace g6 := ((g6.far (a := ⟨g4, Y * 2, none⟩) n64 (.string dat)).far (a := ⟨g4, Y * 2 + 1, none⟩) n64 (.int .i64 1))
      replace g8 := ((g8.far (a := ⟨g4, Y * 2, none⟩) n84 (.string dat)).far (a := ⟨g4, Y * 2 + 1, none⟩) n84 (.int .i64 1))
      replace q7 := ((q7.putne (a := ⟨g4, Y * 2, none⟩) o74 (.string dat)).putne (a := ⟨g4, Y * 2 + 1, none⟩) o74 (.int .i64 1))
      replace qB := ((qB.put (a := ⟨g4, Y * 2, none⟩) hw4 (.string dat)).put (a := ⟨g4, Y * 2 + 1, none⟩) hw4 (.int .i64 1))
      have hc4 := ((World.cell?_setCell_other (w13.setCell ⟨g4, Y * 2, none⟩ (.string dat)) ⟨g4, Y * 2 + 1, none⟩ ⟨g5, j, none⟩ (.int .i64 1) (fun e => n54 (congrArg Addr.block e.symm))).trans ((World.cell?_setCell_other w13 ⟨g4, Y * 2, none⟩ ⟨g5, j, none⟩ (.string dat) (fun e => n54 (congrArg Addr.block e.symm))).trans hc3))
      clear hu0 hz0 hu2 hz2 o1 hc3 gS g3 q5
      generalize ((w13.setCell ⟨g4, Y * 2, none⟩ (.string dat)).setCell ⟨g4, Y * 2 + 1, none⟩ (.int .i64 1)) = w14 at g6 g8 q7 qB hc4 o2 ⊢
      have d7 : (_ : Option Value) = some (.slice (some ⟨g7, 0, none⟩) m.length c7) := g8.cell 7 (by simp)
      refine wp_region_still_tail 7 (by kernel_rfl) (by kernel_rfl) ?_
      simp only [List.take_succ_cons, List.take_zero, List.drop_succ_cons, List.drop_zero]
      repeat still_step
      refine wpStill_nil ?_
      change wpList _ _ _ _ _ w14.drew
      clear d7 hc4
      replace g6 := BX.dr g6
      replace g8 := BX.dr g8
      replace q7 : OO _ _ _ _ _ _ _ := OO.dr q7
      replace o2 : OO _ _ _ _ _ _ _ := OO.dr o2
      replace qB : BB w _ := BB.dr qB
      generalize w14.drew = w15 at g6 g8 q7 o2 qB ⊢
      have o7 := World.ownsRow.stored q7 B (.int .i64 (Y : Int)) |>.1
      obtain ⟨u7, hu7⟩ := own_some q7 B (by omega)
      have hz7 := World.ownsRow.frozenAt q7 B
      have P8 := (g8.far (a := ⟨g7, B, none⟩) n87 (.int .i64 (Y : Int)))
      have P6 := (g6.far (a := ⟨g7, B, none⟩) n67 (.int .i64 (Y : Int)))
      have o4 := OO.putne (a := ⟨g7, B, none⟩) o2 o47 (.int .i64 (Y : Int))
      have hBq := (qB.put (a := ⟨g7, B, none⟩) hw7 (.int .i64 (Y : Int)))
      have q_0 : (_ : Option Value) = some (.int .i64 c) := P8.cell 0 (by simp)
      have q_1 : (_ : Option Value) = some (.int .i64 h) := P8.cell 1 (by simp)
      have q_2 : (_ : Option Value) = some (.int .i64 (P : Int)) := P8.cell 2 (by simp)
      have q_3 : (_ : Option Value) = some (.int .i64 s) := P8.cell 3 (by simp)
      have q_4 : (_ : Option Value) = some (.slice (some ⟨g4, 0, none⟩) l.length c4) := P8.cell 4 (by simp)
      have q_5 : (_ : Option Value) = some (.int .i64 (K : Int)) := P8.cell 5 (by simp)
      have q_6 : (_ : Option Value) = some (.int .i64 r) := P8.cell 6 (by simp)
      have q_7 : (_ : Option Value) = some (.slice (some ⟨g7, 0, none⟩) m.length c7) := P8.cell 7 (by simp)
      have z0 : (_ : Option Value) = some (.int .i64 0) := P6.cell 0 (by simp)
      have z1 : (_ : Option Value) = some (.int .i64 0) := P6.cell 1 (by simp)
      have z2 : (_ : Option Value) = some (.int .i64 0) := P6.cell 2 (by simp)
      have z3 : (_ : Option Value) = some (.int .i64 0) := P6.cell 3 (by simp)
      have z4 : (_ : Option Value) = some (.slice none 0 0) := P6.cell 4 (by simp)
      have z5 : (_ : Option Value) = some (.int .i64 0) := P6.cell 5 (by simp)
      have z6 : (_ : Option Value) = some (.int .i64 0) := P6.cell 6 (by simp)
      have z7 : (_ : Option Value) = some (.slice none 0 0) := P6.cell 7 (by simp)
      have hfz := fun j => P6.free j
      go_wp2
      refine bodyPost_ret (v := .tuple #[.agg #[.int .i64 c, .int .i64 h, .int .i64 (P : Int), .int .i64 s, .slice (some ⟨g4, 0, none⟩) l.length c4, .int .i64 (K : Int), .int .i64 r, .slice (some ⟨g7, 0, none⟩) m.length c7], .int .i64 0]) (by simp [results, Try.results31, go_sem, World.cell?_setCell_other, z0, z1, z2, z3, z4, z5, z6, z7]) rfl ⟨_, _, by rw [HR.out.1, HR.out.2]; rfl, ?_, ?_, hne, ?_⟩
      · rw [HR.out.1, HL2, List.length_set, ← setS l Y hYl ⟨dat, 1⟩]
        have o3 : OO _ (w.heap.size + 2) _ _ _ _ (putV (flat fSector l) (Y * 2) (fSector ⟨dat, 1⟩)) := own_base (base' := w.heap.size + 2) o4 (by omega)
        exact own_base (base' := w.heap.size) ((((((((o3.put (a := ⟨w.heap.size + 1, 0, none⟩) (by simp) (.int .i64 c)).put (a := ⟨w.heap.size + 1, 1, none⟩) (by simp) (.int .i64 h)).put (a := ⟨w.heap.size + 1, 2, none⟩) (by simp) (.int .i64 (P : Int))).put (a := ⟨w.heap.size + 1, 3, none⟩) (by simp) (.int .i64 s)).put (a := ⟨w.heap.size + 1, 4, none⟩) (by simp) (.slice (some ⟨g4, 0, none⟩) l.length c4)).put (a := ⟨w.heap.size + 1, 5, none⟩) (by simp) (.int .i64 (K : Int))).put (a := ⟨w.heap.size + 1, 6, none⟩) (by simp) (.int .i64 r)).put (a := ⟨w.heap.size + 1, 7, none⟩) (by simp) (.slice (some ⟨g7, 0, none⟩) m.length c7)) (by omega)
      · rw [HR.out.1, HM.out, List.length_set, ← setI]
        have o3 : OO _ (w.heap.size + 2) _ _ _ _ ((flat fI m).set B (.int .i64 (Y : Int))) := own_base (base' := w.heap.size + 2) o7 (by omega)
        exact own_base (base' := w.heap.size) ((((((((o3.put (a := ⟨w.heap.size + 1, 0, none⟩) (by simp) (.int .i64 c)).put (a := ⟨w.heap.size + 1, 1, none⟩) (by simp) (.int .i64 h)).put (a := ⟨w.heap.size + 1, 2, none⟩) (by simp) (.int .i64 (P : Int))).put (a := ⟨w.heap.size + 1, 3, none⟩) (by simp) (.int .i64 s)).put (a := ⟨w.heap.size + 1, 4, none⟩) (by simp) (.slice (some ⟨g4, 0, none⟩) l.length c4)).put (a := ⟨w.heap.size + 1, 5, none⟩) (by simp) (.int .i64 (K : Int))).put (a := ⟨w.heap.size + 1, 6, none⟩) (by simp) (.int .i64 r)).put (a := ⟨w.heap.size + 1, 7, none⟩) (by simp) (.slice (some ⟨g7, 0, none⟩) m.length c7)) (by omega)
      · exact ((((((((hBq.put (a := ⟨w.heap.size + 1, 0, none⟩) (by simp) (.int .i64 c)).put (a := ⟨w.heap.size + 1, 1, none⟩) (by simp) (.int .i64 h)).put (a := ⟨w.heap.size + 1, 2, none⟩) (by simp) (.int .i64 (P : Int))).put (a := ⟨w.heap.size + 1, 3, none⟩) (by simp) (.int .i64 s)).put (a := ⟨w.heap.size + 1, 4, none⟩) (by simp) (.slice (some ⟨g4, 0, none⟩) l.length c4)).put (a := ⟨w.heap.size + 1, 5, none⟩) (by simp) (.int .i64 (K : Int))).put (a := ⟨w.heap.size + 1, 6, none⟩) (by simp) (.int .i64 r)).put (a := ⟨w.heap.size + 1, 7, none⟩) (by simp) (.slice (some ⟨g7, 0, none⟩) m.length c7))
end Go.Proofs.Ytcfeelecfmepaaa
namespace Go.Proofs.Ytcfeelecfmepaaa
set_option linter.unusedVariables false
open Go.RowKit

/-- The sectors after the blocks of a list were stored. -/
def stG : List DSector → List Int → List ByteArray → List DSector
  | cur, x :: m, b :: t => stG (cur.set x.toNat ⟨b, 1⟩) m t
  | cur, [], _ => cur
  | cur, _ :: _, [] => cur
def szA (z : Int) (t : List ByteArray) : Bool := t.all (fun b => decide ((b.size : Int) = z))
def stOk (ok : Bool) (n : Nat) (z : Int) (t : List ByteArray) : Bool := ok && decide (t.length = n) && szA z t
def stC (ok : Bool) (n : Nat) (z : Int) (t : List ByteArray) : Int := if ok then (if decide (t.length = n) && szA z t then 0 else 7) else 1
def stL (g : Bool) (l : List DSector) (m : List Int) (t : List ByteArray) : List DSector := if g then stG l m t else []
theorem stG_len : ∀ (m : List Int) (t : List ByteArray) (cur : List DSector), (stG cur m t).length = cur.length
  | [], _, _ => by rw [stG]
  | _ :: _, [], _ => by rw [stG]
  | x :: m, b :: t, cur => by rw [stG, stG_len m t, List.length_set]
theorem stL_len (g : Bool) (l : List DSector) (m : List Int) (t : List ByteArray) : (stL g l m t).length ≤ l.length := by
  unfold stL
  split
  · rw [stG_len]; exact Nat.le_refl _
  · simp
section
variable {cur R : List DSector} {m : List Int} {t : List ByteArray} {j n : Nat} {z : Int} {S : Bool}
theorem stG_step {X : Nat} {b : ByteArray} (h1 : j < m.length) (h2 : j < t.length) (hX : m[j] = (X : Int)) (hb : t[j] = b) (e : stG cur (m.drop j) (t.drop j) = R) : stG (cur.set X ⟨b, 1⟩) (m.drop (j + 1)) (t.drop (j + 1)) = R := by
  rw [List.drop_eq_getElem_cons h1, List.drop_eq_getElem_cons h2, stG, hX, hb, Int.toNat_natCast] at e
  exact e
theorem stG_end {l : List DSector} (h2 : ¬ j < t.length) (e : stG cur (m.drop j) (t.drop j) = R) : stL true l m t = R → stL true l m t = cur := by
  intro h
  rw [h, ← e, List.drop_eq_nil_of_le (by omega : t.length ≤ j)]
  cases m.drop j <;> rw [stG]
theorem sz_next (h : j < t.length) (hs : szA z (t.drop j) = S) (g : (t[j].size : Int) = z) : szA z (t.drop (j + 1)) = S := by
  rw [← hs, List.drop_eq_getElem_cons h, szA, szA, List.all_cons, decide_eq_true g, Bool.true_and]
theorem sz_no (h : j < t.length) (hs : szA z (t.drop j) = S) (g : ¬ (t[j].size : Int) = z) : S = false := by
  rw [← hs, List.drop_eq_getElem_cons h, szA, List.all_cons, decide_eq_false g, Bool.false_and]
theorem sz_end (h : ¬ j < t.length) (hs : szA z (t.drop j) = S) : S = true := by
  rw [← hs, List.drop_eq_nil_of_le (by omega)]
  rfl
theorem st_1 : stOk false n z t = false ∧ stC false n z t = 1 := by simp [stOk, stC]
theorem st_2 (h : ¬ t.length = n) : stOk true n z t = false ∧ stC true n z t = 7 := by simp [stOk, stC, h]
theorem st_3 (h : szA z t = false) : stOk true n z t = false ∧ stC true n z t = 7 := by simp [stOk, stC, h]
theorem st_4 (h1 : t.length = n) (h2 : szA z t = true) : stOk true n z t = true ∧ stC true n z t = 0 := by simp [stOk, stC, h1, h2]
end
end Go.Proofs.Ytcfeelecfmepaaa
namespace Go.Proofs.Ytcfeelecfmepaaa
set_option linter.unusedVariables false
open Go.RowKit

def abS (l : List DSector) (x : Int) : DSector := l.getD x.toNat noSec
def abV (l : List DSector) (n : Nat) (x : Int) : ByteArray := if rdB (abS l x).f1 then (abS l x).f0 else zerosB n
/-- The contents of the blocks, and the numbers of those that cannot be read. -/
def abL (l : List DSector) (n : Nat) (m : List Int) : List ByteArray := m.map (abV l n)
def abD (l : List DSector) : Nat → List Int → List Int
  | _, [] => []
  | i, x :: m => if rdB (abS l x).f1 then abD l (i + 1) m else (i : Int) :: abD l (i + 1) m
def abLL (ok : Bool) (l : List DSector) (n : Nat) (m : List Int) : List ByteArray := if ok then abL l n m else []
def abDD (ok : Bool) (l : List DSector) (m : List Int) : List Int := if ok then abD l 0 m else []
def abC (ok : Bool) : Int := if ok then 0 else 1
theorem abD_len (l : List DSector) : ∀ (m : List Int) (i : Nat), (abD l i m).length ≤ m.length
  | [], _ => by simp [abD]
  | x :: m, i => by
    have := abD_len l m (i + 1)
    rw [abD]
    split <;> simp only [List.length_cons] <;> omega
theorem abLL_len (ok : Bool) (l : List DSector) (n : Nat) (m : List Int) : (abLL ok l n m).length ≤ m.length := by
  unfold abLL
  split <;> simp [abL]
theorem abDD_len (ok : Bool) (l : List DSector) (m : List Int) : (abDD ok l m).length ≤ m.length := by
  unfold abDD
  split
  · exact abD_len l m 0
  · simp
section
variable {l : List DSector} {m : List Int} {n j X : Nat} {o5 R5 : List ByteArray} {o6 R6 : List Int}
theorem abS_at {x : Int} (hX : x = (X : Int)) (h : X < l.length) : abS l x = l[X] := by
  rw [abS, hX, Int.toNat_natCast]
  simp [h]
theorem ab_5 {v : ByteArray} (h : j < m.length) (hv : abV l n m[j] = v) (e : o5 ++ abL l n (m.drop j) = R5) : (o5 ++ [v]) ++ abL l n (m.drop (j + 1)) = R5 := by
  rw [List.drop_eq_getElem_cons h, abL, List.map_cons, hv] at e
  rw [List.append_assoc]
  exact e
theorem ab_6y (h : j < m.length) (g : rdB (abS l m[j]).f1 = true) (e : o6 ++ abD l j (m.drop j) = R6) : o6 ++ abD l (j + 1) (m.drop (j + 1)) = R6 := by
  rw [List.drop_eq_getElem_cons h, abD, if_pos g] at e
  exact e
theorem ab_6n (h : j < m.length) (g : rdB (abS l m[j]).f1 = false) (e : o6 ++ abD l j (m.drop j) = R6) : (o6 ++ [(j : Int)]) ++ abD l (j + 1) (m.drop (j + 1)) = R6 := by
  rw [List.drop_eq_getElem_cons h, abD, if_neg (by rw [g]; decide)] at e
  rw [List.append_assoc]
  exact e
theorem ab_5e (h : ¬ j < m.length) (e : o5 ++ abL l n (m.drop j) = R5) : R5 = o5 := by
  rw [← e, List.drop_eq_nil_of_le (by omega), abL, List.map_nil, List.append_nil]
theorem ab_6e (h : ¬ j < m.length) (e : o6 ++ abD l j (m.drop j) = R6) : R6 = o6 := by
  rw [← e, List.drop_eq_nil_of_le (by omega), abD, List.append_nil]
theorem ab_at {v : ByteArray} (h : j < m.length) (hv : abV l n m[j] = v) : (flat fS (abL l n m))[j]? = some (.string v) := by
  have := flat_get fS 1 fS_len (abL l n m) j 0 (by simpa [abL] using h) (by omega)
  rw [Nat.mul_one, Nat.add_zero] at this
  rw [this]
  simp [abL, fS, hv]
end
theorem ne_app {w : World} {base size k : Nat} {e : TypeId} {v v5 v' : Value} {xs : List Value} (h : OO w base e size v k xs) (hne : v.ownBlock = none ∨ v.ownBlock ≠ v5.ownBlock) (hat : v'.ownBlock = v5.ownBlock ∨ v'.ownBlock = some (w.heap.size + 1)) : v.ownBlock = none ∨ v.ownBlock ≠ v'.ownBlock := by
  rcases hat with hat | hat
  · rw [hat]; exact hne
  · rw [hat]
    right
    intro e
    have := World.ownsRow.lt h _ e
    omega
theorem FillC.junk {w : World} {g N m : Nat} {e : TypeId} {xs : List Value} (h : FillC w g e N xs m) (u : Value) : FillC (w.setCell ⟨g, m, none⟩ u) g e N xs m := by
  obtain ⟨cs, hg, hs, hc⟩ := h
  refine ⟨cs.setIfInBounds m u, ?_, by simpa using hs, fun j hj => ?_⟩
  · simp [World.setCell, Array.getElem?_modify, hg]
  · rw [Array.getElem?_setIfInBounds_ne (by omega)]
    exact hc j hj
theorem BB.trans' {w w1 w2 : World} (h : BB w w1) (h2 : Below (w.heap.size + 1) w1 w2) : BB w w2 := Below.trans h (h2.mono (by omega))
end Go.Proofs.Ytcfeelecfmepaaa
namespace Go.Proofs.Ytcfeelecfmepaaa
set_option linter.unusedVariables false
open Go.RowKit

theorem own_take {w : World} {base : Nat} {e : TypeId} {size n c k : Nat} {A : Option Addr} {xs : List Value} (h : w.ownsRow base e size (.slice A n c) n xs) (hk : k ≤ n) : w.ownsRow base e size (.slice A k c) k (xs.take (k * size)) := by
  have hks : k * size ≤ n * size := Nat.mul_le_mul_right _ hk
  refine ⟨by rw [List.length_take, h.1]; omega, ?_⟩
  rcases h.2 with ⟨hv, h0⟩ | ⟨g, cap, cur, hv, hb, hh, hnc, hcm, hcs, htake⟩
  · left
    injection hv with h1 h2 h3
    exact ⟨by rw [h1, h3, show k = 0 by omega], by omega⟩
  · right
    injection hv with h1 h2 h3
    refine ⟨g, cap, cur, by rw [h1, h3], hb, hh, by omega, hcm, hcs, ?_⟩
    rw [← htake, List.take_take, Nat.min_eq_left hks]
theorem flatI_take : ∀ (l : List Int) (k : Nat), (flat fI l).take (k * 1) = flat fI (l.take k)
  | _, 0 => by simp [flat]
  | [], k + 1 => by simp [flat]
  | x :: l, k + 1 => by
    have := flatI_take l k
    simp only [flat, List.map_cons, List.flatten_cons, fI, List.cons_append, List.nil_append, Nat.mul_one, List.take_succ_cons] at this ⊢
    rw [this]
theorem own_capN {w : World} {base : Nat} {e : TypeId} {size n c : Nat} {A : Option Addr} {xs : List Value} (h : w.ownsRow base e size (.slice A n c) n xs) : n ≤ c := by
  rcases h.2 with ⟨hv, h0⟩ | ⟨g, cap, cur, hv, _, _, hnc, _⟩
  · omega
  · injection hv with _ _ h3
    omega
/-- What NewDevice answers: d says that the disc is valid, N is the number of its sectors. -/
def nvOk (d : Bool) (k r : Int) (N : Nat) : Bool := d && inB k 0 7 && inB r 0 ((N : Int) - 1)
def nvC (d : Bool) (k r : Int) (N : Nat) : Int := if d then (if inB k 0 7 && inB r 0 ((N : Int) - 1) then 0 else 2) else 1
def nvL (b : Bool) (l : List DSector) : List DSector := if b then l else []
def nvM (b : Bool) (c h p k r : Int) (N : Nat) : List Int := if b then (ordT p.toNat k.toNat (c * h).toNat).take ((N : Int) - r).toNat else []
theorem nv_1 {k r : Int} {N : Nat} : nvOk false k r N = false ∧ nvC false k r N = 1 := by simp [nvOk, nvC]
theorem nv_2 {k r : Int} {N : Nat} (g : inB k 0 7 = false) : nvOk true k r N = false ∧ nvC true k r N = 2 := by simp [nvOk, nvC, g]
theorem nv_3 {k r : Int} {N : Nat} (g : inB r 0 ((N : Int) - 1) = false) : nvOk true k r N = false ∧ nvC true k r N = 2 := by simp [nvOk, nvC, g]
theorem nv_4 {k r : Int} {N : Nat} (g : inB k 0 7 = true) (g2 : inB r 0 ((N : Int) - 1) = true) : nvOk true k r N = true ∧ nvC true k r N = 0 := by simp [nvOk, nvC, g, g2]
theorem nvL_len (b : Bool) (l : List DSector) : (nvL b l).length ≤ l.length := by
  unfold nvL
  split <;> simp
theorem nvM_len (b : Bool) (c h p k r : Int) (N : Nat) (hb : b = true → 0 ≤ r) : (nvM b c h p k r N).length ≤ N := by
  unfold nvM
  split
  · rename_i g
    have := hb g
    rw [List.length_take]
    omega
  · simp
theorem nvOk_r {d : Bool} {k r : Int} {N : Nat} (h : nvOk d k r N = true) : 0 ≤ r := by
  simp only [nvOk, Bool.and_eq_true] at h
  exact (inB_yes h.2).1

set_option maxRecDepth 100000 in
set_option maxHeartbeats 2000000 in
theorem spec_NewDevice_any (c h p s : Int) (A : Option Addr) (cp : Nat) (l : List DSector) (k r : Int) (w : World) (hr : Rd w w.heap.size 2 A l.length (flat fSector l)) (hn : l.length ≤ 1048576) (hok : ∀ x ∈ l, okSector x) :
    Calls Try.prog 30 #[.agg #[.int .i64 c, .int .i64 h, .int .i64 p, .int .i64 s, .slice A l.length cp], .int .i64 k, .int .i64 r] w fun e w' => ∃ (v4 : Value) (A7 : Option Addr) (c7 c0 : Nat), e = .returned (.tuple #[.agg #[.int .i64 (ptN (nvOk (okD c h p s l) k r l.length) c), .int .i64 (ptN (nvOk (okD c h p s l) k r l.length) h), .int .i64 (ptN (nvOk (okD c h p s l) k r l.length) p), .int .i64 (ptN (nvOk (okD c h p s l) k r l.length) s), v4, .int .i64 (ptN (nvOk (okD c h p s l) k r l.length) k), .int .i64 (ptN (nvOk (okD c h p s l) k r l.length) r), .slice A7 (nvM (nvOk (okD c h p s l) k r l.length) c h p k r l.length).length c7], .int .i64 (nvC (okD c h p s l) k r l.length)]) ∧ w'.ownsRow w.heap.size 53 2 v4 (nvL (nvOk (okD c h p s l) k r l.length) l).length (flat fSector (nvL (nvOk (okD c h p s l) k r l.length) l)) ∧ w'.ownsRow w.heap.size 2 1 (.slice A7 (nvM (nvOk (okD c h p s l) k r l.length) c h p k r l.length).length c0) (nvM (nvOk (okD c h p s l) k r l.length) c h p k r l.length).length (flat fI (nvM (nvOk (okD c h p s l) k r l.length) c h p k r l.length)) ∧ (v4.ownBlock = none ∨ v4.ownBlock ≠ (Value.slice A7 (nvM (nvOk (okD c h p s l) k r l.length) c h p k r l.length).length c0).ownBlock) ∧ Below w.heap.size w w' := by
  have F3 := (BX.made w 26 [.int .i64 c, .int .i64 h, .int .i64 p, .int .i64 s, .slice A l.length cp]).al (.cells #[.int .i64 0, .int .i64 0, .int .i64 0, .int .i64 0, .slice none 0 0, .int .i64 0, .int .i64 0, .slice none 0 0] 29)
  have F6 := BX.made1 w (.cells #[.int .i64 c, .int .i64 h, .int .i64 p, .int .i64 s, .slice A l.length cp] 26) 29 [.int .i64 0, .int .i64 0, .int .i64 0, .int .i64 0, .slice none 0 0, .int .i64 0, .int .i64 0, .slice none 0 0]
  obtain ⟨wb, hwb⟩ : ∃ wb, wb = (w.alloc (.cells #[.int .i64 c, .int .i64 h, .int .i64 p, .int .i64 s, .slice A l.length cp] 26)).alloc (.cells #[.int .i64 0, .int .i64 0, .int .i64 0, .int .i64 0, .slice none 0 0, .int .i64 0, .int .i64 0, .slice none 0 0] 29) := ⟨_, rfl⟩
  rw [← hwb] at F3 F6
  have hb0 : Below w.heap.size w wb := by rw [hwb]; exact (by with_reducible repeat (first | exact Below.refl _ _ | assumption | refine below_step ?_ (by assumption) | refine Below.drew ?_ | refine below_drewN ?_ _ | refine below_alloc ?_ _ | refine Below.setCell ?_ (by simp; try omega) _))
  have hs0 : w.heap.size + 1 < wb.heap.size := F6.lt
  have hrb := (hr.below hb0).more hb0.size
  have DP3 : DP wb w.heap.size c h p s (.slice A l.length cp) := ⟨F3.cell 0 (by simp), F3.cell 1 (by simp), F3.cell 2 (by simp), F3.cell 3 (by simp), F3.cell 4 (by simp)⟩
  have HW := Lib.hid hwb
  clear hwb
  have hq := l12Ok_any w.heap.size c h p s A cp l wb DP3 hrb hn hok
  have hin1 := fun W => l00In_any k 0 7 W
  have hin2 := fun W => l00In_any r 0 ((l.length : Int) - 1) W
  cases hd : okD c h p s l
  · rw [hd] at hq
    have HR := Lib.hid (nv_1 (k := k) (r := r) (N := l.length))
    go_enter Try.func30, Try.ntmps30
    go_wp2_with (first
          | (go_at_call 42; rw [← HW.out]; refine hq.mono ?_; rintro e w2 ⟨rfl, hx⟩; replace F3 := F3.below hx F3.lt; replace F6 := F6.below hx F6.lt; have hB : Below w.heap.size w w2 := hb0.trans (hx.mono (by omega)); have e0 : (_ : Option Value) = some (.int .i64 c) := F3.cell 0 (by simp); have e1 : (_ : Option Value) = some (.int .i64 h) := F3.cell 1 (by simp); have e2 : (_ : Option Value) = some (.int .i64 p) := F3.cell 2 (by simp); have e3 : (_ : Option Value) = some (.int .i64 s) := F3.cell 3 (by simp); have e4 : (_ : Option Value) = some (.slice A l.length cp) := F3.cell 4 (by simp); have z0 : (_ : Option Value) = some (.int .i64 0) := F6.cell 0 (by simp); have z1 : (_ : Option Value) = some (.int .i64 0) := F6.cell 1 (by simp); have z2 : (_ : Option Value) = some (.int .i64 0) := F6.cell 2 (by simp); have z3 : (_ : Option Value) = some (.int .i64 0) := F6.cell 3 (by simp); have z4 : (_ : Option Value) = some (.slice none 0 0) := F6.cell 4 (by simp); have z5 : (_ : Option Value) = some (.int .i64 0) := F6.cell 5 (by simp); have z6 : (_ : Option Value) = some (.int .i64 0) := F6.cell 6 (by simp); have z7 : (_ : Option Value) = some (.slice none 0 0) := F6.cell 7 (by simp); have hfz := fun j => F6.free j; have hs2 := F6.lt))
    refine bodyPost_ret (v := .tuple #[.agg #[.int .i64 0, .int .i64 0, .int .i64 0, .int .i64 0, .slice none 0 0, .int .i64 0, .int .i64 0, .slice none 0 0], .int .i64 1]) (by simp [results, Try.results30, go_sem, World.cell?_setCell_other, z0, z1, z2, z3, z4, z5, z6, z7]) rfl ⟨.slice none 0 0, none, 0, 0, by rw [HR.out.1, HR.out.2]; rfl, ?_, ?_, .inl rfl, ?_⟩
    · rw [HR.out.1]; exact World.ownsRow_nil _ _ _ _
    · rw [HR.out.1]; exact World.ownsRow_nil _ _ _ _
    · exact (by with_reducible repeat (first | exact Below.refl _ _ | assumption | refine below_step ?_ (by assumption) | refine Below.drew ?_ | refine below_drewN ?_ _ | refine below_alloc ?_ _ | refine Below.setCell ?_ (by simp; try omega) _))
  rw [hd] at hq
  cases g1 : inB k 0 7
  · rw [g1] at hin1
    clear hd
    have HR := Lib.hid (nv_2 (r := r) (N := l.length) g1)
    go_enter Try.func30, Try.ntmps30
    go_wp2_with (first
          | (go_at_call 15; have := mk1; refine (hin2 _).mono ?_; rintro e w9 ⟨rfl, rfl⟩)
          | (go_at_call 15; refine (hin1 _).mono ?_; rintro e w9 ⟨rfl, rfl⟩; have mk1 := True.intro)
          | (go_at_call 42; rw [← HW.out]; refine hq.mono ?_; rintro e w2 ⟨rfl, hx⟩; replace F3 := F3.below hx F3.lt; replace F6 := F6.below hx F6.lt; have hB : Below w.heap.size w w2 := hb0.trans (hx.mono (by omega)); have e0 : (_ : Option Value) = some (.int .i64 c) := F3.cell 0 (by simp); have e1 : (_ : Option Value) = some (.int .i64 h) := F3.cell 1 (by simp); have e2 : (_ : Option Value) = some (.int .i64 p) := F3.cell 2 (by simp); have e3 : (_ : Option Value) = some (.int .i64 s) := F3.cell 3 (by simp); have e4 : (_ : Option Value) = some (.slice A l.length cp) := F3.cell 4 (by simp); have z0 : (_ : Option Value) = some (.int .i64 0) := F6.cell 0 (by simp); have z1 : (_ : Option Value) = some (.int .i64 0) := F6.cell 1 (by simp); have z2 : (_ : Option Value) = some (.int .i64 0) := F6.cell 2 (by simp); have z3 : (_ : Option Value) = some (.int .i64 0) := F6.cell 3 (by simp); have z4 : (_ : Option Value) = some (.slice none 0 0) := F6.cell 4 (by simp); have z5 : (_ : Option Value) = some (.int .i64 0) := F6.cell 5 (by simp); have z6 : (_ : Option Value) = some (.int .i64 0) := F6.cell 6 (by simp); have z7 : (_ : Option Value) = some (.slice none 0 0) := F6.cell 7 (by simp); have hfz := fun j => F6.free j; have hs2 := F6.lt))
    refine bodyPost_ret (v := .tuple #[.agg #[.int .i64 0, .int .i64 0, .int .i64 0, .int .i64 0, .slice none 0 0, .int .i64 0, .int .i64 0, .slice none 0 0], .int .i64 2]) (by simp [results, Try.results30, go_sem, World.cell?_setCell_other, z0, z1, z2, z3, z4, z5, z6, z7]) rfl ⟨.slice none 0 0, none, 0, 0, by rw [HR.out.1, HR.out.2]; rfl, ?_, ?_, .inl rfl, ?_⟩
    · rw [HR.out.1]; exact World.ownsRow_nil _ _ _ _
    · rw [HR.out.1]; exact World.ownsRow_nil _ _ _ _
    · exact (by with_reducible repeat (first | exact Below.refl _ _ | assumption | refine below_step ?_ (by assumption) | refine Below.drew ?_ | refine below_drewN ?_ _ | refine below_alloc ?_ _ | refine Below.setCell ?_ (by simp; try omega) _))
  rw [g1] at hin1
  cases g2 : inB r 0 ((l.length : Int) - 1)
  · rw [g2] at hin2
    clear hd
    have HR := Lib.hid (nv_3 (k := k) (N := l.length) g2)
    go_enter Try.func30, Try.ntmps30
    go_wp2_with (first
          | (go_at_call 15; have := mk1; refine (hin2 _).mono ?_; rintro e w9 ⟨rfl, rfl⟩)
          | (go_at_call 15; refine (hin1 _).mono ?_; rintro e w9 ⟨rfl, rfl⟩; have mk1 := True.intro)
          | (go_at_call 42; rw [← HW.out]; refine hq.mono ?_; rintro e w2 ⟨rfl, hx⟩; replace F3 := F3.below hx F3.lt; replace F6 := F6.below hx F6.lt; have hB : Below w.heap.size w w2 := hb0.trans (hx.mono (by omega)); have e0 : (_ : Option Value) = some (.int .i64 c) := F3.cell 0 (by simp); have e1 : (_ : Option Value) = some (.int .i64 h) := F3.cell 1 (by simp); have e2 : (_ : Option Value) = some (.int .i64 p) := F3.cell 2 (by simp); have e3 : (_ : Option Value) = some (.int .i64 s) := F3.cell 3 (by simp); have e4 : (_ : Option Value) = some (.slice A l.length cp) := F3.cell 4 (by simp); have z0 : (_ : Option Value) = some (.int .i64 0) := F6.cell 0 (by simp); have z1 : (_ : Option Value) = some (.int .i64 0) := F6.cell 1 (by simp); have z2 : (_ : Option Value) = some (.int .i64 0) := F6.cell 2 (by simp); have z3 : (_ : Option Value) = some (.int .i64 0) := F6.cell 3 (by simp); have z4 : (_ : Option Value) = some (.slice none 0 0) := F6.cell 4 (by simp); have z5 : (_ : Option Value) = some (.int .i64 0) := F6.cell 5 (by simp); have z6 : (_ : Option Value) = some (.int .i64 0) := F6.cell 6 (by simp); have z7 : (_ : Option Value) = some (.slice none 0 0) := F6.cell 7 (by simp); have hfz := fun j => F6.free j; have hs2 := F6.lt))
    refine bodyPost_ret (v := .tuple #[.agg #[.int .i64 0, .int .i64 0, .int .i64 0, .int .i64 0, .slice none 0 0, .int .i64 0, .int .i64 0, .slice none 0 0], .int .i64 2]) (by simp [results, Try.results30, go_sem, World.cell?_setCell_other, z0, z1, z2, z3, z4, z5, z6, z7]) rfl ⟨.slice none 0 0, none, 0, 0, by rw [HR.out.1, HR.out.2]; rfl, ?_, ?_, .inl rfl, ?_⟩
    · rw [HR.out.1]; exact World.ownsRow_nil _ _ _ _
    · rw [HR.out.1]; exact World.ownsRow_nil _ _ _ _
    · exact (by with_reducible repeat (first | exact Below.refl _ _ | assumption | refine below_step ?_ (by assumption) | refine Below.drew ?_ | refine below_drewN ?_ _ | refine below_alloc ?_ _ | refine Below.setCell ?_ (by simp; try omega) _))
  rw [g2] at hin2
  have HR := Lib.hid (nv_4 (N := l.length) g1 g2)
  obtain ⟨k0, k1⟩ := inB_yes g1
  obtain ⟨r0, r1⟩ := inB_yes g2
  obtain ⟨K, rfl⟩ : ∃ K : Nat, k = (K : Int) := ⟨k.toNat, by omega⟩
  obtain ⟨R, rfl⟩ : ∃ R : Nat, r = (R : Int) := ⟨r.toNat, by omega⟩
  have hgeo := okD_geo hd
  obtain ⟨c1, c2, h1, h2, p1, p2, s1, s2⟩ := geoB_yes hgeo.1
  obtain ⟨m1, m2⟩ := prod2 c1 c2 h1 h2
  obtain ⟨P, rfl⟩ : ∃ P : Nat, p = (P : Int) := ⟨p.toNat, by omega⟩
  obtain ⟨T, hT⟩ : ∃ T : Nat, c * h = (T : Int) := ⟨(c * h).toNat, by omega⟩
  have hNT : l.length = T * P := by
    have := hgeo.2.1
    rw [hT] at this
    omega
  obtain ⟨m, hm⟩ : ∃ m : Nat, m = l.length - R := ⟨_, rfl⟩
  have hmpos : 0 < m := by omega
  have hml : m ≤ l.length := by omega
  have hRl : R ≤ l.length := by omega
  have hsub : IntKind.i64.wrap ((l.length : Int) - (R : Int)) = (m : Int) := (IntWalk.i64_in _ (by omega)).trans (by omega)
  have HM := Lib.hid (show nvM true c h (P : Int) (K : Int) (R : Int) l.length = (ordT P K T).take m by
    unfold nvM
    rw [if_pos rfl, hT, Int.toNat_natCast, Int.toNat_natCast, Int.toNat_natCast, show ((l.length : Int) - (R : Int)).toNat = m by omega])
  have HOL := Lib.hid (show (ordT P K T).length = l.length by rw [ordT_len, hNT])
  have HTL := Lib.hid (show ((ordT P K T).take m).length = m by rw [List.length_take, HOL.out]; omega)
  have hord := fun (W : World) (hd : DP W w.heap.size c h (P : Int) s (.slice A l.length cp)) => l15Order_any w.heap.size c h s (.slice A l.length cp) T P K W hd hT (by omega) (by omega) (by omega) (by omega)
  have hpos : 0 < l.length := by omega
  clear hd hgeo hT hNT hm c1 c2 h1 h2 m1 m2 s1 s2 k0 g1 g2
  go_enter Try.func30, Try.ntmps30
  have HL2 := Lib.hid (ordT_len P K T)
  go_wp2_with (first
        | (go_at_call 15; have := mk1; refine (hin2 _).mono ?_; rintro e w9 ⟨rfl, rfl⟩)
        | (go_at_call 15; refine (hin1 _).mono ?_; rintro e w9 ⟨rfl, rfl⟩; have mk1 := True.intro)
        | (go_at_call 46; refine (hord _ ⟨F3.cell 0 (by simp), F3.cell 1 (by simp), F3.cell 2 (by simp), F3.cell 3 (by simp), F3.cell 4 (by simp)⟩).mono ?_; rintro e w5 ⟨v5, rfl, hown5, hx5⟩; obtain ⟨g5, c5, hv⟩ := Go.Joins.ownsRow_form hown5 (by rw [HOL.out]; exact hpos); cases hv; have hlt5 := World.ownsRow.lt hown5 g5 rfl; have hcap := own_capN hown5; clear e0 e1 e2 e3 e4 z0 z1 z2 z3 z4 z5 z6 z7 hfz; replace F3 := F3.below hx5 F3.lt; replace F6 := F6.below hx5 F6.lt; replace hB := below_step hB hx5; replace ho4 := own_later ho4 hx5 (Nat.le_refl _); have e0 : (_ : Option Value) = some (.int .i64 c) := F3.cell 0 (by simp); have e1 : (_ : Option Value) = some (.int .i64 h) := F3.cell 1 (by simp); have e2 : (_ : Option Value) = some (.int .i64 (P : Int)) := F3.cell 2 (by simp); have e3 : (_ : Option Value) = some (.int .i64 s) := F3.cell 3 (by simp); have e4 : (_ : Option Value) = some (.slice A l.length cp) := F3.cell 4 (by simp); have z0 : (_ : Option Value) = some (.int .i64 0) := F6.cell 0 (by simp); have z1 : (_ : Option Value) = some (.int .i64 0) := F6.cell 1 (by simp); have z2 : (_ : Option Value) = some (.int .i64 0) := F6.cell 2 (by simp); have z3 : (_ : Option Value) = some (.int .i64 0) := F6.cell 3 (by simp); have z4 : (_ : Option Value) = some (.slice none 0 0) := F6.cell 4 (by simp); have z5 : (_ : Option Value) = some (.int .i64 0) := F6.cell 5 (by simp); have z6 : (_ : Option Value) = some (.int .i64 0) := F6.cell 6 (by simp); have z7 : (_ : Option Value) = some (.slice none 0 0) := F6.cell 7 (by simp); have hfz := fun j => F6.free j; have hq1 : m ≤ c5 := (by have := HOL.out; omega); have hq2 : ¬ c5 = 0 := (by omega))
        | (go_at_call 45; refine (l12Own_any w.heap.size c h (P : Int) s A cp l _ ⟨F3.cell 0 (by simp), F3.cell 1 (by simp), F3.cell 2 (by simp), F3.cell 3 (by simp), F3.cell 4 (by simp)⟩ ((hr.below hB).more hB.size) hn).mono ?_; rintro e w4 ⟨v4, rfl, hown4, hx4⟩; obtain ⟨g4, c4, hv⟩ := Go.Joins.ownsRow_form hown4 hpos; cases hv; have hlt4 := World.ownsRow.lt hown4 g4 rfl; clear e0 e1 e2 e3 e4 z0 z1 z2 z3 z4 z5 z6 z7 hfz; replace F3 := F3.below hx4 F3.lt; replace F6 := F6.below hx4 F6.lt; replace hB := below_step hB hx4; have e0 : (_ : Option Value) = some (.int .i64 c) := F3.cell 0 (by simp); have e1 : (_ : Option Value) = some (.int .i64 h) := F3.cell 1 (by simp); have e2 : (_ : Option Value) = some (.int .i64 (P : Int)) := F3.cell 2 (by simp); have e3 : (_ : Option Value) = some (.int .i64 s) := F3.cell 3 (by simp); have e4 : (_ : Option Value) = some (.slice A l.length cp) := F3.cell 4 (by simp); have z0 : (_ : Option Value) = some (.int .i64 0) := F6.cell 0 (by simp); have z1 : (_ : Option Value) = some (.int .i64 0) := F6.cell 1 (by simp); have z2 : (_ : Option Value) = some (.int .i64 0) := F6.cell 2 (by simp); have z3 : (_ : Option Value) = some (.int .i64 0) := F6.cell 3 (by simp); have z4 : (_ : Option Value) = some (.slice none 0 0) := F6.cell 4 (by simp); have z5 : (_ : Option Value) = some (.int .i64 0) := F6.cell 5 (by simp); have z6 : (_ : Option Value) = some (.int .i64 0) := F6.cell 6 (by simp); have z7 : (_ : Option Value) = some (.slice none 0 0) := F6.cell 7 (by simp); have hfz := fun j => F6.free j; have ho4 := hown4)
        | (go_at_call 42; rw [← HW.out]; refine hq.mono ?_; rintro e w2 ⟨rfl, hx⟩; replace F3 := F3.below hx F3.lt; replace F6 := F6.below hx F6.lt; have hB : Below w.heap.size w w2 := hb0.trans (hx.mono (by omega)); have e0 : (_ : Option Value) = some (.int .i64 c) := F3.cell 0 (by simp); have e1 : (_ : Option Value) = some (.int .i64 h) := F3.cell 1 (by simp); have e2 : (_ : Option Value) = some (.int .i64 (P : Int)) := F3.cell 2 (by simp); have e3 : (_ : Option Value) = some (.int .i64 s) := F3.cell 3 (by simp); have e4 : (_ : Option Value) = some (.slice A l.length cp) := F3.cell 4 (by simp); have z0 : (_ : Option Value) = some (.int .i64 0) := F6.cell 0 (by simp); have z1 : (_ : Option Value) = some (.int .i64 0) := F6.cell 1 (by simp); have z2 : (_ : Option Value) = some (.int .i64 0) := F6.cell 2 (by simp); have z3 : (_ : Option Value) = some (.int .i64 0) := F6.cell 3 (by simp); have z4 : (_ : Option Value) = some (.slice none 0 0) := F6.cell 4 (by simp); have z5 : (_ : Option Value) = some (.int .i64 0) := F6.cell 5 (by simp); have z6 : (_ : Option Value) = some (.int .i64 0) := F6.cell 6 (by simp); have z7 : (_ : Option Value) = some (.slice none 0 0) := F6.cell 7 (by simp); have hfz := fun j => F6.free j; have hs2 := F6.lt))
  refine bodyPost_ret (v := .tuple #[.agg #[.int .i64 c, .int .i64 h, .int .i64 (P : Int), .int .i64 s, .slice (some ⟨g4, 0, none⟩) l.length c4, .int .i64 (K : Int), .int .i64 (R : Int), .slice (some ⟨g5, 0, none⟩) m c5], .int .i64 0]) (by simp [results, Try.results30, go_sem, World.cell?_setCell_other, z0, z1, z2, z3, z4, z5, z6, z7]) rfl ⟨_, some ⟨g5, 0, none⟩, c5, c5, by rw [HR.out.1, HR.out.2, HM.out, HTL.out]; rfl, ?_, ?_, ?_, ?_⟩
  · rw [HR.out.1, show nvL true l = l from rfl]
    have ho := own_base (base' := w.heap.size + 1 + 1) ho4 (by omega)
    refine own_base (base := w.heap.size + 1 + 1) ?_ (by omega)
    with_reducible repeat (first | exact ho | refine ownsRow_setCell_below ?_ (by simp; try omega) _)
  · rw [HR.out.1, HM.out, HTL.out, ← flatI_take]
    have hoo : World.ownsRow _ _ _ _ (.slice (some ⟨g5, 0, none⟩) m c5) m _ := own_take (k := m) (by have h9 := hown5; rw [HOL.out] at h9; exact h9) hml
    have ho := own_base (base' := w.heap.size + 1 + 1) hoo (by omega)
    refine own_base (base := w.heap.size + 1 + 1) ?_ (by omega)
    with_reducible repeat (first | exact ho | refine ownsRow_setCell_below ?_ (by simp; try omega) _)
  · right
    intro e
    injection e with e
    have : g4 = g5 := e
    omega
  · exact (by with_reducible repeat (first | exact Below.refl _ _ | assumption | refine below_step ?_ (by assumption) | refine Below.drew ?_ | refine below_drewN ?_ _ | refine below_alloc ?_ _ | refine Below.setCell ?_ (by simp; try omega) _))
end Go.Proofs.Ytcfeelecfmepaaa
namespace Go.Proofs.Ytcfeelecfmepaaa
set_option linter.unusedVariables false
open Go.RowKit

theorem rowO_get (P a b : Nat) : ∀ j i, i < j → (rowO P a b j)[i]? = some ((a + (i + b) % P : Nat) : Int)
  | 0, i, h => absurd h (by omega)
  | j + 1, i, h => by
    rw [rowO]
    by_cases hi : i < j
    · rw [List.getElem?_append_left (by rw [rowO_len]; exact hi)]
      exact rowO_get P a b j i hi
    · obtain rfl : i = j := by omega
      rw [List.getElem?_append_right (by rw [rowO_len]; omega), rowO_len, Nat.sub_self]
      rfl
theorem ordT_get (P K : Nat) (hP : 0 < P) : ∀ T i, i < T * P → (ordT P K T)[i]? = some ((i / P * P + (i % P + i / P * K) % P : Nat) : Int)
  | 0, i, h => absurd h (by omega)
  | T + 1, i, h => by
    rw [ordT]
    by_cases hi : i < T * P
    · rw [List.getElem?_append_left (by rw [ordT_len]; exact hi)]
      exact ordT_get P K hP T i hi
    · have h2 : i < T * P + P := by rw [Nat.succ_mul] at h; exact h
      rw [List.getElem?_append_right (by rw [ordT_len]; omega), ordT_len, rowO_get P _ _ P _ (by omega)]
      have hq : i / P = T := by
        apply Nat.div_eq_of_lt_le
        · omega
        · rw [Nat.succ_mul]; omega
      have hm : i % P = i - T * P := by
        have := Nat.div_add_mod i P
        rw [hq, Nat.mul_comm] at this
        omega
      rw [hq, hm]
theorem mod_inj {a b c P : Nat} (ha : a < P) (hb : b < P) (h : (a + c) % P = (b + c) % P) : a = b := by
  have h1 := Nat.sub_mod_eq_zero_of_mod_eq h
  have h2 := Nat.sub_mod_eq_zero_of_mod_eq h.symm
  rw [show a + c - (b + c) = a - b by omega, Nat.mod_eq_of_lt (by omega)] at h1
  rw [show b + c - (a + c) = b - a by omega, Nat.mod_eq_of_lt (by omega)] at h2
  omega
theorem ord_div {P q y : Nat} (hP : 0 < P) (hy : y < P) : (q * P + y) / P = q := by
  rw [Nat.mul_comm, Nat.mul_add_div hP, Nat.div_eq_of_lt hy]
  rfl
theorem ord_val {P K T i : Nat} {x : Int} (hP : 0 < P) (hi : i < T * P) (h : (ordT P K T)[i]? = some x) : ∃ y : Nat, x = (y : Int) ∧ y < T * P ∧ y / P = i / P ∧ y % P = (i % P + i / P * K) % P := by
  rw [ordT_get P K hP T i hi] at h
  injection h with h
  have hy : (i % P + i / P * K) % P < P := Nat.mod_lt _ hP
  refine ⟨_, h.symm, ?_, ord_div hP hy, ?_⟩
  · have hq : i / P < T := by rw [Nat.div_lt_iff_lt_mul hP]; exact hi
    have h1 : (i / P + 1) * P ≤ T * P := Nat.mul_le_mul_right _ hq
    rw [Nat.succ_mul] at h1
    omega
  · rw [Nat.mul_comm, Nat.mul_add_mod, Nat.mod_mod]
theorem ord_nodup {P K T : Nat} (hP : 0 < P) : (ordT P K T).Nodup := by
  rw [List.Nodup, List.pairwise_iff_getElem]
  intro i j hi hj hij e
  rw [ordT_len] at hi hj
  obtain ⟨y, hy, _, hd, hm⟩ := ord_val (K := K) hP hi (List.getElem?_eq_getElem (by rw [ordT_len]; exact hi))
  obtain ⟨z, hz, _, hd', hm'⟩ := ord_val (K := K) hP hj (List.getElem?_eq_getElem (by rw [ordT_len]; exact hj))
  rw [hy, hz] at e
  have e : y = z := by omega
  subst e
  rw [hd] at hd'
  rw [hm, hd'] at hm'
  have := mod_inj (Nat.mod_lt _ hP) (Nat.mod_lt _ hP) hm'
  have h1 := Nat.div_add_mod i P
  have h2 := Nat.div_add_mod j P
  rw [hd', this] at h1
  omega
theorem mapB_nodup {n : Int} : ∀ (m pre : List Int), (∀ x ∈ m, 0 ≤ x ∧ x < n) → m.Nodup → (∀ x ∈ m, x ∉ pre) → mapB n pre m = true
  | [], _, _, _, _ => rfl
  | y :: m, pre, h, hn, hp => by
    obtain ⟨h1, h2⟩ := List.nodup_cons.1 hn
    have hy := h y (by simp)
    simp only [mapB, Bool.and_eq_true]
    refine ⟨⟨?_, ?_⟩, mapB_nodup m _ (fun x hx => h x (List.mem_cons_of_mem _ hx)) h2 ?_⟩
    · simp only [inB, Bool.and_eq_true, decide_eq_true_eq]; omega
    · have := hp y (by simp)
      simpa using this
    · intro x hx
      rw [List.mem_append, List.mem_singleton]
      rintro (h3 | rfl)
      · exact hp x (List.mem_cons_of_mem _ hx) h3
      · exact h1 hx
/-- A new device is valid, and a block's sector is on the block's track. -/
theorem newDev_law {c h p s k r : Int} {L : List DSector} (hd : okD c h p s L = true) (hv : nvOk true k r L.length = true) :
    okV true L.length k r (nvM true c h p k r L.length) = true ∧ ((nvM true c h p k r L.length).length : Int) = (L.length : Int) - r ∧ L.length ≤ 128 ∧ 0 < p ∧ ∀ b, b < (nvM true c h p k r L.length).length → 0 ≤ (nvM true c h p k r L.length).getD b 0 ∧ (nvM true c h p k r L.length).getD b 0 < 128 ∧ ((nvM true c h p k r L.length).getD b 0).tdiv p = (b : Int).tdiv p := by
  obtain ⟨hgeo, hlen, _⟩ := okD_geo hd
  obtain ⟨c1, c2, h1, h2, p1, p2, s1, s2⟩ := geoB_yes hgeo
  obtain ⟨m1, m2⟩ := prod2 c1 c2 h1 h2
  obtain ⟨q1, q2⟩ := prod3 m1 m2 p1 p2
  simp only [nvOk, Bool.and_eq_true] at hv
  have hv' := hv
  obtain ⟨⟨_, hk⟩, hr⟩ := hv'
  have hkk := inB_yes hk
  have hrr := inB_yes hr
  obtain ⟨P, rfl⟩ : ∃ P : Nat, p = (P : Int) := ⟨p.toNat, by omega⟩
  obtain ⟨T, hT⟩ : ∃ T : Nat, c * h = (T : Int) := ⟨(c * h).toNat, by omega⟩
  obtain ⟨K, rfl⟩ : ∃ K : Nat, k = (K : Int) := ⟨k.toNat, by omega⟩
  have hP : 0 < P := by omega
  have hLN : L.length = T * P := by
    rw [hT] at hlen
    omega
  obtain ⟨n, hn⟩ : ∃ n, ((L.length : Int) - r).toNat = n := ⟨_, rfl⟩
  have hnL : n ≤ L.length := by omega
  have hM : nvM true c h (P : Int) (K : Int) r L.length = (ordT P K T).take n := by
    unfold nvM
    rw [if_pos rfl, hT, Int.toNat_natCast, Int.toNat_natCast, Int.toNat_natCast, hn]
  have hlen2 : ((ordT P K T).take n).length = n := by rw [List.length_take, ordT_len]; omega
  have hget : ∀ i, i < n → ((ordT P K T).take n)[i]? = (ordT P K T)[i]? := fun i hi => List.getElem?_take_of_lt hi
  rw [hM, hlen2]
  refine ⟨?_, by omega, by omega, by omega, ?_⟩
  · simp only [okV, hk, hr, Bool.true_and, Bool.and_eq_true, decide_eq_true_eq, hlen2]
    refine ⟨by omega, mapB_nodup _ _ ?_ (List.Nodup.sublist (List.take_sublist _ _) (ord_nodup hP)) (by simp)⟩
    intro x hx
    obtain ⟨i, hi, rfl⟩ := List.getElem_of_mem hx
    rw [hlen2] at hi
    have hg := (hget i hi).symm.trans (List.getElem?_eq_getElem (by rw [hlen2]; exact hi))
    obtain ⟨y, hy, hlt, _⟩ := ord_val (K := K) hP (by omega) hg
    rw [hy]
    omega
  · intro b hb
    have hg : (ordT P K T)[b]? = some (((ordT P K T).take n).getD b 0) := by
      rw [← hget b hb, List.getD_eq_getElem?_getD, List.getElem?_eq_getElem (by rw [hlen2]; exact hb)]
      rfl
    obtain ⟨y, hy, hlt, hq, _⟩ := ord_val (K := K) hP (by omega) hg
    rw [hy]
    refine ⟨by omega, by omega, ?_⟩
    rw [Int.tdiv_eq_ediv_of_nonneg (by omega), Int.tdiv_eq_ediv_of_nonneg (by omega), ← Int.natCast_ediv, ← Int.natCast_ediv, hq]
end Go.Proofs.Ytcfeelecfmepaaa
namespace Go.Proofs.Ytcfeelecfmepaaa
set_option linter.unusedVariables false
open Go.RowKit

theorem mapB_nd {n : Int} : ∀ (m pre : List Int), mapB n pre m = true → m.Nodup ∧ ∀ x ∈ m, ¬ x ∈ pre
  | [], _, _ => ⟨List.nodup_nil, fun x hx => absurd hx (by simp)⟩
  | y :: m, pre, h => by
    simp only [mapB, Bool.and_eq_true, Bool.not_eq_true'] at h
    obtain ⟨⟨_, h2⟩, h3⟩ := h
    obtain ⟨i1, i2⟩ := mapB_nd m (pre ++ [y]) h3
    have hy : ¬ y ∈ pre := by
      intro hy
      rw [List.contains_iff_mem.2 hy] at h2
      cases h2
    refine ⟨List.nodup_cons.2 ⟨fun hy2 => i2 y hy2 (by simp), i1⟩, fun x hx => ?_⟩
    rcases List.mem_cons.1 hx with rfl | hx
    · exact hy
    · exact fun hp => i2 x hx (List.mem_append_left _ hp)
/-- What a device in order gives. -/
theorem dv_ok {c h p s k r : Int} {L : List DSector} {m : List Int} (hV : okV (okD c h p s L) L.length k r m = true) : okD c h p s L = true ∧ m.Nodup ∧ (∀ x ∈ m, 0 ≤ x ∧ x < (L.length : Int)) ∧ (0 ≤ s ∧ s ≤ 2) ∧ L.length ≤ 128 ∧ 0 < p ∧ (0 ≤ k ∧ k ≤ 7) ∧ L.length = (c * h).toNat * p.toNat := by
  obtain ⟨h1, h2, h3, h4, h5⟩ := okV_yes hV
  have hm : mapB L.length [] m = true := by
    simp only [okV, Bool.and_eq_true] at hV
    exact hV.2
  obtain ⟨hgeo, hlen, _⟩ := okD_geo h1
  obtain ⟨c1, c2, g1, g2, p1, p2, s1, s2⟩ := geoB_yes hgeo
  obtain ⟨m1, m2⟩ := prod2 c1 c2 g1 g2
  obtain ⟨q1, q2⟩ := prod3 m1 m2 p1 p2
  have hk := inB_yes h2
  refine ⟨h1, (mapB_nd m [] hm).1, h5, ⟨s1, s2⟩, by omega, by omega, hk, ?_⟩
  obtain ⟨P, rfl⟩ : ∃ P : Nat, p = (P : Int) := ⟨p.toNat, by omega⟩
  obtain ⟨T, hT⟩ : ∃ T : Nat, c * h = (T : Int) := ⟨(c * h).toNat, by omega⟩
  rw [hT] at hlen ⊢
  rw [Int.toNat_natCast, Int.toNat_natCast]
  have e : ((T * P : Nat) : Int) = (T : Int) * (P : Int) := Int.natCast_mul _ _
  omega
theorem okD_set {c h p s : Int} {L : List DSector} (hd : okD c h p s L = true) (i : Nat) {y : DSector} (hy : secX s y = true) : okD c h p s (L.set i y) = true := by
  obtain ⟨h1, h2, h3⟩ := okD_geo hd
  refine okD_all h1 (by rw [List.length_set]; exact h2) fun j hj => ?_
  rw [List.length_set] at hj
  rw [List.getElem_set]
  split
  · exact hy
  · exact h3 j hj
theorem okV_d {d' : Bool} {N N' : Nat} {d : Bool} {k r : Int} {m : List Int} (h : okV d N k r m = true) (hd : d' = true) (hN : N' = N) : okV d' N' k r m = true := by
  subst hN hd
  have := (okV_yes h).1
  rw [this] at h
  exact h
theorem secX_1 {s : Int} {d : ByteArray} (h : (d.size : Int) = szB s) : secX s ⟨d, 1⟩ = true := by
  unfold secX
  exact sec_3 (by show d.size = (szB s).toNat; omega) (show inB 1 1 4 = true by decide) (show ¬ (1 : Int) = 3 by decide)
theorem getD_nat (L : List DSector) {X : Nat} (h : X < L.length) : L.getD X noSec = L[X] := by simp [h]
theorem getD_set (L : List DSector) {X : Nat} (h : X < L.length) (y : DSector) (j : Nat) : (L.set X y).getD j noSec = if j = X then y else L.getD j noSec := by
  rw [List.getD_eq_getElem?_getD, List.getD_eq_getElem?_getD, List.getElem?_set]
  by_cases e : X = j
  · subst e
    simp [h]
  · rw [if_neg e, if_neg (fun e2 => e e2.symm)]
section
variable {c h p s k r b : Int} {L : List DSector} {m : List Int} {dat : ByteArray}
theorem map_at (hm : ∀ x ∈ m, 0 ≤ x ∧ x < (L.length : Int)) {B : Nat} (hB : B < m.length) : ∃ X : Nat, m[B] = (X : Int) ∧ X < L.length := by
  have := hm m[B] (List.getElem_mem hB)
  exact ⟨m[B].toNat, by omega, by omega⟩
theorem map_ne (hn : m.Nodup) {i j : Nat} (hi : i < m.length) (hj : j < m.length) (hij : i ≠ j) : m[i] ≠ m[j] := fun e => hij ((List.getElem_inj hn).1 e)
/-- The laws of a written block. -/
theorem dv_write (hV : okV (okD c h p s L) L.length k r m = true) (hds : (dat.size : Int) = szB s) {B : Nat} (hB : B < m.length) :
    ∃ L', wdL true L m (B : Int) ⟨dat, 1⟩ = L' ∧ L'.length = L.length ∧ okV (okD c h p s L') L'.length k r m = true ∧ rdD true L' m (B : Int) = (dat, 0) ∧ abS L' m[B] = ⟨dat, 1⟩ ∧ ∀ (n i : Nat) (hi : i < m.length), i ≠ B → abV L' n m[i] = abV L n m[i] := by
  obtain ⟨h1, h2, h3, h4, h5, _⟩ := dv_ok hV
  obtain ⟨X, hX, hXl⟩ := map_at h3 hB
  have hin : inB (B : Int) 0 ((m.length : Int) - 1) = true := by simp only [inB, Bool.and_eq_true, decide_eq_true_eq]; omega
  refine ⟨L.set X ⟨dat, 1⟩, wdL_in hB hX, List.length_set, ?_, ?_, ?_, ?_⟩
  · exact okV_d hV (okD_set h1 X (secX_1 hds)) List.length_set
  · rw [rdD_4 hin hB hX (by rw [List.length_set]; exact hXl) (by simp [rdB])]
    simp
  · rw [abS, hX, Int.toNat_natCast, getD_set L hXl, if_pos rfl]
  · intro n i hi hne
    obtain ⟨Y, hY, hYl⟩ := map_at h3 hi
    have hXY : Y ≠ X := fun e => map_ne h2 hi hB hne (by rw [hX, hY, e])
    rw [abV, abV, abS, abS, hY, Int.toNat_natCast, getD_set L hXl, if_neg hXY]
theorem nodup_set (hn : m.Nodup) {x : Int} (hx : ¬ x ∈ m) (B : Nat) : (m.set B x).Nodup := by
  rw [List.nodup_iff_pairwise_ne, List.pairwise_iff_getElem]
  intro i j hi hj hij
  rw [List.length_set] at hi hj
  rw [List.getElem_set, List.getElem_set]
  split
  · split
    · omega
    · exact fun e => hx (e ▸ List.getElem_mem hj)
  · split
    · exact fun e => hx (e ▸ List.getElem_mem hi)
    · exact map_ne hn hi hj (by omega)
/-- The laws of a replaced block. -/
theorem dv_replace (hV : okV (okD c h p s L) L.length k r m = true) {B : Nat} (hB : B < m.length) (hs : abS L m[B] = ⟨dat, 1⟩) (hds : (dat.size : Int) = szB s) {f : Int} (hf : frB (ordT p.toNat k.toNat (c * h).toNat) m = some f) (z : ByteArray) :
    okV (okD c h p s (rpL true L m (B : Int) (some f) z)) (rpL true L m (B : Int) (some f) z).length k r (rpM true m (B : Int) (some f)) = true ∧ rdD true (rpL true L m (B : Int) (some f) z) (rpM true m (B : Int) (some f)) (B : Int) = (dat, 0) := by
  obtain ⟨h1, h2, h3, h4, h5, h6, h7, h8⟩ := dv_ok hV
  obtain ⟨X, hX, hXl⟩ := map_at h3 hB
  have hmem := List.mem_of_find?_eq_some hf
  have hno := List.find?_some hf
  have hfm : ¬ f ∈ m := by
    intro hm
    rw [hasB, List.contains_iff_mem.2 hm] at hno
    cases hno
  obtain ⟨f0, f1⟩ := ordT_mem p.toNat k.toNat (by omega) _ f hmem
  obtain ⟨Y, rfl⟩ : ∃ Y : Nat, f = (Y : Int) := ⟨f.toNat, by omega⟩
  have hYl : Y < L.length := by omega
  have hsx : L[X].f0 = dat ∧ L[X].f1 = 1 := by
    rw [abS, hX, Int.toNat_natCast, getD_nat L hXl] at hs
    rw [hs]
    exact ⟨rfl, rfl⟩
  have eL := rp_L (z := z) hB hX hXl hsx.1 hsx.2 (fr := some (Y : Int)) rfl
  have eM := rp_M (m := m) (B := B) (fr := some (Y : Int)) rfl
  rw [show (if rdB 1 = true then dat else z) = dat from rfl] at eL
  rw [eL, eM]
  have hin : inB (B : Int) 0 (((m.set B (Y : Int)).length : Int) - 1) = true := by rw [List.length_set]; simp only [inB, Bool.and_eq_true, decide_eq_true_eq]; omega
  refine ⟨?_, ?_⟩
  · obtain ⟨o1, o2, o3, o4, o5⟩ := okV_yes hV
    have hmap : mapB (L.length : Int) [] (m.set B (Y : Int)) = true := by
      refine mapB_nodup _ _ (fun x hx => ?_) (nodup_set h2 hfm B) (by simp)
      rcases List.mem_or_eq_of_mem_set hx with hx | rfl
      · exact h3 x hx
      · omega
    simp only [okV, okD_set h1 Y (secX_1 hds), o2, hmap, List.length_set, o3, o4, decide_true, Bool.and_true]
  · rw [rdD_4 hin (X := Y) (by rw [List.length_set]; exact hB) (by simp) (by rw [List.length_set]; exact hYl) (by simp [rdB])]
    simp
theorem stG_other : ∀ (m : List Int) (t : List ByteArray) (cur : List DSector) (X : Nat), (∀ x ∈ m, 0 ≤ x ∧ x < (cur.length : Int)) → ¬ (X : Int) ∈ m → (stG cur m t).getD X noSec = cur.getD X noSec
  | [], t, cur, X, _, _ => by rw [stG]
  | _ :: _, [], cur, X, _, _ => by rw [stG]
  | x :: m, b :: t, cur, X, h, hX => by
    obtain ⟨hx0, hx1⟩ := h x (List.mem_cons_self ..)
    rw [stG, stG_other m t _ X (fun y hy => by rw [List.length_set]; exact h y (List.mem_cons_of_mem _ hy)) (fun hm => hX (List.mem_cons_of_mem _ hm)), getD_set cur (by omega), if_neg]
    intro e
    exact hX (by rw [show (X : Int) = x by omega]; exact List.mem_cons_self ..)
theorem stG_at : ∀ (m : List Int) (t : List ByteArray) (cur : List DSector), (∀ x ∈ m, 0 ≤ x ∧ x < (cur.length : Int)) → m.Nodup → t.length = m.length → ∀ (j : Nat) (hj : j < m.length) (hj2 : j < t.length), abS (stG cur m t) m[j] = ⟨t[j], 1⟩
  | [], t, cur, _, _, _, j, hj, _ => absurd hj (by simp)
  | _ :: _, [], cur, _, _, _, j, _, hj => absurd hj (by simp)
  | x :: m, b :: t, cur, h, hn, hl, 0, hj, hj2 => by
    obtain ⟨hx0, hx1⟩ := h x (List.mem_cons_self ..)
    obtain ⟨X, rfl⟩ : ∃ X : Nat, x = (X : Int) := ⟨x.toNat, by omega⟩
    show abS (stG cur ((X : Int) :: m) (b :: t)) (X : Int) = ⟨b, 1⟩
    rw [abS, stG, Int.toNat_natCast, stG_other m t _ X (fun y hy => by rw [List.length_set]; exact h y (List.mem_cons_of_mem _ hy)) (List.nodup_cons.1 hn).1, getD_set cur (by omega), if_pos rfl]
  | x :: m, b :: t, cur, h, hn, hl, j + 1, hj, hj2 => by
    have hj3 : j < m.length := by simpa using hj
    have hj4 : j < t.length := by simpa using hj2
    show abS (stG cur (x :: m) (b :: t)) m[j] = ⟨t[j], 1⟩
    rw [stG]
    exact stG_at m t _ (fun y hy => by rw [List.length_set]; exact h y (List.mem_cons_of_mem _ hy)) (List.nodup_cons.1 hn).2 (by simpa using hl) j hj3 hj4
theorem stG_ok : ∀ (m : List Int) (t : List ByteArray) (cur : List DSector), okD c h p s cur = true → (∀ b ∈ t, (b.size : Int) = szB s) → okD c h p s (stG cur m t) = true
  | [], t, cur, hd, _ => by rw [stG]; exact hd
  | _ :: _, [], cur, hd, _ => by rw [stG]; exact hd
  | x :: m, b :: t, cur, hd, ht => by
    rw [stG]
    exact stG_ok m t _ (okD_set hd _ (secX_1 (ht b (List.mem_cons_self ..)))) (fun y hy => ht y (List.mem_cons_of_mem _ hy))
theorem abV_size (hV : okV (okD c h p s L) L.length k r m = true) {x : Int} (hx : x ∈ m) : ((abV L (szB s).toNat x).size : Int) = szB s := by
  obtain ⟨h1, h2, h3, h4, h5, _⟩ := dv_ok hV
  obtain ⟨n, hn, _, _, hn2⟩ := szB_nat h4.1 h4.2
  obtain ⟨hx0, hx1⟩ := h3 x hx
  unfold abV
  split
  · have hX : x.toNat < L.length := by omega
    have hsec := (okD_geo h1).2.2 x.toNat hX
    rw [abS, getD_nat L hX]
    simp only [secX, secB, Bool.and_eq_true, decide_eq_true_eq] at hsec
    omega
  · rw [zerosB_size, hn2, hn]
/-- The laws of stored blocks: t are the blocks of a device with the same map. -/
theorem dv_store (hV : okV (okD c h p s L) L.length k r m = true) {t : List ByteArray} (hl : t.length = m.length) (ht : ∀ b ∈ t, (b.size : Int) = szB s) :
    stOk true m.length (szB s) t = true ∧ stC true m.length (szB s) t = 0 ∧ okV (okD c h p s (stL true L m t)) (stL true L m t).length k r m = true ∧ abL (stL true L m t) (szB s).toNat m = t ∧ abD (stL true L m t) 0 m = [] := by
  obtain ⟨h1, h2, h3, h4, h5, _⟩ := dv_ok hV
  have hz : szA (szB s) t = true := by
    unfold szA
    rw [List.all_eq_true]
    intro b hb
    exact decide_eq_true (ht b hb)
  have e : stL true L m t = stG L m t := rfl
  have hat := stG_at m t L h3 h2 hl
  refine ⟨by simp [stOk, hl, hz], by simp [stC, hl, hz], ?_, ?_, ?_⟩
  · rw [e]
    exact okV_d hV (stG_ok m t L h1 ht) (stG_len m t L)
  · rw [e]
    unfold abL
    refine List.ext_getElem (by rw [List.length_map, hl]) fun j h6 h7 => ?_
    rw [List.length_map] at h6
    rw [List.getElem_map, abV, hat j h6 h7]
    rfl
  · rw [e]
    have go : ∀ (q : List Int) (i : Nat), (∀ x ∈ q, rdB (abS (stG L m t) x).f1 = true) → abD (stG L m t) i q = [] := by
      intro q
      induction q with
      | nil => intro i _; rfl
      | cons x q ih =>
        intro i hq
        rw [abD, if_pos (hq x (List.mem_cons_self ..))]
        exact ih (i + 1) (fun y hy => hq y (List.mem_cons_of_mem _ hy))
    refine go m 0 fun x hx => ?_
    obtain ⟨j, hj, rfl⟩ := List.getElem_of_mem hx
    rw [hat j hj (by omega)]
    rfl
end
end Go.Proofs.Ytcfeelecfmepaaa
