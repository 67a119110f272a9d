/- Walks: StoreBlocks. -/
import Derived.Test.YtipkckoejkmhfabW85
import Derived.Test.YtipkckoejkmhfabQB
namespace Go.Proofs.Ytipkckoejkmhfab
open Go.RowKit
set_option linter.unusedVariables false

/-- The sectors after the blocks of a list were stored. -/
def stG : List DSector → List Int → List ByteArray → List DSector
  | cur, x :: m, b :: t => stG (cur.set x.toNat ⟨b, 1⟩) m t
  | cur, [], _ => cur
  | cur, _ :: _, [] => cur
def szA (z : Int) (t : List ByteArray) : Bool := t.all (fun b => decide ((b.size : Int) = z))
def stOk (ok : Bool) (n : Nat) (z : Int) (t : List ByteArray) : Bool := ok && decide (t.length = n) && szA z t
def stC (ok : Bool) (n : Nat) (z : Int) (t : List ByteArray) : Int := if ok then (if decide (t.length = n) && szA z t then 0 else 7) else 1
def stL (g : Bool) (l : List DSector) (m : List Int) (t : List ByteArray) : List DSector := if g then stG l m t else []
theorem stG_len : ∀ (m : List Int) (t : List ByteArray) (cur : List DSector), (stG cur m t).length = cur.length
  | [], _, _ => by rw [stG]
  | _ :: _, [], _ => by rw [stG]
  | x :: m, b :: t, cur => by rw [stG, stG_len m t, List.length_set]
theorem stL_len (g : Bool) (l : List DSector) (m : List Int) (t : List ByteArray) : (stL g l m t).length ≤ l.length := by
  unfold stL
  split
  · rw [stG_len]; exact Nat.le_refl _
  · simp
section
variable {cur R : List DSector} {m : List Int} {t : List ByteArray} {j n : Nat} {z : Int} {S : Bool}
theorem stG_step {X : Nat} {b : ByteArray} (h1 : j < m.length) (h2 : j < t.length) (hX : m[j] = (X : Int)) (hb : t[j] = b) (e : stG cur (m.drop j) (t.drop j) = R) : stG (cur.set X ⟨b, 1⟩) (m.drop (j + 1)) (t.drop (j + 1)) = R := by
  rw [List.drop_eq_getElem_cons h1, List.drop_eq_getElem_cons h2, stG, hX, hb, Int.toNat_natCast] at e
  exact e
theorem stG_end {l : List DSector} (h2 : ¬ j < t.length) (e : stG cur (m.drop j) (t.drop j) = R) : stL true l m t = R → stL true l m t = cur := by
  intro h
  rw [h, ← e, List.drop_eq_nil_of_le (by omega : t.length ≤ j)]
  cases m.drop j <;> rw [stG]
theorem sz_next (h : j < t.length) (hs : szA z (t.drop j) = S) (g : (t[j].size : Int) = z) : szA z (t.drop (j + 1)) = S := by
  rw [← hs, List.drop_eq_getElem_cons h, szA, szA, List.all_cons, decide_eq_true g, Bool.true_and]
theorem sz_no (h : j < t.length) (hs : szA z (t.drop j) = S) (g : ¬ (t[j].size : Int) = z) : S = false := by
  rw [← hs, List.drop_eq_getElem_cons h, szA, List.all_cons, decide_eq_false g, Bool.false_and]
theorem sz_end (h : ¬ j < t.length) (hs : szA z (t.drop j) = S) : S = true := by
  rw [← hs, List.drop_eq_nil_of_le (by omega)]
  rfl
theorem st_1 : stOk false n z t = false ∧ stC false n z t = 1 := by simp [stOk, stC]
theorem st_2 (h : ¬ t.length = n) : stOk true n z t = false ∧ stC true n z t = 7 := by simp [stOk, stC, h]
theorem st_3 (h : szA z t = false) : stOk true n z t = false ∧ stC true n z t = 7 := by simp [stOk, stC, h]
theorem st_4 (h1 : t.length = n) (h2 : szA z t = true) : stOk true n z t = true ∧ stC true n z t = 0 := by simp [stOk, stC, h1, h2]
end
set_option maxRecDepth 100000 in
set_option maxHeartbeats 4000000 in
theorem spec_StoreBlocks_any (c h p s : Int) (A : Option Addr) (cp : Nat) (l : List DSector) (k r : Int) (N : Option Addr) (q : Nat) (m : List Int) (E : Option Addr) (ce : Nat) (t : List ByteArray) (w : World) (hr : Rd w w.heap.size 2 A l.length (flat fSector l)) (hn : l.length ≤ 1048576) (hok : ∀ x ∈ l, okSector x) (kr : Rd w w.heap.size 1 N m.length (flat fI m)) (kn : m.length ≤ 1048576) (hqc : m.length ≤ q) (er : Rd w w.heap.size 1 E t.length (flat fS t)) (en : t.length ≤ 1048576) :
    Calls Try.prog 17 #[.agg #[.int .i64 c, .int .i64 h, .int .i64 p, .int .i64 s, .slice A l.length cp, .int .i64 k, .int .i64 r, .slice N m.length q], .slice E t.length ce] w fun e w' => ∃ (v4 v7 : Value), e = .returned (.tuple #[.agg #[.int .i64 (ptN (stOk (okV (okD c h p s l) l.length k r m) m.length (szB s) t) c), .int .i64 (ptN (stOk (okV (okD c h p s l) l.length k r m) m.length (szB s) t) h), .int .i64 (ptN (stOk (okV (okD c h p s l) l.length k r m) m.length (szB s) t) p), .int .i64 (ptN (stOk (okV (okD c h p s l) l.length k r m) m.length (szB s) t) s), v4, .int .i64 (ptN (stOk (okV (okD c h p s l) l.length k r m) m.length (szB s) t) k), .int .i64 (ptN (stOk (okV (okD c h p s l) l.length k r m) m.length (szB s) t) r), v7], .int .i64 (stC (okV (okD c h p s l) l.length k r m) m.length (szB s) t)]) ∧ w'.ownsRow w.heap.size 85 2 v4 (stL (stOk (okV (okD c h p s l) l.length k r m) m.length (szB s) t) l m t).length (flat fSector (stL (stOk (okV (okD c h p s l) l.length k r m) m.length (szB s) t) l m t)) ∧ w'.ownsRow w.heap.size 2 1 v7 (wdM (stOk (okV (okD c h p s l) l.length k r m) m.length (szB s) t) m).length (flat fI (wdM (stOk (okV (okD c h p s l) l.length k r m) m.length (szB s) t) m)) ∧ (v4.ownBlock = none ∨ v4.ownBlock ≠ v7.ownBlock) ∧ Below w.heap.size w w' := by
  have F3 := (BX.made w 33 [.int .i64 c, .int .i64 h, .int .i64 p, .int .i64 s, .slice A l.length cp, .int .i64 k, .int .i64 r, .slice N m.length q]).al (.cells #[.int .i64 0, .int .i64 0, .int .i64 0, .int .i64 0, .slice none 0 0, .int .i64 0, .int .i64 0, .slice none 0 0] 33)
  have F6 := BX.made1 w (.cells #[.int .i64 c, .int .i64 h, .int .i64 p, .int .i64 s, .slice A l.length cp, .int .i64 k, .int .i64 r, .slice N m.length q] 33) 33 [.int .i64 0, .int .i64 0, .int .i64 0, .int .i64 0, .slice none 0 0, .int .i64 0, .int .i64 0, .slice none 0 0]
  obtain ⟨wb, hwb⟩ : ∃ wb, wb = (w.alloc (.cells #[.int .i64 c, .int .i64 h, .int .i64 p, .int .i64 s, .slice A l.length cp, .int .i64 k, .int .i64 r, .slice N m.length q] 33)).alloc (.cells #[.int .i64 0, .int .i64 0, .int .i64 0, .int .i64 0, .slice none 0 0, .int .i64 0, .int .i64 0, .slice none 0 0] 33) := ⟨_, rfl⟩
  rw [← hwb] at F3 F6
  have hb0 : Below w.heap.size w wb := by rw [hwb]; exact (by with_reducible repeat (first | exact Below.refl _ _ | assumption | refine below_step ?_ (by assumption) | refine Below.drew ?_ | refine below_drewN ?_ _ | refine below_alloc ?_ _ | refine Below.setCell ?_ (by simp; try omega) _))
  have hs0 : w.heap.size + 1 < wb.heap.size := F6.lt
  have hrb := (hr.below hb0).more hb0.size
  have krb := (kr.below hb0).more hb0.size
  have HW := Lib.hid hwb
  clear hwb
  have hq := l15Ok_any w.heap.size c h p s A cp l k r N q m wb F3.cp hrb hn hok krb kn
  cases hv : okV (okD c h p s l) l.length k r m
  · rw [hv] at hq
    clear hv
    have HR := Lib.hid (st_1 (n := m.length) (z := szB s) (t := t))
    go_enter Try.func17, Try.ntmps17
    go_wp2_with ((go_at_call 46; rw [← HW.out]; refine hq.mono ?_; rintro e w2 ⟨rfl, hx⟩; replace F3 := F3.below hx F3.lt; replace F6 := F6.below hx F6.lt; have hB : BB w w2 := hb0.trans (hx.mono (by omega)); have e0 : (_ : Option Value) = some (.int .i64 c) := F3.cell 0 (by simp); have e1 : (_ : Option Value) = some (.int .i64 h) := F3.cell 1 (by simp); have e2 : (_ : Option Value) = some (.int .i64 p) := F3.cell 2 (by simp); have e3 : (_ : Option Value) = some (.int .i64 s) := F3.cell 3 (by simp); have e4 : (_ : Option Value) = some (.slice A l.length cp) := F3.cell 4 (by simp); have e5 : (_ : Option Value) = some (.int .i64 k) := F3.cell 5 (by simp); have e6 : (_ : Option Value) = some (.int .i64 r) := F3.cell 6 (by simp); have e7 : (_ : Option Value) = some (.slice N m.length q) := F3.cell 7 (by simp); have z0 : (_ : Option Value) = some (.int .i64 0) := F6.cell 0 (by simp); have z1 : (_ : Option Value) = some (.int .i64 0) := F6.cell 1 (by simp); have z2 : (_ : Option Value) = some (.int .i64 0) := F6.cell 2 (by simp); have z3 : (_ : Option Value) = some (.int .i64 0) := F6.cell 3 (by simp); have z4 : (_ : Option Value) = some (.slice none 0 0) := F6.cell 4 (by simp); have z5 : (_ : Option Value) = some (.int .i64 0) := F6.cell 5 (by simp); have z6 : (_ : Option Value) = some (.int .i64 0) := F6.cell 6 (by simp); have z7 : (_ : Option Value) = some (.slice none 0 0) := F6.cell 7 (by simp); have hfz := fun j => F6.free j; have mk1 := True.intro))
    have hBw : Below w.heap.size w w2 := hB
    refine bodyPost_ret (v := .tuple #[.agg #[.int .i64 0, .int .i64 0, .int .i64 0, .int .i64 0, .slice none 0 0, .int .i64 0, .int .i64 0, .slice none 0 0], .int .i64 1]) (by simp [results, Try.results17, go_sem, World.cell?_setCell_other, z0, z1, z2, z3, z4, z5, z6, z7]) rfl ⟨.slice none 0 0, .slice none 0 0, by rw [HR.out.1, HR.out.2]; rfl, ?_, ?_, .inl rfl, ?_⟩
    · rw [HR.out.1]; exact World.ownsRow_nil _ _ _ _
    · rw [HR.out.1]; exact World.ownsRow_nil _ _ _ _
    · exact (by with_reducible repeat (first | exact Below.refl _ _ | assumption | refine below_step ?_ (by assumption) | refine Below.drew ?_ | refine below_drewN ?_ _ | refine below_alloc ?_ _ | refine Below.setCell ?_ (by simp; try omega) _))
  have hall := (okV_yes hv).2.2.2.2
  have hr1 := inB_yes (okV_yes hv).2.2.1
  have hml := (okV_yes hv).2.2.2.1
  obtain ⟨-, -, -, -, -, -, s1, s2⟩ := geoB_yes (okD_geo (okV_yes hv).1).1
  have hpos : 0 < l.length := by omega
  have hposm : 0 < m.length := by omega
  have hby := fun W => l12Bytes_any s s1 s2 W
  rw [hv] at hq
  clear hv hr1 hml
  by_cases hx : t.length = m.length
  rotate_left
  · have HR := Lib.hid (st_2 (z := szB s) hx)
    have hxe : ((t.length : Int) != (m.length : Int)) = true := by simp; omega
    go_enter Try.func17, Try.ntmps17
    go_wp2_with ((go_at_call 46; rw [← HW.out]; refine hq.mono ?_; rintro e w2 ⟨rfl, hx⟩; replace F3 := F3.below hx F3.lt; replace F6 := F6.below hx F6.lt; have hB : BB w w2 := hb0.trans (hx.mono (by omega)); have e0 : (_ : Option Value) = some (.int .i64 c) := F3.cell 0 (by simp); have e1 : (_ : Option Value) = some (.int .i64 h) := F3.cell 1 (by simp); have e2 : (_ : Option Value) = some (.int .i64 p) := F3.cell 2 (by simp); have e3 : (_ : Option Value) = some (.int .i64 s) := F3.cell 3 (by simp); have e4 : (_ : Option Value) = some (.slice A l.length cp) := F3.cell 4 (by simp); have e5 : (_ : Option Value) = some (.int .i64 k) := F3.cell 5 (by simp); have e6 : (_ : Option Value) = some (.int .i64 r) := F3.cell 6 (by simp); have e7 : (_ : Option Value) = some (.slice N m.length q) := F3.cell 7 (by simp); have z0 : (_ : Option Value) = some (.int .i64 0) := F6.cell 0 (by simp); have z1 : (_ : Option Value) = some (.int .i64 0) := F6.cell 1 (by simp); have z2 : (_ : Option Value) = some (.int .i64 0) := F6.cell 2 (by simp); have z3 : (_ : Option Value) = some (.int .i64 0) := F6.cell 3 (by simp); have z4 : (_ : Option Value) = some (.slice none 0 0) := F6.cell 4 (by simp); have z5 : (_ : Option Value) = some (.int .i64 0) := F6.cell 5 (by simp); have z6 : (_ : Option Value) = some (.int .i64 0) := F6.cell 6 (by simp); have z7 : (_ : Option Value) = some (.slice none 0 0) := F6.cell 7 (by simp); have hfz := fun j => F6.free j; have mk1 := True.intro))
    have hBw : Below w.heap.size w w2 := hB
    refine bodyPost_ret (v := .tuple #[.agg #[.int .i64 0, .int .i64 0, .int .i64 0, .int .i64 0, .slice none 0 0, .int .i64 0, .int .i64 0, .slice none 0 0], .int .i64 7]) (by simp [results, Try.results17, go_sem, World.cell?_setCell_other, z0, z1, z2, z3, z4, z5, z6, z7]) rfl ⟨.slice none 0 0, .slice none 0 0, by rw [HR.out.1, HR.out.2]; rfl, ?_, ?_, .inl rfl, ?_⟩
    · rw [HR.out.1]; exact World.ownsRow_nil _ _ _ _
    · rw [HR.out.1]; exact World.ownsRow_nil _ _ _ _
    · exact (by with_reducible repeat (first | exact Below.refl _ _ | assumption | refine below_step ?_ (by assumption) | refine Below.drew ?_ | refine below_drewN ?_ _ | refine below_alloc ?_ _ | refine Below.setCell ?_ (by simp; try omega) _))
  have hxe : ((t.length : Int) != (m.length : Int)) = false := by simp; omega
  have HX := Lib.hid hx
  clear hx
  go_enter Try.func17, Try.ntmps17
  go_wp2_with ((go_at_call 46; rw [← HW.out]; refine hq.mono ?_; rintro e w2 ⟨rfl, hx⟩; replace F3 := F3.below hx F3.lt; replace F6 := F6.below hx F6.lt; have hB : BB w w2 := hb0.trans (hx.mono (by omega)); have e0 : (_ : Option Value) = some (.int .i64 c) := F3.cell 0 (by simp); have e1 : (_ : Option Value) = some (.int .i64 h) := F3.cell 1 (by simp); have e2 : (_ : Option Value) = some (.int .i64 p) := F3.cell 2 (by simp); have e3 : (_ : Option Value) = some (.int .i64 s) := F3.cell 3 (by simp); have e4 : (_ : Option Value) = some (.slice A l.length cp) := F3.cell 4 (by simp); have e5 : (_ : Option Value) = some (.int .i64 k) := F3.cell 5 (by simp); have e6 : (_ : Option Value) = some (.int .i64 r) := F3.cell 6 (by simp); have e7 : (_ : Option Value) = some (.slice N m.length q) := F3.cell 7 (by simp); have z0 : (_ : Option Value) = some (.int .i64 0) := F6.cell 0 (by simp); have z1 : (_ : Option Value) = some (.int .i64 0) := F6.cell 1 (by simp); have z2 : (_ : Option Value) = some (.int .i64 0) := F6.cell 2 (by simp); have z3 : (_ : Option Value) = some (.int .i64 0) := F6.cell 3 (by simp); have z4 : (_ : Option Value) = some (.slice none 0 0) := F6.cell 4 (by simp); have z5 : (_ : Option Value) = some (.int .i64 0) := F6.cell 5 (by simp); have z6 : (_ : Option Value) = some (.int .i64 0) := F6.cell 6 (by simp); have z7 : (_ : Option Value) = some (.slice none 0 0) := F6.cell 7 (by simp); have hfz := fun j => F6.free j; have mk1 := True.intro))
  clear hq HW hrb krb hb0 hs0 hxe
  clear e0 e1 e2 e3 e4 e5 e6 e7 z0 z1 z2 z3 z4 z5 z6 z7 hfz
  go_loopw [6] (fun i wr => ∃ j : Nat, j ≤ t.length ∧ i = .int .i64 j ∧ Below w2.heap.size w2 wr ∧ Hid (szA (szB s) (t.drop j) = szA (szB s) t)) (fun i _ => t.length - (intOf i).toNat)
  case atStart => exact ⟨0, Nat.zero_le _, rfl, Below.refl _ _, Lib.hid rfl⟩
  case round =>
    obtain ⟨j, hj, rfl, hbl, HF⟩ := hrel
    replace F3 := BX.below F3 hbl F3.lt
    replace F6 := BX.below F6 hbl F6.lt
    replace hB := BB.next hB hbl
    by_cases hjl : j < t.length
    · have hji : (j : Int) < (t.length : Int) := by omega
      obtain ⟨be, offe, rfl, hbe, hce⟩ := ((er.below hB).more hB.size).at_ fS_len rfl j hjl
      have he0 := hce 0 _ (by omega) rfl
      clear hce
      simp only [Nat.mul_one, Nat.add_zero] at he0
      have hq := fun (p' : Regrown) => qb_same p' (hby (Sort.grow (redrawn wr p'.d) p'.os))
      have k3 := gw_cell (show wr.cell? ⟨w.heap.size, 3, none⟩ = some (.int .i64 s) from F3.cell 3 (by simp))
      have kO := gw_cell he0
      go_wp2_with fail
      refine wp_region_quiet_below (by kernel_rfl) (by kernel_rfl) ?_
      repeat (go_big_quiet_step ((first | with_reducible exact hq _)))
      refine wpQuiet_nil ?_
      intro _ hw'
      obtain ⟨pq, hw''⟩ := hw'
      subst hw''
      have hb6 := gw_below wr pq
      generalize Sort.grow (redrawn wr pq.d) pq.os = w6 at hb6 ⊢
      clear hq k3 kO he0
      by_cases hz : (t[j].size : Int) = szB s
      · have HN := Lib.hid (sz_next hjl HF.out hz)
        have hzb : ((t[j].size : Int) != szB s) = false := by simp; exact hz
        have hb7 : Below w2.heap.size w2 w6 := hbl.trans (hb6.mono (Below.size hbl))
        clear hz
        go_wp2
        go_roundw
        case rel => exact ⟨j + 1, by omega, by go_num, hb7, HN⟩
        case measure => (simp [intOf] <;> omega)
      · have HR := Lib.hid (st_3 (n := m.length) (sz_no hjl HF.out hz))
        have hzb : ((t[j].size : Int) != szB s) = true := by simp; exact hz
        clear hz
        replace F3 := BX.below F3 hb6 F3.lt
        replace F6 := BX.below F6 hb6 F6.lt
        replace hB := BB.next hB hb6
        have z0 : (_ : Option Value) = some (.int .i64 0) := F6.cell 0 (by simp)
        have z1 : (_ : Option Value) = some (.int .i64 0) := F6.cell 1 (by simp)
        have z2 : (_ : Option Value) = some (.int .i64 0) := F6.cell 2 (by simp)
        have z3 : (_ : Option Value) = some (.int .i64 0) := F6.cell 3 (by simp)
        have z4 : (_ : Option Value) = some (.slice none 0 0) := F6.cell 4 (by simp)
        have z5 : (_ : Option Value) = some (.int .i64 0) := F6.cell 5 (by simp)
        have z6 : (_ : Option Value) = some (.int .i64 0) := F6.cell 6 (by simp)
        have z7 : (_ : Option Value) = some (.slice none 0 0) := F6.cell 7 (by simp)
        have hfz := fun j => F6.free j
        have hBw : Below w.heap.size w w6 := hB
        go_wp2
        refine bodyPost_ret (v := .tuple #[.agg #[.int .i64 0, .int .i64 0, .int .i64 0, .int .i64 0, .slice none 0 0, .int .i64 0, .int .i64 0, .slice none 0 0], .int .i64 7]) (by simp [results, Try.results17, go_sem, World.cell?_setCell_other, z0, z1, z2, z3, z4, z5, z6, z7]) rfl ⟨.slice none 0 0, .slice none 0 0, by rw [HR.out.1, HR.out.2]; rfl, ?_, ?_, .inl rfl, ?_⟩
        · rw [HR.out.1]; exact World.ownsRow_nil _ _ _ _
        · rw [HR.out.1]; exact World.ownsRow_nil _ _ _ _
        · exact (by with_reducible repeat (first | exact Below.refl _ _ | assumption | refine below_step ?_ (by assumption) | refine Below.drew ?_ | refine below_drewN ?_ _ | refine below_alloc ?_ _ | refine Below.setCell ?_ (by simp; try omega) _))
    have hjn : ¬ (j : Int) < (t.length : Int) := by omega
    have HR := Lib.hid (st_4 HX.out (sz_end hjl HF.out))
    go_upto_region 11 with (go_at_call 49; refine (l15Own_any w.heap.size c h p s A cp l k r N q m _ F3.cp ((hr.below hB).more hB.size) hn ((kr.below hB).more hB.size) kn).mono ?_; rintro e w4 ⟨v4, v7, rfl, ho4, ho7, hne, hx4⟩; obtain ⟨g4, c4, hv⟩ := Go.Joins.ownsRow_form ho4 hpos; cases hv; obtain ⟨g7, c7, hv⟩ := Go.Joins.ownsRow_form ho7 hposm; cases hv; have hc7 := own_cap ho7; have lt4 := World.ownsRow.lt ho4 g4 rfl; have lt7 := World.ownsRow.lt ho7 g7 rfl; have l6 := F6.lt; replace F3 := BX.below F3 hx4 F3.lt; replace F6 := BX.below F6 hx4 F6.lt; replace hB := BB.next hB hx4)
    have F8 := BX.made w4 33 [.int .i64 c, .int .i64 h, .int .i64 p, .int .i64 s, .slice (some ⟨g4, 0, none⟩) l.length c4, .int .i64 k, .int .i64 r, .slice (some ⟨g7, 0, none⟩) m.length c7]
    replace F3 := BX.al F3 (.cells #[.int .i64 c, .int .i64 h, .int .i64 p, .int .i64 s, .slice (some ⟨g4, 0, none⟩) l.length c4, .int .i64 k, .int .i64 r, .slice (some ⟨g7, 0, none⟩) m.length c7] 33)
    replace F6 := BX.al F6 (.cells #[.int .i64 c, .int .i64 h, .int .i64 p, .int .i64 s, .slice (some ⟨g4, 0, none⟩) l.length c4, .int .i64 k, .int .i64 r, .slice (some ⟨g7, 0, none⟩) m.length c7] 33)
    replace ho4 := OO.al ho4 (.cells #[.int .i64 c, .int .i64 h, .int .i64 p, .int .i64 s, .slice (some ⟨g4, 0, none⟩) l.length c4, .int .i64 k, .int .i64 r, .slice (some ⟨g7, 0, none⟩) m.length c7] 33)
    replace ho7 := OO.al ho7 (.cells #[.int .i64 c, .int .i64 h, .int .i64 p, .int .i64 s, .slice (some ⟨g4, 0, none⟩) l.length c4, .int .i64 k, .int .i64 r, .slice (some ⟨g7, 0, none⟩) m.length c7] 33)
    replace hB := BB.al hB (.cells #[.int .i64 c, .int .i64 h, .int .i64 p, .int .i64 s, .slice (some ⟨g4, 0, none⟩) l.length c4, .int .i64 k, .int .i64 r, .slice (some ⟨g7, 0, none⟩) m.length c7] 33)
    generalize hG : w4.heap.size = G at F8 lt4 lt7 hx4 ⊢
    generalize w4.alloc (.cells #[.int .i64 c, .int .i64 h, .int .i64 p, .int .i64 s, .slice (some ⟨g4, 0, none⟩) l.length c4, .int .i64 k, .int .i64 r, .slice (some ⟨g7, 0, none⟩) m.length c7] 33) = w5 at *
    have n84 : G ≠ g4 := by omega
    have n64 : w.heap.size + 1 ≠ g4 := by omega
    have n34 : w.heap.size ≠ g4 := by omega
    have n74 : (Value.slice (some ⟨g7, 0, none⟩) m.length c7).ownBlock ≠ some g4 := by
      intro e
      rcases hne with h | h
      · cases h
      · exact h (by rw [e]; rfl)
    have hw4 : w.heap.size ≤ g4 := by omega
    replace ho4 : OO _ _ _ _ _ _ _ := own_base (base' := w.heap.size + 2) ho4 (by omega)
    replace ho7 : OO _ _ _ _ _ _ _ := own_base (base' := w.heap.size + 2) ho7 (by omega)
    clear hjl hj hjn hbl HF
    go_wp2
    go_loopw [8] (fun i wq => ∃ (j : Nat) (cur : List DSector), j ≤ t.length ∧ i = .int .i64 j ∧ cur.length = l.length ∧ Hid (stG cur (m.drop j) (t.drop j) = stG l m t) ∧ OO wq (w.heap.size + 2) 85 2 (.slice (some ⟨g4, 0, none⟩) l.length c4) l.length (flat fSector cur) ∧ OO wq (w.heap.size + 2) 2 1 (.slice (some ⟨g7, 0, none⟩) m.length c7) m.length (flat fI m) ∧ BX wq w.heap.size 33 [.int .i64 c, .int .i64 h, .int .i64 p, .int .i64 s, .slice A l.length cp, .int .i64 k, .int .i64 r, .slice N m.length q] ∧ BX wq (w.heap.size + 1) 33 [.int .i64 0, .int .i64 0, .int .i64 0, .int .i64 0, .slice none 0 0, .int .i64 0, .int .i64 0, .slice none 0 0] ∧ BX wq G 33 [.int .i64 c, .int .i64 h, .int .i64 p, .int .i64 s, .slice (some ⟨g4, 0, none⟩) l.length c4, .int .i64 k, .int .i64 r, .slice (some ⟨g7, 0, none⟩) m.length c7] ∧ BB w wq) (fun i _ => t.length - (intOf i).toNat)
    case atStart => exact ⟨0, l, Nat.zero_le _, rfl, rfl, Lib.hid rfl, ho4, ho7, F3, F6, F8, hB⟩
    case round =>
      clear F3 F6 F8 ho4 ho7 hB
      obtain ⟨j, cur, hj, rfl, hcl, HG, ho4, ho7, F3, F6, F8, hB⟩ := hrel
      by_cases hjl : j < t.length
      · have hji : (j : Int) < (t.length : Int) := by omega
        have hjm : j < m.length := by have := HX.out; omega
        have hjmi : (j : Int) < (m.length : Int) := by omega
        obtain ⟨x0, x1⟩ := hall m[j] (List.getElem_mem hjm)
        obtain ⟨X, hX⟩ : ∃ X : Nat, m[j] = (X : Int) := ⟨m[j].toNat, by omega⟩
        have hXl : X < l.length := by omega
        have hXi : (X : Int) < (l.length : Int) := by omega
        have hXc : X < cur.length := by omega
        have kb0 : X * 2 < l.length * 2 := by omega
        have kb1 : X * 2 + 1 < l.length * 2 := by omega
        obtain ⟨dat, hdat⟩ : ∃ d, t[j] = d := ⟨_, rfl⟩
        have HN := Lib.hid (stG_step hjm hjl hX hdat HG.out)
        have HP := Lib.hid (setS cur X hXc ⟨dat, 1⟩)
        obtain ⟨be, offe, rfl, hbe, hce⟩ := ((er.below hB).more hB.size).at_ fS_len rfl j hjl
        have he0 := hce 0 _ (by omega) rfl
        clear hce
        simp only [Nat.mul_one, Nat.add_zero] at he0
        rw [hdat] at he0
        go_wp2_with fail
        have d4 : (_ : Option Value) = some (.slice (some ⟨g4, 0, none⟩) l.length c4) := F8.cell 4 (by simp)
        have d7 : (_ : Option Value) = some (.slice (some ⟨g7, 0, none⟩) m.length c7) := F8.cell 7 (by simp)
        have e7 : (_ : Option Value) = some (.slice N m.length q) := F3.cell 7 (by simp)
        obtain ⟨bb, off, rfl, hbb, hc⟩ := ((kr.below hB).more hB.size).at_ fI_len rfl j hjm
        have hc0 := hc 0 _ (by omega) rfl
        clear hc
        simp only [Nat.mul_one, Nat.add_zero] at hc0
        rw [hX] at hc0
        refine wp_region_still_tail 13 (by kernel_rfl) (by kernel_rfl) ?_
        simp only [List.take_succ_cons, List.take_zero, List.drop_succ_cons, List.drop_zero]
        repeat still_step
        refine wpStill_nil ?_
        change wpList _ _ _ _ _ wr.drew
        replace F3 := BX.dr F3
        replace F6 := BX.dr F6
        replace F8 := BX.dr F8
        replace ho4 : OO _ _ _ _ _ _ _ := OO.dr ho4
        replace ho7 : OO _ _ _ _ _ _ _ := OO.dr ho7
        replace hB : BB w _ := BB.dr hB
        clear d4 d7 e7 hc0 he0
        generalize wr.drew = w6 at hB F3 F6 F8 ho4 ho7 ⊢
        have o1 := World.ownsRow.stored ho4 (X * 2) (.string dat) |>.1
        have o2 := World.ownsRow.stored o1 (X * 2 + 1) (.int .i64 1) |>.1
        obtain ⟨u0, hu0⟩ := own_some ho4 (X * 2) kb0
        have hz0 := World.ownsRow.frozenAt ho4 (X * 2)
        obtain ⟨u2, hu2⟩ := own_some o1 (X * 2 + 1) kb1
        have hz2 := World.ownsRow.frozenAt o1 (X * 2 + 1)
        have P8 := ((F8.far (a := ⟨g4, X * 2, none⟩) n84 (.string dat)).far (a := ⟨g4, X * 2 + 1, none⟩) n84 (.int .i64 1))
        have P6 := ((F6.far (a := ⟨g4, X * 2, none⟩) n64 (.string dat)).far (a := ⟨g4, X * 2 + 1, none⟩) n64 (.int .i64 1))
        have P3 := ((F3.far (a := ⟨g4, X * 2, none⟩) n34 (.string dat)).far (a := ⟨g4, X * 2 + 1, none⟩) n34 (.int .i64 1))
        have o7 := ((ho7.putne (a := ⟨g4, X * 2, none⟩) n74 (.string dat)).putne (a := ⟨g4, X * 2 + 1, none⟩) n74 (.int .i64 1))
        have hBq := ((hB.put (a := ⟨g4, X * 2, none⟩) hw4 (.string dat)).put (a := ⟨g4, X * 2 + 1, none⟩) hw4 (.int .i64 1))
        have o3 : OO _ (w.heap.size + 2) _ _ _ _ (putV (flat fSector cur) (X * 2) (fSector ⟨dat, 1⟩)) := o2
        rw [HP.out] at o3
        go_wp2
        go_roundw
        case rel => exact ⟨j + 1, cur.set X ⟨dat, 1⟩, by omega, by go_num, by rw [List.length_set]; exact hcl, HN, o3, o7, P3, P6, P8, hBq⟩
        case measure => (simp [intOf] <;> omega)
      have hjn : ¬ (j : Int) < (t.length : Int) := by omega
      have HL := Lib.hid (stG_end hjl HG.out (l := l) rfl)
      have q0 : (_ : Option Value) = some (.int .i64 c) := F8.cell 0 (by simp)
      have q1 : (_ : Option Value) = some (.int .i64 h) := F8.cell 1 (by simp)
      have q2 : (_ : Option Value) = some (.int .i64 p) := F8.cell 2 (by simp)
      have q3 : (_ : Option Value) = some (.int .i64 s) := F8.cell 3 (by simp)
      have q4 : (_ : Option Value) = some (.slice (some ⟨g4, 0, none⟩) l.length c4) := F8.cell 4 (by simp)
      have q5 : (_ : Option Value) = some (.int .i64 k) := F8.cell 5 (by simp)
      have q6 : (_ : Option Value) = some (.int .i64 r) := F8.cell 6 (by simp)
      have q7 : (_ : Option Value) = some (.slice (some ⟨g7, 0, none⟩) m.length c7) := F8.cell 7 (by simp)
      have z0 : (_ : Option Value) = some (.int .i64 0) := F6.cell 0 (by simp)
      have z1 : (_ : Option Value) = some (.int .i64 0) := F6.cell 1 (by simp)
      have z2 : (_ : Option Value) = some (.int .i64 0) := F6.cell 2 (by simp)
      have z3 : (_ : Option Value) = some (.int .i64 0) := F6.cell 3 (by simp)
      have z4 : (_ : Option Value) = some (.slice none 0 0) := F6.cell 4 (by simp)
      have z5 : (_ : Option Value) = some (.int .i64 0) := F6.cell 5 (by simp)
      have z6 : (_ : Option Value) = some (.int .i64 0) := F6.cell 6 (by simp)
      have z7 : (_ : Option Value) = some (.slice none 0 0) := F6.cell 7 (by simp)
      have hfz := fun j => F6.free j
      go_wp2
      refine bodyPost_ret (v := .tuple #[.agg #[.int .i64 c, .int .i64 h, .int .i64 p, .int .i64 s, .slice (some ⟨g4, 0, none⟩) l.length c4, .int .i64 k, .int .i64 r, .slice (some ⟨g7, 0, none⟩) m.length c7], .int .i64 0]) (by simp [results, Try.results17, go_sem, World.cell?_setCell_other, z0, z1, z2, z3, z4, z5, z6, z7]) rfl ⟨_, _, by rw [HR.out.1, HR.out.2]; rfl, ?_, ?_, hne, ?_⟩
      · rw [HR.out.1, HL.out, hcl]
        exact own_base (base' := w.heap.size) ((((((((ho4.put (a := ⟨w.heap.size + 1, 0, none⟩) (by simp) (.int .i64 c)).put (a := ⟨w.heap.size + 1, 1, none⟩) (by simp) (.int .i64 h)).put (a := ⟨w.heap.size + 1, 2, none⟩) (by simp) (.int .i64 p)).put (a := ⟨w.heap.size + 1, 3, none⟩) (by simp) (.int .i64 s)).put (a := ⟨w.heap.size + 1, 4, none⟩) (by simp) (.slice (some ⟨g4, 0, none⟩) l.length c4)).put (a := ⟨w.heap.size + 1, 5, none⟩) (by simp) (.int .i64 k)).put (a := ⟨w.heap.size + 1, 6, none⟩) (by simp) (.int .i64 r)).put (a := ⟨w.heap.size + 1, 7, none⟩) (by simp) (.slice (some ⟨g7, 0, none⟩) m.length c7)) (by omega)
      · rw [HR.out.1, show wdM true m = m from rfl]
        exact own_base (base' := w.heap.size) ((((((((ho7.put (a := ⟨w.heap.size + 1, 0, none⟩) (by simp) (.int .i64 c)).put (a := ⟨w.heap.size + 1, 1, none⟩) (by simp) (.int .i64 h)).put (a := ⟨w.heap.size + 1, 2, none⟩) (by simp) (.int .i64 p)).put (a := ⟨w.heap.size + 1, 3, none⟩) (by simp) (.int .i64 s)).put (a := ⟨w.heap.size + 1, 4, none⟩) (by simp) (.slice (some ⟨g4, 0, none⟩) l.length c4)).put (a := ⟨w.heap.size + 1, 5, none⟩) (by simp) (.int .i64 k)).put (a := ⟨w.heap.size + 1, 6, none⟩) (by simp) (.int .i64 r)).put (a := ⟨w.heap.size + 1, 7, none⟩) (by simp) (.slice (some ⟨g7, 0, none⟩) m.length c7)) (by omega)
      · exact ((((((((hB.put (a := ⟨w.heap.size + 1, 0, none⟩) (by simp) (.int .i64 c)).put (a := ⟨w.heap.size + 1, 1, none⟩) (by simp) (.int .i64 h)).put (a := ⟨w.heap.size + 1, 2, none⟩) (by simp) (.int .i64 p)).put (a := ⟨w.heap.size + 1, 3, none⟩) (by simp) (.int .i64 s)).put (a := ⟨w.heap.size + 1, 4, none⟩) (by simp) (.slice (some ⟨g4, 0, none⟩) l.length c4)).put (a := ⟨w.heap.size + 1, 5, none⟩) (by simp) (.int .i64 k)).put (a := ⟨w.heap.size + 1, 6, none⟩) (by simp) (.int .i64 r)).put (a := ⟨w.heap.size + 1, 7, none⟩) (by simp) (.slice (some ⟨g7, 0, none⟩) m.length c7))
end Go.Proofs.Ytipkckoejkmhfab
