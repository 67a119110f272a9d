/- Walks: the texts CeM C1 C2 C3 C4 C5 C6 W97c W98c C7 as one text. -/
import Derived.Test.YtbobehieaaaleaaGreatDoorN1
import Derived.Deep.RegionHeld3
import Derived.Deep.CutBlock
import Derived.Deep.DeepCutAuto
import Derived.Lib.QuietBelow
import Derived.Test.YtbobehieaaaleaaGreatDoorShelf
import Derived.Laws.BitsLemmas
import Derived.Test.YtbobehieaaaleaaGreatDoorW97
import Derived.Test.YtbobehieaaaleaaGreatDoorMem2
import Derived.Test.YtbobehieaaaleaaGreatDoorW98
namespace Go.Proofs.YtbobehieaaaleaaGreatDoor
set_option linter.unusedVariables false
open Go.RowKit

/-- An entry. -/
structure CE where
  nm : ByteArray
  fs : Int
  sz : Int
  b3 : Bool
  b4 : Bool
def ce0 : CE := ⟨⟨#[]⟩, 0, 0, false, false⟩
/-- What stands in the bytes of an entry, with the name nm. -/
def ceOf (nm : ByteArray) (B : List UInt8) : CE := ⟨nm, (gb B 8 : Int), 256 * (gb B 9 : Int) + (gb B 10 : Int), decide (gb B 11 = 1), decide (gb B 11 = 2)⟩
def nmS (B : List UInt8) : ByteArray := ⟨((B.take 8).takeWhile fun b => b != 0).toArray⟩
def nmI (B : List UInt8) : ByteArray := trB ⟨(B.take 8).toArray⟩ 0
def cV (e : CE) : Bool := if !e.b3 && !e.b4 then decide (e.nm.size = 0) && (decide (e.fs = 0) && decide (e.sz = 0)) else (e.b3 != e.b4) && (isName e.nm && inB e.sz 0 512)
def z12 : List UInt8 := List.replicate 12 0
theorem z12_len : z12.length = 12 := List.length_replicate
/-- The bytes of an entry. -/
def cB3 (e : CE) : List UInt8 := (((putL z12 0 e.nm.data.toList).set 8 (UInt8.ofNat e.fs.toNat)).set 9 (UInt8.ofNat (e.sz.toNat / 256))).set 10 (UInt8.ofNat (e.sz.toNat % 256))
def cB (e : CE) : List UInt8 := if e.b3 then (cB3 e).set 11 1 else if e.b4 then (cB3 e).set 11 2 else cB3 e
def cOk (B : List UInt8) : Bool := cV (ceOf (nmS B) B) && decide (cB (ceOf (nmS B) B) = B)
theorem isNmC_0 : isNmC 0 = false := by decide
theorem name_free {nm : ByteArray} (h : isName nm = true) : nm.size ≤ 8 ∧ ∀ b ∈ nm.data.toList, b ≠ 0 := by
  simp only [isName, Bool.and_eq_true, decide_eq_true_eq, List.all_eq_true] at h
  refine ⟨h.1.1.2, fun b hb e => ?_⟩
  subst e
  have := h.2 _ hb
  rw [isNmC_0] at this
  cases this
theorem nm_len (nm : ByteArray) : nm.data.toList.length = nm.size := by rw [Array.length_toList]; rfl
theorem cV_free {e : CE} (h : cV e = true) : e.nm.size ≤ 8 ∧ ∀ b ∈ e.nm.data.toList, b ≠ 0 := by
  unfold cV at h
  split at h
  · rw [Bool.and_eq_true, decide_eq_true_eq] at h
    refine ⟨by omega, fun b hb => ?_⟩
    have h9 := List.length_pos_of_mem hb
    rw [nm_len] at h9
    omega
  · rw [Bool.and_eq_true, Bool.and_eq_true] at h
    exact name_free h.2.1
theorem cB3_take {e : CE} (h : e.nm.size ≤ 8) : (cB3 e).take 8 = e.nm.data.toList ++ List.replicate (8 - e.nm.size) 0 := by
  unfold cB3
  rw [List.take_set_of_le (by omega), List.take_set_of_le (by omega), List.take_set_of_le (by omega), putL_eq _ _ _ (by rw [nm_len, z12_len]; omega), nm_len]
  simp only [List.take_zero, List.nil_append, Nat.zero_add]
  rw [List.take_append, nm_len, List.take_of_length_le (by rw [nm_len]; omega)]
  congr 1
  unfold z12
  rw [List.drop_replicate, List.take_replicate]
  congr 1
  omega
theorem cB_take {e : CE} (h : e.nm.size ≤ 8) : (cB e).take 8 = e.nm.data.toList ++ List.replicate (8 - e.nm.size) 0 := by
  unfold cB
  split
  · rw [List.take_set_of_le (by omega), cB3_take h]
  · split
    · rw [List.take_set_of_le (by omega), cB3_take h]
    · exact cB3_take h
theorem tw_free : ∀ (l : List UInt8) (k : Nat), (∀ b ∈ l, b ≠ 0) → (l ++ List.replicate k 0).takeWhile (fun b => b != 0) = l
  | [], 0, _ => rfl
  | [], k + 1, _ => by simp [List.replicate_succ]
  | x :: l, k, h => by
    have hx : x ≠ 0 := h x (by simp)
    rw [List.cons_append, List.takeWhile_cons, if_pos (by simpa using hx), tw_free l k fun b hb => h b (by simp [hb])]
theorem tr_free (l : List UInt8) (h : ∀ b ∈ l, b ≠ 0) : ∀ k : Nat, Lib.trimRightB (l ++ List.replicate k 0) 0 = l
  | 0 => by
    rw [List.replicate_zero, List.append_nil]
    rcases List.eq_nil_or_concat l with rfl | ⟨m, x, rfl⟩
    · rfl
    · rw [List.concat_eq_append]
      exact tr_else m (h x (by simp))
  | k + 1 => by
    rw [List.replicate_succ', ← List.append_assoc, tr_same]
    exact tr_free l h k
theorem nm_both {nm : ByteArray} {B : List UInt8} (h8 : nm.size ≤ 8) (hf : ∀ b ∈ nm.data.toList, b ≠ 0) (hB : B.take 8 = nm.data.toList ++ List.replicate (8 - nm.size) 0) : nmS B = nm ∧ nmI B = nm := by
  have e1 : nm = ⟨nm.data.toList.toArray⟩ := rfl
  refine ⟨?_, ?_⟩
  · rw [nmS, hB, tw_free _ _ hf]
  · show (⟨(Lib.trimRightB (B.take 8).toArray.toList 0).toArray⟩ : ByteArray) = nm
    rw [show (B.take 8).toArray.toList = B.take 8 from rfl, hB, tr_free _ hf]
theorem ce_one {nm : ByteArray} {B : List UInt8} (h : (cV (ceOf nm B) && decide (cB (ceOf nm B) = B)) = true) : nmS B = nm ∧ nmI B = nm := by
  rw [Bool.and_eq_true, decide_eq_true_eq] at h
  obtain ⟨h8, hf⟩ := cV_free h.1
  have := cB_take (e := ceOf nm B) h8
  rw [h.2] at this
  exact nm_both h8 hf this
/-- Both ways to read the name agree where the entry is right. -/
theorem ce_same (B : List UInt8) : (cV (ceOf (nmI B) B) && decide (cB (ceOf (nmI B) B) = B)) = cOk B ∧ (cOk B = true → nmI B = nmS B) := by
  have key : cOk B = true → nmI B = nmS B := fun h => (ce_one h).2
  refine ⟨?_, key⟩
  cases hI : (cV (ceOf (nmI B) B) && decide (cB (ceOf (nmI B) B) = B))
  · cases hS : cOk B
    · rfl
    · have := key hS
      rw [this] at hI
      exact hI.symm.trans hS
  · have := (ce_one hI).1
    unfold cOk
    rw [this, hI]
theorem cO_n {B : List UInt8} {nm : ByteArray} (h : cV (ceOf nm B) = false) : (cV (ceOf nm B) && decide (cB (ceOf nm B) = B)) = false := by rw [h]; rfl
theorem cO_b {B : List UInt8} {nm : ByteArray} (g : ¬ cB (ceOf nm B) = B) : (cV (ceOf nm B) && decide (cB (ceOf nm B) = B)) = false := by rw [decide_eq_false g, Bool.and_false]
theorem cO_y {B : List UInt8} {nm : ByteArray} (h : cV (ceOf nm B) = true) (g : cB (ceOf nm B) = B) : (cV (ceOf nm B) && decide (cB (ceOf nm B) = B)) = true := by rw [h, decide_eq_true g]; rfl
/-- What the entry's place k holds. -/
def cRaw (J : List UInt8) (D z k : Nat) : List UInt8 := (J.drop (D * z + 12 * k)).take 12
theorem cRaw_len {J : List UInt8} {D z k : Nat} (h : D * z + 12 * k + 12 ≤ J.length) : (cRaw J D z k).length = 12 := by
  unfold cRaw
  rw [List.length_take, List.length_drop]
  omega
theorem ceOf_ok (nm : ByteArray) (B : List UInt8) : (0 ≤ (ceOf nm B).fs ∧ (ceOf nm B).fs ≤ 255) ∧ (0 ≤ (ceOf nm B).sz ∧ (ceOf nm B).sz ≤ 65535) := by
  have h8 := gb_lt B 8
  have h9 := gb_lt B 9
  have h10 := gb_lt B 10
  refine ⟨⟨?_, ?_⟩, ?_, ?_⟩
  · show (0 : Int) ≤ (gb B 8 : Int); omega
  · show (gb B 8 : Int) ≤ 255; omega
  · show (0 : Int) ≤ 256 * (gb B 9 : Int) + (gb B 10 : Int); omega
  · show 256 * (gb B 9 : Int) + (gb B 10 : Int) ≤ 65535; omega
end Go.Proofs.YtbobehieaaaleaaGreatDoor
namespace Go.Proofs.YtbobehieaaaleaaGreatDoor
set_option linter.unusedVariables false
open Go.RowKit

theorem cV_0 {nm : ByteArray} {fs sz : Int} {v : Bool} (h : (decide (nm.size = 0) && (decide (fs = 0) && decide (sz = 0))) = v) : cV ⟨nm, fs, sz, false, false⟩ = v := h
theorem cV_tt {nm : ByteArray} {fs sz : Int} : cV ⟨nm, fs, sz, true, true⟩ = false := rfl
theorem cV_tf {nm : ByteArray} {fs sz : Int} {v : Bool} (h : (isName nm && inB sz 0 512) = v) : cV ⟨nm, fs, sz, true, false⟩ = v := h
theorem cV_ft {nm : ByteArray} {fs sz : Int} {v : Bool} (h : (isName nm && inB sz 0 512) = v) : cV ⟨nm, fs, sz, false, true⟩ = v := h
theorem str_nil0 (nm : ByteArray) (h : nm.size = 0) : nm = ⟨#[]⟩ := by
  have : nm.data.size = 0 := h
  have := Array.eq_empty_of_size_eq_zero this
  exact congrArg ByteArray.mk this
theorem str_nilb (nm : ByteArray) : (nm.toList == []) = decide (nm.size = 0) := by
  rw [ByteArray.toList_eq]
  cases h : decide (nm.size = 0)
  · rw [decide_eq_false_iff_not] at h
    rw [beq_eq_false_iff_ne]
    intro e
    have h9 : nm.data.toList.length = nm.size := nm_len nm
    rw [e] at h9
    exact h h9.symm
  · rw [decide_eq_true_eq] at h
    rw [str_nil0 nm h]
    rfl
set_option maxRecDepth 100000 in
set_option maxHeartbeats 4000000 in
theorem l16Entry_any (g : Nat) (nm : ByteArray) (fs sz : Int) (b3 b4 : Bool) (w : World) (d : CP w g [.string nm, .int .i64 fs, .int .i64 sz, .bool b3, .bool b4]) (hnm : nm.size ≤ 1048576) (hfs : 0 ≤ fs ∧ fs ≤ 255) :
    Calls Tryz.prog 21 #[.pointer (some ⟨g, 0, none⟩)] w fun r w' => r = .returned (.bool (cV ⟨nm, fs, sz, b3, b4⟩)) ∧ Below w.heap.size w w' := by
  have d0 : (_ : Option Value) = some (.string nm) := d 0 (by simp)
  have d1 : (_ : Option Value) = some (.int .i64 fs) := d 1 (by simp)
  have d2 : (_ : Option Value) = some (.int .i64 sz) := d 2 (by simp)
  have d3 : (_ : Option Value) = some (.bool b3) := d 3 (by simp)
  have d4 : (_ : Option Value) = some (.bool b4) := d 4 (by simp)
  clear d
  have hF : inB fs 0 255 = true := by simp only [inB, Bool.and_eq_true, decide_eq_true_eq]; exact hfs
  cases b3
  · cases b4
    · clear hnm hfs hF
      have hsb := str_nilb nm
      cases z1 : decide (nm.size = 0)
      · have HR := Lib.hid (cV_0 (nm := nm) (fs := fs) (sz := sz) (v := false) (by rw [z1]; rfl))
        rw [z1] at hsb
        clear z1
        go_enter Tryz.func21, Tryz.ntmps21
        go_wp2
        go_ret
        exact ⟨ret_bool HR.out.symm, (by repeat (first | exact Below.refl _ _ | refine below_step ?_ (by assumption) | assumption | refine Below.drew ?_ | refine below_drewN ?_ _ | refine below_alloc ?_ _ | refine Below.setCell ?_ (by simp; try omega) _))⟩
      rw [z1] at hsb
      cases z2 : (fs == 0)
      · have HR := Lib.hid (cV_0 (nm := nm) (fs := fs) (sz := sz) (v := false) (by rw [show decide (fs = 0) = false by simpa using z2, Bool.false_and, Bool.and_false]))
        clear z1
        go_enter Tryz.func21, Tryz.ntmps21
        go_wp2
        go_ret
        exact ⟨ret_bool HR.out.symm, (by repeat (first | exact Below.refl _ _ | refine below_step ?_ (by assumption) | assumption | refine Below.drew ?_ | refine below_drewN ?_ _ | refine below_alloc ?_ _ | refine Below.setCell ?_ (by simp; try omega) _))⟩
      cases z3 : (sz == 0)
      · have HR := Lib.hid (cV_0 (nm := nm) (fs := fs) (sz := sz) (v := false) (by rw [show decide (sz = 0) = false by simpa using z3, Bool.and_false, Bool.and_false]))
        clear z1
        go_enter Tryz.func21, Tryz.ntmps21
        go_wp2
        go_ret
        exact ⟨ret_bool HR.out.symm, (by repeat (first | exact Below.refl _ _ | refine below_step ?_ (by assumption) | assumption | refine Below.drew ?_ | refine below_drewN ?_ _ | refine below_alloc ?_ _ | refine Below.setCell ?_ (by simp; try omega) _))⟩
      have HR := Lib.hid (cV_0 (nm := nm) (fs := fs) (sz := sz) (v := true) (by rw [z1, show decide (fs = 0) = true by simpa using z2, show decide (sz = 0) = true by simpa using z3]; rfl))
      clear z1
      go_enter Tryz.func21, Tryz.ntmps21
      go_wp2
      go_ret
      exact ⟨ret_bool HR.out.symm, (by repeat (first | exact Below.refl _ _ | refine below_step ?_ (by assumption) | assumption | refine Below.drew ?_ | refine below_drewN ?_ _ | refine below_alloc ?_ _ | refine Below.setCell ?_ (by simp; try omega) _))⟩
    cases n1 : isName nm
    · have HR := Lib.hid (cV_ft (nm := nm) (fs := fs) (sz := sz) (v := false) (by rw [n1]; rfl))
      have kd0 := gw_cell d0
      have kd1 := gw_cell d1
      have kd2 := gw_cell d2
      have kd3 := gw_cell d3
      have kd4 := gw_cell d4
      have p1 := fun (p' : Regrown) => qb_same p' (spec_IsName_any nm (Sort.grow (redrawn w p'.d) p'.os) hnm)
      have p2 := fun (p' : Regrown) => qb_same p' (l00In_any fs 0 255 (Sort.grow (redrawn w p'.d) p'.os))
      have p3 := fun (p' : Regrown) => qb_same p' (l00In_any sz 0 512 (Sort.grow (redrawn w p'.d) p'.os))
      rw [n1] at p1; rw [hF] at p2
      clear hnm hfs hF
      go_enter Tryz.func21, Tryz.ntmps21
      go_upto_region 3 with fail
      refine wp_region_quiet_below (by kernel_rfl) (by kernel_rfl) ?_
      repeat (go_big_quiet_step (first | with_reducible exact p1 _ | with_reducible exact p2 _ | with_reducible exact p3 _))
      refine wpQuiet_nil ?_
      intro _ hw'
      obtain ⟨pq, hw''⟩ := hw'
      subst hw''
      have hB6 := gw_below w pq
      generalize Sort.grow (redrawn w pq.d) pq.os = w6 at hB6 ⊢
      go_wp2_with fail
      go_ret
      exact ⟨ret_bool HR.out.symm, hB6⟩
    cases q1 : inB sz 0 512
    · have HR := Lib.hid (cV_ft (nm := nm) (fs := fs) (sz := sz) (v := false) (by rw [n1, q1]; rfl))
      have kd0 := gw_cell d0
      have kd1 := gw_cell d1
      have kd2 := gw_cell d2
      have kd3 := gw_cell d3
      have kd4 := gw_cell d4
      have p1 := fun (p' : Regrown) => qb_same p' (spec_IsName_any nm (Sort.grow (redrawn w p'.d) p'.os) hnm)
      have p2 := fun (p' : Regrown) => qb_same p' (l00In_any fs 0 255 (Sort.grow (redrawn w p'.d) p'.os))
      have p3 := fun (p' : Regrown) => qb_same p' (l00In_any sz 0 512 (Sort.grow (redrawn w p'.d) p'.os))
      rw [n1] at p1; rw [hF] at p2; rw [q1] at p3
      clear hnm hfs hF
      go_enter Tryz.func21, Tryz.ntmps21
      go_upto_region 3 with fail
      refine wp_region_quiet_below (by kernel_rfl) (by kernel_rfl) ?_
      repeat (go_big_quiet_step (first | with_reducible exact p1 _ | with_reducible exact p2 _ | with_reducible exact p3 _))
      refine wpQuiet_nil ?_
      intro _ hw'
      obtain ⟨pq, hw''⟩ := hw'
      subst hw''
      have hB6 := gw_below w pq
      generalize Sort.grow (redrawn w pq.d) pq.os = w6 at hB6 ⊢
      go_wp2_with fail
      go_ret
      exact ⟨ret_bool HR.out.symm, hB6⟩
    have HR := Lib.hid (cV_ft (nm := nm) (fs := fs) (sz := sz) (v := true) (by rw [n1, q1]; rfl))
    have kd0 := gw_cell d0
    have kd1 := gw_cell d1
    have kd2 := gw_cell d2
    have kd3 := gw_cell d3
    have kd4 := gw_cell d4
    have p1 := fun (p' : Regrown) => qb_same p' (spec_IsName_any nm (Sort.grow (redrawn w p'.d) p'.os) hnm)
    have p2 := fun (p' : Regrown) => qb_same p' (l00In_any fs 0 255 (Sort.grow (redrawn w p'.d) p'.os))
    have p3 := fun (p' : Regrown) => qb_same p' (l00In_any sz 0 512 (Sort.grow (redrawn w p'.d) p'.os))
    rw [n1] at p1; rw [hF] at p2; rw [q1] at p3
    clear hnm hfs hF
    go_enter Tryz.func21, Tryz.ntmps21
    go_upto_region 3 with fail
    refine wp_region_quiet_below (by kernel_rfl) (by kernel_rfl) ?_
    repeat (go_big_quiet_step (first | with_reducible exact p1 _ | with_reducible exact p2 _ | with_reducible exact p3 _))
    refine wpQuiet_nil ?_
    intro _ hw'
    obtain ⟨pq, hw''⟩ := hw'
    subst hw''
    have hB6 := gw_below w pq
    generalize Sort.grow (redrawn w pq.d) pq.os = w6 at hB6 ⊢
    go_wp2_with fail
    go_ret
    exact ⟨ret_bool HR.out.symm, hB6⟩
  cases b4
  · skip
    cases n1 : isName nm
    · have HR := Lib.hid (cV_tf (nm := nm) (fs := fs) (sz := sz) (v := false) (by rw [n1]; rfl))
      have kd0 := gw_cell d0
      have kd1 := gw_cell d1
      have kd2 := gw_cell d2
      have kd3 := gw_cell d3
      have kd4 := gw_cell d4
      have p1 := fun (p' : Regrown) => qb_same p' (spec_IsName_any nm (Sort.grow (redrawn w p'.d) p'.os) hnm)
      have p2 := fun (p' : Regrown) => qb_same p' (l00In_any fs 0 255 (Sort.grow (redrawn w p'.d) p'.os))
      have p3 := fun (p' : Regrown) => qb_same p' (l00In_any sz 0 512 (Sort.grow (redrawn w p'.d) p'.os))
      rw [n1] at p1; rw [hF] at p2
      clear hnm hfs hF
      go_enter Tryz.func21, Tryz.ntmps21
      go_upto_region 3 with fail
      refine wp_region_quiet_below (by kernel_rfl) (by kernel_rfl) ?_
      repeat (go_big_quiet_step (first | with_reducible exact p1 _ | with_reducible exact p2 _ | with_reducible exact p3 _))
      refine wpQuiet_nil ?_
      intro _ hw'
      obtain ⟨pq, hw''⟩ := hw'
      subst hw''
      have hB6 := gw_below w pq
      generalize Sort.grow (redrawn w pq.d) pq.os = w6 at hB6 ⊢
      go_wp2_with fail
      go_ret
      exact ⟨ret_bool HR.out.symm, hB6⟩
    cases q1 : inB sz 0 512
    · have HR := Lib.hid (cV_tf (nm := nm) (fs := fs) (sz := sz) (v := false) (by rw [n1, q1]; rfl))
      have kd0 := gw_cell d0
      have kd1 := gw_cell d1
      have kd2 := gw_cell d2
      have kd3 := gw_cell d3
      have kd4 := gw_cell d4
      have p1 := fun (p' : Regrown) => qb_same p' (spec_IsName_any nm (Sort.grow (redrawn w p'.d) p'.os) hnm)
      have p2 := fun (p' : Regrown) => qb_same p' (l00In_any fs 0 255 (Sort.grow (redrawn w p'.d) p'.os))
      have p3 := fun (p' : Regrown) => qb_same p' (l00In_any sz 0 512 (Sort.grow (redrawn w p'.d) p'.os))
      rw [n1] at p1; rw [hF] at p2; rw [q1] at p3
      clear hnm hfs hF
      go_enter Tryz.func21, Tryz.ntmps21
      go_upto_region 3 with fail
      refine wp_region_quiet_below (by kernel_rfl) (by kernel_rfl) ?_
      repeat (go_big_quiet_step (first | with_reducible exact p1 _ | with_reducible exact p2 _ | with_reducible exact p3 _))
      refine wpQuiet_nil ?_
      intro _ hw'
      obtain ⟨pq, hw''⟩ := hw'
      subst hw''
      have hB6 := gw_below w pq
      generalize Sort.grow (redrawn w pq.d) pq.os = w6 at hB6 ⊢
      go_wp2_with fail
      go_ret
      exact ⟨ret_bool HR.out.symm, hB6⟩
    have HR := Lib.hid (cV_tf (nm := nm) (fs := fs) (sz := sz) (v := true) (by rw [n1, q1]; rfl))
    have kd0 := gw_cell d0
    have kd1 := gw_cell d1
    have kd2 := gw_cell d2
    have kd3 := gw_cell d3
    have kd4 := gw_cell d4
    have p1 := fun (p' : Regrown) => qb_same p' (spec_IsName_any nm (Sort.grow (redrawn w p'.d) p'.os) hnm)
    have p2 := fun (p' : Regrown) => qb_same p' (l00In_any fs 0 255 (Sort.grow (redrawn w p'.d) p'.os))
    have p3 := fun (p' : Regrown) => qb_same p' (l00In_any sz 0 512 (Sort.grow (redrawn w p'.d) p'.os))
    rw [n1] at p1; rw [hF] at p2; rw [q1] at p3
    clear hnm hfs hF
    go_enter Tryz.func21, Tryz.ntmps21
    go_upto_region 3 with fail
    refine wp_region_quiet_below (by kernel_rfl) (by kernel_rfl) ?_
    repeat (go_big_quiet_step (first | with_reducible exact p1 _ | with_reducible exact p2 _ | with_reducible exact p3 _))
    refine wpQuiet_nil ?_
    intro _ hw'
    obtain ⟨pq, hw''⟩ := hw'
    subst hw''
    have hB6 := gw_below w pq
    generalize Sort.grow (redrawn w pq.d) pq.os = w6 at hB6 ⊢
    go_wp2_with fail
    go_ret
    exact ⟨ret_bool HR.out.symm, hB6⟩
  have HR := Lib.hid (cV_tt (nm := nm) (fs := fs) (sz := sz))
  have kd0 := gw_cell d0
  have kd1 := gw_cell d1
  have kd2 := gw_cell d2
  have kd3 := gw_cell d3
  have kd4 := gw_cell d4
  clear hnm hfs hF
  go_enter Tryz.func21, Tryz.ntmps21
  go_upto_region 3 with fail
  refine wp_region_quiet_below (by kernel_rfl) (by kernel_rfl) ?_
  repeat (go_big_quiet_step (fail))
  refine wpQuiet_nil ?_
  intro _ hw'
  obtain ⟨pq, hw''⟩ := hw'
  subst hw''
  have hB6 := gw_below w pq
  generalize Sort.grow (redrawn w pq.d) pq.os = w6 at hB6 ⊢
  go_wp2_with fail
  go_ret
  exact ⟨ret_bool HR.out.symm, hB6⟩
set_option maxRecDepth 100000 in
set_option maxHeartbeats 4000000 in
theorem validEntry_any (nm : ByteArray) (fs sz : Int) (b3 b4 : Bool) (w : World) (hnm : nm.size ≤ 1048576) (hfs : 0 ≤ fs ∧ fs ≤ 255) :
    Calls Tryz.prog 30 #[.agg #[.string nm, .int .i64 fs, .int .i64 sz, .bool b3, .bool b4]] w fun r w' => r = .returned (.bool (cV ⟨nm, fs, sz, b3, b4⟩)) ∧ Below w.heap.size w w' := by
  have D := CP.made w [.string nm, .int .i64 fs, .int .i64 sz, .bool b3, .bool b4] 38
  have d0 : (_ : Option Value) = some (.string nm) := D 0 (by simp)
  have d1 : (_ : Option Value) = some (.int .i64 fs) := D 1 (by simp)
  have d2 : (_ : Option Value) = some (.int .i64 sz) := D 2 (by simp)
  have d3 : (_ : Option Value) = some (.bool b3) := D 3 (by simp)
  have d4 : (_ : Option Value) = some (.bool b4) := D 4 (by simp)
  clear D
  have hF : inB fs 0 255 = true := by simp only [inB, Bool.and_eq_true, decide_eq_true_eq]; exact hfs
  have p1 := fun (W : World) => impl_IsName_any nm W hnm
  have p2 := fun (W : World) => isByte_any fs W
  have p3 := fun (W : World) => within_any sz 0 512 W
  rw [hF] at p2
  cases b3
  · cases b4
    · clear hnm hfs hF p1 p2 p3
      have hsb := str_nilb nm
      cases z1 : decide (nm.size = 0)
      · have HR := Lib.hid (cV_0 (nm := nm) (fs := fs) (sz := sz) (v := false) (by rw [z1]; rfl))
        rw [z1] at hsb
        clear z1
        go_enter Tryz.func30, Tryz.ntmps30
        go_wp2
        go_ret
        exact ⟨ret_bool HR.out.symm, (by repeat (first | exact Below.refl _ _ | refine below_step ?_ (by assumption) | assumption | refine Below.drew ?_ | refine below_drewN ?_ _ | refine below_alloc ?_ _ | refine Below.setCell ?_ (by simp; try omega) _))⟩
      rw [z1] at hsb
      cases z2 : (fs == 0)
      · have HR := Lib.hid (cV_0 (nm := nm) (fs := fs) (sz := sz) (v := false) (by rw [show decide (fs = 0) = false by simpa using z2, Bool.false_and, Bool.and_false]))
        clear z1
        go_enter Tryz.func30, Tryz.ntmps30
        go_wp2
        go_ret
        exact ⟨ret_bool HR.out.symm, (by repeat (first | exact Below.refl _ _ | refine below_step ?_ (by assumption) | assumption | refine Below.drew ?_ | refine below_drewN ?_ _ | refine below_alloc ?_ _ | refine Below.setCell ?_ (by simp; try omega) _))⟩
      cases z3 : (sz == 0)
      · have HR := Lib.hid (cV_0 (nm := nm) (fs := fs) (sz := sz) (v := false) (by rw [show decide (sz = 0) = false by simpa using z3, Bool.and_false, Bool.and_false]))
        clear z1
        go_enter Tryz.func30, Tryz.ntmps30
        go_wp2
        go_ret
        exact ⟨ret_bool HR.out.symm, (by repeat (first | exact Below.refl _ _ | refine below_step ?_ (by assumption) | assumption | refine Below.drew ?_ | refine below_drewN ?_ _ | refine below_alloc ?_ _ | refine Below.setCell ?_ (by simp; try omega) _))⟩
      have HR := Lib.hid (cV_0 (nm := nm) (fs := fs) (sz := sz) (v := true) (by rw [z1, show decide (fs = 0) = true by simpa using z2, show decide (sz = 0) = true by simpa using z3]; rfl))
      clear z1
      go_enter Tryz.func30, Tryz.ntmps30
      go_wp2
      go_ret
      exact ⟨ret_bool HR.out.symm, (by repeat (first | exact Below.refl _ _ | refine below_step ?_ (by assumption) | assumption | refine Below.drew ?_ | refine below_drewN ?_ _ | refine below_alloc ?_ _ | refine Below.setCell ?_ (by simp; try omega) _))⟩
    cases n1 : isName nm
    · have HR := Lib.hid (cV_ft (nm := nm) (fs := fs) (sz := sz) (v := false) (by rw [n1]; rfl))
      rw [n1] at p1
      clear hnm hfs hF
      go_enter Tryz.func30, Tryz.ntmps30
      go_wp2_with (first | (go_at_call 53; (with_reducible refine (p1 _).mono ?_); rintro r w9 ⟨rfl, rfl⟩) | (go_at_call 54; (with_reducible refine (p2 _).mono ?_); rintro r w9 ⟨rfl, rfl⟩) | (go_at_call 41; (with_reducible refine (p3 _).mono ?_); rintro r w9 ⟨rfl, rfl⟩))
      go_ret
      exact ⟨ret_bool HR.out.symm, (by repeat (first | exact Below.refl _ _ | refine below_step ?_ (by assumption) | assumption | refine Below.drew ?_ | refine below_drewN ?_ _ | refine below_alloc ?_ _ | refine Below.setCell ?_ (by simp; try omega) _))⟩
    rw [n1] at p1
    cases q1 : inB sz 0 512
    · have HR := Lib.hid (cV_ft (nm := nm) (fs := fs) (sz := sz) (v := false) (by rw [n1, q1]; rfl))
      rw [q1] at p3
      clear hnm hfs hF
      go_enter Tryz.func30, Tryz.ntmps30
      go_wp2_with (first | (go_at_call 53; (with_reducible refine (p1 _).mono ?_); rintro r w9 ⟨rfl, rfl⟩) | (go_at_call 54; (with_reducible refine (p2 _).mono ?_); rintro r w9 ⟨rfl, rfl⟩) | (go_at_call 41; (with_reducible refine (p3 _).mono ?_); rintro r w9 ⟨rfl, rfl⟩))
      go_ret
      exact ⟨ret_bool HR.out.symm, (by repeat (first | exact Below.refl _ _ | refine below_step ?_ (by assumption) | assumption | refine Below.drew ?_ | refine below_drewN ?_ _ | refine below_alloc ?_ _ | refine Below.setCell ?_ (by simp; try omega) _))⟩
    rw [q1] at p3
    have HR := Lib.hid (cV_ft (nm := nm) (fs := fs) (sz := sz) (v := true) (by rw [n1, q1]; rfl))
    clear hnm hfs hF
    go_enter Tryz.func30, Tryz.ntmps30
    go_wp2_with (first | (go_at_call 53; (with_reducible refine (p1 _).mono ?_); rintro r w9 ⟨rfl, rfl⟩) | (go_at_call 54; (with_reducible refine (p2 _).mono ?_); rintro r w9 ⟨rfl, rfl⟩) | (go_at_call 41; (with_reducible refine (p3 _).mono ?_); rintro r w9 ⟨rfl, rfl⟩))
    go_ret
    exact ⟨ret_bool HR.out.symm, (by repeat (first | exact Below.refl _ _ | refine below_step ?_ (by assumption) | assumption | refine Below.drew ?_ | refine below_drewN ?_ _ | refine below_alloc ?_ _ | refine Below.setCell ?_ (by simp; try omega) _))⟩
  cases b4
  · skip
    cases n1 : isName nm
    · have HR := Lib.hid (cV_tf (nm := nm) (fs := fs) (sz := sz) (v := false) (by rw [n1]; rfl))
      rw [n1] at p1
      clear hnm hfs hF
      go_enter Tryz.func30, Tryz.ntmps30
      go_wp2_with (first | (go_at_call 53; (with_reducible refine (p1 _).mono ?_); rintro r w9 ⟨rfl, rfl⟩) | (go_at_call 54; (with_reducible refine (p2 _).mono ?_); rintro r w9 ⟨rfl, rfl⟩) | (go_at_call 41; (with_reducible refine (p3 _).mono ?_); rintro r w9 ⟨rfl, rfl⟩))
      go_ret
      exact ⟨ret_bool HR.out.symm, (by repeat (first | exact Below.refl _ _ | refine below_step ?_ (by assumption) | assumption | refine Below.drew ?_ | refine below_drewN ?_ _ | refine below_alloc ?_ _ | refine Below.setCell ?_ (by simp; try omega) _))⟩
    rw [n1] at p1
    cases q1 : inB sz 0 512
    · have HR := Lib.hid (cV_tf (nm := nm) (fs := fs) (sz := sz) (v := false) (by rw [n1, q1]; rfl))
      rw [q1] at p3
      clear hnm hfs hF
      go_enter Tryz.func30, Tryz.ntmps30
      go_wp2_with (first | (go_at_call 53; (with_reducible refine (p1 _).mono ?_); rintro r w9 ⟨rfl, rfl⟩) | (go_at_call 54; (with_reducible refine (p2 _).mono ?_); rintro r w9 ⟨rfl, rfl⟩) | (go_at_call 41; (with_reducible refine (p3 _).mono ?_); rintro r w9 ⟨rfl, rfl⟩))
      go_ret
      exact ⟨ret_bool HR.out.symm, (by repeat (first | exact Below.refl _ _ | refine below_step ?_ (by assumption) | assumption | refine Below.drew ?_ | refine below_drewN ?_ _ | refine below_alloc ?_ _ | refine Below.setCell ?_ (by simp; try omega) _))⟩
    rw [q1] at p3
    have HR := Lib.hid (cV_tf (nm := nm) (fs := fs) (sz := sz) (v := true) (by rw [n1, q1]; rfl))
    clear hnm hfs hF
    go_enter Tryz.func30, Tryz.ntmps30
    go_wp2_with (first | (go_at_call 53; (with_reducible refine (p1 _).mono ?_); rintro r w9 ⟨rfl, rfl⟩) | (go_at_call 54; (with_reducible refine (p2 _).mono ?_); rintro r w9 ⟨rfl, rfl⟩) | (go_at_call 41; (with_reducible refine (p3 _).mono ?_); rintro r w9 ⟨rfl, rfl⟩))
    go_ret
    exact ⟨ret_bool HR.out.symm, (by repeat (first | exact Below.refl _ _ | refine below_step ?_ (by assumption) | assumption | refine Below.drew ?_ | refine below_drewN ?_ _ | refine below_alloc ?_ _ | refine Below.setCell ?_ (by simp; try omega) _))⟩
  have HR := Lib.hid (cV_tt (nm := nm) (fs := fs) (sz := sz))
  clear hnm hfs hF p1 p2 p3
  go_enter Tryz.func30, Tryz.ntmps30
  go_wp2_with fail
  go_ret
  exact ⟨ret_bool HR.out.symm, (by repeat (first | exact Below.refl _ _ | refine below_step ?_ (by assumption) | assumption | refine Below.drew ?_ | refine below_drewN ?_ _ | refine below_alloc ?_ _ | refine Below.setCell ?_ (by simp; try omega) _))⟩
end Go.Proofs.YtbobehieaaaleaaGreatDoor
namespace Go.Proofs.YtbobehieaaaleaaGreatDoor
set_option linter.unusedVariables false
open Go.RowKit

theorem c_copy {nm : ByteArray} (h : nm.size ≤ 8) : z12.take 0 ++ nm.data.toList ++ z12.drop (0 + nm.size) = putL z12 0 nm.data.toList := by
  rw [putL_eq _ _ _ (by rw [nm_len, z12_len]; omega), nm_len]
theorem c_copy_len {nm : ByteArray} (h : nm.size ≤ 8) : (putL z12 0 nm.data.toList).length = 12 := by
  rw [← c_copy h]
  simp only [List.take_zero, List.nil_append, List.length_append, List.length_drop, nm_len, z12_len]
  omega
theorem cB_of {nm : ByteArray} {fs sz : Int} {b3 b4 : Bool} {R : List UInt8} (h : cB3 ⟨nm, fs, sz, b3, b4⟩ = R) : cB ⟨nm, fs, sz, b3, b4⟩ = if b3 then R.set 11 1 else if b4 then R.set 11 2 else R := by subst h; rfl
theorem c_div {sz : Int} (h : 0 ≤ sz ∧ sz ≤ 65535) : Int.fdiv sz 256 = ((sz.toNat / 256 : Nat) : Int) := by
  rw [Int.fdiv_eq_ediv_of_nonneg _ (by decide)]
  omega
set_option maxRecDepth 100000 in
set_option maxHeartbeats 8000000 in
theorem l16Bytes_any (g : Nat) (nm : ByteArray) (fs sz : Int) (b3 b4 : Bool) (w : World) (d : CP w g [.string nm, .int .i64 fs, .int .i64 sz, .bool b3, .bool b4]) (hnm : nm.size ≤ 8) (hfs : 0 ≤ fs ∧ fs ≤ 255) (hsz : 0 ≤ sz ∧ sz ≤ 65535) :
    Calls Tryz.prog 22 #[.pointer (some ⟨g, 0, none⟩)] w fun r w' => ∃ G c, r = .returned (.slice (some ⟨G, 0, none⟩) 12 c) ∧ 12 ≤ c ∧ w.heap.size ≤ G ∧ MarkB w' G 5 (cB ⟨nm, fs, sz, b3, b4⟩) ∧ BB w w' := by
  have hgl : g < w.heap.size := (cell_spot (d 0 (by simp))).2
  have D0 := CP.al d (.cells (madeCells #[Value.int .u8 0] 12) 5)
  have hmk := fun W => eltB.make 12 (by omega) (by omega) W
  simp only [Nat.mul_one, show (Value.int .u8 0).cells = #[Value.int .u8 0] from rfl, Int.cast_ofNat_Int] at hmk
  have M0 := mark_zero w 12 5
  
  have hB0 : BB w (w.alloc (.cells (madeCells #[Value.int .u8 0] 12) 5)) := BB.al (BB.start w) _
  have d0 : (_ : Option Value) = some (.string nm) := D0 0 (by simp)
  have w0 : IntKind.u8.wrap fs = fs := IntWalk.u8_in _ (by omega)
  have a0 := byte_of hfs.1 hfs.2
  have hv9 : ((UInt8.ofNat (sz.toNat / 256)).toNat : Int) = sz / 256 := by rw [UInt8.toNat_ofNat']; omega
  obtain ⟨v10, hv10⟩ : ∃ v10 : Int, ((UInt8.ofNat (sz.toNat % 256)).toNat : Int) = v10 := ⟨_, rfl⟩
  have w10 : IntKind.u8.wrap sz = v10 := by
    rw [← hv10, UInt8.toNat_ofNat']
    unfold IntKind.wrap
    simp [IntKind.bits, IntKind.signed]
    omega
  have hf2 : 0 + nm.size ≤ (List.replicate 12 (0 : UInt8)).length := by rw [List.length_replicate]; omega
  have hn12 : nm.size ≤ 12 := by omega
  have i8 : (8 : Int) < 12 := by decide
  have i9 : (9 : Int) < 12 := by decide
  have i10 : (10 : Int) < 12 := by decide
  have i11 : (11 : Int) < 12 := by decide
  go_enter Tryz.func22, Tryz.ntmps22
  go_upto_region 3 with (first
    | (with_reducible show wpList _ _ _ (Oper.mk (some 10) _ _ _ _ _ :: _) _ _; go_must (refine wpList_copyM rfl (.tmp 5) (.tmp 9) 34 9 rfl eltB M0 0 12 12 rfl nm rfl hf2 hn12 w.heap.size (by omega) ?_); intro w6 M6 hb6 hoth6))
  have D6 : CP w6 g [.string nm, .int .i64 fs, .int .i64 sz, .bool b3, .bool b4] := fun j hj => (hoth6 ⟨g, j, none⟩ (by show g ≠ w.heap.size; omega)).trans (D0 j hj)
  have hB6 : BB w w6 := Below.trans hB0 hb6
  rw [show List.replicate 12 (0 : UInt8) = z12 from rfl, c_copy hnm] at M6
  have hl6 := c_copy_len hnm
  have HX := cB_of (nm := nm) (fs := fs) (sz := sz) (b3 := b3) (b4 := b4) (R := (((putL z12 0 nm.data.toList).set 8 (UInt8.ofNat fs.toNat)).set 9 (UInt8.ofNat (sz.toNat / 256))).set 10 (UInt8.ofNat (sz.toNat % 256))) rfl
  generalize putL z12 0 nm.data.toList = R at M6 hl6 HX
  clear hoth6 hb6 hmk M0 hB0 D0 d0 hf2 hn12
  have hgG : g ≠ w.heap.size := by omega
  have hGle : w.heap.size ≤ w.heap.size := by omega
  have d1 : (_ : Option Value) = some (.int .i64 fs) := D6 1 (by simp)
  have c8 := M6.cell 8 (by omega)
  have f8 := M6.free 8 (by omega)
  have M8 := M6.set_ 8 (UInt8.ofNat fs.toNat) fs a0.symm
  have D8 := CP.put D6 (a := ⟨w.heap.size, 8, none⟩) hgG (.int .u8 fs)
  have hB8 : BB w _ := BB.put hB6 (a := ⟨w.heap.size, 8, none⟩) hGle (.int .u8 fs)
  have d2 : (_ : Option Value) = some (.int .i64 sz) := D8 2 (by simp)
  have c9 := M8.cell 9 (by rw [List.length_set]; omega)
  have f9 := M8.free 9 (by rw [List.length_set]; omega)
  have M9 := M8.set_ 9 (UInt8.ofNat (sz.toNat / 256)) (sz / 256) hv9.symm
  have D9 := CP.put D8 (a := ⟨w.heap.size, 9, none⟩) hgG (.int .u8 (sz / 256))
  have hB9 : BB w _ := BB.put hB8 (a := ⟨w.heap.size, 9, none⟩) hGle (.int .u8 (sz / 256))
  have d2' : (_ : Option Value) = some (.int .i64 sz) := D9 2 (by simp)
  have c10 := M9.cell 10 (by rw [List.length_set, List.length_set]; omega)
  have f10 := M9.free 10 (by rw [List.length_set, List.length_set]; omega)
  have M10 := M9.set_ 10 (UInt8.ofNat (sz.toNat % 256)) v10 hv10.symm
  have D10 := CP.put D9 (a := ⟨w.heap.size, 10, none⟩) hgG (.int .u8 v10)
  have hB10 : BB w _ := BB.put hB9 (a := ⟨w.heap.size, 10, none⟩) hGle (.int .u8 v10)
  have hl10 : ((((R.set 8 (UInt8.ofNat fs.toNat)).set 9 (UInt8.ofNat (sz.toNat / 256))).set 10 (UInt8.ofNat (sz.toNat % 256)))).length = 12 := by rw [List.length_set, List.length_set, List.length_set]; exact hl6
  generalize ((R.set 8 (UInt8.ofNat fs.toNat)).set 9 (UInt8.ofNat (sz.toNat / 256))).set 10 (UInt8.ofNat (sz.toNat % 256)) = R2 at M10 HX hl10
  have d3 : (_ : Option Value) = some (.bool b3) := D10 3 (by simp)
  have d4 : (_ : Option Value) = some (.bool b4) := D10 4 (by simp)
  have c11 := M10.cell 11 (by omega)
  have f11 := M10.free 11 (by omega)
  have Ma := M10.set_ 11 1 1 rfl
  have Mb := M10.set_ 11 2 2 rfl
  have hB11 := fun (u : Value) => (show BB w _ from BB.put hB10 (a := ⟨w.heap.size, 11, none⟩) hGle u)
  cases b3
  · cases b4
    · simp only [Bool.false_eq_true, if_false] at HX
      replace HX := Lib.hid HX
      go_wp2_with fail
      go_ret
      exact ⟨w.heap.size, 12, rfl, Nat.le_refl _, hGle, by rw [HX.out]; exact M10, hB10⟩
    · simp only [Bool.false_eq_true, if_false, if_true] at HX
      replace HX := Lib.hid HX
      go_wp2_with fail
      go_ret
      exact ⟨w.heap.size, 12, rfl, Nat.le_refl _, hGle, by rw [HX.out]; exact Mb, hB11 _⟩
  · simp only [if_true] at HX
    replace HX := Lib.hid HX
    go_wp2_with fail
    go_ret
    exact ⟨w.heap.size, 12, rfl, Nat.le_refl _, hGle, by rw [HX.out]; exact Ma, hB11 _⟩
set_option maxRecDepth 100000 in
set_option maxHeartbeats 8000000 in
theorem putEntry_any (nm : ByteArray) (fs sz : Int) (b3 b4 : Bool) (w : World) (hnm : nm.size ≤ 8) (hfs : 0 ≤ fs ∧ fs ≤ 255) (hsz : 0 ≤ sz ∧ sz ≤ 65535) :
    Calls Tryz.prog 32 #[.agg #[.string nm, .int .i64 fs, .int .i64 sz, .bool b3, .bool b4]] w fun r w' => ∃ G c, r = .returned (.slice (some ⟨G, 0, none⟩) 12 c) ∧ 12 ≤ c ∧ w.heap.size ≤ G ∧ MarkB w' G 5 (cB ⟨nm, fs, sz, b3, b4⟩) ∧ BB w w' := by
  have D0 := CP.al (CP.made w [.string nm, .int .i64 fs, .int .i64 sz, .bool b3, .bool b4] 38) (.cells (madeCells #[Value.int .u8 0] 12) 5)
  have hmk := fun W => eltB.make 12 (by omega) (by omega) W
  simp only [Nat.mul_one, show (Value.int .u8 0).cells = #[Value.int .u8 0] from rfl, Int.cast_ofNat_Int] at hmk
  have M0 := mark_zero (w.alloc (.cells #[.string nm, .int .i64 fs, .int .i64 sz, .bool b3, .bool b4] 38)) 12 5
  rw [World.size_alloc] at M0
  have hB0 : BB w ((w.alloc (.cells #[.string nm, .int .i64 fs, .int .i64 sz, .bool b3, .bool b4] 38)).alloc (.cells (madeCells #[Value.int .u8 0] 12) 5)) := BB.al (BB.al (BB.start w) _) _
  have d0 : (_ : Option Value) = some (.string nm) := D0 0 (by simp)
  have w0 : IntKind.u8.wrap fs = fs := IntWalk.u8_in _ (by omega)
  have a0 := byte_of hfs.1 hfs.2
  have hv9 : ((UInt8.ofNat (sz.toNat / 256)).toNat : Int) = sz / 256 := by rw [UInt8.toNat_ofNat']; omega
  obtain ⟨v10, hv10⟩ : ∃ v10 : Int, ((UInt8.ofNat (sz.toNat % 256)).toNat : Int) = v10 := ⟨_, rfl⟩
  have w10 : IntKind.u8.wrap sz = v10 := by
    rw [← hv10, UInt8.toNat_ofNat']
    unfold IntKind.wrap
    simp [IntKind.bits, IntKind.signed]
    omega
  have hf2 : 0 + nm.size ≤ (List.replicate 12 (0 : UInt8)).length := by rw [List.length_replicate]; omega
  have hn12 : nm.size ≤ 12 := by omega
  have i8 : (8 : Int) < 12 := by decide
  have i9 : (9 : Int) < 12 := by decide
  have i10 : (10 : Int) < 12 := by decide
  have i11 : (11 : Int) < 12 := by decide
  go_enter Tryz.func32, Tryz.ntmps32
  go_upto_region 3 with (first
    | (with_reducible show wpList _ _ _ (Oper.mk (some 8) _ _ _ _ _ :: _) _ _; go_must (refine wpList_copyM rfl (.tmp 5) (.tmp 7) 34 9 rfl eltB M0 0 12 12 rfl nm rfl hf2 hn12 w.heap.size (by omega) ?_); intro w6 M6 hb6 hoth6))
  have D6 : CP w6 w.heap.size [.string nm, .int .i64 fs, .int .i64 sz, .bool b3, .bool b4] := fun j hj => (hoth6 ⟨w.heap.size, j, none⟩ (by show w.heap.size ≠ (w.heap.size + 1); omega)).trans (D0 j hj)
  have hB6 : BB w w6 := Below.trans hB0 hb6
  rw [show List.replicate 12 (0 : UInt8) = z12 from rfl, c_copy hnm] at M6
  have hl6 := c_copy_len hnm
  have HX := cB_of (nm := nm) (fs := fs) (sz := sz) (b3 := b3) (b4 := b4) (R := (((putL z12 0 nm.data.toList).set 8 (UInt8.ofNat fs.toNat)).set 9 (UInt8.ofNat (sz.toNat / 256))).set 10 (UInt8.ofNat (sz.toNat % 256))) rfl
  generalize putL z12 0 nm.data.toList = R at M6 hl6 HX
  clear hoth6 hb6 hmk M0 hB0 D0 d0 hf2 hn12
  have hgG : w.heap.size ≠ (w.heap.size + 1) := by omega
  have hGle : w.heap.size ≤ (w.heap.size + 1) := by omega
  have d1 : (_ : Option Value) = some (.int .i64 fs) := D6 1 (by simp)
  have c8 := M6.cell 8 (by omega)
  have f8 := M6.free 8 (by omega)
  have M8 := M6.set_ 8 (UInt8.ofNat fs.toNat) fs a0.symm
  have D8 := CP.put D6 (a := ⟨(w.heap.size + 1), 8, none⟩) hgG (.int .u8 fs)
  have hB8 : BB w _ := BB.put hB6 (a := ⟨(w.heap.size + 1), 8, none⟩) hGle (.int .u8 fs)
  have d2 : (_ : Option Value) = some (.int .i64 sz) := D8 2 (by simp)
  have c9 := M8.cell 9 (by rw [List.length_set]; omega)
  have f9 := M8.free 9 (by rw [List.length_set]; omega)
  have M9 := M8.set_ 9 (UInt8.ofNat (sz.toNat / 256)) (sz / 256) hv9.symm
  have D9 := CP.put D8 (a := ⟨(w.heap.size + 1), 9, none⟩) hgG (.int .u8 (sz / 256))
  have hB9 : BB w _ := BB.put hB8 (a := ⟨(w.heap.size + 1), 9, none⟩) hGle (.int .u8 (sz / 256))
  have d2' : (_ : Option Value) = some (.int .i64 sz) := D9 2 (by simp)
  have c10 := M9.cell 10 (by rw [List.length_set, List.length_set]; omega)
  have f10 := M9.free 10 (by rw [List.length_set, List.length_set]; omega)
  have M10 := M9.set_ 10 (UInt8.ofNat (sz.toNat % 256)) v10 hv10.symm
  have D10 := CP.put D9 (a := ⟨(w.heap.size + 1), 10, none⟩) hgG (.int .u8 v10)
  have hB10 : BB w _ := BB.put hB9 (a := ⟨(w.heap.size + 1), 10, none⟩) hGle (.int .u8 v10)
  go_upto_region 4 with fail
  generalize (w6.setCell ⟨(w.heap.size + 1), 8, none⟩ (.int .u8 fs)) = w8 at d2 c9 f9 M8 D8 hB8 M9 D9 hB9 d2' c10 f10 M10 D10 hB10 ⊢
  have c10b := M8.cell 10 (by rw [List.length_set]; omega)
  have f10b := M8.free 10 (by rw [List.length_set]; omega)
  have w9 : IntKind.u8.wrap (sz / 256) = sz / 256 := IntWalk.u8_in _ (by omega)
  have hfd : Int.fdiv sz 256 = sz / 256 := Int.fdiv_eq_ediv_of_nonneg _ (by decide)
  clear d1 c8 f8
  go_cut [14] (fun _ wx => MarkB wx (w.heap.size + 1) 5 (((R.set 8 (UInt8.ofNat fs.toNat)).set 9 (UInt8.ofNat (sz.toNat / 256))).set 10 (UInt8.ofNat (sz.toNat % 256))) ∧ CP wx w.heap.size [.string nm, .int .i64 fs, .int .i64 sz, .bool b3, .bool b4] ∧ BB w wx)
  case first =>
    go_region_with (fail)
    all_goals
      go_wp2_with fail
      go_meet
      exact ⟨M10, D10, BB.dr hB10⟩
  clear d2 d2' c9 f9 c10 f10 c10b f10b w9 hfd M6 M8 M9 M10 D6 D8 D9 D10 hB6 hB8 hB9 hB10
  obtain ⟨M10, D10, hB10⟩ := hcut
  obtain ⟨wB, hwB⟩ : ∃ x, x = wc := ⟨_, rfl⟩
  subst hwB
  have hl10 : ((((R.set 8 (UInt8.ofNat fs.toNat)).set 9 (UInt8.ofNat (sz.toNat / 256))).set 10 (UInt8.ofNat (sz.toNat % 256)))).length = 12 := by rw [List.length_set, List.length_set, List.length_set]; exact hl6
  generalize ((R.set 8 (UInt8.ofNat fs.toNat)).set 9 (UInt8.ofNat (sz.toNat / 256))).set 10 (UInt8.ofNat (sz.toNat % 256)) = R2 at M10 HX hl10
  have d3 : (_ : Option Value) = some (.bool b3) := D10 3 (by simp)
  have d4 : (_ : Option Value) = some (.bool b4) := D10 4 (by simp)
  have c11 := M10.cell 11 (by omega)
  have f11 := M10.free 11 (by omega)
  have Ma := M10.set_ 11 1 1 rfl
  have Mb := M10.set_ 11 2 2 rfl
  have hB11 := fun (u : Value) => (show BB w _ from BB.put hB10 (a := ⟨(w.heap.size + 1), 11, none⟩) hGle u)
  cases b3
  · cases b4
    · simp only [Bool.false_eq_true, if_false] at HX
      replace HX := Lib.hid HX
      go_wp2_with fail
      go_ret
      exact ⟨(w.heap.size + 1), 12, rfl, Nat.le_refl _, hGle, by rw [HX.out]; exact M10, hB10⟩
    · simp only [Bool.false_eq_true, if_false, if_true] at HX
      replace HX := Lib.hid HX
      go_wp2_with fail
      go_ret
      exact ⟨(w.heap.size + 1), 12, rfl, Nat.le_refl _, hGle, by rw [HX.out]; exact Mb, hB11 _⟩
  · simp only [if_true] at HX
    replace HX := Lib.hid HX
    go_wp2_with fail
    go_ret
    exact ⟨(w.heap.size + 1), 12, rfl, Nat.le_refl _, hGle, by rw [HX.out]; exact Ma, hB11 _⟩
end Go.Proofs.YtbobehieaaaleaaGreatDoor
namespace Go.Proofs.YtbobehieaaaleaaGreatDoor
set_option linter.unusedVariables false
open Go.RowKit

set_option maxRecDepth 100000 in
set_option maxHeartbeats 4000000 in
theorem chBytes_any (g b z E D X bb off n c : Nat) (J : List UInt8) (k : Nat) (w : World) (d : CP w g [.int .i64 (b : Int), .int .i64 (z : Int), .int .i64 (E : Int), .int .i64 (D : Int), .int .i64 (X : Int), .slice (some ⟨bb, off, none⟩) n c]) (hr : RR w 1 (some ⟨bb, off, none⟩) n (bcells J)) (hk : D * z + 12 * k + 12 ≤ n) (hn : n ≤ 4096) (hnc : n ≤ c) :
    Calls Tryz.prog 28 #[.pointer (some ⟨g, 0, none⟩), .int .i64 (k : Int)] w fun e w' => ∃ c2, e = .returned (.slice (some ⟨bb, off + (D * z + 12 * k), none⟩) 12 c2) ∧ 12 ≤ c2 ∧ BB w w' ∧ RR w' 1 (some ⟨bb, off + (D * z + 12 * k), none⟩) 12 (bcells (cRaw J D z k)) := by
  have hnJ : n = J.length := by have := hr.1; rw [bcells_length] at this; omega
  have d1 : (_ : Option Value) = some (.int .i64 (z : Int)) := d 1 (by simp)
  have d3 : (_ : Option Value) = some (.int .i64 (D : Int)) := d 3 (by simp)
  have d5 : (_ : Option Value) = some (.slice (some ⟨bb, off, none⟩) n c) := d 5 (by simp)
  have HR := Lib.hid (show RR w 1 (some ⟨bb, off + (D * z + 12 * k), none⟩) 12 (bcells (cRaw J D z k)) from rr_sub hr hnJ (D * z + 12 * k) 12 (by omega) (by decide))
  obtain ⟨P, hP⟩ : ∃ P, D * z = P := ⟨_, rfl⟩
  rw [hP] at hk
  have hw0 : IntKind.i64.wrap ((D : Int) * (z : Int)) = (P : Int) := by
    rw [show (D : Int) * (z : Int) = (P : Int) by rw [← hP]; exact (Int.natCast_mul D z).symm]
    exact IntWalk.i64_in _ (by omega)
  obtain ⟨K, hK⟩ : ∃ K, 12 * k = K := ⟨_, rfl⟩
  have hw1 : IntKind.i64.wrap ((k : Int) * 12) = (K : Int) := by rw [IntWalk.i64_in _ (by omega)]; omega
  rw [hP, hK] at HR ⊢
  obtain ⟨q, hq⟩ : ∃ q, P + K = q := ⟨_, rfl⟩
  have hw2 : IntKind.i64.wrap ((P : Int) + (K : Int)) = (q : Int) := by rw [IntWalk.i64_in _ (by omega)]; omega
  rw [hq] at HR ⊢
  obtain ⟨Z, hZ⟩ : ∃ Z, q + 12 = Z := ⟨_, rfl⟩
  have hw3 : IntKind.i64.wrap ((q : Int) + 12) = (Z : Int) := by rw [IntWalk.i64_in _ (by omega)]; omega
  have HQ := Lib.hid (show Z - q = 12 by omega)
  have i1 : q ≤ Z := by omega
  have i2 : Z ≤ c := by omega
  have i3 : ¬ c = q := by omega
  have i4 : 12 ≤ c - q := by omega
  have hB := BB.start w
  clear hnJ hr hq hZ hK hP hk d
  go_enter Tryz.func28, Tryz.ntmps28
  go_wp2_with fail
  go_quiet (fail)
  go_wp2_with fail
  go_ret
  exact ⟨c - q, by first | (rw [← HQ.out]; rfl) | (rw [HQ.out]) | simp [HQ.out], i4, BB.dn hB _, RR.dn HR.out _⟩
end Go.Proofs.YtbobehieaaaleaaGreatDoor
namespace Go.Proofs.YtbobehieaaaleaaGreatDoor
set_option linter.unusedVariables false
open Go.RowKit

/-- A box of an entry at X, an empty one at the start of the call, the bytes that are read, the layout behind g. -/
structure E1 (w W : World) (X bb off g : Nat) (vs : List Value) (B : List UInt8) (LY : List Value) : Prop where
  F : BX W X 38 vs
  Z : BX W w.heap.size 38 [.string ⟨#[]⟩, .int .i64 0, .int .i64 0, .bool false, .bool false]
  R : RR W 1 (some ⟨bb, off, none⟩) 12 (bcells B)
  D : CP W g LY
  Bw : BB w W
  hX : w.heap.size < X
  hb : bb < X
  hb0 : bb ≠ w.heap.size
  hg : g < w.heap.size
section
variable {w W W' : World} {X bb off g : Nat} {vs LY : List Value} {B : List UInt8}
theorem E1.al (H : E1 w W X bb off g vs B LY) (o : Obj) : E1 w (W.alloc o) X bb off g vs B LY := ⟨H.F.al o, H.Z.al o, RR.al H.R o, CP.al H.D o, BB.al H.Bw o, H.hX, H.hb, H.hb0, H.hg⟩
theorem E1.dr (H : E1 w W X bb off g vs B LY) : E1 w W.drew X bb off g vs B LY := ⟨H.F, H.Z, H.R, H.D, BB.dr H.Bw, H.hX, H.hb, H.hb0, H.hg⟩
theorem E1.dn (H : E1 w W X bb off g vs B LY) (n : Nat) : E1 w (W.drewN n) X bb off g vs B LY := ⟨H.F, H.Z, H.R, H.D, BB.dn H.Bw n, H.hX, H.hb, H.hb0, H.hg⟩
theorem E1.next (H : E1 w W X bb off g vs B LY) (hx : Below W.heap.size W W') : E1 w W' X bb off g vs B LY := ⟨H.F.below hx H.F.lt, H.Z.below hx H.Z.lt, RR.next H.R hx, CP.next H.D hx, BB.next H.Bw hx, H.hX, H.hb, H.hb0, H.hg⟩
theorem E1.put (H : E1 w W X bb off g vs B LY) (j : Nat) (u : Value) : E1 w (W.setCell ⟨X, j, none⟩ u) X bb off g (vs.set j u) B LY := by
  have h1 := H.hX
  have h2 := H.hb
  have h3 := H.hg
  exact ⟨H.F.put j u, H.Z.far (a := ⟨X, j, none⟩) (by show w.heap.size ≠ X; omega) u, RR.putx (A := none) H.R (a := ⟨X, j, none⟩) (by show bb ≠ X; omega) u, CP.put H.D (a := ⟨X, j, none⟩) (by show g ≠ X; omega) u, BB.put H.Bw (a := ⟨X, j, none⟩) (by show w.heap.size ≤ X; omega) u, h1, h2, H.hb0, h3⟩
theorem E1.row (H : E1 w W X bb off g vs B LY) {row : Option Nat} (hg : W.grownBy W' row) (hr : ∀ j, row = some j → X + 1 ≤ j) : E1 w W' X bb off g vs B LY := by
  have h1 := H.hX
  have h2 := H.hb
  have h3 := H.hg
  exact ⟨H.F.grownx hg (fun e => by have := hr _ e; omega), H.Z.grownx hg (fun e => by have := hr _ e; omega), RR.farx H.R hg (fun e => by have := hr _ e; omega), CP.far H.D hg (fun e => by have := hr _ e; omega), Below.grown H.Bw hg (Below.size H.Bw) (fun k hk => by have := hr k hk; omega), h1, h2, H.hb0, h3⟩
end
end Go.Proofs.YtbobehieaaaleaaGreatDoor
namespace Go.Proofs.YtbobehieaaaleaaGreatDoor
set_option linter.unusedVariables false
open Go.RowKit

/-- The entry that stands in B, the empty one where it is wrong. -/
def ceE (B : List UInt8) : CE := if cOk B then ceOf (nmS B) B else ce0
theorem ceE_y {B : List UInt8} (h : cOk B = true) : ceE B = ceOf (nmS B) B := by unfold ceE; rw [h]; rfl
theorem ceE_n {B : List UInt8} (h : cOk B = false) : ceE B = ce0 := by unfold ceE; rw [h]; rfl
theorem ce_v {B : List UInt8} {nm : ByteArray} (hs : (cV (ceOf nm B) && decide (cB (ceOf nm B) = B)) = cOk B) (h : cV (ceOf nm B) = false) : cOk B = false ∧ ceE B = ce0 := by
  have := hs.symm.trans (cO_n h)
  exact ⟨this, ceE_n this⟩
theorem ce_b {B : List UInt8} {nm : ByteArray} (hs : (cV (ceOf nm B) && decide (cB (ceOf nm B) = B)) = cOk B) (g : ¬ cB (ceOf nm B) = B) : cOk B = false ∧ ceE B = ce0 := by
  have := hs.symm.trans (cO_b g)
  exact ⟨this, ceE_n this⟩
theorem ce_y {B : List UInt8} {nm : ByteArray} (hs : (cV (ceOf nm B) && decide (cB (ceOf nm B) = B)) = cOk B) (hy : cOk B = true → nm = nmS B) (h : cV (ceOf nm B) = true) (g : cB (ceOf nm B) = B) : cOk B = true ∧ ceE B = ceOf nm B := by
  have := hs.symm.trans (cO_y h g)
  exact ⟨this, by rw [ceE_y this, hy this]⟩
theorem cB_len {e : CE} (h : e.nm.size ≤ 8) : (cB e).length = 12 := by
  have h3 : (cB3 e).length = 12 := by
    unfold cB3
    rw [List.length_set, List.length_set, List.length_set]
    exact c_copy_len h
  unfold cB
  split
  · rw [List.length_set, h3]
  · split
    · rw [List.length_set, h3]
    · exact h3
theorem gb_at {B : List UInt8} {k : Nat} (h : k < B.length) : gb B k = B[k].toNat := by
  unfold gb
  rw [List.getD_eq_getElem?_getD, List.getElem?_eq_getElem h]
  rfl
theorem tw_at : ∀ (l : List UInt8) (n : Nat), (∀ j, (hj : j < l.length) → j < n → l[j] ≠ 0) → (n = l.length ∨ ∃ hn : n < l.length, l[n] = 0) → l.takeWhile (fun b => b != 0) = l.take n
  | [], n, _, _ => by simp
  | x :: l, 0, _, h => by
    rcases h with h | ⟨_, h⟩
    · cases h
    · rw [List.getElem_cons_zero] at h
      subst h
      rfl
  | x :: l, n + 1, hf, h => by
    have hx : x ≠ 0 := hf 0 (by simp) (by omega)
    rw [List.takeWhile_cons, if_pos (by simpa using hx), List.take_succ_cons, tw_at l n (fun j hj hjn => hf (j + 1) (by simp; omega) (by omega)) ?_]
    rcases h with h | ⟨hn, h⟩
    · left; simp at h; omega
    · right
      refine ⟨by simp at hn; omega, ?_⟩
      rwa [List.getElem_cons_succ] at h
theorem nmS_at {B : List UInt8} (hl : B.length = 12) {n : Nat} (hn : n ≤ 8) (hf : ∀ j, j < n → gb B j ≠ 0) (h : n = 8 ∨ gb B n = 0) : nmS B = ⟨(B.take n).toArray⟩ := by
  have h8 : (B.take 8).length = 8 := by rw [List.length_take, hl]; rfl
  have e1 : (B.take 8).take n = B.take n := by rw [List.take_take, Nat.min_eq_left hn]
  unfold nmS
  rw [tw_at (B.take 8) n ?_ ?_, e1]
  · intro j hj hjn e
    rw [List.getElem_take] at e
    apply hf j hjn
    rw [gb_at (by omega), e]
    rfl
  · by_cases h9 : n = 8
    · left; rw [h8, h9]
    · right
      refine ⟨by omega, ?_⟩
      rcases h with h | h
      · exact absurd h h9
      · rw [List.getElem_take]
        rw [gb_at (by omega)] at h
        exact UInt8.toNat_inj.1 (by simpa using h)
theorem nm_size (B : List UInt8) (n : Nat) : (⟨(B.take n).toArray⟩ : ByteArray).size ≤ n := by
  show (B.take n).toArray.size ≤ n
  rw [List.size_toArray, List.length_take]
  exact Nat.min_le_left _ _
theorem rr_byteE {w : World} {bb off : Nat} {Q : List UInt8} (h : RR w 1 (some ⟨bb, off, none⟩) 12 (bcells Q)) (hQ : Q.length = 12) (j : Nat) (hj : j < 12) : w.cell? ⟨bb, off + j, none⟩ = some (.int .u8 (gb Q j : Int)) := by
  obtain ⟨b, o, hbe, hb, hc⟩ := h.2 (by omega)
  cases hbe
  rw [hc j (by rw [bcells_length]; omega), bcells_at Q j (by omega), gb_get (by omega)]
theorem rr_pre {w : World} {bb off n : Nat} {Q : List UInt8} (h : RR w 1 (some ⟨bb, off, none⟩) n (bcells Q)) (hn : n = Q.length) (m : Nat) (hm : m ≤ n) : RR w 1 (some ⟨bb, off, none⟩) m (bcells (Q.take m)) := by
  rcases Nat.eq_zero_or_pos m with rfl | h0
  · exact ⟨rfl, fun h => absurd h (by omega)⟩
  · have := rr_sub h hn 0 m (by omega) h0
    simpa using this
theorem bb5c {w W : World} (h : BB w W) (u0 u1 u2 u3 u4 : Value) : BB w (((((W.setCell ⟨w.heap.size, 0, none⟩ u0).setCell ⟨w.heap.size, 1, none⟩ u1).setCell ⟨w.heap.size, 2, none⟩ u2).setCell ⟨w.heap.size, 3, none⟩ u3).setCell ⟨w.heap.size, 4, none⟩ u4) := by
  have hp : ∀ (W : World) (j : Nat) (u : Value), BB w W → BB w (W.setCell ⟨w.heap.size, j, none⟩ u) := fun W j u h => BB.put h (a := ⟨w.heap.size, j, none⟩) (Nat.le_refl _) u
  exact hp _ _ _ (hp _ _ _ (hp _ _ _ (hp _ _ _ (hp _ _ _ h))))
set_option maxRecDepth 100000 in
set_option maxHeartbeats 8000000 in
theorem l16Ent_any (g b z E D X bb off n c : Nat) (J : List UInt8) (k : Nat) (w : World) (d : CP w g [.int .i64 (b : Int), .int .i64 (z : Int), .int .i64 (E : Int), .int .i64 (D : Int), .int .i64 (X : Int), .slice (some ⟨bb, off, none⟩) n c]) (hr : RR w 1 (some ⟨bb, off, none⟩) n (bcells J)) (hk : D * z + 12 * k + 12 ≤ n) (hn : n ≤ 4096) (hnc : n ≤ c) :
    Calls Tryz.prog 12 #[.pointer (some ⟨g, 0, none⟩), .int .i64 (k : Int)] w fun r w' => r = .returned (.tuple #[.agg #[.string (ceE (cRaw J D z k)).nm, .int .i64 (ceE (cRaw J D z k)).fs, .int .i64 (ceE (cRaw J D z k)).sz, .bool (ceE (cRaw J D z k)).b3, .bool (ceE (cRaw J D z k)).b4], .bool (cOk (cRaw J D z k))]) ∧ BB w w' := by
  have hnJ : n = J.length := by have := hr.1; rw [bcells_length] at this; omega
  have hg : g < w.heap.size := (cell_spot (d 0 (by simp))).2
  have hbb : bb < w.heap.size := by
    obtain ⟨b1, o1, he, hb, _⟩ := hr.2 (by omega)
    cases he
    exact hb
  have F0 := BX.made w 38 [.string ⟨#[]⟩, .int .i64 0, .int .i64 0, .bool false, .bool false]
  have hB0 : BB w (w.alloc (.cells #[.string ⟨#[]⟩, .int .i64 0, .int .i64 0, .bool false, .bool false] 38)) := BB.al (BB.start w) _
  have hl0 : (w.alloc (.cells #[.string ⟨#[]⟩, .int .i64 0, .int .i64 0, .bool false, .bool false] 38)).heap.size = w.heap.size + 1 := World.size_alloc w _
  have D0 := CP.al d (.cells #[.string ⟨#[]⟩, .int .i64 0, .int .i64 0, .bool false, .bool false] 38)
  have R0 := RR.al (show RR w 1 (some ⟨bb, off + (D * z + 12 * k), none⟩) 12 (bcells (cRaw J D z k)) from rr_sub hr hnJ (D * z + 12 * k) 12 (by omega) (by decide)) (.cells #[.string ⟨#[]⟩, .int .i64 0, .int .i64 0, .bool false, .bool false] 38)
  have hBl : (cRaw J D z k).length = 12 := cRaw_len (by omega)
  obtain ⟨B, hBe⟩ : ∃ B, cRaw J D z k = B := ⟨_, rfl⟩
  rw [hBe] at R0 hBl ⊢
  obtain ⟨P, hP⟩ : ∃ P, D * z = P := ⟨_, rfl⟩
  rw [hP] at hk R0
  have hw0 : IntKind.i64.wrap ((D : Int) * (z : Int)) = (P : Int) := by
    rw [show (D : Int) * (z : Int) = (P : Int) by rw [← hP]; exact (Int.natCast_mul D z).symm]
    exact IntWalk.i64_in _ (by omega)
  obtain ⟨K, hK⟩ : ∃ K, 12 * k = K := ⟨_, rfl⟩
  have hw1 : IntKind.i64.wrap ((k : Int) * 12) = (K : Int) := by rw [IntWalk.i64_in _ (by omega)]; omega
  rw [hK] at R0
  obtain ⟨q, hq⟩ : ∃ q, P + K = q := ⟨_, rfl⟩
  have hw2 : IntKind.i64.wrap ((P : Int) + (K : Int)) = (q : Int) := by rw [IntWalk.i64_in _ (by omega)]; omega
  rw [hq] at R0
  obtain ⟨Z, hZ⟩ : ∃ Z, q + 12 = Z := ⟨_, rfl⟩
  have hw3 : IntKind.i64.wrap ((q : Int) + 12) = (Z : Int) := by rw [IntWalk.i64_in _ (by omega)]; omega
  have HQ := Lib.hid (show Z - q = 12 by omega)
  have i1 : q ≤ Z := by omega
  have i2 : Z ≤ c := by omega
  have i3 : ¬ c = q := by omega
  obtain ⟨vc, hvc⟩ : ∃ vc, c - q = vc := ⟨_, rfl⟩
  have i4 : 12 ≤ vc := by omega
  have HVC := Lib.hid hvc
  clear hnJ hr hq hZ hK hP hk d hBe hnc hvc
  go_enter Tryz.func12, Tryz.ntmps12
  have d1 : (_ : Option Value) = some (.int .i64 (z : Int)) := D0 1 (by simp)
  have d3 : (_ : Option Value) = some (.int .i64 (D : Int)) := D0 3 (by simp)
  have d5 : (_ : Option Value) = some (.slice (some ⟨bb, off, none⟩) n c) := D0 5 (by simp)
  go_wp2_with fail
  go_quiet (fail)
  go_upto_block 0 with fail
  have hQv := HQ.out
  have hVC := HVC.out
  rw [hQv, hVC]
  clear d1 d3 d5 hw0 hw1 hw2 hw3 HQ HVC hQv hVC i1 i2 i3
  replace F0 := BX.dn F0 nq
  replace hB0 : BB w _ := BB.dn hB0 nq
  replace D0 := CP.dn D0 nq
  replace R0 := RR.dn R0 nq
  have hl1 : ((w.alloc (.cells #[.string ⟨#[]⟩, .int .i64 0, .int .i64 0, .bool false, .bool false] 38)).drewN nq).heap.size = w.heap.size + 1 := hl0
  clear hl0
  generalize ((w.alloc (.cells #[.string ⟨#[]⟩, .int .i64 0, .int .i64 0, .bool false, .bool false] 38)).drewN nq) = w3 at F0 hB0 D0 R0 hl1 ⊢
  obtain ⟨o, ho⟩ : ∃ o, off + q = o := ⟨_, rfl⟩
  rw [ho] at R0 ⊢
  clear ho
  have HW := Lib.hid hl1
  clear hl1
  go_cut [8] (fun i wx => w3 = wx ∧ ∃ m : Nat, i = .int .i64 (m : Int) ∧ m ≤ 8 ∧ Hid (nmS B = ⟨(B.take m).toArray⟩))
  case first =>
    go_wp2_with fail
    go_loop [8] (fun i => ∃ m : Nat, i = .int .i64 (m : Int) ∧ m ≤ 8 ∧ Hid (∀ j, j < m → gb B j ≠ 0)) (fun i => 8 - (intOf i).toNat)
    case atStart => exact ⟨0, rfl, by omega, Lib.hid (fun j hj => absurd hj (by omega))⟩
    case round =>
      obtain ⟨m, rfl, hm, HM⟩ := hrel
      by_cases h8 : m < 8
      · have e8 : (m : Int) < 8 := by omega
        have d8 : decide ((m : Int) < 8) = true := decide_eq_true e8
        have bm := rr_byteE R0 hBl m (by omega)
        have m12 : (m : Int) < 12 := by omega
        by_cases h0 : gb B m = 0
        · have hN := Lib.hid (nmS_at hBl hm HM.out (Or.inr h0))
          rw [h0] at bm
          clear h0
          go_wp2_with fail
          go_meet
          exact ⟨rfl, m, rfl, hm, hN⟩
        · have h0b : ((gb B m : Int) != 0) = true := by simp; omega
          have HN := Lib.hid (show ∀ j, j < m + 1 → gb B j ≠ 0 from fun j hj => by
            by_cases hjm : j = m
            · rw [hjm]; exact h0
            · exact HM.out j (by omega))
          clear h0
          go_wp2_with fail
          go_round
          case rel => exact ⟨m + 1, by go_num, by omega, HN⟩
          case measure => simp [intOf]; omega
      · have e8 : ¬ (m : Int) < 8 := by omega
        have d8 : decide ((m : Int) < 8) = false := decide_eq_false e8
        have hN := Lib.hid (nmS_at hBl hm HM.out (Or.inl (by omega)))
        go_wp2_with fail
        go_meet
        exact ⟨rfl, m, rfl, hm, hN⟩
  case rest =>
    obtain ⟨rfl, m, rfl, hm, HM⟩ := hcut
    obtain ⟨NM, hNM⟩ : ∃ x, nmS B = x := ⟨_, rfl⟩
    have hN8 : NM.size ≤ 8 := by rw [← hNM, HM.out]; exact Nat.le_trans (nm_size B m) hm
    have hsame : (cV (ceOf NM B) && decide (cB (ceOf NM B) = B)) = cOk B := by rw [← hNM]; rfl
    have hyes : cOk B = true → NM = nmS B := fun _ => hNM.symm
    have cvn : ∀ W : World, RR W 1 (some ⟨bb, o, none⟩) 12 (bcells B) → (convert 34 9 (.slice (some ⟨bb, o, none⟩) m vc)).run Tryz.prog W = .ok (.string NM) W := fun W h => by
      rw [← hNM, HM.out]
      exact conv_rr (P := Tryz.prog) (src := 34) (dst := 9) Tryz.underlying34 Tryz.underlying5 Tryz.underlying9 (rr_pre h hBl.symm m (by omega)) (by rw [List.length_take, hBl]; omega) vc
    clear hNM HM
    have b8 := rr_byteE (RR.dr R0) hBl 8 (by decide)
    have b9 := rr_byteE (RR.dr R0) hBl 9 (by decide)
    have b10 := rr_byteE (RR.dr R0) hBl 10 (by decide)
    have b11 := rr_byteE (RR.dr R0) hBl 11 (by decide)
    have a8 := fun ob : Obj => rr_byteE (RR.dr (RR.al R0 ob)) hBl 8 (by decide)
    have a9 := fun ob : Obj => rr_byteE (RR.dr (RR.al R0 ob)) hBl 9 (by decide)
    have a10 := fun ob : Obj => rr_byteE (RR.dr (RR.al R0 ob)) hBl 10 (by decide)
    have a11 := fun ob : Obj => rr_byteE (RR.dr (RR.al R0 ob)) hBl 11 (by decide)
    have cv0 := cvn (World.drew w3) (RR.dr R0)
    have cv1 := fun ob : Obj => cvn (World.drew (w3.alloc ob)) (RR.dr (RR.al R0 ob))
    have w8 : IntKind.i64.wrap (gb B 8 : Int) = (gb B 8 : Int) := by have := gb_lt B 8; exact IntWalk.i64_in _ (by omega)
    have w9 : IntKind.i64.wrap (gb B 9 : Int) = (gb B 9 : Int) := by have := gb_lt B 9; exact IntWalk.i64_in _ (by omega)
    have w10 : IntKind.i64.wrap (gb B 10 : Int) = (gb B 10 : Int) := by have := gb_lt B 10; exact IntWalk.i64_in _ (by omega)
    have wm : IntKind.i64.wrap (256 * (gb B 9 : Int)) = 256 * (gb B 9 : Int) := by have := gb_lt B 9; exact IntWalk.i64_in _ (by omega)
    have wa : IntKind.i64.wrap (256 * (gb B 9 : Int) + (gb B 10 : Int)) = 256 * (gb B 9 : Int) + (gb B 10 : Int) := by have := gb_lt B 9; have := gb_lt B 10; exact IntWalk.i64_in _ (by omega)
    have e1 : ((gb B 11 : Int) == 1) = decide (gb B 11 = 1) := by rw [Bool.eq_iff_iff]; simp; omega
    have e2 : ((gb B 11 : Int) == 2) = decide (gb B 11 = 2) := by rw [Bool.eq_iff_iff]; simp; omega
    have m1 : m ≤ vc := by omega
    have hw3 := HW.out
    have HE : E1 w ((w3.alloc (.cells #[.string (ceOf NM B).nm, .int .i64 (ceOf NM B).fs, .int .i64 (ceOf NM B).sz, .bool (ceOf NM B).b3, .bool (ceOf NM B).b4] 38)).drew) w3.heap.size bb o g [.string (ceOf NM B).nm, .int .i64 (ceOf NM B).fs, .int .i64 (ceOf NM B).sz, .bool (ceOf NM B).b3, .bool (ceOf NM B).b4] B [.int .i64 (b : Int), .int .i64 (z : Int), .int .i64 (E : Int), .int .i64 (D : Int), .int .i64 (X : Int), .slice (some ⟨bb, off, none⟩) n c] := E1.dr ⟨BX.made w3 38 [.string (ceOf NM B).nm, .int .i64 (ceOf NM B).fs, .int .i64 (ceOf NM B).sz, .bool (ceOf NM B).b3, .bool (ceOf NM B).b4], F0.al _, RR.al R0 _, CP.al D0 _, BB.al hB0 _, by omega, by omega, by omega, hg⟩
    clear hw3
    go_upto_region 6 with fail
    go_cut [9] (fun p wx => ∃ Y, p = .pointer (some ⟨Y, 0, none⟩) ∧ E1 w wx Y bb o g [.string (ceOf NM B).nm, .int .i64 (ceOf NM B).fs, .int .i64 (ceOf NM B).sz, .bool (ceOf NM B).b3, .bool (ceOf NM B).b4] B [.int .i64 (b : Int), .int .i64 (z : Int), .int .i64 (E : Int), .int .i64 (D : Int), .int .i64 (X : Int), .slice (some ⟨bb, off, none⟩) n c])
    case first =>
      go_region_held3 (fun W => W.cell? ⟨bb, o + 8, none⟩ = some (.int .u8 (gb B 8 : Int)) ∧ W.cell? ⟨bb, o + 9, none⟩ = some (.int .u8 (gb B 9 : Int)) ∧ W.cell? ⟨bb, o + 10, none⟩ = some (.int .u8 (gb B 10 : Int)) ∧ W.cell? ⟨bb, o + 11, none⟩ = some (.int .u8 (gb B 11 : Int)) ∧ (convert 34 9 (.slice (some ⟨bb, o, none⟩) m vc)).run Tryz.prog W = .ok (.string NM) W) (refine ⟨?_, ?_, ?_, ?_, ?_⟩ <;> first | with_reducible assumption | with_reducible exact a8 _ | with_reducible exact a9 _ | with_reducible exact a10 _ | with_reducible exact a11 _ | with_reducible exact cv1 _) (fail)
      all_goals
        go_wp2_with fail
        go_meet
        exact ⟨w3.heap.size, rfl, HE⟩
    case rest =>
      obtain ⟨Y, rfl, H⟩ := hcut
      obtain ⟨w4, hw4⟩ : ∃ x, x = wc := ⟨_, rfl⟩
      subst hw4
      clear R0 D0 hB0 F0
      have hnm8 : (ceOf NM B).nm.size ≤ 8 := hN8
      obtain ⟨ok2, ok3⟩ := ceOf_ok NM B
      have V0 := fun h => ce_v (B := B) (nm := NM) hsame h
      have V1 := fun h => ce_b (B := B) (nm := NM) hsame h
      have V2 := fun h g => ce_y (B := B) (nm := NM) hsame hyes h g
      generalize ceOf NM B = e at H hnm8 ok2 ok3 V0 V1 V2
      have hxl := cB_len (e := e) hnm8
      have va' := fun (W : World) (h1 : CP W Y [.string e.nm, .int .i64 e.fs, .int .i64 e.sz, .bool e.b3, .bool e.b4]) => (show Calls Tryz.prog 21 #[.pointer (some ⟨Y, 0, none⟩)] W fun r w' => r = .returned (.bool (cV e)) ∧ Below W.heap.size W w' from l16Entry_any Y e.nm e.fs e.sz e.b3 e.b4 W h1 (by omega) ok2)
      have va := va' w4.drew (BX.cp (E1.dr H).F)
      cases hV : cV e
      · have HR := V0 hV
        rw [hV] at va'
        have p1 := fun (p' : Regrown) => qb_below p' (va' (Sort.grow (redrawn w4 p'.d) p'.os) (CP.next (BX.cp H.F) (gw_below w4 p')))
        clear V0 V1 V2 hV va va'
        go_upto_region 7 with fail
        refine wp_region_quiet_below (by kernel_rfl) (by kernel_rfl) ?_
        repeat (go_big_quiet_step (first | with_reducible exact p1 _))
        refine wpQuiet_nil ?_
        intro _ hw'
        obtain ⟨pq, hw''⟩ := hw'
        subst hw''
        have HF := H.next (gw_below w4 pq)
        clear p1
        generalize Sort.grow (redrawn w4 pq.d) pq.os = w5 at HF ⊢
        have HR := Lib.hid HR
        have z0 : (_ : Option Value) = some (.string ⟨#[]⟩) := HF.Z.cell 0 (by simp)
        have z1 : (_ : Option Value) = some (.int .i64 0) := HF.Z.cell 1 (by simp)
        have z2 : (_ : Option Value) = some (.int .i64 0) := HF.Z.cell 2 (by simp)
        have z3 : (_ : Option Value) = some (.bool false) := HF.Z.cell 3 (by simp)
        have z4 : (_ : Option Value) = some (.bool false) := HF.Z.cell 4 (by simp)
        have hfz := fun j => HF.Z.free j
        go_wp2_with fail
        refine bodyPost_ret (v := .tuple #[.agg #[.string ⟨#[]⟩, .int .i64 0, .int .i64 0, .bool false, .bool false], .bool false]) (by simp [results, Tryz.results12, go_sem, World.cell?_setCell_other, z0, z1, z2, z3, z4]) rfl ⟨by rw [HR.out.1, HR.out.2]; rfl, ?_⟩
        exact bb5c HF.Bw _ _ _ _ _
      rw [hV] at va
      obtain ⟨S2, hS2⟩ : ∃ S : ByteArray, (⟨B.toArray⟩ : ByteArray) = S := ⟨_, rfl⟩
      obtain ⟨S1, hS1⟩ : ∃ S : ByteArray, (⟨(cB e).toArray⟩ : ByteArray) = S := ⟨_, rfl⟩
      have hcB : ∀ W : World, RR W 1 (some ⟨bb, o, none⟩) 12 (bcells B) → (convert 34 9 (.slice (some ⟨bb, o, none⟩) 12 vc)).run Tryz.prog W = .ok (.string S2) W := fun W h => by
        have := conv_rr (P := Tryz.prog) (src := 34) (dst := 9) Tryz.underlying34 Tryz.underlying5 Tryz.underlying9 h hBl.symm vc
        rwa [hS2] at this
      have hby : ∀ (W : World), CP W Y [.string e.nm, .int .i64 e.fs, .int .i64 e.sz, .bool e.b3, .bool e.b4] → Calls Tryz.prog 22 #[.pointer (some ⟨Y, 0, none⟩)] W fun r w' => ∃ G c, r = .returned (.slice (some ⟨G, 0, none⟩) 12 c) ∧ (convert 34 9 (.slice (some ⟨G, 0, none⟩) 12 c)).run Tryz.prog w' = .ok (.string S1) w' ∧ Below W.heap.size W w' := fun W h1 => by
        refine (l16Bytes_any Y e.nm e.fs e.sz e.b3 e.b4 W h1 hnm8 ok2 ok3).mono ?_
        rintro r w' ⟨G, c, rfl, hc, hG, M, hB⟩
        refine ⟨G, c, rfl, ?_, hB⟩
        have := MarkB.b2s (P := Tryz.prog) (dst := 9) Tryz.underlying34 Tryz.underlying5 Tryz.underlying9 M c 12 hxl.symm
        exact this.trans (by rw [← hS1])
      by_cases hg2 : cB e = B
      · have HR := V2 hV hg2
        have hcmp : (S1.toList != S2.toList) = false := by rw [← hS1, ← hS2, hg2]; simp
        have hcmp2 : (!(S1.toList == S2.toList)) = false := hcmp
        clear V0 V1 V2 hV hg2 hS1 hS2 va'
        go_wp2_with fail
        go_region_law (first | (go_simp; (go_at_call 21; (with_reducible refine va.mono ?_); rintro r w5 ⟨rfl, hx5⟩; have H5 := (E1.dr H).next hx5; have cvB5 := hcB _ H5.R; have by5 := hby w5 (BX.cp H5.F))) | (go_simp; (go_at_call 22; (with_reducible refine by5.mono ?_); rintro r w6 ⟨G, cG, rfl, cvG, hx6⟩; have H6 := H5.next hx6; have cvB6 := hcB _ H6.R; have x0 : (_ : Option Value) = some (.string e.nm) := H6.F.cell 0 (by simp); have x1 : (_ : Option Value) = some (.int .i64 e.fs) := H6.F.cell 1 (by simp); have x2 : (_ : Option Value) = some (.int .i64 e.sz) := H6.F.cell 2 (by simp); have x3 : (_ : Option Value) = some (.bool e.b3) := H6.F.cell 3 (by simp); have x4 : (_ : Option Value) = some (.bool e.b4) := H6.F.cell 4 (by simp); have z0 : (_ : Option Value) = some (.string ⟨#[]⟩) := H6.Z.cell 0 (by simp); have z1 : (_ : Option Value) = some (.int .i64 0) := H6.Z.cell 1 (by simp); have z2 : (_ : Option Value) = some (.int .i64 0) := H6.Z.cell 2 (by simp); have z3 : (_ : Option Value) = some (.bool false) := H6.Z.cell 3 (by simp); have z4 : (_ : Option Value) = some (.bool false) := H6.Z.cell 4 (by simp); have hfz := fun j => H6.Z.free j)))
        all_goals
          have HF := H6
          clear H5 cvB5 cvB6 cvG
          have HR := Lib.hid HR
          have hYw : Y ≠ w.heap.size := by have := HF.hX; omega
          go_wp2_with fail
          refine bodyPost_ret (v := .tuple #[.agg #[.string e.nm, .int .i64 e.fs, .int .i64 e.sz, .bool e.b3, .bool e.b4], .bool true]) (by simp [results, Tryz.results12, go_sem, World.cell?_setCell_other, z0, z1, z2, z3, z4]) rfl ⟨by rw [HR.out.1, HR.out.2], ?_⟩
          exact bb5c HF.Bw _ _ _ _ _
      · have HR := V1 hg2
        have hcmp : (S1.toList != S2.toList) = true := by
          rw [bne_iff_ne]
          intro e9
          apply hg2
          rw [← hS1, ← hS2, ByteArray.toList_eq, ByteArray.toList_eq] at e9
          simpa using e9
        have hcmp2 : (!(S1.toList == S2.toList)) = true := hcmp
        clear V0 V1 V2 hV hg2 hS1 hS2 va'
        go_wp2_with fail
        go_region_law (first | (go_simp; (go_at_call 21; (with_reducible refine va.mono ?_); rintro r w5 ⟨rfl, hx5⟩; have H5 := (E1.dr H).next hx5; have cvB5 := hcB _ H5.R; have by5 := hby w5 (BX.cp H5.F))) | (go_simp; (go_at_call 22; (with_reducible refine by5.mono ?_); rintro r w6 ⟨G, cG, rfl, cvG, hx6⟩; have H6 := H5.next hx6; have cvB6 := hcB _ H6.R; have x0 : (_ : Option Value) = some (.string e.nm) := H6.F.cell 0 (by simp); have x1 : (_ : Option Value) = some (.int .i64 e.fs) := H6.F.cell 1 (by simp); have x2 : (_ : Option Value) = some (.int .i64 e.sz) := H6.F.cell 2 (by simp); have x3 : (_ : Option Value) = some (.bool e.b3) := H6.F.cell 3 (by simp); have x4 : (_ : Option Value) = some (.bool e.b4) := H6.F.cell 4 (by simp); have z0 : (_ : Option Value) = some (.string ⟨#[]⟩) := H6.Z.cell 0 (by simp); have z1 : (_ : Option Value) = some (.int .i64 0) := H6.Z.cell 1 (by simp); have z2 : (_ : Option Value) = some (.int .i64 0) := H6.Z.cell 2 (by simp); have z3 : (_ : Option Value) = some (.bool false) := H6.Z.cell 3 (by simp); have z4 : (_ : Option Value) = some (.bool false) := H6.Z.cell 4 (by simp); have hfz := fun j => H6.Z.free j)))
        all_goals
          have HF := H6
          clear H5 cvB5 cvB6 cvG
          have HR := Lib.hid HR
          go_wp2_with fail
          refine bodyPost_ret (v := .tuple #[.agg #[.string ⟨#[]⟩, .int .i64 0, .int .i64 0, .bool false, .bool false], .bool false]) (by simp [results, Tryz.results12, go_sem, World.cell?_setCell_other, z0, z1, z2, z3, z4]) rfl ⟨by rw [HR.out.1, HR.out.2]; rfl, ?_⟩
          exact bb5c HF.Bw _ _ _ _ _
end Go.Proofs.YtbobehieaaaleaaGreatDoor
namespace Go.Proofs.YtbobehieaaaleaaGreatDoor
set_option linter.unusedVariables false
open Go.RowKit

theorem or_hi {a b : Nat} (ha : a < 256) (hb : b < 256) : bits BinOp.or IntKind.i64 (IntKind.i64.wrap ((a : Int) * 256)) (b : Int) = 256 * (a : Int) + (b : Int) := by
  rw [IntWalk.i64_in _ (by omega)]
  rw [bits_join .i64 62 (by decide) (fun n h0 h1 => IntWalk.i64_in _ (by omega)) 8 ((a : Int) * 256) (b : Int) (by omega) (by omega) (by omega) (by omega) (by omega) (by omega)]
  omega
set_option maxRecDepth 100000 in
set_option maxHeartbeats 8000000 in
theorem chEnt_any (g b z E D X bb off n c : Nat) (J : List UInt8) (k : Nat) (w : World) (d : CP w g [.int .i64 (b : Int), .int .i64 (z : Int), .int .i64 (E : Int), .int .i64 (D : Int), .int .i64 (X : Int), .slice (some ⟨bb, off, none⟩) n c]) (hr : RR w 1 (some ⟨bb, off, none⟩) n (bcells J)) (hk : D * z + 12 * k + 12 ≤ n) (hn : n ≤ 4096) (hnc : n ≤ c) :
    Calls Tryz.prog 15 #[.pointer (some ⟨g, 0, none⟩), .int .i64 (k : Int)] w fun r w' => r = .returned (.tuple #[.agg #[.string (ceE (cRaw J D z k)).nm, .int .i64 (ceE (cRaw J D z k)).fs, .int .i64 (ceE (cRaw J D z k)).sz, .bool (ceE (cRaw J D z k)).b3, .bool (ceE (cRaw J D z k)).b4], .bool (cOk (cRaw J D z k))]) ∧ BB w w' := by
  have hnJ : n = J.length := by have := hr.1; rw [bcells_length] at this; omega
  have hg : g < w.heap.size := (cell_spot (d 0 (by simp))).2
  have hbb : bb < w.heap.size := by
    obtain ⟨b1, o1, he, hb, _⟩ := hr.2 (by omega)
    cases he
    exact hb
  have F0 := BX.made w 38 [.string ⟨#[]⟩, .int .i64 0, .int .i64 0, .bool false, .bool false]
  have hB0 : BB w (w.alloc (.cells #[.string ⟨#[]⟩, .int .i64 0, .int .i64 0, .bool false, .bool false] 38)) := BB.al (BB.start w) _
  have hl0 : (w.alloc (.cells #[.string ⟨#[]⟩, .int .i64 0, .int .i64 0, .bool false, .bool false] 38)).heap.size = w.heap.size + 1 := World.size_alloc w _
  have D0 := CP.al d (.cells #[.string ⟨#[]⟩, .int .i64 0, .int .i64 0, .bool false, .bool false] 38)
  have hBl : (cRaw J D z k).length = 12 := cRaw_len (by omega)
  have R0 := RR.al hr (.cells #[.string ⟨#[]⟩, .int .i64 0, .int .i64 0, .bool false, .bool false] 38)
  have raw := chBytes_any g b z E D X bb off n c J k (w.alloc (.cells #[.string ⟨#[]⟩, .int .i64 0, .int .i64 0, .bool false, .bool false] 38)) D0 R0 hk hn hnc
  obtain ⟨B, hBe⟩ : ∃ B, cRaw J D z k = B := ⟨_, rfl⟩
  rw [hBe] at raw hBl ⊢
  obtain ⟨o, ho⟩ : ∃ o, off + (D * z + 12 * k) = o := ⟨_, rfl⟩
  rw [ho] at raw
  clear hnJ hr hk hBe hnc ho R0 d
  go_enter Tryz.func15, Tryz.ntmps15
  go_upto_region 2 with (go_at_call 28; (with_reducible refine raw.mono ?_); rintro r w3 ⟨vc, rfl, i4, hx3, R0⟩; replace F0 := F0.below hx3 F0.lt; replace D0 := CP.next D0 hx3; replace hB0 : BB w _ := BB.next hB0 hx3; have hl1 := hx3.size)
  clear raw
  have hl2 : w.heap.size + 1 ≤ w3.heap.size := by omega
  clear hl0 hl1 hx3
  obtain ⟨N, hN⟩ : ∃ N : ByteArray, (⟨(B.take 8).toArray⟩ : ByteArray) = N := ⟨_, rfl⟩
  have hNs : N.size ≤ 8 := by rw [← hN]; exact nm_size B 8
  obtain ⟨NM, hNM⟩ : ∃ x, nmI B = x := ⟨_, rfl⟩
  have hNx : trB N 0 = NM := by rw [← hN, ← hNM]; rfl
  have hN8 : NM.size ≤ 8 := by rw [← hNx]; exact Nat.le_trans (trB_size N 0) hNs
  have hce := ce_same B
  rw [hNM] at hce
  have hsame := hce.1
  have hyes := hce.2
  have tt : ∀ W, Calls Tryz.prog 29 #[.string N, .string ⟨#[0]⟩] W fun e w' => e = .returned (.string NM) ∧ W = w' := fun W => by
    have := Tryz.strings_TrimRight_one N 0 (by decide) W (by omega)
    rw [← hNx]
    exact this.mono fun e w' h => ⟨h.1, h.2.symm⟩
  have cvn : ∀ W : World, RR W 1 (some ⟨bb, o, none⟩) 12 (bcells B) → (convert 34 9 (.slice (some ⟨bb, o, none⟩) 8 vc)).run Tryz.prog W = .ok (.string N) W := fun W h => by
    rw [← hN]
    exact conv_rr (P := Tryz.prog) (src := 34) (dst := 9) Tryz.underlying34 Tryz.underlying5 Tryz.underlying9 (rr_pre h hBl.symm 8 (by omega)) (by rw [List.length_take, hBl]; omega) vc
  clear hN hNx hNM hNs hce
  have b8 := rr_byteE (RR.dr R0) hBl 8 (by decide)
  have b9 := rr_byteE (RR.dr R0) hBl 9 (by decide)
  have b10 := rr_byteE (RR.dr R0) hBl 10 (by decide)
  have b11 := rr_byteE (RR.dr R0) hBl 11 (by decide)
  have a8 := fun ob : Obj => rr_byteE (RR.dr (RR.al R0 ob)) hBl 8 (by decide)
  have a9 := fun ob : Obj => rr_byteE (RR.dr (RR.al R0 ob)) hBl 9 (by decide)
  have a10 := fun ob : Obj => rr_byteE (RR.dr (RR.al R0 ob)) hBl 10 (by decide)
  have a11 := fun ob : Obj => rr_byteE (RR.dr (RR.al R0 ob)) hBl 11 (by decide)
  have cv0 := cvn (World.drew w3) (RR.dr R0)
  have cv1 := fun ob : Obj => cvn (World.drew (w3.alloc ob)) (RR.dr (RR.al R0 ob))
  have w8 : IntKind.i64.wrap (gb B 8 : Int) = (gb B 8 : Int) := by have := gb_lt B 8; exact IntWalk.i64_in _ (by omega)
  have w9 : IntKind.i64.wrap (gb B 9 : Int) = (gb B 9 : Int) := by have := gb_lt B 9; exact IntWalk.i64_in _ (by omega)
  have w10 : IntKind.i64.wrap (gb B 10 : Int) = (gb B 10 : Int) := by have := gb_lt B 10; exact IntWalk.i64_in _ (by omega)
  have e1 : ((gb B 11 : Int) == 1) = decide (gb B 11 = 1) := by rw [Bool.eq_iff_iff]; simp; omega
  have e2 : ((gb B 11 : Int) == 2) = decide (gb B 11 = 2) := by rw [Bool.eq_iff_iff]; simp; omega
  have m1 : 8 ≤ vc := by omega
  have m2 : (8 : Int) ≤ (vc : Int) := by omega
  have m3 : ¬ vc = 0 := by omega
  have HE : E1 w ((w3.alloc (.cells #[.string (ceOf NM B).nm, .int .i64 (ceOf NM B).fs, .int .i64 (ceOf NM B).sz, .bool (ceOf NM B).b3, .bool (ceOf NM B).b4] 38)).drew) w3.heap.size bb o g [.string (ceOf NM B).nm, .int .i64 (ceOf NM B).fs, .int .i64 (ceOf NM B).sz, .bool (ceOf NM B).b3, .bool (ceOf NM B).b4] B [.int .i64 (b : Int), .int .i64 (z : Int), .int .i64 (E : Int), .int .i64 (D : Int), .int .i64 (X : Int), .slice (some ⟨bb, off, none⟩) n c] := E1.dr ⟨BX.made w3 38 [.string (ceOf NM B).nm, .int .i64 (ceOf NM B).fs, .int .i64 (ceOf NM B).sz, .bool (ceOf NM B).b3, .bool (ceOf NM B).b4], F0.al _, RR.al R0 _, CP.al D0 _, BB.al hB0 _, by omega, by omega, by omega, hg⟩
  go_cut [7] (fun p wx => ∃ Y, p = .pointer (some ⟨Y, 0, none⟩) ∧ E1 w wx Y bb o g [.string (ceOf NM B).nm, .int .i64 (ceOf NM B).fs, .int .i64 (ceOf NM B).sz, .bool (ceOf NM B).b3, .bool (ceOf NM B).b4] B [.int .i64 (b : Int), .int .i64 (z : Int), .int .i64 (E : Int), .int .i64 (D : Int), .int .i64 (X : Int), .slice (some ⟨bb, off, none⟩) n c])
  case first =>
    go_region_held3 (fun W => W.cell? ⟨bb, o + 8, none⟩ = some (.int .u8 (gb B 8 : Int)) ∧ W.cell? ⟨bb, o + 9, none⟩ = some (.int .u8 (gb B 9 : Int)) ∧ W.cell? ⟨bb, o + 10, none⟩ = some (.int .u8 (gb B 10 : Int)) ∧ W.cell? ⟨bb, o + 11, none⟩ = some (.int .u8 (gb B 11 : Int)) ∧ (convert 34 9 (.slice (some ⟨bb, o, none⟩) 8 vc)).run Tryz.prog W = .ok (.string N) W) (refine ⟨?_, ?_, ?_, ?_, ?_⟩ <;> first | with_reducible assumption | with_reducible exact a8 _ | with_reducible exact a9 _ | with_reducible exact a10 _ | with_reducible exact a11 _ | with_reducible exact cv1 _) (first | (go_at_call 29; (with_reducible refine (tt _).mono ?_); rintro r w9 ⟨rfl, rfl⟩))
    all_goals
      go_wp2_with fail
      go_meet
      refine ⟨w3.heap.size, rfl, ?_⟩
      rw [or_hi (gb_lt B 9) (gb_lt B 10)]
      exact HE
  case rest =>
    obtain ⟨Y, rfl, H⟩ := hcut
    obtain ⟨w4, hw4⟩ : ∃ x, x = wc := ⟨_, rfl⟩
    subst hw4
    clear R0 D0 hB0 F0
    have hnm8 : (ceOf NM B).nm.size ≤ 8 := hN8
    obtain ⟨ok2, ok3⟩ := ceOf_ok NM B
    have V0 := fun h => ce_v (B := B) (nm := NM) hsame h
    have V1 := fun h => ce_b (B := B) (nm := NM) hsame h
    have V2 := fun h g => ce_y (B := B) (nm := NM) hsame hyes h g
    generalize ceOf NM B = e at H hnm8 ok2 ok3 V0 V1 V2
    have hxl := cB_len (e := e) hnm8
    have v0 : (_ : Option Value) = some (.string e.nm) := H.F.cell 0 (by simp)
    have v1 : (_ : Option Value) = some (.int .i64 e.fs) := H.F.cell 1 (by simp)
    have v2 : (_ : Option Value) = some (.int .i64 e.sz) := H.F.cell 2 (by simp)
    have v3 : (_ : Option Value) = some (.bool e.b3) := H.F.cell 3 (by simp)
    have v4 : (_ : Option Value) = some (.bool e.b4) := H.F.cell 4 (by simp)
    have va' := fun (W : World) => (show Calls Tryz.prog 30 #[.agg #[.string e.nm, .int .i64 e.fs, .int .i64 e.sz, .bool e.b3, .bool e.b4]] W fun r w' => r = .returned (.bool (cV e)) ∧ Below W.heap.size W w' from validEntry_any e.nm e.fs e.sz e.b3 e.b4 W (by omega) ok2)
    have va := va' w4
    have hpe : ∀ (W : World), Calls Tryz.prog 32 #[.agg #[.string e.nm, .int .i64 e.fs, .int .i64 e.sz, .bool e.b3, .bool e.b4]] W fun r w' => ∃ G c, r = .returned (.slice (some ⟨G, 0, none⟩) 12 c) ∧ RR w' 1 (some ⟨G, 0, none⟩) 12 (bcells (cB e)) ∧ Below W.heap.size W w' := fun W => by
      refine (putEntry_any e.nm e.fs e.sz e.b3 e.b4 W hnm8 ok2 ok3).mono ?_
      rintro r w' ⟨G, c, rfl, hc, hG, M, hB⟩
      refine ⟨G, c, rfl, ?_, hB⟩
      have := Rd.of_mark M
      rw [show (cB ⟨e.nm, e.fs, e.sz, e.b3, e.b4⟩).length = 12 from hxl] at this
      exact this
    have heq := fun (W : World) (G cG : Nat) (h1 : RR W 1 (some ⟨G, 0, none⟩) 12 (bcells (cB e))) (h2 : RR W 1 (some ⟨bb, o, none⟩) 12 (bcells B)) => equalB_any (some ⟨G, 0, none⟩) (some ⟨bb, o, none⟩) cG vc 12 (cB e) B W h1 h2 hxl hBl (by decide)
    cases hV : cV e
    · have HR := V0 hV
      rw [hV] at va
      clear V0 V1 V2 hV va' heq
      go_wp2_with ((go_simp; (go_at_call 30; (with_reducible refine va.mono ?_); rintro r w5 ⟨rfl, hx5⟩; have H5 := H.next hx5; have y0 : (_ : Option Value) = some (.string e.nm) := H5.F.cell 0 (by simp); have y1 : (_ : Option Value) = some (.int .i64 e.fs) := H5.F.cell 1 (by simp); have y2 : (_ : Option Value) = some (.int .i64 e.sz) := H5.F.cell 2 (by simp); have y3 : (_ : Option Value) = some (.bool e.b3) := H5.F.cell 3 (by simp); have y4 : (_ : Option Value) = some (.bool e.b4) := H5.F.cell 4 (by simp); have u0 : (_ : Option Value) = some (.string ⟨#[]⟩) := H5.Z.cell 0 (by simp); have u1 : (_ : Option Value) = some (.int .i64 0) := H5.Z.cell 1 (by simp); have u2 : (_ : Option Value) = some (.int .i64 0) := H5.Z.cell 2 (by simp); have u3 : (_ : Option Value) = some (.bool false) := H5.Z.cell 3 (by simp); have u4 : (_ : Option Value) = some (.bool false) := H5.Z.cell 4 (by simp); have hfz5 := fun j => H5.Z.free j; have pe5 := hpe w5)))
      have HF := H5
      clear H5 pe5
      have HR := Lib.hid HR
      go_wp2_with fail
      refine bodyPost_ret (v := .tuple #[.agg #[.string ⟨#[]⟩, .int .i64 0, .int .i64 0, .bool false, .bool false], .bool false]) (by simp [results, Tryz.results15, go_sem, World.cell?_setCell_other, u0, u1, u2, u3, u4]) rfl ⟨by rw [HR.out.1, HR.out.2]; rfl, ?_⟩
      exact bb5c HF.Bw _ _ _ _ _
    rw [hV] at va
    clear va'
    by_cases hg2 : cB e = B
    · have HR := V2 hV hg2
      rw [decide_eq_true hg2] at heq
      clear V0 V1 V2 hV hg2
      go_wp2_with (first | (go_simp; (go_at_call 30; (with_reducible refine va.mono ?_); rintro r w5 ⟨rfl, hx5⟩; have H5 := H.next hx5; have y0 : (_ : Option Value) = some (.string e.nm) := H5.F.cell 0 (by simp); have y1 : (_ : Option Value) = some (.int .i64 e.fs) := H5.F.cell 1 (by simp); have y2 : (_ : Option Value) = some (.int .i64 e.sz) := H5.F.cell 2 (by simp); have y3 : (_ : Option Value) = some (.bool e.b3) := H5.F.cell 3 (by simp); have y4 : (_ : Option Value) = some (.bool e.b4) := H5.F.cell 4 (by simp); have u0 : (_ : Option Value) = some (.string ⟨#[]⟩) := H5.Z.cell 0 (by simp); have u1 : (_ : Option Value) = some (.int .i64 0) := H5.Z.cell 1 (by simp); have u2 : (_ : Option Value) = some (.int .i64 0) := H5.Z.cell 2 (by simp); have u3 : (_ : Option Value) = some (.bool false) := H5.Z.cell 3 (by simp); have u4 : (_ : Option Value) = some (.bool false) := H5.Z.cell 4 (by simp); have hfz5 := fun j => H5.Z.free j; have pe5 := hpe w5)) | (go_simp; (go_at_call 32; (with_reducible refine pe5.mono ?_); rintro r w6 ⟨G, cG, rfl, rG, hx6⟩; have H6 := H5.next hx6; have eq6 := heq w6 G cG rG H6.R)) | (go_simp; (go_at_call 31; (with_reducible refine eq6.mono ?_); rintro r w7 ⟨rfl, hx7⟩; have H7 := H6.next hx7; have x0 : (_ : Option Value) = some (.string e.nm) := H7.F.cell 0 (by simp); have x1 : (_ : Option Value) = some (.int .i64 e.fs) := H7.F.cell 1 (by simp); have x2 : (_ : Option Value) = some (.int .i64 e.sz) := H7.F.cell 2 (by simp); have x3 : (_ : Option Value) = some (.bool e.b3) := H7.F.cell 3 (by simp); have x4 : (_ : Option Value) = some (.bool e.b4) := H7.F.cell 4 (by simp); have z0 : (_ : Option Value) = some (.string ⟨#[]⟩) := H7.Z.cell 0 (by simp); have z1 : (_ : Option Value) = some (.int .i64 0) := H7.Z.cell 1 (by simp); have z2 : (_ : Option Value) = some (.int .i64 0) := H7.Z.cell 2 (by simp); have z3 : (_ : Option Value) = some (.bool false) := H7.Z.cell 3 (by simp); have z4 : (_ : Option Value) = some (.bool false) := H7.Z.cell 4 (by simp); have hfz := fun j => H7.Z.free j)))
      all_goals
        have HF := H7
        clear H5 H6
        have HR := Lib.hid HR
        have hYw : Y ≠ w.heap.size := by have := HF.hX; omega
        go_wp2_with fail
        refine bodyPost_ret (v := .tuple #[.agg #[.string e.nm, .int .i64 e.fs, .int .i64 e.sz, .bool e.b3, .bool e.b4], .bool true]) (by simp [results, Tryz.results15, go_sem, World.cell?_setCell_other, z0, z1, z2, z3, z4]) rfl ⟨by rw [HR.out.1, HR.out.2], ?_⟩
        exact bb5c HF.Bw _ _ _ _ _
    · have HR := V1 hg2
      rw [decide_eq_false hg2] at heq
      clear V0 V1 V2 hV hg2
      go_wp2_with (first | (go_simp; (go_at_call 30; (with_reducible refine va.mono ?_); rintro r w5 ⟨rfl, hx5⟩; have H5 := H.next hx5; have y0 : (_ : Option Value) = some (.string e.nm) := H5.F.cell 0 (by simp); have y1 : (_ : Option Value) = some (.int .i64 e.fs) := H5.F.cell 1 (by simp); have y2 : (_ : Option Value) = some (.int .i64 e.sz) := H5.F.cell 2 (by simp); have y3 : (_ : Option Value) = some (.bool e.b3) := H5.F.cell 3 (by simp); have y4 : (_ : Option Value) = some (.bool e.b4) := H5.F.cell 4 (by simp); have u0 : (_ : Option Value) = some (.string ⟨#[]⟩) := H5.Z.cell 0 (by simp); have u1 : (_ : Option Value) = some (.int .i64 0) := H5.Z.cell 1 (by simp); have u2 : (_ : Option Value) = some (.int .i64 0) := H5.Z.cell 2 (by simp); have u3 : (_ : Option Value) = some (.bool false) := H5.Z.cell 3 (by simp); have u4 : (_ : Option Value) = some (.bool false) := H5.Z.cell 4 (by simp); have hfz5 := fun j => H5.Z.free j; have pe5 := hpe w5)) | (go_simp; (go_at_call 32; (with_reducible refine pe5.mono ?_); rintro r w6 ⟨G, cG, rfl, rG, hx6⟩; have H6 := H5.next hx6; have eq6 := heq w6 G cG rG H6.R)) | (go_simp; (go_at_call 31; (with_reducible refine eq6.mono ?_); rintro r w7 ⟨rfl, hx7⟩; have H7 := H6.next hx7; have x0 : (_ : Option Value) = some (.string e.nm) := H7.F.cell 0 (by simp); have x1 : (_ : Option Value) = some (.int .i64 e.fs) := H7.F.cell 1 (by simp); have x2 : (_ : Option Value) = some (.int .i64 e.sz) := H7.F.cell 2 (by simp); have x3 : (_ : Option Value) = some (.bool e.b3) := H7.F.cell 3 (by simp); have x4 : (_ : Option Value) = some (.bool e.b4) := H7.F.cell 4 (by simp); have z0 : (_ : Option Value) = some (.string ⟨#[]⟩) := H7.Z.cell 0 (by simp); have z1 : (_ : Option Value) = some (.int .i64 0) := H7.Z.cell 1 (by simp); have z2 : (_ : Option Value) = some (.int .i64 0) := H7.Z.cell 2 (by simp); have z3 : (_ : Option Value) = some (.bool false) := H7.Z.cell 3 (by simp); have z4 : (_ : Option Value) = some (.bool false) := H7.Z.cell 4 (by simp); have hfz := fun j => H7.Z.free j)))
      all_goals
        have HF := H7
        clear H5 H6
        have HR := Lib.hid HR
        go_wp2_with fail
        refine bodyPost_ret (v := .tuple #[.agg #[.string ⟨#[]⟩, .int .i64 0, .int .i64 0, .bool false, .bool false], .bool false]) (by simp [results, Tryz.results15, go_sem, World.cell?_setCell_other, z0, z1, z2, z3, z4]) rfl ⟨by rw [HR.out.1, HR.out.2]; rfl, ?_⟩
        exact bb5c HF.Bw _ _ _ _ _
end Go.Proofs.YtbobehieaaaleaaGreatDoor
namespace Go.Proofs.YtbobehieaaaleaaGreatDoor
set_option linter.unusedVariables false
open Go.RowKit

set_option maxRecDepth 100000 in
set_option maxHeartbeats 2000000 in
theorem openChainsC_any (A : Option Addr) (cp : Nat) (l : List ByteArray) (w : World) (h : Rd w w.heap.size 1 A l.length (flat fS l)) (hn : l.length ≤ 1048576) (hcp : l.length ≤ cp) :
    Calls Tryz.prog 14 #[.slice A l.length cp] w fun e w' => ∃ pv, e = .returned (.tuple #[pv, .int .i64 (chC l)]) ∧ Below w.heap.size w w' ∧ (chC l = 0 → ∃ (g : Nat) (a : Option Addr) (c : Nat), pv = .pointer (some ⟨g, 0, none⟩) ∧ CP w' g [.int .i64 (l.length : Int), .int .i64 (s0 l : Int), .int .i64 (chE l.length : Int), .int .i64 (chD l.length (s0 l) : Int), .int .i64 (chX l.length (s0 l) : Int), .slice a (jn l).length c] ∧ Rd w' w'.heap.size 1 a (jn l).length (bcells (jn l)) ∧ (jn l).length ≤ c) ∧ (chC l ≠ 0 → pv = .pointer none) := by
  have hib := isBlocks_any A cp l w h hn
  cases hbk : blkB l
  · rw [hbk] at hib
    have HR := Lib.hid (chC_1 hbk)
    clear hbk
    go_enter Tryz.func14, Tryz.ntmps14
    go_wp2_with (go_at_call 23; refine hib.mono ?_; rintro e w9 ⟨rfl, rfl⟩)
    (try simp only [Exit.inBlock, Exit.then]); refine bodyPost_ret (results_tmp2 rfl _ _ _) rfl ?_
    exact ⟨.pointer none, by rw [HR.out]; rfl, Below.refl _ _, fun e => absurd (HR.out.symm.trans e) (by decide), fun _ => rfl⟩
  rw [hbk] at hib
  obtain ⟨n8, n128, s3, hall⟩ := blk_yes hbk
  have hpos : 0 < l.length := by omega
  have hposi : (0 : Int) < (l.length : Int) := by omega
  obtain ⟨b, off, rfl, hbb, hc⟩ := h.at_ fS_len rfl 0 hpos
  have hc0 := hc 0 _ (by omega) rfl
  clear hc
  simp only [Nat.zero_mul, Nat.add_zero] at hc0
  obtain ⟨b0, hb0⟩ : ∃ x, l[0] = x := ⟨_, rfl⟩
  have hs0 : s0 l = b0.size := by rw [s0_eq hpos, hb0]
  have hhd : l.headD ⟨#[]⟩ = b0 := by rw [head_eq hpos, hb0]
  rw [hb0] at hc0
  rw [hs0] at s3 hall ⊢
  clear hb0
  have h6 : 6 ≤ b0.size := by omega
  have h32 : b0.size ≤ 32 := by omega
  have hlay := fun W => chainLayout_any l.length b0.size W n128 (by omega) h32
  have hdr := fun (d x : Int) W => chainHeader_any l.length b0.size d x W n128 h6 h32
  have HDB := Lib.hid (hdB_eq hhd hs0)
  have HBK := Lib.hid hbk
  have HJ := Lib.hid (show Lib.join (l.map (·.data.toList)) (⟨#[]⟩ : ByteArray).data.toList = jn l from join_nil l)
  have hjl : (jn l).length ≤ 4096 := by
    rw [jn_len l b0.size hall]
    have := Nat.mul_le_mul n128 h32
    omega
  obtain ⟨H, hH⟩ : ∃ H, hdS l.length b0.size = H := ⟨_, rfl⟩
  rw [hH] at hdr HDB
  clear hbk hhd hs0 hall s3 hH
  generalize chE l.length = E at *
  generalize chD l.length b0.size = D at *
  generalize chX l.length b0.size = X at *
  have hsz := fun W => size_string_any (some ⟨b, off, none⟩) l.length cp W
  go_enter Tryz.func14, Tryz.ntmps14
  go_upto_region 3 with (go_at_call 23; refine hib.mono ?_; rintro e w9 ⟨rfl, rfl⟩)
  clear hib
  go_cut [4] (fun p wx => ∃ (g : Nat), p = .pointer (some ⟨g, 0, none⟩) ∧ BB w wx ∧ CP wx g [.int .i64 (l.length : Int), .int .i64 (b0.size : Int), .int .i64 (E : Int), .int .i64 (D : Int), .int .i64 (X : Int)])
  case first =>
    have hB := BB.start w
    have s_B := hB.dr
    have t_B := fun (o : Obj) => (BB.al hB o).dr
    have s_0 : (_ : Option Value) = some (.string b0) := (hB.dr).cell hbb |>.trans hc0
    have t_0 := fun (o : Obj) => (show (_ : Option Value) = some (.string b0) from ((BB.al hB o).dr).cell hbb |>.trans hc0)
    go_region_held3 (fun W => BB w W ∧ W.cell? ⟨b, off, none⟩ = some (.string b0)) (refine ⟨?_, ?_⟩ <;> first | with_reducible assumption | with_reducible exact t_B _ | with_reducible exact t_0 _) (first
      | (go_at_call 25; refine (hsz _).mono ?_; rintro e w9 ⟨rfl, rfl⟩)
      | (go_at_call 24; have con := hlay w.drew; (with_reducible refine con.mono ?_); clear con; rintro e w3 ⟨rfl, hx3⟩; clear s_B t_B s_0 t_0; replace hB : BB w _ := BB.next (hB.dr) hx3; have s_B := hB; have t_B := fun (o : Obj) => BB.al hB o; have s_0 : (_ : Option Value) = some (.string b0) := (hB).cell hbb |>.trans hc0; have t_0 := fun (o : Obj) => (show (_ : Option Value) = some (.string b0) from (BB.al hB o).cell hbb |>.trans hc0))
      | (go_at_call 24; have con := fun (o : Obj) => hlay (w.alloc o).drew; (with_reducible refine (con _).mono ?_); clear con; rintro e w3 ⟨rfl, hx3⟩; clear s_B t_B s_0 t_0; have F : BX ((w.alloc (.cells #[.int .i64 0, .int .i64 0, .int .i64 0, .int .i64 0, .int .i64 0] 33)).drew) w.heap.size 33 [.int .i64 0, .int .i64 0, .int .i64 0, .int .i64 0, .int .i64 0] := BX.made w 33 [.int .i64 0, .int .i64 0, .int .i64 0, .int .i64 0, .int .i64 0]; replace F := F.below hx3 (by simp); replace hB : BB w _ := BB.next ((BB.al hB _).dr) hx3; have s_B := hB; have t_B := fun (o : Obj) => BB.al hB o; have s_0 : (_ : Option Value) = some (.string b0) := (hB).cell hbb |>.trans hc0; have t_0 := fun (o : Obj) => (show (_ : Option Value) = some (.string b0) from (BB.al hB o).cell hbb |>.trans hc0); have z_0 : (_ : Option Value) = some (.int .i64 0) := F.cell 0 (by simp); have z_1 : (_ : Option Value) = some (.int .i64 0) := F.cell 1 (by simp); have z_2 : (_ : Option Value) = some (.int .i64 0) := F.cell 2 (by simp); have z_3 : (_ : Option Value) = some (.int .i64 0) := F.cell 3 (by simp); have z_4 : (_ : Option Value) = some (.int .i64 0) := F.cell 4 (by simp); have hfz := fun j => F.free j; have P8 := (((((F.put 0 (.int .i64 (l.length : Int))).put 1 (.int .i64 (b0.size : Int))).put 2 (.int .i64 (E : Int))).put 3 (.int .i64 (D : Int))).put 4 (.int .i64 (X : Int))); have hBq := (((((hB.put (a := ⟨w.heap.size, 0, none⟩) (Nat.le_refl _) (.int .i64 (l.length : Int))).put (a := ⟨w.heap.size, 1, none⟩) (Nat.le_refl _) (.int .i64 (b0.size : Int))).put (a := ⟨w.heap.size, 2, none⟩) (Nat.le_refl _) (.int .i64 (E : Int))).put (a := ⟨w.heap.size, 3, none⟩) (Nat.le_refl _) (.int .i64 (D : Int))).put (a := ⟨w.heap.size, 4, none⟩) (Nat.le_refl _) (.int .i64 (X : Int))); have u_0 : (_ : Option Value) = some (.string b0) := (Below.cell hBq hbb).trans hc0; have mf := True.intro))
    all_goals
      go_wp2_with fail
      go_meet
      first
        | (have := mf; exact ⟨w.heap.size, rfl, hBq, BX.cp P8⟩)
        | exact ⟨w3.heap.size, rfl, hB.al _, CP.made w3 [.int .i64 (l.length : Int), .int .i64 (b0.size : Int), .int .i64 (E : Int), .int .i64 (D : Int), .int .i64 (X : Int)] 33⟩
  case rest =>
    obtain ⟨g, rfl, hB, D0⟩ := hcut
    have k0 := gw_cell (show wc.cell? ⟨b, off, none⟩ = some (.string b0) from (hB.cell hbb).trans hc0)
    have k1 := gw_cell (show wc.cell? ⟨g, 0, none⟩ = some (.int .i64 (l.length : Int)) from D0 0 (by simp))
    have k2 := gw_cell (show wc.cell? ⟨g, 1, none⟩ = some (.int .i64 (b0.size : Int)) from D0 1 (by simp))
    have k3 := gw_cell (show wc.cell? ⟨g, 2, none⟩ = some (.int .i64 (E : Int)) from D0 2 (by simp))
    have k4 := gw_cell (show wc.cell? ⟨g, 3, none⟩ = some (.int .i64 (D : Int)) from D0 3 (by simp))
    have k5 := gw_cell (show wc.cell? ⟨g, 4, none⟩ = some (.int .i64 (X : Int)) from D0 4 (by simp))
    have hq := fun (p' : Regrown) => qb_below p' (hdr (D : Int) (X : Int) (Sort.grow (redrawn wc p'.d) p'.os))
    go_wp2_with fail
    refine wp_region_quiet_below (by kernel_rfl) (by kernel_rfl) ?_
    repeat (go_big_quiet_step ((first | with_reducible exact hq _)))
    refine wpQuiet_nil ?_
    intro _ hw'
    obtain ⟨pq, hw''⟩ := hw'
    subst hw''
    have hb6 := gw_below wc pq
    generalize Sort.grow (redrawn wc pq.d) pq.os = w6 at hb6 ⊢
    clear hq k0 k1 k2 k3 k4 k5 hdr hlay hsz
    replace D0 := D0.next hb6
    replace hB : BB w _ := BB.next hB hb6
    cases hh : (b0.toList == H.toList)
    · have hhn : (b0.toList != H.toList) = true := by rw [bne, hh]; rfl
      have HR := Lib.hid (chC_2 HBK.out (by rw [HDB.out, ← str_eq, hh]))
      clear hh
      go_wp2
      (try simp only [Exit.inBlock, Exit.then]); refine bodyPost_ret (results_tmp2 rfl _ _ _) rfl ?_
      exact ⟨.pointer none, by rw [HR.out]; rfl, hB, fun e => absurd (HR.out.symm.trans e) (by decide), fun _ => rfl⟩
    have hhn : (b0.toList != H.toList) = false := by rw [bne, hh]; rfl
    have HR := Lib.hid (chC_3 HBK.out (by rw [HDB.out, ← str_eq, hh]))
    clear hh
    have hbk2 : b < w6.heap.size := Nat.lt_of_lt_of_le hbb (Below.size hB)
    have hcl : ∀ (j : Nat) (x : ByteArray), l[j]? = some x → w6.drew.cell? ⟨b, off + j, none⟩ = some (.string x) := by
      intro j x hx
      obtain ⟨hj, rfl⟩ := List.getElem?_eq_some_iff.1 hx
      obtain ⟨b', off', he, hb', hc⟩ := h.at_ fS_len rfl j hj
      cases he
      have h1 := hc 0 _ (by omega) rfl
      simp only [Nat.mul_one, Nat.add_zero] at h1
      exact (Below.cell (BB.dr hB) (p := ⟨b, off + j, none⟩) hbb).trans h1
    have con : Calls Tryz.prog 27 #[.slice (some ⟨b, off, none⟩) l.length cp, .string ⟨#[]⟩] w6.drew fun e w' => e = .returned (.string ⟨(jn l).toArray⟩) ∧ Below w6.drew.heap.size w6.drew w' := by
      rw [← HJ.out]
      exact Tryz.strings_Join b off cp l ⟨#[]⟩ w6.drew hcl hbk2 (by omega) hcp (by rw [HJ.out]; omega)
    have hJd : (⟨(jn l).toArray⟩ : ByteArray).data.toList = jn l := rfl
    generalize (⟨(jn l).toArray⟩ : ByteArray) = J at con hJd
    have hJs : J.size = (jn l).length := by rw [← hJd, Array.length_toList]; rfl
    have HJD := Lib.hid hJd
    have hJb : J.size ≤ 4096 := by omega
    have HJS := Lib.hid hJs
    clear hJd hJs hcl
    have hcv := fun (W : World) => run_bytes_of_string (P := Tryz.prog) W 9 34 5 J Tryz.underlying9 Tryz.underlying34 Tryz.underlying5
    go_wp2_with fail
    have s_0 : (_ : Option Value) = some (.int .i64 (l.length : Int)) := (D0.dr) 0 (by simp)
    have s_1 : (_ : Option Value) = some (.int .i64 (b0.size : Int)) := (D0.dr) 1 (by simp)
    have s_2 : (_ : Option Value) = some (.int .i64 (E : Int)) := (D0.dr) 2 (by simp)
    have s_3 : (_ : Option Value) = some (.int .i64 (D : Int)) := (D0.dr) 3 (by simp)
    have s_4 : (_ : Option Value) = some (.int .i64 (X : Int)) := (D0.dr) 4 (by simp)
    have t_0 := fun (o : Obj) => (show (_ : Option Value) = some (.int .i64 (l.length : Int)) from ((CP.al D0 o).dr) 0 (by simp))
    have t_1 := fun (o : Obj) => (show (_ : Option Value) = some (.int .i64 (b0.size : Int)) from ((CP.al D0 o).dr) 1 (by simp))
    have t_2 := fun (o : Obj) => (show (_ : Option Value) = some (.int .i64 (E : Int)) from ((CP.al D0 o).dr) 2 (by simp))
    have t_3 := fun (o : Obj) => (show (_ : Option Value) = some (.int .i64 (D : Int)) from ((CP.al D0 o).dr) 3 (by simp))
    have t_4 := fun (o : Obj) => (show (_ : Option Value) = some (.int .i64 (X : Int)) from ((CP.al D0 o).dr) 4 (by simp))
    have u_0 := fun (o o2 : Obj) => (show (_ : Option Value) = some (.int .i64 (l.length : Int)) from ((CP.al (CP.al D0 o) o2).dr) 0 (by simp))
    have u_1 := fun (o o2 : Obj) => (show (_ : Option Value) = some (.int .i64 (b0.size : Int)) from ((CP.al (CP.al D0 o) o2).dr) 1 (by simp))
    have u_2 := fun (o o2 : Obj) => (show (_ : Option Value) = some (.int .i64 (E : Int)) from ((CP.al (CP.al D0 o) o2).dr) 2 (by simp))
    have u_3 := fun (o o2 : Obj) => (show (_ : Option Value) = some (.int .i64 (D : Int)) from ((CP.al (CP.al D0 o) o2).dr) 3 (by simp))
    have u_4 := fun (o o2 : Obj) => (show (_ : Option Value) = some (.int .i64 (X : Int)) from ((CP.al (CP.al D0 o) o2).dr) 4 (by simp))
    go_region_law (go_simp; (go_at_call 27; refine con.mono ?_; rintro e w7 ⟨rfl, hx7⟩; clear s_0 t_0 u_0 s_1 t_1 u_1 s_2 t_2 u_2 s_3 t_3 u_3 s_4 t_4 u_4; replace D0 := D0.dr.next hx7; replace hB : BB w _ := BB.next (BB.dr hB) hx7; have s_0 : (_ : Option Value) = some (.int .i64 (l.length : Int)) := (D0.dr) 0 (by simp); have s_1 : (_ : Option Value) = some (.int .i64 (b0.size : Int)) := (D0.dr) 1 (by simp); have s_2 : (_ : Option Value) = some (.int .i64 (E : Int)) := (D0.dr) 2 (by simp); have s_3 : (_ : Option Value) = some (.int .i64 (D : Int)) := (D0.dr) 3 (by simp); have s_4 : (_ : Option Value) = some (.int .i64 (X : Int)) := (D0.dr) 4 (by simp); have t_0 := fun (o : Obj) => (show (_ : Option Value) = some (.int .i64 (l.length : Int)) from ((CP.al D0 o).dr) 0 (by simp)); have t_1 := fun (o : Obj) => (show (_ : Option Value) = some (.int .i64 (b0.size : Int)) from ((CP.al D0 o).dr) 1 (by simp)); have t_2 := fun (o : Obj) => (show (_ : Option Value) = some (.int .i64 (E : Int)) from ((CP.al D0 o).dr) 2 (by simp)); have t_3 := fun (o : Obj) => (show (_ : Option Value) = some (.int .i64 (D : Int)) from ((CP.al D0 o).dr) 3 (by simp)); have t_4 := fun (o : Obj) => (show (_ : Option Value) = some (.int .i64 (X : Int)) from ((CP.al D0 o).dr) 4 (by simp)); have u_0 := fun (o o2 : Obj) => (show (_ : Option Value) = some (.int .i64 (l.length : Int)) from ((CP.al (CP.al D0 o) o2).dr) 0 (by simp)); have u_1 := fun (o o2 : Obj) => (show (_ : Option Value) = some (.int .i64 (b0.size : Int)) from ((CP.al (CP.al D0 o) o2).dr) 1 (by simp)); have u_2 := fun (o o2 : Obj) => (show (_ : Option Value) = some (.int .i64 (E : Int)) from ((CP.al (CP.al D0 o) o2).dr) 2 (by simp)); have u_3 := fun (o o2 : Obj) => (show (_ : Option Value) = some (.int .i64 (D : Int)) from ((CP.al (CP.al D0 o) o2).dr) 3 (by simp)); have u_4 := fun (o o2 : Obj) => (show (_ : Option Value) = some (.int .i64 (X : Int)) from ((CP.al (CP.al D0 o) o2).dr) 4 (by simp)); have v_0 : (_ : Option Value) = some (.int .i64 (l.length : Int)) := D0 0 (by simp); have v_1 : (_ : Option Value) = some (.int .i64 (b0.size : Int)) := D0 1 (by simp); have v_2 : (_ : Option Value) = some (.int .i64 (E : Int)) := D0 2 (by simp); have v_3 : (_ : Option Value) = some (.int .i64 (D : Int)) := D0 3 (by simp); have v_4 : (_ : Option Value) = some (.int .i64 (X : Int)) := D0 4 (by simp)))
    all_goals
      go_wp2
      (try simp only [Exit.inBlock, Exit.then]); refine bodyPost_ret (results_tmp2 rfl _ _ _) rfl ?_
      have hBw : Below w.heap.size w w7 := hB
      have hmk := MarkB.made (e := 5) w7 J (grownCap w7 J.size 0 5)
      have hlt := hmk.lt
      refine ⟨.pointer (some ⟨w7.heap.size + 1, 0, none⟩), by rw [HR.out]; rfl, ?_, fun _ => ⟨w7.heap.size + 1, some ⟨w7.heap.size, 0, none⟩, grownCap w7 J.size 0 5, rfl, ?_, ?_, by rw [← HJS.out]; exact grownCap_ge w7 J.size 0 5⟩, fun e => absurd HR.out e⟩
      · exact (by with_reducible repeat (first | exact Below.refl _ _ | assumption | refine below_step ?_ (by assumption) | refine Below.drew ?_ | refine below_drewN ?_ _ | refine below_alloc ?_ _ | refine Below.setCell ?_ (by simp; try omega) _))
      · rw [← HJS.out]
        have hcp := CP.made (w7.alloc (.cells (bytesRow J (grownCap w7 J.size 0 5)) 5 ((bytesRow J (grownCap w7 J.size 0 5)).size, (bytesRow J (grownCap w7 J.size 0 5)).size + 1))) [.int .i64 (l.length : Int), .int .i64 (b0.size : Int), .int .i64 (E : Int), .int .i64 (D : Int), .int .i64 (X : Int), .slice (some ⟨w7.heap.size, 0, none⟩) J.size (grownCap w7 J.size 0 5)] 46
        rw [World.size_alloc] at hcp
        exact hcp.dr
      · have hrd := Rd.of_mark ((hmk.below (below_alloc (Below.refl (w7.alloc (.cells (bytesRow J (grownCap w7 J.size 0 5)) 5 ((bytesRow J (grownCap w7 J.size 0 5)).size, (bytesRow J (grownCap w7 J.size 0 5)).size + 1))).heap.size _) (.cells #[.int .i64 (l.length : Int), .int .i64 (b0.size : Int), .int .i64 (E : Int), .int .i64 (D : Int), .int .i64 (X : Int), .slice (some ⟨w7.heap.size, 0, none⟩) J.size (grownCap w7 J.size 0 5)] 46)) hlt))
        rw [HJD.out] at hrd
        exact hrd
end Go.Proofs.YtbobehieaaaleaaGreatDoor
namespace Go.Proofs.YtbobehieaaaleaaGreatDoor
set_option linter.unusedVariables false
open Go.RowKit

theorem ownB_cap {w : World} {base : Nat} {e : TypeId} {A : Option Addr} {c : Nat} {l : List UInt8} (h : OwnB w base e (.slice A l.length c) l) : l.length ≤ c := own_capX h
set_option maxRecDepth 100000 in
set_option maxHeartbeats 2000000 in
theorem l16OpenC_any (A : Option Addr) (cp : Nat) (l : List ByteArray) (w : World) (h : Rd w w.heap.size 1 A l.length (flat fS l)) (hn : l.length ≤ 1048576) :
    Calls Tryz.prog 11 #[.slice A l.length cp] w fun e w' => ∃ pv, e = .returned (.tuple #[pv, .int .i64 (chC l)]) ∧ Below w.heap.size w w' ∧ (chC l = 0 → ∃ (g : Nat) (a : Option Addr) (c : Nat), pv = .pointer (some ⟨g, 0, none⟩) ∧ CP w' g [.int .i64 (l.length : Int), .int .i64 (s0 l : Int), .int .i64 (chE l.length : Int), .int .i64 (chD l.length (s0 l) : Int), .int .i64 (chX l.length (s0 l) : Int), .slice a (jn l).length c] ∧ Rd w' w'.heap.size 1 a (jn l).length (bcells (jn l)) ∧ (jn l).length ≤ c) ∧ (chC l ≠ 0 → pv = .pointer none) := by
  by_cases h0 : l.length = 0
  · have HR := Lib.hid (chC_1 (l := l) (blk_1 (by rw [h0]; rfl)))
    have q0 : ((l.length : Int) == 0) = true := by rw [h0]; rfl
    clear h0
    go_enter Tryz.func11, Tryz.ntmps11
    go_wp2
    (try simp only [Exit.inBlock, Exit.then]); refine bodyPost_ret (results_tmp2 rfl _ _ _) rfl ?_
    exact ⟨.pointer none, by rw [HR.out]; rfl, (by with_reducible repeat (first | exact Below.refl _ _ | assumption | refine below_step ?_ (by assumption) | refine Below.drew ?_ | refine below_drewN ?_ _ | refine below_alloc ?_ _ | refine Below.setCell ?_ (by simp; try omega) _)), fun e => absurd (HR.out.symm.trans e) (by decide), fun _ => rfl⟩
  have hpos : 0 < l.length := by omega
  have hposi : (0 : Int) < (l.length : Int) := by omega
  have q0 : ((l.length : Int) == 0) = false := beq_false_of_ne (by omega)
  obtain ⟨b, off, rfl, hbb, hc⟩ := h.at_ fS_len rfl 0 hpos
  have hc0 := hc 0 _ (by omega) rfl
  clear hc
  simp only [Nat.zero_mul, Nat.add_zero] at hc0
  obtain ⟨b0, hb0⟩ : ∃ x, l[0] = x := ⟨_, rfl⟩
  have hs0 : s0 l = b0.size := by rw [s0_eq hpos, hb0]
  have hhd : l.headD ⟨#[]⟩ = b0 := by rw [head_eq hpos, hb0]
  have hjh := fun k => jn_head l hpos k
  rw [hb0] at hc0 hjh
  rw [hs0]
  clear h0
  have F := BX.made w 36 [.int .i64 0, .int .i64 0, .int .i64 0, .int .i64 0, .int .i64 0, .slice none 0 0]
  have hB : BB w (w.alloc (.cells #[.int .i64 0, .int .i64 0, .int .i64 0, .int .i64 0, .int .i64 0, .slice none 0 0] 36)) := (show Below w.heap.size w (w.alloc (.cells #[.int .i64 0, .int .i64 0, .int .i64 0, .int .i64 0, .int .i64 0, .slice none 0 0] 36)) from (by with_reducible repeat (first | exact Below.refl _ _ | assumption | refine below_step ?_ (by assumption) | refine Below.drew ?_ | refine below_drewN ?_ _ | refine below_alloc ?_ _ | refine Below.setCell ?_ (by simp; try omega) _)))
  have ho0 : OwnB (w.alloc (.cells #[.int .i64 0, .int .i64 0, .int .i64 0, .int .i64 0, .int .i64 0, .slice none 0 0] 36)) (w.heap.size + 1) 5 (.slice none 0 0) [] := OwnB.nil _ _ _
  have c0 := (hB.cell (p := ⟨b, off, none⟩) hbb).trans hc0
  have hsh := fun W => l16Shape_any l.length b0.size W
  cases hS : (inB (l.length : Int) 8 128 && oneOf b0.size)
  · have HR := Lib.hid (chC_1 (blk_5 hs0 hS))
    rw [hS] at hsh
    clear hS
    go_enter Tryz.func11, Tryz.ntmps11
    go_wp2_with (go_at_call 18; refine (hsh _).mono ?_; rintro e w2 ⟨rfl, hx2⟩)
    (try simp only [Exit.inBlock, Exit.then]); refine bodyPost_ret (results_tmp2 rfl _ _ _) rfl ?_
    have hBw : Below w.heap.size w w2 := BB.next hB hx2
    exact ⟨.pointer none, by rw [HR.out]; rfl, hBw, fun e => absurd (HR.out.symm.trans e) (by decide), fun _ => rfl⟩
  rw [hS] at hsh
  have hS2 := hS
  rw [Bool.and_eq_true] at hS2
  obtain ⟨n8, n128⟩ := inB_yes hS2.1
  have s3 := oneOf_yes hS2.2
  clear hS2
  have h6 : 6 ≤ b0.size := by omega
  have h32 : b0.size ≤ 32 := by omega
  have hn128 : l.length ≤ 128 := by omega
  clear s3 n8 n128
  have HS := Lib.hid hS
  clear hS
  have HDB := Lib.hid (hdB_eq hhd hs0)
  have hlay := fun W => l16Sizes_any l.length b0.size W hn128 (by omega) h32
  have hhead := fun (d x : Int) W => l16Head_any l.length b0.size d x W hn128
  obtain ⟨H, hH⟩ : ∃ H, hdS l.length b0.size = H := ⟨_, rfl⟩
  obtain ⟨S6, hS6⟩ : ∃ S, hd6 l.length = S := ⟨_, rfl⟩
  have hHs : H.size = b0.size := by rw [← hH]; exact hdS_size _ _ h6
  have h6s : S6.size = 6 := by rw [← hS6]; exact hd6_size _
  have hlo : ∀ (k : Nat) (hk : k < S6.size) (h : k < H.size), H[k] = S6[k] := by
    subst hH hS6
    exact fun k hk h => hdS_lo _ _ k h6 (by rwa [hd6_size] at hk) h
  have hhi : ∀ (k : Nat) (hk : ¬ k < S6.size) (h : k < H.size), H[k] = 0 := by
    subst hH hS6
    exact fun k hk h => hdS_hi _ _ k (by rwa [hd6_size] at hk) h
  rw [hH] at HDB
  rw [hS6] at hhead
  have HHS := Lib.hid hHs
  have H6S := Lib.hid h6s
  clear hH hS6 hHs h6s
  generalize chE l.length = E at *
  generalize chD l.length b0.size = D at *
  generalize chX l.length b0.size = X at *
  go_enter Tryz.func11, Tryz.ntmps11
  go_wp2_with (go_at_call 18; refine (hsh _).mono ?_; rintro e w2 ⟨rfl, hx2⟩; replace F := F.below hx2 F.lt; replace hB : BB w _ := BB.next hB hx2; replace ho0 := ho0.later hx2 (Nat.le_refl _))
  clear c0 hsh
  go_loopw [5] (fun i wr => ∃ (k : Nat) (v : Value), k ≤ l.length ∧ i = .int .i64 k ∧ BX wr w.heap.size 36 [.int .i64 0, .int .i64 0, .int .i64 0, .int .i64 0, .int .i64 0, v] ∧ OwnB wr (w.heap.size + 1) 5 v (jn (l.take k)) ∧ (jn (l.take k)).length ≤ 32 * k ∧ Hid (∀ j, (hj : j < k) → (hj' : j < l.length) → l[j].size = b0.size) ∧ BB w wr) (fun i _ => l.length - (intOf i).toNat)
  case atStart => exact ⟨0, _, Nat.zero_le _, rfl, F, ho0, by simp [jn], Lib.hid (fun j hj => absurd hj (by omega)), hB⟩
  case round =>
    clear F hB ho0
    obtain ⟨k, v, hk, rfl, F, ho, hlen, HI, hB⟩ := hrel
    by_cases hlt : k < l.length
    · have hlti : (k : Int) < (l.length : Int) := by omega
      obtain ⟨b', off', hbo, hbb', hc⟩ := h.at_ fS_len rfl k hlt
      cases hbo
      have hck := hc 0 _ (by omega) rfl
      clear hc
      simp only [Nat.mul_one, Nat.add_zero] at hck
      obtain ⟨bk, hbk⟩ : ∃ x, l[k] = x := ⟨_, rfl⟩
      rw [hbk] at hck
      have ck := (hB.cell (p := ⟨b, off + k, none⟩) hbb).trans hck
      have c0 := (hB.cell (p := ⟨b, off, none⟩) hbb).trans hc0
      by_cases hx : bk.size = b0.size
      rotate_left
      · have HR := Lib.hid (chC_1 (blk_3 hlt (by rw [hs0, hbk]; exact hx)))
        have hxb : ((bk.size : Int) != (b0.size : Int)) = true := by simp; omega
        clear hbk hx
        go_wp2_with fail
        go_quiet (fail)
        have hBw : Below w.heap.size w (wr.drewN nq) := below_drewN hB nq
        go_wp2
        (try simp only [Exit.inBlock, Exit.then]); refine bodyPost_ret (results_tmp2 rfl _ _ _) rfl ?_
        exact ⟨.pointer none, by rw [HR.out]; rfl, hBw, fun e => absurd (HR.out.symm.trans e) (by decide), fun _ => rfl⟩
      have hxb : ((bk.size : Int) != (b0.size : Int)) = false := by simp; omega
      have HN := Lib.hid (show ∀ j, (hj : j < k + 1) → (hj' : j < l.length) → l[j].size = b0.size from fun j hj hj' => by
        by_cases he : j = k
        · subst he
          rw [hbk, hx]
        · exact HI.out j (by omega) hj')
      have hsn := jn_snoc l k hlt
      rw [hbk] at hsn
      have hlb : (jn (l.take k)).length + bk.size ≤ 32 * (k + 1) := by omega
      have HLB := Lib.hid (show (jn (l.take (k + 1))).length ≤ 32 * (k + 1) by rw [hsn, List.length_append, Array.length_toList]; exact hlb)
      have HSN := Lib.hid hsn
      have hlb2 : (jn (l.take k)).length + bk.size ≤ 1000000000 := by omega
      clear hbk hx hsn hlb hlen
      go_wp2_with fail
      go_quiet (fail)
      replace F := BX.dn F nq
      replace ho := OwnB.drewN ho nq
      replace hB : BB w _ := below_drewN hB nq
      clear ck c0
      generalize wr.drewN nq = w4 at F ho hB ⊢
      generalize jn (l.take k) = out at ho hlb2 HSN
      have ck := (hB.cell (p := ⟨b, off + k, none⟩) hbb).trans hck
      replace ck : w4.drew.cell? ⟨b, off + k, none⟩ = _ := ck
      replace F := BX.dr F
      replace hB : BB w _ := BB.dr hB
      replace ho : OwnB w4.drew _ _ _ _ := OwnB.drewN ho 1
      have f5 : (_ : Option Value) = some v := F.cell 5 (by simp)
      have hbs : w.heap.size + 1 ≤ w4.drew.heap.size := F.lt
      have HLL := Lib.hid (show out.length + bk.size = (out ++ bk.data.toList).length by rw [List.length_append, Array.length_toList]; rfl)
      go_wp2_with fail
      go_region_law (refine step_appS rfl (.tmp 44) (.tmp 48) 34 9 rfl eltB Tryz.underlying9 _ out (by rfl) ho bk (by rfl) hlb2 hbs ?_; intro v5 w5 ho5 hbl5; obtain ⟨A5, c5, rfl⟩ := OwnB.form ho5; replace ho5 : OwnB w5 (w.heap.size + 1) 5 (.slice A5 (out.length + bk.size) c5) (out ++ bk.data.toList) := (by rw [HLL.out]; exact ho5); clear f5 ck; replace F := F.below hbl5 (by omega); replace hB : BB w _ := Below.trans hB (hbl5.mono (by omega)); have f5 : (_ : Option Value) = some v := F.cell 5 (by simp); have hfz := fun j => F.free j)
      all_goals
        go_wp2
        go_roundw
        case rel => exact ⟨k + 1, _, by omega, by go_num, F.put 5 _, by rw [HSN.out]; exact OO.put (a := ⟨w.heap.size, 5, none⟩) (show OO _ _ _ _ _ _ _ from ho5) (show w.heap.size < w.heap.size + 1 by omega) _, HLB.out, HN, BB.put hB (Nat.le_refl _) _⟩
        case measure => (simp [intOf] <;> omega)
    obtain rfl : k = l.length := by omega
    rw [List.take_length] at ho hlen
    have hbk := blk_6 hs0 HS.out (fun j hj => HI.out j hj hj)
    obtain ⟨A9, c9, rfl⟩ := ho.form
    have hjl : b0.size ≤ (jn l).length := by
      rw [jn_len l b0.size (fun x hx => by
        obtain ⟨j, hj, rfl⟩ := List.getElem_of_mem hx
        exact HI.out j hj hj)]
      exact Nat.le_mul_of_pos_left _ hpos
    have HBK := Lib.hid hbk
    clear hbk hlt
    have c0 := (hB.cell (p := ⟨b, off, none⟩) hbb).trans hc0
    have hlq : ¬ (l.length : Int) < (l.length : Int) := by omega
    go_upto_region 11 with (go_at_call 19; refine (hlay _).mono ?_; rintro e w6 ⟨rfl, hx6⟩; replace F := F.below hx6 F.lt; replace hB : BB w _ := BB.next hB hx6; replace ho := ho.later hx6 (Nat.le_refl _); have z_0 : (_ : Option Value) = some (.int .i64 0) := F.cell 0 (by simp); have z_1 : (_ : Option Value) = some (.int .i64 0) := F.cell 1 (by simp); have z_2 : (_ : Option Value) = some (.int .i64 0) := F.cell 2 (by simp); have z_3 : (_ : Option Value) = some (.int .i64 0) := F.cell 3 (by simp); have z_4 : (_ : Option Value) = some (.int .i64 0) := F.cell 4 (by simp); have z_5 : (_ : Option Value) = some (.slice A9 (jn l).length c9) := F.cell 5 (by simp); have hfz := fun j => F.free j; have P := (((((F.put 0 (.int .i64 (l.length : Int))).put 1 (.int .i64 (b0.size : Int))).put 2 (.int .i64 (E : Int))).put 3 (.int .i64 (D : Int))).put 4 (.int .i64 (X : Int))); have hoq := (OO.put (a := ⟨w.heap.size, 4, none⟩) (OO.put (a := ⟨w.heap.size, 3, none⟩) (OO.put (a := ⟨w.heap.size, 2, none⟩) (OO.put (a := ⟨w.heap.size, 1, none⟩) (OO.put (a := ⟨w.heap.size, 0, none⟩) (show OO _ _ _ _ _ _ _ from ho) (show w.heap.size < w.heap.size + 1 by omega) (.int .i64 (l.length : Int))) (show w.heap.size < w.heap.size + 1 by omega) (.int .i64 (b0.size : Int))) (show w.heap.size < w.heap.size + 1 by omega) (.int .i64 (E : Int))) (show w.heap.size < w.heap.size + 1 by omega) (.int .i64 (D : Int))) (show w.heap.size < w.heap.size + 1 by omega) (.int .i64 (X : Int))); have hBq := (BB.put (a := ⟨w.heap.size, 4, none⟩) (BB.put (a := ⟨w.heap.size, 3, none⟩) (BB.put (a := ⟨w.heap.size, 2, none⟩) (BB.put (a := ⟨w.heap.size, 1, none⟩) (BB.put (a := ⟨w.heap.size, 0, none⟩) hB (Nat.le_refl _) (.int .i64 (l.length : Int))) (Nat.le_refl _) (.int .i64 (b0.size : Int))) (Nat.le_refl _) (.int .i64 (E : Int))) (Nat.le_refl _) (.int .i64 (D : Int))) (Nat.le_refl _) (.int .i64 (X : Int))); have mk1 := True.intro)
    clear F hB ho hfz mk1 hx6 c0 z_0 z_1 z_2 z_3 z_4 z_5
    generalize (((((w6.setCell ⟨w.heap.size, 0, none⟩ (.int .i64 (l.length : Int))).setCell ⟨w.heap.size, 1, none⟩ (.int .i64 (b0.size : Int))).setCell ⟨w.heap.size, 2, none⟩ (.int .i64 (E : Int))).setCell ⟨w.heap.size, 3, none⟩ (.int .i64 (D : Int))).setCell ⟨w.heap.size, 4, none⟩ (.int .i64 (X : Int))) = w6' at *
    have q_0 : (_ : Option Value) = some (.int .i64 (l.length : Int)) := P.cell 0 (by simp)
    have q_1 : (_ : Option Value) = some (.int .i64 (b0.size : Int)) := P.cell 1 (by simp)
    have q_2 : (_ : Option Value) = some (.int .i64 (E : Int)) := P.cell 2 (by simp)
    have q_3 : (_ : Option Value) = some (.int .i64 (D : Int)) := P.cell 3 (by simp)
    have q_4 : (_ : Option Value) = some (.int .i64 (X : Int)) := P.cell 4 (by simp)
    have q_5 : (_ : Option Value) = some (.slice A9 (jn l).length c9) := P.cell 5 (by simp)
    have mk1 := True.intro
    go_wp2_with (go_at_call 20; have := mk1; refine (hhead _ _ _).mono ?_; rintro e w7 ⟨rfl, hx7⟩; replace P := P.below hx7 P.lt; replace hBq : BB w _ := BB.next hBq hx7; replace hoq : OwnB w7 _ _ _ _ := OwnB.later hoq hx7 (Nat.le_refl _))
    clear hhead hlay mk1 q_0 q_1 q_2 q_3 q_4 q_5
    go_loop [7, 8] (fun i _ => ∃ k : Nat, k ≤ b0.size ∧ i = .int .i64 k ∧ Hid (eqF b0 H k = hdB l)) (fun i _ => b0.size - (intOf i).toNat)
    case atStart => exact ⟨0, Nat.zero_le _, rfl, Lib.hid (by rw [eqF_0, HDB.out])⟩
    case round =>
      obtain ⟨k, hk, rfl, HE⟩ := hrel
      have p1 : (_ : Option Value) = some (.int .i64 (b0.size : Int)) := P.cell 1 (by simp)
      have p5 : (_ : Option Value) = some (.slice A9 (jn l).length c9) := P.cell 5 (by simp)
      by_cases hlt : k < b0.size
      · have hlti : (k : Int) < (b0.size : Int) := by omega
        have hltH : k < H.size := by have := HHS.out; omega
        have hkj : k < (jn l).length := by omega
        have hkji : (k : Int) < ((jn l).length : Int) := by omega
        obtain ⟨g9, cap9, hv9, hbg, hg9, hc9⟩ := OwnB.at_ hoq k hkj
        cases hv9
        have hgk : (jn l)[k] = b0[k] := by
          have h1 := hjh k hlt
          rw [List.getElem?_eq_getElem hkj] at h1
          injection h1
        rw [hgk] at hc9
        have HH := Lib.hid hgk
        clear hgk
        by_cases hk6 : k < S6.size
        · have hk6i : (k : Int) < (S6.size : Int) := by omega
          have e1 := hlo k hk6 hltH
          by_cases hx : b0[k] = S6[k]
          · have HN := Lib.hid (eqF_step hlt hltH HE.out (by rw [e1]; exact hx))
            have hxb : ((b0[k].toNat : Int) != (S6[k].toNat : Int)) = false := by rw [hx]; simp
            clear hx e1
            go_wp2
            go_round
            case rel => exact ⟨k + 1, by omega, by go_num, HN⟩
            case measure => simp [intOf]; omega
          · have HR := Lib.hid (chC_2 HBK.out (eqF_no hlt hltH HE.out (by rw [e1]; exact hx)))
            have hxb : ((b0[k].toNat : Int) != (S6[k].toNat : Int)) = true := by
              rw [bne_iff_ne]
              intro e
              exact hx (UInt8.toNat_inj.1 (by omega))
            clear hx e1
            have hBw : Below w.heap.size w w7 := hBq
            go_wp2
            (try simp only [Exit.inBlock, Exit.then]); refine bodyPost_ret (results_tmp2 rfl _ _ _) rfl ?_
            exact ⟨.pointer none, by rw [HR.out]; rfl, hBw, fun e => absurd (HR.out.symm.trans e) (by decide), fun _ => rfl⟩
        · have hk6i : ¬ (k : Int) < (S6.size : Int) := by omega
          have e1 := hhi k hk6 hltH
          by_cases hx : b0[k] = 0
          · have HN := Lib.hid (eqF_step hlt hltH HE.out (by rw [e1]; exact hx))
            have hxb : ((b0[k].toNat : Int) != 0) = false := by rw [hx]; simp
            clear hx e1
            go_wp2
            go_round
            case rel => exact ⟨k + 1, by omega, by go_num, HN⟩
            case measure => simp [intOf]; omega
          · have HR := Lib.hid (chC_2 HBK.out (eqF_no hlt hltH HE.out (by rw [e1]; exact hx)))
            have hxb : ((b0[k].toNat : Int) != 0) = true := by
              rw [bne_iff_ne]
              intro e
              exact hx (UInt8.toNat_inj.1 (by simpa using e))
            clear hx e1
            have hBw : Below w.heap.size w w7 := hBq
            go_wp2
            (try simp only [Exit.inBlock, Exit.then]); refine bodyPost_ret (results_tmp2 rfl _ _ _) rfl ?_
            exact ⟨.pointer none, by rw [HR.out]; rfl, hBw, fun e => absurd (HR.out.symm.trans e) (by decide), fun _ => rfl⟩
      · have hlti : ¬ (k : Int) < (b0.size : Int) := by omega
        have HR := Lib.hid (chC_3 HBK.out (eqF_end hlt (by have := HHS.out; omega) HE.out))
        have hBw : Below w.heap.size w w7 := hBq
        go_wp2
        (try simp only [Exit.inBlock, Exit.then]); refine bodyPost_ret (results_tmp2 rfl _ _ _) rfl ?_
        refine ⟨_, by rw [HR.out]; rfl, hBw, fun _ => ?_, fun e => absurd HR.out e⟩
        first
          | exact ⟨w.heap.size, A9, c9, rfl, P.cp, Rd.of_own hoq, ownB_cap hoq⟩
          | exact ⟨w.heap.size, rfl, A9, c9, P.cp, Rd.of_own hoq, ownB_cap hoq⟩
          | exact ⟨w.heap.size, rfl, A9, ⟨c9, P.cp, ownB_cap hoq⟩, Rd.of_own hoq⟩
end Go.Proofs.YtbobehieaaaleaaGreatDoor
namespace Go.Proofs.YtbobehieaaaleaaGreatDoor
set_option linter.unusedVariables false
open Go.RowKit
set_option linter.unusedSimpArgs false

def enB (l : List ByteArray) (x : Int) : List UInt8 := cRaw (jn l) (chD l.length (s0 l)) (s0 l) x.toNat
/-- The entry that EntryAt answers, and its code. -/
def enC (l : List ByteArray) (x : Int) : Int := if chC l = 0 then (if inB x 0 ((chE l.length : Nat) - 1) then (if cOk (enB l x) then 0 else 7) else 2) else chC l
def enE (l : List ByteArray) (x : Int) : CE := if chC l = 0 then (if inB x 0 ((chE l.length : Nat) - 1) then ceE (enB l x) else ce0) else ce0
theorem en_1 {l : List ByteArray} {x : Int} (h : chC l ≠ 0) : enC l x = chC l ∧ enE l x = ce0 := by simp only [enC, enE, if_neg h, and_self]
theorem en_2 {l : List ByteArray} {x E1 : Int} (h : chC l = 0) (hE : ((chE l.length : Nat) : Int) - 1 = E1) (g : inB x 0 E1 = false) : enC l x = 2 ∧ enE l x = ce0 := by subst hE; simp only [enC, enE, if_pos h, g, Bool.false_eq_true, if_false, and_self]
theorem en_3 {l : List ByteArray} {x E1 : Int} {B : List UInt8} (h : chC l = 0) (hE : ((chE l.length : Nat) : Int) - 1 = E1) (g : inB x 0 E1 = true) (hB : enB l x = B) (k : cOk B = false) : enC l x = 7 ∧ enE l x = ceE B := by subst hE hB; simp only [enC, enE, if_pos h, g, k, if_true, Bool.false_eq_true, if_false, and_self]
theorem en_4 {l : List ByteArray} {x E1 : Int} {B : List UInt8} (h : chC l = 0) (hE : ((chE l.length : Nat) : Int) - 1 = E1) (g : inB x 0 E1 = true) (hB : enB l x = B) (k : cOk B = true) : enC l x = 0 ∧ enE l x = ceE B := by subst hE hB; simp only [enC, enE, if_pos h, g, k, if_true, and_self]
theorem ch_room {b z k : Nat} (hb : 8 ≤ b) (hz : z = 8 ∨ z = 16 ∨ z = 32) (hk : k < chE b) : chD b z * z + 12 * k + 12 ≤ b * z := by
  have h1 : chE b ≤ b / 8 := Nat.min_le_right _ _
  have h2 : (b + z - 1) / z * z ≤ b + z - 1 := Nat.div_mul_le_self _ _
  have h3 : chD b z * z = z + (b + z - 1) / z * z := by rw [chD, Nat.add_mul, Nat.one_mul]
  rw [h3]
  generalize (b + z - 1) / z * z = q at h2
  rcases hz with rfl | rfl | rfl <;> omega

end Go.Proofs.YtbobehieaaaleaaGreatDoor
