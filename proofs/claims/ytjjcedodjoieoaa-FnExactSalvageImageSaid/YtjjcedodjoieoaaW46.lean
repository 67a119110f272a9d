/- Walks: decodeChunk. -/
import Derived.Test.YtjjcedodjoieoaaW45
import Derived.Test.YtjjcedodjoieoaaStep
import Derived.Test.YtjjcedodjoieoaaQB
namespace Go.Proofs.Ytjjcedodjoieoaa
open Go.RowKit
set_option linter.unusedVariables false

theorem CP.made1d (w : World) (o : Obj) (k : Nat) (vs : List Value) (t : TypeId) : CP (((w.alloc o).drewN k).alloc (.cells vs.toArray t)) (w.heap.size + 1) vs := by
  have := CP.made ((w.alloc o).drewN k) vs t
  rwa [show ((w.alloc o).drewN k).heap.size = w.heap.size + 1 from World.size_alloc w o] at this
def rDc (r : Option (Nat × ByteArray × Nat)) : Ending :=
  match r with
  | none => .returned (.tuple #[.agg #[.int .i64 0, .string ⟨#[]⟩], .int .i64 0, .bool false])
  | some (k, d, m) => .returned (.tuple #[.agg #[.int .i64 k, .string d], .int .i64 m, .bool true])

set_option maxRecDepth 100000 in
set_option maxHeartbeats 1000000 in
theorem decodeChunk_any (s : ByteArray) (w : World) (hs : s.size ≤ 1048576) :
    Calls Try.prog 24 #[.string s] w fun e w' => e = rDc (dc s) ∧ Below w.heap.size w w' := by
  by_cases h3 : s.size < 3
  · have HR := Lib.hid (dc_1 (t := s) (by omega))
    go_enter Try.func24, Try.ntmps24
    go_wp2_with (go_at_call 62; refine (GetWord_no s _ hs h3).mono ?_; rintro e w1 ⟨rfl, k, rfl⟩)
    exact bodyPost_ret (v := .tuple #[.agg #[.int .i64 0, .string ⟨#[]⟩], .int .i64 0, .bool false]) (by simp [results, Try.results24, go_sem]) rfl ⟨by rw [HR.out]; rfl, (by with_reducible repeat (first | exact Below.refl _ _ | assumption | refine below_step ?_ (by assumption) | refine Below.drew ?_ | refine below_drewN ?_ _ | refine below_alloc ?_ _ | refine Below.setCell ?_ (by simp; try omega) _))⟩
  have hgw := fun W => GetWord_yes s W hs h3
  obtain ⟨n, hn⟩ : ∃ n, wd s 1 = n := ⟨_, rfl⟩
  have hn2 := wd_lt s 1
  rw [hn] at hgw hn2
  by_cases h8 : ¬ (n ≤ 8192 ∧ n + 5 ≤ s.size)
  · have HR := Lib.hid (dc_2 hn h8)
    clear hn
    by_cases h81 : 8192 < n
    · have g : (8192 : Int) < (n : Int) := by omega
      go_enter Try.func24, Try.ntmps24
      go_wp2_with (go_at_call 62; refine (hgw _).mono ?_; rintro e w1 ⟨rfl, k, rfl⟩)
      exact bodyPost_ret (v := .tuple #[.agg #[.int .i64 0, .string ⟨#[]⟩], .int .i64 0, .bool false]) (by simp [results, Try.results24, go_sem]) rfl ⟨by rw [HR.out]; rfl, (by with_reducible repeat (first | exact Below.refl _ _ | assumption | refine below_step ?_ (by assumption) | refine Below.drew ?_ | refine below_drewN ?_ _ | refine below_alloc ?_ _ | refine Below.setCell ?_ (by simp; try omega) _))⟩
    · have g : (n : Int) ≤ 8192 := by omega
      have g2 : (s.size : Int) < (n : Int) + 5 := by omega
      clear h8
      go_enter Try.func24, Try.ntmps24
      go_wp2_with (go_at_call 62; refine (hgw _).mono ?_; rintro e w1 ⟨rfl, k, rfl⟩)
      exact bodyPost_ret (v := .tuple #[.agg #[.int .i64 0, .string ⟨#[]⟩], .int .i64 0, .bool false]) (by simp [results, Try.results24, go_sem]) rfl ⟨by rw [HR.out]; rfl, (by with_reducible repeat (first | exact Below.refl _ _ | assumption | refine below_step ?_ (by assumption) | refine Below.drew ?_ | refine below_drewN ?_ _ | refine below_alloc ?_ _ | refine Below.setCell ?_ (by simp; try omega) _))⟩
  · obtain ⟨h81, h82⟩ : n ≤ 8192 ∧ n + 5 ≤ s.size := by omega
    clear h8
    have HN := Lib.hid hn
    clear hn
    have e0 := bt_eq s 0 (by omega)
    have b0 := bt_lt s 0
    obtain ⟨e, he⟩ : ∃ e : Nat, e = n + 3 := ⟨_, rfl⟩
    obtain ⟨e', he'⟩ : ∃ e' : Nat, e' = n + 4 := ⟨_, rfl⟩
    have f3 : IntKind.i64.wrap (3 + (n : Int)) = (e : Int) := by subst he; exact (IntWalk.i64_in _ (by omega)).trans (by omega)
    have f4 : IntKind.i64.wrap ((n : Int) + 3) = (e : Int) := by subst he; exact (IntWalk.i64_in _ (by omega)).trans (by omega)
    have f5 : IntKind.i64.wrap ((n : Int) + 4) = (e' : Int) := by subst he'; exact (IntWalk.i64_in _ (by omega)).trans (by omega)
    have f8 : IntKind.i64.wrap ((bt s 0 : Nat) : Int) = ((bt s 0 : Nat) : Int) := IntWalk.i64_in _ (by omega)
    have f0 : (0 : Int) ≤ (e : Int) := by omega
    have f1 : (3 : Int) ≤ (e : Int) := by omega
    have f2 : (e : Int) ≤ (s.size : Int) := by omega
    have f6 : e < s.size := by omega
    have f7 : e' < s.size := by omega
    have HE := Lib.hid he
    have HE' := Lib.hid he'
    clear he he'
    have hes : (s.extract 3 e).size ≤ maxLen := by rw [ByteArray.size_extract]; unfold maxLen; omega
    have hvc := fun W => impl_ValidChunk_any (bt s 0 : Int) (s.extract 3 e) W hes
    have hcc := fun W => crc16_any (s.extract 0 e) 65535 W (by rw [ByteArray.size_extract]; omega) (by omega)
    have e1 := bt_eq s e f6
    have e2 := bt_eq s e' f7
    have b1 := bt_lt s e
    have b2 := bt_lt s e'
    have ho := or_word (bt s e) (bt s e') b1 b2
    have hwd : bt s e * 256 + bt s e' = wd s e := by unfold wd; rw [show e' = e + 1 by have := HE.out; have := HE'.out; omega]
    rw [hwd] at ho
    have hw2 := wd_lt s e
    have HW := Lib.hid hwd
    clear hwd
    have HD3 := Lib.hid (fun (h5 : ¬ (okChunk (bt s 0 : Int) (s.extract 3 e) = true ∧ crcOf (s.extract 0 e) 65535 = wd s e)) => dc_3 (t := s) (n := n) HN.out (by rw [← HE.out]; exact h5))
    have HD4 := Lib.hid (fun (h5 : okChunk (bt s 0 : Int) (s.extract 3 e) = true ∧ crcOf (s.extract 0 e) 65535 = wd s e) => dc_4 (t := s) HN.out (by omega) ⟨h81, h82⟩ (by rw [← HE.out]; exact h5))
    cases hok : okChunk (bt s 0 : Int) (s.extract 3 e)
    · have HR := Lib.hid (HD3.out (fun h => by rw [hok] at h; cases h.1))
      rw [hok] at hvc
      go_enter Try.func24, Try.ntmps24
      go_wp2_with (go_at_call 62; refine (hgw _).mono ?_; rintro e w1 ⟨rfl, k, rfl⟩)
      go_region_held3 (fun W => Below w.heap.size w W) (first | exact (by with_reducible repeat (first | exact Below.refl _ _ | assumption | refine below_step ?_ (by assumption) | refine Below.drew ?_ | refine below_drewN ?_ _ | refine below_alloc ?_ _ | refine Below.setCell ?_ (by simp; try omega) _))) (fail)
      all_goals
        have D2 := ((CP.made w [.int .i64 0, .string ⟨#[]⟩] 47).dn (k + 1)).al (Obj.cells #[Value.int IntKind.i64 ((bt s 0 : Nat) : Int), Value.string (s.extract 3 e)] 47)
        have D7 := CP.made1d w (.cells #[.int .i64 0, .string ⟨#[]⟩] 47) (k + 1) [.int .i64 ((bt s 0 : Nat) : Int), .string (s.extract 3 e)] 47
        have hB : BB w (((w.alloc (Obj.cells #[Value.int IntKind.i64 0, Value.string ⟨#[]⟩] 47)).drewN (k + 1)).alloc (Obj.cells #[Value.int IntKind.i64 ((bt s 0 : Nat) : Int), Value.string (s.extract 3 e)] 47)) := show Below w.heap.size w _ from (by with_reducible repeat (first | exact Below.refl _ _ | assumption | refine below_step ?_ (by assumption) | refine Below.drew ?_ | refine below_drewN ?_ _ | refine below_alloc ?_ _ | refine Below.setCell ?_ (by simp; try omega) _))
        have F2 : ∀ j, (((w.alloc (Obj.cells #[Value.int IntKind.i64 0, Value.string ⟨#[]⟩] 47)).drewN (k + 1)).alloc (Obj.cells #[Value.int IntKind.i64 ((bt s 0 : Nat) : Int), Value.string (s.extract 3 e)] 47)).frozen? ⟨w.heap.size, j, none⟩ = false := by intro j; simp [go_sem]
        generalize (((w.alloc (Obj.cells #[Value.int IntKind.i64 0, Value.string ⟨#[]⟩] 47)).drewN (k + 1)).alloc (Obj.cells #[Value.int IntKind.i64 ((bt s 0 : Nat) : Int), Value.string (s.extract 3 e)] 47)) = wb at *
        have q0 : (_ : Option Value) = some (.int .i64 ((bt s 0 : Nat) : Int)) := D7 0 (by simp)
        have q1 : (_ : Option Value) = some (.string (s.extract 3 e)) := D7 1 (by simp)
        have G2 := D2
        have k0 := gw_cell q0
        have k1 := gw_cell q1
        have hvq := fun (p' : Regrown) => qb_below p' (hvc (Sort.grow (redrawn wb p'.d) p'.os))
        go_wp2_with fail
        refine wp_region_quiet_below (by kernel_rfl) (by kernel_rfl) ?_
        repeat (go_big_quiet_step ((with_reducible exact hvq _)))
        refine wpQuiet_nil ?_
        intro _ hw'
        obtain ⟨pq, hw''⟩ := hw'
        subst hw''
        have hx := gw_below wb pq
        generalize Sort.grow (redrawn wb pq.d) pq.os = w2 at hx ⊢
        replace D2 := D2.next hx
        replace D7 := D7.next hx
        replace hB := hB.next hx
        have z0 : (_ : Option Value) = some (.int .i64 0) := D2 0 (by simp)
        have z1 : (_ : Option Value) = some (.string ⟨#[]⟩) := D2 1 (by simp)
        have y0 : (_ : Option Value) = some (.int .i64 ((bt s 0 : Nat) : Int)) := D7 0 (by simp)
        have y1 : (_ : Option Value) = some (.string (s.extract 3 e)) := D7 1 (by simp)
        have F3 : ∀ j, w2.frozen? ⟨w.heap.size, j, none⟩ = false := fun j => (hx.frozen (p := ⟨w.heap.size, j, none⟩) (by have := hx.size; exact (cell_spot (G2 0 (by simp))).2)).trans (F2 j)
        go_wp2
        exact bodyPost_ret (v := .tuple #[.agg #[.int .i64 0, .string ⟨#[]⟩], .int .i64 0, .bool false]) (by simp [results, Try.results24, go_sem, World.cell?_setCell_other, z0, z1]) rfl ⟨by rw [HR.out]; rfl, Below.setCell (Below.setCell hB (Nat.le_refl _) _) (Nat.le_refl _) _⟩
    rw [hok] at hvc
    by_cases hcr : crcOf (s.extract 0 e) 65535 = wd s e
    · have HR := Lib.hid (HD4.out ⟨hok, hcr⟩)
      rw [hcr] at hcc
      clear hcr
      go_enter Try.func24, Try.ntmps24
      go_wp2_with (go_at_call 62; refine (hgw _).mono ?_; rintro e w1 ⟨rfl, k, rfl⟩)
      go_region_held3 (fun W => Below w.heap.size w W) (first | exact (by with_reducible repeat (first | exact Below.refl _ _ | assumption | refine below_step ?_ (by assumption) | refine Below.drew ?_ | refine below_drewN ?_ _ | refine below_alloc ?_ _ | refine Below.setCell ?_ (by simp; try omega) _))) (fail)
      all_goals
        have D2 := ((CP.made w [.int .i64 0, .string ⟨#[]⟩] 47).dn (k + 1)).al (Obj.cells #[Value.int IntKind.i64 ((bt s 0 : Nat) : Int), Value.string (s.extract 3 e)] 47)
        have D7 := CP.made1d w (.cells #[.int .i64 0, .string ⟨#[]⟩] 47) (k + 1) [.int .i64 ((bt s 0 : Nat) : Int), .string (s.extract 3 e)] 47
        have hB : BB w (((w.alloc (Obj.cells #[Value.int IntKind.i64 0, Value.string ⟨#[]⟩] 47)).drewN (k + 1)).alloc (Obj.cells #[Value.int IntKind.i64 ((bt s 0 : Nat) : Int), Value.string (s.extract 3 e)] 47)) := show Below w.heap.size w _ from (by with_reducible repeat (first | exact Below.refl _ _ | assumption | refine below_step ?_ (by assumption) | refine Below.drew ?_ | refine below_drewN ?_ _ | refine below_alloc ?_ _ | refine Below.setCell ?_ (by simp; try omega) _))
        have F2 : ∀ j, (((w.alloc (Obj.cells #[Value.int IntKind.i64 0, Value.string ⟨#[]⟩] 47)).drewN (k + 1)).alloc (Obj.cells #[Value.int IntKind.i64 ((bt s 0 : Nat) : Int), Value.string (s.extract 3 e)] 47)).frozen? ⟨w.heap.size, j, none⟩ = false := by intro j; simp [go_sem]
        generalize (((w.alloc (Obj.cells #[Value.int IntKind.i64 0, Value.string ⟨#[]⟩] 47)).drewN (k + 1)).alloc (Obj.cells #[Value.int IntKind.i64 ((bt s 0 : Nat) : Int), Value.string (s.extract 3 e)] 47)) = wb at *
        have q0 : (_ : Option Value) = some (.int .i64 ((bt s 0 : Nat) : Int)) := D7 0 (by simp)
        have q1 : (_ : Option Value) = some (.string (s.extract 3 e)) := D7 1 (by simp)
        have G2 := D2
        have k0 := gw_cell q0
        have k1 := gw_cell q1
        have hvq := fun (p' : Regrown) => qb_below p' (hvc (Sort.grow (redrawn wb p'.d) p'.os))
        have hcq := fun (p' : Regrown) => qb_same p' (hcc (Sort.grow (redrawn wb p'.d) p'.os))
        go_wp2_with fail
        refine wp_region_quiet_below (by kernel_rfl) (by kernel_rfl) ?_
        repeat (go_big_quiet_step ((first | with_reducible exact hvq _ | exact hcq _)))
        refine wpQuiet_nil ?_
        intro _ hw'
        obtain ⟨pq, hw''⟩ := hw'
        subst hw''
        have hx := gw_below wb pq
        generalize Sort.grow (redrawn wb pq.d) pq.os = w2 at hx ⊢
        replace D2 := D2.next hx
        replace D7 := D7.next hx
        replace hB := hB.next hx
        have z0 : (_ : Option Value) = some (.int .i64 0) := D2 0 (by simp)
        have z1 : (_ : Option Value) = some (.string ⟨#[]⟩) := D2 1 (by simp)
        have y0 : (_ : Option Value) = some (.int .i64 ((bt s 0 : Nat) : Int)) := D7 0 (by simp)
        have y1 : (_ : Option Value) = some (.string (s.extract 3 e)) := D7 1 (by simp)
        have F3 : ∀ j, w2.frozen? ⟨w.heap.size, j, none⟩ = false := fun j => (hx.frozen (p := ⟨w.heap.size, j, none⟩) (by have := hx.size; exact (cell_spot (G2 0 (by simp))).2)).trans (F2 j)
        go_wp2
        exact bodyPost_ret (v := .tuple #[.agg #[.int .i64 ((bt s 0 : Nat) : Int), .string (s.extract 3 e)], .int .i64 ((n + 5 : Nat) : Int), .bool true]) (by simp [results, Try.results24, go_sem, World.cell?_setCell_other, z0, z1]) rfl ⟨by rw [HR.out, ← HE.out]; rfl, Below.setCell (Below.setCell hB (Nat.le_refl _) _) (Nat.le_refl _) _⟩
    · have HR := Lib.hid (HD3.out (fun h => hcr h.2))
      have g1 : (((crcOf (s.extract 0 e) 65535 : Nat) : Int) != ((wd s e : Nat) : Int)) = true := by simp; omega
      generalize crcOf (s.extract 0 e) 65535 = y at *
      go_enter Try.func24, Try.ntmps24
      go_wp2_with (go_at_call 62; refine (hgw _).mono ?_; rintro e w1 ⟨rfl, k, rfl⟩)
      go_region_held3 (fun W => Below w.heap.size w W) (first | exact (by with_reducible repeat (first | exact Below.refl _ _ | assumption | refine below_step ?_ (by assumption) | refine Below.drew ?_ | refine below_drewN ?_ _ | refine below_alloc ?_ _ | refine Below.setCell ?_ (by simp; try omega) _))) (fail)
      all_goals
        have D2 := ((CP.made w [.int .i64 0, .string ⟨#[]⟩] 47).dn (k + 1)).al (Obj.cells #[Value.int IntKind.i64 ((bt s 0 : Nat) : Int), Value.string (s.extract 3 e)] 47)
        have D7 := CP.made1d w (.cells #[.int .i64 0, .string ⟨#[]⟩] 47) (k + 1) [.int .i64 ((bt s 0 : Nat) : Int), .string (s.extract 3 e)] 47
        have hB : BB w (((w.alloc (Obj.cells #[Value.int IntKind.i64 0, Value.string ⟨#[]⟩] 47)).drewN (k + 1)).alloc (Obj.cells #[Value.int IntKind.i64 ((bt s 0 : Nat) : Int), Value.string (s.extract 3 e)] 47)) := show Below w.heap.size w _ from (by with_reducible repeat (first | exact Below.refl _ _ | assumption | refine below_step ?_ (by assumption) | refine Below.drew ?_ | refine below_drewN ?_ _ | refine below_alloc ?_ _ | refine Below.setCell ?_ (by simp; try omega) _))
        have F2 : ∀ j, (((w.alloc (Obj.cells #[Value.int IntKind.i64 0, Value.string ⟨#[]⟩] 47)).drewN (k + 1)).alloc (Obj.cells #[Value.int IntKind.i64 ((bt s 0 : Nat) : Int), Value.string (s.extract 3 e)] 47)).frozen? ⟨w.heap.size, j, none⟩ = false := by intro j; simp [go_sem]
        generalize (((w.alloc (Obj.cells #[Value.int IntKind.i64 0, Value.string ⟨#[]⟩] 47)).drewN (k + 1)).alloc (Obj.cells #[Value.int IntKind.i64 ((bt s 0 : Nat) : Int), Value.string (s.extract 3 e)] 47)) = wb at *
        have q0 : (_ : Option Value) = some (.int .i64 ((bt s 0 : Nat) : Int)) := D7 0 (by simp)
        have q1 : (_ : Option Value) = some (.string (s.extract 3 e)) := D7 1 (by simp)
        have G2 := D2
        have k0 := gw_cell q0
        have k1 := gw_cell q1
        have hvq := fun (p' : Regrown) => qb_below p' (hvc (Sort.grow (redrawn wb p'.d) p'.os))
        have hcq := fun (p' : Regrown) => qb_same p' (hcc (Sort.grow (redrawn wb p'.d) p'.os))
        go_wp2_with fail
        refine wp_region_quiet_below (by kernel_rfl) (by kernel_rfl) ?_
        repeat (go_big_quiet_step ((first | with_reducible exact hvq _ | exact hcq _)))
        refine wpQuiet_nil ?_
        intro _ hw'
        obtain ⟨pq, hw''⟩ := hw'
        subst hw''
        have hx := gw_below wb pq
        generalize Sort.grow (redrawn wb pq.d) pq.os = w2 at hx ⊢
        replace D2 := D2.next hx
        replace D7 := D7.next hx
        replace hB := hB.next hx
        have z0 : (_ : Option Value) = some (.int .i64 0) := D2 0 (by simp)
        have z1 : (_ : Option Value) = some (.string ⟨#[]⟩) := D2 1 (by simp)
        have y0 : (_ : Option Value) = some (.int .i64 ((bt s 0 : Nat) : Int)) := D7 0 (by simp)
        have y1 : (_ : Option Value) = some (.string (s.extract 3 e)) := D7 1 (by simp)
        have F3 : ∀ j, w2.frozen? ⟨w.heap.size, j, none⟩ = false := fun j => (hx.frozen (p := ⟨w.heap.size, j, none⟩) (by have := hx.size; exact (cell_spot (G2 0 (by simp))).2)).trans (F2 j)
        go_wp2
        exact bodyPost_ret (v := .tuple #[.agg #[.int .i64 0, .string ⟨#[]⟩], .int .i64 0, .bool false]) (by simp [results, Try.results24, go_sem, World.cell?_setCell_other, z0, z1]) rfl ⟨by rw [HR.out]; rfl, Below.setCell (Below.setCell hB (Nat.le_refl _) _) (Nat.le_refl _) _⟩
end Go.Proofs.Ytjjcedodjoieoaa
