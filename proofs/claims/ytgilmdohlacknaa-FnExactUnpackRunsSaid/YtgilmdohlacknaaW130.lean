/- Walks: bytes.Repeat of one byte. -/
import Derived.Test.YtgilmdohlacknaaW10
import Derived.Test.YtgilmdohlacknaaUrM
import Derived.Test.YtgilmdohlacknaaShelf
import Derived.Lib.MakeNoZero
import Derived.Laws.CopyOwn
import Derived.Laws.Externs
import Derived.Deep.RegionLaw
import Derived.Deep.RegionWith
import Derived.StillTailTactics
namespace Go.Proofs.Ytgilmdohlacknaa
open Go.RowKit
set_option linter.unusedVariables false

theorem bc_rep (n : Nat) (x : UInt8) : bcells (List.replicate n x) = List.replicate n (Value.int .u8 (x.toNat : Int)) := by simp [bcells]
theorem rep_one {n : Nat} {v : Value} : ∀ u ∈ List.replicate n v, u = v := fun u hu => (List.mem_replicate.1 hu).2
theorem splice_rep {cur : List Value} {k m : Nat} {v : Value} (h : cur.take k = List.replicate k v) (hk : k + m ≤ cur.length) : (splice cur k (List.replicate m v)).take (k + m) = List.replicate (k + m) v := by
  have hl : (cur.take k).length = k := by rw [List.length_take]; omega
  unfold splice
  rw [List.take_append, hl, List.take_of_length_le (by rw [hl]; omega), h, Nat.add_sub_cancel_left, List.take_append, List.length_replicate, Nat.sub_self, List.take_zero, List.append_nil, List.take_of_length_le (by simp), List.replicate_append_replicate]
set_option maxRecDepth 100000 in
set_option maxHeartbeats 1000000 in
theorem Repeat1_any (x : UInt8) (n b c : Nat) (w : World) (hc : w.cell? ⟨b, 0, none⟩ = some (.int .u8 (x.toNat : Int))) (hb : b < w.heap.size) (h1 : 1 ≤ n) (hn : n ≤ 64) :
    Calls Try.prog 6 #[.slice (some ⟨b, 0, none⟩) 1 c, .int .i64 (n : Int)] w fun e w' => ∃ g, e = .returned (.slice (some ⟨g, 0, none⟩) n n) ∧ (∀ j, j < n → w'.cell? ⟨g, j, none⟩ = some (.int .u8 (x.toNat : Int))) ∧ w.heap.size ≤ g ∧ Below w.heap.size w w' := by
  have hmul : ∀ W, Calls Try.prog 7 #[.int .u64 1, .int .u64 (n : Int)] W fun e w' => e = .returned (.tuple #[.int .u64 0, .int .u64 (n : Int)]) ∧ W = w' := fun W => by
    have h := Try.bits_Mul 1 n (by decide) (by omega) W
    rw [show 1 * n / 18446744073709551616 = 0 by omega, show 1 * n % 18446744073709551616 = n by omega] at h
    exact h.mono fun _ _ ⟨a, b⟩ => ⟨a, b.symm⟩
  obtain ⟨cs, hrunM, hle, hmax⟩ := Lib.run_makeNoZero (P := Try.prog) w #[3] 25 5 Try.underlying25 n (by omega)
  have hcall : (callFunc 8 #[.int .i64 (n : Int)]).run Try.prog w = .ok (.value (.slice (some ⟨w.heap.size, 0, none⟩) n cs.size)) ((w.alloc (.cells cs 5)).drewN 2) := by
    rw [run_callFunc_extern Try.func8 (by kernel_rfl) (by kernel_rfl) (by kernel_rfl) (e := Extern.BytealgMakeNoZero.makeNoZero #[3] #[25]) (by kernel_rfl), hrunM]
    rfl
  clear hrunM
  have n0 : ¬ (n : Int) = 0 := by omega
  have n1 : ¬ (n : Int) < 0 := by omega
  have nz : ((n : Int) == 0) = false := by simp; omega
  have hwn : IntKind.u64.wrap (n : Int) = (n : Int) := IntWalk.u64_in _ (by omega)
  have hwi : IntKind.i64.wrap (n : Int) = (n : Int) := IntWalk.i64_in _ (by omega)
  have n2 : ¬ (9223372036854775807 : Int) < (n : Int) := by omega
  have n3 : ¬ (8192 : Int) < (n : Int) := by omega
  have i1 : (n : Int) ≤ (cs.size : Int) := by omega
  have W2 : ((w.alloc (.cells cs 5)).drewN 2).heap[w.heap.size]? = some (.cells cs.toList.toArray 5 (0, 0)) := by
    rw [Array.toArray_toList]
    exact heap_alloc_new w _
  have hbel : Below w.heap.size w ((w.alloc (.cells cs 5)).drewN 2) := below_drewN (below_alloc (Below.refl _ _) _) 2
  have hc2 : ((w.alloc (.cells cs 5)).drewN 2).cell? ⟨b, 0, none⟩ = some (.int .u8 (x.toNat : Int)) := (hbel.cell (p := ⟨b, 0, none⟩) hb).trans hc
  have hlen : cs.toList.length = cs.size := Array.length_toList
  have hmin1 : [Value.int .u8 (x.toNat : Int)].length = Nat.min 1 n := (Nat.min_eq_left h1).symm
  go_enter Try.func6, Try.ntmps6
  go_wp2_with (first
    | ((with_reducible show wpList _ _ _ (Oper.mk (some 60) _ _ _ _ _ :: _) _ _); go_must (refine wpList_copy_splice rfl _ _ 25 25 rfl 5 Try.underlying25 (by kernel_rfl) (some ⟨w.heap.size, 0, none⟩) (some ⟨b, 0, none⟩) n n 1 c rfl rfl w.heap.size 0 cs.toList 5 W2 [.int .u8 (x.toNat : Int)] hmin1 (fun _ => ⟨rfl, _, rfl, fun j v hj => by cases j with | zero => (simp at hj; subst hj; exact hc2) | succ j => simp at hj⟩) (by simp; omega) (by intro v hv; rw [List.mem_singleton] at hv; subst hv; rfl) w.heap.size w hbel (Nat.le_refl _) ?_); intro w3 hg3 hb3)
    | (go_at_call 7; refine (hmul _).mono ?_; rintro e w1 ⟨rfl, rfl⟩))
  have hs0 : (splice cs.toList 0 [Value.int .u8 (x.toNat : Int)]).length = cs.toList.length := length_splice _ _ _ (by simp; omega)
  have hr0 := splice_rep (cur := cs.toList) (k := 0) (m := 1) (v := .int .u8 (x.toNat : Int)) (by simp) (by omega)
  have HG3 := hg3.out
  generalize hcur0 : splice cs.toList 0 [Value.int .u8 (x.toNat : Int)] = cur0 at *
  rw [show List.replicate 1 (Value.int .u8 (x.toNat : Int)) = [Value.int .u8 (x.toNat : Int)] from rfl, hcur0] at hr0
  have HR0 := Lib.hid hr0
  have hcl0 : n ≤ cur0.length := by omega
  have hv1 : (Value.int .u8 (x.toNat : Int)).oneCell' = true := rfl
  generalize hv : Value.int .u8 (x.toNat : Int) = v at *
  have HVX := Lib.hid hv
  clear hv
  clear hg3 hr0 hcur0 hs0 hc2 W2 hbel
  go_loopw [10] (fun bp wr => ∃ (k : Nat) (cur : List Value), 1 ≤ k ∧ k ≤ n ∧ bp = .int .i64 (k : Int) ∧ wr.heap[w.heap.size]? = some (.cells cur.toArray 5 (0, 0)) ∧ n ≤ cur.length ∧ Hid (cur.take k = List.replicate k v) ∧ Below w.heap.size w wr) (fun bp _ => n - (intOf bp).toNat)
  case atStart => exact ⟨1, cur0, Nat.le_refl _, h1, rfl, HG3, hcl0, Lib.hid (HR0.out), hb3⟩
  case round =>
    clear HG3 hb3
    obtain ⟨k, cur, k1, kn, rfl, hcur, hcl, HT, hB⟩ := hrel
    have hcell : ∀ j, j < k → wr.cell? ⟨w.heap.size, j, none⟩ = some v := fun j hj => by
      rw [cell_of_row wr w.heap.size j cur.toArray 5 (0, 0) hcur]
      have h2 : (cur.take k)[j]? = some v := by rw [HT.out]; simp [hj]
      rw [List.getElem?_take, if_pos hj] at h2
      simpa using h2
    by_cases hlt : k < n
    · obtain ⟨m, hm⟩ : ∃ m, Nat.min k (n - k) = m := ⟨_, rfl⟩
      have hm2 : m ≤ k ∧ m ≤ n - k ∧ 1 ≤ m := by
        rw [← hm]
        refine ⟨Nat.min_le_left _ _, Nat.min_le_right _ _, ?_⟩
        exact Nat.le_min.2 ⟨k1, by omega⟩
      obtain ⟨m1, m2, m3⟩ := hm2
      have hlti : (k : Int) < (n : Int) := by omega
      have hmin : min (k : Int) (n : Int) = (k : Int) := by omega
      have hkni : (k : Int) ≤ (n : Int) := by omega
      have e1 : ¬ n = k := by omega
      have e2 : ¬ k = n := by omega
      have hwk : IntKind.i64.wrap ((k : Int) + (m : Int)) = ((k + m : Nat) : Int) := by rw [← Int.natCast_add]; exact IntWalk.i64_in _ (by omega)
      have hs1 : (splice cur k (List.replicate m v)).length = cur.length := length_splice _ _ _ (by rw [List.length_replicate]; omega)
      have hr1 := splice_rep (m := m) HT.out (by omega)
      have HS1 := Lib.hid hs1
      have HR1 := Lib.hid hr1
      have HM := Lib.hid hm
      have hcurd : wr.drew.heap[w.heap.size]? = some (.cells cur.toArray 5 (0, 0)) := hcur
      have hBd : Below w.heap.size w wr.drew := Below.drew hB
      have HK := Lib.hid (show k + m ≤ n ∧ k < k + m from ⟨by omega, by omega⟩)
      have hsrc : ∀ j u, (List.replicate m v)[j]? = some u → wr.drew.cell? ((⟨w.heap.size, 0, none⟩ : Addr).add j) = some u := fun j u hj => by
        have hjm : j < m := by have := (List.getElem?_eq_some_iff.1 hj).1; simpa using this
        have hu : u = v := by simpa [hjm] using hj.symm
        rw [hu]
        have h3 : (⟨w.heap.size, 0, none⟩ : Addr).add j = ⟨w.heap.size, j, none⟩ := by
          unfold Addr.add
          split
          · rename_i h0; rw [h0]
          · simp
        rw [h3]
        exact hcell j (by omega)
      have hnm : (List.replicate m v).length = Nat.min k (n - k) := by rw [List.length_replicate, HM.out]
      have hfit : k + (List.replicate m v).length ≤ cur.length := by rw [List.length_replicate]; omega
      have hone : ∀ u ∈ List.replicate m v, u.oneCell' = true := by intro u hu; rw [rep_one u hu]; exact hv1
      have hrun := run_copy_row (P := Try.prog) wr.drew 25 25 3 5 w.heap.size k (n - k) (n - k) ⟨w.heap.size, 0, none⟩ k n cur.toArray 5 (List.replicate m v) Try.underlying25 (by kernel_rfl) hcurd hnm hsrc (by simpa using hfit) hone
      have hset : (wr.drew.setRow w.heap.size (cur.toArray.toList.take k ++ List.replicate m v ++ cur.toArray.toList.drop (k + (List.replicate m v).length)).toArray).heap[w.heap.size]? = some (.cells (splice cur k (List.replicate m v)).toArray 5 (0, 0)) := by
        rw [setRow_heap wr.drew w.heap.size cur.toArray _ 5 _ hcurd]
        simp [splice]
      have hBs : Below w.heap.size w (wr.drew.setRow w.heap.size (cur.toArray.toList.take k ++ List.replicate m v ++ cur.toArray.toList.drop (k + (List.replicate m v).length)).toArray) := below_setRow hBd (Nat.le_refl _) _
      rw [List.length_replicate] at hrun hset hBs
      generalize wr.drew.setRow w.heap.size (cur.toArray.toList.take k ++ List.replicate m v ++ cur.toArray.toList.drop (k + m)).toArray = w4 at hrun hset hBs
      have HG4 := Lib.hid hset
      have HKW := Lib.hid hwk
      clear hs1 hr1 hm hsrc hnm hfit hone hset hcurd hBd hcur hcell
      go_wp2
      go_region_with (fail)
      all_goals
        simp only [Act.put, List.getElem_toArray, List.getElem_cons_succ, List.getElem_cons_zero, List.setIfInBounds_toArray, List.set_cons_succ, List.set_cons_zero]
        go_wp2
        go_roundw
        case rel => exact ⟨k + m, splice cur k (List.replicate m v), by omega, HK.out.1, by first | rfl | (simp; done), HG4.out, by rw [HS1.out]; exact hcl, Lib.hid HR1.out, hBs⟩
        case measure => (have := HK.out; simp [intOf]; omega)
    · obtain rfl : k = n := by omega
      go_wp2
      go_ret
      exact ⟨_, rfl, fun j hj => by rw [HVX.out]; exact hcell j hj, Nat.le_refl _, hB⟩
end Go.Proofs.Ytgilmdohlacknaa
