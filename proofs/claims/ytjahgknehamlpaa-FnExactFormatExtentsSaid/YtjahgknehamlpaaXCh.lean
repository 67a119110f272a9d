/- Walks: slices.Chunk over bytes; splitBlocks. -/
import Derived.RangeFuncBox
import Derived.RangeFuncLeaves
import Derived.Shelf.Abstract
import Derived.WalkKit
import Derived.OwnWalkIn
import Derived.TacticsInMore
import Derived.LoopNIn
import Derived.LoopIn
import Derived.Maps.AppendAt
import Derived.BigRegionIn
import Derived.Test.YtjahgknehamlpaaStep
import Derived.Test.YtjahgknehamlpaaMem3
import Derived.Test.YtjahgknehamlpaaW10
namespace Go.Proofs.Ytjahgknehamlpaa
open Go.RowKit Go.Shelf Go.Proofs

attribute [local go_sem] Oper.semAt_some

def KpC (Bs Bn : Nat) (sv nv : Value) (W W' : World) : Prop := (W.cell? ⟨Bs, 0, none⟩ = some sv → W'.cell? ⟨Bs, 0, none⟩ = some sv) ∧ (W.cell? ⟨Bn, 0, none⟩ = some nv → W'.cell? ⟨Bn, 0, none⟩ = some nv)
theorem kpC_t {Bs Bn : Nat} {sv nv : Value} {A B C : World} (h : KpC Bs Bn sv nv A B) (k : KpC Bs Bn sv nv B C) : KpC Bs Bn sv nv A C := ⟨fun x => k.1 (h.1 x), fun x => k.2 (h.2 x)⟩
theorem kpC_b {Bs Bn : Nat} {sv nv : Value} {m : Nat} (W : World) (l : Nat) (o o' : Obj) (_ : m ≤ l) (h : W.heap[l]? = some o) (ho : o.isCells = false) (_ : o.isWalk = false) : KpC Bs Bn sv nv W (W.putObj l o') :=
  ⟨fun x => cell_kept x (grownBy_putObj' W l o') (fun r e => by cases e; exact ⟨o, h, ho⟩), fun x => cell_kept x (grownBy_putObj' W l o') (fun r e => by cases e; exact ⟨o, h, ho⟩)⟩
theorem fr_take (nb k : Nat) (h : k < nb) : (List.finRange nb).take (k + 1) = (List.finRange nb).take k ++ [⟨k, h⟩] := by
  rw [List.take_succ_eq_append_getElem (by simpa using h)]
  simp

set_option maxRecDepth 100000 in
set_option maxHeartbeats 2000000 in
theorem chunk1_in (F : Fence) (n : Nat) (hf : F.fn 108) (hro : F.round = none) (hn : 1 ≤ n) (l Bs Bn b nb z cap len : Nat) (hz : 1 ≤ z) (hlen : nb * z = len) (hsm : len ≤ 100000000) (hcap : len ≤ cap) (hcm : cap ≤ 200000000) (J Jx : List (Fin nb) → World → Prop)
    (hY : ∀ pre (x : Fin nb) W, J pre W → pre.length < nb → YieldAt F (n - 1) Try.prog l #[.slice (some ⟨b, x.val * z, none⟩) z z] W fun e W' =>
      (e = .returned (.bool true) ∧ J (pre ++ [x]) W' ∧ KpC Bs Bn (.slice (some ⟨b, 0, none⟩) len cap) (.int .i64 z) W W') ∨ (e = .returned (.bool false) ∧ Jx (pre ++ [x]) W'))
    (W : World) (hJ : AbidesFrom W.heap.size J) (hBs : W.cell? ⟨Bs, 0, none⟩ = some (.slice (some ⟨b, 0, none⟩) len cap)) (hBn : W.cell? ⟨Bn, 0, none⟩ = some (.int .i64 z)) (h0 : J [] W) :
    CallsIn F n Try.prog 108 #[.func (.yield l) #[] #[], .pointer (some ⟨Bs, 0, none⟩), .pointer (some ⟨Bn, 0, none⟩)] W fun e W' => (∃ v, e = .returned v) ∧
      ((∃ ys, ys = List.finRange nb ∧ J ys W') ∨ (∃ pre, True ∧ Jx pre W')) := by
  refine callsIn_of_wp Try.func108 rfl hf ?_ hro
  simp only [Try.ntmps108, List.size_toArray, List.length_cons, List.length_nil, Nat.reduceAdd, Nat.reduceSub, Array.replicate_succ, Array.replicate_zero, List.push_toArray, List.append_toArray, List.nil_append, List.cons_append]
  gi_wp2
  gi_loopw [4] (fun p wr => ∃ (k i : Nat), p = .int .i64 (i : Int) ∧ k ≤ nb ∧ Hid (k * z = i) ∧ J ((List.finRange nb).take k) wr ∧ wr.cell? ⟨Bs, 0, none⟩ = some (.slice (some ⟨b, 0, none⟩) len cap) ∧ wr.cell? ⟨Bn, 0, none⟩ = some (.int .i64 z)) (fun p _ => len + z - (intOf p).toNat)
  case atStart => exact ⟨0, 0, rfl, Nat.zero_le _, Lib.hid (Nat.zero_mul z), h0, hBs, hBn⟩
  case round =>
    obtain ⟨k, i, rfl, hk, HI, hJs, hb1, hb2⟩ := hrel
    by_cases hlt : k < nb
    · have hm : (k + 1) * z ≤ nb * z := Nat.mul_le_mul_right z hlt
      rw [Nat.succ_mul, HI.out, hlen] at hm
      have hil : (i : Int) < (len : Int) := by omega
      have hJd : J ((List.finRange nb).take k) wr.drew := hJ _ _ _ none hJs (only_drew (World.grownBy.refl wr none)) (by simp)
      obtain ⟨fn, tmps, assign, body, hy, hR⟩ := hY _ ⟨k, hlt⟩ wr.drew hJd (by rw [List.length_take, List.length_finRange]; omega)
      dsimp only at hy
      rw [HI.out] at hy
      have hile : i ≤ len := by omega
      have hmz : ¬ len - i < z := by omega
      have hwi : IntKind.i64.wrap ((i : Int) + z) = ((i + z : Nat) : Int) := by rw [IntWalk.i64_in _ (by omega)]; omega
      have hic : i + z ≤ cap := by omega
      have hii : i ≤ i + z := by omega
      have hsub : i + z - i = z := by omega
      gi_wp2
      gi_region
      all_goals gi_wp2
      all_goals
        refine hR.mono ?_
        rintro e W3 (⟨rfl, hJ3, hk3⟩ | ⟨rfl, hJx3⟩)
        · have c1 := hk3.1 hb1
          have c2 := hk3.2 hb2
          gi_wp2
          go_roundw
          case rel => exact ⟨k + 1, i + z, by simp, by omega, Lib.hid (by rw [Nat.succ_mul, HI.out]), by rw [fr_take nb k hlt]; exact hJ3, c1, c2⟩
          case measure => simp [intOf]; omega
        · gi_wp2
          refine bodyPost_ret (results_none rfl _ _ _) rfl ?_
          exact ⟨⟨_, rfl⟩, .inr ⟨_, trivial, hJx3⟩⟩
    · obtain rfl : k = nb := by omega
      obtain rfl : len = i := hlen.symm.trans HI.out
      gi_wp2
      go_end0
      exact ⟨⟨_, rfl⟩, .inl ⟨_, rfl, by rw [List.take_of_length_le (by simp)] at hJs; exact hJs⟩⟩

set_option maxHeartbeats 1000000 in
theorem chunk_in (F : Fence) (n : Nat) (hf : F.fn 86) (hro : F.round = none) (b len cap z : Nat) (hz : 1 ≤ z) (w : World) :
    CallsIn F n Try.prog 86 #[.slice (some ⟨b, 0, none⟩) len cap, .int .i64 z] w fun e w' => e = .returned (.func (.func 108) #[] #[.pointer (some ⟨w.heap.size, 0, none⟩), .pointer (some ⟨w.heap.size + 1, 0, none⟩)]) ∧ w' = (w.alloc (.cells #[.slice (some ⟨b, 0, none⟩) len cap] 22)).alloc (.cells #[.int .i64 z] 3) := by
  refine callsIn_of_wp Try.func86 rfl hf ?_ hro
  simp only [Try.ntmps86, List.size_toArray, List.length_cons, List.length_nil, Nat.reduceAdd, Nat.reduceSub, Array.replicate_succ, Array.replicate_zero, List.push_toArray, List.append_toArray, List.nil_append, List.cons_append]
  have h1 : ¬ (z : Int) < 1 := by omega
  gi_wp2
  go_ret
  exact ⟨rfl, rfl⟩
theorem chunk_stops (F : Fence) (n : Nat) (hf : F.fn 108) (hro : F.round = none) (hn : 1 ≤ n) (Bs Bn b nb z cap len : Nat) (hz : 1 ≤ z) (hlen : nb * z = len) (hsm : len ≤ 100000000) (hcap : len ≤ cap) (hcm : cap ≤ 200000000) (w : World) (hBs : Bs < w.heap.size) (hBn : Bn < w.heap.size)
    (c1 : w.cell? ⟨Bs, 0, none⟩ = some (.slice (some ⟨b, 0, none⟩) len cap)) (c2 : w.cell? ⟨Bn, 0, none⟩ = some (.int .i64 z)) :
    SeqStopsK F n Try.prog 108 #[.pointer (some ⟨Bs, 0, none⟩), .pointer (some ⟨Bn, 0, none⟩)] (fun x : Fin nb => #[Value.slice (some ⟨b, x.val * z, none⟩) z z]) (KpC Bs Bn (.slice (some ⟨b, 0, none⟩) len cap) (.int .i64 z)) (fun ys => ys = List.finRange nb) (fun _ => True) nb w := fun l J Jx W hW hJ _ hY h0 =>
  chunk1_in F n hf hro hn l Bs Bn b nb z cap len hz hlen hsm hcap hcm J Jx hY W hJ ((hW.cell (p := ⟨Bs, 0, none⟩) hBs).trans c1) ((hW.cell (p := ⟨Bn, 0, none⟩) hBn).trans c2) h0
end Go.Proofs.Ytjahgknehamlpaa
