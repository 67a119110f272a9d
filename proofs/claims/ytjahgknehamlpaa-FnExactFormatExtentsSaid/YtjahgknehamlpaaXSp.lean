/- Walks: splitBlocks: bytes cut into strings of one length. -/
import Derived.Test.YtjahgknehamlpaaXCh
import Derived.Test.YtjahgknehamlpaaMem4
import Derived.Test.YtjahgknehamlpaaSString
namespace Go.Proofs.Ytjahgknehamlpaa
open Go.RowKit Go.Shelf Go.Proofs

attribute [local go_sem] Oper.semAt_some

theorem infoS : (Try.prog.info? 9).map (fun i => (i.zero, i.size, i.bytes)) = some (some (.string ByteArray.empty), 1, 16) := by kernel_rfl
/-- Chunk k of these bytes. -/
def chk (q : List UInt8) (z k : Nat) : ByteArray := ⟨((q.drop (k * z)).take z).toArray⟩
def chkV (q : List UInt8) (z : Nat) {nb : Nat} (pre : List (Fin nb)) : List Value := pre.map fun x => Value.string (chk q z x.val)
theorem chkV_snoc (q : List UInt8) (z : Nat) {nb : Nat} (pre : List (Fin nb)) (x : Fin nb) : chkV q z (pre ++ [x]) = chkV q z pre ++ [.string (chk q z x.val)] := by simp [chkV]

set_option maxRecDepth 100000 in
set_option maxHeartbeats 2000000 in
theorem splitBlocks_in (F : Fence) (n : Nat) (h3 : F.fn 60) (h4 : F.fn 86) (h5 : F.fn 108) (hro : F.round = none) (hn : 3 ≤ n) (b nb z cap len : Nat) (q : List UInt8) (hql : q.length = len) (hz : 1 ≤ z) (hlen : nb * z = len) (hsm : len ≤ 1000000) (hcap : len ≤ cap) (hcm : cap ≤ 200000000) (w : World) (hb : b < w.heap.size)
    (hc : ∀ (j : Nat) (hj : j < q.length), w.cell? ⟨b, j, none⟩ = some (.int .u8 (q[j].toNat : Int))) :
    CallsIn F n Try.prog 60 #[.slice (some ⟨b, 0, none⟩) len cap, .int .i64 z] w fun e W' => ∃ v, e = .returned v ∧ W'.ownsRow w.heap.size 9 1 v nb (chkV q z (List.finRange nb)) ∧ Below w.heap.size w W' := by
  have h1 : 1 ≤ n := by omega
  obtain ⟨i0, hi, hz0, hz1, hz2⟩ := info_parts infoS
  refine callsIn_of_wp_marks Try.func60 rfl h3 ?_ hro
  simp only [Try.ntmps60, List.size_toArray, List.length_cons, List.length_nil, Nat.reduceAdd, Nat.reduceSub, Array.replicate_succ, Array.replicate_zero, List.push_toArray, List.append_toArray, List.nil_append, List.cons_append]
  gi_wp2_with (gi_at_call 86; refine (chunk_in F (n - 1) h4 hro b len cap z hz _).mono ?_; rintro e w' ⟨rfl, rfl⟩)
  have bO := Boxed.new w 36 (.slice none 0 0)
  have bS := Boxed.new (w.alloc (.cells #[.slice none 0 0] 36)) 22 (.slice (some ⟨b, 0, none⟩) len cap)
  have bN := Boxed.new ((w.alloc (.cells #[.slice none 0 0] 36)).alloc (.cells #[.slice (some ⟨b, 0, none⟩) len cap] 22)) 3 (.int .i64 z)
  rw [World.size_alloc] at bS
  rw [World.size_alloc, World.size_alloc] at bN
  replace bO := (bO.alloc (.cells #[.slice (some ⟨b, 0, none⟩) len cap] 22)).alloc (.cells #[.int .i64 z] 3)
  replace bS := bS.alloc (.cells #[.int .i64 z] 3)
  have hB0 : Below w.heap.size w (((w.alloc (.cells #[.slice none 0 0] 36)).alloc (.cells #[.slice (some ⟨b, 0, none⟩) len cap] 22)).alloc (.cells #[.int .i64 z] 3)) := (((Below.refl _ w).alloc (Nat.le_refl _) _).alloc (by simp) _).alloc (by simp; omega) _
  refine wpIn_rangeFunc_ownG hro h1 (gf := 108) (lb := #[.pointer (some ⟨w.heap.size + 1, 0, none⟩), .pointer (some ⟨w.heap.size + 1 + 1, 0, none⟩)]) rfl h5 (enters_of Try.func108 (by kernel_rfl) rfl)
    (chunk_stops F (n - 1) h5 hro (by omega) (w.heap.size + 1) (w.heap.size + 1 + 1) b nb z cap len hz hlen (by omega) hcap hcm _ (by simp) (by simp) bS.cell bN.cell) kpC_t kpC_b (Below.refl _ _) (fun _ => rfl)
    (fun pre W => (∃ v, Boxed W w.heap.size 36 v ∧ W.ownsRow w.heap.size 9 1 v pre.length (chkV q z pre) ∧ True) ∧ ((Boxed W (w.heap.size + 1) 22 (.slice (some ⟨b, 0, none⟩) len cap) ∧ Boxed W (w.heap.size + 1 + 1) 3 (.int .i64 z)) ∧ Below w.heap.size w W))
    (fun _ _ _ => False)
    (OwnFrom.and (Own.from (holdsRow_own w.heap.size w.heap.size 36 9 1 (fun pre => pre.length) (fun pre => chkV q z pre) (fun _ _ => True)) _)
      (OwnFrom.and (Own.from (fun s X Y row hs hg hr => ⟨hs.1.kept hg (fun e' => by obtain ⟨o, ho, hc⟩ := hr _ e'.symm; rw [show X.heap[w.heap.size + 1]? = _ from hs.1] at ho; cases ho; cases hc), hs.2.kept hg (fun e' => by obtain ⟨o, ho, hc⟩ := hr _ e'.symm; rw [show X.heap[w.heap.size + 1 + 1]? = _ from hs.2] at ho; cases ho; cases hc)⟩) _) (ownFrom_below (Nat.le_refl _) (by simp; omega))))
    (fun _ _ _ _ _ hs _ _ => hs)
    ⟨⟨_, bO, World.ownsRow_nil _ _ _ _, trivial⟩, ⟨bS, bN⟩, hB0⟩
    (fun x => { tmps := #[.slice (some ⟨b, 0, none⟩) len cap, .int .i64 z, undef, undef, .slice none 0 0, .pointer (some ⟨w.heap.size, 0, none⟩), .slice (some ⟨b, x.val * z, none⟩) z z, .slice (some ⟨b, 0, none⟩) len cap, .int .i64 z, .func (.func 108) #[] #[.pointer (some ⟨w.heap.size + 1, 0, none⟩), .pointer (some ⟨w.heap.size + 1 + 1, 0, none⟩)], .slice (some ⟨b, x.val * z, none⟩) z z, undef, undef, undef, undef, undef, undef], defers := [] }) ?assign ?body ?done ?stop
  case assign =>
    intro l x W K hK
    gi_wp2
    exact hK
  case body =>
    rintro l pre x W ⟨⟨v, hv, hrow, -⟩, ⟨hS, hN⟩, hB⟩ hlt
    have hcc := hv.cell
    have hkx : (x.val + 1) * z ≤ nb * z := Nat.mul_le_mul_right z x.isLt
    rw [Nat.succ_mul, hlen] at hkx
    have hq2 : ((q.drop (x.val * z)).take z).length = z := by rw [List.length_take, List.length_drop]; omega
    have hcv : (convert 22 9 (.slice (some ⟨b, x.val * z, none⟩) z z)).run Try.prog W = .ok (.string (chk q z x.val)) W := by
      have h := run_convert_bytes_back (P := Try.prog) W 22 9 5 ⟨b, x.val * z, none⟩ z ((q.drop (x.val * z)).take z) Try.underlying22 Try.underlying5 Try.underlying9 (fun j hj => by
        have hj2 : j < z := by rw [← hq2]; exact hj
        have hj3 : x.val * z + j < q.length := by omega
        have e : (⟨b, x.val * z, none⟩ : Addr).add j = ⟨b, x.val * z + j, none⟩ := by
          unfold Addr.add
          split
          · rename_i h0; rw [h0]; rfl
          · rfl
        rw [e, (hB.cell (p := ⟨b, x.val * z + j, none⟩) hb).trans (hc _ hj3)]
        simp)
      rw [hq2] at h
      exact h
    generalize x.val * z = off at hcv ⊢
    have hpl : pre.length ≤ 1000000 := by have : nb * 1 ≤ nb * z := Nat.mul_le_mul_left nb hz; omega
    have hwB := hB.size
    gi_wp2_with (gi_at_builtin; refine wpListIn_append_own _ rfl _ _ 36 rfl w.heap.size 9 i0 (.string ByteArray.empty) 1 16 Try.underlying36 hi hz0 hz1 hz2 rfl (by decide) _ _ _ rfl (hrow.alloc _) ⟨W.heap.size, 0, none⟩ 1 1 [.string (chk q z x.val)] rfl rfl (cell_one_new _ _ _) (by simp [Value.oneCell']) (by unfold maxLen; omega) (by omega) (by simp; omega) ?_; intro v' w1 hown' hgrow _; obtain ⟨g', cap', rfl⟩ := ownsRow_succ hown'; obtain ⟨hv1, hv2, hr2, hk2, hb2⟩ := hv.appended (by decide) hrow hB.size (Nat.le_refl _) hown' hgrow; have hc1 := hv1.cell; have hf1 := hv1.frozen; have hS1 := ((hS.alloc _).kept hgrow (hS.not_row (by decide) hrow)).kept (grownBy_setCell' w1 w.heap.size (.slice (some ⟨g', 0, none⟩) (pre.length + 1) cap')) (by simp); have hN1 := ((hN.alloc _).kept hgrow (hN.not_row (by decide) hrow)).kept (grownBy_setCell' w1 w.heap.size (.slice (some ⟨g', 0, none⟩) (pre.length + 1) cap')) (by simp; omega))
    exact ⟨hk2.from _, ⟨fun _ => hS1.cell, fun _ => hN1.cell⟩, ⟨_, hv2, by rw [chkV_snoc, List.length_append]; exact hr2, trivial⟩, ⟨hS1, hN1⟩, hB.trans hb2⟩
  case done =>
    rintro D ys W hD rfl ⟨⟨v, hv, hrow, -⟩, -, hB⟩ hK
    have hcc := hv.cell
    gi_wp2
    refine ⟨by simp, .inl ⟨_, _, rfl, run_takeDeferred hK, ?_⟩⟩
    have hr3 := ownsRow_putObj hrow (.deferred none) hK rfl
    rw [List.length_finRange] at hr3
    exact ⟨_, results_tmp rfl _ _ _, v, rfl, hr3, hB.trans (belowK_b (w := w) (Nat.le_refl _) W D _ _ (by simp at hD; omega) hK rfl rfl)⟩
  case stop =>
    rintro D c pre W _ _ h _
    exact h.elim
theorem splitBlocks_any (b nb z cap len : Nat) (q : List UInt8) (hql : q.length = len) (hz : 1 ≤ z) (hlen : nb * z = len) (hsm : len ≤ 1000000) (hcap : len ≤ cap) (hcm : cap ≤ 200000000) (w : World) (hb : b < w.heap.size)
    (hc : ∀ (j : Nat) (hj : j < q.length), w.cell? ⟨b, j, none⟩ = some (.int .u8 (q[j].toNat : Int))) :
    Calls Try.prog 60 #[.slice (some ⟨b, 0, none⟩) len cap, .int .i64 z] w fun e W' => ∃ v, e = .returned v ∧ W'.ownsRow w.heap.size 9 1 v nb (chkV q z (List.finRange nb)) ∧ Below w.heap.size w W' :=
  (callsIn_wide (n := 3)).1 (splitBlocks_in Fence.wide 3 trivial trivial trivial rfl (by omega) b nb z cap len q hql hz hlen hsm hcap hcm w hb hc)
end Go.Proofs.Ytjahgknehamlpaa
