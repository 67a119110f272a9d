/- Plain: a text cut by the library; walks: decimals (impl). -/
import Derived.Test.YthelfgagddldfaaGreatDoorR6
import Derived.Test.YthelfgagddldfaaGreatDoorShelf3
import Derived.Lib.SplitLaws
import Derived.Lib.CountLaws
import Derived.Lib.AtoiErrMem
import Derived.Lib.ParseIntBTie
namespace Go.Proofs.YthelfgagddldfaaGreatDoor
open Go.RowKit Go.Lib
set_option linter.unusedVariables false
set_option linter.unusedSimpArgs false

theorem idx_ge (l : List UInt8) : -1 ≤ index l [32] := by
  induction l with
  | nil => decide
  | cons b l ih =>
    unfold index
    split
    · decide
    · split
      · decide
      · omega
theorem idx_cons (b : UInt8) (l : List UInt8) : index (b :: l) [32] = if b = 32 then 0 else if index l [32] = -1 then -1 else index l [32] + 1 := by
  conv => lhs; unfold index
  by_cases h : b = 32
  · subst h
    rfl
  · rw [if_neg h]
    have : List.isPrefixOf [(32 : UInt8)] (b :: l) = false := by
      simp only [List.isPrefixOf, Bool.and_true, beq_eq_false_iff_ne]
      exact fun e => h e.symm
    rw [this]
    simp
theorem idx_no : ∀ l : List UInt8, index l [32] = -1 → ∀ b ∈ l, b ≠ 32
  | [], _, b, hb => by cases hb
  | c :: l, h, b, hb => by
    rw [idx_cons] at h
    split at h
    · cases h
    · rename_i hc
      split at h
      · rename_i h2
        rcases List.mem_cons.1 hb with rfl | hb
        · exact hc
        · exact idx_no l h2 b hb
      · have := idx_ge l
        omega
theorem idx_at : ∀ (l : List UInt8) (i : Nat), index l [32] = (i : Int) → ∃ hi : i < l.length, l[i] = 32 ∧ ∀ b ∈ l.take i, b ≠ 32
  | [], i, h => by
    have : index [] [32] = -1 := rfl
    rw [this] at h
    omega
  | c :: l, i, h => by
    rw [idx_cons] at h
    split at h
    · rename_i hc
      have : i = 0 := by omega
      subst this
      exact ⟨by simp, hc, fun b hb => by simp at hb⟩
    · rename_i hc
      split at h
      · omega
      · have hg := idx_ge l
        obtain ⟨j, rfl⟩ : ∃ j, i = j + 1 := ⟨i - 1, by omega⟩
        obtain ⟨hj, h1, h2⟩ := idx_at l j (by omega)
        refine ⟨by simp; omega, by rw [List.getElem_cons_succ]; exact h1, fun b hb => ?_⟩
        rw [List.take_succ_cons] at hb
        rcases List.mem_cons.1 hb with rfl | hb
        · exact hc
        · exact h2 b hb
theorem splB_wd : ∀ (k : Nat) (s : ByteArray), countB s ⟨#[32]⟩ = k → splitB ⟨#[32]⟩ 0 k s = wdL s.data.toList
  | k, s, hk => by
    by_cases h : indexB s ⟨#[32]⟩ = -1
    · rw [splitB_miss _ _ _ _ h, wdL, splL_no _ (idx_no s.data.toList h)]
      rfl
    · have hg := idx_ge s.data.toList
      have hib : indexB s ⟨#[32]⟩ = index s.data.toList [32] := rfl
      obtain ⟨i, hi⟩ : ∃ i : Nat, indexB s ⟨#[32]⟩ = (i : Int) := ⟨(indexB s ⟨#[32]⟩).toNat, by omega⟩
      have hc := countB_hit s ⟨#[32]⟩ i (by decide) hi
      have hs1 : (⟨#[32]⟩ : ByteArray).size = 1 := rfl
      rw [hs1] at hc
      obtain ⟨k', rfl⟩ : ∃ k', k = k' + 1 := ⟨k - 1, by omega⟩
      rw [splitB_hit _ _ _ _ i hi, hs1, splB_wd k' _ (by omega)]
      obtain ⟨hil, h1, h2⟩ := idx_at s.data.toList i (by rw [← hib]; exact hi)
      have e := wdL_at (a := 0) hil (Nat.zero_le _) h1 (by rw [List.drop_zero, Nat.sub_zero]; exact h2)
      rw [List.drop_zero, Nat.sub_zero] at e
      rw [e, ext_mk, extract_to_end]
      rfl
theorem below_gw {w : World} (k : Nat) (os : Array Obj) : Below w.heap.size w (Go.Sort.grow (w.drewN k) os) := ⟨rfl, rfl, rfl, by simp [Go.Sort.grow, World.drewN], fun j hj => Go.Sort.heap_grow_old (w.drewN k) os hj⟩
/-- What the package's variables hold. -/
structure GW (w : World) : Prop where
  tab : Lib.TabIs Tryz.prog w "internal/strconv.uint64pow10" .u64 Lib.pow10Tab
  es : ∃ te pe, w.cell? ⟨5, 0, none⟩ = some (.iface te pe)
  er : ∃ te pe, w.cell? ⟨6, 0, none⟩ = some (.iface te pe)
  ml : ∃ m, w.cell? ⟨1, 0, none⟩ = some (.int .i64 m)
  fw : ∀ k, (hk : k < kwB.length) → w.cell? ⟨0, k, none⟩ = some (.string kwB[k])
  lt : 9 ≤ w.heap.size
theorem tabG : ∃ g, Tryz.prog.globalNamed "internal/strconv.uint64pow10" = some g ∧ g < 9 := ⟨2, by kernel_rfl, by decide⟩
theorem GW.next {w w' : World} {B : Nat} (h : GW w) (hx : Below B w w') (hB : 9 ≤ B) : GW w' := by
  obtain ⟨g, hg, hg9⟩ := tabG
  refine ⟨?_, ?_, ?_, ?_, ?_, Nat.le_trans h.lt hx.size⟩
  · have := h.tab
    unfold Lib.TabIs World.var? at this ⊢
    rw [hg] at this ⊢
    show (match w'.heap[g]? with | some (.cells cs _ _) => some cs | _ => none) = _
    rw [hx.block g (by omega)]
    exact this
  · obtain ⟨te, pe, h1⟩ := h.es
    exact ⟨te, pe, (Below.cell hx (p := ⟨5, 0, none⟩) (by show 5 < B; omega)).trans h1⟩
  · obtain ⟨te, pe, h1⟩ := h.er
    exact ⟨te, pe, (Below.cell hx (p := ⟨6, 0, none⟩) (by show 6 < B; omega)).trans h1⟩
  · obtain ⟨m, h1⟩ := h.ml
    exact ⟨m, (Below.cell hx (p := ⟨1, 0, none⟩) (by show 1 < B; omega)).trans h1⟩
  · intro k hk
    exact (Below.cell hx (p := ⟨0, k, none⟩) (by show 0 < B; omega)).trans (h.fw k hk)
theorem GW.bb {w w' : World} (h : GW w) (hx : BB w w') : GW w' := h.next hx h.lt
set_option maxHeartbeats 1000000 in
theorem decimal_any (n : Int) (w : World) (h0 : -9223372036854775808 ≤ n) (h1 : n ≤ 9223372036854775807) (G : GW w) : Calls Tryz.prog 18 #[.int .i64 n] w fun e w' => e = .returned (.string (mkR (itoa n))) ∧ Below w.heap.size w w' := by
  have con := Tryz.strconv_FormatInt_10 n h0 h1 w G.tab
  clear G
  go_enter Tryz.func18, Tryz.ntmps18
  go_wp2_with (go_at_call 37; (with_reducible refine con.mono ?_); rintro e w2 ⟨rfl, k, os, rfl⟩)
  go_ret
  exact ⟨rfl, below_gw k os⟩
theorem readD_ok {t : List UInt8} {v : Int} (h : parseIntB 64 t = .ok v) : readD t = if itoa v = t then some v else none := by rw [readD, h]
set_option maxRecDepth 100000 in
set_option maxHeartbeats 2000000 in
theorem readDecimal_any (t : ByteArray) (w : World) (ht : t.size ≤ 1048576) (G : GW w) : Calls Tryz.prog 33 #[.string t] w fun e w' => ((∃ v, readD t.data.toList = some v ∧ -9223372036854775808 ≤ v ∧ v ≤ 9223372036854775807 ∧ e = .returned (.tuple #[.int .i64 v, .bool true])) ∨ (readD t.data.toList = none ∧ e = .returned (.tuple #[.int .i64 0, .bool false]))) ∧ Below w.heap.size w w' := by
  have hb : ∀ v, parseIntB 64 t.data.toList = .ok v → -9223372036854775808 ≤ v ∧ v ≤ 9223372036854775807 := fun v h => by
    have := parseIntB_bounds h
    have e : (2 : Nat) ^ (64 - 1) = 9223372036854775808 := by decide
    rw [e] at this
    omega
  have hok := fun v h W => Tryz.strconv_ParseInt_10_at64_ok t (by omega) v h W
  obtain ⟨te, pe, hes⟩ := G.es
  obtain ⟨te2, pe2, her⟩ := G.er
  have hsy := fun h => Any.strconv_ParseInt_10_at64_syntax Tryz.laysC174 t (by omega) h (.iface te pe) w hes (Or.inr ⟨te, pe, rfl⟩)
  have hra := fun h => Tryz.strconv_ParseInt_10_at64_range t (by omega) h (.iface te2 pe2) w her (Or.inr ⟨te2, pe2, rfl⟩)
  have hro := fun v h => readD_ok (t := t.data.toList) (v := v) h
  have hrn : (∀ v, parseIntB 64 t.data.toList ≠ .ok v) → readD t.data.toList = none := fun h => by
    unfold readD
    split
    · rename_i v hv
      exact absurd hv (h v)
    · rfl
  have HT := Lib.hid (bl_mk t)
  generalize t.data.toList = tl at *
  have GX := Lib.hid G
  clear G hes her
  cases hp : parseIntB 64 tl with
  | ok v =>
    have hv := hb v hp
    have con := hok v hp w
    have hr := hro v hp
    replace con : Calls Tryz.prog 56 #[.string t, .int .i64 10, .int .i64 64] w fun e w' => e = .returned (.tuple #[.int .i64 v, .nilIface]) ∧ Below w.heap.size w w' := con.mono fun e w' ⟨h1, h2⟩ => ⟨h1, by
      rcases h2 with rfl | ⟨s, rfl⟩
      · exact Below.refl _ _
      · exact bytesWorld_below _ _ _⟩
    have dc := fun W (hx : Below w.heap.size w W) => decimal_any v W hv.1 hv.2 (GX.out.bb hx)
    have hcm : ((mkR (itoa v)).toList == t.toList) = decide (itoa v = tl) := by rw [HT.out]; exact mkR_eq _ _
    have HV := Lib.hid hv
    clear hok hsy hra hro hrn hb hp hv
    by_cases he : itoa v = tl
    · rw [decide_eq_true he] at hcm
      have hcn : ((mkR (itoa v)).toList != t.toList) = false := by rw [bne, hcm]; rfl
      have HR := Lib.hid (hr.trans (if_pos he))
      generalize mkR (itoa v) = D at dc hcm hcn
      clear hr he
      go_enter Tryz.func33, Tryz.ntmps33
      go_wp2_with (first
        | (go_at_call 56; (with_reducible refine con.mono ?_); rintro e w2 ⟨rfl, hx2⟩; have dc2 := dc _ hx2; have hB2 : BB w w2 := hx2)
        | (go_at_call 18; (with_reducible refine dc2.mono ?_); rintro e w3 ⟨rfl, hx3⟩; have hB3 : BB w w3 := BB.next hB2 hx3))
      (try simp only [Exit.inBlock, Exit.then])
      refine bodyPost_ret (results_tmp2 rfl _ _ _) rfl ?_
      exact ⟨Or.inl ⟨v, HR.out, HV.out.1, HV.out.2, rfl⟩, hB3⟩
    · rw [decide_eq_false he] at hcm
      have hcn : ((mkR (itoa v)).toList != t.toList) = true := by rw [bne, hcm]; rfl
      have HR := Lib.hid (hr.trans (if_neg he))
      generalize mkR (itoa v) = D at dc hcm hcn
      clear hr he
      go_enter Tryz.func33, Tryz.ntmps33
      go_wp2_with (first
        | (go_at_call 56; (with_reducible refine con.mono ?_); rintro e w2 ⟨rfl, hx2⟩; have dc2 := dc _ hx2; have hB2 : BB w w2 := hx2)
        | (go_at_call 18; (with_reducible refine dc2.mono ?_); rintro e w3 ⟨rfl, hx3⟩; have hB3 : BB w w3 := BB.next hB2 hx3))
      (try simp only [Exit.inBlock, Exit.then])
      refine bodyPost_ret (results_tmp2 rfl _ _ _) rfl ?_
      exact ⟨Or.inr ⟨HR.out, rfl⟩, hB3⟩
  | _ =>
    have con : Calls Tryz.prog 56 #[.string t, .int .i64 10, .int .i64 64] w fun e w' => ∃ (x : Int) (tp : TypeId) (N : Nat), e = .returned (.tuple #[.int .i64 x, .iface tp (.pointer (some ⟨N, 0, none⟩))]) ∧ Below w.heap.size w w' := by
      first
        | exact (hsy hp).mono fun e w' ⟨N, h1, _, _, h4⟩ => ⟨_, _, N, h1, h4⟩
        | exact (hra hp).mono fun e w' ⟨N, h1, _, _, h4⟩ => ⟨_, _, N, h1, h4⟩
    have HR := Lib.hid (hrn fun v e => by rw [hp] at e; cases e)
    clear hok hsy hra hro hrn hb hp
    go_enter Tryz.func33, Tryz.ntmps33
    go_wp2_with (go_at_call 56; (with_reducible refine con.mono ?_); rintro e w2 ⟨x, tp, N, rfl, hx2⟩; have hB2 : BB w w2 := hx2)
    (try simp only [Exit.inBlock, Exit.then])
    refine bodyPost_ret (results_tmp2 rfl _ _ _) rfl ?_
    exact ⟨Or.inr ⟨HR.out, rfl⟩, hB2⟩
end Go.Proofs.YthelfgagddldfaaGreatDoor
