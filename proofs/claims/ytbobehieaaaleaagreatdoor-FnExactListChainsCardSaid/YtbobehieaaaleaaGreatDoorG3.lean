/- Walks: ListChains. -/
import Derived.Test.YtbobehieaaaleaaGreatDoorG2
import Derived.Test.YtbobehieaaaleaaGreatDoorN2
import Derived.Test.YtbobehieaaaleaaGreatDoorShelf
namespace Go.Proofs.YtbobehieaaaleaaGreatDoor
open Go.RowKit
set_option linter.unusedVariables false

/-- The names of the used ones among the first k entries. -/
def usedN (J : List UInt8) (D z k : Nat) : List ByteArray := ((List.range k).filter fun i => (ceE (cRaw J D z i)).b3).map fun i => (ceE (cRaw J D z i)).nm
def okTo (J : List UInt8) (D z k : Nat) : Bool := (List.range k).all fun i => cOk (cRaw J D z i)
theorem usedN_0 (J : List UInt8) (D z : Nat) : usedN J D z 0 = [] := rfl
theorem usedN_y {J : List UInt8} {D z k : Nat} {e : CE} (he : ceE (cRaw J D z k) = e) (h : e.b3 = true) : usedN J D z (k + 1) = usedN J D z k ++ [e.nm] := by
  subst he
  simp [usedN, List.range_succ, List.filter_append, h]
theorem usedN_n {J : List UInt8} {D z k : Nat} {e : CE} (he : ceE (cRaw J D z k) = e) (h : e.b3 = false) : usedN J D z (k + 1) = usedN J D z k := by
  subst he
  simp [usedN, List.range_succ, List.filter_append, h]
theorem usedN_len (J : List UInt8) (D z k : Nat) : (usedN J D z k).length ≤ k := by
  rw [usedN, List.length_map]
  exact Nat.le_trans (List.length_filter_le _ _) (Nat.le_of_eq List.length_range)
theorem okTo_y {J : List UInt8} {D z k : Nat} (h : okTo J D z k = true) (g : cOk (cRaw J D z k) = true) : okTo J D z (k + 1) = true := by
  simp only [okTo, List.range_succ, List.all_append, List.all_cons, List.all_nil, Bool.and_true, Bool.and_eq_true]
  exact ⟨h, g⟩
theorem okTo_n {J : List UInt8} {D z k E : Nat} (hk : k < E) (g : cOk (cRaw J D z k) = false) : okTo J D z E = false := by
  rw [okTo, List.all_eq_false]
  exact ⟨k, List.mem_range.2 hk, by rw [g]; decide⟩
/-- The code and the names that ListChains answers. -/
def lcC (l : List ByteArray) : Int := if chC l = 0 then (if okTo (jn l) (chD l.length (s0 l)) (s0 l) (chE l.length) then 0 else 7) else chC l
def lcL (l : List ByteArray) : List ByteArray := if chC l = 0 then (if okTo (jn l) (chD l.length (s0 l)) (s0 l) (chE l.length) then sortN (usedN (jn l) (chD l.length (s0 l)) (s0 l) (chE l.length)) else []) else []
theorem lc_1 {l : List ByteArray} (h : chC l ≠ 0) : lcC l = chC l ∧ lcL l = [] := by simp only [lcC, lcL, if_neg h, and_self]
theorem lc_2 {l : List ByteArray} {J : List UInt8} {D z E : Nat} (h : chC l = 0) (hJ : jn l = J) (hD : chD l.length (s0 l) = D) (hz : s0 l = z) (hE : chE l.length = E) (g : okTo J D z E = false) : lcC l = 7 ∧ lcL l = [] := by
  subst hJ hz hE hD
  simp only [lcC, lcL, if_pos h, g, Bool.false_eq_true, if_false, and_self]
theorem lc_3 {l : List ByteArray} {J : List UInt8} {D z E : Nat} (h : chC l = 0) (hJ : jn l = J) (hD : chD l.length (s0 l) = D) (hz : s0 l = z) (hE : chE l.length = E) (g : okTo J D z E = true) : lcC l = 0 ∧ lcL l = sortN (usedN J D z E) := by
  subst hJ hz hE hD
  simp only [lcC, lcL, if_pos h, g, if_true, and_self]
theorem sortN_kb (l : List ByteArray) : (sortN l).map kb = (l.map kb).mergeSort fun x y => decide (x ≤ y) := by
  rw [sortN, List.map_map, show kb ∘ mkb = id from funext fun x => rfl, List.map_id]
theorem sortN_len (l : List ByteArray) : (sortN l).length = l.length := (sortN_perm l).length_eq
theorem lcL_len (l : List ByteArray) : (lcL l).length ≤ 16 := by
  unfold lcL
  split
  · split
    · rw [sortN_len]
      exact Nat.le_trans (usedN_len _ _ _ _) (chE_le _)
    · exact Nat.zero_le _
  · exact Nat.zero_le _
/-- An open disk of chains and a row of names of the call's own. -/
structure SC (w W : World) (B0 g bb off n : Nat) (LY : List Value) (J : List UInt8) (v : Value) (L : List ByteArray) : Prop where
  D : CP W g LY
  R : Rd W B0 1 (some ⟨bb, off, none⟩) n (bcells J)
  O : W.ownsRow B0 9 1 v L.length (flat fS L)
  Bw : BB w W
  hB : B0 ≤ W.heap.size
  hg : g < B0
  h0 : w.heap.size ≤ B0
section
variable {w W W' : World} {B0 g bb off n : Nat} {LY : List Value} {J : List UInt8} {v : Value} {L : List ByteArray}
theorem SC.al (H : SC w W B0 g bb off n LY J v L) (o : Obj) : SC w (W.alloc o) B0 g bb off n LY J v L := ⟨CP.al H.D o, Rd.alloc H.R H.hB o, World.ownsRow.alloc H.O o, BB.al H.Bw o, by rw [World.size_alloc]; have := H.hB; omega, H.hg, H.h0⟩
theorem SC.next (H : SC w W B0 g bb off n LY J v L) (hx : Below W.heap.size W W') : SC w W' B0 g bb off n LY J v L := ⟨CP.next H.D hx, Rd.below H.R (hx.mono H.hB), own_later H.O hx (Nat.le_refl _), BB.next H.Bw hx, Nat.le_trans H.hB hx.size, H.hg, H.h0⟩
theorem SC.row (H : SC w W B0 g bb off n LY J v L) (hx : Below B0 W W') {v' : Value} {L' : List ByteArray} (O : W'.ownsRow B0 9 1 v' L'.length (flat fS L')) : SC w W' B0 g bb off n LY J v' L' := ⟨fun j hj => (Below.cell hx (p := ⟨g, j, none⟩) H.hg).trans (H.D j hj), Rd.below H.R hx, O, Below.trans H.Bw (hx.mono H.h0), Nat.le_trans H.hB hx.size, H.hg, H.h0⟩
theorem SC.rr (H : SC w W B0 g bb off n LY J v L) : RR W 1 (some ⟨bb, off, none⟩) n (bcells J) := Rd.more H.R H.hB
end

set_option maxRecDepth 100000 in
set_option maxHeartbeats 8000000 in
theorem spec_ListChains_any (A : Option Addr) (cp : Nat) (l : List ByteArray) (w : World) (h : Rd w w.heap.size 1 A l.length (flat fS l)) (hn : l.length ≤ 1048576) :
    Calls Tryz.prog 5 #[.slice A l.length cp] w fun e w' => ∃ v, e = .returned (.tuple #[v, .int .i64 (lcC l)]) ∧ w'.ownsRow w.heap.size 9 1 v (lcL l).length (flat fS (lcL l)) ∧ Below w.heap.size w w' := by
  have con := l16OpenC_any A cp l w h hn
  by_cases hch : chC l = 0
  rotate_left
  · have HR := Lib.hid (lc_1 hch)
    replace con : Calls Tryz.prog 11 #[.slice A l.length cp] w fun r w1 => r = .returned (.tuple #[.pointer none, .int .i64 (chC l)]) ∧ Below w.heap.size w w1 := by
      refine con.mono ?_
      rintro r w1 ⟨pv, rfl, hx, -, hno⟩
      rw [hno hch]
      exact ⟨rfl, hx⟩
    have hcb : (chC l != 0) = true := by simpa using hch
    generalize chC l = code at con hcb HR
    clear hch
    go_enter Tryz.func5, Tryz.ntmps5
    go_wp2_with (go_at_call 11; (with_reducible refine con.mono ?_); rintro r w1 ⟨rfl, hx1⟩)
    (try simp only [Exit.inBlock, Exit.then])
    refine bodyPost_ret (results_tmp2 rfl _ _ _) rfl ?_
    exact ⟨_, by first | (rw [HR.out.1]; rfl) | rw [HR.out.1], by rw [HR.out.2]; exact World.ownsRow_nil _ _ _ _, hx1⟩
  obtain ⟨n8, n128, s3, hall⟩ := blk_yes (chC_yes hch).1
  have hjn : (jn l).length = l.length * s0 l := jn_len l (s0 l) hall
  have hj0 : 0 < (jn l).length ∧ (jn l).length ≤ 4096 := by
    rw [hjn]
    rcases s3 with e | e | e <;> rw [e] <;> omega
  replace con := con.mono fun r w1 => (fun ⟨pv, e, hx, hy, _⟩ => by
    obtain ⟨g, a, c, e2, D, R, hc⟩ := hy hch
    obtain ⟨bb, off, e3, hb, _⟩ := R.2 (by omega)
    subst e2 e3
    rw [hch] at e
    exact ⟨g, bb, off, c, e, hx, D, R, hc⟩ : _ → ∃ g bb off c, r = .returned (.tuple #[.pointer (some ⟨g, 0, none⟩), .int .i64 0]) ∧ Below w.heap.size w w1 ∧ CP w1 g [.int .i64 (l.length : Int), .int .i64 (s0 l : Int), .int .i64 (chE l.length : Int), .int .i64 (chD l.length (s0 l) : Int), .int .i64 (chX l.length (s0 l) : Int), .slice (some ⟨bb, off, none⟩) (jn l).length c] ∧ RR w1 1 (some ⟨bb, off, none⟩) (jn l).length (bcells (jn l)) ∧ (jn l).length ≤ c)
  have hrm := fun k (hk : k < chE l.length) => ch_room n8 s3 hk
  rw [← hjn] at hrm
  clear hall hjn
  have hEle := chE_le l.length
  obtain ⟨D, hD⟩ : ∃ D, chD l.length (s0 l) = D := ⟨_, rfl⟩
  obtain ⟨z, hz⟩ : ∃ z, s0 l = z := ⟨_, rfl⟩
  obtain ⟨E, hE⟩ : ∃ E, chE l.length = E := ⟨_, rfl⟩
  obtain ⟨J, hJ⟩ : ∃ J, jn l = J := ⟨_, rfl⟩
  have H2 := Lib.hid (fun g => lc_2 hch hJ hD hz hE g)
  have H3 := Lib.hid (fun g => lc_3 hch hJ hD hz hE g)
  rw [hD, hE, hJ] at con
  rw [hD, hE, hJ] at hrm
  rw [hE] at hEle
  rw [hJ] at hj0
  rw [hz] at con hrm
  generalize chX l.length z = X at con
  obtain ⟨n, hn⟩ : ∃ n, J.length = n := ⟨_, rfl⟩
  rw [hn] at con hrm hj0
  have HRM := Lib.hid hrm
  clear hn hD hz hE hJ hch s3 hrm n8
  go_enter Tryz.func5, Tryz.ntmps5
  go_upto_region 4 with (go_at_call 11; (with_reducible refine con.mono ?_); rintro r w1 ⟨g, bb, off, c, rfl, hx1, D1, R1, hnc⟩)
  clear con
  have hg1 : g < w1.heap.size := (cell_spot (D1 0 (by simp))).2
  have H0 : SC w (w1.alloc (.cells #[] 9)) w1.heap.size g bb off n [.int .i64 (l.length : Int), .int .i64 (z : Int), .int .i64 (E : Int), .int .i64 (D : Int), .int .i64 (X : Int), .slice (some ⟨bb, off, none⟩) n c] J (.slice (some ⟨w1.heap.size, 0, none⟩) 0 0) [] := ⟨CP.al D1 _, Rd.alloc R1 (Nat.le_refl _) _, own_lit0 w1 w1.heap.size (Nat.le_refl _), BB.al hx1 _, by rw [World.size_alloc]; omega, hg1, hx1.size⟩
  clear D1 R1
  go_wp2_with fail
  generalize hW1 : w1.alloc (.cells #[] 9) = w2 at H0 ⊢
  generalize w1.heap.size = B0 at H0 ⊢
  clear hW1 hg1 hx1
  go_loopw [6, 7] (fun v i wr => ∃ (k g6 c6 : Nat) (L : List ByteArray), i = .int .i64 (k : Int) ∧ k ≤ E ∧ v = .slice (some ⟨g6, 0, none⟩) L.length c6 ∧ L.length ≤ k ∧ Hid (L = (usedN J D z k).foldl insN [] ∧ okTo J D z k = true) ∧ SC w wr B0 g bb off n [.int .i64 (l.length : Int), .int .i64 (z : Int), .int .i64 (E : Int), .int .i64 (D : Int), .int .i64 (X : Int), .slice (some ⟨bb, off, none⟩) n c] J v L) (fun _ i _ => E - (intOf i).toNat)
  case atStart => exact ⟨0, _, _, [], rfl, Nat.zero_le _, rfl, Nat.zero_le _, Lib.hid ⟨rfl, rfl⟩, H0⟩
  case round =>
    clear H0
    obtain ⟨k, g6, c6, L, rfl, hk, rfl, hLk, HI, H⟩ := hrel
    by_cases hlt : k < E
    · have hlti : (k : Int) < (E : Int) := by omega
      have hd : decide ((k : Int) < (E : Int)) = true := decide_eq_true hlti
      have d2 : (_ : Option Value) = some (.int .i64 (E : Int)) := H.D 2 (by simp)
      have at1 := l16Ent_any g l.length z E D X bb off n c J k wr H.D H.rr (HRM.out k hlt) hj0.2 hnc
      have HN := fun h => okTo_n (J := J) (D := D) (z := z) hlt h
      have HO := fun h => okTo_y HI.out.2 h
      obtain ⟨e, he⟩ : ∃ e, ceE (cRaw J D z k) = e := ⟨_, rfl⟩
      have HY := usedN_y he
      have HZ := usedN_n he
      rw [he] at at1
      clear he
      generalize cOk (cRaw J D z k) = ok at at1 HN HO
      cases ok
      · have HR := Lib.hid (H2.out (HN rfl))
        clear HN HO HY HZ
        go_wp2_with (go_at_call 12; (with_reducible refine at1.mono ?_); rintro r w3 ⟨rfl, hx3⟩; have H4 := H.next hx3)
        (try simp only [Exit.inBlock, Exit.then])
        refine bodyPost_ret (results_tmp2 rfl _ _ _) rfl ?_
        exact ⟨_, by first | (rw [HR.out.1]; rfl) | rw [HR.out.1], by rw [HR.out.2]; exact World.ownsRow_nil _ _ _ _, (BB.al H4.Bw _)⟩
      · have HOK := HO rfl
        cases hb : e.b3
        · have HU := Lib.hid (show L = (usedN J D z (k + 1)).foldl insN [] ∧ okTo J D z (k + 1) = true from ⟨by rw [HZ hb]; exact HI.out.1, HOK⟩)
          rw [hb] at at1
          clear HN HO HY HZ HOK hb
          go_wp2_with (go_at_call 12; (with_reducible refine at1.mono ?_); rintro r w3 ⟨rfl, hx3⟩; have H4 := H.next hx3)
          go_roundw
          case rel => exact ⟨k + 1, g6, c6, L, by go_num, by omega, rfl, by omega, HU, H4.al _⟩
          case measure => simp [intOf]; omega
        · have HU := Lib.hid (show insN L e.nm = (usedN J D z (k + 1)).foldl insN [] ∧ okTo J D z (k + 1) = true from ⟨by rw [HY hb, List.foldl_append]; rw [← HI.out.1]; rfl, HOK⟩)
          have hil : (insN L e.nm).length = L.length + 1 := by rw [(insN_perm e.nm L).length_eq]; rfl
          have HIL := Lib.hid hil
          rw [hb] at at1
          have hL16 : L.length ≤ 1000 := by omega
          have hc6 : L.length ≤ c6 := own_capX H.O
          have st := fun (W : World) (H9 : SC w W B0 g bb off n [.int .i64 (l.length : Int), .int .i64 (z : Int), .int .i64 (E : Int), .int .i64 (D : Int), .int .i64 (X : Int), .slice (some ⟨bb, off, none⟩) n c] J (.slice (some ⟨g6, 0, none⟩) L.length c6) L) (h9 : g6 < W.heap.size) => l16Sorted_any g6 c6 L e.nm W (RR.own H9.O) h9 hc6 hL16
          clear HN HO HY HZ HOK hb hil
          go_wp2_with (first
            | (go_at_call 12; (with_reducible refine at1.mono ?_); rintro r w3 ⟨rfl, hx3⟩; have H4 := H.next hx3; have st4 := fun (o : Obj) (h9 : g6 < (w3.alloc o).heap.size) => st (w3.alloc o) (H4.al o) h9; have hg6 := (World.ownsRow.lt H4.O g6 rfl).2)
            | (go_at_call 13; (with_reducible refine (st4 _ (by rw [World.size_alloc]; omega)).mono ?_); rintro r w5 ⟨g7, c7, rfl, O7, hx7⟩; have H7 := (SC.next (H4.al _) hx7); have HS := H7.row (Below.refl _ _) (own_base O7 (H4.al _).hB)))
          go_roundw
          case rel => exact ⟨k + 1, g7, c7, insN L e.nm, by go_num, by omega, rfl, by have := HIL.out; omega, HU, HS⟩
          case measure => simp [intOf]; omega
    · have hlti : ¬ (k : Int) < (E : Int) := by omega
      have hd : decide ((k : Int) < (E : Int)) = false := decide_eq_false hlti
      have d2 : (_ : Option Value) = some (.int .i64 (E : Int)) := H.D 2 (by simp)
      have hkE : k = E := by omega
      have HR := Lib.hid (show lcC l = 0 ∧ lcL l = L by
        have h1 := HI.out.2
        rw [hkE] at h1
        have h2 := H3.out h1
        rw [HI.out.1, fold_sort, hkE]
        exact h2)
      clear hkE
      go_wp2_with fail
      (try simp only [Exit.inBlock, Exit.then])
      refine bodyPost_ret (results_tmp2 rfl _ _ _) rfl ?_
      exact ⟨_, by first | (rw [HR.out.1]; rfl) | rw [HR.out.1], by rw [HR.out.2]; exact own_base H.O H.h0, H.Bw⟩
set_option maxRecDepth 100000 in
set_option maxHeartbeats 8000000 in
theorem impl_ListChains_any (A : Option Addr) (cp : Nat) (l : List ByteArray) (w : World) (h : Rd w w.heap.size 1 A l.length (flat fS l)) (hn : l.length ≤ 1048576) (hcp : l.length ≤ cp) :
    Calls Tryz.prog 7 #[.slice A l.length cp] w fun e w' => ∃ v, e = .returned (.tuple #[v, .int .i64 (lcC l)]) ∧ w'.ownsRow w.heap.size 9 1 v (lcL l).length (flat fS (lcL l)) ∧ Below w.heap.size w w' := by
  have con := openChainsC_any A cp l w h hn hcp
  by_cases hch : chC l = 0
  rotate_left
  · have HR := Lib.hid (lc_1 hch)
    replace con : Calls Tryz.prog 14 #[.slice A l.length cp] w fun r w1 => r = .returned (.tuple #[.pointer none, .int .i64 (chC l)]) ∧ Below w.heap.size w w1 := by
      refine con.mono ?_
      rintro r w1 ⟨pv, rfl, hx, -, hno⟩
      rw [hno hch]
      exact ⟨rfl, hx⟩
    have hcb : (chC l != 0) = true := by simpa using hch
    generalize chC l = code at con hcb HR
    clear hch
    go_enter Tryz.func7, Tryz.ntmps7
    go_wp2_with (go_at_call 14; (with_reducible refine con.mono ?_); rintro r w1 ⟨rfl, hx1⟩)
    (try simp only [Exit.inBlock, Exit.then])
    refine bodyPost_ret (results_tmp2 rfl _ _ _) rfl ?_
    exact ⟨_, by first | (rw [HR.out.1]; rfl) | rw [HR.out.1], by rw [HR.out.2]; exact World.ownsRow_nil _ _ _ _, hx1⟩
  obtain ⟨n8, n128, s3, hall⟩ := blk_yes (chC_yes hch).1
  have hjn : (jn l).length = l.length * s0 l := jn_len l (s0 l) hall
  have hj0 : 0 < (jn l).length ∧ (jn l).length ≤ 4096 := by
    rw [hjn]
    rcases s3 with e | e | e <;> rw [e] <;> omega
  replace con := con.mono fun r w1 => (fun ⟨pv, e, hx, hy, _⟩ => by
    obtain ⟨g, a, c, e2, D, R, hc⟩ := hy hch
    obtain ⟨bb, off, e3, hb, _⟩ := R.2 (by omega)
    subst e2 e3
    rw [hch] at e
    exact ⟨g, bb, off, c, e, hx, D, R, hc⟩ : _ → ∃ g bb off c, r = .returned (.tuple #[.pointer (some ⟨g, 0, none⟩), .int .i64 0]) ∧ Below w.heap.size w w1 ∧ CP w1 g [.int .i64 (l.length : Int), .int .i64 (s0 l : Int), .int .i64 (chE l.length : Int), .int .i64 (chD l.length (s0 l) : Int), .int .i64 (chX l.length (s0 l) : Int), .slice (some ⟨bb, off, none⟩) (jn l).length c] ∧ RR w1 1 (some ⟨bb, off, none⟩) (jn l).length (bcells (jn l)) ∧ (jn l).length ≤ c)
  have hrm := fun k (hk : k < chE l.length) => ch_room n8 s3 hk
  rw [← hjn] at hrm
  clear hall hjn
  have hEle := chE_le l.length
  obtain ⟨D, hD⟩ : ∃ D, chD l.length (s0 l) = D := ⟨_, rfl⟩
  obtain ⟨z, hz⟩ : ∃ z, s0 l = z := ⟨_, rfl⟩
  obtain ⟨E, hE⟩ : ∃ E, chE l.length = E := ⟨_, rfl⟩
  obtain ⟨J, hJ⟩ : ∃ J, jn l = J := ⟨_, rfl⟩
  have H2 := Lib.hid (fun g => lc_2 hch hJ hD hz hE g)
  have H3 := Lib.hid (fun g => lc_3 hch hJ hD hz hE g)
  rw [hD, hE, hJ] at con
  rw [hD, hE, hJ] at hrm
  rw [hE] at hEle
  rw [hJ] at hj0
  rw [hz] at con hrm
  generalize chX l.length z = X at con
  obtain ⟨n, hn⟩ : ∃ n, J.length = n := ⟨_, rfl⟩
  rw [hn] at con hrm hj0
  have HRM := Lib.hid hrm
  clear hn hD hz hE hJ hch s3 hrm n8
  go_enter Tryz.func7, Tryz.ntmps7
  go_upto_region 4 with (go_at_call 14; (with_reducible refine con.mono ?_); rintro r w1 ⟨g, bb, off, c, rfl, hx1, D1, R1, hnc⟩)
  clear con
  have hg1 : g < w1.heap.size := (cell_spot (D1 0 (by simp))).2
  have H0 : SC w w1 w1.heap.size g bb off n [.int .i64 (l.length : Int), .int .i64 (z : Int), .int .i64 (E : Int), .int .i64 (D : Int), .int .i64 (X : Int), .slice (some ⟨bb, off, none⟩) n c] J (.slice none 0 0) [] := ⟨D1, R1, World.ownsRow_nil _ _ _ _, hx1, Nat.le_refl _, hg1, hx1.size⟩
  have d2 : (_ : Option Value) = some (.int .i64 (E : Int)) := D1 2 (by simp)
  go_wp2_with fail
  clear D1 R1 d2
  obtain ⟨B0, hB0⟩ : ∃ B0, w1.heap.size = B0 := ⟨_, rfl⟩
  rw [hB0] at H0
  clear hB0 hg1 hx1
  go_loopw [6, 23] (fun v i wr => ∃ (k : Nat) (A6 : Option Addr) (c6 : Nat) (L : List ByteArray), i = .int .i64 (k : Int) ∧ k ≤ E ∧ v = .slice A6 L.length c6 ∧ L.length ≤ k ∧ Hid (L = usedN J D z k ∧ okTo J D z k = true) ∧ SC w wr B0 g bb off n [.int .i64 (l.length : Int), .int .i64 (z : Int), .int .i64 (E : Int), .int .i64 (D : Int), .int .i64 (X : Int), .slice (some ⟨bb, off, none⟩) n c] J v L) (fun _ i _ => E - (intOf i).toNat)
  case atStart => exact ⟨0, none, 0, [], rfl, Nat.zero_le _, rfl, Nat.zero_le _, Lib.hid ⟨rfl, rfl⟩, H0⟩
  case round =>
    clear H0
    obtain ⟨k, A6, c6, L, rfl, hk, rfl, hLk, HI, H⟩ := hrel
    by_cases hlt : k < E
    · have hlti : (k : Int) < (E : Int) := by omega
      have hd : decide ((k : Int) < (E : Int)) = true := decide_eq_true hlti
      have at1 := chEnt_any g l.length z E D X bb off n c J k wr H.D H.rr (HRM.out k hlt) hj0.2 hnc
      have HN := fun h => okTo_n (J := J) (D := D) (z := z) hlt h
      have HO := fun h => okTo_y HI.out.2 h
      obtain ⟨e, he⟩ : ∃ e, ceE (cRaw J D z k) = e := ⟨_, rfl⟩
      have HY := usedN_y he
      have HZ := usedN_n he
      rw [he] at at1
      clear he
      generalize cOk (cRaw J D z k) = ok at at1 HN HO
      cases ok
      · have HR := Lib.hid (H2.out (HN rfl))
        clear HN HO HY HZ
        go_wp2_with (go_at_call 15; (with_reducible refine at1.mono ?_); rintro r w3 ⟨rfl, hx3⟩; have H4 := H.next hx3)
        (try simp only [Exit.inBlock, Exit.then])
        refine bodyPost_ret (results_tmp2 rfl _ _ _) rfl ?_
        exact ⟨_, by first | (rw [HR.out.1]; rfl) | rw [HR.out.1], by rw [HR.out.2]; exact World.ownsRow_nil _ _ _ _, (BB.al H4.Bw _)⟩
      · have HOK := HO rfl
        cases hb : e.b3
        · have HU := Lib.hid (show L = usedN J D z (k + 1) ∧ okTo J D z (k + 1) = true from ⟨by rw [HZ hb]; exact HI.out.1, HOK⟩)
          rw [hb] at at1
          clear HN HO HY HZ HOK hb
          go_wp2_with (go_at_call 15; (with_reducible refine at1.mono ?_); rintro r w3 ⟨rfl, hx3⟩; have H4 := H.next hx3)
          go_roundw
          case rel => exact ⟨k + 1, A6, c6, L, by go_num, by omega, rfl, by omega, HU, H4.al _⟩
          case measure => simp [intOf]; omega
        · have HU := Lib.hid (show L ++ [e.nm] = usedN J D z (k + 1) ∧ okTo J D z (k + 1) = true from ⟨by rw [HY hb, ← HI.out.1], HOK⟩)
          have HIL := Lib.hid (show (L ++ [e.nm]).length = L.length + 1 by rw [List.length_append]; rfl)
          rw [hb] at at1
          have hL16 : L.length ≤ 100000000 := by omega
          clear HN HO HY HZ HOK hb
          go_wp2_with (first
            | (go_at_call 15; (with_reducible refine at1.mono ?_); rintro r w3 ⟨rfl, hx3⟩; have H4 := H.next hx3; have O4 := fun (o : Obj) => (H4.al o).O; have hz4 := fun (o : Obj) => (H4.al o).hB)
            | (at_builtin; go_must (refine wpList_appF (f := fS) rfl (.tmp 36) (.tmp 39) 22 rfl eltStr (by decide) _ L rfl (O4 _) _ _ e.nm 1 (by rw [World.size_alloc]; rfl) (by rfl) rfl (fun u hu => by simp only [fS, List.mem_cons, List.not_mem_nil, or_false] at hu; subst hu; rfl) hL16 (hz4 _) ?_); intro v5 w5 O5 hg5 hat5 hb5; obtain ⟨A5, c5, rfl⟩ := own_form O5; have HS := (H4.al _).row hb5 O5))
          go_roundw
          case rel => exact ⟨k + 1, A5, c5, L ++ [e.nm], by go_num, by omega, by rw [HIL.out], by have := HIL.out; omega, HU, by have h9 := HS; rw [HIL.out] at h9; exact h9⟩
          case measure => simp [intOf]; omega
    · have hlti : ¬ (k : Int) < (E : Int) := by omega
      have hd : decide ((k : Int) < (E : Int)) = false := decide_eq_false hlti
      have hkE : k = E := by omega
      have HR := Lib.hid (show lcC l = 0 ∧ lcL l = sortN L by
        have h1 := HI.out.2
        rw [hkE] at h1
        have h2 := H3.out h1
        rw [HI.out.1, hkE]
        exact h2)
      clear hkE
      rcases H.O.2 with ⟨hv, h0⟩ | ⟨g6, cap, cur, hv, hbase, hb, h1, h2, h3, h4⟩
      · have hL : L = [] := List.eq_nil_of_length_eq_zero h0
        subst hL
        cases hv
        have HR := Lib.hid (show lcC l = 0 ∧ lcL l = [] from ⟨HR.out.1, HR.out.2.trans (by simp [sortN])⟩)
        have so := fun W => Tryz.slices_Sort_string_none none 0 W
        go_wp2_with (go_at_call 16; (with_reducible refine (so _).mono ?_); rintro r w5 ⟨rfl, rfl⟩)
        (try simp only [Exit.inBlock, Exit.then])
        refine bodyPost_ret (results_tmp2 rfl _ _ _) rfl ?_
        exact ⟨_, by first | (rw [HR.out.1]; rfl) | rw [HR.out.1], by rw [HR.out.2]; exact own_base H.O H.h0, H.Bw⟩
      · cases hv
        have hH : Go.Sort.Holds encStr wr g6 0 (L.map kb).toArray := holds_of_block hb (by rw [List.length_map, ← flat_enc, ← Nat.mul_one L.length]; exact h4)
        have so := Tryz.slices_Sort_string g6 0 c6 (L.map kb) wr hH (Array.getElem?_eq_some_iff.1 hb).1 (by rw [List.length_map]; omega)
        have FI := Lib.hid (fun n os => (ownsRow_sorted (w := wr) (n := n) (os := os) (ss := L.map kb) (ts := (L.map kb).mergeSort fun x y => decide (x ≤ y)) (by rw [List.length_mergeSort]) hbase hb (by rw [List.length_map]; exact h1) h2 h3))
        rw [List.length_map] at so
        go_wp2_with (go_at_call 16; (with_reducible refine so.mono ?_); rintro r w5 ⟨rfl, nq, os, rfl⟩)
        have O5 := FI.out nq os
        (try simp only [Exit.inBlock, Exit.then])
        refine bodyPost_ret (results_tmp2 rfl _ _ _) rfl ?_
        refine ⟨_, by first | (rw [HR.out.1]; rfl) | rw [HR.out.1], ?_, ?_⟩
        · rw [HR.out.2, sortN_len, flat_enc, sortN_kb]
          rw [List.length_map] at O5
          exact own_base O5 H.h0
        · exact Below.grown H.Bw (grownBy_sorted _) (Below.size H.Bw) (fun j hj => by cases hj; exact Nat.le_trans H.h0 hbase)
end Go.Proofs.YtbobehieaaaleaaGreatDoor
