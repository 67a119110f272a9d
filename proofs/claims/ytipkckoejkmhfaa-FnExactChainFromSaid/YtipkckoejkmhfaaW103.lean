/- Walks: chains of blocks (impl). -/
import Derived.Test.YtipkckoejkmhfaaW101
import Derived.Test.YtipkckoejkmhfaaStep
import Derived.Test.YtipkckoejkmhfaaW71
namespace Go.Proofs.Ytipkckoejkmhfaa
open Go.RowKit
set_option linter.unusedVariables false

set_option maxRecDepth 100000 in
set_option maxHeartbeats 2000000 in
theorem impl_chain_any (g b s E D X bb off n c : Nat) (J : List UInt8) (x : Int) (w : World) (d : CP w g [.int .i64 (b : Int), .int .i64 (s : Int), .int .i64 (E : Int), .int .i64 (D : Int), .int .i64 (X : Int), .slice (some ⟨bb, off, none⟩) n c]) (hr : Rd w w.heap.size 1 (some ⟨bb, off, none⟩) n (bcells J)) (hb : b ≤ 128) (hs : s ≤ 32) (hn : n ≤ 4096) (hin : ∀ k, k + 1 ≤ b → s + k < n) :
    Calls Try.prog 41 #[.pointer (some ⟨g, 0, none⟩), .int .i64 x] w fun e w' => ∃ v, e = .returned (.tuple #[v, .int .i64 (chR J s X b x).2]) ∧ w'.ownsRow w.heap.size 2 1 v (chR J s X b x).1.length (flat fI (chR J s X b x).1) ∧ Below w.heap.size w w' := by
  by_cases hx0 : x = 0
  · subst hx0
    have HR := Lib.hid (show chR J s X b 0 = ([], 0) by simp [chR])
    go_enter Try.func41, Try.ntmps41
    go_wp2
    (try simp only [Exit.inBlock, Exit.then]); refine bodyPost_ret (results_tmp2 rfl _ _ _) rfl ?_
    exact ⟨_, by rw [HR.out]; rfl, by rw [HR.out]; exact World.ownsRow_nil _ _ _ _, (by with_reducible repeat (first | exact Below.refl _ _ | assumption | refine below_step ?_ (by assumption) | refine Below.drew ?_ | refine below_drewN ?_ _ | refine below_alloc ?_ _ | refine Below.setCell ?_ (by simp; try omega) _))⟩
  have hxb : (x == 0) = false := beq_false_of_ne hx0
  obtain ⟨R, hR⟩ : ∃ R, chR J s X b x = R := ⟨_, rfl⟩
  rw [hR]
  have HR := Lib.hid (show chn J s X b 129 [] x = R by rw [← hR, chR, if_neg hx0])
  clear hR hx0
  go_enter Try.func41, Try.ntmps41
  go_wp2
  go_loopw [6, 7, 8] (fun v i _ wr => ∃ (out : List Int) (p : Int), i = .int .i64 p ∧ rm out + out.length ≤ 128 ∧ Hid (chI J s X b out p = R) ∧ OO wr w.heap.size 2 1 v out.length (flat fI out) ∧ BB w wr) (fun v _ _ _ => 129 - lenOf v)
  case atStart => exact ⟨[], x, rfl, by rw [rm_nil]; simp, Lib.hid (by rw [chI, if_neg (by simp)]; exact HR.out), World.ownsRow_nil _ _ _ _, Below.refl _ _⟩
  case round =>
    obtain ⟨out, p, rfl, hrm, HC, ho, hB⟩ := hrel
    have hol : out.length ≤ 128 := by omega
    obtain ⟨A6, c6, rfl⟩ := own_form ho
    by_cases hl0 : out.length = 0
    · have q0l : ((out.length : Int) == 0) = true := by rw [hl0]; rfl
      replace HC := Lib.hid (chI_1 hl0 HC.out)
      clear hl0
      have hCf := HC.out
      rw [fuel hol] at hCf
      have HF := Lib.hid hCf
      clear hCf
      cases hdt : inB p (X : Int) ((b : Int) - 1)
      · have HD := Lib.hid hdt
        have HN := Lib.hid (chn_1 hdt HF.out)
        clear hdt
        go_wp2_with (go_at_call 72; refine (impl_data_any g b s E D X bb off n c _ _ (d.next hB) hb).mono ?_; rintro e w1 ⟨rfl, hx1⟩; rw [HD.out]; replace ho := OO.next ho hx1; replace hB : BB w _ := BB.next hB hx1; have hsz := Below.size hB; have mk1 := True.intro)
        (try simp only [Exit.inBlock, Exit.then]); refine bodyPost_ret (results_tmp2 rfl _ _ _) rfl ?_
        exact ⟨_, by rw [HN.out]; rfl, by rw [HN.out]; exact World.ownsRow_nil _ _ _ _, hB⟩
      have HD := Lib.hid hdt
      obtain ⟨g1, g2⟩ := inB_yes hdt
      obtain ⟨k, rfl⟩ : ∃ k : Nat, p = (k : Int) := ⟨p.toNat, by omega⟩
      have hkb : k + 1 ≤ b := by omega
      have hk128 : k < 128 := by omega
      have hkn := hin k hkb
      cases hha : hasB out (k : Int)
      rotate_left
      · have HH := Lib.hid hha
        have HN := Lib.hid (chn_2 hdt hha HF.out)
        clear hdt hha
        go_wp2_with (first
            | (go_at_call 73; have := mk1; have con := contains_rd A6 c6 out out.length (k : Int) _ _ (Rd.of_own (OOf ho)) (Nat.le_refl _) (by omega); rw [List.take_length, show out.contains (k : Int) = hasB out (k : Int) from rfl, HH.out] at con; refine con.mono ?_; clear con; rintro e w2 ⟨rfl, rfl⟩; have mk2 := True.intro)
            | (go_at_call 72; refine (impl_data_any g b s E D X bb off n c _ _ (d.next hB) hb).mono ?_; rintro e w1 ⟨rfl, hx1⟩; rw [HD.out]; replace ho := OO.next ho hx1; replace hB : BB w _ := BB.next hB hx1; have hsz := Below.size hB; have mk1 := True.intro))
        (try simp only [Exit.inBlock, Exit.then]); refine bodyPost_ret (results_tmp2 rfl _ _ _) rfl ?_
        exact ⟨_, by rw [HN.out]; rfl, by rw [HN.out]; exact World.ownsRow_nil _ _ _ _, hB⟩
      have HH := Lib.hid hha
      have hkJ : s + k < J.length := by have := hr.1; rw [bcells_length] at this; omega
      obtain ⟨y, hy⟩ : ∃ y, J[s + k].toNat = y := ⟨_, rfl⟩
      have hy256 : y < 256 := by rw [← hy]; exact J[s + k].toNat_lt
      have hly : lkY J s (k : Int) = y := (lkY_eq hkJ).trans hy
      have HY := Lib.hid hy
      have hrs := rm_step hk128 hha
      have HRS := Lib.hid (show rm (out ++ [(k : Int)]) + (out ++ [(k : Int)]).length ≤ 128 by rw [List.length_append, List.length_singleton]; omega)
      have hwy : IntKind.i64.wrap (y : Int) = (y : Int) := i_nat _ (by omega)
      clear g1 g2 hkb hk128 hrs hy
      cases hbd : badY y
      rotate_left
      · have HN := Lib.hid (chn_3 hdt hha hly hbd HF.out)
        have hb3 := bad_yes hbd
        clear hdt hha hly hbd
        rcases hb3 with rfl | rfl | rfl
        all_goals
          go_wp2_with (first
            | (at_builtin; have := mk3; go_must (refine wpList_appF (f := fI) rfl _ _ _ rfl eltI (by omega) _ out rfl (OOf ho) _ _ _ _ rfl rfl rfl (by intro u hu; simp only [fI, List.mem_cons, List.not_mem_nil, or_false] at hu; subst hu; rfl) (by omega) hsz ?_); intro v5 w5 ho5 hg5 hat5 hbl5; obtain ⟨A5, c5, rfl⟩ := own_form ho5; replace ho : OO _ _ _ _ _ _ _ := ho5; replace hB : BB w _ := Below.trans hB hbl5; have mk4 := True.intro)
            | (go_at_call 37; have := mk2; refine (impl_link_any g b s E D X bb off n c J k _ (d.next hB) ((hr.below hB).more (Below.size hB)) hkn hs hn).mono ?_; rintro e w6 ⟨rfl, hx6, hcell⟩; rw [HY.out] at hcell; replace ho := OO.next ho hx6; replace hB : BB w _ := BB.next hB hx6; replace hsz := Below.size hB; have mk3 := True.intro)
            | (go_at_call 73; have := mk1; have con := contains_rd A6 c6 out out.length (k : Int) _ _ (Rd.of_own (OOf ho)) (Nat.le_refl _) (by omega); rw [List.take_length, show out.contains (k : Int) = hasB out (k : Int) from rfl, HH.out] at con; refine con.mono ?_; clear con; rintro e w2 ⟨rfl, rfl⟩; have mk2 := True.intro)
            | (go_at_call 72; refine (impl_data_any g b s E D X bb off n c _ _ (d.next hB) hb).mono ?_; rintro e w1 ⟨rfl, hx1⟩; rw [HD.out]; replace ho := OO.next ho hx1; replace hB : BB w _ := BB.next hB hx1; have hsz := Below.size hB; have mk1 := True.intro))
          (try simp only [Exit.inBlock, Exit.then]); refine bodyPost_ret (results_tmp2 rfl _ _ _) rfl ?_
          exact ⟨_, by rw [HN.out]; rfl, by rw [HN.out]; exact World.ownsRow_nil _ _ _ _, hB⟩
      have HN := Lib.hid (chI_4 hdt hha hly hbd hol HC.out)
      obtain ⟨b0, b1, b2⟩ := bad_no hbd
      have q0 : ((y : Int) == 0) = false := beq_false_of_ne (by omega)
      have q253 : ((y : Int) == 253) = false := beq_false_of_ne (by omega)
      have q254 : ((y : Int) == 254) = false := beq_false_of_ne (by omega)
      clear hdt hha hly hbd b0 b1 b2
      go_wp2_with (first
            | (at_builtin; have := mk3; go_must (refine wpList_appF (f := fI) rfl _ _ _ rfl eltI (by omega) _ out rfl (OOf ho) _ _ _ _ rfl rfl rfl (by intro u hu; simp only [fI, List.mem_cons, List.not_mem_nil, or_false] at hu; subst hu; rfl) (by omega) hsz ?_); intro v5 w5 ho5 hg5 hat5 hbl5; obtain ⟨A5, c5, rfl⟩ := own_form ho5; replace ho : OO _ _ _ _ _ _ _ := ho5; replace hB : BB w _ := Below.trans hB hbl5; have mk4 := True.intro)
            | (go_at_call 37; have := mk2; refine (impl_link_any g b s E D X bb off n c J k _ (d.next hB) ((hr.below hB).more (Below.size hB)) hkn hs hn).mono ?_; rintro e w6 ⟨rfl, hx6, hcell⟩; rw [HY.out] at hcell; replace ho := OO.next ho hx6; replace hB : BB w _ := BB.next hB hx6; replace hsz := Below.size hB; have mk3 := True.intro)
            | (go_at_call 73; have := mk1; have con := contains_rd A6 c6 out out.length (k : Int) _ _ (Rd.of_own (OOf ho)) (Nat.le_refl _) (by omega); rw [List.take_length, show out.contains (k : Int) = hasB out (k : Int) from rfl, HH.out] at con; refine con.mono ?_; clear con; rintro e w2 ⟨rfl, rfl⟩; have mk2 := True.intro)
            | (go_at_call 72; refine (impl_data_any g b s E D X bb off n c _ _ (d.next hB) hb).mono ?_; rintro e w1 ⟨rfl, hx1⟩; rw [HD.out]; replace ho := OO.next ho hx1; replace hB : BB w _ := BB.next hB hx1; have hsz := Below.size hB; have mk1 := True.intro))
      go_roundw
      case rel => exact ⟨out ++ [(k : Int)], (y : Int), rfl, HRS.out, HN, OO.len1 ho, hB⟩
      case measure => (simp [lenOf]; omega)
    have q0l : ((out.length : Int) == 0) = false := beq_false_of_ne (by omega)
    by_cases hp : p = 255
    · have HN := Lib.hid (chI_3 hl0 hp HC.out)
      have qp : (p != 255) = false := by rw [hp]; rfl
      clear hp hl0
      go_wp2
      (try simp only [Exit.inBlock, Exit.then]); refine bodyPost_ret (results_tmp2 rfl _ _ _) rfl ?_
      exact ⟨_, by rw [HN.out]; rfl, by rw [HN.out]; exact OOf ho, hB⟩
    have qp : (p != 255) = true := by simpa using hp
    replace HC := Lib.hid (chI_2 hp HC.out)
    clear hp hl0
    have hCf := HC.out
    rw [fuel hol] at hCf
    have HF := Lib.hid hCf
    clear hCf
    cases hdt : inB p (X : Int) ((b : Int) - 1)
    · have HD := Lib.hid hdt
      have HN := Lib.hid (chn_1 hdt HF.out)
      clear hdt
      go_wp2_with (go_at_call 72; refine (impl_data_any g b s E D X bb off n c _ _ (d.next hB) hb).mono ?_; rintro e w1 ⟨rfl, hx1⟩; rw [HD.out]; replace ho := OO.next ho hx1; replace hB : BB w _ := BB.next hB hx1; have hsz := Below.size hB; have mk1 := True.intro)
      (try simp only [Exit.inBlock, Exit.then]); refine bodyPost_ret (results_tmp2 rfl _ _ _) rfl ?_
      exact ⟨_, by rw [HN.out]; rfl, by rw [HN.out]; exact World.ownsRow_nil _ _ _ _, hB⟩
    have HD := Lib.hid hdt
    obtain ⟨g1, g2⟩ := inB_yes hdt
    obtain ⟨k, rfl⟩ : ∃ k : Nat, p = (k : Int) := ⟨p.toNat, by omega⟩
    have hkb : k + 1 ≤ b := by omega
    have hk128 : k < 128 := by omega
    have hkn := hin k hkb
    cases hha : hasB out (k : Int)
    rotate_left
    · have HH := Lib.hid hha
      have HN := Lib.hid (chn_2 hdt hha HF.out)
      clear hdt hha
      go_wp2_with (first
          | (go_at_call 73; have := mk1; have con := contains_rd A6 c6 out out.length (k : Int) _ _ (Rd.of_own (OOf ho)) (Nat.le_refl _) (by omega); rw [List.take_length, show out.contains (k : Int) = hasB out (k : Int) from rfl, HH.out] at con; refine con.mono ?_; clear con; rintro e w2 ⟨rfl, rfl⟩; have mk2 := True.intro)
          | (go_at_call 72; refine (impl_data_any g b s E D X bb off n c _ _ (d.next hB) hb).mono ?_; rintro e w1 ⟨rfl, hx1⟩; rw [HD.out]; replace ho := OO.next ho hx1; replace hB : BB w _ := BB.next hB hx1; have hsz := Below.size hB; have mk1 := True.intro))
      (try simp only [Exit.inBlock, Exit.then]); refine bodyPost_ret (results_tmp2 rfl _ _ _) rfl ?_
      exact ⟨_, by rw [HN.out]; rfl, by rw [HN.out]; exact World.ownsRow_nil _ _ _ _, hB⟩
    have HH := Lib.hid hha
    have hkJ : s + k < J.length := by have := hr.1; rw [bcells_length] at this; omega
    obtain ⟨y, hy⟩ : ∃ y, J[s + k].toNat = y := ⟨_, rfl⟩
    have hy256 : y < 256 := by rw [← hy]; exact J[s + k].toNat_lt
    have hly : lkY J s (k : Int) = y := (lkY_eq hkJ).trans hy
    have HY := Lib.hid hy
    have hrs := rm_step hk128 hha
    have HRS := Lib.hid (show rm (out ++ [(k : Int)]) + (out ++ [(k : Int)]).length ≤ 128 by rw [List.length_append, List.length_singleton]; omega)
    have hwy : IntKind.i64.wrap (y : Int) = (y : Int) := i_nat _ (by omega)
    clear g1 g2 hkb hk128 hrs hy
    cases hbd : badY y
    rotate_left
    · have HN := Lib.hid (chn_3 hdt hha hly hbd HF.out)
      have hb3 := bad_yes hbd
      clear hdt hha hly hbd
      rcases hb3 with rfl | rfl | rfl
      all_goals
        go_wp2_with (first
          | (at_builtin; have := mk3; go_must (refine wpList_appF (f := fI) rfl _ _ _ rfl eltI (by omega) _ out rfl (OOf ho) _ _ _ _ rfl rfl rfl (by intro u hu; simp only [fI, List.mem_cons, List.not_mem_nil, or_false] at hu; subst hu; rfl) (by omega) hsz ?_); intro v5 w5 ho5 hg5 hat5 hbl5; obtain ⟨A5, c5, rfl⟩ := own_form ho5; replace ho : OO _ _ _ _ _ _ _ := ho5; replace hB : BB w _ := Below.trans hB hbl5; have mk4 := True.intro)
          | (go_at_call 37; have := mk2; refine (impl_link_any g b s E D X bb off n c J k _ (d.next hB) ((hr.below hB).more (Below.size hB)) hkn hs hn).mono ?_; rintro e w6 ⟨rfl, hx6, hcell⟩; rw [HY.out] at hcell; replace ho := OO.next ho hx6; replace hB : BB w _ := BB.next hB hx6; replace hsz := Below.size hB; have mk3 := True.intro)
          | (go_at_call 73; have := mk1; have con := contains_rd A6 c6 out out.length (k : Int) _ _ (Rd.of_own (OOf ho)) (Nat.le_refl _) (by omega); rw [List.take_length, show out.contains (k : Int) = hasB out (k : Int) from rfl, HH.out] at con; refine con.mono ?_; clear con; rintro e w2 ⟨rfl, rfl⟩; have mk2 := True.intro)
          | (go_at_call 72; refine (impl_data_any g b s E D X bb off n c _ _ (d.next hB) hb).mono ?_; rintro e w1 ⟨rfl, hx1⟩; rw [HD.out]; replace ho := OO.next ho hx1; replace hB : BB w _ := BB.next hB hx1; have hsz := Below.size hB; have mk1 := True.intro))
        (try simp only [Exit.inBlock, Exit.then]); refine bodyPost_ret (results_tmp2 rfl _ _ _) rfl ?_
        exact ⟨_, by rw [HN.out]; rfl, by rw [HN.out]; exact World.ownsRow_nil _ _ _ _, hB⟩
    have HN := Lib.hid (chI_4 hdt hha hly hbd hol HC.out)
    obtain ⟨b0, b1, b2⟩ := bad_no hbd
    have q0 : ((y : Int) == 0) = false := beq_false_of_ne (by omega)
    have q253 : ((y : Int) == 253) = false := beq_false_of_ne (by omega)
    have q254 : ((y : Int) == 254) = false := beq_false_of_ne (by omega)
    clear hdt hha hly hbd b0 b1 b2
    go_wp2_with (first
          | (at_builtin; have := mk3; go_must (refine wpList_appF (f := fI) rfl _ _ _ rfl eltI (by omega) _ out rfl (OOf ho) _ _ _ _ rfl rfl rfl (by intro u hu; simp only [fI, List.mem_cons, List.not_mem_nil, or_false] at hu; subst hu; rfl) (by omega) hsz ?_); intro v5 w5 ho5 hg5 hat5 hbl5; obtain ⟨A5, c5, rfl⟩ := own_form ho5; replace ho : OO _ _ _ _ _ _ _ := ho5; replace hB : BB w _ := Below.trans hB hbl5; have mk4 := True.intro)
          | (go_at_call 37; have := mk2; refine (impl_link_any g b s E D X bb off n c J k _ (d.next hB) ((hr.below hB).more (Below.size hB)) hkn hs hn).mono ?_; rintro e w6 ⟨rfl, hx6, hcell⟩; rw [HY.out] at hcell; replace ho := OO.next ho hx6; replace hB : BB w _ := BB.next hB hx6; replace hsz := Below.size hB; have mk3 := True.intro)
          | (go_at_call 73; have := mk1; have con := contains_rd A6 c6 out out.length (k : Int) _ _ (Rd.of_own (OOf ho)) (Nat.le_refl _) (by omega); rw [List.take_length, show out.contains (k : Int) = hasB out (k : Int) from rfl, HH.out] at con; refine con.mono ?_; clear con; rintro e w2 ⟨rfl, rfl⟩; have mk2 := True.intro)
          | (go_at_call 72; refine (impl_data_any g b s E D X bb off n c _ _ (d.next hB) hb).mono ?_; rintro e w1 ⟨rfl, hx1⟩; rw [HD.out]; replace ho := OO.next ho hx1; replace hB : BB w _ := BB.next hB hx1; have hsz := Below.size hB; have mk1 := True.intro))
    go_roundw
    case rel => exact ⟨out ++ [(k : Int)], (y : Int), rfl, HRS.out, HN, OO.len1 ho, hB⟩
    case measure => (simp [lenOf]; omega)
end Go.Proofs.Ytipkckoejkmhfaa
