/- Walks: ChainFrom. -/
import Derived.Test.YtipkckoejkmhfaaW102
import Derived.Test.YtipkckoejkmhfaaW103
namespace Go.Proofs.Ytipkckoejkmhfaa
open Go.RowKit
set_option linter.unusedVariables false

theorem cf_1 {l : List ByteArray} {x : Int} (h : okC l = false) : cfL l x = [] ∧ cfC l x = chC l := by simp [cfL, cfC, h]
theorem cf_2 {l : List ByteArray} {x : Int} (h : okC l = true) : cfL l x = (chR (jn l) (s0 l) (chX l.length (s0 l)) l.length x).1 ∧ cfC l x = (chR (jn l) (s0 l) (chX l.length (s0 l)) l.length x).2 := by simp [cfL, cfC, h]
set_option maxRecDepth 100000 in
set_option maxHeartbeats 1000000 in
theorem spec_ChainFrom_any (A : Option Addr) (cp : Nat) (l : List ByteArray) (w : World) (h : Rd w w.heap.size 1 A l.length (flat fS l)) (hn : l.length ≤ 1048576) (x : Int) :
    Calls Try.prog 19 #[.slice A l.length cp, .int .i64 x] w fun e w' => ∃ v, e = .returned (.tuple #[v, .int .i64 (cfC l x)]) ∧ w'.ownsRow w.heap.size 2 1 v (cfL l x).length (flat fI (cfL l x)) ∧ Below w.heap.size w w' := by
  have hop := l16Open_any A cp l w h hn
  cases hok : okC l
  · have HR := Lib.hid (cf_1 (x := x) hok)
    have hc : ¬ chC l = 0 := of_decide_eq_false hok
    clear hok
    generalize chC l = code at *
    have hcb : (code != 0) = true := by simpa using hc
    go_enter Try.func19, Try.ntmps19
    go_wp2_with (go_at_call 32; refine hop.mono ?_; rintro e w2 ⟨pv, rfl, hx, -, hno⟩; obtain rfl := hno hc)
    (try simp only [Exit.inBlock, Exit.then]); refine bodyPost_ret (results_tmp2 rfl _ _ _) rfl ?_
    exact ⟨_, by rw [HR.out.2]; rfl, by rw [HR.out.1]; exact World.ownsRow_nil _ _ _ _, hx⟩
  have hc : chC l = 0 := of_decide_eq_true hok
  have HR := Lib.hid (cf_2 (x := x) hok)
  rw [hc] at hop
  clear hc
  have hB := BB.start w
  have h8 := (blk_yes (chC_yes (of_decide_eq_true hok)).1).1
  obtain ⟨-, hs32, hl128, hj4⟩ := jn_in hok (k := 0) (by omega)
  have hin : ∀ k, k + 1 ≤ l.length → s0 l + k < (jn l).length := fun k hk => (jn_in hok hk).1
  have hrl : 0 < (jn l).length := Nat.lt_of_le_of_lt (Nat.zero_le _) (hin 0 (by omega))
  have HR1 := Lib.hid (HR.out.1)
  have HR2 := Lib.hid (HR.out.2)
  clear hok h8 HR
  rw [HR1.out, HR2.out]
  have hch := fun (g bb off c : Nat) W (d : CP W g [.int .i64 (l.length : Int), .int .i64 (s0 l : Int), .int .i64 (chE l.length : Int), .int .i64 (chD l.length (s0 l) : Int), .int .i64 (chX l.length (s0 l) : Int), .slice (some ⟨bb, off, none⟩) (jn l).length c]) hr => spec_chain_any g l.length (s0 l) (chE l.length) (chD l.length (s0 l)) (chX l.length (s0 l)) bb off (jn l).length c (jn l) x W d hr hl128 hs32 hj4 hin
  generalize chR (jn l) (s0 l) (chX l.length (s0 l)) l.length x = R at *
  go_enter Try.func19, Try.ntmps19
  go_wp2_with (first
    | (go_at_call 40; have := mk1; refine (hch _ _ _ _ _ D0 R0).mono ?_; rintro e w3 ⟨v, rfl, ho, hx3⟩; have ho' : OO _ _ _ _ _ _ _ := own_base (base' := w.heap.size) ho (Below.size hB); replace hB : BB w _ := BB.next hB hx3; have mk2 := True.intro)
    | (go_at_call 32; refine hop.mono ?_; rintro e w2 ⟨pv, rfl, hx, hyes, -⟩; obtain ⟨g, a, c, rfl, D0, R0⟩ := hyes rfl; replace hB : BB w _ := BB.next hB hx; obtain ⟨bb, off, rfl, -⟩ := R0.2 hrl; have mk1 := True.intro))
  (try simp only [Exit.inBlock, Exit.then]); refine bodyPost_ret (results_tmp2 rfl _ _ _) rfl ?_
  exact ⟨_, rfl, ho', hB⟩
set_option maxRecDepth 100000 in
set_option maxHeartbeats 1000000 in
theorem impl_ChainFrom_any (A : Option Addr) (cp : Nat) (l : List ByteArray) (w : World) (h : Rd w w.heap.size 1 A l.length (flat fS l)) (hn : l.length ≤ 1048576) (x : Int) (hcp : l.length ≤ cp) :
    Calls Try.prog 20 #[.slice A l.length cp, .int .i64 x] w fun e w' => ∃ v, e = .returned (.tuple #[v, .int .i64 (cfC l x)]) ∧ w'.ownsRow w.heap.size 2 1 v (cfL l x).length (flat fI (cfL l x)) ∧ Below w.heap.size w w' := by
  have hop := openChains_any A cp l w h hn hcp
  cases hok : okC l
  · have HR := Lib.hid (cf_1 (x := x) hok)
    have hc : ¬ chC l = 0 := of_decide_eq_false hok
    clear hok
    generalize chC l = code at *
    have hcb : (code != 0) = true := by simpa using hc
    go_enter Try.func20, Try.ntmps20
    go_wp2_with (go_at_call 33; refine hop.mono ?_; rintro e w2 ⟨pv, rfl, hx, -, hno⟩; obtain rfl := hno hc)
    (try simp only [Exit.inBlock, Exit.then]); refine bodyPost_ret (results_tmp2 rfl _ _ _) rfl ?_
    exact ⟨_, by rw [HR.out.2]; rfl, by rw [HR.out.1]; exact World.ownsRow_nil _ _ _ _, hx⟩
  have hc : chC l = 0 := of_decide_eq_true hok
  have HR := Lib.hid (cf_2 (x := x) hok)
  rw [hc] at hop
  clear hc
  have hB := BB.start w
  have h8 := (blk_yes (chC_yes (of_decide_eq_true hok)).1).1
  obtain ⟨-, hs32, hl128, hj4⟩ := jn_in hok (k := 0) (by omega)
  have hin : ∀ k, k + 1 ≤ l.length → s0 l + k < (jn l).length := fun k hk => (jn_in hok hk).1
  have hrl : 0 < (jn l).length := Nat.lt_of_le_of_lt (Nat.zero_le _) (hin 0 (by omega))
  have HR1 := Lib.hid (HR.out.1)
  have HR2 := Lib.hid (HR.out.2)
  clear hok h8 HR
  rw [HR1.out, HR2.out]
  have hch := fun (g bb off c : Nat) W (d : CP W g [.int .i64 (l.length : Int), .int .i64 (s0 l : Int), .int .i64 (chE l.length : Int), .int .i64 (chD l.length (s0 l) : Int), .int .i64 (chX l.length (s0 l) : Int), .slice (some ⟨bb, off, none⟩) (jn l).length c]) hr => impl_chain_any g l.length (s0 l) (chE l.length) (chD l.length (s0 l)) (chX l.length (s0 l)) bb off (jn l).length c (jn l) x W d hr hl128 hs32 hj4 hin
  generalize chR (jn l) (s0 l) (chX l.length (s0 l)) l.length x = R at *
  go_enter Try.func20, Try.ntmps20
  go_wp2_with (first
    | (go_at_call 41; have := mk1; refine (hch _ _ _ _ _ D0 R0).mono ?_; rintro e w3 ⟨v, rfl, ho, hx3⟩; have ho' : OO _ _ _ _ _ _ _ := own_base (base' := w.heap.size) ho (Below.size hB); replace hB : BB w _ := BB.next hB hx3; have mk2 := True.intro)
    | (go_at_call 33; refine hop.mono ?_; rintro e w2 ⟨pv, rfl, hx, hyes, -⟩; obtain ⟨g, a, c, rfl, D0, R0⟩ := hyes rfl; replace hB : BB w _ := BB.next hB hx; obtain ⟨bb, off, rfl, -⟩ := R0.2 hrl; have mk1 := True.intro))
  (try simp only [Exit.inBlock, Exit.then]); refine bodyPost_ret (results_tmp2 rfl _ _ _) rfl ?_
  exact ⟨_, rfl, ho', hB⟩
end Go.Proofs.Ytipkckoejkmhfaa
