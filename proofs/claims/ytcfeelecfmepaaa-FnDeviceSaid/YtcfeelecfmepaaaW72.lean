/- Walks: the question for a block of a device; DeviceBlocks; SectorOf. -/
import Derived.Test.YtcfeelecfmepaaaW71
namespace Go.Proofs.Ytcfeelecfmepaaa
open Go.RowKit
set_option linter.unusedVariables false

theorem own_cap {w : World} {base : Nat} {e : TypeId} {size n c : Nat} {A : Option Addr} {xs : List Value} (h : w.ownsRow base e size (.slice A n c) n xs) : n ≤ c := by
  rcases h.2 with ⟨hv, h0⟩ | ⟨g, cap, cur, hv, _, _, hnc, _⟩
  · omega
  · injection hv with _ _ h3
    omega
def askC (ok : Bool) (n : Nat) (b : Int) : Int := if ok then (if inB b 0 ((n : Int) - 1) then 0 else 2) else 1
theorem askC_1 {n : Nat} {b : Int} : askC false n b = 1 := rfl
theorem askC_2 {n : Nat} {b : Int} (h : inB b 0 ((n : Int) - 1) = false) : askC true n b = 2 := by simp [askC, h]
theorem askC_3 {n : Nat} {b : Int} (h : inB b 0 ((n : Int) - 1) = true) : askC true n b = 0 := by simp [askC, h]
def dvN (ok : Bool) (n : Nat) : Int := if ok then (n : Int) else -1
theorem dvN_1 {n : Nat} : dvN false n = -1 := rfl
theorem dvN_2 {n : Nat} : dvN true n = (n : Int) := rfl
def soA (ok : Bool) (m : List Int) (b : Int) : Int := if ok && inB b 0 ((m.length : Int) - 1) then m.getD b.toNat 0 else 0
theorem soA_1 {m : List Int} {b : Int} : soA false m b = 0 := by simp [soA]
theorem soA_2 {m : List Int} {b : Int} (h : inB b 0 ((m.length : Int) - 1) = false) : soA true m b = 0 := by simp [soA, h]
theorem soA_3 {m : List Int} {b : Nat} (h : inB b 0 ((m.length : Int) - 1) = true) (hb : b < m.length) : soA true m b = m[b] := by simp [soA, h, hb]

set_option maxRecDepth 100000 in
set_option maxHeartbeats 1000000 in
theorem l15Ask_any (g : Nat) (c h p s : Int) (A : Option Addr) (cp : Nat) (l : List DSector) (k r : Int) (N : Option Addr) (q : Nat) (m : List Int) (b : Int) (w : World) (hd : CP w g [.int .i64 c, .int .i64 h, .int .i64 p, .int .i64 s, .slice A l.length cp, .int .i64 k, .int .i64 r, .slice N m.length q]) (hr : Rd w w.heap.size 2 A l.length (flat fSector l)) (hn : l.length ≤ 1048576) (hok : ∀ x ∈ l, okSector x) (kr : Rd w w.heap.size 1 N m.length (flat fI m)) (kn : m.length ≤ 1048576) :
    Calls Try.prog 47 #[.pointer (some ⟨g, 0, none⟩), .int .i64 b] w fun e w' => e = .returned (.int .i64 (askC (okV (okD c h p s l) l.length k r m) m.length b)) ∧ Below w.heap.size w w' := by
  have hq := l15Ok_any g c h p s A cp l k r N q m w hd hr hn hok kr kn
  have hk := fun W => l00In_any b 0 ((m.length : Int) - 1) W
  generalize okV (okD c h p s l) l.length k r m = ok at hq ⊢
  cases ok
  · have HR := Lib.hid (askC_1 (n := m.length) (b := b))
    go_enter Try.func47, Try.ntmps47
    go_wp2_with (first | (go_at_call 26; refine hq.mono ?_; rintro e w1 ⟨rfl, hx⟩; have d7 : (_ : Option Value) = some (.slice N m.length q) := hd.next hx 7 (by simp)) | (go_at_call 15; refine (hk _).mono ?_; rintro e w2 ⟨rfl, rfl⟩))
    go_ret
    exact ⟨by rw [HR.out]; rfl, hx⟩
  cases g1 : inB b 0 ((m.length : Int) - 1)
  · have HR := Lib.hid (askC_2 (n := m.length) g1)
    rw [g1] at hk
    go_enter Try.func47, Try.ntmps47
    go_wp2_with (first | (go_at_call 26; refine hq.mono ?_; rintro e w1 ⟨rfl, hx⟩; have d7 : (_ : Option Value) = some (.slice N m.length q) := hd.next hx 7 (by simp)) | (go_at_call 15; refine (hk _).mono ?_; rintro e w2 ⟨rfl, rfl⟩))
    go_ret
    exact ⟨by rw [HR.out]; rfl, hx⟩
  have HR := Lib.hid (askC_3 (n := m.length) g1)
  rw [g1] at hk
  go_enter Try.func47, Try.ntmps47
  go_wp2_with (first | (go_at_call 26; refine hq.mono ?_; rintro e w1 ⟨rfl, hx⟩; have d7 : (_ : Option Value) = some (.slice N m.length q) := hd.next hx 7 (by simp)) | (go_at_call 15; refine (hk _).mono ?_; rintro e w2 ⟨rfl, rfl⟩))
  go_ret
  exact ⟨by rw [HR.out]; rfl, hx⟩
set_option maxRecDepth 100000 in
set_option maxHeartbeats 1000000 in
theorem checkBlock_any (c h p s : Int) (A : Option Addr) (cp : Nat) (l : List DSector) (k r : Int) (N : Option Addr) (q : Nat) (m : List Int) (b : Int) (w : World) (hr : Rd w w.heap.size 2 A l.length (flat fSector l)) (hn : l.length ≤ 1048576) (hok : ∀ x ∈ l, okSector x) (kr : Rd w w.heap.size 1 N m.length (flat fI m)) (kn : m.length ≤ 1048576) (hqc : m.length ≤ q) :
    Calls Try.prog 20 #[.agg #[.int .i64 c, .int .i64 h, .int .i64 p, .int .i64 s, .slice A l.length cp, .int .i64 k, .int .i64 r, .slice N m.length q], .int .i64 b] w fun e w' => e = .returned (.int .i64 (askC (okV (okD c h p s l) l.length k r m) m.length b)) ∧ Below w.heap.size w w' := by
  have hd := CP.made w [.int .i64 c, .int .i64 h, .int .i64 p, .int .i64 s, .slice A l.length cp, .int .i64 k, .int .i64 r, .slice N m.length q] 29
  have hb0 : Below w.heap.size w (w.alloc (.cells #[.int .i64 c, .int .i64 h, .int .i64 p, .int .i64 s, .slice A l.length cp, .int .i64 k, .int .i64 r, .slice N m.length q] 29)) := (by with_reducible repeat (first | exact Below.refl _ _ | assumption | refine below_step ?_ (by assumption) | refine Below.drew ?_ | refine below_drewN ?_ _ | refine below_alloc ?_ _ | refine Below.setCell ?_ (by simp; try omega) _))
  have hq := impl_ValidDevice_any c h p s A cp l k r N q m (w.alloc (.cells #[.int .i64 c, .int .i64 h, .int .i64 p, .int .i64 s, .slice A l.length cp, .int .i64 k, .int .i64 r, .slice N m.length q] 29)) ((hr.below hb0).more hb0.size) hn hok ((kr.below hb0).more hb0.size) kn hqc
  have hk := fun W => within_any b 0 ((m.length : Int) - 1) W
  generalize okV (okD c h p s l) l.length k r m = ok at hq ⊢
  cases ok
  · have HR := Lib.hid (askC_1 (n := m.length) (b := b))
    go_enter Try.func20, Try.ntmps20
    go_wp2_with (first | (go_at_call 24; refine hq.mono ?_; rintro e w1 ⟨rfl, hx⟩; replace hd := hd.next hx; have d7 : (_ : Option Value) = some (.slice N m.length q) := hd 7 (by simp); have hB : Below w.heap.size w w1 := (by with_reducible repeat (first | exact Below.refl _ _ | assumption | refine below_step ?_ (by assumption) | refine Below.drew ?_ | refine below_drewN ?_ _ | refine below_alloc ?_ _ | refine Below.setCell ?_ (by simp; try omega) _))) | (go_at_call 36; refine (size_int_any N m.length q _).mono ?_; rintro e w2 ⟨rfl, rfl⟩) | (go_at_call 35; refine (hk _).mono ?_; rintro e w2 ⟨rfl, rfl⟩))
    go_ret
    exact ⟨by rw [HR.out]; rfl, hB⟩
  cases g1 : inB b 0 ((m.length : Int) - 1)
  · have HR := Lib.hid (askC_2 (n := m.length) g1)
    rw [g1] at hk
    go_enter Try.func20, Try.ntmps20
    go_wp2_with (first | (go_at_call 24; refine hq.mono ?_; rintro e w1 ⟨rfl, hx⟩; replace hd := hd.next hx; have d7 : (_ : Option Value) = some (.slice N m.length q) := hd 7 (by simp); have hB : Below w.heap.size w w1 := (by with_reducible repeat (first | exact Below.refl _ _ | assumption | refine below_step ?_ (by assumption) | refine Below.drew ?_ | refine below_drewN ?_ _ | refine below_alloc ?_ _ | refine Below.setCell ?_ (by simp; try omega) _))) | (go_at_call 36; refine (size_int_any N m.length q _).mono ?_; rintro e w2 ⟨rfl, rfl⟩) | (go_at_call 35; refine (hk _).mono ?_; rintro e w2 ⟨rfl, rfl⟩))
    go_ret
    exact ⟨by rw [HR.out]; rfl, hB⟩
  have HR := Lib.hid (askC_3 (n := m.length) g1)
  rw [g1] at hk
  go_enter Try.func20, Try.ntmps20
  go_wp2_with (first | (go_at_call 24; refine hq.mono ?_; rintro e w1 ⟨rfl, hx⟩; replace hd := hd.next hx; have d7 : (_ : Option Value) = some (.slice N m.length q) := hd 7 (by simp); have hB : Below w.heap.size w w1 := (by with_reducible repeat (first | exact Below.refl _ _ | assumption | refine below_step ?_ (by assumption) | refine Below.drew ?_ | refine below_drewN ?_ _ | refine below_alloc ?_ _ | refine Below.setCell ?_ (by simp; try omega) _))) | (go_at_call 36; refine (size_int_any N m.length q _).mono ?_; rintro e w2 ⟨rfl, rfl⟩) | (go_at_call 35; refine (hk _).mono ?_; rintro e w2 ⟨rfl, rfl⟩))
  go_ret
  exact ⟨by rw [HR.out]; rfl, hB⟩
end Go.Proofs.Ytcfeelecfmepaaa
