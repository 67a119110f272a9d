/- Chains of blocks: what is computed. -/
import Derived.Test.YtipkckoejkmhfaaW100
import Derived.Test.YtipkckoejkmhfaaW89
import Derived.Test.YtipkckoejkmhfaaQB
namespace Go.Proofs.Ytipkckoejkmhfaa
open Go.RowKit
set_option linter.unusedVariables false

def lkY (J : List UInt8) (s : Nat) (p : Int) : Nat := (J.getD (s + p.toNat) 0).toNat
def badY (y : Nat) : Bool := decide (y = 0) || decide (y = 253) || decide (y = 254)
def chn (J : List UInt8) (s X b : Nat) : Nat → List Int → Int → List Int × Int
  | 0, _, _ => ([], 0)
  | n + 1, out, p =>
    if inB p (X : Int) ((b : Int) - 1) then
      (if hasB out p then ([], 6) else
        (if badY (lkY J s p) then ([], 10) else (if lkY J s p = 255 then (out ++ [p], 0) else chn J s X b n (out ++ [p]) (lkY J s p))))
    else ([], 2)
/-- The blocks of the chain from a block on, and the code. -/
def chR (J : List UInt8) (s X b : Nat) (x : Int) : List Int × Int := if x = 0 then ([], 0) else chn J s X b 129 [] x
def chI (J : List UInt8) (s X b : Nat) (out : List Int) (p : Int) : List Int × Int := if out.length ≠ 0 ∧ p = 255 then (out, 0) else chn J s X b (129 - out.length) out p
def rm (out : List Int) : Nat := (List.range 128).countP (fun (j : Nat) => !hasB out (j : Int))
def lenOf : Value → Nat
  | .slice _ n _ => n
  | _ => 0
theorem countP_le {α : Type} (p q : α → Bool) (h : ∀ x, q x = true → p x = true) : ∀ l : List α, l.countP q ≤ l.countP p
  | [] => by simp
  | a :: l => by
    have := countP_le p q h l
    have h2 := h a
    rw [List.countP_cons, List.countP_cons]
    cases hq : q a
    · simp; omega
    · rw [h2 hq]; simp; omega
theorem countP_lt {α : Type} (p q : α → Bool) (h : ∀ x, q x = true → p x = true) (x0 : α) (hp : p x0 = true) (hq : q x0 = false) : ∀ l : List α, x0 ∈ l → l.countP q + 1 ≤ l.countP p
  | [], hm => absurd hm (by simp)
  | a :: l, hm => by
    rw [List.countP_cons, List.countP_cons]
    by_cases e : a = x0
    · subst e
      have := countP_le p q h l
      rw [hp, hq]
      simp
      omega
    · have := countP_lt p q h x0 hp hq l (by
        rcases List.mem_cons.1 hm with h1 | h1
        · exact absurd h1.symm e
        · exact h1)
      have h2 := h a
      cases hqa : q a
      · simp; omega
      · rw [h2 hqa]; simp; omega
theorem has_snoc (out : List Int) (p x : Int) : hasB (out ++ [p]) x = (hasB out x || x == p) := by
  unfold hasB
  rw [Bool.eq_iff_iff]
  simp
theorem rm_nil : rm [] = 128 := by simp [rm, hasB]
theorem rm_step {out : List Int} {k : Nat} (hk : k < 128) (h : hasB out (k : Int) = false) : rm (out ++ [(k : Int)]) + 1 ≤ rm out := by
  refine countP_lt (fun (j : Nat) => !hasB out (j : Int)) (fun (j : Nat) => !hasB (out ++ [(k : Int)]) (j : Int)) (fun j hj => ?_) k (by simp [h]) (by simp [has_snoc]) _ (List.mem_range.2 hk)
  rw [has_snoc] at hj
  revert hj
  cases hasB out (j : Int) <;> simp
section
variable {J : List UInt8} {s X b m k y : Nat} {out : List Int} {p : Int} {R : List Int × Int}
theorem chn_1 (h : inB p (X : Int) ((b : Int) - 1) = false) (e : chn J s X b (m + 1) out p = R) : R = ([], 2) := by
  rw [chn, h] at e
  exact e.symm
theorem chn_2 (h : inB p (X : Int) ((b : Int) - 1) = true) (g : hasB out p = true) (e : chn J s X b (m + 1) out p = R) : R = ([], 6) := by
  rw [chn, h, g] at e
  exact e.symm
theorem chn_3 (h : inB p (X : Int) ((b : Int) - 1) = true) (g : hasB out p = false) (hy : lkY J s p = y) (q : badY y = true) (e : chn J s X b (m + 1) out p = R) : R = ([], 10) := by
  rw [chn, h, g, hy, q] at e
  exact e.symm
theorem chn_4 (h : inB p (X : Int) ((b : Int) - 1) = true) (g : hasB out p = false) (hy : lkY J s p = y) (q : y = 255) (e : chn J s X b (m + 1) out p = R) : R = (out ++ [p], 0) := by
  subst q
  rw [chn, h, g, hy] at e
  exact e.symm
theorem chn_5 (h : inB p (X : Int) ((b : Int) - 1) = true) (g : hasB out p = false) (hy : lkY J s p = y) (q : badY y = false) (q2 : ¬ y = 255) (e : chn J s X b (m + 1) out p = R) : chn J s X b m (out ++ [p]) (y : Int) = R := by
  rw [chn, h, g, hy, q] at e
  simp only [if_true, Bool.false_eq_true, if_false, if_neg q2] at e
  exact e
theorem fuel (h : out.length ≤ 128) : 129 - out.length = (128 - out.length) + 1 := by omega
theorem fuel2 : 129 - (out ++ [p]).length = 128 - out.length := by rw [List.length_append, List.length_singleton]; omega
theorem chI_1 (h : out.length = 0) (e : chI J s X b out p = R) : chn J s X b (129 - out.length) out p = R := by rw [chI, if_neg (by simp [h])] at e; exact e
theorem chI_2 (h : ¬ p = 255) (e : chI J s X b out p = R) : chn J s X b (129 - out.length) out p = R := by rw [chI, if_neg (by simp [h])] at e; exact e
theorem chI_3 (h : ¬ out.length = 0) (g : p = 255) (e : chI J s X b out p = R) : R = (out, 0) := by rw [chI, if_pos ⟨h, g⟩] at e; exact e.symm
theorem chI_4 (h : inB p (X : Int) ((b : Int) - 1) = true) (g : hasB out p = false) (hy : lkY J s p = y) (q : badY y = false) (hl : out.length ≤ 128) (e : chn J s X b (129 - out.length) out p = R) : chI J s X b (out ++ [p]) (y : Int) = R := by
  rw [fuel hl] at e
  unfold chI
  by_cases q2 : y = 255
  · rw [if_pos ⟨by simp, by omega⟩]
    exact (chn_4 h g hy q2 e).symm
  · rw [if_neg (by omega), fuel2]
    exact chn_5 h g hy q q2 e
theorem lkY_eq (h : s + k < J.length) : lkY J s (k : Int) = J[s + k].toNat := by simp [lkY, h]
theorem bad_no (h : badY y = false) : ¬ y = 0 ∧ ¬ y = 253 ∧ ¬ y = 254 := by simpa [badY, and_assoc] using h
theorem bad_yes (h : badY y = true) : y = 0 ∨ y = 253 ∨ y = 254 := by simpa [badY, or_assoc] using h
theorem bad_lt (h : badY y = false) (hy : y < 256) (q : ¬ y = 255) : ¬ y = 255 := q
end
theorem OO.len1 {w : World} {base size n c : Nat} {e : TypeId} {A : Option Addr} {out : List Int} {x : Int} {xs : List Value} (h : OO w base e size (.slice A (out ++ [x]).length c) n xs) : OO w base e size (.slice A (out.length + 1) c) n xs := by
  rwa [List.length_append, List.length_singleton] at h
def cfL (l : List ByteArray) (x : Int) : List Int := if okC l then (chR (jn l) (s0 l) (chX l.length (s0 l)) l.length x).1 else []
def cfC (l : List ByteArray) (x : Int) : Int := if okC l then (chR (jn l) (s0 l) (chX l.length (s0 l)) l.length x).2 else chC l
theorem chn_len (J : List UInt8) (s X b : Nat) : ∀ (n : Nat) (out : List Int) (p : Int), (chn J s X b n out p).1.length ≤ out.length + n
  | 0, _, _ => by simp [chn]
  | n + 1, out, p => by
    have h := chn_len J s X b n (out ++ [p]) (lkY J s p)
    rw [List.length_append, List.length_singleton] at h
    rw [chn]
    split
    · split
      · simp
      · split
        · simp
        · split
          · simp
          · omega
    · simp
theorem cfL_len (l : List ByteArray) (x : Int) : (cfL l x).length ≤ 129 := by
  unfold cfL
  split
  · unfold chR
    split
    · simp
    · have := chn_len (jn l) (s0 l) (chX l.length (s0 l)) l.length 129 [] x
      simpa using this
  · simp
set_option maxRecDepth 100000 in
set_option maxHeartbeats 1000000 in
theorem spec_data_any (g b s E D X bb off n c : Nat) (p : Int) (w : World) (d : CP w g [.int .i64 (b : Int), .int .i64 (s : Int), .int .i64 (E : Int), .int .i64 (D : Int), .int .i64 (X : Int), .slice (some ⟨bb, off, none⟩) n c]) (hb : b ≤ 128) :
    Calls Try.prog 70 #[.pointer (some ⟨g, 0, none⟩), .int .i64 p] w fun e w' => e = .returned (.bool (inB p (X : Int) ((b : Int) - 1))) ∧ Below w.heap.size w w' := by
  have hws : IntKind.i64.wrap ((b : Int) - 1) = (b : Int) - 1 := IntWalk.i64_in _ (by omega)
  have hq := fun (p' : Regrown) => qb_same p' (l00In_any p (X : Int) ((b : Int) - 1) (Sort.grow (redrawn w p'.d) p'.os))
  have k0 := gw_cell (show w.cell? ⟨g, 0, none⟩ = some (.int .i64 (b : Int)) from d 0 (by simp))
  have k4 := gw_cell (show w.cell? ⟨g, 4, none⟩ = some (.int .i64 (X : Int)) from d 4 (by simp))
  go_enter Try.func70, Try.ntmps70
  go_wp2_with fail
  refine wp_region_quiet_below (by kernel_rfl) (by kernel_rfl) ?_
  repeat (go_big_quiet_step ((first | with_reducible exact hq _)))
  refine wpQuiet_nil ?_
  intro _ hw'
  obtain ⟨pq, hw''⟩ := hw'
  subst hw''
  have hb6 := gw_below w pq
  generalize Sort.grow (redrawn w pq.d) pq.os = w6 at hb6 ⊢
  go_wp2
  go_ret
  exact ⟨rfl, hb6⟩
set_option maxRecDepth 100000 in
set_option maxHeartbeats 1000000 in
theorem impl_data_any (g b s E D X bb off n c : Nat) (p : Int) (w : World) (d : CP w g [.int .i64 (b : Int), .int .i64 (s : Int), .int .i64 (E : Int), .int .i64 (D : Int), .int .i64 (X : Int), .slice (some ⟨bb, off, none⟩) n c]) (hb : b ≤ 128) :
    Calls Try.prog 72 #[.pointer (some ⟨g, 0, none⟩), .int .i64 p] w fun e w' => e = .returned (.bool (inB p (X : Int) ((b : Int) - 1))) ∧ Below w.heap.size w w' := by
  have hws : IntKind.i64.wrap ((b : Int) - 1) = (b : Int) - 1 := IntWalk.i64_in _ (by omega)
  have hq := fun (p' : Regrown) => qb_same p' (within_any p (X : Int) ((b : Int) - 1) (Sort.grow (redrawn w p'.d) p'.os))
  have k0 := gw_cell (show w.cell? ⟨g, 0, none⟩ = some (.int .i64 (b : Int)) from d 0 (by simp))
  have k4 := gw_cell (show w.cell? ⟨g, 4, none⟩ = some (.int .i64 (X : Int)) from d 4 (by simp))
  go_enter Try.func72, Try.ntmps72
  go_wp2_with fail
  refine wp_region_quiet_below (by kernel_rfl) (by kernel_rfl) ?_
  repeat (go_big_quiet_step ((first | with_reducible exact hq _)))
  refine wpQuiet_nil ?_
  intro _ hw'
  obtain ⟨pq, hw''⟩ := hw'
  subst hw''
  have hb6 := gw_below w pq
  generalize Sort.grow (redrawn w pq.d) pq.os = w6 at hb6 ⊢
  go_wp2
  go_ret
  exact ⟨rfl, hb6⟩
end Go.Proofs.Ytipkckoejkmhfaa
