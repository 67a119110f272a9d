/- Plain: the features of a track's description; a protected track has the feature among them. -/
import Derived.Test.YthelfgagddldfaaGreatDoorP2
namespace Go.Proofs.YthelfgagddldfaaGreatDoor
open Go.RowKit Go.Lib
set_option linter.unusedVariables false
set_option linter.unusedSimpArgs false

/-- Two sectors have one address. -/
def adrB (a b : DSectorSpec) : Bool := decide (a.f0 = b.f0) && decide (a.f1 = b.f1) && decide (a.f2 = b.f2) && decide (a.f3 = b.f3)
/-- The first sector of a good id with the address of y. -/
def dupI (xs : List DSectorSpec) (y : DSectorSpec) : Option Nat := xs.findIdx? (fun z => !z.f6 && adrB z y)
def dupL (i : Nat) : Option Nat → List (Int × Int × Int)
  | some j => [(1, (i : Int), (j : Int))]
  | none => []
/-- The features of the sector i. -/
def ftAt (xs : List DSectorSpec) (cy hd : Int) (i : Nat) : List (Int × Int × Int) :=
  if (xs.getD i noSS).f6 = true then [(3, (i : Int), 0)] else
  dupL i (dupI (xs.take i) (xs.getD i noSS)) ++ ((if (xs.getD i noSS).f0 = cy ∧ (xs.getD i noSS).f1 = hd then [] else [(2, (i : Int), 0)]) ++ ((if (xs.getD i noSS).f7 = true then [(4, (i : Int), 0)] else []) ++ (if (xs.getD i noSS).f5 = true then [(6, (i : Int), 0)] else [])))
def ftsL (xs : List DSectorSpec) (cy hd : Int) (n : Nat) : List (Int × Int × Int) := (List.range n).flatMap (ftAt xs cy hd)
theorem ftsL_s (xs : List DSectorSpec) (cy hd : Int) (n : Nat) : ftsL xs cy hd (n + 1) = ftsL xs cy hd n ++ ftAt xs cy hd n := by
  unfold ftsL
  rw [List.range_succ, List.flatMap_append]
  simp
theorem ft_in {xs : List DSectorSpec} {cy hd : Int} {n i : Nat} {t : Int × Int × Int} (hi : i < n) (h : t ∈ ftAt xs cy hd i) : t ∈ ftsL xs cy hd n :=
  List.mem_flatMap.2 ⟨i, List.mem_range.2 hi, h⟩
theorem getD_of {xs : List DSectorSpec} {i : Nat} {y : DSectorSpec} (h : xs[i]? = some y) : xs.getD i noSS = y := by
  rw [List.getD_eq_getElem?_getD, h]
  rfl
theorem adr_self (y : DSectorSpec) : adrB y (prA y) = true := by simp [adrB, prA]
theorem pr_has {f g k s x : Int} {xs : List DSectorSpec} (hf : feB k s x = true) (hc : prC true g xs.length k s x = 0) (h8 : k ≠ 8) (h2 : k ≠ 2)
    (h6 : k ≠ 3 → ((prL 0 xs k s x).getD s.toNat noSS).f6 = false ∧ ((prL 0 xs k s x).getD x.toNat noSS).f6 = false) :
    ∃ v, (k, s, v) ∈ ftsL (prL 0 xs k s x) 1 0 (prL 0 xs k s x).length := by
  obtain ⟨_, k5, k7, _, h1, h0⟩ := pr_ok hc
  have hs0 := feB_0 hf
  by_cases e1 : k = 1
  · subst e1
    obtain ⟨b2, b3⟩ := h1 rfl
    have b1 := feB_1 hf
    obtain ⟨c1, c2⟩ := h6 (by decide)
    have hx : x.toNat < xs.length := by omega
    have e2 := getD_of (pr_at1 (x := x) b2)
    have hsn : s.toNat = xs.length := by omega
    have hlen : (prL 0 xs 1 s x).length = xs.length + 1 := by
      unfold prL
      rw [if_pos rfl, if_neg (by decide), if_pos rfl]
      simp
    have hxx : (prL 0 xs 1 s x).getD x.toNat noSS = xs.getD x.toNat noSS := by
      rw [List.getD_eq_getElem?_getD, List.getD_eq_getElem?_getD, pr_at1o hx]
    rw [hxx] at c2
    have hfi : (dupI ((prL 0 xs 1 s x).take s.toNat) ((prL 0 xs 1 s x).getD s.toNat noSS)).isSome = true := by
      unfold dupI
      rw [List.findIdx?_isSome, List.any_eq_true]
      refine ⟨xs.getD x.toNat noSS, ?_, ?_⟩
      · rw [List.mem_iff_getElem?]
        refine ⟨x.toNat, ?_⟩
        rw [List.getElem?_take_of_lt (by omega), pr_at1o hx, List.getElem?_eq_getElem hx, List.getD_eq_getElem?_getD, List.getElem?_eq_getElem hx]
        rfl
      · rw [c2, e2, adr_self]
        rfl
    obtain ⟨j, hj⟩ := Option.isSome_iff_exists.1 hfi
    refine ⟨(j : Int), ft_in (i := s.toNat) (by omega) ?_⟩
    unfold ftAt
    rw [if_neg (by rw [c1]; decide), hj]
    exact List.mem_append_left _ (List.mem_singleton.2 (by rw [show ((s.toNat : Nat) : Int) = s by omega]))
  · have hs := h0 h8 e1
    have e2 := getD_of (pr_at (x := x) h8 e1 hs0 hs)
    have hlen : (prL 0 xs k s x).length = xs.length := by
      unfold prL
      rw [if_pos rfl, if_neg h8, if_neg e1]
      simp
    refine ⟨0, ft_in (i := s.toNat) (by omega) ?_⟩
    unfold ftAt
    by_cases e3 : k = 3
    · subst e3
      rw [if_pos (by rw [e2]; unfold prS; rw [if_neg (by decide), if_pos rfl]), show ((s.toNat : Nat) : Int) = s by omega]
      exact List.mem_singleton.2 rfl
    · obtain ⟨c1, _⟩ := h6 e3
      rw [if_neg (by rw [c1]; decide), show ((s.toNat : Nat) : Int) = s by omega]
      refine List.mem_append_right _ (List.mem_append_right _ ?_)
      by_cases e4 : k = 4
      · subst e4
        rw [e2, if_pos (by unfold prS; rw [if_neg (by decide), if_neg (by decide), if_pos rfl])]
        exact List.mem_append_left _ (List.mem_singleton.2 rfl)
      · have e6 : k = 6 := by
          unfold feB at hf
          rw [Bool.and_eq_true, if_neg e1, if_neg k7, if_neg h8, Bool.and_eq_true] at hf
          have := inB_yes hf.2.1
          omega
        subst e6
        rw [e2]
        refine List.mem_append_right _ ?_
        rw [if_pos (by unfold prS; rw [if_neg (by decide), if_neg (by decide), if_neg (by decide)])]
        exact List.mem_singleton.2 rfl
end Go.Proofs.YthelfgagddldfaaGreatDoor
