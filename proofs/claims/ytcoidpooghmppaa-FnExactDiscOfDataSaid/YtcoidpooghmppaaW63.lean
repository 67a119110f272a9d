/- Walks: DiscOfData. -/
import Derived.Test.YtcoidpooghmppaaW62
namespace Go.Proofs.Ytcoidpooghmppaa
open Go.RowKit
set_option linter.unusedVariables false

theorem BX.drw {w : World} {g : Nat} {t : TypeId} {vs : List Value} (h : BX w g t vs) : BX w.drew g t vs := h
def cutS (s : ByteArray) (n i : Nat) : List DSector := (List.range i).map fun j => ⟨s.extract (j * n) (j * n + n), 1⟩
def mixS (s : ByteArray) (n m i : Nat) : List DSector := cutS s n i ++ List.replicate (m - i) (miss n)
theorem cutS_len (s : ByteArray) (n i : Nat) : (cutS s n i).length = i := by simp [cutS]
theorem mixS_zero (s : ByteArray) (n m : Nat) : mixS s n m 0 = List.replicate m (miss n) := by simp [mixS, cutS]
theorem mixS_all (s : ByteArray) (n m : Nat) : mixS s n m m = cutS s n m := by simp [mixS]
theorem mixS_put (s : ByteArray) (n m i a e : Nat) (h : i < m) (ha : i * n = a) (he : a + n = e) : putV (flat fSector (mixS s n m i)) (i * 2) (fSector ⟨s.extract a e, 1⟩) = flat fSector (mixS s n m (i + 1)) := by
  subst ha he
  have := flat_put fSector 2 fSector_len (cutS s n i) (List.replicate (m - (i + 1)) (miss n)) (miss n) ⟨s.extract (i * n) (i * n + n), 1⟩
  rw [cutS_len] at this
  unfold mixS
  rw [show m - i = (m - (i + 1)) + 1 by omega, List.replicate_succ, this]
  simp [cutS, List.range_succ]

def doB (c h p s : Int) (t : ByteArray) : Bool := geoB c h p s && decide (t.size = (szB s).toNat * secN c h p)
/-- A part of the disc; 0 where there is none. -/
def doX (c h p s : Int) (t : ByteArray) (x : Int) : Int := if doB c h p s t = true then x else 0
def doC (c h p s : Int) (t : ByteArray) : Int := if geoB c h p s = true then (if doB c h p s t = true then 0 else 7) else 2
def doL (c h p s : Int) (t : ByteArray) : List DSector := if doB c h p s t = true then cutS t (szB s).toNat (secN c h p) else []
theorem doL_len (c h p s : Int) (t : ByteArray) : (doL c h p s t).length ≤ 128 := by
  unfold doL doB
  split
  · rename_i hg
    simp only [Bool.and_eq_true, decide_eq_true_eq] at hg
    obtain ⟨c1, c2, h1, h2, p1, p2, s1, s2⟩ := geoB_yes hg.1
    obtain ⟨m1, m2⟩ := prod2 c1 c2 h1 h2
    obtain ⟨q1, q2⟩ := prod3 m1 m2 p1 p2
    rw [cutS_len]
    unfold secN
    omega
  · simp
end Go.Proofs.Ytcoidpooghmppaa
