/- Plain functions: the image of a container is valid. -/
import Derived.Test.YtjjcedodjoieoaaDecM
namespace Go.Proofs.Ytjjcedodjoieoaa
open Go.RowKit
set_option linter.unusedVariables false

theorem miss_ok {s : Int} {nb : Nat} (h : szB s = (nb : Int)) : secX s (miss nb) = true := by
  have h1 : (szB s).toNat = nb := by rw [h]; exact Int.toNat_natCast nb
  rw [secX, h1, miss, sec_4 (zerosB_size nb) (by decide) rfl]
  simp
theorem img_ok {L : List DChunk} {X : Im} (h : imgOf L = some X) : okD X.c X.h X.p X.s X.l = true ∧ X.n.length ≤ 8 ∧ ∀ x ∈ X.n, noteB x = true := by
  unfold imgOf at h
  split at h
  · rename_i h2
    split at h
    · rename_i hg
      obtain ⟨⟨g1, g2⟩, g3, g4⟩ := hg
      obtain ⟨n1, n2, n3, n4, n5, n6, n7, n8, n9, n10, n11, n12, n13, n14⟩ := hd_nums g2
      unfold bodyOf at h
      cases hd : decG (hdT L[0].f1) (hdP L[0].f1) (hdNb L[0].f1) (hdS L[0].f1) (mid L) (hdL L[0].f1) [] with
      | none => rw [hd] at h; cases h
      | some r =>
        rw [hd] at h
        simp only [Option.map_some, Option.some.injEq] at h
        subst h
        have hn : ∀ x ∈ hdL L[0].f1, secX (hdS L[0].f1) x = true := by
          intro x hx
          unfold hdL newS at hx
          rw [(List.mem_replicate.1 hx).2]
          refine miss_ok (s := hdS L[0].f1) ?_
          rw [n11]
          rw [hdNb] at n7
          exact n7
        obtain ⟨k1, k2, k3, k4⟩ := decG_in _ _ _ r hd n9 hn (by simp) (by simp)
        refine ⟨okD_all ?_ ?_ ?_, k3, k4⟩
        · exact n12
        · show (r.1.length : Int) = (bt L[0].f1 3 : Int) * (bt L[0].f1 4 : Int) * (bt L[0].f1 5 : Int)
          rw [n1, n10, k1, Int.natCast_mul]
        · intro k hk
          exact k2 _ (List.getElem_mem hk)
    · cases h
  · cases h
theorem decR_img {t : ByteArray} {X : Im} (h : decR t = some X) : imgOf (dkL t) = some X ∧ decC t = 0 ∧ dkN t = t.size ∧ t.size ≤ 8192 := by
  unfold decR at h
  split at h
  · cases h
  · rename_i h1
    split at h
    · rename_i h2
      refine ⟨h, ?_, h2, by omega⟩
      unfold decC
      rw [if_neg h1, if_pos h2, h]
      rfl
    · cases h
theorem okD_len {c h p s : Int} {l : List DSector} (g : okD c h p s l = true) : l.length ≤ 128 := by
  obtain ⟨g1, g2, g3⟩ := okD_geo g
  obtain ⟨c1, c2, h1, h2, p1, p2, s1, s2⟩ := geoB_yes g1
  obtain ⟨m1, m2⟩ := prod2 c1 c2 h1 h2
  obtain ⟨q1, q2⟩ := prod3 m1 m2 p1 p2
  omega
theorem dec_lens (t : ByteArray) : (imD (decR t)).l.length ≤ 1048576 ∧ (imD (decR t)).n.length ≤ 1048576 := by
  cases h : decR t with
  | none => exact ⟨by show [].length ≤ _; simp, by show [].length ≤ _; simp⟩
  | some X =>
    obtain ⟨h1, h2, -⟩ := img_ok (decR_img h).1
    have := okD_len h1
    exact ⟨by show X.l.length ≤ _; omega, by show X.n.length ≤ _; omega⟩
theorem dec_none {t : ByteArray} (h : decR t = none) : decC t ≠ 0 := by
  unfold decR at h
  unfold decC
  split at h
  · rename_i h1; rw [if_pos h1]; decide
  · rename_i h1
    rw [if_neg h1]
    split at h
    · rename_i h2; rw [if_pos h2, h]; decide
    · rename_i h2; rw [if_neg h2]; decide
end Go.Proofs.Ytjjcedodjoieoaa
