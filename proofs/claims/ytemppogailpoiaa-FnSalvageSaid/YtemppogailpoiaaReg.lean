/- A law for a region that draws its order: one relation, indexed by what has been done, kept by every operation. -/
import Derived.Test.YtemppogailpoiaaMem
import Derived.Orders
namespace Go.Proofs.Ytemppogailpoiaa
open Go.RowKit

section
variable {P : Program} {ops : Array Oper} {Q : Exit → Act → World → Prop}

/-- Every operation hangs on earlier ones alone. -/
def textOrder (ops : Array Oper) : Bool := (List.range ops.size).all fun j => match ops[j]? with
  | some o => o.after.all fun e => decide (e.on < j) && Region.binds .any e
  | none => true

theorem textOrder_spec (h : textOrder ops = true) {j : Nat} {o : Oper} (ho : ops[j]? = some o) : ∀ e ∈ o.after, e.on < j ∧ Region.binds .any e = true := by
  intro e he
  have hj : j < ops.size := (Array.getElem?_eq_some_iff.1 ho).1
  have h1 := List.all_eq_true.1 h j (List.mem_range.2 hj)
  simp only [ho] at h1
  have h2 := Array.all_eq_true_iff_forall_mem.1 h1 e he
  simpa using h2

theorem ready_of_least (h : textOrder ops = true) (listed : Array Bool) (hs : listed.size = ops.size) : ∀ j, j < ops.size → listed.getD j false = false → Region.ready .any ops listed ≠ [] := by
  intro j
  induction j using Nat.strongRecOn with
  | _ j ih =>
    intro hj hl hnil
    by_cases hd : ∃ i, i < j ∧ listed.getD i false = false
    · obtain ⟨i, hij, hi⟩ := hd
      exact ih i hij (by omega) hi hnil
    · have hm : j ∈ Region.ready .any ops listed := by
        rw [mem_ready]
        refine ⟨?_, ops[j], Array.getElem?_eq_getElem hj, ?_⟩
        · have : j < listed.size := by omega
          simp [this] at hl ⊢
          exact hl
        · intro e he _
          have he2 := (textOrder_spec h (Array.getElem?_eq_getElem hj) e he).1
          cases hc : listed.getD e.on false
          · exact absurd ⟨e.on, he2, hc⟩ hd
          · rfl
      rw [hnil] at hm
      cases hm

theorem count_set (l : List Bool) : ∀ (i : Nat), l[i]? = some false → (l.set i true).count false + 1 = l.count false := by
  induction l with
  | nil => intro i h; simp at h
  | cons b l ih =>
    intro i h
    cases i with
    | zero =>
      simp at h
      subst h
      simp
    | succ i =>
      simp only [List.getElem?_cons_succ] at h
      have := ih i h
      cases b <;> simp <;> omega

theorem wpAny_inv (hto : textOrder ops = true) (I : (Nat → Bool) → Act → World → Prop)
    (hstep : ∀ i o, ops[i]? = some o → ∀ D : Nat → Bool, D i = false → (∀ e ∈ o.after, D e.on = true) → ∀ a w, I D a w → wpOp P ops Q i (I (fun j => j == i || D j)) a w)
    (hend : ∀ D : Nat → Bool, (∀ i, i < ops.size → D i = true) → ∀ a w, I D a w → Q .normal a w) :
    ∀ (fuel : Nat) (listed : Array Bool), listed.size = ops.size → listed.toList.count false = fuel → ∀ a w, I (fun j => listed.getD j false) a w → wpAny P .any ops Q fuel listed a w := by
  intro fuel
  induction fuel with
  | zero =>
    intro listed hs hc a w hI
    have hall : ∀ i, i < ops.size → listed.getD i false = true := by
      intro i hi
      have hil : i < listed.size := by omega
      have hm : listed[i] ∈ listed.toList := Array.getElem_mem_toList hil
      have hne : listed[i] ≠ false := by
        intro he
        rw [he] at hm
        exact absurd hc (by have := List.count_pos_iff.2 hm; omega)
      simp [hil]
      simpa using hne
    refine ⟨?_, hend _ hall a w hI⟩
    cases hr : Region.ready .any ops listed with
    | nil => rfl
    | cons j rs =>
      have hj : j ∈ Region.ready .any ops listed := by rw [hr]; simp
      obtain ⟨h0, o, ho, _⟩ := mem_ready.1 hj
      have hjl : j < ops.size := (Array.getElem?_eq_some_iff.1 ho).1
      have h1 := hall j hjl
      have hil : j < listed.size := by omega
      simp [hil] at h0 h1
      rw [h0] at h1
      cases h1
  | succ fuel ih =>
    intro listed hs hc a w hI
    refine ⟨?_, ?_⟩
    · intro hnil
      have hmem : false ∈ listed.toList := List.count_pos_iff.1 (by omega)
      obtain ⟨i, hi, he⟩ := List.mem_iff_getElem.1 hmem
      have hil : i < listed.size := by simpa using hi
      exact absurd hnil (ready_of_least hto listed hs i (by omega) (by simp [hil]; simpa using he))
    · intro i hi
      obtain ⟨h0, o, ho, hdep⟩ := mem_ready.1 hi
      have hil : i < listed.size := by have := (Array.getElem?_eq_some_iff.1 ho).1; omega
      have hf : listed.getD i false = false := by simp [hil] at h0 ⊢; exact h0
      have hst := hstep i o ho (fun j => listed.getD j false) hf (fun e he => hdep e he (textOrder_spec hto ho e he).2) a w hI
      refine wpOp_mono (fun a' w' hI' => ?_) hst
      refine ih (listed.setIfInBounds i true) (by simpa using hs) ?_ a' w' ?_
      · have := count_set listed.toList i (by simp [hil] at hf; simp [hil, hf])
        rw [Array.toList_setIfInBounds]
        omega
      · have hfun : (fun j => (listed.setIfInBounds i true).getD j false) = fun j => j == i || listed.getD j false := by
          funext j
          by_cases hij : i = j
          · subst hij
            simp [hil]
          · rw [getD_set_ne false hij]
            have : (j == i) = false := by simp; omega
            rw [this]
            rfl
        rw [hfun]
        exact hI'

theorem wp_region_inv {id : Nat} {a : Act} {w : World} (hm : P.follows .mixedOrders = true) (hto : textOrder ops = true) (I : (Nat → Bool) → Act → World → Prop)
    (h0 : I (fun _ => false) a w.drew)
    (hstep : ∀ i o, ops[i]? = some o → ∀ D : Nat → Bool, D i = false → (∀ e ∈ o.after, D e.on = true) → ∀ a w, I D a w → wpOp P ops Q i (I (fun j => j == i || D j)) a w)
    (hend : ∀ D : Nat → Bool, (∀ i, i < ops.size → D i = true) → ∀ a w, I D a w → Q .normal a w) : (Code.region id ops true).wp P Q a w := by
  refine wp_region_any hm (wpAny_inv hto I hstep hend ops.size _ (by simp) (by simp) a _ ?_)
  have : (fun j => (Array.replicate ops.size false).getD j false) = fun _ => false := by
    funext j
    by_cases hj : j < ops.size <;> simp [hj]
  rw [this]
  exact h0

theorem wpOp_at {i : Nat} {o : Oper} {K : Act → World → Prop} {a : Act} {w : World} (ho : ops[i]? = some o) (hg : o.guard = none) (h : o.wp P a w K Q) : wpOp P ops Q i K a w := by
  unfold wpOp
  simp only [ho]
  rw [if_pos (by simp [Region.wanted, hg])]
  exact .inl h
end
end Go.Proofs.Ytemppogailpoiaa
