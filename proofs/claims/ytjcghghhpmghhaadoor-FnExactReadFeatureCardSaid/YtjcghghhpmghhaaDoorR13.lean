/- A law whose row reads one package-level variable, left as it was. -/
import Derived.Test.YtjcghghhpmghhaaDoorR12
import Derived.OpenShut
import Derived.ChangeVars
namespace Go.Proofs.YtjcghghhpmghhaaDoor
open Go.ChangeShapes Go.WideShapes Go.ChangeAt Go.RowKit Go.Deep Go.WideMaps Go.WideElems
set_option linter.unusedVariables false
section
variable {H : Type} {enc : TypeId × Value → H} {P : Program}
theorem law_post1 (hl : laidOutB P = true) {f : Func} {s : ChangeSpec} {W W' : World} {args : Array Value} {ds gs : List (DataW H)} {before : List MemPlace} {tb : TypeId} {n : String}
    (hv : s.vars = [n]) (hres : f.resultTypes = #[tb]) (htb : P.underlying tb = some .bool)
    (hT : (f.params.toList.all fun t => P.readableRec t && decide (t < P.types.size)) = true)
    (hG : ∀ g t, P.globalNamed n = some g → (P.globals[g]?).map (·.type) = some t → P.readableRec t = true ∧ t < P.types.size)
    (hW : DataW.Whole enc P f.params.toList s.vars false W args.toList ds gs before)
    (hfn : s.fn H (ds ++ gs) = { results := [.lit (.bool true)], args := ds, vars := gs }) (hb : Below W.heap.size W W') :
    s.post enc P f false true false false W args (.bool true) W' := by
  have hlt : ∀ x ∈ before, x.block < W.heap.size := fun x hx => hW.lt x hx
  have hW2 := hW
  obtain ⟨p, q, hA, hV, e, _, _⟩ := hW2
  subst e
  refine post_of_below (pa := p) (pv := q) hW ?_ ?_ ?_ rfl hb ?_
  · intro b sp hd
    rw [hfn, hres]
    exact trodAll_mk1 (shut_bool htb true)
  · intro sp hsp
    rw [hfn]
    refine trodAll_stays hl hb sp ?_ hA (fun x hx => ⟨hlt x (by simp [hx]), hsp x (by simp [hx])⟩)
    intro t ht
    have := List.all_eq_true.1 hT t ht
    simpa using this
  · intro sp hsp
    rw [hfn]
    show DataW.TrodVars enc P W' sp s.vars gs q
    rw [hv] at hV ⊢
    obtain ⟨g, t, cs, fuel, d, p', rfl, h1, h2, h3, h4, rfl⟩ := trodVars_one hV
    obtain ⟨hr, hrow⟩ := hG g t h1 h2
    have hg : g < W.heap.size := by
      have h5 := h3
      simp only [World.var?, h1, Option.bind_some] at h5
      split at h5
      · rename_i hb0
        exact (Array.getElem?_eq_some_iff.1 hb0).1
      · cases h5
    have h3' : W'.var? P n = some cs := by
      have h5 := h3
      simp only [World.var?, h1, Option.bind_some] at h5 ⊢
      rw [hb.block g hg]
      exact h5
    exact trodVars_mk1 h1 h2 h3' (DataW.trod_stays (kids_book hl hr) (book_sized hr) (fun h => by cases h) ⟨hrow, book_self t⟩ h4 (fun x hx => hb.same (hlt x (by simp [hx]))) (fun x hx => hsp x (by simp [hx])))
  · exact ok_one hres rfl (okWide_bool_mk htb true)
end
end Go.Proofs.YtjcghghhpmghhaaDoor
