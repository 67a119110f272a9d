/- The row ReadFeature's premises give what the walks ask of the package-level variables. -/
import Derived.Test.YtjcghghhpmghhaaDoorR11
import Derived.Test.YtjcghghhpmghhaaDoorRows
import Derived.Lib.LaidTab
import Derived.Stop.LaidErr
import Derived.HandedShaped
import Derived.MakeChecks
import Derived.Shelf.Vars
import Derived.Handed
namespace Go.Proofs.YtjcghghhpmghhaaDoor
open Go.ChangeShapes Go.WideShapes Go.ChangeAt Go.RowKit Go.Lib
set_option linter.unusedVariables false
set_option linter.unusedSimpArgs false

def laidRF : List (String × DataW Unit) := [("math/bits.deBruijn32tab", Rows.laid_math_bits_deBruijn32tab), ("math/bits.deBruijn64tab", Rows.laid_math_bits_deBruijn64tab), ("internal/strconv.uint64pow10", Rows.laid_internal_strconv_uint64pow10), ("unicode/utf8.acceptRanges", Rows.laid_unicode_utf8_acceptRanges), ("strconv.ErrRange", Rows.laid_strconv_ErrRange), ("strconv.ErrSyntax", Rows.laid_strconv_ErrSyntax), ("loop.example/g00899/impl.featureWords", Rows.laid_loop_example_g00899_impl_featureWords), ("unicode/utf8.first", Rows.laid_unicode_utf8_first)]
theorem rf_row (u : TypeId) (h : Tryd.prog.typeName? 3 u = some "*errors.errorString") : u = 102 :=
  typeName_ptr_named (nm := "errors.errorString") (by rw [show "*" ++ "errors.errorString" = "*errors.errorString" by decide]; kernel_rfl) (by kernel_rfl) (by decide) u (by rw [show "*" ++ "errors.errorString" = "*errors.errorString" by decide]; exact h)
theorem rf_words {W : World} {r : List (String × DataW Unit)} (h : laidMet Tryd.prog (("loop.example/g00899/impl.featureWords", Rows.laid_loop_example_g00899_impl_featureWords) :: r) W) (k : Nat) (hk : k < kwB.length) : W.cell? ⟨0, k, none⟩ = some (.string kwB[k]) := by
  obtain ⟨ps, ⟨g, t, cs, fuel, p, q, hg, ht, hv, hd, _, _⟩, _, _⟩ := h
  obtain rfl := Option.some.inj ((show Tryd.prog.globalNamed "loop.example/g00899/impl.featureWords" = some 0 by kernel_rfl).symm.trans hg)
  obtain rfl := Option.some.inj ((show (Tryd.prog.globals[0]?).map (·.type) = some 53 by kernel_rfl).symm.trans ht)
  obtain ⟨xs, m, _, ex, _, hl, hel⟩ := DataW.trod_array (show Tryd.prog.underlying 53 = some (.array 9 9) by kernel_rfl) hd
  have hk9 : k < 9 := hk
  have c9 : Tryd.prog.cellsOf 9 = 1 := by kernel_rfl
  have hE := hel k hk9
  rw [c9, Nat.mul_one, List.getElem?_eq_getElem (by omega)] at hE
  obtain ⟨z, e1, e2, _⟩ := DataW.trod_string Tryd.underlying9 hE
  have e3 : (xs.map (·.1)) = kwB.map fun n => (.lit (.string n.data.toList) : DataW Unit) := (DataW.agg.inj (Prod.mk.inj ex).1).symm
  have e4 : (xs.map (·.1))[k]? = (kwB.map fun n => (.lit (.string n.data.toList) : DataW Unit))[k]? := by rw [e3]
  rw [List.getElem?_map, List.getElem?_map, List.getElem?_eq_getElem (by omega : k < xs.length), List.getElem?_eq_getElem hk, e2] at e4
  have hz : z = kwB[k] := by
    simp only [Option.map_some, Option.some.injEq, DataW.lit.injEq, Lit.string.injEq] at e4
    have e5 : z.data.toList = kwB[k].data.toList := e4
    exact ByteArray.ext (Array.toList_inj.1 e5)
  rw [World.var?_cell hg hv k]
  have h8 : cs.toList[k]? = some (.string z) := by
    have h0 : ((cs.toList.drop k).take 1)[0]? = some (.string z) := by rw [e1]; rfl
    simpa using h0
  have h9 : cs[k]? = some (.string z) := by simpa using h8
  exact h9.trans (congrArg (fun x => some (Value.string x)) hz)
theorem gw_of {W : World} (h0 : laidMetH Tryd.prog laidRF W) (sh : W.ShapedOpen Tryd.prog) : GW W := by
  rw [MakeChecks.laidMetH_plain _ _ _ (by kernel_rfl)] at h0
  have h1 := h0.tail.tail
  have h2 := h1.tail.tail
  have h3 := h2.tail
  have h4 := h3.tail
  obtain ⟨a1, s1, v1, _⟩ := laid_sentinel h2 (show Tryd.prog.globalNamed "strconv.ErrRange" = some 5 by kernel_rfl) (show (Tryd.prog.globals[5]?).map (·.type) = some 49 by kernel_rfl) (show Tryd.prog.underlying 49 = some (.interface #[("Error", 52)]) by kernel_rfl) rf_row (show Tryd.prog.underlying 102 = some (.pointer 104) by kernel_rfl) (show Tryd.prog.underlying 104 = some (.struct #[⟨ "s", 9, 0, false, "", "errors", 0⟩]) by kernel_rfl) rfl rfl Tryd.underlying9 (show Tryd.prog.cellsOf 104 = 1 by kernel_rfl) (show Tryd.prog.cellsOf 9 = 1 by kernel_rfl)
  obtain ⟨a2, s2, v2, _⟩ := laid_sentinel h3 (show Tryd.prog.globalNamed "strconv.ErrSyntax" = some 4 by kernel_rfl) (show (Tryd.prog.globals[4]?).map (·.type) = some 49 by kernel_rfl) (show Tryd.prog.underlying 49 = some (.interface #[("Error", 52)]) by kernel_rfl) rf_row (show Tryd.prog.underlying 102 = some (.pointer 104) by kernel_rfl) (show Tryd.prog.underlying 104 = some (.struct #[⟨ "s", 9, 0, false, "", "errors", 0⟩]) by kernel_rfl) rfl rfl Tryd.underlying9 (show Tryd.prog.cellsOf 104 = 1 by kernel_rfl) (show Tryd.prog.cellsOf 9 = 1 by kernel_rfl)
  have c1 := World.var?_cell (show Tryd.prog.globalNamed "strconv.ErrRange" = some 5 by kernel_rfl) v1 0
  have c2 := World.var?_cell (show Tryd.prog.globalNamed "strconv.ErrSyntax" = some 4 by kernel_rfl) v2 0
  obtain ⟨m, hm⟩ : ∃ m, W.cell? ⟨1, 0, none⟩ = some (.int .i64 m) := cell_of_shapedOpen_int (zero := #[.int .i64 0]) (t := 3) sh (of_decide_eq_true (by kernel_rfl)) (by kernel_rfl) rfl (by kernel_rfl) (by kernel_rfl) (show Tryd.prog.underlying 3 = some (.int .i64) by kernel_rfl)
  have hsz : 8 < W.heap.size := by
    have h7 : (((begin Tryd.prog (fun _ _ => 0) default).world.heap[8]?).bind Obj.row?).isSome = true := by kernel_rfl
    obtain ⟨⟨z, t⟩, hz⟩ := Option.isSome_iff_exists.1 h7
    obtain ⟨cs, hh, _⟩ := sh.1 8 z t (of_decide_eq_true (by kernel_rfl)) hz
    exact (Array.getElem?_eq_some_iff.1 hh).1
  exact ⟨tabIs_of_head (zs := Lib.pow10Tab) (show Tryd.prog.globalNamed "internal/strconv.uint64pow10" = some 6 by kernel_rfl) (show (Tryd.prog.globals[6]?).map (·.type) = some 98 by kernel_rfl) (show Tryd.prog.underlying 98 = some (.array 20 73) by kernel_rfl) (show Tryd.prog.underlying 73 = some (.int .u64) by kernel_rfl) (by kernel_rfl) (by kernel_rfl) (show laidMet Tryd.prog (("internal/strconv.uint64pow10", tabData .u64 Lib.pow10Tab) :: _) W from h1), ⟨_, _, by simpa using c2⟩, ⟨_, _, by simpa using c1⟩, ⟨m, hm⟩, rf_words h4, hsz⟩
section
variable {H : Type} {enc : TypeId × Value → H}
theorem returnsInHanded_of_change_and_shaped {a : Assume} {C : Checked} {os : Os} {f : FuncId} {fn : Func} {s : ChangeSpec} {conds : List PathCond} {apart fresh handsOn again : Bool} {X : World → Array Value → Prop}
    (hX : ∀ (w w' : World) (args : Array Value), w.heap = w'.heap → X w args → X w' args)
    (own : ownKnob C.prog.godebug = none) (started : os.Started) (noInit : C.prog.inits.idxOf? f = none) (hfn : C.prog.funcs[f]? = some fn)
    (witness : ∃ (w : World) (tape : Tape) (i : Input), w.os = os ∧ (w.forCall tape i).Shaped C.prog ∧ i.vars = [] ∧ Input.okWide C.prog (w.forCall tape i) .any w.heap.size f i ∧
      ((s.pre enc C.prog fn conds apart (w.forCall tape i).memory i.args ∧ X (w.forCall tape i).memory i.args) ∧ sizedMet enc C.prog fn (OpenSpec.ofChange s) apart (w.forCall tape i).memory i.args) ∧ a.holds C.prog (lone (Frame.enter C.prog f i.args .normal) [] (w.forCall tape i)))
    (contract : ∀ (W : World) (base : Nat) (args : Array Value) (ds gs : List (DataW H)) (before : List MemPlace),
      (∀ (j : Nat) t v, fn.params[j]? = some t → args[j]? = some v → Value.okWide C.prog W .any base t v) →
      DataW.Whole enc C.prog fn.params.toList s.vars apart W args.toList ds gs before → X W args → W.ShapedOpen C.prog →
      Calls C.prog f args W fun e W' => ∃ v, e = .returned v ∧ s.post enc C.prog fn apart fresh handsOn again W args v W') :
    ReturnsInHanded a C os f .any (fun w args => (s.pre enc C.prog fn conds apart w args ∧ X w args) ∧ sizedMet enc C.prog fn (OpenSpec.ofChange s) apart w args) (s.post enc C.prog fn apart fresh handsOn again) := by
  refine returnsInHanded_of_calls own started noInit witness ?_
  intro w tape i _ hsh _ hok hpre hholds
  obtain ⟨_, _, _, fn', hfn', _, _, _, _, hval⟩ := hok
  have e : fn' = fn := Option.some.inj (hfn'.symm.trans hfn)
  subst e
  obtain ⟨⟨⟨ds, gs, before, hw, hc⟩, hx⟩, hz⟩ := hpre
  have hw' := DataW.Whole.of_heap (w' := w.forCall tape i) (by rfl) hw
  refine (contract (w.forCall tape i) w.heap.size i.args ds gs before hval hw' (hX _ _ _ (by rfl) hx) hsh).mono fun e W' ⟨v, he, hp⟩ => ?_
  subst he
  exact ChangeSpec.post_blind hp
end
end Go.Proofs.YtjcghghhpmghhaaDoor
