/- append onto an owned row of bytes: of a string, of bytes written out. -/
import Derived.Test.YtlfmpgfobkmgfaaGreatDoorMem2
namespace Go.Proofs.YtlfmpgfobkmgfaaGreatDoor
open Go.RowKit

section
variable {P : Program} {w : World} {base : Nat} {e : TypeId} {v : Value} {l : List UInt8}
theorem OwnB.lt (h : OwnB w base e v l) : ∀ k, v.ownBlock = some k → base ≤ k ∧ k < w.heap.size := World.ownsRow.lt h
theorem OwnB.at_ (h : OwnB w base e v l) (j : Nat) (hj : j < l.length) : ∃ g cap, v = .slice (some ⟨g, 0, none⟩) l.length cap ∧ base ≤ g ∧ g < w.heap.size ∧ w.cell? ⟨g, j, none⟩ = some (.int .u8 (l[j].toNat : Int)) := by
  obtain ⟨g, cap, rfl, hb, hg⟩ := World.ownsRow.form h (by omega)
  refine ⟨g, cap, rfl, hb, hg, ?_⟩
  rw [World.ownsRow.cellAt h j (by omega)]
  simp [bcells, hj]
theorem OwnB.kept {w' : World} {row : Option Nat} (h : OwnB w base e v l) (hg : w.grownBy w' row) (hne : v.ownBlock = none ∨ v.ownBlock ≠ row) : OwnB w' base e v l := World.ownsRow.kept h hg hne
theorem OwnB.later {B : Nat} {w' : World} (h : OwnB w base e v l) (hb : Below B w w') (hB : w.heap.size ≤ B) : OwnB w' base e v l := by
  refine ⟨h.1, ?_⟩
  rcases h.2 with h | ⟨g, cap, cur, hv, h0, hh, hr⟩
  · exact .inl h
  · have := (Array.getElem?_eq_some_iff.1 hh).1
    exact .inr ⟨g, cap, cur, hv, h0, (hb.block g (by omega)).trans hh, hr⟩
theorem below_of_grown {w' : World} (h : OwnB w base e v l) (hbase : base ≤ w.heap.size) (hg : w.grownBy w' v.ownBlock) : Below base w w' :=
  (Below.refl base w).grown hg hbase fun k hk => (h.lt k hk).1

theorem wpList_appS {ops : Array Oper} {rest : List Oper} {o : Oper} {a : Act} {Q : Exit → Act → World → Prop} (hgd : o.guard = none) (s x : Operand) (t tx : TypeId)
    (ho : o.op = .call { callee := .builtin .append, args := #[s, x], argTypes := #[t, tx] }) (E : Elt P t e 1 1 (.int .u8 0)) (htx : P.underlying tx = some .string)
    (v : Value) (l : List UInt8) (hsv : a.eval s = v) (hown : OwnB w base e v l) (str : ByteArray) (hx : a.eval x = .string str)
    (hsz : l.length + str.size ≤ 1000000000) (hbase : base ≤ w.heap.size)
    (h : ∀ v' w', OwnB w' base e v' (l ++ str.data.toList) → w.grownBy w' v.ownBlock → (v'.ownBlock = v.ownBlock ∨ v'.ownBlock = some w.heap.size) → Below base w w' → wpList P ops Q rest (a.put o.dst v') w') :
    wpList P ops Q (o :: rest) a w := by
  refine wpList_app w hgd s x t tx ho base e (.int .u8 0) 1 1 E v l.length (bcells l) hsv hown (.string str) str.size (byteCells str) hx (Src.ofString w htx str) (by unfold maxLen; omega) (by omega) hbase ?_
  intro v' w' h1 h2 h3
  refine h v' w' ?_ h2 h3 (below_of_grown hown hbase h2)
  have hl : (l ++ str.data.toList).length = l.length + str.size := by rw [List.length_append, Array.length_toList]; rfl
  unfold OwnB
  rw [hl, bcells_append, ← byteCells_eq]
  exact h1

theorem wpList_appL {ops : Array Oper} {rest : List Oper} {o : Oper} {a : Act} {Q : Exit → Act → World → Prop} (hgd : o.guard = none) (s x : Operand) (t : TypeId)
    (ho : o.op = .call { callee := .builtin .append, args := #[s, x], argTypes := #[t, t] }) (E : Elt P t e 1 1 (.int .u8 0))
    (v : Value) (l : List UInt8) (hsv : a.eval s = v) (hown : OwnB w base e v l) (cs : Array Value) (te : TypeId) (news : List UInt8) (n c : Nat) (hx : a.eval x = .slice (some ⟨w.heap.size, 0, none⟩) n c)
    (hcs : cs.toList = bcells news) (hn : n = news.length) (hsz : l.length + news.length ≤ 1000000000) (hbase : base ≤ w.heap.size)
    (h : ∀ v' w', OwnB w' base e v' (l ++ news) → (w.alloc (.cells cs te)).grownBy w' v.ownBlock → (v'.ownBlock = v.ownBlock ∨ v'.ownBlock = some (w.heap.size + 1)) → Below base w w' → wpList P ops Q rest (a.put o.dst v') w') :
    wpList P ops Q (o :: rest) a (w.alloc (.cells cs te)) := by
  subst hn
  have hcl : cs.size = news.length := by rw [← Array.length_toList, hcs, bcells_length]
  refine wpList_app (w.alloc (.cells cs te)) hgd s x t t ho base e (.int .u8 0) 1 1 E v l.length (bcells l) hsv (World.ownsRow.alloc hown _) _ news.length (bcells news) hx ?_ (by unfold maxLen; omega) (by omega) (by rw [World.size_alloc]; omega) ?_
  · rw [← hcs]
    refine Src.lit E.ht w cs te news.length c (by omega) ?_
    rw [hcs]
    exact bcells_one news
  · intro v' w' h1 h2 h3
    refine h v' w' ?_ h2 (by simpa using h3) ((Below.refl base w).alloc hbase _ |>.trans (below_of_grown (OwnB.alloc hown _) (by rw [World.size_alloc]; omega) h2))
    unfold OwnB
    rw [List.length_append, bcells_append]
    exact h1
end
end Go.Proofs.YtlfmpgfobkmgfaaGreatDoor
