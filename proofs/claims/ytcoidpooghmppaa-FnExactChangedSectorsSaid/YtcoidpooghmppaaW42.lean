/- Walks: SameDisc. -/
import Derived.Test.YtcoidpooghmppaaW41
namespace Go.Proofs.Ytcoidpooghmppaa
open Go.RowKit
set_option linter.unusedVariables false

theorem DP.made1 (w : World) (o : Obj) (c h p s : Int) (v : Value) (t : TypeId) : DP ((w.alloc o).alloc (.cells #[.int .i64 c, .int .i64 h, .int .i64 p, .int .i64 s, v] t)) (w.heap.size + 1) c h p s v := by
  have := DP.made (w.alloc o) c h p s v t
  rwa [World.size_alloc] at this
def sameD (c h p s : Int) (l : List DSector) (c' h' p' s' : Int) (m : List DSector) : Bool := alikeB c h p s c' h' p' s' && sameL qSec l m
theorem sameD_1 {c h p s : Int} {l : List DSector} {c' h' p' s' : Int} {m : List DSector} (g : alikeB c h p s c' h' p' s' = false) : sameD c h p s l c' h' p' s' m = false := by simp only [sameD, g, Bool.false_and]
theorem sameD_2 {c h p s : Int} {l : List DSector} {c' h' p' s' : Int} {m : List DSector} (g : alikeB c h p s c' h' p' s' = true) : sameD c h p s l c' h' p' s' m = sameL qSec l m := by simp only [sameD, g, Bool.true_and]

end Go.Proofs.Ytcoidpooghmppaa
