/- Walks: valid devices (impl). -/
import Derived.Test.YtbobehieaaaleaaDoorW70
import Derived.Test.YtbobehieaaaleaaDoorW32
import Derived.Test.YtbobehieaaaleaaDoorShelf2
namespace Go.Proofs.YtbobehieaaaleaaDoor
open Go.RowKit
set_option linter.unusedVariables false

theorem flatI_get (m : List Int) (j : Nat) (h : j < m.length) : (flat fI m)[j]? = some (.int .i64 m[j]) := by
  have := flat_get fI 1 fI_len m j 0 h (by omega)
  simpa [fI] using this