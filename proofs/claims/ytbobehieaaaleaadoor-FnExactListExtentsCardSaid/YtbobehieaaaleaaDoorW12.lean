/- Walks: runs of equal bytes. -/
import Derived.Test.YtbobehieaaaleaaDoorPkM
import Derived.Test.YtbobehieaaaleaaDoorW10
namespace Go.Proofs.YtbobehieaaaleaaDoor
open Go.RowKit
set_option linter.unusedVariables false

end Go.Proofs.YtbobehieaaaleaaDoor
