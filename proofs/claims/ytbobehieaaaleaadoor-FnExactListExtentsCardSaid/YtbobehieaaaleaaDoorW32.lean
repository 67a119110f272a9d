/- Walks: ValidDisc. -/
import Derived.Test.YtbobehieaaaleaaDoorW31
namespace Go.Proofs.YtbobehieaaaleaaDoor
open Go.RowKit
set_option linter.unusedVariables false

end Go.Proofs.YtbobehieaaaleaaDoor
