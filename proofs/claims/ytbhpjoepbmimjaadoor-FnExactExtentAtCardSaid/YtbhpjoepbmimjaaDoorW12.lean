/- Walks: runs of equal bytes. -/
import Derived.Test.YtbhpjoepbmimjaaDoorPkM
import Derived.Test.YtbhpjoepbmimjaaDoorW10
namespace Go.Proofs.YtbhpjoepbmimjaaDoor
open Go.RowKit
set_option linter.unusedVariables false

end Go.Proofs.YtbhpjoepbmimjaaDoor
