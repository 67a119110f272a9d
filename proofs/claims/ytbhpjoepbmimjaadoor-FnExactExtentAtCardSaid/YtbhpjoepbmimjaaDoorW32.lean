/- Walks: ValidDisc. -/
import Derived.Test.YtbhpjoepbmimjaaDoorW31
namespace Go.Proofs.YtbhpjoepbmimjaaDoor
open Go.RowKit
set_option linter.unusedVariables false

end Go.Proofs.YtbhpjoepbmimjaaDoor
