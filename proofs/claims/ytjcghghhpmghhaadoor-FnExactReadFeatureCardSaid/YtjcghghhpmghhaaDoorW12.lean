/- Walks: runs of equal bytes. -/
import Derived.Test.YtjcghghhpmghhaaDoorPkM
import Derived.Test.YtjcghghhpmghhaaDoorW10
namespace Go.Proofs.YtjcghghhpmghhaaDoor
open Go.RowKit
set_option linter.unusedVariables false

end Go.Proofs.YtjcghghhpmghhaaDoor
