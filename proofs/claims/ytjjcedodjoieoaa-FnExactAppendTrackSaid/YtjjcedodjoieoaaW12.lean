/- Walks: runs of equal bytes. -/
import Derived.Test.YtjjcedodjoieoaaPkM
import Derived.Test.YtjjcedodjoieoaaW10
namespace Go.Proofs.Ytjjcedodjoieoaa
open Go.RowKit
set_option linter.unusedVariables false

end Go.Proofs.Ytjjcedodjoieoaa
