/- Walks of the laws' own helpers: slices of whole numbers. -/
import Derived.Test.YtjjcedodjoieoaaMem4
import Derived.Test.YtjjcedodjoieoaaW2
import Derived.Deep.DeepMust
namespace Go.Proofs.Ytjjcedodjoieoaa
open Go.RowKit
set_option linter.unusedVariables false

end Go.Proofs.Ytjjcedodjoieoaa
