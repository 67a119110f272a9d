/- Walks: the reference's unpacking with references. -/
import Derived.Test.YtjahgknehamlpaaW10
namespace Go.Proofs.Ytjahgknehamlpaa
open Go.RowKit
set_option linter.unusedVariables false

end Go.Proofs.Ytjahgknehamlpaa
