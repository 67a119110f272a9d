/- Walks: the reference's unpacking with references. -/
import Derived.Test.YticnmljahnnhcaaW10
namespace Go.Proofs.Yticnmljahnnhcaa
open Go.RowKit
set_option linter.unusedVariables false

end Go.Proofs.Yticnmljahnnhcaa
