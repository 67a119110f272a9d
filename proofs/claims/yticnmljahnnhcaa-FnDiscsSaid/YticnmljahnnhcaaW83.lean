/- For the law of PutSector: what a drawn region that makes a block beside calls leaves. -/
import Derived.Test.YticnmljahnnhcaaW81
import Derived.Test.YticnmljahnnhcaaPut
import Derived.Test.YticnmljahnnhcaaSSector
import Derived.Test.YticnmljahnnhcaaSDisc
import Derived.Deep.RegionHeld3
import Derived.Deep.DeepCutAuto
namespace Go.Proofs.Yticnmljahnnhcaa
open Go.RowKit
set_option linter.unusedVariables false

end Go.Proofs.Yticnmljahnnhcaa
