/- For the law of PutSector: what a drawn region that makes a block beside calls leaves. -/
import Derived.Test.YtipkckoejkmhfabW81
import Derived.Test.YtipkckoejkmhfabPut
import Derived.Test.YtipkckoejkmhfabSSector
import Derived.Test.YtipkckoejkmhfabSDisc
import Derived.Deep.RegionHeld3
import Derived.Deep.DeepCutAuto
namespace Go.Proofs.Ytipkckoejkmhfab
open Go.RowKit
set_option linter.unusedVariables false

end Go.Proofs.Ytipkckoejkmhfab
