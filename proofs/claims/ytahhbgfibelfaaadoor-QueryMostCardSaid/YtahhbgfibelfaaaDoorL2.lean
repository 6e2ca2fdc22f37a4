import Derived.Test.YtahhbgfibelfaaaDoorL1
import Derived.Deep.RegionWith
import Derived.Deep.LoopGhost
import Derived.Deep.DeepCutAuto
import Derived.Lib.Hide
namespace Go.Proofs.YtahhbgfibelfaaaDoor
open Go.RowKit Go.Lib
set_option linter.unusedVariables false



end Go.Proofs.YtahhbgfibelfaaaDoor
