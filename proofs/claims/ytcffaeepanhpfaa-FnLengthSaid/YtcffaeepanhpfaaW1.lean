/-
  The law of WordAct.
-/
import Derived.Test.YtcffaeepanhpfaaS5
import Derived.Test.YtcffaeepanhpfaaD
import Derived.Deep.DeepCutAuto
namespace Go.Proofs.Ytcffaeepanhpfaa
open Go.RowKit
set_option linter.unusedVariables false
set_option linter.unusedSimpArgs false


end Go.Proofs.Ytcffaeepanhpfaa
