/-
  Contracts: roots and reflections in roots: the reference's.
-/
import Derived.Test.YtcffaeepanhpfaaS2
import Derived.Test.YtcffaeepanhpfaaK4
namespace Go.Proofs.Ytcffaeepanhpfaa
open Go.RowKit
set_option linter.unusedVariables false
set_option linter.unusedSimpArgs false

end Go.Proofs.Ytcffaeepanhpfaa
