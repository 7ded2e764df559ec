/-
  The laws on numbers modulo a prime: the walks.
-/
import Derived.Test.YtkddhlgohjojpaaD
namespace Go.Proofs.Ytkddhlgohjojpaa
open Go.RowKit
set_option linter.unusedVariables false
set_option linter.unusedSimpArgs false




end Go.Proofs.Ytkddhlgohjojpaa
