/-
  The laws on numbers modulo a prime: the walks.
-/
import Derived.Test.YtkhkcgoblibnpaaD
namespace Go.Proofs.Ytkhkcgoblibnpaa
open Go.RowKit
set_option linter.unusedVariables false
set_option linter.unusedSimpArgs false




end Go.Proofs.Ytkhkcgoblibnpaa
