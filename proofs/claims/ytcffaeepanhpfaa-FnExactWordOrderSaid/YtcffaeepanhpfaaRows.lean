/-
  No cell of these rows narrows 'for every input' (looked for: loops, veiled, ifaces, maps, wideKeys, modest, calm, conditions, laid).
  DERIVED. THE GIVEN ROWS OF THIS SEAT. 7 by the template 'for every input the law returns true; each argument reads behind the call as it read before'; 0 by the template 'total and deterministic' (their statements: YtcffaeepanhpfaaTotals.lean).
  GIVEN WITH THE SEED: the statements are not yours to turn. If you find one false, say at which input.
  Laid BY PROGRAM, IN A SANDBOX (cutbox-rows.mjs): the forced cells as the released guide's own fill.sh prints them over the translation d873fdd6f789dc92… (all of the seat's roots in one cut). By AI agents, Wed Nov 11 2026. No macro, syntax, notation, axiom, sorry.
-/
import Derived.Test.YtcffaeepanhpfaaChecked
import GoSem.Claim
import GoSem.ClaimJoined
import GoSem.ClaimMapViews
import Derived.JoinedTies
import Derived.KernelRfl
namespace Go.Proofs.Ytcffaeepanhpfaa
/- THE CELL 'sum', in the pinned program and in every row, IS THE sha256 OF THE DUMP (.gsa) THAT YtcffaeepanhpfaaProg.lean LOADS. Nothing in Lean hashes anything: it is a label: what it is worth is what the hold of that sum in a sandbox is worth. -/
noncomputable def Try.pinned : Pinned := { name := "ytcffaeepanhpfaa", sum := "d873fdd6f789dc9278765f0d7a9f570ba5c0106588b0db4c1336e57280a546f4", checked := Try.checked }
namespace Rows
def none {H : Type} : Left H := { results := [], args := [] }

/-- 'laws.FnExactWordLines': WHATEVER THE INPUT: true; the input reads as it did. -/
def fnExactWordLinesSpec : ChangeSpec := { name := "fnExactWordLines", fn := fun _ => fun
  | [d] => { results := [.lit (.bool true)], args := [d] }
  | _ => none }
def fnExactWordLinesRow : OpenClaim := { program := "ytcffaeepanhpfaa", sum := "d873fdd6f789dc9278765f0d7a9f570ba5c0106588b0db4c1336e57280a546f4", func := "loop.example/cubiclines/laws.FnExactWordLines", spec := "fnExactWordLines", unfollowed := true, recurses := true, apart := false }
def FnExactWordLinesSaid : Prop := fnExactWordLinesRow.holds Try.pinned (OpenSpec.ofChange fnExactWordLinesSpec)

/-- ITS FALSE NEIGHBOUR: 'it returns false'. Refute it at one input. -/
def fnExactWordLinesWrong : ChangeSpec := { name := "fnExactWordLines", fn := fun _ => fun
  | [d] => { results := [.lit (.bool false)], args := [d] }
  | _ => none }
def FnExactWordLinesWrongFalsely : Prop := fnExactWordLinesRow.holds Try.pinned (OpenSpec.ofChange fnExactWordLinesWrong)

/-- 'laws.FnWordBack': WHATEVER THE INPUT: true; the input reads as it did. -/
def fnWordBackSpec : ChangeSpec := { name := "fnWordBack", fn := fun _ => fun
  | [d] => { results := [.lit (.bool true)], args := [d] }
  | _ => none }
def fnWordBackRow : OpenClaim := { program := "ytcffaeepanhpfaa", sum := "d873fdd6f789dc9278765f0d7a9f570ba5c0106588b0db4c1336e57280a546f4", func := "loop.example/cubiclines/laws.FnWordBack", spec := "fnWordBack", unfollowed := true, recurses := true, apart := false }
def FnWordBackSaid : Prop := fnWordBackRow.holds Try.pinned (OpenSpec.ofChange fnWordBackSpec)

/-- ITS FALSE NEIGHBOUR: 'it returns false'. Refute it at one input. -/
def fnWordBackWrong : ChangeSpec := { name := "fnWordBack", fn := fun _ => fun
  | [d] => { results := [.lit (.bool false)], args := [d] }
  | _ => none }
def FnWordBackWrongFalsely : Prop := fnWordBackRow.holds Try.pinned (OpenSpec.ofChange fnWordBackWrong)

/-- 'laws.FnWordLines': WHATEVER THE INPUT: true; the input reads as it did. -/
def fnWordLinesSpec : ChangeSpec := { name := "fnWordLines", fn := fun _ => fun
  | [d] => { results := [.lit (.bool true)], args := [d] }
  | _ => none }
def fnWordLinesRow : OpenClaim := { program := "ytcffaeepanhpfaa", sum := "d873fdd6f789dc9278765f0d7a9f570ba5c0106588b0db4c1336e57280a546f4", func := "loop.example/cubiclines/laws.FnWordLines", spec := "fnWordLines", unfollowed := true, recurses := true, apart := false }
def FnWordLinesSaid : Prop := fnWordLinesRow.holds Try.pinned (OpenSpec.ofChange fnWordLinesSpec)

/-- ITS FALSE NEIGHBOUR: 'it returns false'. Refute it at one input. -/
def fnWordLinesWrong : ChangeSpec := { name := "fnWordLines", fn := fun _ => fun
  | [d] => { results := [.lit (.bool false)], args := [d] }
  | _ => none }
def FnWordLinesWrongFalsely : Prop := fnWordLinesRow.holds Try.pinned (OpenSpec.ofChange fnWordLinesWrong)

/-- 'laws.FnExactWordOrder': WHATEVER THE INPUT: true; the input reads as it did. -/
def fnExactWordOrderSpec : ChangeSpec := { name := "fnExactWordOrder", fn := fun _ => fun
  | [d] => { results := [.lit (.bool true)], args := [d] }
  | _ => none }
def fnExactWordOrderRow : OpenClaim := { program := "ytcffaeepanhpfaa", sum := "d873fdd6f789dc9278765f0d7a9f570ba5c0106588b0db4c1336e57280a546f4", func := "loop.example/cubiclines/laws.FnExactWordOrder", spec := "fnExactWordOrder", unfollowed := true, recurses := true, apart := false }
def FnExactWordOrderSaid : Prop := fnExactWordOrderRow.holds Try.pinned (OpenSpec.ofChange fnExactWordOrderSpec)

/-- ITS FALSE NEIGHBOUR: 'it returns false'. Refute it at one input. -/
def fnExactWordOrderWrong : ChangeSpec := { name := "fnExactWordOrder", fn := fun _ => fun
  | [d] => { results := [.lit (.bool false)], args := [d] }
  | _ => none }
def FnExactWordOrderWrongFalsely : Prop := fnExactWordOrderRow.holds Try.pinned (OpenSpec.ofChange fnExactWordOrderWrong)

/-- 'laws.FnExactWordLength': WHATEVER THE INPUT: true; the input reads as it did. -/
def fnExactWordLengthSpec : ChangeSpec := { name := "fnExactWordLength", fn := fun _ => fun
  | [d] => { results := [.lit (.bool true)], args := [d] }
  | _ => none }
def fnExactWordLengthRow : OpenClaim := { program := "ytcffaeepanhpfaa", sum := "d873fdd6f789dc9278765f0d7a9f570ba5c0106588b0db4c1336e57280a546f4", func := "loop.example/cubiclines/laws.FnExactWordLength", spec := "fnExactWordLength", unfollowed := true, recurses := true, apart := false }
def FnExactWordLengthSaid : Prop := fnExactWordLengthRow.holds Try.pinned (OpenSpec.ofChange fnExactWordLengthSpec)

/-- ITS FALSE NEIGHBOUR: 'it returns false'. Refute it at one input. -/
def fnExactWordLengthWrong : ChangeSpec := { name := "fnExactWordLength", fn := fun _ => fun
  | [d] => { results := [.lit (.bool false)], args := [d] }
  | _ => none }
def FnExactWordLengthWrongFalsely : Prop := fnExactWordLengthRow.holds Try.pinned (OpenSpec.ofChange fnExactWordLengthWrong)

/-- 'laws.FnLength': WHATEVER THE INPUT: true; the input reads as it did. -/
def fnLengthSpec : ChangeSpec := { name := "fnLength", fn := fun _ => fun
  | [d] => { results := [.lit (.bool true)], args := [d] }
  | _ => none }
def fnLengthRow : OpenClaim := { program := "ytcffaeepanhpfaa", sum := "d873fdd6f789dc9278765f0d7a9f570ba5c0106588b0db4c1336e57280a546f4", func := "loop.example/cubiclines/laws.FnLength", spec := "fnLength", unfollowed := true, recurses := true, apart := false }
def FnLengthSaid : Prop := fnLengthRow.holds Try.pinned (OpenSpec.ofChange fnLengthSpec)

/-- ITS FALSE NEIGHBOUR: 'it returns false'. Refute it at one input. -/
def fnLengthWrong : ChangeSpec := { name := "fnLength", fn := fun _ => fun
  | [d] => { results := [.lit (.bool false)], args := [d] }
  | _ => none }
def FnLengthWrongFalsely : Prop := fnLengthRow.holds Try.pinned (OpenSpec.ofChange fnLengthWrong)

/-- 'laws.FnOrder': WHATEVER THE INPUT: true; the input reads as it did. -/
def fnOrderSpec : ChangeSpec := { name := "fnOrder", fn := fun _ => fun
  | [d] => { results := [.lit (.bool true)], args := [d] }
  | _ => none }
def fnOrderRow : OpenClaim := { program := "ytcffaeepanhpfaa", sum := "d873fdd6f789dc9278765f0d7a9f570ba5c0106588b0db4c1336e57280a546f4", func := "loop.example/cubiclines/laws.FnOrder", spec := "fnOrder", unfollowed := true, recurses := true, apart := false }
def FnOrderSaid : Prop := fnOrderRow.holds Try.pinned (OpenSpec.ofChange fnOrderSpec)

/-- ITS FALSE NEIGHBOUR: 'it returns false'. Refute it at one input. -/
def fnOrderWrong : ChangeSpec := { name := "fnOrder", fn := fun _ => fun
  | [d] => { results := [.lit (.bool false)], args := [d] }
  | _ => none }
def FnOrderWrongFalsely : Prop := fnOrderRow.holds Try.pinned (OpenSpec.ofChange fnOrderWrong)

/- THE SECOND FORM. 'bulk': how many values and letters a reading holds, each counted each time it is reached (what is shared counts as often as it is met; a slice's spare places count too). A statement '..UptoSaid' is the law's where the arguments, and the package variables that the reading takes, are together of bulk at most 1048576: NARROWER than '..Said'. Prove '..Said' where nothing that the law and all that it calls make is longer than what came in: it says more and counts as full. Else prove '..UptoSaid'. A law counts once. -/
mutual
def uptoBulk {H : Type} : DataW H → Nat
  | .lit (.string bytes) => bytes.length + 1
  | .lit _ => 1
  | .nil => 1
  | .ptr d => uptoBulk d + 1
  | .slice elems spare => uptoBulkAll elems + uptoBulkAll spare + 1
  | .agg parts => uptoBulkAll parts + 1
  | .iface _ d => uptoBulk d + 1
  | .map entries => uptoBulkEntries entries + 1
  | .held _ => 1
def uptoBulkAll {H : Type} : List (DataW H) → Nat
  | [] => 0
  | d :: r => uptoBulk d + uptoBulkAll r
def uptoBulkEntries {H : Type} : List (Lit × DataW H) → Nat
  | [] => 0
  | x :: r => uptoBulkEntry x + uptoBulkEntries r
def uptoBulkEntry {H : Type} : Lit × DataW H → Nat
  | (.string bytes, d) => bytes.length + uptoBulk d + 1
  | (_, d) => uptoBulk d + 1
 end
def uptoSmall : (H : Type) → List (DataW H) → Bool := fun _ ds => decide (uptoBulkAll ds ≤ 1048576)
def OpenSpec.upto (s : _root_.Go.ChangeSpec) : _root_.Go.OpenSpec := { _root_.Go.OpenSpec.ofChange s with cond := some uptoSmall }

/-- 'laws.FnExactWordLines', WHERE WHAT IT READS IS OF BULK AT MOST 1048576: true; the input reads as it did. -/
def fnExactWordLinesUptoRow : OpenClaim := { program := "ytcffaeepanhpfaa", sum := "d873fdd6f789dc9278765f0d7a9f570ba5c0106588b0db4c1336e57280a546f4", func := "loop.example/cubiclines/laws.FnExactWordLines", spec := "fnExactWordLines", unfollowed := true, recurses := true, apart := false, narrowed := true }
def FnExactWordLinesUptoSaid : Prop := fnExactWordLinesUptoRow.holds Try.pinned (OpenSpec.upto fnExactWordLinesSpec)

/-- 'laws.FnWordBack', WHERE WHAT IT READS IS OF BULK AT MOST 1048576: true; the input reads as it did. -/
def fnWordBackUptoRow : OpenClaim := { program := "ytcffaeepanhpfaa", sum := "d873fdd6f789dc9278765f0d7a9f570ba5c0106588b0db4c1336e57280a546f4", func := "loop.example/cubiclines/laws.FnWordBack", spec := "fnWordBack", unfollowed := true, recurses := true, apart := false, narrowed := true }
def FnWordBackUptoSaid : Prop := fnWordBackUptoRow.holds Try.pinned (OpenSpec.upto fnWordBackSpec)

/-- 'laws.FnWordLines', WHERE WHAT IT READS IS OF BULK AT MOST 1048576: true; the input reads as it did. -/
def fnWordLinesUptoRow : OpenClaim := { program := "ytcffaeepanhpfaa", sum := "d873fdd6f789dc9278765f0d7a9f570ba5c0106588b0db4c1336e57280a546f4", func := "loop.example/cubiclines/laws.FnWordLines", spec := "fnWordLines", unfollowed := true, recurses := true, apart := false, narrowed := true }
def FnWordLinesUptoSaid : Prop := fnWordLinesUptoRow.holds Try.pinned (OpenSpec.upto fnWordLinesSpec)

/-- 'laws.FnExactWordOrder', WHERE WHAT IT READS IS OF BULK AT MOST 1048576: true; the input reads as it did. -/
def fnExactWordOrderUptoRow : OpenClaim := { program := "ytcffaeepanhpfaa", sum := "d873fdd6f789dc9278765f0d7a9f570ba5c0106588b0db4c1336e57280a546f4", func := "loop.example/cubiclines/laws.FnExactWordOrder", spec := "fnExactWordOrder", unfollowed := true, recurses := true, apart := false, narrowed := true }
def FnExactWordOrderUptoSaid : Prop := fnExactWordOrderUptoRow.holds Try.pinned (OpenSpec.upto fnExactWordOrderSpec)

/-- 'laws.FnExactWordLength', WHERE WHAT IT READS IS OF BULK AT MOST 1048576: true; the input reads as it did. -/
def fnExactWordLengthUptoRow : OpenClaim := { program := "ytcffaeepanhpfaa", sum := "d873fdd6f789dc9278765f0d7a9f570ba5c0106588b0db4c1336e57280a546f4", func := "loop.example/cubiclines/laws.FnExactWordLength", spec := "fnExactWordLength", unfollowed := true, recurses := true, apart := false, narrowed := true }
def FnExactWordLengthUptoSaid : Prop := fnExactWordLengthUptoRow.holds Try.pinned (OpenSpec.upto fnExactWordLengthSpec)

/-- 'laws.FnLength', WHERE WHAT IT READS IS OF BULK AT MOST 1048576: true; the input reads as it did. -/
def fnLengthUptoRow : OpenClaim := { program := "ytcffaeepanhpfaa", sum := "d873fdd6f789dc9278765f0d7a9f570ba5c0106588b0db4c1336e57280a546f4", func := "loop.example/cubiclines/laws.FnLength", spec := "fnLength", unfollowed := true, recurses := true, apart := false, narrowed := true }
def FnLengthUptoSaid : Prop := fnLengthUptoRow.holds Try.pinned (OpenSpec.upto fnLengthSpec)

/-- 'laws.FnOrder', WHERE WHAT IT READS IS OF BULK AT MOST 1048576: true; the input reads as it did. -/
def fnOrderUptoRow : OpenClaim := { program := "ytcffaeepanhpfaa", sum := "d873fdd6f789dc9278765f0d7a9f570ba5c0106588b0db4c1336e57280a546f4", func := "loop.example/cubiclines/laws.FnOrder", spec := "fnOrder", unfollowed := true, recurses := true, apart := false, narrowed := true }
def FnOrderUptoSaid : Prop := fnOrderUptoRow.holds Try.pinned (OpenSpec.upto fnOrderSpec)

end Rows
end Go.Proofs.Ytcffaeepanhpfaa
