/-
  No cell of these rows narrows 'for every input' (looked for: loops, veiled, ifaces, maps, wideKeys, modest, calm, conditions, laid).
  DERIVED. THE GIVEN ROWS OF THIS SEAT. 10 by the template 'for every input the law returns true; each argument reads behind the call as it read before'; 0 by the template 'total and deterministic' (their statements: YtkddhlgohjojpaaTotals.lean).
  GIVEN WITH THE SEED: the statements are not yours to turn. If you find one false, say at which input.
  Laid BY PROGRAM, IN A SANDBOX (cutbox-rows.mjs): the forced cells as the released guide's own fill.sh prints them over the translation 868f516a2d40ba7a… (all of the seat's roots in one cut). By AI agents, Wed Nov 11 2026. No macro, syntax, notation, axiom, sorry.
-/
import Derived.Test.YtkddhlgohjojpaaChecked
import GoSem.Claim
import GoSem.ClaimJoined
import GoSem.ClaimMapViews
import Derived.JoinedTies
import Derived.KernelRfl
namespace Go.Proofs.Ytkddhlgohjojpaa
/- THE CELL 'sum', in the pinned program and in every row, IS THE sha256 OF THE DUMP (.gsa) THAT YtkddhlgohjojpaaProg.lean LOADS. Nothing in Lean hashes anything: it is a label: what it is worth is what the hold of that sum in a sandbox is worth. -/
noncomputable def Try.pinned : Pinned := { name := "ytkddhlgohjojpaa", sum := "868f516a2d40ba7a9718c3f104537341c8df5b14efd9c9babb8f1dbe3591bb2b", checked := Try.checked }
namespace Rows
def none {H : Type} : Left H := { results := [], args := [] }

/-- 'laws.FnCubic': WHATEVER THE INPUT: true; the input reads as it did. -/
def fnCubicSpec : ChangeSpec := { name := "fnCubic", fn := fun _ => fun
  | [d] => { results := [.lit (.bool true)], args := [d] }
  | _ => none }
def fnCubicRow : OpenClaim := { program := "ytkddhlgohjojpaa", sum := "868f516a2d40ba7a9718c3f104537341c8df5b14efd9c9babb8f1dbe3591bb2b", func := "loop.example/cubiclines/laws.FnCubic", spec := "fnCubic", unfollowed := true, recurses := true, apart := false }
def FnCubicSaid : Prop := fnCubicRow.holds Try.pinned (OpenSpec.ofChange fnCubicSpec)

/-- ITS FALSE NEIGHBOUR: 'it returns false'. Refute it at one input. -/
def fnCubicWrong : ChangeSpec := { name := "fnCubic", fn := fun _ => fun
  | [d] => { results := [.lit (.bool false)], args := [d] }
  | _ => none }
def FnCubicWrongFalsely : Prop := fnCubicRow.holds Try.pinned (OpenSpec.ofChange fnCubicWrong)

/-- 'laws.FnExactPointOf': WHATEVER THE INPUT: true; the input reads as it did. -/
def fnExactPointOfSpec : ChangeSpec := { name := "fnExactPointOf", fn := fun _ => fun
  | [d1, d2, d3, d4] => { results := [.lit (.bool true)], args := [d1, d2, d3, d4] }
  | _ => none }
def fnExactPointOfRow : OpenClaim := { program := "ytkddhlgohjojpaa", sum := "868f516a2d40ba7a9718c3f104537341c8df5b14efd9c9babb8f1dbe3591bb2b", func := "loop.example/cubiclines/laws.FnExactPointOf", spec := "fnExactPointOf", unfollowed := true, recurses := true, apart := false }
def FnExactPointOfSaid : Prop := fnExactPointOfRow.holds Try.pinned (OpenSpec.ofChange fnExactPointOfSpec)

/-- ITS FALSE NEIGHBOUR: 'it returns false'. Refute it at one input. -/
def fnExactPointOfWrong : ChangeSpec := { name := "fnExactPointOf", fn := fun _ => fun
  | [d1, d2, d3, d4] => { results := [.lit (.bool false)], args := [d1, d2, d3, d4] }
  | _ => none }
def FnExactPointOfWrongFalsely : Prop := fnExactPointOfRow.holds Try.pinned (OpenSpec.ofChange fnExactPointOfWrong)

/-- 'laws.FnExactCubicValue': WHATEVER THE INPUT: true; the input reads as it did. -/
def fnExactCubicValueSpec : ChangeSpec := { name := "fnExactCubicValue", fn := fun _ => fun
  | [d1, d2, d3] => { results := [.lit (.bool true)], args := [d1, d2, d3] }
  | _ => none }
def fnExactCubicValueRow : OpenClaim := { program := "ytkddhlgohjojpaa", sum := "868f516a2d40ba7a9718c3f104537341c8df5b14efd9c9babb8f1dbe3591bb2b", func := "loop.example/cubiclines/laws.FnExactCubicValue", spec := "fnExactCubicValue", unfollowed := true, recurses := true, apart := false }
def FnExactCubicValueSaid : Prop := fnExactCubicValueRow.holds Try.pinned (OpenSpec.ofChange fnExactCubicValueSpec)

/-- ITS FALSE NEIGHBOUR: 'it returns false'. Refute it at one input. -/
def fnExactCubicValueWrong : ChangeSpec := { name := "fnExactCubicValue", fn := fun _ => fun
  | [d1, d2, d3] => { results := [.lit (.bool false)], args := [d1, d2, d3] }
  | _ => none }
def FnExactCubicValueWrongFalsely : Prop := fnExactCubicValueRow.holds Try.pinned (OpenSpec.ofChange fnExactCubicValueWrong)

/-- 'laws.FnExactPointLine': WHATEVER THE INPUT: true; the input reads as it did. -/
def fnExactPointLineSpec : ChangeSpec := { name := "fnExactPointLine", fn := fun _ => fun
  | [d1, d2, d3] => { results := [.lit (.bool true)], args := [d1, d2, d3] }
  | _ => none }
def fnExactPointLineRow : OpenClaim := { program := "ytkddhlgohjojpaa", sum := "868f516a2d40ba7a9718c3f104537341c8df5b14efd9c9babb8f1dbe3591bb2b", func := "loop.example/cubiclines/laws.FnExactPointLine", spec := "fnExactPointLine", unfollowed := true, recurses := true, apart := false }
def FnExactPointLineSaid : Prop := fnExactPointLineRow.holds Try.pinned (OpenSpec.ofChange fnExactPointLineSpec)

/-- ITS FALSE NEIGHBOUR: 'it returns false'. Refute it at one input. -/
def fnExactPointLineWrong : ChangeSpec := { name := "fnExactPointLine", fn := fun _ => fun
  | [d1, d2, d3] => { results := [.lit (.bool false)], args := [d1, d2, d3] }
  | _ => none }
def FnExactPointLineWrongFalsely : Prop := fnExactPointLineRow.holds Try.pinned (OpenSpec.ofChange fnExactPointLineWrong)

/-- 'laws.FnExactCubicSlope': WHATEVER THE INPUT: true; the input reads as it did. -/
def fnExactCubicSlopeSpec : ChangeSpec := { name := "fnExactCubicSlope", fn := fun _ => fun
  | [d1, d2, d3, d4] => { results := [.lit (.bool true)], args := [d1, d2, d3, d4] }
  | _ => none }
def fnExactCubicSlopeRow : OpenClaim := { program := "ytkddhlgohjojpaa", sum := "868f516a2d40ba7a9718c3f104537341c8df5b14efd9c9babb8f1dbe3591bb2b", func := "loop.example/cubiclines/laws.FnExactCubicSlope", spec := "fnExactCubicSlope", unfollowed := true, recurses := true, apart := false }
def FnExactCubicSlopeSaid : Prop := fnExactCubicSlopeRow.holds Try.pinned (OpenSpec.ofChange fnExactCubicSlopeSpec)

/-- ITS FALSE NEIGHBOUR: 'it returns false'. Refute it at one input. -/
def fnExactCubicSlopeWrong : ChangeSpec := { name := "fnExactCubicSlope", fn := fun _ => fun
  | [d1, d2, d3, d4] => { results := [.lit (.bool false)], args := [d1, d2, d3, d4] }
  | _ => none }
def FnExactCubicSlopeWrongFalsely : Prop := fnExactCubicSlopeRow.holds Try.pinned (OpenSpec.ofChange fnExactCubicSlopeWrong)

/-- 'laws.FnPointOf': WHATEVER THE INPUT: true; the input reads as it did. -/
def fnPointOfSpec : ChangeSpec := { name := "fnPointOf", fn := fun _ => fun
  | [d] => { results := [.lit (.bool true)], args := [d] }
  | _ => none }
def fnPointOfRow : OpenClaim := { program := "ytkddhlgohjojpaa", sum := "868f516a2d40ba7a9718c3f104537341c8df5b14efd9c9babb8f1dbe3591bb2b", func := "loop.example/cubiclines/laws.FnPointOf", spec := "fnPointOf", unfollowed := true, recurses := true, apart := false }
def FnPointOfSaid : Prop := fnPointOfRow.holds Try.pinned (OpenSpec.ofChange fnPointOfSpec)

/-- ITS FALSE NEIGHBOUR: 'it returns false'. Refute it at one input. -/
def fnPointOfWrong : ChangeSpec := { name := "fnPointOf", fn := fun _ => fun
  | [d] => { results := [.lit (.bool false)], args := [d] }
  | _ => none }
def FnPointOfWrongFalsely : Prop := fnPointOfRow.holds Try.pinned (OpenSpec.ofChange fnPointOfWrong)

/-- 'laws.FnCubicValue': WHATEVER THE INPUT: true; the input reads as it did. -/
def fnCubicValueSpec : ChangeSpec := { name := "fnCubicValue", fn := fun _ => fun
  | [d] => { results := [.lit (.bool true)], args := [d] }
  | _ => none }
def fnCubicValueRow : OpenClaim := { program := "ytkddhlgohjojpaa", sum := "868f516a2d40ba7a9718c3f104537341c8df5b14efd9c9babb8f1dbe3591bb2b", func := "loop.example/cubiclines/laws.FnCubicValue", spec := "fnCubicValue", unfollowed := true, recurses := true, apart := false }
def FnCubicValueSaid : Prop := fnCubicValueRow.holds Try.pinned (OpenSpec.ofChange fnCubicValueSpec)

/-- ITS FALSE NEIGHBOUR: 'it returns false'. Refute it at one input. -/
def fnCubicValueWrong : ChangeSpec := { name := "fnCubicValue", fn := fun _ => fun
  | [d] => { results := [.lit (.bool false)], args := [d] }
  | _ => none }
def FnCubicValueWrongFalsely : Prop := fnCubicValueRow.holds Try.pinned (OpenSpec.ofChange fnCubicValueWrong)

/-- 'laws.FnPointIn': WHATEVER THE INPUT: true; the input reads as it did. -/
def fnPointInSpec : ChangeSpec := { name := "fnPointIn", fn := fun _ => fun
  | [d] => { results := [.lit (.bool true)], args := [d] }
  | _ => none }
def fnPointInRow : OpenClaim := { program := "ytkddhlgohjojpaa", sum := "868f516a2d40ba7a9718c3f104537341c8df5b14efd9c9babb8f1dbe3591bb2b", func := "loop.example/cubiclines/laws.FnPointIn", spec := "fnPointIn", unfollowed := true, recurses := true, apart := false }
def FnPointInSaid : Prop := fnPointInRow.holds Try.pinned (OpenSpec.ofChange fnPointInSpec)

/-- ITS FALSE NEIGHBOUR: 'it returns false'. Refute it at one input. -/
def fnPointInWrong : ChangeSpec := { name := "fnPointIn", fn := fun _ => fun
  | [d] => { results := [.lit (.bool false)], args := [d] }
  | _ => none }
def FnPointInWrongFalsely : Prop := fnPointInRow.holds Try.pinned (OpenSpec.ofChange fnPointInWrong)

/-- 'laws.FnPointLine': WHATEVER THE INPUT: true; the input reads as it did. -/
def fnPointLineSpec : ChangeSpec := { name := "fnPointLine", fn := fun _ => fun
  | [d] => { results := [.lit (.bool true)], args := [d] }
  | _ => none }
def fnPointLineRow : OpenClaim := { program := "ytkddhlgohjojpaa", sum := "868f516a2d40ba7a9718c3f104537341c8df5b14efd9c9babb8f1dbe3591bb2b", func := "loop.example/cubiclines/laws.FnPointLine", spec := "fnPointLine", unfollowed := true, recurses := true, apart := false }
def FnPointLineSaid : Prop := fnPointLineRow.holds Try.pinned (OpenSpec.ofChange fnPointLineSpec)

/-- ITS FALSE NEIGHBOUR: 'it returns false'. Refute it at one input. -/
def fnPointLineWrong : ChangeSpec := { name := "fnPointLine", fn := fun _ => fun
  | [d] => { results := [.lit (.bool false)], args := [d] }
  | _ => none }
def FnPointLineWrongFalsely : Prop := fnPointLineRow.holds Try.pinned (OpenSpec.ofChange fnPointLineWrong)

/-- 'laws.FnSlope': WHATEVER THE INPUT: true; the input reads as it did. -/
def fnSlopeSpec : ChangeSpec := { name := "fnSlope", fn := fun _ => fun
  | [d] => { results := [.lit (.bool true)], args := [d] }
  | _ => none }
def fnSlopeRow : OpenClaim := { program := "ytkddhlgohjojpaa", sum := "868f516a2d40ba7a9718c3f104537341c8df5b14efd9c9babb8f1dbe3591bb2b", func := "loop.example/cubiclines/laws.FnSlope", spec := "fnSlope", unfollowed := true, recurses := true, apart := false }
def FnSlopeSaid : Prop := fnSlopeRow.holds Try.pinned (OpenSpec.ofChange fnSlopeSpec)

/-- ITS FALSE NEIGHBOUR: 'it returns false'. Refute it at one input. -/
def fnSlopeWrong : ChangeSpec := { name := "fnSlope", fn := fun _ => fun
  | [d] => { results := [.lit (.bool false)], args := [d] }
  | _ => none }
def FnSlopeWrongFalsely : Prop := fnSlopeRow.holds Try.pinned (OpenSpec.ofChange fnSlopeWrong)

/- THE SECOND FORM. 'bulk': how many values and letters a reading holds, each counted each time it is reached (what is shared counts as often as it is met; a slice's spare places count too). A statement '..UptoSaid' is the law's where the arguments, and the package variables that the reading takes, are together of bulk at most 1048576: NARROWER than '..Said'. Prove '..Said' where nothing that the law and all that it calls make is longer than what came in: it says more and counts as full. Else prove '..UptoSaid'. A law counts once. -/
mutual
def uptoBulk {H : Type} : DataW H → Nat
  | .lit (.string bytes) => bytes.length + 1
  | .lit _ => 1
  | .nil => 1
  | .ptr d => uptoBulk d + 1
  | .slice elems spare => uptoBulkAll elems + uptoBulkAll spare + 1
  | .agg parts => uptoBulkAll parts + 1
  | .iface _ d => uptoBulk d + 1
  | .map entries => uptoBulkEntries entries + 1
  | .held _ => 1
def uptoBulkAll {H : Type} : List (DataW H) → Nat
  | [] => 0
  | d :: r => uptoBulk d + uptoBulkAll r
def uptoBulkEntries {H : Type} : List (Lit × DataW H) → Nat
  | [] => 0
  | x :: r => uptoBulkEntry x + uptoBulkEntries r
def uptoBulkEntry {H : Type} : Lit × DataW H → Nat
  | (.string bytes, d) => bytes.length + uptoBulk d + 1
  | (_, d) => uptoBulk d + 1
 end
def uptoSmall : (H : Type) → List (DataW H) → Bool := fun _ ds => decide (uptoBulkAll ds ≤ 1048576)
def OpenSpec.upto (s : _root_.Go.ChangeSpec) : _root_.Go.OpenSpec := { _root_.Go.OpenSpec.ofChange s with cond := some uptoSmall }

/-- 'laws.FnCubic', WHERE WHAT IT READS IS OF BULK AT MOST 1048576: true; the input reads as it did. -/
def fnCubicUptoRow : OpenClaim := { program := "ytkddhlgohjojpaa", sum := "868f516a2d40ba7a9718c3f104537341c8df5b14efd9c9babb8f1dbe3591bb2b", func := "loop.example/cubiclines/laws.FnCubic", spec := "fnCubic", unfollowed := true, recurses := true, apart := false, narrowed := true }
def FnCubicUptoSaid : Prop := fnCubicUptoRow.holds Try.pinned (OpenSpec.upto fnCubicSpec)

/-- 'laws.FnExactPointOf', WHERE WHAT IT READS IS OF BULK AT MOST 1048576: true; the input reads as it did. -/
def fnExactPointOfUptoRow : OpenClaim := { program := "ytkddhlgohjojpaa", sum := "868f516a2d40ba7a9718c3f104537341c8df5b14efd9c9babb8f1dbe3591bb2b", func := "loop.example/cubiclines/laws.FnExactPointOf", spec := "fnExactPointOf", unfollowed := true, recurses := true, apart := false, narrowed := true }
def FnExactPointOfUptoSaid : Prop := fnExactPointOfUptoRow.holds Try.pinned (OpenSpec.upto fnExactPointOfSpec)

/-- 'laws.FnExactCubicValue', WHERE WHAT IT READS IS OF BULK AT MOST 1048576: true; the input reads as it did. -/
def fnExactCubicValueUptoRow : OpenClaim := { program := "ytkddhlgohjojpaa", sum := "868f516a2d40ba7a9718c3f104537341c8df5b14efd9c9babb8f1dbe3591bb2b", func := "loop.example/cubiclines/laws.FnExactCubicValue", spec := "fnExactCubicValue", unfollowed := true, recurses := true, apart := false, narrowed := true }
def FnExactCubicValueUptoSaid : Prop := fnExactCubicValueUptoRow.holds Try.pinned (OpenSpec.upto fnExactCubicValueSpec)

/-- 'laws.FnExactPointLine', WHERE WHAT IT READS IS OF BULK AT MOST 1048576: true; the input reads as it did. -/
def fnExactPointLineUptoRow : OpenClaim := { program := "ytkddhlgohjojpaa", sum := "868f516a2d40ba7a9718c3f104537341c8df5b14efd9c9babb8f1dbe3591bb2b", func := "loop.example/cubiclines/laws.FnExactPointLine", spec := "fnExactPointLine", unfollowed := true, recurses := true, apart := false, narrowed := true }
def FnExactPointLineUptoSaid : Prop := fnExactPointLineUptoRow.holds Try.pinned (OpenSpec.upto fnExactPointLineSpec)

/-- 'laws.FnExactCubicSlope', WHERE WHAT IT READS IS OF BULK AT MOST 1048576: true; the input reads as it did. -/
def fnExactCubicSlopeUptoRow : OpenClaim := { program := "ytkddhlgohjojpaa", sum := "868f516a2d40ba7a9718c3f104537341c8df5b14efd9c9babb8f1dbe3591bb2b", func := "loop.example/cubiclines/laws.FnExactCubicSlope", spec := "fnExactCubicSlope", unfollowed := true, recurses := true, apart := false, narrowed := true }
def FnExactCubicSlopeUptoSaid : Prop := fnExactCubicSlopeUptoRow.holds Try.pinned (OpenSpec.upto fnExactCubicSlopeSpec)

/-- 'laws.FnPointOf', WHERE WHAT IT READS IS OF BULK AT MOST 1048576: true; the input reads as it did. -/
def fnPointOfUptoRow : OpenClaim := { program := "ytkddhlgohjojpaa", sum := "868f516a2d40ba7a9718c3f104537341c8df5b14efd9c9babb8f1dbe3591bb2b", func := "loop.example/cubiclines/laws.FnPointOf", spec := "fnPointOf", unfollowed := true, recurses := true, apart := false, narrowed := true }
def FnPointOfUptoSaid : Prop := fnPointOfUptoRow.holds Try.pinned (OpenSpec.upto fnPointOfSpec)

/-- 'laws.FnCubicValue', WHERE WHAT IT READS IS OF BULK AT MOST 1048576: true; the input reads as it did. -/
def fnCubicValueUptoRow : OpenClaim := { program := "ytkddhlgohjojpaa", sum := "868f516a2d40ba7a9718c3f104537341c8df5b14efd9c9babb8f1dbe3591bb2b", func := "loop.example/cubiclines/laws.FnCubicValue", spec := "fnCubicValue", unfollowed := true, recurses := true, apart := false, narrowed := true }
def FnCubicValueUptoSaid : Prop := fnCubicValueUptoRow.holds Try.pinned (OpenSpec.upto fnCubicValueSpec)

/-- 'laws.FnPointIn', WHERE WHAT IT READS IS OF BULK AT MOST 1048576: true; the input reads as it did. -/
def fnPointInUptoRow : OpenClaim := { program := "ytkddhlgohjojpaa", sum := "868f516a2d40ba7a9718c3f104537341c8df5b14efd9c9babb8f1dbe3591bb2b", func := "loop.example/cubiclines/laws.FnPointIn", spec := "fnPointIn", unfollowed := true, recurses := true, apart := false, narrowed := true }
def FnPointInUptoSaid : Prop := fnPointInUptoRow.holds Try.pinned (OpenSpec.upto fnPointInSpec)

/-- 'laws.FnPointLine', WHERE WHAT IT READS IS OF BULK AT MOST 1048576: true; the input reads as it did. -/
def fnPointLineUptoRow : OpenClaim := { program := "ytkddhlgohjojpaa", sum := "868f516a2d40ba7a9718c3f104537341c8df5b14efd9c9babb8f1dbe3591bb2b", func := "loop.example/cubiclines/laws.FnPointLine", spec := "fnPointLine", unfollowed := true, recurses := true, apart := false, narrowed := true }
def FnPointLineUptoSaid : Prop := fnPointLineUptoRow.holds Try.pinned (OpenSpec.upto fnPointLineSpec)

/-- 'laws.FnSlope', WHERE WHAT IT READS IS OF BULK AT MOST 1048576: true; the input reads as it did. -/
def fnSlopeUptoRow : OpenClaim := { program := "ytkddhlgohjojpaa", sum := "868f516a2d40ba7a9718c3f104537341c8df5b14efd9c9babb8f1dbe3591bb2b", func := "loop.example/cubiclines/laws.FnSlope", spec := "fnSlope", unfollowed := true, recurses := true, apart := false, narrowed := true }
def FnSlopeUptoSaid : Prop := fnSlopeUptoRow.holds Try.pinned (OpenSpec.upto fnSlopeSpec)

end Rows
end Go.Proofs.Ytkddhlgohjojpaa
