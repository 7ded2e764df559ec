/-
  No cell of these rows narrows 'for every input' (looked for: loops, veiled, ifaces, maps, wideKeys, modest, calm, conditions, laid).
  DERIVED. THE GIVEN ROWS OF THIS SEAT. 7 by the template 'for every input the law returns true; each argument reads behind the call as it read before'; 0 by the template 'total and deterministic' (their statements: YtkhkcgoblibnpaaTotals.lean).
  GIVEN WITH THE SEED: the statements are not yours to turn. If you find one false, say at which input.
  Laid BY PROGRAM, IN A SANDBOX (cutbox-rows.mjs): the forced cells as the released guide's own fill.sh prints them over the translation 7019359686fa5163… (all of the seat's roots in one cut). By AI agents, Wed Nov 11 2026. No macro, syntax, notation, axiom, sorry.
-/
import Derived.Test.YtkhkcgoblibnpaaChecked
import GoSem.Claim
import GoSem.ClaimJoined
import GoSem.ClaimMapViews
import Derived.JoinedTies
import Derived.KernelRfl
namespace Go.Proofs.Ytkhkcgoblibnpaa
/- THE CELL 'sum', in the pinned program and in every row, IS THE sha256 OF THE DUMP (.gsa) THAT YtkhkcgoblibnpaaProg.lean LOADS. Nothing in Lean hashes anything: it is a label: what it is worth is what the hold of that sum in a sandbox is worth. -/
noncomputable def Try.pinned : Pinned := { name := "ytkhkcgoblibnpaa", sum := "7019359686fa516386d4679ae099b8414cc64b5a2281c3be747d67c9570d4860", checked := Try.checked }
namespace Rows
def none {H : Type} : Left H := { results := [], args := [] }

/-- 'laws.FnCubicBase': WHATEVER THE INPUT: true; the input reads as it did. -/
def fnCubicBaseSpec : ChangeSpec := { name := "fnCubicBase", fn := fun _ => fun
  | [d] => { results := [.lit (.bool true)], args := [d] }
  | _ => none }
def fnCubicBaseRow : OpenClaim := { program := "ytkhkcgoblibnpaa", sum := "7019359686fa516386d4679ae099b8414cc64b5a2281c3be747d67c9570d4860", func := "loop.example/cubiclines/laws.FnCubicBase", spec := "fnCubicBase", unfollowed := true, recurses := true, apart := false }
def FnCubicBaseSaid : Prop := fnCubicBaseRow.holds Try.pinned (OpenSpec.ofChange fnCubicBaseSpec)

/-- ITS FALSE NEIGHBOUR: 'it returns false'. Refute it at one input. -/
def fnCubicBaseWrong : ChangeSpec := { name := "fnCubicBase", fn := fun _ => fun
  | [d] => { results := [.lit (.bool false)], args := [d] }
  | _ => none }
def FnCubicBaseWrongFalsely : Prop := fnCubicBaseRow.holds Try.pinned (OpenSpec.ofChange fnCubicBaseWrong)

/-- 'laws.FnExactCubicBase': WHATEVER THE INPUT: true; the input reads as it did. -/
def fnExactCubicBaseSpec : ChangeSpec := { name := "fnExactCubicBase", fn := fun _ => fun
  | [d1, d2] => { results := [.lit (.bool true)], args := [d1, d2] }
  | _ => none }
def fnExactCubicBaseRow : OpenClaim := { program := "ytkhkcgoblibnpaa", sum := "7019359686fa516386d4679ae099b8414cc64b5a2281c3be747d67c9570d4860", func := "loop.example/cubiclines/laws.FnExactCubicBase", spec := "fnExactCubicBase", unfollowed := true, recurses := true, apart := false }
def FnExactCubicBaseSaid : Prop := fnExactCubicBaseRow.holds Try.pinned (OpenSpec.ofChange fnExactCubicBaseSpec)

/-- ITS FALSE NEIGHBOUR: 'it returns false'. Refute it at one input. -/
def fnExactCubicBaseWrong : ChangeSpec := { name := "fnExactCubicBase", fn := fun _ => fun
  | [d1, d2] => { results := [.lit (.bool false)], args := [d1, d2] }
  | _ => none }
def FnExactCubicBaseWrongFalsely : Prop := fnExactCubicBaseRow.holds Try.pinned (OpenSpec.ofChange fnExactCubicBaseWrong)

/-- 'laws.FnExactCubicImage': WHATEVER THE INPUT: true; the input reads as it did. -/
def fnExactCubicImageSpec : ChangeSpec := { name := "fnExactCubicImage", fn := fun _ => fun
  | [d1, d2, d3] => { results := [.lit (.bool true)], args := [d1, d2, d3] }
  | _ => none }
def fnExactCubicImageRow : OpenClaim := { program := "ytkhkcgoblibnpaa", sum := "7019359686fa516386d4679ae099b8414cc64b5a2281c3be747d67c9570d4860", func := "loop.example/cubiclines/laws.FnExactCubicImage", spec := "fnExactCubicImage", unfollowed := true, recurses := true, apart := false }
def FnExactCubicImageSaid : Prop := fnExactCubicImageRow.holds Try.pinned (OpenSpec.ofChange fnExactCubicImageSpec)

/-- ITS FALSE NEIGHBOUR: 'it returns false'. Refute it at one input. -/
def fnExactCubicImageWrong : ChangeSpec := { name := "fnExactCubicImage", fn := fun _ => fun
  | [d1, d2, d3] => { results := [.lit (.bool false)], args := [d1, d2, d3] }
  | _ => none }
def FnExactCubicImageWrongFalsely : Prop := fnExactCubicImageRow.holds Try.pinned (OpenSpec.ofChange fnExactCubicImageWrong)

/-- 'laws.FnExactPointGeneral': WHATEVER THE INPUT: true; the input reads as it did. -/
def fnExactPointGeneralSpec : ChangeSpec := { name := "fnExactPointGeneral", fn := fun _ => fun
  | [d1, d2] => { results := [.lit (.bool true)], args := [d1, d2] }
  | _ => none }
def fnExactPointGeneralRow : OpenClaim := { program := "ytkhkcgoblibnpaa", sum := "7019359686fa516386d4679ae099b8414cc64b5a2281c3be747d67c9570d4860", func := "loop.example/cubiclines/laws.FnExactPointGeneral", spec := "fnExactPointGeneral", unfollowed := true, recurses := true, apart := false }
def FnExactPointGeneralSaid : Prop := fnExactPointGeneralRow.holds Try.pinned (OpenSpec.ofChange fnExactPointGeneralSpec)

/-- ITS FALSE NEIGHBOUR: 'it returns false'. Refute it at one input. -/
def fnExactPointGeneralWrong : ChangeSpec := { name := "fnExactPointGeneral", fn := fun _ => fun
  | [d1, d2] => { results := [.lit (.bool false)], args := [d1, d2] }
  | _ => none }
def FnExactPointGeneralWrongFalsely : Prop := fnExactPointGeneralRow.holds Try.pinned (OpenSpec.ofChange fnExactPointGeneralWrong)

/-- 'laws.FnExactPointConic': WHATEVER THE INPUT: true; the input reads as it did. -/
def fnExactPointConicSpec : ChangeSpec := { name := "fnExactPointConic", fn := fun _ => fun
  | [d1, d2] => { results := [.lit (.bool true)], args := [d1, d2] }
  | _ => none }
def fnExactPointConicRow : OpenClaim := { program := "ytkhkcgoblibnpaa", sum := "7019359686fa516386d4679ae099b8414cc64b5a2281c3be747d67c9570d4860", func := "loop.example/cubiclines/laws.FnExactPointConic", spec := "fnExactPointConic", unfollowed := true, recurses := true, apart := false }
def FnExactPointConicSaid : Prop := fnExactPointConicRow.holds Try.pinned (OpenSpec.ofChange fnExactPointConicSpec)

/-- ITS FALSE NEIGHBOUR: 'it returns false'. Refute it at one input. -/
def fnExactPointConicWrong : ChangeSpec := { name := "fnExactPointConic", fn := fun _ => fun
  | [d1, d2] => { results := [.lit (.bool false)], args := [d1, d2] }
  | _ => none }
def FnExactPointConicWrongFalsely : Prop := fnExactPointConicRow.holds Try.pinned (OpenSpec.ofChange fnExactPointConicWrong)

/-- 'laws.FnGeneral': WHATEVER THE INPUT: true; the input reads as it did. -/
def fnGeneralSpec : ChangeSpec := { name := "fnGeneral", fn := fun _ => fun
  | [d] => { results := [.lit (.bool true)], args := [d] }
  | _ => none }
def fnGeneralRow : OpenClaim := { program := "ytkhkcgoblibnpaa", sum := "7019359686fa516386d4679ae099b8414cc64b5a2281c3be747d67c9570d4860", func := "loop.example/cubiclines/laws.FnGeneral", spec := "fnGeneral", unfollowed := true, recurses := true, apart := false }
def FnGeneralSaid : Prop := fnGeneralRow.holds Try.pinned (OpenSpec.ofChange fnGeneralSpec)

/-- ITS FALSE NEIGHBOUR: 'it returns false'. Refute it at one input. -/
def fnGeneralWrong : ChangeSpec := { name := "fnGeneral", fn := fun _ => fun
  | [d] => { results := [.lit (.bool false)], args := [d] }
  | _ => none }
def FnGeneralWrongFalsely : Prop := fnGeneralRow.holds Try.pinned (OpenSpec.ofChange fnGeneralWrong)

/-- 'laws.FnConic': WHATEVER THE INPUT: true; the input reads as it did. -/
def fnConicSpec : ChangeSpec := { name := "fnConic", fn := fun _ => fun
  | [d] => { results := [.lit (.bool true)], args := [d] }
  | _ => none }
def fnConicRow : OpenClaim := { program := "ytkhkcgoblibnpaa", sum := "7019359686fa516386d4679ae099b8414cc64b5a2281c3be747d67c9570d4860", func := "loop.example/cubiclines/laws.FnConic", spec := "fnConic", unfollowed := true, recurses := true, apart := false }
def FnConicSaid : Prop := fnConicRow.holds Try.pinned (OpenSpec.ofChange fnConicSpec)

/-- ITS FALSE NEIGHBOUR: 'it returns false'. Refute it at one input. -/
def fnConicWrong : ChangeSpec := { name := "fnConic", fn := fun _ => fun
  | [d] => { results := [.lit (.bool false)], args := [d] }
  | _ => none }
def FnConicWrongFalsely : Prop := fnConicRow.holds Try.pinned (OpenSpec.ofChange fnConicWrong)

/- THE SECOND FORM. 'bulk': how many values and letters a reading holds, each counted each time it is reached (what is shared counts as often as it is met; a slice's spare places count too). A statement '..UptoSaid' is the law's where the arguments, and the package variables that the reading takes, are together of bulk at most 1048576: NARROWER than '..Said'. Prove '..Said' where nothing that the law and all that it calls make is longer than what came in: it says more and counts as full. Else prove '..UptoSaid'. A law counts once. -/
mutual
def uptoBulk {H : Type} : DataW H → Nat
  | .lit (.string bytes) => bytes.length + 1
  | .lit _ => 1
  | .nil => 1
  | .ptr d => uptoBulk d + 1
  | .slice elems spare => uptoBulkAll elems + uptoBulkAll spare + 1
  | .agg parts => uptoBulkAll parts + 1
  | .iface _ d => uptoBulk d + 1
  | .map entries => uptoBulkEntries entries + 1
  | .held _ => 1
def uptoBulkAll {H : Type} : List (DataW H) → Nat
  | [] => 0
  | d :: r => uptoBulk d + uptoBulkAll r
def uptoBulkEntries {H : Type} : List (Lit × DataW H) → Nat
  | [] => 0
  | x :: r => uptoBulkEntry x + uptoBulkEntries r
def uptoBulkEntry {H : Type} : Lit × DataW H → Nat
  | (.string bytes, d) => bytes.length + uptoBulk d + 1
  | (_, d) => uptoBulk d + 1
 end
def uptoSmall : (H : Type) → List (DataW H) → Bool := fun _ ds => decide (uptoBulkAll ds ≤ 1048576)
def OpenSpec.upto (s : _root_.Go.ChangeSpec) : _root_.Go.OpenSpec := { _root_.Go.OpenSpec.ofChange s with cond := some uptoSmall }

/-- 'laws.FnCubicBase', WHERE WHAT IT READS IS OF BULK AT MOST 1048576: true; the input reads as it did. -/
def fnCubicBaseUptoRow : OpenClaim := { program := "ytkhkcgoblibnpaa", sum := "7019359686fa516386d4679ae099b8414cc64b5a2281c3be747d67c9570d4860", func := "loop.example/cubiclines/laws.FnCubicBase", spec := "fnCubicBase", unfollowed := true, recurses := true, apart := false, narrowed := true }
def FnCubicBaseUptoSaid : Prop := fnCubicBaseUptoRow.holds Try.pinned (OpenSpec.upto fnCubicBaseSpec)

/-- 'laws.FnExactCubicBase', WHERE WHAT IT READS IS OF BULK AT MOST 1048576: true; the input reads as it did. -/
def fnExactCubicBaseUptoRow : OpenClaim := { program := "ytkhkcgoblibnpaa", sum := "7019359686fa516386d4679ae099b8414cc64b5a2281c3be747d67c9570d4860", func := "loop.example/cubiclines/laws.FnExactCubicBase", spec := "fnExactCubicBase", unfollowed := true, recurses := true, apart := false, narrowed := true }
def FnExactCubicBaseUptoSaid : Prop := fnExactCubicBaseUptoRow.holds Try.pinned (OpenSpec.upto fnExactCubicBaseSpec)

/-- 'laws.FnExactCubicImage', WHERE WHAT IT READS IS OF BULK AT MOST 1048576: true; the input reads as it did. -/
def fnExactCubicImageUptoRow : OpenClaim := { program := "ytkhkcgoblibnpaa", sum := "7019359686fa516386d4679ae099b8414cc64b5a2281c3be747d67c9570d4860", func := "loop.example/cubiclines/laws.FnExactCubicImage", spec := "fnExactCubicImage", unfollowed := true, recurses := true, apart := false, narrowed := true }
def FnExactCubicImageUptoSaid : Prop := fnExactCubicImageUptoRow.holds Try.pinned (OpenSpec.upto fnExactCubicImageSpec)

/-- 'laws.FnExactPointGeneral', WHERE WHAT IT READS IS OF BULK AT MOST 1048576: true; the input reads as it did. -/
def fnExactPointGeneralUptoRow : OpenClaim := { program := "ytkhkcgoblibnpaa", sum := "7019359686fa516386d4679ae099b8414cc64b5a2281c3be747d67c9570d4860", func := "loop.example/cubiclines/laws.FnExactPointGeneral", spec := "fnExactPointGeneral", unfollowed := true, recurses := true, apart := false, narrowed := true }
def FnExactPointGeneralUptoSaid : Prop := fnExactPointGeneralUptoRow.holds Try.pinned (OpenSpec.upto fnExactPointGeneralSpec)

/-- 'laws.FnExactPointConic', WHERE WHAT IT READS IS OF BULK AT MOST 1048576: true; the input reads as it did. -/
def fnExactPointConicUptoRow : OpenClaim := { program := "ytkhkcgoblibnpaa", sum := "7019359686fa516386d4679ae099b8414cc64b5a2281c3be747d67c9570d4860", func := "loop.example/cubiclines/laws.FnExactPointConic", spec := "fnExactPointConic", unfollowed := true, recurses := true, apart := false, narrowed := true }
def FnExactPointConicUptoSaid : Prop := fnExactPointConicUptoRow.holds Try.pinned (OpenSpec.upto fnExactPointConicSpec)

/-- 'laws.FnGeneral', WHERE WHAT IT READS IS OF BULK AT MOST 1048576: true; the input reads as it did. -/
def fnGeneralUptoRow : OpenClaim := { program := "ytkhkcgoblibnpaa", sum := "7019359686fa516386d4679ae099b8414cc64b5a2281c3be747d67c9570d4860", func := "loop.example/cubiclines/laws.FnGeneral", spec := "fnGeneral", unfollowed := true, recurses := true, apart := false, narrowed := true }
def FnGeneralUptoSaid : Prop := fnGeneralUptoRow.holds Try.pinned (OpenSpec.upto fnGeneralSpec)

/-- 'laws.FnConic', WHERE WHAT IT READS IS OF BULK AT MOST 1048576: true; the input reads as it did. -/
def fnConicUptoRow : OpenClaim := { program := "ytkhkcgoblibnpaa", sum := "7019359686fa516386d4679ae099b8414cc64b5a2281c3be747d67c9570d4860", func := "loop.example/cubiclines/laws.FnConic", spec := "fnConic", unfollowed := true, recurses := true, apart := false, narrowed := true }
def FnConicUptoSaid : Prop := fnConicUptoRow.holds Try.pinned (OpenSpec.upto fnConicSpec)

end Rows
end Go.Proofs.Ytkhkcgoblibnpaa
