/-
  No cell of these rows narrows 'for every input' (looked for: loops, veiled, ifaces, maps, wideKeys, modest, calm, conditions, laid).
  DERIVED. THE GIVEN ROWS OF THIS SEAT. 12 by the template 'for every input the law returns true; each argument reads behind the call as it read before'; 0 by the template 'total and deterministic' (their statements: YtfjfepcklggdcaaTotals.lean).
  GIVEN WITH THE SEED: the statements are not yours to turn. If you find one false, say at which input.
  Laid BY PROGRAM, IN A SANDBOX (cutbox-rows.mjs): the forced cells as the released guide's own fill.sh prints them over the translation 1fd5476902abdad7… (all of the seat's roots in one cut). By AI agents, Wed Nov 11 2026. No macro, syntax, notation, axiom, sorry.
-/
import Derived.Test.YtfjfepcklggdcaaChecked
import GoSem.Claim
import GoSem.ClaimJoined
import GoSem.ClaimMapViews
import Derived.JoinedTies
import Derived.KernelRfl
namespace Go.Proofs.Ytfjfepcklggdcaa
/- THE CELL 'sum', in the pinned program and in every row, IS THE sha256 OF THE DUMP (.gsa) THAT YtfjfepcklggdcaaProg.lean LOADS. Nothing in Lean hashes anything: it is a label: what it is worth is what the hold of that sum in a sandbox is worth. -/
noncomputable def Try.pinned : Pinned := { name := "ytfjfepcklggdcaa", sum := "1fd5476902abdad7a1a097b0eb43bf9bfb84fa0324e4eb7b600cacaa9aa6b43d", checked := Try.checked }
namespace Rows
def none {H : Type} : Left H := { results := [], args := [] }

/-- 'laws.FnExactPrimeIn': WHATEVER THE INPUT: true; the input reads as it did. -/
def fnExactPrimeInSpec : ChangeSpec := { name := "fnExactPrimeIn", fn := fun _ => fun
  | [d] => { results := [.lit (.bool true)], args := [d] }
  | _ => none }
def fnExactPrimeInRow : OpenClaim := { program := "ytfjfepcklggdcaa", sum := "1fd5476902abdad7a1a097b0eb43bf9bfb84fa0324e4eb7b600cacaa9aa6b43d", func := "loop.example/cubiclines/laws.FnExactPrimeIn", spec := "fnExactPrimeIn", apart := false }
def FnExactPrimeInSaid : Prop := fnExactPrimeInRow.holds Try.pinned (OpenSpec.ofChange fnExactPrimeInSpec)

/-- ITS FALSE NEIGHBOUR: 'it returns false'. Refute it at one input. -/
def fnExactPrimeInWrong : ChangeSpec := { name := "fnExactPrimeIn", fn := fun _ => fun
  | [d] => { results := [.lit (.bool false)], args := [d] }
  | _ => none }
def FnExactPrimeInWrongFalsely : Prop := fnExactPrimeInRow.holds Try.pinned (OpenSpec.ofChange fnExactPrimeInWrong)

/-- 'laws.FnPrime': WHATEVER THE INPUT: true; the input reads as it did. -/
def fnPrimeSpec : ChangeSpec := { name := "fnPrime", fn := fun _ => fun
  | [d] => { results := [.lit (.bool true)], args := [d] }
  | _ => none }
def fnPrimeRow : OpenClaim := { program := "ytfjfepcklggdcaa", sum := "1fd5476902abdad7a1a097b0eb43bf9bfb84fa0324e4eb7b600cacaa9aa6b43d", func := "loop.example/cubiclines/laws.FnPrime", spec := "fnPrime", apart := false }
def FnPrimeSaid : Prop := fnPrimeRow.holds Try.pinned (OpenSpec.ofChange fnPrimeSpec)

/-- ITS FALSE NEIGHBOUR: 'it returns false'. Refute it at one input. -/
def fnPrimeWrong : ChangeSpec := { name := "fnPrime", fn := fun _ => fun
  | [d] => { results := [.lit (.bool false)], args := [d] }
  | _ => none }
def FnPrimeWrongFalsely : Prop := fnPrimeRow.holds Try.pinned (OpenSpec.ofChange fnPrimeWrong)

/-- 'laws.FnExactCubicIn': WHATEVER THE INPUT: true; the input reads as it did. -/
def fnExactCubicInSpec : ChangeSpec := { name := "fnExactCubicIn", fn := fun _ => fun
  | [d1, d2] => { results := [.lit (.bool true)], args := [d1, d2] }
  | _ => none }
def fnExactCubicInRow : OpenClaim := { program := "ytfjfepcklggdcaa", sum := "1fd5476902abdad7a1a097b0eb43bf9bfb84fa0324e4eb7b600cacaa9aa6b43d", func := "loop.example/cubiclines/laws.FnExactCubicIn", spec := "fnExactCubicIn", unfollowed := true, recurses := true, apart := false }
def FnExactCubicInSaid : Prop := fnExactCubicInRow.holds Try.pinned (OpenSpec.ofChange fnExactCubicInSpec)

/-- ITS FALSE NEIGHBOUR: 'it returns false'. Refute it at one input. -/
def fnExactCubicInWrong : ChangeSpec := { name := "fnExactCubicIn", fn := fun _ => fun
  | [d1, d2] => { results := [.lit (.bool false)], args := [d1, d2] }
  | _ => none }
def FnExactCubicInWrongFalsely : Prop := fnExactCubicInRow.holds Try.pinned (OpenSpec.ofChange fnExactCubicInWrong)

/-- 'laws.FnExactFormIn': WHATEVER THE INPUT: true; the input reads as it did. -/
def fnExactFormInSpec : ChangeSpec := { name := "fnExactFormIn", fn := fun _ => fun
  | [d1, d2] => { results := [.lit (.bool true)], args := [d1, d2] }
  | _ => none }
def fnExactFormInRow : OpenClaim := { program := "ytfjfepcklggdcaa", sum := "1fd5476902abdad7a1a097b0eb43bf9bfb84fa0324e4eb7b600cacaa9aa6b43d", func := "loop.example/cubiclines/laws.FnExactFormIn", spec := "fnExactFormIn", unfollowed := true, recurses := true, apart := false }
def FnExactFormInSaid : Prop := fnExactFormInRow.holds Try.pinned (OpenSpec.ofChange fnExactFormInSpec)

/-- ITS FALSE NEIGHBOUR: 'it returns false'. Refute it at one input. -/
def fnExactFormInWrong : ChangeSpec := { name := "fnExactFormIn", fn := fun _ => fun
  | [d1, d2] => { results := [.lit (.bool false)], args := [d1, d2] }
  | _ => none }
def FnExactFormInWrongFalsely : Prop := fnExactFormInRow.holds Try.pinned (OpenSpec.ofChange fnExactFormInWrong)

/-- 'laws.FnExactPointIn': WHATEVER THE INPUT: true; the input reads as it did. -/
def fnExactPointInSpec : ChangeSpec := { name := "fnExactPointIn", fn := fun _ => fun
  | [d1, d2] => { results := [.lit (.bool true)], args := [d1, d2] }
  | _ => none }
def fnExactPointInRow : OpenClaim := { program := "ytfjfepcklggdcaa", sum := "1fd5476902abdad7a1a097b0eb43bf9bfb84fa0324e4eb7b600cacaa9aa6b43d", func := "loop.example/cubiclines/laws.FnExactPointIn", spec := "fnExactPointIn", unfollowed := true, recurses := true, apart := false }
def FnExactPointInSaid : Prop := fnExactPointInRow.holds Try.pinned (OpenSpec.ofChange fnExactPointInSpec)

/-- ITS FALSE NEIGHBOUR: 'it returns false'. Refute it at one input. -/
def fnExactPointInWrong : ChangeSpec := { name := "fnExactPointIn", fn := fun _ => fun
  | [d1, d2] => { results := [.lit (.bool false)], args := [d1, d2] }
  | _ => none }
def FnExactPointInWrongFalsely : Prop := fnExactPointInRow.holds Try.pinned (OpenSpec.ofChange fnExactPointInWrong)

/-- 'laws.FnExactPointAll': WHATEVER THE INPUT: true; the input reads as it did. -/
def fnExactPointAllSpec : ChangeSpec := { name := "fnExactPointAll", fn := fun _ => fun
  | [d] => { results := [.lit (.bool true)], args := [d] }
  | _ => none }
def fnExactPointAllRow : OpenClaim := { program := "ytfjfepcklggdcaa", sum := "1fd5476902abdad7a1a097b0eb43bf9bfb84fa0324e4eb7b600cacaa9aa6b43d", func := "loop.example/cubiclines/laws.FnExactPointAll", spec := "fnExactPointAll", apart := false }
def FnExactPointAllSaid : Prop := fnExactPointAllRow.holds Try.pinned (OpenSpec.ofChange fnExactPointAllSpec)

/-- ITS FALSE NEIGHBOUR: 'it returns false'. Refute it at one input. -/
def fnExactPointAllWrong : ChangeSpec := { name := "fnExactPointAll", fn := fun _ => fun
  | [d] => { results := [.lit (.bool false)], args := [d] }
  | _ => none }
def FnExactPointAllWrongFalsely : Prop := fnExactPointAllRow.holds Try.pinned (OpenSpec.ofChange fnExactPointAllWrong)

/-- 'laws.FnExactPlaceIn': WHATEVER THE INPUT: true; the input reads as it did. -/
def fnExactPlaceInSpec : ChangeSpec := { name := "fnExactPlaceIn", fn := fun _ => fun
  | [d1, d2] => { results := [.lit (.bool true)], args := [d1, d2] }
  | _ => none }
def fnExactPlaceInRow : OpenClaim := { program := "ytfjfepcklggdcaa", sum := "1fd5476902abdad7a1a097b0eb43bf9bfb84fa0324e4eb7b600cacaa9aa6b43d", func := "loop.example/cubiclines/laws.FnExactPlaceIn", spec := "fnExactPlaceIn", unfollowed := true, recurses := true, apart := false }
def FnExactPlaceInSaid : Prop := fnExactPlaceInRow.holds Try.pinned (OpenSpec.ofChange fnExactPlaceInSpec)

/-- ITS FALSE NEIGHBOUR: 'it returns false'. Refute it at one input. -/
def fnExactPlaceInWrong : ChangeSpec := { name := "fnExactPlaceIn", fn := fun _ => fun
  | [d1, d2] => { results := [.lit (.bool false)], args := [d1, d2] }
  | _ => none }
def FnExactPlaceInWrongFalsely : Prop := fnExactPlaceInRow.holds Try.pinned (OpenSpec.ofChange fnExactPlaceInWrong)

/-- 'laws.FnExactPointOn': WHATEVER THE INPUT: true; the input reads as it did. -/
def fnExactPointOnSpec : ChangeSpec := { name := "fnExactPointOn", fn := fun _ => fun
  | [d1, d2, d3] => { results := [.lit (.bool true)], args := [d1, d2, d3] }
  | _ => none }
def fnExactPointOnRow : OpenClaim := { program := "ytfjfepcklggdcaa", sum := "1fd5476902abdad7a1a097b0eb43bf9bfb84fa0324e4eb7b600cacaa9aa6b43d", func := "loop.example/cubiclines/laws.FnExactPointOn", spec := "fnExactPointOn", unfollowed := true, recurses := true, apart := false }
def FnExactPointOnSaid : Prop := fnExactPointOnRow.holds Try.pinned (OpenSpec.ofChange fnExactPointOnSpec)

/-- ITS FALSE NEIGHBOUR: 'it returns false'. Refute it at one input. -/
def fnExactPointOnWrong : ChangeSpec := { name := "fnExactPointOn", fn := fun _ => fun
  | [d1, d2, d3] => { results := [.lit (.bool false)], args := [d1, d2, d3] }
  | _ => none }
def FnExactPointOnWrongFalsely : Prop := fnExactPointOnRow.holds Try.pinned (OpenSpec.ofChange fnExactPointOnWrong)

/-- 'laws.FnPointAll': WHATEVER THE INPUT: true; the input reads as it did. -/
def fnPointAllSpec : ChangeSpec := { name := "fnPointAll", fn := fun _ => fun
  | [d] => { results := [.lit (.bool true)], args := [d] }
  | _ => none }
def fnPointAllRow : OpenClaim := { program := "ytfjfepcklggdcaa", sum := "1fd5476902abdad7a1a097b0eb43bf9bfb84fa0324e4eb7b600cacaa9aa6b43d", func := "loop.example/cubiclines/laws.FnPointAll", spec := "fnPointAll", unfollowed := true, recurses := true, apart := false }
def FnPointAllSaid : Prop := fnPointAllRow.holds Try.pinned (OpenSpec.ofChange fnPointAllSpec)

/-- ITS FALSE NEIGHBOUR: 'it returns false'. Refute it at one input. -/
def fnPointAllWrong : ChangeSpec := { name := "fnPointAll", fn := fun _ => fun
  | [d] => { results := [.lit (.bool false)], args := [d] }
  | _ => none }
def FnPointAllWrongFalsely : Prop := fnPointAllRow.holds Try.pinned (OpenSpec.ofChange fnPointAllWrong)

/-- 'laws.FnPlace': WHATEVER THE INPUT: true; the input reads as it did. -/
def fnPlaceSpec : ChangeSpec := { name := "fnPlace", fn := fun _ => fun
  | [d] => { results := [.lit (.bool true)], args := [d] }
  | _ => none }
def fnPlaceRow : OpenClaim := { program := "ytfjfepcklggdcaa", sum := "1fd5476902abdad7a1a097b0eb43bf9bfb84fa0324e4eb7b600cacaa9aa6b43d", func := "loop.example/cubiclines/laws.FnPlace", spec := "fnPlace", unfollowed := true, recurses := true, apart := false }
def FnPlaceSaid : Prop := fnPlaceRow.holds Try.pinned (OpenSpec.ofChange fnPlaceSpec)

/-- ITS FALSE NEIGHBOUR: 'it returns false'. Refute it at one input. -/
def fnPlaceWrong : ChangeSpec := { name := "fnPlace", fn := fun _ => fun
  | [d] => { results := [.lit (.bool false)], args := [d] }
  | _ => none }
def FnPlaceWrongFalsely : Prop := fnPlaceRow.holds Try.pinned (OpenSpec.ofChange fnPlaceWrong)

/-- 'laws.FnExactFormValue': WHATEVER THE INPUT: true; the input reads as it did. -/
def fnExactFormValueSpec : ChangeSpec := { name := "fnExactFormValue", fn := fun _ => fun
  | [d1, d2, d3] => { results := [.lit (.bool true)], args := [d1, d2, d3] }
  | _ => none }
def fnExactFormValueRow : OpenClaim := { program := "ytfjfepcklggdcaa", sum := "1fd5476902abdad7a1a097b0eb43bf9bfb84fa0324e4eb7b600cacaa9aa6b43d", func := "loop.example/cubiclines/laws.FnExactFormValue", spec := "fnExactFormValue", unfollowed := true, recurses := true, apart := false }
def FnExactFormValueSaid : Prop := fnExactFormValueRow.holds Try.pinned (OpenSpec.ofChange fnExactFormValueSpec)

/-- ITS FALSE NEIGHBOUR: 'it returns false'. Refute it at one input. -/
def fnExactFormValueWrong : ChangeSpec := { name := "fnExactFormValue", fn := fun _ => fun
  | [d1, d2, d3] => { results := [.lit (.bool false)], args := [d1, d2, d3] }
  | _ => none }
def FnExactFormValueWrongFalsely : Prop := fnExactFormValueRow.holds Try.pinned (OpenSpec.ofChange fnExactFormValueWrong)

/-- 'laws.FnPointOn': WHATEVER THE INPUT: true; the input reads as it did. -/
def fnPointOnSpec : ChangeSpec := { name := "fnPointOn", fn := fun _ => fun
  | [d] => { results := [.lit (.bool true)], args := [d] }
  | _ => none }
def fnPointOnRow : OpenClaim := { program := "ytfjfepcklggdcaa", sum := "1fd5476902abdad7a1a097b0eb43bf9bfb84fa0324e4eb7b600cacaa9aa6b43d", func := "loop.example/cubiclines/laws.FnPointOn", spec := "fnPointOn", unfollowed := true, recurses := true, apart := false }
def FnPointOnSaid : Prop := fnPointOnRow.holds Try.pinned (OpenSpec.ofChange fnPointOnSpec)

/-- ITS FALSE NEIGHBOUR: 'it returns false'. Refute it at one input. -/
def fnPointOnWrong : ChangeSpec := { name := "fnPointOn", fn := fun _ => fun
  | [d] => { results := [.lit (.bool false)], args := [d] }
  | _ => none }
def FnPointOnWrongFalsely : Prop := fnPointOnRow.holds Try.pinned (OpenSpec.ofChange fnPointOnWrong)

/- THE SECOND FORM. 'bulk': how many values and letters a reading holds, each counted each time it is reached (what is shared counts as often as it is met; a slice's spare places count too). A statement '..UptoSaid' is the law's where the arguments, and the package variables that the reading takes, are together of bulk at most 1048576: NARROWER than '..Said'. Prove '..Said' where nothing that the law and all that it calls make is longer than what came in: it says more and counts as full. Else prove '..UptoSaid'. A law counts once. -/
mutual
def uptoBulk {H : Type} : DataW H → Nat
  | .lit (.string bytes) => bytes.length + 1
  | .lit _ => 1
  | .nil => 1
  | .ptr d => uptoBulk d + 1
  | .slice elems spare => uptoBulkAll elems + uptoBulkAll spare + 1
  | .agg parts => uptoBulkAll parts + 1
  | .iface _ d => uptoBulk d + 1
  | .map entries => uptoBulkEntries entries + 1
  | .held _ => 1
def uptoBulkAll {H : Type} : List (DataW H) → Nat
  | [] => 0
  | d :: r => uptoBulk d + uptoBulkAll r
def uptoBulkEntries {H : Type} : List (Lit × DataW H) → Nat
  | [] => 0
  | x :: r => uptoBulkEntry x + uptoBulkEntries r
def uptoBulkEntry {H : Type} : Lit × DataW H → Nat
  | (.string bytes, d) => bytes.length + uptoBulk d + 1
  | (_, d) => uptoBulk d + 1
 end
def uptoSmall : (H : Type) → List (DataW H) → Bool := fun _ ds => decide (uptoBulkAll ds ≤ 1048576)
def OpenSpec.upto (s : _root_.Go.ChangeSpec) : _root_.Go.OpenSpec := { _root_.Go.OpenSpec.ofChange s with cond := some uptoSmall }

/-- 'laws.FnExactPrimeIn', WHERE WHAT IT READS IS OF BULK AT MOST 1048576: true; the input reads as it did. -/
def fnExactPrimeInUptoRow : OpenClaim := { program := "ytfjfepcklggdcaa", sum := "1fd5476902abdad7a1a097b0eb43bf9bfb84fa0324e4eb7b600cacaa9aa6b43d", func := "loop.example/cubiclines/laws.FnExactPrimeIn", spec := "fnExactPrimeIn", apart := false, narrowed := true }
def FnExactPrimeInUptoSaid : Prop := fnExactPrimeInUptoRow.holds Try.pinned (OpenSpec.upto fnExactPrimeInSpec)

/-- 'laws.FnPrime', WHERE WHAT IT READS IS OF BULK AT MOST 1048576: true; the input reads as it did. -/
def fnPrimeUptoRow : OpenClaim := { program := "ytfjfepcklggdcaa", sum := "1fd5476902abdad7a1a097b0eb43bf9bfb84fa0324e4eb7b600cacaa9aa6b43d", func := "loop.example/cubiclines/laws.FnPrime", spec := "fnPrime", apart := false, narrowed := true }
def FnPrimeUptoSaid : Prop := fnPrimeUptoRow.holds Try.pinned (OpenSpec.upto fnPrimeSpec)

/-- 'laws.FnExactCubicIn', WHERE WHAT IT READS IS OF BULK AT MOST 1048576: true; the input reads as it did. -/
def fnExactCubicInUptoRow : OpenClaim := { program := "ytfjfepcklggdcaa", sum := "1fd5476902abdad7a1a097b0eb43bf9bfb84fa0324e4eb7b600cacaa9aa6b43d", func := "loop.example/cubiclines/laws.FnExactCubicIn", spec := "fnExactCubicIn", unfollowed := true, recurses := true, apart := false, narrowed := true }
def FnExactCubicInUptoSaid : Prop := fnExactCubicInUptoRow.holds Try.pinned (OpenSpec.upto fnExactCubicInSpec)

/-- 'laws.FnExactFormIn', WHERE WHAT IT READS IS OF BULK AT MOST 1048576: true; the input reads as it did. -/
def fnExactFormInUptoRow : OpenClaim := { program := "ytfjfepcklggdcaa", sum := "1fd5476902abdad7a1a097b0eb43bf9bfb84fa0324e4eb7b600cacaa9aa6b43d", func := "loop.example/cubiclines/laws.FnExactFormIn", spec := "fnExactFormIn", unfollowed := true, recurses := true, apart := false, narrowed := true }
def FnExactFormInUptoSaid : Prop := fnExactFormInUptoRow.holds Try.pinned (OpenSpec.upto fnExactFormInSpec)

/-- 'laws.FnExactPointIn', WHERE WHAT IT READS IS OF BULK AT MOST 1048576: true; the input reads as it did. -/
def fnExactPointInUptoRow : OpenClaim := { program := "ytfjfepcklggdcaa", sum := "1fd5476902abdad7a1a097b0eb43bf9bfb84fa0324e4eb7b600cacaa9aa6b43d", func := "loop.example/cubiclines/laws.FnExactPointIn", spec := "fnExactPointIn", unfollowed := true, recurses := true, apart := false, narrowed := true }
def FnExactPointInUptoSaid : Prop := fnExactPointInUptoRow.holds Try.pinned (OpenSpec.upto fnExactPointInSpec)

/-- 'laws.FnExactPointAll', WHERE WHAT IT READS IS OF BULK AT MOST 1048576: true; the input reads as it did. -/
def fnExactPointAllUptoRow : OpenClaim := { program := "ytfjfepcklggdcaa", sum := "1fd5476902abdad7a1a097b0eb43bf9bfb84fa0324e4eb7b600cacaa9aa6b43d", func := "loop.example/cubiclines/laws.FnExactPointAll", spec := "fnExactPointAll", apart := false, narrowed := true }
def FnExactPointAllUptoSaid : Prop := fnExactPointAllUptoRow.holds Try.pinned (OpenSpec.upto fnExactPointAllSpec)

/-- 'laws.FnExactPlaceIn', WHERE WHAT IT READS IS OF BULK AT MOST 1048576: true; the input reads as it did. -/
def fnExactPlaceInUptoRow : OpenClaim := { program := "ytfjfepcklggdcaa", sum := "1fd5476902abdad7a1a097b0eb43bf9bfb84fa0324e4eb7b600cacaa9aa6b43d", func := "loop.example/cubiclines/laws.FnExactPlaceIn", spec := "fnExactPlaceIn", unfollowed := true, recurses := true, apart := false, narrowed := true }
def FnExactPlaceInUptoSaid : Prop := fnExactPlaceInUptoRow.holds Try.pinned (OpenSpec.upto fnExactPlaceInSpec)

/-- 'laws.FnExactPointOn', WHERE WHAT IT READS IS OF BULK AT MOST 1048576: true; the input reads as it did. -/
def fnExactPointOnUptoRow : OpenClaim := { program := "ytfjfepcklggdcaa", sum := "1fd5476902abdad7a1a097b0eb43bf9bfb84fa0324e4eb7b600cacaa9aa6b43d", func := "loop.example/cubiclines/laws.FnExactPointOn", spec := "fnExactPointOn", unfollowed := true, recurses := true, apart := false, narrowed := true }
def FnExactPointOnUptoSaid : Prop := fnExactPointOnUptoRow.holds Try.pinned (OpenSpec.upto fnExactPointOnSpec)

/-- 'laws.FnPointAll', WHERE WHAT IT READS IS OF BULK AT MOST 1048576: true; the input reads as it did. -/
def fnPointAllUptoRow : OpenClaim := { program := "ytfjfepcklggdcaa", sum := "1fd5476902abdad7a1a097b0eb43bf9bfb84fa0324e4eb7b600cacaa9aa6b43d", func := "loop.example/cubiclines/laws.FnPointAll", spec := "fnPointAll", unfollowed := true, recurses := true, apart := false, narrowed := true }
def FnPointAllUptoSaid : Prop := fnPointAllUptoRow.holds Try.pinned (OpenSpec.upto fnPointAllSpec)

/-- 'laws.FnPlace', WHERE WHAT IT READS IS OF BULK AT MOST 1048576: true; the input reads as it did. -/
def fnPlaceUptoRow : OpenClaim := { program := "ytfjfepcklggdcaa", sum := "1fd5476902abdad7a1a097b0eb43bf9bfb84fa0324e4eb7b600cacaa9aa6b43d", func := "loop.example/cubiclines/laws.FnPlace", spec := "fnPlace", unfollowed := true, recurses := true, apart := false, narrowed := true }
def FnPlaceUptoSaid : Prop := fnPlaceUptoRow.holds Try.pinned (OpenSpec.upto fnPlaceSpec)

/-- 'laws.FnExactFormValue', WHERE WHAT IT READS IS OF BULK AT MOST 1048576: true; the input reads as it did. -/
def fnExactFormValueUptoRow : OpenClaim := { program := "ytfjfepcklggdcaa", sum := "1fd5476902abdad7a1a097b0eb43bf9bfb84fa0324e4eb7b600cacaa9aa6b43d", func := "loop.example/cubiclines/laws.FnExactFormValue", spec := "fnExactFormValue", unfollowed := true, recurses := true, apart := false, narrowed := true }
def FnExactFormValueUptoSaid : Prop := fnExactFormValueUptoRow.holds Try.pinned (OpenSpec.upto fnExactFormValueSpec)

/-- 'laws.FnPointOn', WHERE WHAT IT READS IS OF BULK AT MOST 1048576: true; the input reads as it did. -/
def fnPointOnUptoRow : OpenClaim := { program := "ytfjfepcklggdcaa", sum := "1fd5476902abdad7a1a097b0eb43bf9bfb84fa0324e4eb7b600cacaa9aa6b43d", func := "loop.example/cubiclines/laws.FnPointOn", spec := "fnPointOn", unfollowed := true, recurses := true, apart := false, narrowed := true }
def FnPointOnUptoSaid : Prop := fnPointOnUptoRow.holds Try.pinned (OpenSpec.upto fnPointOnSpec)

end Rows
end Go.Proofs.Ytfjfepcklggdcaa
