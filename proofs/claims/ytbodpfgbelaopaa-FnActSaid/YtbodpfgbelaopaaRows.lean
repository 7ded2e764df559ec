/-
  No cell of these rows narrows 'for every input' (looked for: loops, veiled, ifaces, maps, wideKeys, modest, calm, conditions, laid).
  DERIVED. THE GIVEN ROWS OF THIS SEAT. 7 by the template 'for every input the law returns true; each argument reads behind the call as it read before'; 0 by the template 'total and deterministic' (their statements: YtbodpfgbelaopaaTotals.lean).
  GIVEN WITH THE SEED: the statements are not yours to turn. If you find one false, say at which input.
  Laid BY PROGRAM, IN A SANDBOX (cutbox-rows.mjs): the forced cells as the released guide's own fill.sh prints them over the translation a4d227304057b469… (all of the seat's roots in one cut). By AI agents, Wed Nov 11 2026. No macro, syntax, notation, axiom, sorry.
-/
import Derived.Test.YtbodpfgbelaopaaChecked
import GoSem.Claim
import GoSem.ClaimJoined
import GoSem.ClaimMapViews
import Derived.JoinedTies
import Derived.KernelRfl
namespace Go.Proofs.Ytbodpfgbelaopaa
/- THE CELL 'sum', in the pinned program and in every row, IS THE sha256 OF THE DUMP (.gsa) THAT YtbodpfgbelaopaaProg.lean LOADS. Nothing in Lean hashes anything: it is a label: what it is worth is what the hold of that sum in a sandbox is worth. -/
noncomputable def Try.pinned : Pinned := { name := "ytbodpfgbelaopaa", sum := "a4d227304057b469c988137a4698ad1d2ac56149d4b9108ebdf218a0bc0d866c", checked := Try.checked }
namespace Rows
def none {H : Type} : Left H := { results := [], args := [] }

/-- 'laws.FnExactWordAct': WHATEVER THE INPUT: true; the input reads as it did. -/
def fnExactWordActSpec : ChangeSpec := { name := "fnExactWordAct", fn := fun _ => fun
  | [d1, d2] => { results := [.lit (.bool true)], args := [d1, d2] }
  | _ => none }
def fnExactWordActRow : OpenClaim := { program := "ytbodpfgbelaopaa", sum := "a4d227304057b469c988137a4698ad1d2ac56149d4b9108ebdf218a0bc0d866c", func := "loop.example/cubiclines/laws.FnExactWordAct", spec := "fnExactWordAct", unfollowed := true, recurses := true, apart := false }
def FnExactWordActSaid : Prop := fnExactWordActRow.holds Try.pinned (OpenSpec.ofChange fnExactWordActSpec)

/-- ITS FALSE NEIGHBOUR: 'it returns false'. Refute it at one input. -/
def fnExactWordActWrong : ChangeSpec := { name := "fnExactWordAct", fn := fun _ => fun
  | [d1, d2] => { results := [.lit (.bool false)], args := [d1, d2] }
  | _ => none }
def FnExactWordActWrongFalsely : Prop := fnExactWordActRow.holds Try.pinned (OpenSpec.ofChange fnExactWordActWrong)

/-- 'laws.FnExactRootList': WHATEVER THE INPUT: true; the input reads as it did. -/
def fnExactRootListSpec : ChangeSpec := { name := "fnExactRootList", fn := fun _ => fun
  | [d] => { results := [.lit (.bool true)], args := [d] }
  | _ => none }
def fnExactRootListRow : OpenClaim := { program := "ytbodpfgbelaopaa", sum := "a4d227304057b469c988137a4698ad1d2ac56149d4b9108ebdf218a0bc0d866c", func := "loop.example/cubiclines/laws.FnExactRootList", spec := "fnExactRootList", apart := false }
def FnExactRootListSaid : Prop := fnExactRootListRow.holds Try.pinned (OpenSpec.ofChange fnExactRootListSpec)

/-- ITS FALSE NEIGHBOUR: 'it returns false'. Refute it at one input. -/
def fnExactRootListWrong : ChangeSpec := { name := "fnExactRootList", fn := fun _ => fun
  | [d] => { results := [.lit (.bool false)], args := [d] }
  | _ => none }
def FnExactRootListWrongFalsely : Prop := fnExactRootListRow.holds Try.pinned (OpenSpec.ofChange fnExactRootListWrong)

/-- 'laws.FnRootList': WHATEVER THE INPUT: true; the input reads as it did. -/
def fnRootListSpec : ChangeSpec := { name := "fnRootList", fn := fun _ => fun
  | [d] => { results := [.lit (.bool true)], args := [d] }
  | _ => none }
def fnRootListRow : OpenClaim := { program := "ytbodpfgbelaopaa", sum := "a4d227304057b469c988137a4698ad1d2ac56149d4b9108ebdf218a0bc0d866c", func := "loop.example/cubiclines/laws.FnRootList", spec := "fnRootList", apart := false }
def FnRootListSaid : Prop := fnRootListRow.holds Try.pinned (OpenSpec.ofChange fnRootListSpec)

/-- ITS FALSE NEIGHBOUR: 'it returns false'. Refute it at one input. -/
def fnRootListWrong : ChangeSpec := { name := "fnRootList", fn := fun _ => fun
  | [d] => { results := [.lit (.bool false)], args := [d] }
  | _ => none }
def FnRootListWrongFalsely : Prop := fnRootListRow.holds Try.pinned (OpenSpec.ofChange fnRootListWrong)

/-- 'laws.FnRoot': WHATEVER THE INPUT: true; the input reads as it did. -/
def fnRootSpec : ChangeSpec := { name := "fnRoot", fn := fun _ => fun
  | [d] => { results := [.lit (.bool true)], args := [d] }
  | _ => none }
def fnRootRow : OpenClaim := { program := "ytbodpfgbelaopaa", sum := "a4d227304057b469c988137a4698ad1d2ac56149d4b9108ebdf218a0bc0d866c", func := "loop.example/cubiclines/laws.FnRoot", spec := "fnRoot", apart := false }
def FnRootSaid : Prop := fnRootRow.holds Try.pinned (OpenSpec.ofChange fnRootSpec)

/-- ITS FALSE NEIGHBOUR: 'it returns false'. Refute it at one input. -/
def fnRootWrong : ChangeSpec := { name := "fnRoot", fn := fun _ => fun
  | [d] => { results := [.lit (.bool false)], args := [d] }
  | _ => none }
def FnRootWrongFalsely : Prop := fnRootRow.holds Try.pinned (OpenSpec.ofChange fnRootWrong)

/-- 'laws.FnReflect': WHATEVER THE INPUT: true; the input reads as it did. -/
def fnReflectSpec : ChangeSpec := { name := "fnReflect", fn := fun _ => fun
  | [d] => { results := [.lit (.bool true)], args := [d] }
  | _ => none }
def fnReflectRow : OpenClaim := { program := "ytbodpfgbelaopaa", sum := "a4d227304057b469c988137a4698ad1d2ac56149d4b9108ebdf218a0bc0d866c", func := "loop.example/cubiclines/laws.FnReflect", spec := "fnReflect", apart := false }
def FnReflectSaid : Prop := fnReflectRow.holds Try.pinned (OpenSpec.ofChange fnReflectSpec)

/-- ITS FALSE NEIGHBOUR: 'it returns false'. Refute it at one input. -/
def fnReflectWrong : ChangeSpec := { name := "fnReflect", fn := fun _ => fun
  | [d] => { results := [.lit (.bool false)], args := [d] }
  | _ => none }
def FnReflectWrongFalsely : Prop := fnReflectRow.holds Try.pinned (OpenSpec.ofChange fnReflectWrong)

/-- 'laws.FnReflectLine': WHATEVER THE INPUT: true; the input reads as it did. -/
def fnReflectLineSpec : ChangeSpec := { name := "fnReflectLine", fn := fun _ => fun
  | [d] => { results := [.lit (.bool true)], args := [d] }
  | _ => none }
def fnReflectLineRow : OpenClaim := { program := "ytbodpfgbelaopaa", sum := "a4d227304057b469c988137a4698ad1d2ac56149d4b9108ebdf218a0bc0d866c", func := "loop.example/cubiclines/laws.FnReflectLine", spec := "fnReflectLine", apart := false }
def FnReflectLineSaid : Prop := fnReflectLineRow.holds Try.pinned (OpenSpec.ofChange fnReflectLineSpec)

/-- ITS FALSE NEIGHBOUR: 'it returns false'. Refute it at one input. -/
def fnReflectLineWrong : ChangeSpec := { name := "fnReflectLine", fn := fun _ => fun
  | [d] => { results := [.lit (.bool false)], args := [d] }
  | _ => none }
def FnReflectLineWrongFalsely : Prop := fnReflectLineRow.holds Try.pinned (OpenSpec.ofChange fnReflectLineWrong)

/-- 'laws.FnAct': WHATEVER THE INPUT: true; the input reads as it did. -/
def fnActSpec : ChangeSpec := { name := "fnAct", fn := fun _ => fun
  | [d] => { results := [.lit (.bool true)], args := [d] }
  | _ => none }
def fnActRow : OpenClaim := { program := "ytbodpfgbelaopaa", sum := "a4d227304057b469c988137a4698ad1d2ac56149d4b9108ebdf218a0bc0d866c", func := "loop.example/cubiclines/laws.FnAct", spec := "fnAct", unfollowed := true, recurses := true, apart := false }
def FnActSaid : Prop := fnActRow.holds Try.pinned (OpenSpec.ofChange fnActSpec)

/-- ITS FALSE NEIGHBOUR: 'it returns false'. Refute it at one input. -/
def fnActWrong : ChangeSpec := { name := "fnAct", fn := fun _ => fun
  | [d] => { results := [.lit (.bool false)], args := [d] }
  | _ => none }
def FnActWrongFalsely : Prop := fnActRow.holds Try.pinned (OpenSpec.ofChange fnActWrong)

/- THE SECOND FORM. 'bulk': how many values and letters a reading holds, each counted each time it is reached (what is shared counts as often as it is met; a slice's spare places count too). A statement '..UptoSaid' is the law's where the arguments, and the package variables that the reading takes, are together of bulk at most 1048576: NARROWER than '..Said'. Prove '..Said' where nothing that the law and all that it calls make is longer than what came in: it says more and counts as full. Else prove '..UptoSaid'. A law counts once. -/
mutual
def uptoBulk {H : Type} : DataW H → Nat
  | .lit (.string bytes) => bytes.length + 1
  | .lit _ => 1
  | .nil => 1
  | .ptr d => uptoBulk d + 1
  | .slice elems spare => uptoBulkAll elems + uptoBulkAll spare + 1
  | .agg parts => uptoBulkAll parts + 1
  | .iface _ d => uptoBulk d + 1
  | .map entries => uptoBulkEntries entries + 1
  | .held _ => 1
def uptoBulkAll {H : Type} : List (DataW H) → Nat
  | [] => 0
  | d :: r => uptoBulk d + uptoBulkAll r
def uptoBulkEntries {H : Type} : List (Lit × DataW H) → Nat
  | [] => 0
  | x :: r => uptoBulkEntry x + uptoBulkEntries r
def uptoBulkEntry {H : Type} : Lit × DataW H → Nat
  | (.string bytes, d) => bytes.length + uptoBulk d + 1
  | (_, d) => uptoBulk d + 1
 end
def uptoSmall : (H : Type) → List (DataW H) → Bool := fun _ ds => decide (uptoBulkAll ds ≤ 1048576)
def OpenSpec.upto (s : _root_.Go.ChangeSpec) : _root_.Go.OpenSpec := { _root_.Go.OpenSpec.ofChange s with cond := some uptoSmall }

/-- 'laws.FnExactWordAct', WHERE WHAT IT READS IS OF BULK AT MOST 1048576: true; the input reads as it did. -/
def fnExactWordActUptoRow : OpenClaim := { program := "ytbodpfgbelaopaa", sum := "a4d227304057b469c988137a4698ad1d2ac56149d4b9108ebdf218a0bc0d866c", func := "loop.example/cubiclines/laws.FnExactWordAct", spec := "fnExactWordAct", unfollowed := true, recurses := true, apart := false, narrowed := true }
def FnExactWordActUptoSaid : Prop := fnExactWordActUptoRow.holds Try.pinned (OpenSpec.upto fnExactWordActSpec)

/-- 'laws.FnExactRootList', WHERE WHAT IT READS IS OF BULK AT MOST 1048576: true; the input reads as it did. -/
def fnExactRootListUptoRow : OpenClaim := { program := "ytbodpfgbelaopaa", sum := "a4d227304057b469c988137a4698ad1d2ac56149d4b9108ebdf218a0bc0d866c", func := "loop.example/cubiclines/laws.FnExactRootList", spec := "fnExactRootList", apart := false, narrowed := true }
def FnExactRootListUptoSaid : Prop := fnExactRootListUptoRow.holds Try.pinned (OpenSpec.upto fnExactRootListSpec)

/-- 'laws.FnRootList', WHERE WHAT IT READS IS OF BULK AT MOST 1048576: true; the input reads as it did. -/
def fnRootListUptoRow : OpenClaim := { program := "ytbodpfgbelaopaa", sum := "a4d227304057b469c988137a4698ad1d2ac56149d4b9108ebdf218a0bc0d866c", func := "loop.example/cubiclines/laws.FnRootList", spec := "fnRootList", apart := false, narrowed := true }
def FnRootListUptoSaid : Prop := fnRootListUptoRow.holds Try.pinned (OpenSpec.upto fnRootListSpec)

/-- 'laws.FnRoot', WHERE WHAT IT READS IS OF BULK AT MOST 1048576: true; the input reads as it did. -/
def fnRootUptoRow : OpenClaim := { program := "ytbodpfgbelaopaa", sum := "a4d227304057b469c988137a4698ad1d2ac56149d4b9108ebdf218a0bc0d866c", func := "loop.example/cubiclines/laws.FnRoot", spec := "fnRoot", apart := false, narrowed := true }
def FnRootUptoSaid : Prop := fnRootUptoRow.holds Try.pinned (OpenSpec.upto fnRootSpec)

/-- 'laws.FnReflect', WHERE WHAT IT READS IS OF BULK AT MOST 1048576: true; the input reads as it did. -/
def fnReflectUptoRow : OpenClaim := { program := "ytbodpfgbelaopaa", sum := "a4d227304057b469c988137a4698ad1d2ac56149d4b9108ebdf218a0bc0d866c", func := "loop.example/cubiclines/laws.FnReflect", spec := "fnReflect", apart := false, narrowed := true }
def FnReflectUptoSaid : Prop := fnReflectUptoRow.holds Try.pinned (OpenSpec.upto fnReflectSpec)

/-- 'laws.FnReflectLine', WHERE WHAT IT READS IS OF BULK AT MOST 1048576: true; the input reads as it did. -/
def fnReflectLineUptoRow : OpenClaim := { program := "ytbodpfgbelaopaa", sum := "a4d227304057b469c988137a4698ad1d2ac56149d4b9108ebdf218a0bc0d866c", func := "loop.example/cubiclines/laws.FnReflectLine", spec := "fnReflectLine", apart := false, narrowed := true }
def FnReflectLineUptoSaid : Prop := fnReflectLineUptoRow.holds Try.pinned (OpenSpec.upto fnReflectLineSpec)

/-- 'laws.FnAct', WHERE WHAT IT READS IS OF BULK AT MOST 1048576: true; the input reads as it did. -/
def fnActUptoRow : OpenClaim := { program := "ytbodpfgbelaopaa", sum := "a4d227304057b469c988137a4698ad1d2ac56149d4b9108ebdf218a0bc0d866c", func := "loop.example/cubiclines/laws.FnAct", spec := "fnAct", unfollowed := true, recurses := true, apart := false, narrowed := true }
def FnActUptoSaid : Prop := fnActUptoRow.holds Try.pinned (OpenSpec.upto fnActSpec)

end Rows
end Go.Proofs.Ytbodpfgbelaopaa
