/-
  Regions that draw their order and whose operations read, or call what lays new memory and turns nothing: one walk in the order of the text, in every world that extends the one at hand.
-/
import Derived.Test.YtkhkcgoblibnpaaLib
import Derived.BigQuiet
namespace Go.Proofs.Ytkhkcgoblibnpaa
open Go.RowKit
set_option linter.unusedVariables false

/-- A world in which all that lies in w lies unturned. -/
structure Ext (w : World) where
  at_ : World
  below : Below w.heap.size w at_

instance (w : World) : Nonempty (Ext w) := ⟨⟨w, Below.refl _ _⟩⟩

theorem wp_region_ext {P : Program} {id : Nat} {Q : Exit → Act → World → Prop} {a : Act} {w : World} {l : List Oper} (hm : P.follows .mixedOrders = true) (hB : Region.lexB .any l.toArray = true)
    (h : wpQuiet P l.toArray (fun w' => ∃ d : Ext w, w' = d.at_) (fun a' => ∀ w', (∃ d : Ext w, w' = d.at_) → Q .normal a' w') l a) : (Code.region id l.toArray true).wp P Q a w :=
  wp_region_quiet (C := fun w' => ∃ d : Ext w, w' = d.at_) hm hB ⟨⟨_, below_drewN (Below.refl _ w) 1⟩, rfl⟩ (by simpa using h)

theorem ext_call {P : Program} {f : FuncId} {args : Array Value} {w : World} {d : Ext w} {v : Value} (h : Calls P f args d.at_ fun e w'' => e = .returned v ∧ Below d.at_.heap.size d.at_ w'') :
    Calls P f args d.at_ fun e w'' => e = .returned v ∧ ∃ d' : Ext w, w'' = d'.at_ :=
  h.mono fun _ w'' ⟨he, hb⟩ => ⟨he, ⟨⟨w'', below_trans d.below hb⟩, rfl⟩⟩
theorem ext_pure {P : Program} {f : FuncId} {args : Array Value} {w : World} {d : Ext w} {v : Value} (h : Calls P f args d.at_ fun e w'' => e = .returned v ∧ d.at_ = w'') :
    Calls P f args d.at_ fun e w'' => e = .returned v ∧ ∃ d' : Ext w, w'' = d'.at_ :=
  h.mono fun _ w'' ⟨he, hb⟩ => ⟨he, ⟨d, hb.symm⟩⟩
theorem ext_cell {w : World} {a : Addr} {v : Value} (h : w.cell? a = some v) : ∀ d : Ext w, d.at_.cell? a = some v := fun d => cell_below d.below h

end Go.Proofs.Ytkhkcgoblibnpaa
