/-
  Words and small laws for the walks of this seat: slices that read as lists of integers, worlds in which all that was there lies unturned.
-/
import Derived.WalkKit
import Derived.WalkSpells
import Derived.Below
import Derived.Deep.QuietTactic
import Derived.BigQuiet
namespace Go.Proofs.Ytkhkcgoblibnpaa
open Go.RowKit

theorem hid {p : Prop} (h : p) : Hid p := h

/-- The elements of a slice of whole numbers read as xs. -/
def RI (w : World) (A : Option Addr) (n : Nat) (xs : List Int) : Prop :=
  xs.length = n ∧ n ≤ 17592186044416 ∧ ∃ b off, (n = 0 ∨ A = some ⟨b, off, none⟩) ∧ ∀ j, j < n → w.cell? ⟨b, off + j, none⟩ = some (.int .i64 (xs.getD j 0))

theorem cell_below {w w1 : World} (h : Below w.heap.size w w1) {a : Addr} {v : Value} (hc : w.cell? a = some v) : w1.cell? a = some v := (h.cell (World.block_lt_of_cell? w a hc)).trans hc

theorem RI.below {w w1 : World} {A : Option Addr} {n : Nat} {xs : List Int} (h : RI w A n xs) (hb : Below w.heap.size w w1) : RI w1 A n xs := by
  obtain ⟨h1, h2, b, off, h3, h4⟩ := h
  exact ⟨h1, h2, b, off, h3, fun j hj => cell_below hb (h4 j hj)⟩

theorem below_trans {w w1 w2 : World} (h : Below w.heap.size w w1) (k : Below w1.heap.size w1 w2) : Below w.heap.size w w2 := h.trans (k.mono h.size)

theorem below_alloc (w : World) (o : Obj) : Below w.heap.size w (w.alloc o) := (Below.refl _ _).alloc (Nat.le_refl _) o

/-- One, and then another: the world behind both. -/
theorem below_alloc_then {w w2 : World} {o : Obj} (k : Below (w.alloc o).heap.size (w.alloc o) w2) : Below w.heap.size w w2 := below_trans (below_alloc w o) k

theorem RI.alloc {w : World} {A : Option Addr} {n : Nat} {xs : List Int} (h : RI w A n xs) (o : Obj) : RI (w.alloc o) A n xs := h.below (below_alloc w o)

theorem getD_lt {xs : List Int} {k : Nat} (h : k < xs.length) : xs.getD k 0 = xs[k] := by simp [List.getD_eq_getElem?_getD, List.getElem?_eq_getElem h]

theorem enters_of {P : Program} {f : FuncId} {fn : Func} {c : Code} (hf : P.funcs[f]? = some fn) (hname : (fn.name == "runtime.NumGoroutine") = false) (hb : fn.body = some c) (args : Array Value) (w : World) :
    (callFunc f args).run P w = .ok (.enter f args) w := by
  have h1 : fn.name ≠ "runtime.NumGoroutine" := by simpa using hname
  simp [callFunc, hf, h1, hb, mark]

theorem own_base {w : World} {base : Nat} {e : TypeId} {size n : Nat} {v : Value} {xs : List Value} (h : w.ownsRow base e size v n xs) (k : Nat) (hk : v.ownBlock = some k) : base ≤ k := by
  rcases h.2 with ⟨rfl, _⟩ | ⟨g, cap, cur, rfl, hb, _⟩
  · simp [Value.ownBlock] at hk
  · have : g = k := by simpa [Value.ownBlock] using hk
    omega

/-- A new block, and an append to a row of the call's own. -/
theorem below_append {B : Nat} {w wr w1 : World} {o : Obj} {e : TypeId} {size n : Nat} {v : Value} {xs : List Value} (hb : Below B w wr) (hB : B ≤ wr.heap.size) (hown : wr.ownsRow B e size v n xs) (hg : (wr.alloc o).grownBy w1 v.ownBlock) : Below B w w1 :=
  (hb.alloc hB o).grown hg (by simp; omega) (own_base hown)

theorem RI.drewN {w : World} {A : Option Addr} {n : Nat} {xs : List Int} (h : RI w A n xs) (m : Nat) : RI (w.drewN m) A n xs := h

/-- A callee that turns nothing, inside a region that draws its order. -/
theorem quiet_same {P : Program} {f : FuncId} {args : Array Value} {w : World} {n : Nat} {v : Value}
    (h : Calls P f args (w.drewN n) fun e w' => e = .returned v ∧ w.drewN n = w') : Calls P f args (w.drewN n) fun e w'' => e = .returned v ∧ ∃ m, w'' = w.drewN m :=
  h.mono fun _ _ ⟨he, hm⟩ => ⟨he, n, hm.symm⟩

theorem below_drewN {B : Nat} {w w1 : World} (h : Below B w w1) (m : Nat) : Below B w (w1.drewN m) := ⟨h.os, h.tape, h.output, h.size, h.block⟩

theorem size_alloc {B : Nat} {w : World} (h : B ≤ w.heap.size) (o : Obj) : B ≤ (w.alloc o).heap.size := by simp; omega

/-- A block of numbers just laid reads as a list. -/
theorem RI_new (w : World) (xs : List Int) (cs : Array Value) (t : TypeId) (n : Nat) (hcs : cs = (xs.map (Value.int .i64)).toArray) (hx : xs.length = n) (hn : n ≤ 17592186044416) :
    RI (w.alloc (.cells cs t)) (some ⟨w.heap.size, 0, none⟩) n xs := by
  refine ⟨hx, hn, w.heap.size, 0, .inr rfl, fun j hj => ?_⟩
  subst hcs
  rw [Nat.zero_add, World.cell?_alloc_at _ _ _ _ rfl]
  simp [List.getD_eq_getElem?_getD, List.getElem?_eq_getElem (show j < xs.length by omega)]

theorem RI_nil (w : World) (A : Option Addr) : RI w A 0 [] := ⟨rfl, by omega, 0, 0, .inl rfl, fun j hj => by omega⟩

/-- Out of what a row's argument is opened into. -/
theorem RI_open {w : World} {x : Addr} {l c : Nat} {zs : List Int} (hl : l ≤ c) (hz : zs.length = c) (hc : ∀ i, i < zs.length → w.cell? (x.add i) = some (.int .i64 (zs.getD i 0))) (hn : l ≤ 17592186044416) : RI w (some x) l (zs.take l) := by
  refine ⟨by simp; omega, hn, ?_⟩
  by_cases h0 : l = 0
  · exact ⟨0, 0, .inl h0, fun j hj => by omega⟩
  · obtain ⟨b, off, spot⟩ := x
    have h := hc 0 (by omega)
    obtain rfl : spot = none := by simpa [Addr.add] using World.cell?_spot h
    refine ⟨b, off, .inr rfl, fun j hj => ?_⟩
    have := hc j (by omega)
    rw [Addr.add_lit] at this
    rw [this]
    simp [List.getD_eq_getElem?_getD, hj]

/-- What a call leaves of a block that was laid just before it. -/
theorem cells_last {w w1 : World} {C : Array Value} {t : TypeId} (hb : Below (w.alloc (.cells C t)).heap.size (w.alloc (.cells C t)) w1) (n : Nat) (hn : n = w.heap.size) :
    (∀ i v, C[i]? = some v → w1.cell? ⟨n, i, none⟩ = some v) ∧ (∀ i, w1.frozen? ⟨n, i, none⟩ = false) ∧ n < w1.heap.size := by
  subst hn
  refine ⟨fun i v hv => cell_below hb ((World.cell?_alloc_at _ _ _ _ rfl).trans hv), fun i => ?_, ?_⟩
  · rw [hb.frozen (by simp)]
    exact World.frozen?_alloc_at _ _ _ _ rfl
  · have := hb.size
    simp at this
    omega
/-- .. and of one that was laid before that. -/
theorem cells_second {w w1 : World} {C : Array Value} {t : TypeId} {o : Obj} (hb : Below ((w.alloc (.cells C t)).alloc o).heap.size ((w.alloc (.cells C t)).alloc o) w1) (n : Nat) (hn : n = w.heap.size) :
    (∀ i v, C[i]? = some v → w1.cell? ⟨n, i, none⟩ = some v) ∧ (∀ i, w1.frozen? ⟨n, i, none⟩ = false) ∧ n < w1.heap.size :=
  cells_last (below_trans (below_alloc _ o) hb) n hn
theorem cells_third {w w1 : World} {C : Array Value} {t : TypeId} {o o' : Obj} (hb : Below (((w.alloc (.cells C t)).alloc o).alloc o').heap.size (((w.alloc (.cells C t)).alloc o).alloc o') w1) (n : Nat) (hn : n = w.heap.size) :
    (∀ i v, C[i]? = some v → w1.cell? ⟨n, i, none⟩ = some v) ∧ (∀ i, w1.frozen? ⟨n, i, none⟩ = false) ∧ n < w1.heap.size :=
  cells_last (below_trans (below_alloc _ o) (below_trans (below_alloc _ o') hb)) n hn

end Go.Proofs.Ytkhkcgoblibnpaa
