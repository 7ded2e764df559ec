/-
  The exponents of the ten products of a point, and the products.
-/
import Derived.Test.YtkhkcgoblibnpaaP3
import Derived.Test.YtkhkcgoblibnpaaOn
import Derived.StillTailTactics
import Derived.Deep.RegionHeldLaw
import Derived.Deep.AppendLies
namespace Go.Proofs.Ytkhkcgoblibnpaa
open Go.RowKit
set_option linter.unusedVariables false
set_option linter.unusedSimpArgs false

theorem own_ne {w : World} {b b' : Nat} {e e' : TypeId} {s s' n m : Nat} {v u : Value} {xs ys : List Value} (h : w.ownsRow b e s v n xs) (k : w.ownsRow b' e' s' u m ys) (hne : e ≠ e') : u.ownBlock = none ∨ u.ownBlock ≠ v.ownBlock := by
  rcases k.2 with ⟨rfl, _⟩ | ⟨g, cap, cur, rfl, _, hg, _⟩
  · exact .inl rfl
  · refine .inr fun he => ?_
    rcases h.2 with ⟨rfl, _⟩ | ⟨g', cap', cur', rfl, _, hg', _⟩
    · simp [Value.ownBlock] at he
    · simp [Value.ownBlock] at he
      subst he
      rw [hg] at hg'
      simp at hg'
      exact hne hg'.2.symm

/-- A list of triples that the call made. -/
def OA (w : World) (base : Nat) (v : Value) (ps : List P3) : Prop := w.ownsRow base 33 3 v ps.length (pcells ps)
theorem OA.alloc {w : World} {base : Nat} {v : Value} {ps : List P3} (h : OA w base v ps) (o : Obj) : OA (w.alloc o) base v ps := World.ownsRow.alloc h o
theorem OA.kept {w w' : World} {base : Nat} {v : Value} {xs : List P3} {row : Option Nat} (h : OA w base v xs) (hg : w.grownBy w' row) (hne : v.ownBlock = none ∨ v.ownBlock ≠ row) : OA w' base v xs := World.ownsRow.kept h hg hne
theorem OA.below {w w' : World} {base : Nat} {v : Value} {xs : List P3} (h : OA w base v xs) (hb : Below w.heap.size w w') : OA w' base v xs :=
  h.kept (row := none) ⟨hb.os, hb.tape, hb.output, hb.size, fun k hk _ => hb.block k hk⟩ (by cases v.ownBlock <;> simp)
theorem OA.shape {w : World} {base : Nat} {v : Value} {ps : List P3} (h : OA w base v ps) (h0 : 0 < ps.length) :
    ∃ g cap, v = .slice (some ⟨g, 0, none⟩) ps.length cap ∧ base ≤ g ∧ g < w.heap.size ∧ ∀ j, j < ps.length → w.cell? ⟨g, j * 3, none⟩ = some (.int .i64 (ps.getD j default).1) ∧ w.cell? ⟨g, j * 3 + 1, none⟩ = some (.int .i64 (ps.getD j default).2.1) ∧ w.cell? ⟨g, j * 3 + 2, none⟩ = some (.int .i64 (ps.getD j default).2.2) := by
  have hlt := World.ownsRow.lt h
  rcases h.2 with ⟨_, h1⟩ | ⟨g, cap, cur, hv, hb, _⟩
  · omega
  · subst hv
    refine ⟨g, cap, rfl, hb, (hlt g rfl).2, fun j hj => ?_⟩
    obtain ⟨a, b, c⟩ := pcells_get ps j hj
    rw [World.ownsRow.cellAt h _ (by omega), World.ownsRow.cellAt h _ (by omega), World.ownsRow.cellAt h _ (by omega)]
    exact ⟨a, b, c⟩

theorem OA.cells3 {w : World} {base : Nat} {g n cap : Nat} {ps : List P3} (h : OA w base (.slice (some ⟨g, 0, none⟩) n cap) ps) (hn : n = ps.length) (j : Nat) (hj : j < ps.length) :
    w.cell? ⟨g, j * 3, none⟩ = some (.int .i64 (ps.getD j default).1) ∧ w.cell? ⟨g, j * 3 + 1, none⟩ = some (.int .i64 (ps.getD j default).2.1) ∧ w.cell? ⟨g, j * 3 + 2, none⟩ = some (.int .i64 (ps.getD j default).2.2) := by
  subst hn
  obtain ⟨a, b, c⟩ := pcells_get ps j hj
  rw [World.ownsRow.cellAt h _ (by omega), World.ownsRow.cellAt h _ (by omega), World.ownsRow.cellAt h _ (by omega)]
  exact ⟨a, b, c⟩

theorem infoA3 : (Try.prog.info? 33).map (fun i => (i.zero, i.size, i.bytes)) = some (some (.agg #[.int .i64 0, .int .i64 0, .int .i64 0]), 3, 24) := by kernel_rfl

theorem append_a3 {ops : Array Oper} {rest : List Oper} {o : Oper} {a : Act} {Q : Exit → Act → World → Prop} {w : World} (s x : Operand) (hgd : o.guard = none)
    (ho : o.op = .call { callee := .builtin .append, args := #[s, x], argTypes := #[83, 83] }) (base : Nat) (v : Value) (ps : List P3) (y : P3) (g : Nat)
    (hs : a.eval s = v) (hx : a.eval x = .slice (some ⟨g, 0, none⟩) 1 1) (hown : OA w base v ps) (hc : ∀ j, j < 3 → w.cell? ⟨g, j, none⟩ = (pc y)[j]?) (hn : ps.length < 4398046511104) (hb : base ≤ w.heap.size)
    (h : ∀ v' w', OA w' base v' (ps ++ [y]) → w.grownBy w' v.ownBlock → wpList Try.prog ops Q rest (a.put o.dst v') w') : wpList Try.prog ops Q (o :: rest) a w := by
  obtain ⟨i0, hi, hz0, hz1, hz2⟩ := info_parts infoA3
  refine wpList_append_own w hgd s x 83 ho base 33 i0 (.agg #[.int .i64 0, .int .i64 0, .int .i64 0]) 3 24 Try.underlying83 hi hz0 hz1 hz2 rfl (by decide) v _ _ hs hown ⟨g, 0, none⟩ 1 1 (pc y) hx rfl ?_ ?_ (by unfold maxLen; omega) (by omega) hb ?_
  · intro j u hj
    have hj3 : j < 3 := (List.getElem?_eq_some_iff.1 hj).1
    rw [Addr.add_lit, Nat.zero_add, hc j hj3, hj]
  · intro u hu
    exact pcells_one [y] u (by simpa [pcells] using hu)
  · intro v' w' h1 h2 _
    refine h v' w' ?_ h2
    unfold OA
    rw [pcells_append]
    simpa [pcells] using h1

/-- 'append(out, y)' at a step of a region that draws its order. -/
theorem step_append_int {ops : Array Oper} {o : Oper} {a : Act} {K : Act → World → Prop} {Q : Exit → Act → World → Prop} {E : Prop} {w : World} (s x : Operand) (hgd : o.guard = none)
    (ho : o.op = .call { callee := .builtin .append, args := #[s, x], argTypes := #[32, 32] }) (base : Nat) (v : Value) (xs : List Int) (y : Int) (ad : Addr)
    (hs : a.eval s = v) (hx : a.eval x = .slice (some ad) 1 1) (hown : OI w base v xs) (hc : w.cell? ad = some (.int .i64 y)) (hn : xs.length < 17592186044416) (hb : base ≤ w.heap.size)
    (h : ∀ g cap w', OI w' base (.slice (some ⟨g, 0, none⟩) (xs.length + 1) cap) (xs ++ [y]) → w.grownBy w' v.ownBlock → K (a.put o.dst (.slice (some ⟨g, 0, none⟩) (xs.length + 1) cap)) w') :
    if Region.wanted o (yielded ops a.tmps) = true then Oper.wp Try.prog o a w K Q else E := by
  obtain ⟨i0, hi, hz0, hz1, hz2⟩ := info_parts infoInt
  refine step_append_lies w hgd s x 32 ho base 3 i0 (.int .i64 0) 1 8 Try.underlying32 hi hz0 hz1 hz2 rfl (by decide) v _ _ hs hown ad 1 1 [.int .i64 y] hx rfl ?_ ?_ (by decide) (by unfold maxLen; omega) (by omega) hb _ rfl ?_
  · intro j u hj
    match j, hj with
    | 0, hj => simp at hj; subst hj; simpa [Addr.add] using hc
  · intro u hu; simp at hu; subst hu; rfl
  · intro g cap w' h1 h2 _ _
    refine h g cap w' ?_ h2
    unfold OI
    simpa using h1

def exps : List P3 := [(3, 0, 0), (2, 1, 0), (2, 0, 1), (1, 2, 0), (1, 1, 1), (1, 0, 2), (0, 3, 0), (0, 2, 1), (0, 1, 2), (0, 0, 3)]

theorem pc_cells' (wr : World) (q : P3) (t : TypeId) (n : Nat) (hn : n = wr.heap.size) : ∀ j, j < 3 → (wr.alloc (.cells #[.int .i64 q.1, .int .i64 q.2.1, .int .i64 q.2.2] t)).cell? ⟨n, j, none⟩ = (pc q)[j]? := by
  subst hn
  intro j hj
  rw [World.cell?_alloc_at _ _ _ _ rfl]
  simp [pc]

theorem pow_bd {x : Int} (h0 : 0 ≤ x) (h1 : x ≤ 31) (k : Nat) (hk : k ≤ 3) : 0 ≤ x ^ k ∧ x ^ k ≤ 29791 := by
  have a := mul_bd h0 h0 h1 h1
  have b := mul_bd a.1 h0 a.2 h1
  match k, hk with
  | 0, _ => rw [Int.pow_zero]; omega
  | 1, _ => rw [show x ^ 1 = x by rw [Int.pow_succ, Int.pow_zero, Int.one_mul]]; omega
  | 2, _ => rw [show x ^ 2 = x * x by rw [Int.pow_succ, Int.pow_succ, Int.pow_zero, Int.one_mul]]; omega
  | 3, _ => rw [show x ^ 3 = x * x * x by rw [Int.pow_succ, Int.pow_succ, Int.pow_succ, Int.pow_zero, Int.one_mul]]; omega

theorem power_ok (x : Int) (k : Nat) (w : World) (h0 : 0 ≤ x) (h1 : x ≤ 31) (hk : k ≤ 3) :
    Calls Try.prog 74 #[.int .i64 x, .int .i64 k] w fun e w' => e = .returned (.int .i64 (x ^ k)) ∧ w = w' := by
  have HB := hid (pow_bd h0 h1)
  go_enter Try.func74, Try.ntmps74
  go_wp2
  go_loop [5, 7] (fun s t => ∃ i : Nat, i ≤ k ∧ t = .int .i64 i ∧ s = .int .i64 (x ^ i)) (fun _ t => k - (intOf t).toNat)
  case atStart => exact ⟨0, by omega, rfl, by simp⟩
  case round =>
    obtain ⟨i, hi, rfl, rfl⟩ := hrel
    by_cases hlt : i < k
    · have b0 := (HB.out i (by omega)).1
      have b1 := (HB.out i (by omega)).2
      have HP := hid (Int.pow_succ x i)
      have hm := mul_bd b0 h0 b1 h1
      generalize x ^ i = y at *
      have m0 := hm.1
      have m1 := hm.2
      clear hm
      go_wp2
      go_round
      case rel => exact ⟨i + 1, by omega, by go_num, by rw [HP.out]⟩
      case measure => simp [intOf]; omega
    · obtain rfl : i = k := by omega
      go_wp2
      go_ret
      exact ⟨rfl, rfl⟩


def ex1 (a : Nat) : Nat := [0, 1, 3, 6, 10].getD a 0
theorem ex_next : ∀ a, a < 4 → ∀ b, b < a + 1 → exps.take (ex1 a + b + 1) = exps.take (ex1 a + b) ++ [(3 - (a : Int), (a : Int) - (b : Int), (b : Int))] := by decide
theorem ex_row : ∀ a, a < 4 → ex1 a + (a + 1) = ex1 (a + 1) := by decide
theorem ex_small (n : Nat) : (exps.take n).length < 4398046511104 := by
  have : (exps.take n).length ≤ exps.length := by simp [List.length_take]; omega
  have : exps.length = 10 := rfl
  omega

set_option maxRecDepth 100000 in
set_option maxHeartbeats 2000000 in
theorem exponents_ok (w : World) :
    Calls Try.prog 73 #[] w fun e w' => ∃ v, e = .returned v ∧ OA w' w.heap.size v exps ∧ Below w.heap.size w w' := by
  go_enter Try.func73, Try.ntmps73
  go_wp2
  go_loopw [1, 2] (fun v x wr => ∃ (a : Nat) (X : Int), a ≤ 4 ∧ X = 3 - (a : Int) ∧ x = .int .i64 X ∧ OA wr w.heap.size v (exps.take (ex1 a)) ∧ Below w.heap.size w wr) (fun _ x _ => (intOf x + 1).toNat)
  case atStart => exact ⟨0, 3, by omega, rfl, rfl, World.ownsRow_lit w #[] 0 (Nat.le_refl _) (by decide) rfl, below_alloc _ _⟩
  case round =>
    obtain ⟨a, X, ha, hX, rfl, ho, hb⟩ := hrel
    have HX := hid hX
    have HO := hid ho
    have HB := hid hb
    have x1 : X ≤ 3 := by omega
    have x2 : -1 ≤ X := by omega
    clear ho hb hX
    by_cases hlt : a < 4
    · have x0 : 0 ≤ X := by have := HX.out; omega
      have H4 := hid (show 3 - X = (a : Int) by have := HX.out; omega)
      clear x2
      go_wp2
      go_loopw [1, 3] (fun v y wr => ∃ (b : Nat) (Y : Int), b ≤ a + 1 ∧ Y = (a : Int) - (b : Int) ∧ y = .int .i64 Y ∧ OA wr w.heap.size v (exps.take (ex1 a + b)) ∧ Below w.heap.size w wr) (fun _ y _ => (intOf y + 1).toNat)
      case atStart => exact ⟨0, 3 - X, by omega, by rw [H4.out]; simp, rfl, HO.out, HB.out⟩
      case round =>
        obtain ⟨b, Y, hb, hY, rfl, ho2, hb2⟩ := hrel
        have HY := hid hY
        have HO2 := hid ho2
        have HB2 := hid hb2
        have y1 : Y ≤ 3 - X := by have := H4.out; omega
        have y2 : -1 ≤ Y := by omega
        clear ho2 hb2 hY
        by_cases hbt : b < a + 1
        · have HT := hid (ex_next a hlt b hbt)
          have HL := hid (ex_small (ex1 a + b))
          have HZ := hid (show 3 - X - Y = (b : Int) by have := HX.out; have := HY.out; omega)
          have y0 : 0 ≤ Y := by have := HY.out; omega
          clear y2
          generalize exps.take (ex1 a + b) = L at *
          go_wp2_with (at_builtin; refine append_a3 _ _ rfl rfl w.heap.size _ L (X, Y, 3 - X - Y) wr.heap.size rfl rfl (HO2.out.alloc _) (pc_cells' wr (X, Y, 3 - X - Y) _ _ rfl) HL.out (size_alloc HB2.out.size _) ?_; intro v' w1 hown hgrow; have HO1 := hid hown; have HG := hid hgrow; clear hown hgrow)
          go_roundw
          case rel =>
            refine ⟨b + 1, Y - 1, by omega, by have := HY.out; omega, rfl, ?_, below_append HB2.out HB2.out.size HO2.out HG.out⟩
            have h := HO1.out
            rw [← Nat.add_assoc, HT.out]
            rwa [HZ.out, HX.out, HY.out] at h
          case measure => simp [intOf]; omega
        · obtain rfl : b = a + 1 := by omega
          have hYm : Y = -1 := by have := HY.out; omega
          subst hYm
          go_wp2
          go_roundw
          case rel => exact ⟨a + 1, X - 1, by omega, by have := HX.out; omega, rfl, by rw [← ex_row a hlt]; exact HO2.out, HB2.out⟩
          case measure => simp [intOf]; omega
    · obtain rfl : a = 4 := by omega
      have hXm : X = -1 := by have := HX.out; omega
      subst hXm
      go_wp2
      go_ret
      exact ⟨_, rfl, HO.out, HB.out⟩


def exN (k : Nat) : Nat × Nat × Nat := [(3, 0, 0), (2, 1, 0), (2, 0, 1), (1, 2, 0), (1, 1, 1), (1, 0, 2), (0, 3, 0), (0, 2, 1), (0, 1, 2), (0, 0, 3)].getD k (0, 0, 0)
theorem exN_eq : ∀ k, k < 10 → exps.getD k default = (((exN k).1 : Int), ((exN k).2.1 : Int), ((exN k).2.2 : Int)) := by decide
theorem exN_bd : ∀ k, k < 10 → (exN k).1 ≤ 3 ∧ (exN k).2.1 ≤ 3 ∧ (exN k).2.2 ≤ 3 ∧ (exN k).1 + (exN k).2.1 + (exN k).2.2 = 3 := by decide

def cubeI (x y z : Int) (k : Nat) : Int := x ^ (exN k).1 * y ^ (exN k).2.1 * z ^ (exN k).2.2
def cubesTo (x y z : Int) (k : Nat) : List Int := (List.range k).map (cubeI x y z)
theorem cubesTo_succ (x y z : Int) (k : Nat) : cubesTo x y z (k + 1) = cubesTo x y z k ++ [cubeI x y z k] := by simp [cubesTo, List.range_succ]
theorem cubesTo_length (x y z : Int) (k : Nat) : (cubesTo x y z k).length = k := by simp [cubesTo]
theorem cubesTo_get (x y z : Int) (k i : Nat) (h : i < k) : (cubesTo x y z k).getD i 0 = cubeI x y z i := by simp [cubesTo, List.getD_eq_getElem?_getD, List.getElem?_map, List.getElem?_range h]

theorem drewOI {w : World} {base : Nat} {v : Value} {xs : List Int} (h : OI w base v xs) : OI w.drew base v xs := h
theorem drewOA {w : World} {base : Nat} {v : Value} {xs : List P3} (h : OA w base v xs) : OA w.drew base v xs := h
theorem drewBelow {B : Nat} {w w1 : World} (h : Below B w w1) : Below B w w1.drew := below_drewN h 1

theorem power_ok' (x : Int) (k : Nat) (w : World) (h0 : 0 ≤ x) (h1 : x ≤ 31) (hk : k ≤ 3) :
    Calls Try.prog 74 #[.int .i64 x, .int .i64 k] w fun e w' => e = .returned (.int .i64 (x ^ k)) ∧ w' = w := (power_ok x k w h0 h1 hk).mono fun _ _ h => ⟨h.1, h.2.symm⟩

set_option maxRecDepth 100000 in
set_option maxHeartbeats 2000000 in
theorem cubes_ok (x y z : Int) (w : World) (hx : 0 ≤ x ∧ x ≤ 31) (hy : 0 ≤ y ∧ y ≤ 31) (hz : 0 ≤ z ∧ z ≤ 31) :
    Calls Try.prog 45 #[.agg #[.int .i64 x, .int .i64 y, .int .i64 z]] w fun e w' => ∃ v, e = .returned v ∧ OI w' w.heap.size v (cubesTo x y z 10) ∧ Below w.heap.size w w' := by
  have PX := hid (pow_bd hx.1 hx.2)
  have PY := hid (pow_bd hy.1 hy.2)
  have PZ := hid (pow_bd hz.1 hz.2)
  have HX := hid (fun k W hk => power_ok' x k W hx.1 hx.2 hk)
  have HY := hid (fun k W hk => power_ok' y k W hy.1 hy.2 hk)
  have HZ := hid (fun k W hk => power_ok' z k W hz.1 hz.2 hk)
  clear hx hy hz
  go_enter Try.func45, Try.ntmps45
  go_wp2_with fail
  refine (exponents_ok _).mono ?_
  rintro e w1 ⟨ve, rfl, oe, be⟩
  obtain ⟨ge, capE, rfl, hge, hgl, hce⟩ := oe.shape (by decide)
  have OE := hid oe
  have BE := hid (below_alloc_then (below_alloc_then be))
  have c0 : w1.cell? ⟨w.heap.size, 0, none⟩ = some (.int .i64 x) := cell_below be (by simp [go_sem])
  have c1 : w1.cell? ⟨w.heap.size, 1, none⟩ = some (.int .i64 y) := cell_below be (by simp [go_sem])
  have c2 : w1.cell? ⟨w.heap.size, 2, none⟩ = some (.int .i64 z) := cell_below be (by simp [go_sem])
  have h0 : w1.heap[w.heap.size]? = some (.cells #[.int .i64 x, .int .i64 y, .int .i64 z] 35 (0, 0)) := by
    rw [be.block _ (by simp; omega), heap_alloc_old _ _ (by simp), heap_alloc_new]
  have HBx := hid h0
  have HO0 := hid (show OI w1 (w.heap.size + 1) (.slice (some ⟨w.heap.size + 1, 0, none⟩) 0 0) [] from OI.below (by have := World.ownsRow_lit (base := w.heap.size + 1) (e := 3) (size := 1) (w.alloc (.cells #[.int .i64 x, .int .i64 y, .int .i64 z] 35)) #[] 0 (by simp) (by decide) rfl; simpa [OI] using this) be)
  have hszb : w.heap.size + 1 ≤ w1.heap.size := by have := be.size; simp at this; omega
  clear be oe hce c0 c1 c2 h0
  have hsz : w.heap.size + 1 ≤ w1.heap.size := hszb
  go_wp2
  go_loopw [3, 9] (fun v t wr => ∃ k : Nat, k ≤ 10 ∧ t = .int .i64 k ∧ OI wr (w.heap.size + 1) v (cubesTo x y z k) ∧ OA wr (w.heap.size + 1 + 1) (.slice (some ⟨ge, 0, none⟩) exps.length capE) exps ∧ wr.heap[w.heap.size]? = some (.cells #[.int .i64 x, .int .i64 y, .int .i64 z] 35 (0, 0)) ∧ Below w.heap.size w wr ∧ w.heap.size + 1 ≤ wr.heap.size) (fun _ t _ => 10 - (intOf t).toNat)
  case atStart => exact ⟨0, by omega, rfl, HO0.out, by simpa using OE.out, HBx.out, BE.out, hsz⟩
  case round =>
    obtain ⟨k, hk, rfl, ho, hoe, hbx, hb, hsz1⟩ := hrel
    have HO := hid ho
    have HOE := hid hoe
    have HBX := hid hbx
    have HB := hid hb
    clear ho hoe hbx hb
    by_cases hlt : k < 10
    · have hcell := HOE.out.cells3 rfl k (by show k < 10; exact hlt)
      rw [exN_eq k hlt] at hcell
      have e0 := hcell.1
      have e1 := hcell.2.1
      have e2 := hcell.2.2
      have hbd := exN_bd k hlt
      have HC := hid (show cubeI x y z k = x ^ (exN k).1 * y ^ (exN k).2.1 * z ^ (exN k).2.2 from rfl)
      have HT := hid (cubesTo_succ x y z k)
      have HLn := hid (show (cubesTo x y z k).length < 17592186044416 by rw [cubesTo_length]; omega)
      have p1 := PX.out (exN k).1 (by omega)
      have p2 := PY.out (exN k).2.1 (by omega)
      have p3 := PZ.out (exN k).2.2 (by omega)
      have HX1 := hid (fun W => HX.out (exN k).1 W (by omega))
      have HY1 := hid (fun W => HY.out (exN k).2.1 W (by omega))
      have HZ1 := hid (fun W => HZ.out (exN k).2.2 W (by omega))
      have q1 := mul_bd p1.1 p2.1 p1.2 p2.2
      have q2 := mul_bd q1.1 p3.1 q1.2 p3.2
      generalize x ^ (exN k).1 = X at *
      generalize y ^ (exN k).2.1 = Y at *
      generalize z ^ (exN k).2.2 = Z at *
      generalize (exN k).1 = a at *
      generalize (exN k).2.1 = b at *
      generalize (exN k).2.2 = c at *
      have hc0 : wr.cell? ⟨w.heap.size, 0, none⟩ = some (.int .i64 x) := by rw [cell_of_row wr _ 0 _ _ _ HBX.out]; rfl
      have hc1 : wr.cell? ⟨w.heap.size, 1, none⟩ = some (.int .i64 y) := by rw [cell_of_row wr _ 1 _ _ _ HBX.out]; rfl
      have hc2 : wr.cell? ⟨w.heap.size, 2, none⟩ = some (.int .i64 z) := by rw [cell_of_row wr _ 2 _ _ _ HBX.out]; rfl
      have n0 := q1.1
      have n1 := q1.2
      have n2 := q2.1
      have n3 := q2.2
      have n4 := p1.1
      have n5 := p1.2
      have n6 := p2.1
      have n7 := p2.2
      have n8 := p3.1
      have n9 := p3.2
      clear hcell p1 p2 p3 q1 q2
      go_wp2
      have d0 : (wr.alloc (.cells #[.int .i64 a, .int .i64 b, .int .i64 c] 33)).cell? ⟨wr.heap.size, 0, none⟩ = some (.int .i64 a) := by rw [World.cell?_alloc_at _ _ _ _ rfl]; rfl
      have d1 : (wr.alloc (.cells #[.int .i64 a, .int .i64 b, .int .i64 c] 33)).cell? ⟨wr.heap.size, 1, none⟩ = some (.int .i64 b) := by rw [World.cell?_alloc_at _ _ _ _ rfl]; rfl
      have d2 : (wr.alloc (.cells #[.int .i64 a, .int .i64 b, .int .i64 c] 33)).cell? ⟨wr.heap.size, 2, none⟩ = some (.int .i64 c) := by rw [World.cell?_alloc_at _ _ _ _ rfl]; rfl
      have f0 := cell_below (below_alloc wr (.cells #[.int .i64 a, .int .i64 b, .int .i64 c] 33)) hc0
      have f1 := cell_below (below_alloc wr (.cells #[.int .i64 a, .int .i64 b, .int .i64 c] 33)) hc1
      have f2 := cell_below (below_alloc wr (.cells #[.int .i64 a, .int .i64 b, .int .i64 c] 33)) hc2
      have HO1 := hid (HO.out.alloc (.cells #[.int .i64 a, .int .i64 b, .int .i64 c] 33))
      have HOE1 := hid (HOE.out.alloc (.cells #[.int .i64 a, .int .i64 b, .int .i64 c] 33))
      have HBX1 := hid ((heap_alloc_old wr (.cells #[.int .i64 a, .int .i64 b, .int .i64 c] 33) (by omega)).trans HBX.out)
      have HB1 := hid (HB.out.alloc (by omega) (.cells #[.int .i64 a, .int .i64 b, .int .i64 c] 33))
      have hs1 : wr.heap.size + 1 = (wr.alloc (.cells #[.int .i64 a, .int .i64 b, .int .i64 c] 33)).heap.size := by simp
      have HS1 := hid hs1
      clear hs1 e0 e1 e2 hc0 hc1 hc2
      generalize wr.alloc (.cells #[.int .i64 a, .int .i64 b, .int .i64 c] 33) = W at *
      have hw1 : IntKind.i64.wrap (X * Y) = X * Y := IntWalk.i64_in _ (by omega)
      have hw2 : IntKind.i64.wrap (X * Y * Z) = X * Y * Z := IntWalk.i64_in _ (by omega)
      go_region_held_law (fun w' => w'.cell? ⟨w.heap.size, 0, none⟩ = some (.int .i64 x) ∧ w'.cell? ⟨w.heap.size, 1, none⟩ = some (.int .i64 y) ∧ w'.cell? ⟨w.heap.size, 2, none⟩ = some (.int .i64 z) ∧ w'.cell? ⟨wr.heap.size, 0, none⟩ = some (.int .i64 a) ∧ w'.cell? ⟨wr.heap.size, 1, none⟩ = some (.int .i64 b) ∧ w'.cell? ⟨wr.heap.size, 2, none⟩ = some (.int .i64 c)) (first | exact ⟨k0, k1, k2, k3, k4, k5⟩ | go_keep)
        (first
          | (go_at_call 74; (with_reducible refine (HX1.out _).mono ?_); rintro e w' ⟨rfl, rfl⟩)
          | (go_at_call 74; (with_reducible refine (HY1.out _).mono ?_); rintro e w' ⟨rfl, rfl⟩)
          | (go_at_call 74; (with_reducible refine (HZ1.out _).mono ?_); rintro e w' ⟨rfl, rfl⟩)
          | (refine step_append_int _ _ rfl rfl (w.heap.size + 1) _ _ _ ⟨W.heap.size, 0, none⟩ rfl rfl ((drewOI HO1.out).alloc _) (World.cell?_alloc_at _ _ _ _ rfl) HLn.out (by have := HS1.out; simp; omega) ?_; intro g cap w2 hown hgrow; have HO2 := hid hown; have HG := hid hgrow; have k0 := hgrow.cell (cell_below (below_alloc W.drew _) f0) (fun e => by have := own_base HO.out _ e.symm; simp at this; omega); have k1 := hgrow.cell (cell_below (below_alloc W.drew _) f1) (fun e => by have := own_base HO.out _ e.symm; simp at this; omega); have k2 := hgrow.cell (cell_below (below_alloc W.drew _) f2) (fun e => by have := own_base HO.out _ e.symm; simp at this; omega); have k3 := hgrow.cell (cell_below (below_alloc W.drew _) d0) (fun e => by have := (World.ownsRow.lt HO.out _ e.symm).2; simp at this); have k4 := hgrow.cell (cell_below (below_alloc W.drew _) d1) (fun e => by have := (World.ownsRow.lt HO.out _ e.symm).2; simp at this); have k5 := hgrow.cell (cell_below (below_alloc W.drew _) d2) (fun e => by have := (World.ownsRow.lt HO.out _ e.symm).2; simp at this); clear hown hgrow))
      go_wp2
      go_roundw
      case rel =>
        refine ⟨k + 1, by omega, by go_num, by rw [HT.out, HC.out]; exact HO2.out, ?_, ?_, ?_, ?_⟩
        · exact OA.kept (OA.alloc (drewOA HOE1.out) _) HG.out (own_ne HO1.out HOE1.out (by decide))
        · exact (HG.out.block _ (by have := HS1.out; simp; omega) (fun e => by have := own_base HO1.out _ e.symm; omega)).trans ((heap_alloc_old _ _ (by have := HS1.out; simp; omega)).trans HBX1.out)
        · exact ((drewBelow HB1.out).alloc (by have := HS1.out; simp; omega) _).grown HG.out (by have := HS1.out; simp; omega) (fun q hq => by have := own_base HO1.out q hq; omega)
        · have := HG.out.size
          have := HS1.out
          simp at *
          omega
      case measure => simp [intOf]; omega
    · obtain rfl : k = 10 := by omega
      go_wp2
      go_ret
      exact ⟨_, rfl, OI.mono HO.out (by omega), HB.out⟩

end Go.Proofs.Ytkhkcgoblibnpaa
