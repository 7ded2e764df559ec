/-
  Words and contracts: slices of points.
-/
import Derived.Test.YtkhkcgoblibnpaaD
import Derived.Test.YtkhkcgoblibnpaaP3
import Derived.StillTailTactics
import Derived.Deep.RegionHeld3
namespace Go.Proofs.Ytkhkcgoblibnpaa
open Go.RowKit
set_option linter.unusedVariables false
set_option linter.unusedSimpArgs false

/-- The elements of a slice of points read as ps. -/
def RP (w : World) (A : Option Addr) (n : Nat) (ps : List P3) : Prop :=
  ps.length = n ∧ n ≤ 4398046511104 ∧ ∃ b off, (n = 0 ∨ A = some ⟨b, off, none⟩) ∧ ∀ j, j < n → w.cell? ⟨b, off + j * 3, none⟩ = some (.int .i64 (ps.getD j default).1) ∧ w.cell? ⟨b, off + j * 3 + 1, none⟩ = some (.int .i64 (ps.getD j default).2.1) ∧ w.cell? ⟨b, off + j * 3 + 2, none⟩ = some (.int .i64 (ps.getD j default).2.2)

theorem drop_eq_cons3 {ps qs : List P3} {k : Nat} (hx : k < ps.length) (hy : k < qs.length) :
    (ps.drop k == qs.drop k) = ((((ps.getD k default).1 == (qs.getD k default).1 && (ps.getD k default).2.1 == (qs.getD k default).2.1) && (ps.getD k default).2.2 == (qs.getD k default).2.2) && (ps.drop (k + 1) == qs.drop (k + 1))) := by
  have e1 : ps.getD k default = ps[k] := by simp [List.getD_eq_getElem?_getD, List.getElem?_eq_getElem hx]
  have e2 : qs.getD k default = qs[k] := by simp [List.getD_eq_getElem?_getD, List.getElem?_eq_getElem hy]
  rw [List.drop_eq_getElem_cons hx, List.drop_eq_getElem_cons hy, e1, e2]
  obtain ⟨x, y, z⟩ := ps[k]
  obtain ⟨x', y', z'⟩ := qs[k]
  show (((x, y, z) == (x', y', z')) && (ps.drop (k + 1) == qs.drop (k + 1))) = _
  congr 1
  show ((x == x') && ((y == y') && (z == z'))) = _
  rw [Bool.and_assoc]

theorem eqIntA3_ok (x y z x' y' z' : Int) (w : World) :
    Calls Try.prog 75 #[.agg #[.int .i64 x, .int .i64 y, .int .i64 z], .agg #[.int .i64 x', .int .i64 y', .int .i64 z']] w fun e w' => e = .returned (.bool ((x == x' && y == y') && z == z')) ∧ Below w.heap.size w w' := by
  cases h0 : (x == x')
  · have H0 := hid h0
    have h0' : (x != x') = true := by simpa using h0
    go_enter Try.func75, Try.ntmps75
    go_wp2
    refine wp_loop_rounds 1 ?_
    rw [rounds_succ]
    go_wp2
    go_quiet (fail)
    go_wp2
    go_ret
    refine ⟨by simp, ?_⟩
    repeat apply below_drewN
    exact (below_alloc _ _).alloc (by simp) _
  · have H0 := hid h0
    have h0' : (x != x') = false := by simpa using h0
    cases h1 : (y == y')
    · have H1 := hid h1
      have h1' : (y != y') = true := by simpa using h1
      clear h0 h1
      go_enter Try.func75, Try.ntmps75
      go_wp2
      refine wp_loop_rounds 2 ?_
      rw [rounds_succ]
      go_wp2
      go_quiet (fail)
      go_wp2
      rw [rounds_succ]
      go_wp2
      go_quiet (fail)
      go_wp2
      go_ret
      refine ⟨by simp, ?_⟩
      repeat apply below_drewN
      exact (below_alloc _ _).alloc (by simp) _
    · have H1 := hid h1
      have h1' : (y != y') = false := by simpa using h1
      clear h0 h1
      cases h2 : (z == z')
      · have H2 := hid h2
        have h2' : (z != z') = true := by simpa using h2
        clear h2
        go_enter Try.func75, Try.ntmps75
        go_wp2
        refine wp_loop_rounds 3 ?_
        rw [rounds_succ]
        go_wp2
        go_quiet (fail)
        go_wp2
        rw [rounds_succ]
        go_wp2
        go_quiet (fail)
        go_wp2
        rw [rounds_succ]
        go_wp2
        go_quiet (fail)
        go_wp2
        go_ret
        refine ⟨by simp, ?_⟩
        repeat apply below_drewN
        exact (below_alloc _ _).alloc (by simp) _
      · have H2 := hid h2
        have h2' : (z != z') = false := by simpa using h2
        clear h2
        go_enter Try.func75, Try.ntmps75
        go_wp2
        refine wp_loop_rounds 4 ?_
        rw [rounds_succ]
        go_wp2
        go_quiet (fail)
        go_wp2
        rw [rounds_succ]
        go_wp2
        go_quiet (fail)
        go_wp2
        rw [rounds_succ]
        go_wp2
        go_quiet (fail)
        go_wp2
        rw [rounds_succ]
        go_wp2
        go_ret
        refine ⟨by simp, ?_⟩
        repeat apply below_drewN
        exact (below_alloc _ _).alloc (by simp) _

theorem eqPoint_ok (x y z x' y' z' : Int) (w : World) :
    Calls Try.prog 46 #[.agg #[.int .i64 x, .int .i64 y, .int .i64 z], .agg #[.int .i64 x', .int .i64 y', .int .i64 z']] w fun e w' => e = .returned (.bool ((x == x' && y == y') && z == z')) ∧ Below w.heap.size w w' := by
  cases h : ((x == x' && y == y') && z == z')
  · have H := hid h
    clear h
    go_enter Try.func46, Try.ntmps46
    go_wp2_with (go_at_call 75; refine (eqIntA3_ok x y z x' y' z' _).mono ?_; rintro e w1 ⟨rfl, hb⟩; rw [H.out])
    go_ret
    exact ⟨rfl, below_alloc_then (below_alloc_then hb)⟩
  · have H := hid h
    clear h
    go_enter Try.func46, Try.ntmps46
    go_wp2_with (go_at_call 75; refine (eqIntA3_ok x y z x' y' z' _).mono ?_; rintro e w1 ⟨rfl, hb⟩; rw [H.out])
    go_ret
    exact ⟨rfl, below_alloc_then (below_alloc_then hb)⟩

set_option maxRecDepth 100000 in
theorem eqPointS_ok (A : Option Addr) (n c : Nat) (ps : List P3) (A' : Option Addr) (n' c' : Nat) (qs : List P3) (w : World) (hr : RP w A n ps) (hr' : RP w A' n' qs) :
    Calls Try.prog 18 #[.slice A n c, .slice A' n' c'] w fun e w' => e = .returned (.bool (ps == qs)) ∧ Below w.heap.size w w' := by
  obtain ⟨hl, hn, b, off, hA, hc⟩ := hr
  obtain ⟨hl', hn', b', off', hA', hc'⟩ := hr'
  have HC := hid hc
  have HC' := hid hc'
  clear hc hc'
  by_cases hnn : n = n'
  · subst hnn
    go_enter Try.func18, Try.ntmps18
    go_wp2
    go_loopw [5] (fun t wr => ∃ k : Nat, k ≤ n ∧ t = .int .i64 k ∧ (ps == qs) = (ps.drop k == qs.drop k) ∧ Below w.heap.size w wr) (fun t _ => n - (intOf t).toNat)
    case atStart => exact ⟨0, by omega, rfl, rfl, Below.refl _ _⟩
    case round =>
      obtain ⟨k, hk, rfl, hf, hbw⟩ := hrel
      have HF := hid hf
      have HB := hid hbw
      clear hf hbw
      by_cases hlt : k < n
      · obtain rfl : A = some ⟨b, off, none⟩ := by rcases hA with h | h; omega; exact h
        obtain rfl : A' = some ⟨b', off', none⟩ := by rcases hA' with h | h; omega; exact h
        obtain ⟨e0, e1, e2⟩ := HC.out k hlt
        obtain ⟨f0, f1, f2⟩ := HC'.out k hlt
        have c0 := cell_below HB.out e0
        have c1 := cell_below HB.out e1
        have c2 := cell_below HB.out e2
        have d0 := cell_below HB.out f0
        have d1 := cell_below HB.out f1
        have d2 := cell_below HB.out f2
        have HE := hid (drop_eq_cons3 (show k < ps.length by omega) (show k < qs.length by omega))
        clear e0 e1 e2 f0 f1 f2 hA hA'
        generalize ps.getD k default = P at *
        generalize qs.getD k default = Q at *
        obtain ⟨x, y, z⟩ := P
        obtain ⟨x', y', z'⟩ := Q
        simp only at c0 c1 c2 d0 d1 d2
        go_wp2
        go_still_tail 8, (by kernel_rfl)
        cases hq : ((x == x' && y == y') && z == z')
        · have HQ := hid hq
          clear hq
          go_wp2_with (go_at_call 46; refine (eqPoint_ok x y z x' y' z' _).mono ?_; rintro e w1 ⟨rfl, hb⟩; rw [HQ.out]; have HB1 := hid hb; clear hb)
          go_ret
          exact ⟨by rw [HF.out, HE.out, HQ.out]; rfl, below_trans (below_drewN HB.out 1) HB1.out⟩
        · have HQ := hid hq
          clear hq
          go_wp2_with (go_at_call 46; refine (eqPoint_ok x y z x' y' z' _).mono ?_; rintro e w1 ⟨rfl, hb⟩; rw [HQ.out]; have HB1 := hid hb; clear hb)
          go_roundw
          case rel => exact ⟨k + 1, by omega, by go_num, by rw [HF.out, HE.out, HQ.out]; rfl, below_trans (below_drewN HB.out 1) HB1.out⟩
          case measure => simp [intOf]; omega
      · obtain rfl : k = n := by omega
        have HE := hid (show (ps == qs) = true by rw [HF.out, List.drop_eq_nil_of_le (by omega), List.drop_eq_nil_of_le (by omega)]; rfl)
        go_wp2
        go_ret
        exact ⟨by rw [HE.out]; rfl, HB.out⟩
  · have HE := hid (show (ps == qs) = false by simp; intro h; subst h; omega)
    have hne : ((n : Int) != (n' : Int)) = true := by simp; omega
    go_enter Try.func18, Try.ntmps18
    go_wp2
    go_ret
    exact ⟨by rw [HE.out]; rfl, Below.refl _ _⟩
/-! ### Points that the call made -/
def OP (w : World) (base : Nat) (v : Value) (ps : List P3) : Prop := w.ownsRow base 35 3 v ps.length (pcells ps)
theorem OP.alloc {w : World} {base : Nat} {v : Value} {ps : List P3} (h : OP w base v ps) (o : Obj) : OP (w.alloc o) base v ps := World.ownsRow.alloc h o
theorem OP.kept {w w' : World} {base : Nat} {v : Value} {xs : List P3} {row : Option Nat} (h : OP w base v xs) (hg : w.grownBy w' row) (hne : v.ownBlock = none ∨ v.ownBlock ≠ row) : OP w' base v xs := World.ownsRow.kept h hg hne
theorem OP.below {w w' : World} {base : Nat} {v : Value} {xs : List P3} (h : OP w base v xs) (hb : Below w.heap.size w w') : OP w' base v xs :=
  h.kept (row := none) ⟨hb.os, hb.tape, hb.output, hb.size, fun k hk _ => hb.block k hk⟩ (by cases v.ownBlock <;> simp)
theorem OP.mono {w : World} {base base' : Nat} {v : Value} {xs : List P3} (h : OP w base v xs) (hb : base' ≤ base) : OP w base' v xs := by
  refine ⟨h.1, ?_⟩
  rcases h.2 with h2 | ⟨g, cap, cur, e, hg, r⟩
  · exact .inl h2
  · exact .inr ⟨g, cap, cur, e, by omega, r⟩

theorem OP.shape {w : World} {base : Nat} {v : Value} {ps : List P3} (h : OP w base v ps) (h0 : 0 < ps.length) :
    ∃ g cap, v = .slice (some ⟨g, 0, none⟩) ps.length cap ∧ base ≤ g ∧ g < w.heap.size ∧ ∀ j, j < ps.length → w.cell? ⟨g, j * 3, none⟩ = some (.int .i64 (ps.getD j default).1) ∧ w.cell? ⟨g, j * 3 + 1, none⟩ = some (.int .i64 (ps.getD j default).2.1) ∧ w.cell? ⟨g, j * 3 + 2, none⟩ = some (.int .i64 (ps.getD j default).2.2) := by
  have hlt := World.ownsRow.lt h
  rcases h.2 with ⟨_, h1⟩ | ⟨g, cap, cur, hv, hb, _⟩
  · omega
  · subst hv
    refine ⟨g, cap, rfl, hb, (hlt g rfl).2, fun j hj => ?_⟩
    obtain ⟨a, b, c⟩ := pcells_get ps j hj
    rw [World.ownsRow.cellAt h _ (by omega), World.ownsRow.cellAt h _ (by omega), World.ownsRow.cellAt h _ (by omega)]
    exact ⟨a, b, c⟩

theorem OP.rp {w : World} {base : Nat} {v : Value} {ps : List P3} (h : OP w base v ps) (hn : ps.length ≤ 4398046511104) : ∃ A c, v = .slice A ps.length c ∧ RP w A ps.length ps := by
  by_cases h0 : 0 < ps.length
  · obtain ⟨g, cap, rfl, _, _, hc⟩ := h.shape h0
    exact ⟨_, cap, rfl, rfl, hn, g, 0, .inr rfl, fun j hj => by simpa using hc j hj⟩
  · have hz : ps.length = 0 := by omega
    rcases h.2 with ⟨hv, _⟩ | ⟨g, cap, cur, hv, _⟩
    · exact ⟨none, 0, by rw [hz]; exact hv, rfl, hn, 0, 0, .inl hz, fun j hj => by omega⟩
    · exact ⟨_, cap, hv, rfl, hn, 0, 0, .inl hz, fun j hj => by omega⟩

theorem RP.below {w w1 : World} {A : Option Addr} {n : Nat} {ps : List P3} (h : RP w A n ps) (hb : Below w.heap.size w w1) : RP w1 A n ps := by
  obtain ⟨h1, h2, b, off, h3, h4⟩ := h
  exact ⟨h1, h2, b, off, h3, fun j hj => by obtain ⟨a, b, c⟩ := h4 j hj; exact ⟨cell_below hb a, cell_below hb b, cell_below hb c⟩⟩

theorem infoPoint : (Try.prog.info? 35).map (fun i => (i.zero, i.size, i.bytes)) = some (some (.agg #[.int .i64 0, .int .i64 0, .int .i64 0]), 3, 24) := by kernel_rfl

/-- 'append(out, q)', q a point that was just built. -/
theorem append_pt {ops : Array Oper} {rest : List Oper} {o : Oper} {a : Act} {Q : Exit → Act → World → Prop} {w : World} (s x : Operand) (hgd : o.guard = none)
    (ho : o.op = .call { callee := .builtin .append, args := #[s, x], argTypes := #[23, 23] }) (base : Nat) (v : Value) (ps : List P3) (y : P3) (g : Nat)
    (hs : a.eval s = v) (hx : a.eval x = .slice (some ⟨g, 0, none⟩) 1 1) (hown : OP w base v ps) (hc : ∀ j, j < 3 → w.cell? ⟨g, j, none⟩ = (pc y)[j]?) (hn : ps.length < 4398046511104) (hb : base ≤ w.heap.size)
    (h : ∀ v' w', OP w' base v' (ps ++ [y]) → w.grownBy w' v.ownBlock → wpList Try.prog ops Q rest (a.put o.dst v') w') : wpList Try.prog ops Q (o :: rest) a w := by
  obtain ⟨i0, hi, hz0, hz1, hz2⟩ := info_parts infoPoint
  refine wpList_append_own w hgd s x 23 ho base 35 i0 (.agg #[.int .i64 0, .int .i64 0, .int .i64 0]) 3 24 Try.underlying23 hi hz0 hz1 hz2 rfl (by decide) v _ _ hs hown ⟨g, 0, none⟩ 1 1 (pc y) hx rfl ?_ ?_ (by unfold maxLen; omega) (by omega) hb ?_
  · intro j u hj
    have hj3 : j < 3 := (List.getElem?_eq_some_iff.1 hj).1
    rw [Addr.add_lit, Nat.zero_add, hc j hj3, hj]
  · intro u hu
    exact pcells_one [y] u (by simpa [pcells] using hu)
  · intro v' w' h1 h2 _
    refine h v' w' ?_ h2
    unfold OP
    rw [pcells_append]
    simpa [pcells] using h1

/-! ### All points -/
def rowPts (y : Nat) (k : Nat) : List P3 := (List.range k).map fun (z : Nat) => (1, (y : Int), (z : Int))
def allHead (k : Nat) : List P3 := (0, 0, 1) :: (List.range k).map fun (z : Nat) => (0, 1, (z : Int))
def allTo (p : Nat) (k : Nat) : List P3 := allHead p ++ (List.range k).flatMap fun y => rowPts y p
def allPts (p : Nat) : List P3 := allTo p p
theorem allHead_length (k : Nat) : (allHead k).length = k + 1 := by simp [allHead]
theorem allHead_succ (k : Nat) : allHead (k + 1) = allHead k ++ [(0, 1, (k : Int))] := by simp [allHead, List.range_succ]
theorem allTo_zero (p : Nat) : allTo p 0 = allHead p := by simp [allTo]
theorem rowPts_zero (y : Nat) : rowPts y 0 = [] := rfl
theorem rowPts_succ (y k : Nat) : rowPts y (k + 1) = rowPts y k ++ [(1, (y : Int), (k : Int))] := by simp [rowPts, List.range_succ]
theorem rowPts_length (y k : Nat) : (rowPts y k).length = k := by simp [rowPts]
theorem allTo_succ (p k : Nat) : allTo p (k + 1) = allTo p k ++ rowPts k p := by simp [allTo, List.range_succ]
theorem allTo_length (p k : Nat) : (allTo p k).length = p + 1 + k * p := by
  induction k with
  | zero => rw [allTo_zero, allHead_length]; omega
  | succ k ih => rw [allTo_succ, List.length_append, ih, rowPts_length, Nat.succ_mul]; omega
theorem allTo_small (p y z : Nat) (hp : p ≤ 31) (hy : y ≤ p) (hz : z ≤ p) : (allTo p y ++ rowPts y z).length < 4398046511104 := by
  rw [List.length_append, allTo_length, rowPts_length]
  have : y * p ≤ 31 * 31 := Nat.mul_le_mul (by omega) hp
  omega
theorem OP_new (w : World) (q : P3) (cs : Array Value) (hcs : cs = (pc q).toArray) : OP (w.alloc (.cells cs 35)) w.heap.size (.slice (some ⟨w.heap.size, 0, none⟩) 1 1) [q] := by
  have := World.ownsRow_lit (e := 35) (size := 3) (base := w.heap.size) w cs 1 (Nat.le_refl _) (by decide) (by rw [hcs]; rfl)
  rw [hcs] at this ⊢
  simpa [OP, pcells] using this
theorem pc_cells (w : World) (q : P3) (cs : Array Value) (t : TypeId) (hcs : cs = (pc q).toArray) : ∀ j, j < 3 → (w.alloc (.cells cs t)).cell? ⟨w.heap.size, j, none⟩ = (pc q)[j]? := by
  intro j _
  rw [World.cell?_alloc_at _ _ _ _ rfl, hcs]
  simp


set_option maxHeartbeats 2000000 in
theorem allPoints_ok (p : Nat) (w : World) (hp : p ≤ 31) :
    Calls Try.prog 64 #[.int .i64 p] w fun e w' => ∃ v, e = .returned v ∧ OP w' w.heap.size v (allPts p) ∧ Below w.heap.size w w' := by
  go_enter Try.func64, Try.ntmps64
  go_wp2
  go_loopw [3, 11] (fun v t wr => ∃ k : Nat, k ≤ p ∧ t = .int .i64 k ∧ OP wr w.heap.size v (allHead k) ∧ Below w.heap.size w wr) (fun _ t _ => p - (intOf t).toNat)
  case atStart => exact ⟨0, by omega, rfl, OP_new w (0, 0, 1) _ rfl, below_alloc _ _⟩
  case round =>
    obtain ⟨k, hk, rfl, hown, hb⟩ := hrel
    have HO := hid hown
    have HB := hid hb
    clear hown hb
    by_cases hlt : k < p
    · have HL := hid (show (allHead k).length < 4398046511104 by rw [allHead_length]; omega)
      have HT := hid (allHead_succ k)
      go_wp2_with (at_builtin; refine append_pt _ _ rfl rfl w.heap.size _ (allHead k) (0, 1, (k : Int)) wr.heap.size rfl rfl (HO.out.alloc _) (pc_cells wr (0, 1, (k : Int)) _ _ rfl) HL.out (size_alloc HB.out.size _) ?_; intro v' w1 hown hgrow; have HO1 := hid hown; have HG := hid hgrow; clear hown hgrow)
      go_roundw
      case rel => exact ⟨k + 1, by omega, by go_num, by rw [HT.out]; exact HO1.out, below_append HB.out HB.out.size HO.out HG.out⟩
      case measure => simp [intOf]; omega
    · obtain rfl : k = p := by omega
      go_wp2
      go_loopw [3, 22] (fun v t wr => ∃ y : Nat, y ≤ k ∧ t = .int .i64 y ∧ OP wr w.heap.size v (allTo k y) ∧ Below w.heap.size w wr) (fun _ t _ => k - (intOf t).toNat)
      case atStart => exact ⟨0, by omega, rfl, by rw [allTo_zero]; exact HO.out, HB.out⟩
      case round =>
        obtain ⟨y, hy, rfl, hown2, hb2⟩ := hrel
        have HO2 := hid hown2
        have HB2 := hid hb2
        clear hown2 hb2
        by_cases hlt2 : y < k
        · go_wp2
          go_loopw [3, 26] (fun v t wr => ∃ z : Nat, z ≤ k ∧ t = .int .i64 z ∧ OP wr w.heap.size v (allTo k y ++ rowPts y z) ∧ Below w.heap.size w wr) (fun _ t _ => k - (intOf t).toNat)
          case atStart => exact ⟨0, by omega, rfl, by rw [rowPts_zero, List.append_nil]; exact HO2.out, HB2.out⟩
          case round =>
            obtain ⟨z, hz, rfl, hown3, hb3⟩ := hrel
            have HO3 := hid hown3
            have HB3 := hid hb3
            clear hown3 hb3
            by_cases hlt3 : z < k
            · have HL3 := hid (show (allTo k y ++ rowPts y z).length < 4398046511104 from allTo_small k y z hp hy hz)
              have HT3 := hid (rowPts_succ y z)
              go_wp2_with (at_builtin; refine append_pt _ _ rfl rfl w.heap.size _ (allTo k y ++ rowPts y z) (1, (y : Int), (z : Int)) wr.heap.size rfl rfl (HO3.out.alloc _) (pc_cells wr (1, (y : Int), (z : Int)) _ _ rfl) HL3.out (size_alloc HB3.out.size _) ?_; intro v' w1 hown hgrow; have HO4 := hid hown; have HG4 := hid hgrow; clear hown hgrow)
              go_roundw
              case rel => exact ⟨z + 1, by omega, by go_num, by rw [HT3.out, ← List.append_assoc]; exact HO4.out, below_append HB3.out HB3.out.size HO3.out HG4.out⟩
              case measure => simp [intOf]; omega
            · obtain rfl : z = k := by omega
              go_wp2
              go_roundw
              case rel => exact ⟨y + 1, by omega, by go_num, by rw [allTo_succ]; exact HO3.out, HB3.out⟩
              case measure => simp [intOf]; omega
        · obtain rfl : y = k := by omega
          go_wp2
          go_ret
          exact ⟨_, rfl, HO2.out, HB2.out⟩

end Go.Proofs.Ytkhkcgoblibnpaa
