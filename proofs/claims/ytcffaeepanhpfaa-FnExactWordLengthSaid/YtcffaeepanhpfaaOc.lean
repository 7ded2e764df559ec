/-
  Lists of classes of the call's own; the program's list of roots.
-/
import Derived.Test.YtcffaeepanhpfaaK4
import Derived.Test.YtcffaeepanhpfaaRt
import Derived.Deep.LoopGhost
namespace Go.Proofs.Ytcffaeepanhpfaa
open Go.RowKit
set_option linter.unusedVariables false
set_option linter.unusedSimpArgs false

def ccell (c : List Int) : List Value := c.map (Value.int .i64)
def ccells (cs : List (List Int)) : List Value := cs.flatMap ccell
theorem ccells_length (cs : List (List Int)) (h : ∀ c ∈ cs, c.length = 7) : (ccells cs).length = cs.length * 7 := by
  induction cs with
  | nil => rfl
  | cons c cs ih =>
    rw [ccells, List.flatMap_cons, List.length_append, ← ccells, ih (fun d hd => h d (by simp [hd])), ccell, List.length_map, h c (by simp), List.length_cons]
    omega
theorem ccells_append (ps qs : List (List Int)) : ccells (ps ++ qs) = ccells ps ++ ccells qs := by simp [ccells]
theorem ccells_one (ps : List (List Int)) : ∀ u ∈ ccells ps, u.oneCell' = true := by
  intro u hu
  simp only [ccells, List.mem_flatMap, ccell, List.mem_map] at hu
  obtain ⟨q, _, x, _, rfl⟩ := hu
  rfl
theorem ccells_get (cs : List (List Int)) (h : ∀ c ∈ cs, c.length = 7) (j i : Nat) (hj : j < cs.length) (hi : i < 7) : (ccells cs)[j * 7 + i]? = some (.int .i64 ((cs.getD j []).getD i 0)) := by
  induction cs generalizing j with
  | nil => simp at hj
  | cons c cs ih =>
    have hc := h c (by simp)
    rw [ccells, List.flatMap_cons, ← ccells]
    have hl : (ccell c).length = 7 := by rw [ccell, List.length_map, hc]
    cases j with
    | zero =>
      rw [List.getElem?_append_left (by omega), ccell, List.getElem?_map, Nat.zero_mul, Nat.zero_add, List.getElem?_eq_getElem (by omega)]
      simp [List.getD_eq_getElem?_getD, List.getElem?_eq_getElem (show i < c.length by omega)]
    | succ j =>
      rw [List.getElem?_append_right (by omega), hl, show (j + 1) * 7 + i - 7 = j * 7 + i by omega, ih (fun d hd => h d (by simp [hd])) j (by simpa using hj)]
      simp
/-- A list of classes that the call made. -/
def OC (w : World) (base : Nat) (v : Value) (cs : List (List Int)) : Prop := (∀ c ∈ cs, c.length = 7) ∧ w.ownsRow base 38 7 v cs.length (ccells cs)
theorem OC.alloc {w : World} {base : Nat} {v : Value} {cs : List (List Int)} (h : OC w base v cs) (o : Obj) : OC (w.alloc o) base v cs := ⟨h.1, World.ownsRow.alloc h.2 o⟩
theorem OC.kept {w w' : World} {base : Nat} {v : Value} {cs : List (List Int)} {row : Option Nat} (h : OC w base v cs) (hg : w.grownBy w' row) (hne : v.ownBlock = none ∨ v.ownBlock ≠ row) : OC w' base v cs := ⟨h.1, World.ownsRow.kept h.2 hg hne⟩
theorem OC.below {w w' : World} {base : Nat} {v : Value} {cs : List (List Int)} (h : OC w base v cs) (hb : Below w.heap.size w w') : OC w' base v cs :=
  h.kept (row := none) ⟨hb.os, hb.tape, hb.output, hb.size, fun k hk _ => hb.block k hk⟩ (by cases v.ownBlock <;> simp)
theorem OC.drewN {w : World} {base : Nat} {v : Value} {cs : List (List Int)} (h : OC w base v cs) (n : Nat) : OC (w.drewN n) base v cs := h
theorem OC.drew {w : World} {base : Nat} {v : Value} {cs : List (List Int)} (h : OC w base v cs) : OC w.drew base v cs := h
theorem OC.mono {w : World} {base base' : Nat} {v : Value} {cs : List (List Int)} (h : OC w base v cs) (hb : base' ≤ base) : OC w base' v cs :=
  ⟨h.1, h.2.1, h.2.2.imp id fun ⟨g, cap, cur, h1, h2, h3⟩ => ⟨g, cap, cur, h1, Nat.le_trans hb h2, h3⟩⟩
theorem OC.lit (w : World) : OC (w.alloc (.cells #[] 38)) w.heap.size (.slice (some ⟨w.heap.size, 0, none⟩) 0 0) [] := ⟨fun _ h => (by cases h), World.ownsRow_lit w #[] 0 (Nat.le_refl _) (by decide) rfl⟩
/-- How it reads. -/
def RC (w : World) (A : Option Addr) (n : Nat) (cs : List (List Int)) : Prop :=
  cs.length = n ∧ n ≤ 100000 ∧ (∀ c ∈ cs, c.length = 7) ∧ ∃ b, (n = 0 ∨ A = some ⟨b, 0, none⟩) ∧ ∀ j i, j < n → i < 7 → w.cell? ⟨b, j * 7 + i, none⟩ = some (.int .i64 ((cs.getD j []).getD i 0))
theorem RC.below {w w' : World} {A : Option Addr} {n : Nat} {cs : List (List Int)} (h : RC w A n cs) (hb : Below w.heap.size w w') : RC w' A n cs := by
  obtain ⟨h1, h2, h3, b, h4, h5⟩ := h
  exact ⟨h1, h2, h3, b, h4, fun j i hj hi => cell_below hb (h5 j i hj hi)⟩
theorem RC.drewN {w : World} {A : Option Addr} {n : Nat} {cs : List (List Int)} (h : RC w A n cs) (m : Nat) : RC (w.drewN m) A n cs := h
theorem OC.rc {w : World} {base : Nat} {v : Value} {cs : List (List Int)} (h : OC w base v cs) (hn : cs.length ≤ 100000) : ∃ A c, v = .slice A cs.length c ∧ RC w A cs.length cs := by
  rcases h.2.2 with ⟨hv, h0⟩ | ⟨g, cap, cur, hv, _⟩
  · exact ⟨none, 0, by rw [h0]; exact hv, rfl, hn, h.1, 0, .inl h0, fun j i hj hi => by omega⟩
  · subst hv
    refine ⟨_, cap, rfl, rfl, hn, h.1, g, .inr rfl, fun j i hj hi => ?_⟩
    rw [World.ownsRow.cellAt h.2 _ (by omega)]
    exact ccells_get cs h.1 j i hj hi

theorem infoCls : (Try.prog.info? 38).map (fun i => (i.zero, i.size, i.bytes)) = some (some (.agg #[.int .i64 0, .int .i64 0, .int .i64 0, .int .i64 0, .int .i64 0, .int .i64 0, .int .i64 0]), 7, 56) := by kernel_rfl

/-- 'append(out, c)'. -/
theorem append_c7 {ops : Array Oper} {rest : List Oper} {o : Oper} {a : Act} {Q : Exit → Act → World → Prop} {w : World} (s x : Operand) (hgd : o.guard = none)
    (ho : o.op = .call { callee := .builtin .append, args := #[s, x], argTypes := #[47, 47] }) (base : Nat) (v : Value) (cs : List (List Int)) (y0 y1 y2 y3 y4 y5 y6 : Int) (g : Nat)
    (hs : a.eval s = v) (hx : a.eval x = .slice (some ⟨g, 0, none⟩) 1 1) (hown : OC w base v cs) (hc : CB w 38 g y0 y1 y2 y3 y4 y5 y6) (hn : cs.length < 100000) (hb : base ≤ w.heap.size)
    (h : ∀ v' w', OC w' base v' (cs ++ [[y0, y1, y2, y3, y4, y5, y6]]) → w.grownBy w' v.ownBlock → wpList Try.prog ops Q rest (a.put o.dst v') w') : wpList Try.prog ops Q (o :: rest) a w := by
  obtain ⟨i0, hi, hz0, hz1, hz2⟩ := info_parts infoCls
  obtain ⟨x0, x1, x2, x3, x4, x5, x6⟩ := hc.seven
  refine wpList_append_own w hgd s x 47 ho base 38 i0 (.agg #[.int .i64 0, .int .i64 0, .int .i64 0, .int .i64 0, .int .i64 0, .int .i64 0, .int .i64 0]) 7 56 Try.underlying47 hi hz0 hz1 hz2 rfl (by decide) v _ _ hs hown.2 ⟨g, 0, none⟩ 1 1 (ccell [y0, y1, y2, y3, y4, y5, y6]) hx rfl ?_ ?_ (by unfold maxLen; omega) (by omega) hb ?_
  · intro j u hj
    rw [Addr.add_lit, Nat.zero_add]
    match j, hj with
    | 0, hj => cases hj; exact x0
    | 1, hj => cases hj; exact x1
    | 2, hj => cases hj; exact x2
    | 3, hj => cases hj; exact x3
    | 4, hj => cases hj; exact x4
    | 5, hj => cases hj; exact x5
    | 6, hj => cases hj; exact x6
    | j + 7, hj => simp [ccell] at hj
  · intro u hu
    exact ccells_one [[y0, y1, y2, y3, y4, y5, y6]] u (by simpa [ccells] using hu)
  · intro v' w' h1 h2 _
    refine h v' w' ⟨fun c hc => ?_, ?_⟩ h2
    · rcases List.mem_append.1 hc with hc | hc
      · exact hown.1 c hc
      · simp at hc; subst hc; rfl
    · rw [ccells_append]
      simpa [ccells] using h1
theorem below_append7 {B : Nat} {w wr w1 : World} {o : Obj} {v : Value} {cs : List (List Int)} (hb : Below B w wr) (hB : B ≤ wr.heap.size) (hown : OC wr B v cs) (hg : (wr.alloc o).grownBy w1 v.ownBlock) : Below B w w1 := below_append hb hB hown.2 hg

/-- A list of classes and a block of seven numbers of another kind of cells are two blocks: here by their place. -/
theorem rootsC_len (d : Int) (c : Nat) : (rootsC d c).length ≤ c := by
  induction c with
  | zero => simp [rootsC]
  | succ c ih =>
    rw [rootsC]
    split
    · simp; omega
    · omega
theorem codeC_len (d : Int) (c : Nat) : (codeC d c).length = 7 := rfl
theorem rootsD_len (e : Nat) (h : e ≤ 5) : (rootsD e).length ≤ 3645 := by
  have : ∀ e, (rootsD e).length ≤ e * 729 := by
    intro e
    induction e with
    | zero => simp [rootsD]
    | succ e ih => rw [rootsD, List.length_append]; have := rootsC_len ((e : Int) - 2) 729; omega
  have := this e
  omega

set_option maxRecDepth 100000 in
set_option maxHeartbeats 8000000 in
theorem rootList_ok (w : World) :
    Calls Try.prog 38 #[] w fun e w' => ∃ v, e = .returned v ∧ OC w' w.heap.size v roots ∧ Below w.heap.size w w' := by
  go_enter Try.func38, Try.ntmps38
  go_wp2
  go_loopg [1, 2] 5 (fun gk v t wr => ∃ e : Nat, e ≤ 5 ∧ gk = 5 - e ∧ t = .int .i64 ((e : Int) - 2) ∧ OC wr w.heap.size v (rootsD e) ∧ Below w.heap.size w wr)
  case atStart => exact ⟨0, by omega, rfl, rfl, OC.lit w, below_alloc _ _⟩
  case round =>
    obtain ⟨e, he, hgk, rfl, ho, hb⟩ := hrel
    obtain ⟨wo, rfl⟩ : ∃ wo : World, wo = wr := ⟨_, rfl⟩
    have HO := hid ho
    have HB := hid hb
    have HGk := hid hgk
    clear ho hb hgk
    by_cases het : e < 5
    · obtain ⟨D, hD⟩ : ∃ D : Int, D = (e : Int) - 2 := ⟨_, rfl⟩
      rw [← hD]
      have hd0 : -2 ≤ D := by omega
      have hd1 : D ≤ 2 := by omega
      have HDd := hid hD
      clear hD
      go_wp2
      go_loopg [1, 11] 729 (fun gk v t wr => ∃ c : Nat, c ≤ 729 ∧ gk = 729 - c ∧ t = .int .i64 c ∧ OC wr w.heap.size v (rootsD e ++ rootsC D c) ∧ Below w.heap.size w wr)
      case atStart => exact ⟨0, by omega, rfl, rfl, by rw [rootsC, List.append_nil]; exact HO.out, HB.out⟩
      case round =>
        obtain ⟨c, hc, hgc, rfl, ho2, hb2⟩ := hrel
        have HO2 := hid ho2
        have HB2 := hid hb2
        have HGc := hid hgc
        clear ho2 hb2 hgc
        by_cases hct : c < 729
        · have HL := hid (show (rootsD e ++ rootsC D c).length < 100000 by rw [List.length_append]; have := rootsD_len e he; have := rootsC_len D c; omega)
          have HCd := hid (show codeC D c = [D, (c : Int) / 3 / 3 / 3 / 3 / 3 % 3 - 1, (c : Int) / 3 / 3 / 3 / 3 % 3 - 1, (c : Int) / 3 / 3 / 3 % 3 - 1, (c : Int) / 3 / 3 % 3 - 1, (c : Int) / 3 % 3 - 1, (c : Int) % 3 - 1] from by
            simp only [codeC, List.cons.injEq, true_and, and_true]
            omega)
          have HRc := hid (show rootsC D (c + 1) = if rootB (codeC D c) then rootsC D c ++ [codeC D c] else rootsC D c from rfl)
          go_wp2
          refine wp_loop_rounds 7 ?_
          rw [rounds_succ]
          go_wp2
          rw [rounds_succ]
          go_wp2
          rw [rounds_succ]
          go_wp2
          rw [rounds_succ]
          go_wp2
          rw [rounds_succ]
          go_wp2
          rw [rounds_succ]
          go_wp2
          rw [HCd.out] at HRc
          generalize (c : Int) / 3 / 3 / 3 / 3 / 3 % 3 - 1 = y1 at *
          generalize (c : Int) / 3 / 3 / 3 / 3 % 3 - 1 = y2 at *
          generalize (c : Int) / 3 / 3 / 3 % 3 - 1 = y3 at *
          generalize (c : Int) / 3 / 3 % 3 - 1 = y4 at *
          generalize (c : Int) / 3 % 3 - 1 = y5 at *
          generalize (c : Int) % 3 - 1 = y6 at *
          have X0 := hid (CB.new wr 38 D y1 y2 y3 y4 y5 y6)
          have B0 := hid (below_alloc wr (.cells #[.int .i64 D, .int .i64 y1, .int .i64 y2, .int .i64 y3, .int .i64 y4, .int .i64 y5, .int .i64 y6] 38))
          rw [rounds_succ]
          go_wp2_with fail
          refine (isRoot_ok D y1 y2 y3 y4 y5 y6 _).mono ?_
          rintro k w1 ⟨rfl, b1⟩
          have X1 := hid (X0.out.below b1)
          have HO3 := hid (HO2.out.below (below_trans B0.out b1))
          have HB3 := hid (below_trans HB2.out (below_trans B0.out b1))
          clear b1
          cases hrt : rootB [D, y1, y2, y3, y4, y5, y6]
          · have HF := hid (show rootsC D (c + 1) = rootsC D c by rw [HRc.out, hrt]; rfl)
            clear hrt
            go_wp2
            go_roundg (729 - (c + 1))
            case measure => have := HGc.out; omega
            case rel => exact ⟨c + 1, by omega, rfl, by go_num, by rw [HF.out]; exact HO3.out, HB3.out⟩
          · have HF := hid (show rootsC D (c + 1) = rootsC D c ++ [[D, y1, y2, y3, y4, y5, y6]] by rw [HRc.out, hrt]; rfl)
            obtain ⟨x0, x1, x2, x3, x4, x5, x6⟩ := X1.out.seven
            have N1 := hid (CB.new w1 38 D y1 y2 y3 y4 y5 y6)
            clear hrt
            go_wp2_with (at_builtin; refine append_c7 _ _ rfl rfl w.heap.size _ _ D y1 y2 y3 y4 y5 y6 w1.heap.size rfl rfl (HO3.out.alloc _) N1.out HL.out (size_alloc HB3.out.size _) ?_; intro v' w2 hown hgrow; have HO4 := hid hown; have HG4 := hid hgrow; clear hown hgrow)
            go_roundg (729 - (c + 1))
            case measure => have := HGc.out; omega
            case rel => exact ⟨c + 1, by omega, rfl, by go_num, by rw [HF.out, ← List.append_assoc]; exact HO4.out, below_append7 HB3.out HB3.out.size HO3.out HG4.out⟩
        · obtain rfl : c = 729 := by omega
          have HF := hid (show rootsD (e + 1) = rootsD e ++ rootsC D 729 by rw [HDd.out]; rfl)
          have HD1 := hid (show D + 1 = ((e + 1 : Nat) : Int) - 2 by have := HDd.out; omega)
          go_wp2
          go_roundg (5 - (e + 1))
          case measure => have := HGk.out; omega
          case rel => exact ⟨e + 1, by omega, rfl, by rw [← HD1.out], by rw [HF.out]; exact HO2.out, HB2.out⟩
    · obtain rfl : e = 5 := by omega
      rw [rootsD_eq] at HO
      go_wp2
      go_ret
      exact ⟨_, rfl, HO.out, HB.out⟩

def rl72 (n : Int) : List (List Int) := if n == 72 then roots else []

end Go.Proofs.Ytcffaeepanhpfaa
