/-
  The law FnWordLines.
-/
import Derived.Test.YtcffaeepanhpfaaXl
import Derived.Test.YtcffaeepanhpfaaSm
import Derived.Test.YtcffaeepanhpfaaExt
namespace Go.Proofs.Ytcffaeepanhpfaa
open Go.RowKit
set_option linter.unusedVariables false
set_option linter.unusedSimpArgs false

/-- Which lines are among those to which a word moves the first i. -/
def seenB (ws : List Int) (i q : Nat) : Bool := (List.range i).any (fun j => wL ws j == q)
def seenL (ws : List Int) (i : Nat) : List Value := (List.range 27).map (fun q => Value.bool (seenB ws i q))
theorem seenL_len (ws : List Int) (i : Nat) : (seenL ws i).length = 27 := by simp [seenL]
theorem seenL_zero (ws : List Int) : seenL ws 0 = List.replicate 27 (Value.bool false) := by
  simp [seenL, seenB, List.map_const']
theorem seenL_get (ws : List Int) (i : Nat) {q : Nat} (h : q < 27) : (seenL ws i)[q]? = some (Value.bool (seenB ws i q)) := by
  simp [seenL, List.getElem?_map, List.getElem?_range h]
theorem seenB_new {ws : List Int} (hw : Wd ws) {i : Nat} (h : i < 27) : seenB ws i (wL ws i) = false := by
  rw [seenB, List.any_eq_false]
  intro j hj
  rw [List.mem_range] at hj
  intro e
  have := wL_inj hw (show j < 27 by omega) h (by simpa using e)
  omega
theorem seenL_set (ws : List Int) (i : Nat) : (seenL ws i).set (wL ws i) (Value.bool true) = seenL ws (i + 1) := by
  apply List.ext_getElem?
  intro q
  rw [List.getElem?_set]
  by_cases hq : q < 27
  · rw [seenL_get ws i hq, seenL_get ws (i + 1) hq, seenL_len]
    have e : seenB ws (i + 1) q = (seenB ws i q || (wL ws i == q)) := by
      rw [seenB, List.range_succ, List.any_append]
      simp [seenB]
    by_cases h : wL ws i = q
    · rw [if_pos h, if_pos (by omega), e, h]; simp
    · rw [if_neg h, e]
      have : (wL ws i == q) = false := by simpa using h
      rw [this, Bool.or_false]
  · rw [List.getElem?_eq_none (show (seenL ws (i + 1)).length ≤ q by rw [seenL_len]; omega)]
    by_cases h : wL ws i = q
    · rw [if_pos h, if_neg (by rw [seenL_len]; omega)]
    · rw [if_neg h, List.getElem?_eq_none (by rw [seenL_len]; omega)]

theorem infoBool : (Try.prog.info? 4).map (fun i => (i.zero, i.size, i.bytes)) = some (some (.bool false), 1, 1) := by kernel_rfl
theorem owns_below {w w' : World} {base : Nat} {e : TypeId} {sz n : Nat} {v : Value} {xs : List Value} (h : w.ownsRow base e sz v n xs) (hb : Below w.heap.size w w') : w'.ownsRow base e sz v n xs :=
  World.ownsRow.kept h (row := none) ⟨hb.os, hb.tape, hb.output, hb.size, fun k hk _ => hb.block k hk⟩ (by cases v.ownBlock <;> simp)

/-- 'make([]bool, n)'. -/
theorem make_bool {ops : Array Oper} {rest : List Oper} {o : Oper} {a : Act} {Q : Exit → Act → World → Prop} {w : World} (l c : Operand) (hg : o.guard = none)
    (hop : o.op = Op.makeSlice 34 l c) (base n : Nat) (hl : a.eval l = .int .i64 n) (hc : a.eval c = .int .i64 n) (hn : n ≤ 1000000) (hb : base ≤ w.heap.size)
    (h : ∀ w', w'.ownsRow base 4 1 (.slice (some ⟨w.heap.size, 0, none⟩) n n) n (List.replicate n (.bool false)) → w.grownBy w' none → wpList Try.prog ops Q rest (a.put o.dst (.slice (some ⟨w.heap.size, 0, none⟩) n n)) w') : wpList Try.prog ops Q (o :: rest) a w := by
  obtain ⟨i0, hi, hz0, hz1, hz2⟩ := info_parts infoBool
  refine wpList_make_full w hg l c 34 hop base 4 i0 (.bool false) 1 Try.underlying34 hi hz0 hz1 .i64 .i64 n n n hl hc rfl rfl (by rw [hz2]; omega) (by unfold maxLen; omega) hb ?_
  intro w' h1 h2
  refine h w' ?_ h2
  simpa [Value.cells, toList_madeCells_one] using h1

set_option maxRecDepth 100000 in
set_option maxHeartbeats 8000000 in
theorem FnWordLines_ok (A : Option Addr) (n c : Nat) (xs : List Int) (w : World) (hr : n ≤ 1048576 → RB w A n c xs) :
    Calls Try.prog 5 #[.slice A n c] w fun e w' => e = .returned (.bool true) ∧ Below w.heap.size w w' := by
  by_cases hb : n ≤ 1048576
  · have HR := hid (hr hb)
    clear hr
    go_enter Try.func5, Try.ntmps5
    go_wp2_with fail
    refine (DrawWordLines_ok A n c xs w HR.out).mono ?_
    rintro e w1 ⟨v0, ws, rfl, o1, hl, b1⟩
    obtain ⟨A0, c0, rfl, _, _⟩ := o1.ri2 (by omega)
    have O1 := hid o1
    have B1 := hid b1
    have HLw := hid hl
    have HI := hid (fun W h => implWordLines_ok A0 ws.length c0 ws W h)
    have HS := hid (fun W h => specWordLines_ok A0 ws.length c0 ws W h)
    have HLR := hid (show wlR ws = if wordB ws then wlV ws else [] from rfl)
    have HWd := hid (fun (h : wordB ws = true) => wordB_wd h)
    have HLy := hid (wlR_len ws)
    clear o1 b1 hl
    generalize wordB ws = D at *
    generalize hY : wlR ws = ys at *
    have HY := hid hY
    clear hY
    have hne : (D != D) = false := by simp
    go_wp2_with fail
    refine (HI.out _ (O1.out.get (by have := HLw.out; omega))).mono ?_
    rintro e w2 ⟨v1, rfl, o2, b2⟩
    obtain ⟨A1, c1, rfl, _, _⟩ := o2.ri2 (by have := HLy.out; omega)
    have O2 := hid (O1.out.below b2)
    have P2 := hid o2
    have B2 := hid (below_trans B1.out b2)
    clear o2 b2
    go_wp2_with fail
    refine (HS.out _ (O2.out.get (by have := HLw.out; omega))).mono ?_
    rintro e w3 ⟨v2, rfl, o3, b3⟩
    obtain ⟨A2, c2, rfl, _, _⟩ := o3.ri2 (by have := HLy.out; omega)
    have P3 := hid (P2.out.below b3)
    have Q3 := hid o3
    have B3 := hid (below_trans B2.out b3)
    clear o3 b3
    go_wp2_with fail
    refine (sameInts_ok A1 _ c1 ys A2 _ c2 ys _ (P3.out.get (by have := HLy.out; omega)) (Q3.out.get (by have := HLy.out; omega))).mono ?_
    rintro e w4 ⟨rfl, b4⟩
    rw [beq_self_eq_true]
    have P4 := hid (P3.out.below b4)
    have Q4 := hid (Q3.out.below b4)
    have B4 := hid (below_trans B3.out b4)
    clear b4
    cases D
    · go_wp2_with fail
      refine (sameInts_ok A1 _ c1 ys A2 _ c2 ys _ (P4.out.get (by have := HLy.out; omega)) (Q4.out.get (by have := HLy.out; omega))).mono ?_
      rintro e w5 ⟨rfl, b5⟩
      rw [beq_self_eq_true]
      have B5 := hid (below_trans B4.out b5)
      clear b5
      go_wp2
      go_ret
      exact ⟨rfl, B5.out⟩
    · have hys : ys = wlV ws := HLR.out
      have Wds := hid (HWd.out rfl)
      subst hys
      have P5 := P4.out
      obtain ⟨g1, cc, hsl, _, hg1, _⟩ := P5.shape (by rw [wlV, wlTo_len]; omega)
      rw [show (wlV ws).length = 27 from wlTo_len ws 27] at P5 hsl ⊢
      injection hsl with e1 e2 e3
      subst e1
      have P6 := hid P5
      clear P5 e2 e3 HI HS HLR HWd HLy HY P2 P3 P4 Q3 Q4
      go_wp2_with (at_make; refine make_bool _ _ rfl rfl w4.heap.size 27 rfl rfl (by omega) (Nat.le_refl _) ?_; intro w5 hown hgrow; have HO := hid hown; have HG := hid hgrow; clear hown hgrow)
      have B5 := hid (B4.out.grown HG.out B4.out.size (fun k hk => by cases hk))
      have P7 := hid (P6.out.kept HG.out (by simp [Value.ownBlock]))
      have hwb : w.heap.size ≤ w4.heap.size := B4.out.size
      have hgne : ¬ g1 = w4.heap.size := by omega
      rw [← seenL_zero ws] at HO
      clear HG B4 P6
      go_loopg [9] 27 (fun gk t wr => ∃ i : Nat, i ≤ 27 ∧ gk = 27 - i ∧ t = .int .i64 i ∧ wr.ownsRow w4.heap.size 4 1 (.slice (some ⟨w4.heap.size, 0, none⟩) 27 27) 27 (seenL ws i) ∧ OI wr w1.heap.size (.slice (some ⟨g1, 0, none⟩) 27 c1) (wlV ws) ∧ Below w.heap.size w wr)
      case atStart => exact ⟨0, by omega, rfl, rfl, HO.out, P7.out, B5.out⟩
      case round =>
        obtain ⟨i, hi, hgk, rfl, ho, hp, hb⟩ := hrel
        have HGk := hid hgk
        have HO1 := hid ho
        have HP1 := hid hp
        have HB1 := hid hb
        clear hgk ho hp hb
        by_cases hlt : i < 27
        · obtain ⟨_, _, hsl, _, _, hcell⟩ := HP1.out.shape (by rw [wlV, wlTo_len]; omega)
          injection hsl with a1 a2 a3
          injection a1 with a1
          injection a1 with a1
          subst a1
          have hx := hcell i (by rw [wlV, wlTo_len]; omega)
          rw [wlV, wlTo_get ws hlt] at hx
          have h27 := wL_lt Wds.out hlt
          have hsn := World.ownsRow.cellAt HO1.out (wL ws i) h27
          rw [seenL_get ws i h27, seenB_new Wds.out hlt] at hsn
          have hfr := World.ownsRow.frozenAt HO1.out (wL ws i)
          have st := World.ownsRow.stored HO1.out (wL ws i) (Value.bool true)
          rw [seenL_set ws i] at st
          have HO2 := hid st.1
          have HP2 := hid (HP1.out.kept st.2 (by simp [Value.ownBlock]; exact hgne))
          have HB2 := hid (HB1.out.grown st.2 HB1.out.size (fun k hk => by cases hk; exact hwb))
          have HQ := hid (fun k (hk : k < 27) => wL_prd Wds.out hlt hk)
          have HL1 := hid (fun k (hk : k < 27) W => LineMeets_ok i k hlt hk W)
          have HL2 := hid (fun q (hq : q < 27) W => LineMeets_ok (wL ws i) q h27 hq W)
          have hu0 : ¬ ((wL ws i : Nat) : Int) < 0 := by omega
          have hu1 : ¬ (26 : Int) < ((wL ws i : Nat) : Int) := by omega
          clear st a2 a3 hcell
          generalize hu : wL ws i = u at *
          have HU := hid hu
          clear hu
          go_wp2
          go_loopg [10] i (fun gk2 t wq => ∃ k : Nat, k ≤ i ∧ gk2 = i - k ∧ t = .int .i64 k ∧ wq.ownsRow w4.heap.size 4 1 (.slice (some ⟨w4.heap.size, 0, none⟩) 27 27) 27 (seenL ws (i + 1)) ∧ OI wq w1.heap.size (.slice (some ⟨g1, 0, none⟩) 27 c1) (wlV ws) ∧ Below w.heap.size w wq)
          case atStart => exact ⟨0, by omega, rfl, rfl, HO2.out, HP2.out, HB2.out⟩
          case round =>
            obtain ⟨k, hk, hgk2, rfl, ho, hp, hb⟩ := hrel
            have HGk2 := hid hgk2
            have HO3 := hid ho
            have HP3 := hid hp
            have HB3 := hid hb
            clear hgk2 ho hp hb hx hsn hfr
            by_cases hlk : k < i
            · have hk27 : k < 27 := by omega
              obtain ⟨_, _, hsl, _, _, hcell⟩ := HP3.out.shape (by rw [wlV, wlTo_len]; omega)
              injection hsl with a1 a2 a3
              injection a1 with a1
              injection a1 with a1
              subst a1
              have hxi := ext_cell (hcell i (by rw [wlV, wlTo_len]; omega))
              rw [wlV, wlTo_get ws hlt, HU.out] at hxi
              have hxk := ext_cell (hcell k (by rw [wlV, wlTo_len]; omega))
              rw [wlV, wlTo_get ws hk27] at hxk
              have hv27 := wL_lt Wds.out hk27
              have HM1 := hid (HL1.out k hk27)
              have HM2 := hid (HL2.out _ hv27)
              have hpq := HQ.out k hk27
              rw [hpq] at HM2
              clear hpq a2 a3 hcell
              generalize (prd (lineC i) (lineC k) == 1) = q at *
              generalize wL ws k = v at *
              have hqq : (q != q) = false := by simp
              go_wp2
              refine wp_region_ext (by kernel_rfl) (by kernel_rfl) ?_
              repeat (go_big_quiet_step ((go_at_call 23; first | with_reducible exact ext_call (HM1.out _) | with_reducible exact ext_call (HM2.out _))))
              refine wpQuiet_nil ?_
              rintro w6 ⟨⟨w7, b7⟩, hw⟩
              have hw' : w6 = w7 := hw
              clear hw
              subst hw'
              have HO4 := hid (owns_below HO3.out b7)
              have HP4 := hid (HP3.out.below b7)
              have HB4 := hid (below_trans HB3.out b7)
              clear b7 hxi hxk
              go_wp2
              go_roundg (i - (k + 1))
              case measure => have := HGk2.out; omega
              case rel => exact ⟨k + 1, by omega, rfl, by go_num, HO4.out, HP4.out, HB4.out⟩
            · go_wp2
              go_roundg (27 - (i + 1))
              case measure => have := HGk.out; omega
              case rel => exact ⟨i + 1, by omega, rfl, by go_num, HO3.out, HP3.out, HB3.out⟩
        · go_wp2
          go_ret
          exact ⟨rfl, HB1.out⟩
  · clear hr
    go_enter Try.func5, Try.ntmps5
    go_wp2
    go_ret
    exact ⟨rfl, Below.refl _ _⟩

end Go.Proofs.Ytcffaeepanhpfaa
