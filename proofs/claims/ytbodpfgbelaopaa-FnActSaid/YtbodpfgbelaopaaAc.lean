/-
  The law FnAct.
-/
import Derived.Test.YtbodpfgbelaopaaPx
import Derived.Test.YtbodpfgbelaopaaDw
import Derived.Test.YtbodpfgbelaopaaWb
namespace Go.Proofs.Ytbodpfgbelaopaa
open Go.RowKit
set_option linter.unusedVariables false
set_option linter.unusedSimpArgs false

theorem runW_append (xs ys : List Int) : ∀ a, runW a (xs ++ ys) = (runW a xs).bind (fun b => runW b ys) := by
  induction xs with
  | nil => intro a; rfl
  | cons x xs ih =>
    intro a
    rw [List.cons_append, runW, runW]
    split
    · exact ih _
    · rfl
theorem simple_prd (i : Nat) : prd (simple i) (simple i) = -2 ∧ deg (simple i) = 0 := by
  unfold simple
  split <;> exact ⟨rfl, rfl⟩
theorem refl_twice {a : List Int} (ha : a.length = 7) (i : Nat) : refl (refl a (simple i)) (simple i) = a := by
  have h := simple_prd i
  obtain ⟨a0, a1, a2, a3, a4, a5, a6, rfl⟩ := seven ha
  obtain ⟨r0, r1, r2, r3, r4, r5, r6, hr⟩ := seven (simple_len i)
  rw [hr] at h ⊢
  exact refl_back h.1
theorem refl_keeps {a : List Int} (ha : a.length = 7) (i : Nat) : deg (refl a (simple i)) = deg a ∧ prd (refl a (simple i)) (refl a (simple i)) = prd a a := by
  have h := simple_prd i
  obtain ⟨a0, a1, a2, a3, a4, a5, a6, rfl⟩ := seven ha
  obtain ⟨r0, r1, r2, r3, r4, r5, r6, hr⟩ := seven (simple_len i)
  rw [hr] at h ⊢
  exact ⟨refl_deg h.2, refl_prd h.1⟩
theorem runW_facts {xs : List Int} : ∀ {a b : List Int}, a.length = 7 → validB a = true → runW a xs = some b → runW b xs.reverse = some a ∧ validB b = true ∧ deg b = deg a ∧ prd b b = prd a a := by
  induction xs with
  | nil => intro a b ha hv h; cases h; exact ⟨rfl, hv, rfl, rfl⟩
  | cons x xs ih =>
    intro a b ha hv h
    rw [runW] at h
    split at h
    · rename_i h1
      obtain ⟨k1, k2, k3, k4⟩ := ih (refl_len ha (simple_len _)) h1 h
      have hk := refl_keeps ha x.toNat
      refine ⟨?_, k2, by rw [k3, hk.1], by rw [k4, hk.2]⟩
      rw [List.reverse_cons, runW_append, k1]
      show runW _ [x] = some a
      rw [runW, refl_twice ha, if_pos hv]
      rfl
    · cases h
theorem wordB_rev (xs : List Int) : wordB xs.reverse = wordB xs := by
  rw [wordB, wordB, List.all_reverse, List.length_reverse]
/-- All that the law asks of a class moved by a word. -/
theorem act_facts {xs a : List Int} (ha : a.length = 7) (h : (waR xs a).isSome = true) :
    wordB xs = true ∧ validB a = true ∧ validB ((waR xs a).getD zeroC) = true ∧ waR xs.reverse ((waR xs a).getD zeroC) = some a ∧ deg ((waR xs a).getD zeroC) = deg a ∧ prd ((waR xs a).getD zeroC) ((waR xs a).getD zeroC) = prd a a := by
  have hc : (wordB xs && validB a) = true := by
    cases hx : (wordB xs && validB a)
    · rw [waR, hx] at h; cases h
    · rfl
  have e : waR xs a = runW a xs := by rw [waR, hc]; rfl
  rw [e] at h ⊢
  rw [Bool.and_eq_true] at hc
  obtain ⟨b, hb⟩ := Option.isSome_iff_exists.1 h
  rw [hb]
  obtain ⟨k1, k2, k3, k4⟩ := runW_facts ha hc.2 hb
  refine ⟨hc.1, hc.2, k2, ?_, k3, k4⟩
  show waR xs.reverse b = some a
  rw [waR, wordB_rev, hc.1, k2]
  exact k1

set_option maxRecDepth 100000 in
set_option maxHeartbeats 8000000 in
theorem FnAct_ok (A : Option Addr) (n c : Nat) (xs : List Int) (w : World) (hr : n ≤ 1048576 → RB w A n c xs) :
    Calls Try.prog 9 #[.slice A n c] w fun e w' => e = .returned (.bool true) ∧ Below w.heap.size w w' := by
  by_cases hb : n ≤ 1048576
  · have HR := hid (hr hb)
    clear hr
    go_enter Try.func9, Try.ntmps9
    go_wp2_with fail
    refine (DrawWordAct_ok A n c xs w HR.out).mono ?_
    rintro e w1 ⟨lv, ws, a0, a1, a2, a3, a4, a5, a6, rfl, ho, hwl, b1⟩
    obtain ⟨LA, lc, rfl, _, hri⟩ := ho.ri2 (by omega)
    have hb1 := below_trans b1 (below_alloc w1 (.cells #[.int .i64 a0, .int .i64 a1, .int .i64 a2, .int .i64 a3, .int .i64 a4, .int .i64 a5, .int .i64 a6] 26))
    have B1 := hid hb1
    have X1 := hid (CB.new w1 26 a0 a1 a2 a3 a4 a5 a6)
    have L1 := hid (hri.alloc (.cells #[.int .i64 a0, .int .i64 a1, .int .i64 a2, .int .i64 a3, .int .i64 a4, .int .i64 a5, .int .i64 a6] 26))
    have O1 := hid (ho.alloc (.cells #[.int .i64 a0, .int .i64 a1, .int .i64 a2, .int .i64 a3, .int .i64 a4, .int .i64 a5, .int .i64 a6] 26))
    have HI := hid (fun W h => implWordAct_ok LA ws.length lc ws a0 a1 a2 a3 a4 a5 a6 W h)
    have HS := hid (fun W h => specWordAct_ok LA ws.length lc ws a0 a1 a2 a3 a4 a5 a6 W h)
    have HFa := hid (fun h => @act_facts ws [a0, a1, a2, a3, a4, a5, a6] (seven_len a0 a1 a2 a3 a4 a5 a6) h)
    have HLn := waR_len (xs := ws) (seven_len a0 a1 a2 a3 a4 a5 a6)
    have HB := hid (fun W h => implWordBack_ok w.heap.size (.slice LA ws.length lc) ws W h (by omega))
    have HWl := hid hwl
    clear b1 hb1 hri ho
    generalize (waR ws [a0, a1, a2, a3, a4, a5, a6]).isSome = D at *
    generalize (waR ws [a0, a1, a2, a3, a4, a5, a6]).getD zeroC = Y at *
    obtain ⟨y0, y1, y2, y3, y4, y5, y6, hY⟩ := seven HLn
    subst hY
    have HYv := hid (show clsV [y0, y1, y2, y3, y4, y5, y6] = .agg #[.int .i64 y0, .int .i64 y1, .int .i64 y2, .int .i64 y3, .int .i64 y4, .int .i64 y5, .int .i64 y6] from rfl)
    clear HLn
    obtain ⟨x0, x1, x2, x3, x4, x5, x6⟩ := X1.out.seven
    go_wp2_with fail
    refine (HI.out _ L1.out).mono ?_
    rintro e w2 ⟨rfl, b2⟩
    rw [HYv.out]
    have hb2 := below_trans b2 (below_alloc w2 (.cells #[.int .i64 y0, .int .i64 y1, .int .i64 y2, .int .i64 y3, .int .i64 y4, .int .i64 y5, .int .i64 y6] 26))
    have B2 := hid (below_trans B1.out hb2)
    have X2 := hid (X1.out.below hb2)
    have L2 := hid (L1.out.below hb2)
    have O2 := hid (O1.out.below hb2)
    have Y2 := hid (CB.new w2 26 y0 y1 y2 y3 y4 y5 y6)
    clear b2 hb2 x0 x1 x2 x3 x4 x5 x6
    obtain ⟨x0, x1, x2, x3, x4, x5, x6⟩ := X2.out.seven
    go_wp2_with fail
    refine (HS.out _ L2.out).mono ?_
    rintro e w3 ⟨rfl, b3⟩
    rw [HYv.out]
    have hb3 := below_trans b3 (below_alloc w3 (.cells #[.int .i64 y0, .int .i64 y1, .int .i64 y2, .int .i64 y3, .int .i64 y4, .int .i64 y5, .int .i64 y6] 26))
    have B3 := hid (below_trans B2.out hb3)
    have X3 := hid (X2.out.below hb3)
    have O3 := hid (O2.out.below hb3)
    have Y3 := hid (Y2.out.below hb3)
    have Q3 := hid (CB.new w3 26 y0 y1 y2 y3 y4 y5 y6)
    clear b3 hb3 x0 x1 x2 x3 x4 x5 x6
    obtain ⟨x0, x1, x2, x3, x4, x5, x6⟩ := Y3.out.seven
    obtain ⟨s0, s1, s2, s3, s4, s5, s6⟩ := Q3.out.seven
    have eqc := run_eqlCls y0 y1 y2 y3 y4 y5 y6 y0 y1 y2 y3 y4 y5 y6
    have nec := run_neqCls y0 y1 y2 y3 y4 y5 y6 y0 y1 y2 y3 y4 y5 y6
    rw [beq_self_eq_true] at eqc nec
    have hgd := guardCls
    have hne : (D != D) = false := by simp
    cases D
    · clear HFa
      go_wp2
      go_ret
      exact ⟨rfl, B3.out⟩
    · obtain ⟨f1, f2, f3, f4, f5, f6⟩ := HFa.out rfl
      have HX := hid (fun B d W h => implWordAct_ok B ws.reverse.length d ws.reverse y0 y1 y2 y3 y4 y5 y6 W h)
      have HDy := hid (fun W => classDegree_ok y0 y1 y2 y3 y4 y5 y6 W f3)
      have HDa := hid (fun W => classDegree_ok a0 a1 a2 a3 a4 a5 a6 W f2)
      have HPy := hid (fun W => classProduct_ok y0 y1 y2 y3 y4 y5 y6 y0 y1 y2 y3 y4 y5 y6 W f3 f3)
      have HPa := hid (fun W => classProduct_ok a0 a1 a2 a3 a4 a5 a6 a0 a1 a2 a3 a4 a5 a6 W f2 f2)
      rw [f4, show clsV ((some [a0, a1, a2, a3, a4, a5, a6]).getD zeroC) = .agg #[.int .i64 a0, .int .i64 a1, .int .i64 a2, .int .i64 a3, .int .i64 a4, .int .i64 a5, .int .i64 a6] from rfl, show (some [a0, a1, a2, a3, a4, a5, a6]).isSome = true from rfl] at HX
      rw [f5] at HDy
      rw [f6] at HPy
      rw [show wbV ws = ws.reverse by rw [wbV, f1]; rfl, f1] at HB
      have HLr := hid (show ws.reverse.length = ws.length from List.length_reverse)
      clear HFa f1 f2 f3 f4 f5 f6 HI HS
      generalize deg [a0, a1, a2, a3, a4, a5, a6] = dg at *
      generalize prd [a0, a1, a2, a3, a4, a5, a6] [a0, a1, a2, a3, a4, a5, a6] = pr at *
      generalize ws.reverse = rs at *
      go_wp2_with fail
      refine (HB.out _ O3.out).mono ?_
      rintro e w4 ⟨bv, rfl, ob, b4⟩
      obtain ⟨BA, bc, rfl, _, hrb⟩ := ob.ri2 (by have := HLr.out; have := HWl.out; omega)
      have B4 := hid (below_trans B3.out b4)
      have X4 := hid (X3.out.below b4)
      have Y4 := hid (Y3.out.below b4)
      have R4 := hid hrb
      clear b4 ob hrb x0 x1 x2 x3 x4 x5 x6 s0 s1 s2 s3 s4 s5 s6
      obtain ⟨x0, x1, x2, x3, x4, x5, x6⟩ := Y4.out.seven
      go_wp2_with fail
      refine (HX.out _ _ _ R4.out).mono ?_
      rintro e w5 ⟨rfl, b5⟩
      have hb5 := below_trans b5 (below_alloc w5 (.cells #[.int .i64 a0, .int .i64 a1, .int .i64 a2, .int .i64 a3, .int .i64 a4, .int .i64 a5, .int .i64 a6] 26))
      have B5 := hid (below_trans B4.out hb5)
      have X5 := hid (X4.out.below hb5)
      have Y5 := hid (Y4.out.below hb5)
      have U5 := hid (CB.new w5 26 a0 a1 a2 a3 a4 a5 a6)
      clear b5 hb5 x0 x1 x2 x3 x4 x5 x6

      obtain ⟨x0, x1, x2, x3, x4, x5, x6⟩ := Y5.out.seven
      go_wp2_with fail
      refine (HDy.out _).mono ?_
      rintro e w6 ⟨rfl, b6⟩
      have B6 := hid (below_trans B5.out b6)
      have X6 := hid (X5.out.below b6)
      have Y6 := hid (Y5.out.below b6)
      have U6 := hid (U5.out.below b6)
      clear b6
      clear x0 x1 x2 x3 x4 x5 x6
      obtain ⟨x0, x1, x2, x3, x4, x5, x6⟩ := X6.out.seven
      go_wp2_with fail
      refine (HDa.out _).mono ?_
      rintro e w7 ⟨rfl, b7⟩
      have B7 := hid (below_trans B6.out b7)
      have X7 := hid (X6.out.below b7)
      have Y7 := hid (Y6.out.below b7)
      have U7 := hid (U6.out.below b7)
      clear b7
      clear x0 x1 x2 x3 x4 x5 x6
      obtain ⟨x0, x1, x2, x3, x4, x5, x6⟩ := Y7.out.seven
      go_wp2_with fail
      refine (HPy.out _).mono ?_
      rintro e w8 ⟨rfl, b8⟩
      have B8 := hid (below_trans B7.out b8)
      have X8 := hid (X7.out.below b8)
      have Y8 := hid (Y7.out.below b8)
      have U8 := hid (U7.out.below b8)
      clear b8
      clear x0 x1 x2 x3 x4 x5 x6
      obtain ⟨x0, x1, x2, x3, x4, x5, x6⟩ := X8.out.seven
      go_wp2_with fail
      refine (HPa.out _).mono ?_
      rintro e w9 ⟨rfl, b9⟩
      have B9 := hid (below_trans B8.out b9)
      have X9 := hid (X8.out.below b9)
      have Y9 := hid (Y8.out.below b9)
      have U9 := hid (U8.out.below b9)
      clear b9
      clear x0 x1 x2 x3 x4 x5 x6
      obtain ⟨x0, x1, x2, x3, x4, x5, x6⟩ := X9.out.seven
      obtain ⟨s0, s1, s2, s3, s4, s5, s6⟩ := U9.out.seven
      clear eqc nec
      have eqa := run_eqlCls a0 a1 a2 a3 a4 a5 a6 a0 a1 a2 a3 a4 a5 a6
      rw [beq_self_eq_true] at eqa
      go_wp2
      go_ret
      exact ⟨by simp, B9.out⟩
  · clear hr
    go_enter Try.func9, Try.ntmps9
    go_wp2
    go_ret
    exact ⟨rfl, Below.refl _ _⟩

end Go.Proofs.Ytbodpfgbelaopaa
