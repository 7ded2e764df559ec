/-
  The law FnGeneral.
-/
import Derived.Test.YtkhkcgoblibnpaaSy
import Derived.Test.YtkhkcgoblibnpaaGm
import Derived.Test.YtkhkcgoblibnpaaCr
import Derived.Test.YtkhkcgoblibnpaaOn
namespace Go.Proofs.Ytkhkcgoblibnpaa
open Go.RowKit
set_option linter.unusedVariables false
set_option linter.unusedSimpArgs false

theorem rev_take (ps : List P3) {k n : Nat} (hn : ps.length = n) (h : k < n) : ps.reverse.take (k + 1) = ps.reverse.take k ++ [ps.getD (n - 1 - k) default] := by
  rw [List.take_succ_eq_append_getElem (by simp; omega)]
  congr 2
  rw [List.getElem_reverse]
  subst hn
  simp [List.getD_eq_getElem?_getD, List.getElem?_eq_getElem (show ps.length - 1 - k < ps.length by omega)]
theorem RP.take {w : World} {A : Option Addr} {n m : Nat} {ps : List P3} (h : RP w A n ps) (hm : m ≤ n) : RP w A m (ps.take m) := by
  obtain ⟨h1, h2, b, off, h3, h4⟩ := h
  refine ⟨by rw [List.length_take]; omega, by omega, b, off, by rcases h3 with h | h; exact .inl (by omega); exact .inr h, fun j hj => ?_⟩
  rw [getD_take ps hj]
  exact h4 j (by omega)

set_option maxRecDepth 100000 in
set_option maxHeartbeats 4000000 in
theorem FnGeneral_ok (A : Option Addr) (n c : Nat) (xs : List Int) (w : World) (hr : n ≤ 1048576 → RB w A n c xs) :
    Calls Try.prog 8 #[.slice A n c] w fun e w' => e = .returned (.bool true) ∧ Below w.heap.size w w' := by
  by_cases hb : n ≤ 1048576
  · have HR := hid (hr hb)
    clear hr
    go_enter Try.func8, Try.ntmps8
    go_wp2_with fail
    refine (DrawPointGeneral_ok A n c xs w HR.out).mono ?_
    rintro e w1 ⟨p, A1, c1, ps, rfl, hp, r1, hc1, b1⟩
    have R1 := hid r1
    have B1 := hid b1
    have hl := r1.1
    have HI := hid (fun W h => implPointGeneral_ok p A1 6 c1 ps W h hc1)
    have HS := hid (fun W h => specPointGeneral_ok p A1 6 c1 ps W h)
    clear r1 b1 hp
    go_wp2_with fail
    refine (HI.out _ R1.out).mono ?_
    rintro e w2 ⟨rfl, b2⟩
    have R2 := hid (R1.out.below b2)
    have B2 := hid (below_trans B1.out b2)
    clear b2
    go_wp2_with fail
    refine (HS.out _ R2.out).mono ?_
    rintro e w3 ⟨rfl, b3⟩
    have R3 := hid (R2.out.below b3)
    have B3 := hid (below_trans B2.out b3)
    clear b3
    have hne : (generalB p ps != generalB p ps) = false := by simp
    cases hg : generalB p ps
    · clear hne
      go_wp2
      go_ret
      exact ⟨rfl, B3.out⟩
    · have HG := hid hg
      clear hg hne
      go_wp2
      go_loopg [7, 8] 6 (fun g v t wr => ∃ k : Nat, k ≤ 6 ∧ g = 6 - k ∧ t = .int .i64 (5 - (k : Int)) ∧ OP wr w3.heap.size v (ps.reverse.take k) ∧ Below w3.heap.size w3 wr)
      case atStart => exact ⟨0, by omega, by omega, by go_num, World.ownsRow_lit w3 #[] 0 (Nat.le_refl _) (by decide) rfl, below_alloc _ _⟩
      case round =>
        obtain ⟨k, hk, hgk, rfl, ho, hb3⟩ := hrel
        have HGk := hid hgk
        have O4 := hid ho
        have HB4 := hid hb3
        clear hgk ho hb3
        by_cases hlt : k < 6
        · obtain ⟨b, off, rfl⟩ := R3.out.addr (by omega)
          have hk5 : 5 - k < 6 := by omega
          obtain ⟨i, hi⟩ : ∃ i : Nat, i = 5 - k := ⟨_, rfl⟩
          have HT := hid (show ps.reverse.take (k + 1) = ps.reverse.take k ++ [ps.getD i default] by rw [hi]; exact rev_take ps hl hlt)
          have HLn := hid (show (ps.reverse.take k).length < 4398046511104 by simp; omega)
          rw [← hi] at hk5
          obtain ⟨a0, a1, a2⟩ := (R3.out.below HB4.out).at3 hk5
          have e5 : (5 : Int) - (k : Int) = (i : Int) := by omega
          have H5 := hid e5
          rw [e5]
          have HI5 := hid hi
          clear e5 hi
          obtain ⟨q, hq⟩ : ∃ q, ps.getD i default = q := ⟨_, rfl⟩
          rw [hq] at HT a0 a1 a2
          clear hq
          obtain ⟨x, y, z⟩ := q
          have a0 : wr.cell? ⟨b, off + i * 3, none⟩ = some (.int .i64 x) := a0
          have a1 : wr.cell? ⟨b, off + i * 3 + 1, none⟩ = some (.int .i64 y) := a1
          have a2 : wr.cell? ⟨b, off + i * 3 + 2, none⟩ = some (.int .i64 z) := a2
          go_wp2_with (at_builtin; refine append_pt _ _ rfl rfl w3.heap.size _ (ps.reverse.take k) (x, y, z) wr.heap.size rfl rfl (O4.out.alloc _) (pc_cells wr (x, y, z) _ _ rfl) HLn.out (size_alloc HB4.out.size _) ?_; intro v' w5 hown hgrow; have O5 := hid hown; have G5 := hid hgrow; clear hown hgrow)
          go_roundg (6 - (k + 1))
          case measure => have := HGk.out; omega
          case rel => exact ⟨k + 1, by omega, rfl, by have := H5.out; go_num, by rw [HT.out]; exact O5.out, below_append HB4.out HB4.out.size O4.out G5.out⟩
        · obtain rfl : k = 6 := by omega
          obtain ⟨g1, g2, g3⟩ := general_parts HG.out
          obtain ⟨b, off, rfl⟩ := R3.out.addr (by omega)
          have R4 := hid (R3.out.below HB4.out)
          have hap := apart_apt g2
          have hpt := apart_pt g2
          have hd2 := hap 0 1 2 (by omega) (by omega) (by omega) (by decide) (by decide) (by decide)
          have hd5 := hap 0 1 5 (by omega) (by omega) (by omega) (by decide) (by decide) (by decide)
          have hlb := line_two (hpt _ (getD_mem (d := default) (show 0 < ps.length by omega))) (hpt _ (getD_mem (d := default) (show 1 < ps.length by omega))) hd2
          obtain ⟨a0, a1, a2⟩ := R4.out.at3 (show 0 < 6 by omega)
          obtain ⟨b0, b1, b2⟩ := R4.out.at3 (show 1 < 6 by omega)
          obtain ⟨pa, hpa⟩ : ∃ q, ps.getD 0 default = q := ⟨_, rfl⟩
          obtain ⟨pb, hpb⟩ : ∃ q, ps.getD 1 default = q := ⟨_, rfl⟩
          rw [hpa] at a0 a1 a2 hd2 hd5 hlb
          rw [hpb] at b0 b1 b2 hd2 hd5 hlb
          clear hpa hpb
          obtain ⟨x, y, z⟩ := pa
          obtain ⟨l, m, o⟩ := pb
          have HOff2 := hid (line_off (u := (ps.getD 2 default).1) (v := (ps.getD 2 default).2.1) (w := (ps.getD 2 default).2.2) hlb hd2)
          have HOff5 := hid (line_off (u := (ps.getD 5 default).1) (v := (ps.getD 5 default).2.1) (w := (ps.getD 5 default).2.2) hlb hd5)
          have HL := hid (fun W => implPointLine_ok p x y z l m o W)
          rw [show lineB p x y z l m o = true from hlb] at HL
          have HOff2 := hid (show onB p (ps.getD 2 default).1 (ps.getD 2 default).2.1 (ps.getD 2 default).2.2 (lineV p x y z l m o).1 (lineV p x y z l m o).2.1 (lineV p x y z l m o).2.2 = false from HOff2.out)
          have HOff5 := hid (show onB p (ps.getD 5 default).1 (ps.getD 5 default).2.1 (ps.getD 5 default).2.2 (lineV p x y z l m o).1 (lineV p x y z l m o).2.1 (lineV p x y z l m o).2.2 = false from HOff5.out)
          generalize lineV p x y z l m o = L at *
          obtain ⟨L0, L1, L2⟩ := L
          have HLv := hid (show ptVal (L0, L1, L2) = .agg #[.int .i64 L0, .int .i64 L1, .int .i64 L2] from rfl)
          have a0 : wr.cell? ⟨b, off, none⟩ = some (.int .i64 x) := by simpa using a0
          have a1 : wr.cell? ⟨b, off + 1, none⟩ = some (.int .i64 y) := by simpa using a1
          have a2 : wr.cell? ⟨b, off + 2, none⟩ = some (.int .i64 z) := by simpa using a2
          have b0 : wr.cell? ⟨b, off + 3, none⟩ = some (.int .i64 l) := by simpa using b0
          have b1 : wr.cell? ⟨b, off + 4, none⟩ = some (.int .i64 m) := by simpa using b1
          have b2 : wr.cell? ⟨b, off + 5, none⟩ = some (.int .i64 o) := by simpa using b2
          have za0 := cell_below (below_alloc wr (.cells #[.int .i64 0, .int .i64 0, .int .i64 0] 35)) a0
          have za1 := cell_below (below_alloc wr (.cells #[.int .i64 0, .int .i64 0, .int .i64 0] 35)) a1
          have za2 := cell_below (below_alloc wr (.cells #[.int .i64 0, .int .i64 0, .int .i64 0] 35)) a2
          have zb0 := cell_below (below_alloc wr (.cells #[.int .i64 0, .int .i64 0, .int .i64 0] 35)) b0
          have zb1 := cell_below (below_alloc wr (.cells #[.int .i64 0, .int .i64 0, .int .i64 0] 35)) b1
          have zb2 := cell_below (below_alloc wr (.cells #[.int .i64 0, .int .i64 0, .int .i64 0] 35)) b2
          have YZ := hid (show IBox (wr.alloc (.cells #[.int .i64 0, .int .i64 0, .int .i64 0] 35)).drew wr.heap.size 0 0 0 from IBox.new wr 0 0 0)
          have BZ := hid (below_drewN (below_alloc wr (.cells #[.int .i64 0, .int .i64 0, .int .i64 0] 35)) 1)
          clear g1 g2 g3 hap hpt hd2 hd5 hlb
          go_wp2
          go_cut [9, 10] (fun s9 s10 wx => ∃ g : Nat, s9 = .pointer (some ⟨g, 0, none⟩) ∧ s10 = .bool true ∧ IBox wx g L0 L1 L2 ∧ wr.heap.size ≤ g ∧ Below wr.heap.size wr wx)
          case first =>
            go_region_with (first
              | (go_at_call 33; first
                  | ((with_reducible refine (HL.out wr.drew).mono ?_); rintro e wL ⟨rfl, bL⟩; rw [HLv.out]; have BL := hid (below_trans (below_drewN (Below.refl _ wr) 1) bL); clear bL)
                  | ((with_reducible refine (HL.out (wr.alloc (.cells #[.int .i64 0, .int .i64 0, .int .i64 0] 35)).drew).mono ?_); rintro e wL ⟨rfl, bL⟩; rw [HLv.out]; have BL := hid (below_trans BZ.out bL); have YL := hid (YZ.out.below bL); clear bL; obtain ⟨y0, y1, y2, f0, f1, f2⟩ := YL.out.cells)))
            all_goals
              have sL := BL.out.size
              go_wp2_with fail
              go_meet
              first
                | exact ⟨_, rfl, rfl, YL.out.put L0 L1 L2, by omega, below_put BL.out (by omega) _ _ _⟩
                | exact ⟨_, rfl, rfl, IBox.new wL L0 L1 L2, by omega, BL.out.alloc (by omega) _⟩
          case rest =>
          obtain ⟨gl, rfl, rfl, hbx, hgl, hbl⟩ := hcut
          have IX := hid hbx
          have BX := hid hbl
          clear hbx hbl a0 a1 a2 b0 b1 b2 za0 za1 za2 zb0 zb1 zb2 YZ BZ HL
          obtain ⟨hpc, hcz, hrg⟩ := conic_six HG.out
          have R5 := hid (R4.out.below BX.out)
          have HC := hid (fun W h => implPointConic_ok p (some ⟨b, off, none⟩) 5 c1 (ps.take 5) W h (by omega))
          rw [hpc] at HC
          have HCz := hid hcz
          have HRg := hid hrg
          generalize pcP p (ps.take 5) = Q at *
          clear hpc hcz hrg
          have hc5 : 5 ≤ c1 := by omega
          go_wp2_with fail
          refine (HC.out _ (R5.out.take (by omega))).mono ?_
          rintro e w9 ⟨vq, rfl, oq, bq⟩
          obtain ⟨AQ, cQ, rfl, rq⟩ := oq.ri (by have := HRg.out.1; omega)
          rw [HRg.out.1] at rq ⊢
          have RQ := hid rq
          have B9 := hid (below_trans BX.out bq)
          have R9 := hid (R5.out.below bq)
          have I9 := hid (IX.out.below bq)
          clear oq bq rq
          obtain ⟨e0, e1, e2⟩ := R9.out.at3 (show 5 < 6 by omega)
          have HPf0 := hid (apart_PB (general_parts HG.out).2.1 _ (getD_mem (d := default) (show 5 < ps.length by omega)))
          obtain ⟨pf, hpf⟩ : ∃ q, ps.getD 5 default = q := ⟨_, rfl⟩
          have HP5 := hid hpf
          rw [hpf] at e0 e1 e2 HPf0 HOff5 HCz
          clear hpf
          obtain ⟨u, v, t⟩ := pf
          have e0 : w9.cell? ⟨b, off + 15, none⟩ = some (.int .i64 u) := by simpa using e0
          have e1 : w9.cell? ⟨b, off + 16, none⟩ = some (.int .i64 v) := by simpa using e1
          have e2 : w9.cell? ⟨b, off + 17, none⟩ = some (.int .i64 t) := by simpa using e2
          have HPf := hid (show (0 ≤ u ∧ u ≤ 31) ∧ (0 ≤ v ∧ v ≤ 31) ∧ (0 ≤ t ∧ t ≤ 31) from HPf0.out)
          obtain ⟨_, _, bq, oq, hA, hcq⟩ := RQ.out
          obtain rfl : AQ = some ⟨bq, oq, none⟩ := by rcases hA with h | h; omega; exact h
          have p0 := cell_below (below_alloc w9 (.cells #[.int .i64 u, .int .i64 v, .int .i64 t] 33)) (hcq 0 (by omega))
          have p1 := cell_below (below_alloc w9 (.cells #[.int .i64 u, .int .i64 v, .int .i64 t] 33)) (hcq 1 (by omega))
          have p2 := cell_below (below_alloc w9 (.cells #[.int .i64 u, .int .i64 v, .int .i64 t] 33)) (hcq 2 (by omega))
          have p3 := cell_below (below_alloc w9 (.cells #[.int .i64 u, .int .i64 v, .int .i64 t] 33)) (hcq 3 (by omega))
          have p4 := cell_below (below_alloc w9 (.cells #[.int .i64 u, .int .i64 v, .int .i64 t] 33)) (hcq 4 (by omega))
          have p5 := cell_below (below_alloc w9 (.cells #[.int .i64 u, .int .i64 v, .int .i64 t] 33)) (hcq 5 (by omega))
          have HQd := hid (show dotTo Q (sqI (u, v, t)) 6 = Q.getD 0 0 * u * u + Q.getD 1 0 * u * v + Q.getD 2 0 * u * t + Q.getD 3 0 * v * v + Q.getD 4 0 * v * t + Q.getD 5 0 * t * t by
            simp only [dotTo, sqI, List.getD_cons_zero, List.getD_cons_succ]
            grind)
          have g0 : 0 ≤ Q.getD 0 0 ∧ Q.getD 0 0 ≤ 31 := by have := HRg.out.get (show 0 < 6 by omega); have := isPrimeB_bd (apart_prime (general_parts HG.out).2.1 (by omega)); omega
          have g1 : 0 ≤ Q.getD 1 0 ∧ Q.getD 1 0 ≤ 31 := by have := HRg.out.get (show 1 < 6 by omega); have := isPrimeB_bd (apart_prime (general_parts HG.out).2.1 (by omega)); omega
          have g2 : 0 ≤ Q.getD 2 0 ∧ Q.getD 2 0 ≤ 31 := by have := HRg.out.get (show 2 < 6 by omega); have := isPrimeB_bd (apart_prime (general_parts HG.out).2.1 (by omega)); omega
          have g3 : 0 ≤ Q.getD 3 0 ∧ Q.getD 3 0 ≤ 31 := by have := HRg.out.get (show 3 < 6 by omega); have := isPrimeB_bd (apart_prime (general_parts HG.out).2.1 (by omega)); omega
          have g4 : 0 ≤ Q.getD 4 0 ∧ Q.getD 4 0 ≤ 31 := by have := HRg.out.get (show 4 < 6 by omega); have := isPrimeB_bd (apart_prime (general_parts HG.out).2.1 (by omega)); omega
          have g5 : 0 ≤ Q.getD 5 0 ∧ Q.getD 5 0 ≤ 31 := by have := HRg.out.get (show 5 < 6 by omega); have := isPrimeB_bd (apart_prime (general_parts HG.out).2.1 (by omega)); omega
          generalize Q.getD 0 0 = r0 at *
          generalize Q.getD 1 0 = r1 at *
          generalize Q.getD 2 0 = r2 at *
          generalize Q.getD 3 0 = r3 at *
          generalize Q.getD 4 0 = r4 at *
          generalize Q.getD 5 0 = r5 at *
          have m0 := mul_bd g0.1 HPf.out.1.1 g0.2 HPf.out.1.2
          have n0 := mul_bd m0.1 HPf.out.1.1 m0.2 HPf.out.1.2
          have wm0 := IntWalk.i64_in (r0 * u) (by omega)
          have wn0 := IntWalk.i64_in (r0 * u * u) (by omega)
          have m1 := mul_bd g1.1 HPf.out.1.1 g1.2 HPf.out.1.2
          have n1 := mul_bd m1.1 HPf.out.2.1.1 m1.2 HPf.out.2.1.2
          have wm1 := IntWalk.i64_in (r1 * u) (by omega)
          have wn1 := IntWalk.i64_in (r1 * u * v) (by omega)
          have m2 := mul_bd g2.1 HPf.out.1.1 g2.2 HPf.out.1.2
          have n2 := mul_bd m2.1 HPf.out.2.2.1 m2.2 HPf.out.2.2.2
          have wm2 := IntWalk.i64_in (r2 * u) (by omega)
          have wn2 := IntWalk.i64_in (r2 * u * t) (by omega)
          have m3 := mul_bd g3.1 HPf.out.2.1.1 g3.2 HPf.out.2.1.2
          have n3 := mul_bd m3.1 HPf.out.2.1.1 m3.2 HPf.out.2.1.2
          have wm3 := IntWalk.i64_in (r3 * v) (by omega)
          have wn3 := IntWalk.i64_in (r3 * v * v) (by omega)
          have m4 := mul_bd g4.1 HPf.out.2.1.1 g4.2 HPf.out.2.1.2
          have n4 := mul_bd m4.1 HPf.out.2.2.1 m4.2 HPf.out.2.2.2
          have wm4 := IntWalk.i64_in (r4 * v) (by omega)
          have wn4 := IntWalk.i64_in (r4 * v * t) (by omega)
          have m5 := mul_bd g5.1 HPf.out.2.2.1 g5.2 HPf.out.2.2.2
          have n5 := mul_bd m5.1 HPf.out.2.2.1 m5.2 HPf.out.2.2.2
          have wm5 := IntWalk.i64_in (r5 * t) (by omega)
          have wn5 := IntWalk.i64_in (r5 * t * t) (by omega)
          have ws1 := IntWalk.i64_in (r0 * u * u + r1 * u * v) (by omega)
          have ws2 := IntWalk.i64_in (r0 * u * u + r1 * u * v + r2 * u * t) (by omega)
          have ws3 := IntWalk.i64_in (r0 * u * u + r1 * u * v + r2 * u * t + r3 * v * v) (by omega)
          have ws4 := IntWalk.i64_in (r0 * u * u + r1 * u * v + r2 * u * t + r3 * v * v + r4 * v * t) (by omega)
          have ws5 := IntWalk.i64_in (r0 * u * u + r1 * u * v + r2 * u * t + r3 * v * v + r4 * v * t + r5 * t * t) (by omega)
          have k0 : (w9.alloc (.cells #[.int .i64 u, .int .i64 v, .int .i64 t] 33)).cell? ⟨w9.heap.size, 0, none⟩ = some (.int .i64 u) := by rw [World.cell?_alloc_at _ _ _ _ rfl]; rfl
          have k1 : (w9.alloc (.cells #[.int .i64 u, .int .i64 v, .int .i64 t] 33)).cell? ⟨w9.heap.size, 1, none⟩ = some (.int .i64 v) := by rw [World.cell?_alloc_at _ _ _ _ rfl]; rfl
          have k2 : (w9.alloc (.cells #[.int .i64 u, .int .i64 v, .int .i64 t] 33)).cell? ⟨w9.heap.size, 2, none⟩ = some (.int .i64 t) := by rw [World.cell?_alloc_at _ _ _ _ rfl]; rfl
          go_wp2
          have B10 := hid (below_alloc w9 (.cells #[.int .i64 u, .int .i64 v, .int .i64 t] 33))
          have Wn := hid (Int.tmod_eq_emod_of_nonneg (b := p) (show 0 ≤ r0 * u * u + r1 * u * v + r2 * u * t + r3 * v * v + r4 * v * t + r5 * t * t by omega))
          clear m0 n0 g0 m1 n1 g1 m2 n2 g2 m3 n3 g3 m4 n4 g4 m5 n5 g5
          generalize w9.alloc (.cells #[.int .i64 u, .int .i64 v, .int .i64 t] 33) = W10 at *
          have p0 : W10.cell? ⟨bq, oq, none⟩ = some (.int .i64 r0) := by simpa using p0
          go_quiet (fail)
          clear p0 p1 p2 p3 p4 p5 k0 k1 k2 wm0 wn0 wm1 wn1 wm2 wn2 wm3 wn3 wm4 wn4 wm5 wn5 ws1 ws2 ws3 ws4 ws5
          have hcz : (r0 * u * u + r1 * u * v + r2 * u * t + r3 * v * v + r4 * v * t + r5 * t * t).tmod p ≠ 0 := by rw [Wn.out, ← HQd.out]; exact HCz.out
          generalize r0 * u * u + r1 * u * v + r2 * u * t + r3 * v * v + r4 * v * t + r5 * t * t = S at *
          have BW := hid (show Below w9.heap.size w9 (W10.drewN nq) from below_drewN B10.out _)
          have hp0 : p ≠ 0 := by have := isPrimeB_bd (apart_prime (general_parts HG.out).2.1 (by omega)); omega
          obtain ⟨A7, c7, rfl, r7, h7⟩ := O4.out.rpc (by have := List.length_take_le 6 ps.reverse; omega)
          have hl6 : (List.take 6 ps.reverse).length = 6 := by simp; omega
          rw [hl6] at r7 h7 ⊢
          rw [List.take_of_length_le (by simp; omega)] at r7
          have R7 := hid ((r7.below (B9.out)).below BW.out)
          have hGr := general_rev HG.out
          clear r7
          generalize W10.drewN nq = W at *
          have R11 := hid (R9.out.below BW.out)
          obtain ⟨a0, a1, a2⟩ := R11.out.at3 (show 2 < 6 by omega)
          obtain ⟨b0, b1, b2⟩ := R11.out.at3 (show 5 < 6 by omega)
          have HGR := hid (fun d : Ext W => implPointGeneral_ok p A7 6 c7 ps.reverse d.at_ (R7.out.below d.below) h7)
          rw [hGr] at HGR
          rw [HP5.out] at b0 b1 b2
          obtain ⟨pe, hpe⟩ : ∃ q, ps.getD 2 default = q := ⟨_, rfl⟩
          rw [hpe] at a0 a1 a2 HOff2
          clear hpe
          obtain ⟨x2, y2, z2⟩ := pe
          have c20 := ext_cell (w := W) (a := ⟨b, off + 6, none⟩) (v := .int .i64 x2) (by simpa using a0)
          have c21 := ext_cell (w := W) (a := ⟨b, off + 7, none⟩) (v := .int .i64 y2) (by simpa using a1)
          have c22 := ext_cell (w := W) (a := ⟨b, off + 8, none⟩) (v := .int .i64 z2) (by simpa using a2)
          have c50 := ext_cell (w := W) (a := ⟨b, off + 15, none⟩) (v := .int .i64 u) (by simpa using b0)
          have c51 := ext_cell (w := W) (a := ⟨b, off + 16, none⟩) (v := .int .i64 v) (by simpa using b1)
          have c52 := ext_cell (w := W) (a := ⟨b, off + 17, none⟩) (v := .int .i64 t) (by simpa using b2)
          have I11 := I9.out.below BW.out
          have l0 := ext_cell I11.cells.1
          have l1 := ext_cell I11.cells.2.1
          have l2 := ext_cell I11.cells.2.2.1
          have H2 := hid (fun d : Ext W => implPointOn_ok p x2 y2 z2 L0 L1 L2 d.at_)
          have H5 := hid (fun d : Ext W => implPointOn_ok p u v t L0 L1 L2 d.at_)
          rw [show onB p x2 y2 z2 L0 L1 L2 = false from HOff2.out] at H2
          rw [show onB p u v t L0 L1 L2 = false from HOff5.out] at H5
          have hcb : ((S.tmod p) != 0) = true := by simpa using hcz
          clear a0 a1 a2 b0 b1 b2 e0 e1 e2 I11 hGr
          go_wp2
          refine wp_region_ext (by kernel_rfl) (by kernel_rfl) ?_
          repeat (go_big_quiet_step (first | (go_at_call 29; exact ext_call (HGR.out _)) | (go_at_call 34; first | (with_reducible exact ext_call (H2.out _)) | (with_reducible exact ext_call (H5.out _)))))
          refine wpQuiet_nil ?_
          rintro _ ⟨⟨w12, b12⟩, rfl⟩
          have B12 := hid (below_trans (below_trans B9.out BW.out) b12)
          clear b12
          go_wp2
          go_ret
          exact ⟨rfl, below_trans B3.out (below_trans HB4.out B12.out)⟩
  · clear hr
    go_enter Try.func8, Try.ntmps8
    go_wp2
    go_ret
    exact ⟨rfl, Below.refl _ _⟩

end Go.Proofs.Ytkhkcgoblibnpaa
