/-
  The law FnConic.
-/
import Derived.Test.YtkhkcgoblibnpaaSz
import Derived.Test.YtkhkcgoblibnpaaKc
namespace Go.Proofs.Ytkhkcgoblibnpaa
open Go.RowKit
set_option linter.unusedVariables false
set_option linter.unusedSimpArgs false


set_option maxRecDepth 100000 in
set_option maxHeartbeats 4000000 in
theorem FnConic_ok (A : Option Addr) (n c : Nat) (xs : List Int) (w : World) (hr : n ≤ 1048576 → RB w A n c xs) :
    Calls Try.prog 9 #[.slice A n c] w fun e w' => e = .returned (.bool true) ∧ Below w.heap.size w w' := by
  by_cases hb : n ≤ 1048576
  · have HR := hid (hr hb)
    clear hr
    go_enter Try.func9, Try.ntmps9
    go_wp2_with fail
    refine (DrawPointConic_ok A n c xs w HR.out).mono ?_
    rintro e w1 ⟨p, A1, c1, ps, rfl, hp, r1, hc1, b1⟩
    have R1 := hid r1
    have B1 := hid b1
    have hl := r1.1
    have HI := hid (fun W h => implPointConic_ok p A1 5 c1 ps W h hc1)
    have HS := hid (fun W h => specPointConic_ok p A1 5 c1 ps W h)
    have HF := hid (pcP_len p ps)
    clear r1 b1 hp
    go_wp2_with fail
    refine (HI.out _ R1.out).mono ?_
    rintro e w2 ⟨v2, rfl, o2, b2⟩
    obtain ⟨A2, c2, rfl, r2⟩ := o2.ri (by have := HF.out; omega)
    have R2 := hid (R1.out.below b2)
    have B2 := hid (below_trans B1.out b2)
    have Q2 := hid r2
    clear b2 o2 r2
    go_wp2_with fail
    refine (HS.out _ R2.out).mono ?_
    rintro e w3 ⟨v3, rfl, o3, b3⟩
    obtain ⟨A3, c3, rfl, r3⟩ := o3.ri (by have := HF.out; omega)
    have R3 := hid (R2.out.below b3)
    have B3 := hid (below_trans B2.out b3)
    have Q3 := hid (Q2.out.below b3)
    have S3 := hid r3
    clear b3 o3 r3
    have hne : (pcB p ps != pcB p ps) = false := by simp
    have HSame := hid (fun W h h' => sameInts_ok A2 (pcP p ps).length c2 (pcP p ps) A3 (pcP p ps).length c3 (pcP p ps) W h h')
    rw [beq_self_eq_true] at HSame
    cases hg : pcB p ps
    · clear hne
      go_wp2_with fail
      refine (HSame.out _ Q3.out S3.out).mono ?_
      rintro e w4 ⟨rfl, b4⟩
      have B4 := hid (below_trans B3.out b4)
      have Q4 := hid (Q3.out.below b4)
      have S4 := hid (S3.out.below b4)
      clear b4
      go_wp2_with fail
      refine (HSame.out _ Q4.out S4.out).mono ?_
      rintro e w5 ⟨rfl, b5⟩
      have B5 := hid (below_trans B4.out b5)
      clear b5
      go_wp2
      go_ret
      exact ⟨rfl, B5.out⟩
    · obtain ⟨hrg, hon, hcnt⟩ := conic_law hg
      have HP := hid (apart_prime (pcB_parts hg).2 (by omega))
      have HAll := hid (fun a ha => point_all (apart_pt (pcB_parts hg).2 a ha))
      have HRg := hid hrg
      have HOn := hid hon
      have HCnt := hid hcnt
      have hlen := ptsB_length p
      have hpts : ptsB p = allPts p.toNat := by rw [ptsB, HP.out]; rfl
      have HO := hid (allPts_ok HP.out)
      have HNd := hid (show (allPts p.toNat).Nodup from allTo_nodup _ _)
      rw [hpts] at hlen
      clear hne hrg hon hcnt hg HI HS
      go_wp2_with fail
      refine (HSame.out _ Q3.out S3.out).mono ?_
      rintro e w4 ⟨rfl, b4⟩
      have B4 := hid (below_trans B3.out b4)
      have R4 := hid (R3.out.below b4)
      have Q4 := hid (Q3.out.below b4)
      clear b4 HSame
      go_wp2_with fail
      refine (implPointAll_ok p _).mono ?_
      rintro e w5 ⟨v5, rfl, o5, b5⟩
      rw [hpts] at o5
      obtain ⟨A5, c5, rfl, r5⟩ := o5.rp (by omega)
      have B5 := hid (below_trans B4.out b5)
      have R5 := hid (R4.out.below b5)
      have Q5 := hid (Q4.out.below b5)
      have P5 := hid r5
      clear o5 b5 r5 hpts
      rw [HP.out]
      have hq6 := HRg.out.1
      rw [hq6] at Q5 ⊢
      generalize pcP p ps = Q at *
      generalize hall : allPts p.toNat = all at *
      generalize hm : all.length = M at *
      have HM := hid hm
      clear hall hm hq6
      go_wp2
      go_loopw [11, 12, 13] (fun s h i wr => ∃ k : Nat, k ≤ M ∧ i = .int .i64 k ∧ s = .int .i64 (((all.take k).countP (onC p Q) : Nat) : Int) ∧ h = .int .i64 ((hasTo (onC p Q) ps all k : Nat) : Int) ∧ Below w5.heap.size w5 wr) (fun _ _ i _ => M - (intOf i).toNat)
      case atStart => exact ⟨0, by omega, rfl, rfl, rfl, Below.refl _ _⟩
      case round =>
        obtain ⟨k, hk, rfl, rfl, rfl, hbr⟩ := hrel
        have BR := hid hbr
        have hcle : (all.take k).countP (onC p Q) ≤ k := by
          have h1 := List.countP_le_length (p := onC p Q) (l := all.take k)
          have h2 : (all.take k).length ≤ k := by rw [List.length_take]; omega
          omega
        have hhle := has_le (onC p Q) ps all k
        rw [hl] at hhle
        clear hbr
        by_cases hlt : k < M
        · obtain ⟨b, off, rfl⟩ := P5.out.addr (by omega)
          obtain ⟨bf, of, rfl⟩ := R5.out.addr (by omega)
          obtain ⟨e0, e1, e2⟩ := (P5.out.below BR.out).at3 hlt
          have RR := hid (R5.out.below BR.out)
          have HE := hid (fun (wx : World) (h : Below w5.heap.size w5 wx) => (P5.out.below h).at3 hlt)
          have hmem : all.getD k default ∈ all := getD_mem (by have := HM.out; omega)
          have hpt : specPointB p (all.getD k default).1 (all.getD k default).2.1 (all.getD k default).2.2 = true := by rw [← points_alike]; exact HO.out _ hmem
          have hbd := specPoint_bd hpt
          have HT := hid (takeP (onC p Q) all k (by have := HM.out; omega))
          have HH := hid (show hasTo (onC p Q) ps all (k + 1) = hasTo (onC p Q) ps all k + if onC p Q (all.getD k default) then hits ps (all.getD k default) else 0 from rfl)
          clear hmem hpt
          generalize all.getD k default = P at *
          obtain ⟨u, v, t⟩ := P
          have HPf := hid (show (0 ≤ u ∧ u ≤ 31) ∧ (0 ≤ v ∧ v ≤ 31) ∧ (0 ≤ t ∧ t ≤ 31) by simp only at hbd; omega)
          clear hbd
          have e0 : wr.cell? ⟨b, off + k * 3, none⟩ = some (.int .i64 u) := e0
          have e1 : wr.cell? ⟨b, off + k * 3 + 1, none⟩ = some (.int .i64 v) := e1
          have e2 : wr.cell? ⟨b, off + k * 3 + 2, none⟩ = some (.int .i64 t) := e2
          obtain ⟨_, _, bq, oq, hA, hcq⟩ := Q5.out.below BR.out
          obtain rfl : A2 = some ⟨bq, oq, none⟩ := by rcases hA with h | h; omega; exact h
          have HQd := hid (show qAt Q (u, v, t) = Q.getD 0 0 * u * u + Q.getD 1 0 * u * v + Q.getD 2 0 * u * t + Q.getD 3 0 * v * v + Q.getD 4 0 * v * t + Q.getD 5 0 * t * t from rfl)
          have HOc := hid (show onC p Q (u, v, t) = (qAt Q (u, v, t) % p == 0) from rfl)
          have p0 := cell_below (below_alloc wr (.cells #[.int .i64 u, .int .i64 v, .int .i64 t] 33)) (hcq 0 (by omega))
          have p1 := cell_below (below_alloc wr (.cells #[.int .i64 u, .int .i64 v, .int .i64 t] 33)) (hcq 1 (by omega))
          have p2 := cell_below (below_alloc wr (.cells #[.int .i64 u, .int .i64 v, .int .i64 t] 33)) (hcq 2 (by omega))
          have p3 := cell_below (below_alloc wr (.cells #[.int .i64 u, .int .i64 v, .int .i64 t] 33)) (hcq 3 (by omega))
          have p4 := cell_below (below_alloc wr (.cells #[.int .i64 u, .int .i64 v, .int .i64 t] 33)) (hcq 4 (by omega))
          have p5 := cell_below (below_alloc wr (.cells #[.int .i64 u, .int .i64 v, .int .i64 t] 33)) (hcq 5 (by omega))
          have k0 : (wr.alloc (.cells #[.int .i64 u, .int .i64 v, .int .i64 t] 33)).cell? ⟨wr.heap.size, 0, none⟩ = some (.int .i64 u) := by rw [World.cell?_alloc_at _ _ _ _ rfl]; rfl
          have k1 : (wr.alloc (.cells #[.int .i64 u, .int .i64 v, .int .i64 t] 33)).cell? ⟨wr.heap.size, 1, none⟩ = some (.int .i64 v) := by rw [World.cell?_alloc_at _ _ _ _ rfl]; rfl
          have k2 : (wr.alloc (.cells #[.int .i64 u, .int .i64 v, .int .i64 t] 33)).cell? ⟨wr.heap.size, 2, none⟩ = some (.int .i64 t) := by rw [World.cell?_alloc_at _ _ _ _ rfl]; rfl
          have g0 : 0 ≤ Q.getD 0 0 ∧ Q.getD 0 0 ≤ 31 := by have := HRg.out.get (show 0 < 6 by omega); have := isPrimeB_bd HP.out; omega
          have g1 : 0 ≤ Q.getD 1 0 ∧ Q.getD 1 0 ≤ 31 := by have := HRg.out.get (show 1 < 6 by omega); have := isPrimeB_bd HP.out; omega
          have g2 : 0 ≤ Q.getD 2 0 ∧ Q.getD 2 0 ≤ 31 := by have := HRg.out.get (show 2 < 6 by omega); have := isPrimeB_bd HP.out; omega
          have g3 : 0 ≤ Q.getD 3 0 ∧ Q.getD 3 0 ≤ 31 := by have := HRg.out.get (show 3 < 6 by omega); have := isPrimeB_bd HP.out; omega
          have g4 : 0 ≤ Q.getD 4 0 ∧ Q.getD 4 0 ≤ 31 := by have := HRg.out.get (show 4 < 6 by omega); have := isPrimeB_bd HP.out; omega
          have g5 : 0 ≤ Q.getD 5 0 ∧ Q.getD 5 0 ≤ 31 := by have := HRg.out.get (show 5 < 6 by omega); have := isPrimeB_bd HP.out; omega
          generalize Q.getD 0 0 = r0 at *
          generalize Q.getD 1 0 = r1 at *
          generalize Q.getD 2 0 = r2 at *
          generalize Q.getD 3 0 = r3 at *
          generalize Q.getD 4 0 = r4 at *
          generalize Q.getD 5 0 = r5 at *
          have m0 := mul_bd g0.1 HPf.out.1.1 g0.2 HPf.out.1.2
          have n0 := mul_bd m0.1 HPf.out.1.1 m0.2 HPf.out.1.2
          have wm0 := IntWalk.i64_in (r0 * u) (by omega)
          have wn0 := IntWalk.i64_in (r0 * u * u) (by omega)
          have m1 := mul_bd g1.1 HPf.out.1.1 g1.2 HPf.out.1.2
          have n1 := mul_bd m1.1 HPf.out.2.1.1 m1.2 HPf.out.2.1.2
          have wm1 := IntWalk.i64_in (r1 * u) (by omega)
          have wn1 := IntWalk.i64_in (r1 * u * v) (by omega)
          have m2 := mul_bd g2.1 HPf.out.1.1 g2.2 HPf.out.1.2
          have n2 := mul_bd m2.1 HPf.out.2.2.1 m2.2 HPf.out.2.2.2
          have wm2 := IntWalk.i64_in (r2 * u) (by omega)
          have wn2 := IntWalk.i64_in (r2 * u * t) (by omega)
          have m3 := mul_bd g3.1 HPf.out.2.1.1 g3.2 HPf.out.2.1.2
          have n3 := mul_bd m3.1 HPf.out.2.1.1 m3.2 HPf.out.2.1.2
          have wm3 := IntWalk.i64_in (r3 * v) (by omega)
          have wn3 := IntWalk.i64_in (r3 * v * v) (by omega)
          have m4 := mul_bd g4.1 HPf.out.2.1.1 g4.2 HPf.out.2.1.2
          have n4 := mul_bd m4.1 HPf.out.2.2.1 m4.2 HPf.out.2.2.2
          have wm4 := IntWalk.i64_in (r4 * v) (by omega)
          have wn4 := IntWalk.i64_in (r4 * v * t) (by omega)
          have m5 := mul_bd g5.1 HPf.out.2.2.1 g5.2 HPf.out.2.2.2
          have n5 := mul_bd m5.1 HPf.out.2.2.1 m5.2 HPf.out.2.2.2
          have wm5 := IntWalk.i64_in (r5 * t) (by omega)
          have wn5 := IntWalk.i64_in (r5 * t * t) (by omega)
          have ws1 := IntWalk.i64_in (r0 * u * u + r1 * u * v) (by omega)
          have ws2 := IntWalk.i64_in (r0 * u * u + r1 * u * v + r2 * u * t) (by omega)
          have ws3 := IntWalk.i64_in (r0 * u * u + r1 * u * v + r2 * u * t + r3 * v * v) (by omega)
          have ws4 := IntWalk.i64_in (r0 * u * u + r1 * u * v + r2 * u * t + r3 * v * v + r4 * v * t) (by omega)
          have ws5 := IntWalk.i64_in (r0 * u * u + r1 * u * v + r2 * u * t + r3 * v * v + r4 * v * t + r5 * t * t) (by omega)
          have Wn := hid (Int.tmod_eq_emod_of_nonneg (b := p) (show 0 ≤ r0 * u * u + r1 * u * v + r2 * u * t + r3 * v * v + r4 * v * t + r5 * t * t by omega))
          clear m0 n0 g0 m1 n1 g1 m2 n2 g2 m3 n3 g3 m4 n4 g4 m5 n5 g5
          have B10 := hid (below_alloc wr (.cells #[.int .i64 u, .int .i64 v, .int .i64 t] 33))
          generalize (all.take k).countP (onC p Q) = cnt at *
          generalize hasTo (onC p Q) ps all k = hs at *
          go_wp2
          generalize wr.alloc (.cells #[.int .i64 u, .int .i64 v, .int .i64 t] 33) = W10 at *
          have p0 : W10.cell? ⟨bq, oq, none⟩ = some (.int .i64 r0) := by simpa using p0
          go_quiet (fail)
          clear p0 p1 p2 p3 p4 p5 k0 k1 k2 wm0 wn0 wm1 wn1 wm2 wn2 wm3 wn3 wm4 wn4 wm5 wn5 ws1 ws2 ws3 ws4 ws5
          have hqS := HQd.out.symm
          have hWn := Wn.out
          rw [hqS] at hWn
          rw [hqS]
          generalize qAt Q (u, v, t) = S at *
          have BW := hid (below_trans BR.out (show Below wr.heap.size wr (W10.drewN nq) from below_drewN B10.out _))
          have hp0 : p ≠ 0 := by have := isPrimeB_bd HP.out; omega
          clear hqS HQd Wn e0 e1 e2 hcq hA
          generalize W10.drewN nq = W at *
          cases ho : onC p Q (u, v, t)
          · have hcz : (S.tmod p != 0) = true := by rw [hWn]; rw [HOc.out] at ho; simpa using ho
            have HN := hid ho
            clear ho hWn
            go_wp2
            go_roundw
            case rel => exact ⟨k + 1, by omega, by go_num, by rw [HT.out, HN.out]; simp, by rw [HH.out, HN.out]; simp, BW.out⟩
            case measure => simp [intOf]; omega
          · have hcz : (S.tmod p != 0) = false := by rw [hWn]; rw [HOc.out] at ho; simpa using ho
            have HN := hid ho
            clear ho hWn
            go_wp2
            go_loopw [12, 16] (fun h i wx => ∃ j : Nat, j ≤ 5 ∧ i = .int .i64 j ∧ h = .int .i64 ((hs + (ps.take j).countP (fun q => ((q.1 == u && q.2.1 == v) && q.2.2 == t)) : Nat) : Int) ∧ Below w5.heap.size w5 wx) (fun _ i _ => 5 - (intOf i).toNat)
            case atStart => exact ⟨0, by omega, rfl, by simp, BW.out⟩
            case round =>
              obtain ⟨j, hj, rfl, rfl, hbx⟩ := hrel
              have BX := hid hbx
              clear hbx
              have hjle : (ps.take j).countP (fun q => ((q.1 == u && q.2.1 == v) && q.2.2 == t)) ≤ 5 := by
                have h1 := List.countP_le_length (p := fun q : P3 => ((q.1 == u && q.2.1 == v) && q.2.2 == t)) (l := ps.take j)
                have h2 : (ps.take j).length ≤ j := by rw [List.length_take]; omega
                omega
              by_cases hj5 : j < 5
              · obtain ⟨a0, a1, a2⟩ := (R5.out.below BX.out).at3 hj5
                obtain ⟨d0, d1, d2⟩ := HE.out _ BX.out
                have HT2 := hid (takeP (fun q => ((q.1 == u && q.2.1 == v) && q.2.2 == t)) ps j (by omega))
                generalize (ps.take j).countP (fun q => ((q.1 == u && q.2.1 == v) && q.2.2 == t)) = cj at *
                generalize ps.getD j default = P' at *
                obtain ⟨x', y', z'⟩ := P'
                have a0 : wr.cell? ⟨bf, of + j * 3, none⟩ = some (.int .i64 x') := a0
                have a1 : wr.cell? ⟨bf, of + j * 3 + 1, none⟩ = some (.int .i64 y') := a1
                have a2 : wr.cell? ⟨bf, of + j * 3 + 2, none⟩ = some (.int .i64 z') := a2
                have d0 : wr.cell? ⟨b, off + k * 3, none⟩ = some (.int .i64 u) := d0
                have d1 : wr.cell? ⟨b, off + k * 3 + 1, none⟩ = some (.int .i64 v) := d1
                have d2 : wr.cell? ⟨b, off + k * 3 + 2, none⟩ = some (.int .i64 t) := d2
                have heq := run_eqlPt x' y' z' u v t
                have hgd := guardPt
                cases hq : ((x' == u && y' == v) && z' == t)
                · have HQ := hid hq
                  rw [hq] at heq
                  clear hq
                  go_wp2
                  go_quiet (fail)
                  have BX2 := hid (fun m => (show Below w5.heap.size w5 (wr.drewN m) from below_drewN BX.out m))
                  go_wp2
                  go_roundw
                  case rel => exact ⟨j + 1, by omega, by go_num, by rw [HT2.out]; simp only [HQ.out]; simp, BX2.out _⟩
                  case measure => simp [intOf]; omega
                · have HQ := hid hq
                  rw [hq] at heq
                  clear hq
                  go_wp2
                  go_quiet (fail)
                  have BX2 := hid (fun m => (show Below w5.heap.size w5 (wr.drewN m) from below_drewN BX.out m))
                  go_wp2
                  go_roundw
                  case rel => exact ⟨j + 1, by omega, by go_num, by rw [HT2.out]; simp only [HQ.out]; go_num, BX2.out _⟩
                  case measure => simp [intOf]; omega
              · obtain rfl : j = 5 := by omega
                have HHt := hid (show hits ps (u, v, t) = (ps.take 5).countP (fun q => ((q.1 == u && q.2.1 == v) && q.2.2 == t)) by rw [List.take_of_length_le (by omega)]; rfl)
                generalize (ps.take 5).countP (fun q => ((q.1 == u && q.2.1 == v) && q.2.2 == t)) = cj at *
                go_wp2
                go_roundw
                case rel => exact ⟨k + 1, by omega, by go_num, by rw [HT.out, HN.out]; go_num, by rw [HH.out, HN.out, ← HHt.out]; rfl, BX.out⟩
                case measure => simp [intOf]; omega
        · obtain rfl : k = M := by omega
          have hc1 : (all.take k).countP (onC p Q) = p.toNat + 1 := by rw [List.take_of_length_le (by have := HM.out; omega)]; exact HCnt.out
          have hc2 : hasTo (onC p Q) ps all k = 5 := by
            have := has_five HNd.out HAll.out HOn.out
            rw [HM.out, hl] at this
            exact this
          rw [hc1, hc2] at *
          have hb31 := isPrimeB_bd HP.out
          have hfin : (((p.toNat + 1 : Nat) : Int) == p + 1) = true := by simp only [beq_iff_eq]; omega
          have HBR := hid (below_trans B5.out BR.out)
          clear hc1 hc2
          generalize ((p.toNat + 1 : Nat) : Int) = cc at *
          go_wp2
          go_ret
          exact ⟨rfl, HBR.out⟩
  · clear hr
    go_enter Try.func9, Try.ntmps9
    go_wp2
    go_ret
    exact ⟨rfl, Below.refl _ _⟩

end Go.Proofs.Ytkhkcgoblibnpaa
