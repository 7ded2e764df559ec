/-
  Points on a drawn line are one more than the prime.
-/
import Derived.Test.YtfjfepcklggdcaaCount
import Derived.Test.YtfjfepcklggdcaaDp
namespace Go.Proofs.Ytfjfepcklggdcaa
open Go.RowKit
set_option linter.unusedVariables false
set_option linter.unusedSimpArgs false

theorem onB_sym {p x y z l m n : Int} (h : onB p x y z l m n = true) : onB p l m n x y z = true := by
  simp only [onB, Bool.and_eq_true] at h ⊢
  refine ⟨⟨h.1.2, h.1.1⟩, ?_⟩
  have e : dotTo [l, m, n] [x, y, z] 3 = dotTo [x, y, z] [l, m, n] 3 := by
    show 0 + l * x + m * y + n * z = 0 + x * l + y * m + z * n
    rw [Int.mul_comm l x, Int.mul_comm m y, Int.mul_comm n z]
  rw [e]
  exact h.2
theorem onB_pt {p x y z l m n : Int} (h1 : specPointB p x y z = true) (h2 : specPointB p l m n = true) : onB p x y z l m n = onQ p l m n (x, y, z) := by
  rw [onB, h1, h2]
  show (true && ((0 + x * l + y * m + z * n) % p == 0)) = _
  rw [Bool.true_and, Int.zero_add]
  rfl
theorem onB_parts {p x y z l m n : Int} (h : onB p x y z l m n = true) : specPointB p x y z = true ∧ specPointB p l m n = true ∧ isPrimeB p = true := by
  simp only [onB, Bool.and_eq_true] at h
  refine ⟨h.1.1, h.1.2, ?_⟩
  have := h.1.1
  rw [specPointB, Bool.and_eq_true] at this
  exact this.1
theorem take_count (f : P3 → Bool) (ps : List P3) (k : Nat) (h : k < ps.length) : (ps.take (k + 1)).countP f = (ps.take k).countP f + if f (ps.getD k default) then 1 else 0 := by
  rw [List.take_succ_eq_append_getElem h, List.countP_append]
  simp [List.getD_eq_getElem?_getD, List.getElem?_eq_getElem h, List.countP_cons]

set_option maxRecDepth 100000 in
set_option maxHeartbeats 4000000 in
theorem FnPointOn_ok (A : Option Addr) (n c : Nat) (xs : List Int) (w : World) (hr : n ≤ 1048576 → RB w A n c xs) :
    Calls Try.prog 14 #[.slice A n c] w fun e w' => e = .returned (.bool true) ∧ Below w.heap.size w w' := by
  by_cases hb : n ≤ 1048576
  · have HR := hid (hr hb)
    clear hr
    go_enter Try.func14, Try.ntmps14
    go_wp2_with fail
    refine (DrawPointOn_ok A n c xs w HR.out).mono ?_
    rintro e w1 ⟨p, ⟨a0, a1, a2⟩, ⟨l0, l1, l2⟩, rfl, hb1⟩
    have HA := hid (show ptVal (a0, a1, a2) = .agg #[.int .i64 a0, .int .i64 a1, .int .i64 a2] from rfl)
    have HL := hid (show ptVal (l0, l1, l2) = .agg #[.int .i64 l0, .int .i64 l1, .int .i64 l2] from rfl)
    rw [HA.out, HL.out]
    have B1 := hid (below_trans hb1 (below_trans (below_alloc w1 (.cells #[.int .i64 a0, .int .i64 a1, .int .i64 a2] 34)) (below_alloc _ (.cells #[.int .i64 l0, .int .i64 l1, .int .i64 l2] 34))))
    have IA := hid ((IBox.new w1 a0 a1 a2).below (below_alloc _ (.cells #[.int .i64 l0, .int .i64 l1, .int .i64 l2] 34)))
    have IL := hid (show IBox ((w1.alloc (.cells #[.int .i64 a0, .int .i64 a1, .int .i64 a2] 34)).alloc (.cells #[.int .i64 l0, .int .i64 l1, .int .i64 l2] 34)) (w1.heap.size + 1) l0 l1 l2 by have h := IBox.new (w1.alloc (.cells #[.int .i64 a0, .int .i64 a1, .int .i64 a2] 34)) l0 l1 l2; rwa [show (w1.alloc (.cells #[.int .i64 a0, .int .i64 a1, .int .i64 a2] 34)).heap.size = w1.heap.size + 1 by simp] at h)
    clear hb1
    go_wp2_with fail
    refine (implPointOn_ok p a0 a1 a2 l0 l1 l2 _).mono ?_
    rintro e w2 ⟨rfl, hb2⟩
    have B2 := hid (below_trans B1.out hb2)
    have IA2 := hid (IA.out.below hb2)
    have IL2 := hid (IL.out.below hb2)
    obtain ⟨x0, x1, x2, _⟩ := IA2.out.cells
    obtain ⟨y0, y1, y2, _⟩ := IL2.out.cells
    clear hb2
    go_wp2_with fail
    refine (specPointOn_ok p a0 a1 a2 l0 l1 l2 _).mono ?_
    rintro e w3 ⟨rfl, hb3⟩
    have B3 := hid (below_trans B2.out hb3)
    have IA3 := hid (IA2.out.below hb3)
    have IL3 := hid (IL2.out.below hb3)
    clear hb3 x0 x1 x2 y0 y1 y2
    have hne : (onB p a0 a1 a2 l0 l1 l2 != onB p a0 a1 a2 l0 l1 l2) = false := by simp
    cases hD : onB p a0 a1 a2 l0 l1 l2
    · clear hD hne
      go_wp2
      go_ret
      exact ⟨rfl, B3.out⟩
    · have HD := hid hD
      clear hD hne
      obtain ⟨s1, s2, s3⟩ := onB_parts HD.out
      have hbd := isPrimeB_bd s3
      have S2 := hid s2
      have HPr := hid s3
      have hlen := ptsB_length p
      have hpts : ptsB p = allPts p.toNat := by rw [ptsB, s3]; rfl
      have HO := hid (allPts_ok s3)
      have HCnt := hid (count_line s2)
      rw [hpts] at hlen
      clear s1 s2 s3
      go_wp2_with fail
      refine (implPointAll_ok p _).mono ?_
      rintro e w4 ⟨v4, rfl, o4, b4⟩
      rw [hpts] at o4
      obtain ⟨A4, c4, rfl, r4⟩ := o4.rp (by omega)
      have B4 := hid (below_trans B3.out b4)
      have IA4 := hid (IA3.out.below b4)
      have IL4 := hid (IL3.out.below b4)
      obtain ⟨hl, hn, b, off, hA, hc⟩ := r4
      have HC := hid hc
      clear o4 b4 hc hpts
      rw [HPr.out]
      generalize hps : allPts p.toNat = ps at *
      generalize hm : ps.length = M at *
      have HM := hid hm
      clear hps hm
      go_wp2
      go_loopw [10, 11] (fun s t wr => ∃ k : Nat, k ≤ M ∧ t = .int .i64 k ∧ s = .int .i64 (((ps.take k).countP (onQ p l0 l1 l2) : Nat) : Int) ∧ Below w.heap.size w wr ∧ Below w4.heap.size w4 wr) (fun _ t _ => M - (intOf t).toNat)
      case atStart => exact ⟨0, by omega, rfl, rfl, B4.out, Below.refl _ _⟩
      case round =>
        obtain ⟨k, hk, rfl, rfl, hb1, hb4⟩ := hrel
        have E1 := hid hb1
        have E4 := hid hb4
        clear hb1 hb4
        have hcle : (ps.take k).countP (onQ p l0 l1 l2) ≤ k := by
          have h1 := List.countP_le_length (p := onQ p l0 l1 l2) (l := ps.take k)
          have h2 : (ps.take k).length ≤ k := by rw [List.length_take]; omega
          omega
        by_cases hlt : k < M
        · obtain rfl : A4 = some ⟨b, off, none⟩ := by rcases hA with h | h; omega; exact h
          obtain ⟨d0, d1, d2⟩ := HC.out k hlt
          have c0 := cell_below E4.out d0
          have c1 := cell_below E4.out d1
          have c2 := cell_below E4.out d2
          have HOk := hid (HO.out (ps.getD k default) (by rw [show ps.getD k default = ps[k]'(by have := HM.out; omega) by simp [List.getD_eq_getElem?_getD, List.getElem?_eq_getElem (show k < ps.length by have := HM.out; omega)]]; exact List.getElem_mem _))
          have HT := hid (take_count (onQ p l0 l1 l2) ps k (by have := HM.out; omega))
          have IW := hid (IL4.out.below E4.out)
          clear d0 d1 d2 hA
          generalize ps.getD k default = P at *
          obtain ⟨x, y, z⟩ := P
          simp only at c0 c1 c2
          have q0 := ext_cell c0
          have q1 := ext_cell c1
          have q2 := ext_cell c2
          have r0 := ext_cell IW.out.cells.1
          have r1 := ext_cell IW.out.cells.2.1
          have r2 := ext_cell IW.out.cells.2.2.1
          have HIn := hid (fun W => implPointOn_ok p x y z l0 l1 l2 W)
          have hpt : specPointB p x y z = true := by rw [← points_alike]; exact HOk.out
          rw [onB_pt hpt S2.out] at HIn
          clear c0 c1 c2 hpt
          generalize (ps.take k).countP (onQ p l0 l1 l2) = cnt at *
          cases hq : onQ p l0 l1 l2 (x, y, z)
          · have HQ := hid hq
            rw [hq] at HIn
            clear hq
            go_wp2
            refine wp_region_ext (by kernel_rfl) (by kernel_rfl) ?_
            repeat (go_big_quiet_step ((go_at_call 35; exact ext_call (HIn.out _))))
            refine wpQuiet_nil ?_
            rintro w5 ⟨d5, hd5⟩
            have b5 := d5.below
            rw [← hd5] at b5
            have B5 := hid b5
            clear b5 hd5
            go_wp2
            go_roundw
            case rel => exact ⟨k + 1, by omega, by go_num, by rw [HT.out, HQ.out]; simp, below_trans' E1.out B5.out, below_trans' E4.out B5.out⟩
            case measure => simp [intOf]; omega
          · have HQ := hid hq
            rw [hq] at HIn
            clear hq
            go_wp2
            refine wp_region_ext (by kernel_rfl) (by kernel_rfl) ?_
            repeat (go_big_quiet_step ((go_at_call 35; exact ext_call (HIn.out _))))
            refine wpQuiet_nil ?_
            rintro w5 ⟨d5, hd5⟩
            have b5 := d5.below
            rw [← hd5] at b5
            have B5 := hid b5
            clear b5 hd5
            go_wp2
            go_roundw
            case rel => exact ⟨k + 1, by omega, by go_num, by rw [HT.out, HQ.out]; simp, below_trans' E1.out B5.out, below_trans' E4.out B5.out⟩
            case measure => simp [intOf]; omega
        · obtain rfl : k = M := by omega
          have hcn : (ps.take k).countP (onQ p l0 l1 l2) = p.toNat + 1 := by
            rw [List.take_of_length_le (by have := HM.out; omega)]
            exact HCnt.out
          have IAW := hid (IA4.out.below E4.out)
          have ILW := hid (IL4.out.below E4.out)
          obtain ⟨x0, x1, x2, _⟩ := IAW.out.cells
          obtain ⟨y0, y1, y2, _⟩ := ILW.out.cells
          generalize (ps.take k).countP (onQ p l0 l1 l2) = cnt at *
          have hfin : ((cnt : Int) == p + 1) = true := by simp only [beq_iff_eq]; omega
          clear hcn
          go_wp2_with fail
          refine (implPointOn_ok p l0 l1 l2 a0 a1 a2 _).mono ?_
          rintro e w6 ⟨rfl, hb6⟩
          have B6 := hid (below_trans E1.out hb6)
          clear hb6
          rw [onB_sym HD.out]
          go_wp2
          go_ret
          exact ⟨rfl, B6.out⟩
  · clear hr
    go_enter Try.func14, Try.ntmps14
    go_wp2
    go_ret
    exact ⟨rfl, Below.refl _ _⟩

end Go.Proofs.Ytfjfepcklggdcaa
