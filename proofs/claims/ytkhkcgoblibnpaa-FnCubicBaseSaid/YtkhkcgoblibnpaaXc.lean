/-
  The law FnCubicBase.
-/
import Derived.Test.YtkhkcgoblibnpaaSy
import Derived.Test.YtkhkcgoblibnpaaXb
import Derived.Test.YtkhkcgoblibnpaaCn
import Derived.Test.YtkhkcgoblibnpaaCv
namespace Go.Proofs.Ytkhkcgoblibnpaa
open Go.RowKit
set_option linter.unusedVariables false
set_option linter.unusedSimpArgs false

theorem cb_yes {p : Int} {ps : List P3} (hg : generalB p ps = true) : (cbP p ps).length = 4 ∧ ∀ k j, k < (cbP p ps).length → j < ps.length → cvB p ((cbP p ps).getD k []) (ps.getD j default).1 (ps.getD j default).2.1 (ps.getD j default).2.2 = true ∧ cvV p ((cbP p ps).getD k []) (ps.getD j default).1 (ps.getD j default).2.1 (ps.getD j default).2.2 = 0 := by
  obtain ⟨g1, g2, g3⟩ := general_parts hg
  have hp := apart_prime g2 (by omega)
  have e : cbP p ps = basP p ps := by rw [cbP, hg]; rfl
  rw [e]
  refine ⟨bas_four g1 g2, fun k j hk hj => ?_⟩
  have hs := getD_mem (d := []) hk
  have ha := getD_mem (d := default) hj
  generalize (basP p ps).getD k [] = s at *
  generalize ps.getD j default = a at *
  have hr := (solP_rows (wd := 10) hp (ps.map cuI)).2 s hs
  have hb : cvB p s a.1 a.2.1 a.2.2 = true := by
    rw [cvB, Bool.and_eq_true]
    refine ⟨?_, apart_pt g2 a ha⟩
    rw [specNumbersB, Bool.and_eq_true, Bool.and_eq_true, List.all_eq_true]
    refine ⟨fun x hx => ?_, hp, by simp [hr.1]⟩
    have := hr.2 x hx
    simp only [inP, inB, Bool.and_eq_true, decide_eq_true_eq]
    omega
  refine ⟨hb, ?_⟩
  rw [cvV, hb]
  exact bas_null hp ha hs

set_option maxRecDepth 100000 in
set_option maxHeartbeats 4000000 in
theorem FnCubicBase_ok (A : Option Addr) (n c : Nat) (xs : List Int) (w : World) (hr : n ≤ 1048576 → RB w A n c xs) :
    Calls Try.prog 3 #[.slice A n c] w fun e w' => e = .returned (.bool true) ∧ Below w.heap.size w w' := by
  by_cases hb : n ≤ 1048576
  · have HR := hid (hr hb)
    clear hr
    go_enter Try.func3, Try.ntmps3
    go_wp2_with fail
    refine (DrawCubicBase_ok A n c xs w HR.out).mono ?_
    rintro e w1 ⟨p, A1, c1, ps, rfl, hp, r1, hc1, b1⟩
    have R1 := hid r1
    have B1 := hid b1
    have hl := r1.1
    have HF := hid (cb_facts p ps)
    have HY := hid (@cb_yes p ps)
    have HRR := hid (fun (W : World) (b1 b2 : Nat) (v : Value) (rs : List Rw) (h1 : RwO W b1 v rs) (h2 : RwIn W b2 rs) (h3 : rs.map (·.xs) = cbP p ps) =>
      (show ∃ A' c', v = .slice A' (cbP p ps).length c' ∧ RRI W A' (cbP p ps).length (cbP p ps) by
        have hrl : rs.length = (cbP p ps).length := by rw [← h3, List.length_map]
        obtain ⟨A', c', e, h⟩ := RRI_of h1 h2 (by have := HF.out.1; omega) (fun r hr => by
          have := HF.out.2 r.xs (by rw [← h3]; exact List.mem_map.2 ⟨r, hr, rfl⟩)
          omega)
        rw [h3, hrl] at h
        exact ⟨A', c', by rw [e, hrl], h⟩))
    have HRS := hid (fun (W : World) (b1 b2 : Nat) (v : Value) (rs : List Rw) (h1 : RwO W b1 v rs) (h2 : RwS W b2 rs) (h3 : rs.map (·.xs) = cbP p ps) =>
      (show ∃ A' c', v = .slice A' (cbP p ps).length c' ∧ RRI W A' (cbP p ps).length (cbP p ps) by
        have hrl : rs.length = (cbP p ps).length := by rw [← h3, List.length_map]
        obtain ⟨A', c', e, h⟩ := RRI_ofS h1 h2 (by have := HF.out.1; omega) (fun r hr => by
          have := HF.out.2 r.xs (by rw [← h3]; exact List.mem_map.2 ⟨r, hr, rfl⟩)
          omega)
        rw [h3, hrl] at h
        exact ⟨A', c', by rw [e, hrl], h⟩))
    have HI := hid (implCubicBase_ok p A1 6 c1 ps w1 r1 hc1)
    have HS := hid (fun W h => specCubicBase_ok p A1 6 c1 ps W h)
    clear r1 b1 hp
    cases hg : generalB p ps
    · rw [hg] at HI HS
      clear hg HY
      generalize cbP p ps = Y at *
      go_wp2_with fail
      refine HI.out.mono ?_
      rintro e w2 ⟨v2, rs2, rfl, o2, s2, m2, b2⟩
      obtain ⟨A2, c2, rfl, rr2⟩ := HRR.out _ _ _ _ _ o2 s2 m2
      have RR2 := hid rr2
      have B2 := hid (below_trans B1.out b2)
      have R2 := hid (R1.out.below b2)
      clear o2 s2 m2 b2 rr2
      go_wp2_with fail
      refine (HS.out _ R2.out).mono ?_
      rintro e w3 ⟨v3, rs3, rfl, o3, s3, m3, b3⟩
      obtain ⟨A3, c3, rfl, rr3⟩ := HRS.out _ _ _ _ _ o3 s3 m3
      have RR3 := hid rr3
      have B3 := hid (below_trans B2.out b3)
      have RR23 := hid (RR2.out.below b3)
      clear o3 s3 m3 b3 rr3
      go_wp2_with fail
      refine (sameRows_ok A2 A3 _ c2 c3 Y _ RR23.out RR3.out).mono ?_
      rintro e w4 ⟨rfl, b4⟩
      have B4 := hid (below_trans B3.out b4)
      have RR24 := hid (RR23.out.below b4)
      have RR34 := hid (RR3.out.below b4)
      clear b4
      go_wp2_with fail
      refine (sameRows_ok A2 A3 _ c2 c3 Y _ RR24.out RR34.out).mono ?_
      rintro e w5 ⟨rfl, b5⟩
      have B5 := hid (below_trans B4.out b5)
      clear b5
      go_wp2
      go_ret
      exact ⟨rfl, B5.out⟩
    · have HYY := hid (HY.out hg)
      rw [hg] at HI HS
      clear hg HY
      generalize cbP p ps = Y at *
      go_wp2_with fail
      refine HI.out.mono ?_
      rintro e w2 ⟨v2, rs2, rfl, o2, s2, m2, b2⟩
      obtain ⟨A2, c2, rfl, rr2⟩ := HRR.out _ _ _ _ _ o2 s2 m2
      have RR2 := hid rr2
      have B2 := hid (below_trans B1.out b2)
      have R2 := hid (R1.out.below b2)
      clear o2 s2 m2 b2 rr2
      go_wp2_with fail
      refine (HS.out _ R2.out).mono ?_
      rintro e w3 ⟨v3, rs3, rfl, o3, s3, m3, b3⟩
      obtain ⟨A3, c3, rfl, rr3⟩ := HRS.out _ _ _ _ _ o3 s3 m3
      have RR3 := hid rr3
      have B3 := hid (below_trans B2.out b3)
      have R3 := hid (R2.out.below b3)
      have RR23 := hid (RR2.out.below b3)
      clear o3 s3 m3 b3 rr3
      go_wp2_with fail
      refine (sameRows_ok A2 A3 _ c2 c3 Y _ RR23.out RR3.out).mono ?_
      rintro e w4 ⟨rfl, b4⟩
      have B4 := hid (below_trans B3.out b4)
      have RR4 := hid (RR23.out.below b4)
      have R4 := hid (R3.out.below b4)
      have HLY := hid HYY.out.1
      clear b4
      obtain ⟨m, hm⟩ : ∃ m, Y.length = m := ⟨_, rfl⟩
      rw [hm] at RR4 HLY ⊢
      have HM := hid hm
      clear hm
      have hm4 := HLY.out
      clear hm4
      go_wp2
      go_loopg [9] m (fun g t wr => ∃ k : Nat, k ≤ m ∧ g = m - k ∧ t = .int .i64 k ∧ Below w4.heap.size w4 wr)
      case atStart => exact ⟨0, by omega, by omega, rfl, Below.refl _ _⟩
      case round =>
        obtain ⟨k, hk, hg, rfl, hb⟩ := hrel
        have HG := hid hg
        have HB1 := hid hb
        have hm100 : m ≤ 100 := by have := HLY.out; omega
        clear hg hb
        by_cases hlt : k < m
        · obtain ⟨_, _, ba, oa, hA, hca⟩ := RR4.out
          obtain rfl : A2 = some ⟨ba, oa, none⟩ := by rcases hA with h | h; omega; exact h
          obtain ⟨Ar, cr, ce, re⟩ := hca k hlt
          have CE := hid ce
          have RE := hid re
          have hdk : decide (k < m) = true := by simp [hlt]
          clear hca hA ce re
          go_wp2
          go_loopg [10] 6 (fun g t wr => ∃ j : Nat, j ≤ 6 ∧ g = 6 - j ∧ t = .int .i64 j ∧ Below w4.heap.size w4 wr)
          case atStart => exact ⟨0, by omega, by omega, rfl, HB1.out⟩
          case round =>
            obtain ⟨j, hj, hg2, rfl, hb2⟩ := hrel
            have HG2 := hid hg2
            have HB2 := hid hb2
            clear hg2 hb2
            by_cases hlt2 : j < 6
            · obtain ⟨b, off, rfl⟩ := R4.out.addr (by omega)
              obtain ⟨y1, y2⟩ := HYY.out.2 k j (by rw [HM.out]; exact hlt) (by omega)
              have hc := (R4.out.below HB2.out).at3 hlt2
              have HV := hid (fun (W : World) (h : RI W Ar (Y.getD k []).length (Y.getD k [])) => implCubicValue_ok p Ar (Y.getD k []).length cr (Y.getD k []) (ps.getD j default).1 (ps.getD j default).2.1 (ps.getD j default).2.2 W h)
              rw [y1, y2] at HV
              have f0 := ext_cell (cell_below HB2.out CE.out)
              have HRE := hid (RE.out.below HB2.out)
              clear y1 y2
              generalize Y.getD k [] = s at *
              generalize s.length = q at *
              obtain ⟨q0, hq⟩ : ∃ q0, ps.getD j default = q0 := ⟨_, rfl⟩
              rw [hq] at hc HV
              obtain ⟨x, y, z⟩ := q0
              clear hq
              obtain ⟨a0, a1, a2⟩ := hc
              have f1 := ext_cell (show _ = some (Value.int .i64 x) from a0)
              have f2 := ext_cell (show _ = some (Value.int .i64 y) from a1)
              have f3 := ext_cell (show _ = some (Value.int .i64 z) from a2)
              clear a0 a1 a2
              go_wp2
              refine wp_region_ext (by kernel_rfl) (by kernel_rfl) ?_
              repeat (go_big_quiet_step ((go_at_call 14; exact ext_call (HV.out _ (HRE.out.below (Ext.below _))))))
              refine wpQuiet_nil ?_
              rintro w5 ⟨⟨w6, b6⟩, hw⟩
              have hw' : w5 = w6 := hw
              clear hw
              subst hw'
              have B6 := hid (below_trans HB2.out b6)
              clear b6 f0 f1 f2 f3
              go_wp2
              go_roundg (6 - (j + 1))
              case measure => have := HG2.out; omega
              case rel => exact ⟨j + 1, by omega, rfl, by go_num, B6.out⟩
            · go_wp2
              go_roundg (m - (k + 1))
              case measure => have := HG.out; omega
              case rel => exact ⟨k + 1, by omega, rfl, by go_num, HB2.out⟩
        · obtain rfl : k = m := by omega
          have h4 : k = 4 := HLY.out
          subst h4
          go_wp2
          go_ret
          exact ⟨rfl, below_trans B4.out HB1.out⟩
  · clear hr
    go_enter Try.func3, Try.ntmps3
    go_wp2
    go_ret
    exact ⟨rfl, Below.refl _ _⟩

end Go.Proofs.Ytkhkcgoblibnpaa
