/-
  Contracts: the image of a point under the cubics through six points, of both sides.
-/
import Derived.Test.YtkhkcgoblibnpaaIs
import Derived.Test.YtkhkcgoblibnpaaCt
namespace Go.Proofs.Ytkhkcgoblibnpaa
open Go.RowKit
set_option linter.unusedVariables false
set_option linter.unusedSimpArgs false

def ciB (p : Int) (ps : List P3) (a : P3) : Bool := (generalB p ps && specPointB p a.1 a.2.1 a.2.2) && !zeroB (imR p (basP p ps) a)
def ciP (p : Int) (ps : List P3) (a : P3) : List Int := if ciB p ps a then rowS p (imR p (basP p ps) a) else []
theorem zeroB_all {xs : List Int} (h : ∀ x ∈ xs, x = 0) : zeroB xs = true := by
  rw [zeroB, List.all_eq_true]; intro x hx; simpa using h x hx
theorem image_mem {p : Int} {ps : List P3} {x y z : Int} (hp : isPrimeB p = true) (h : ps.any (samePt x y z) = true) : zeroB (imR p (basP p ps) (x, y, z)) = true := by
  obtain ⟨b, hb, he⟩ := List.any_eq_true.1 h
  obtain ⟨u, v, t⟩ := b
  simp only [samePt, Bool.and_eq_true, beq_iff_eq] at he
  obtain ⟨⟨rfl, rfl⟩, rfl⟩ := he
  refine zeroB_all fun q hq => ?_
  obtain ⟨s, hs, rfl⟩ := List.mem_map.1 hq
  exact bas_null hp hb hs
theorem bas_facts {p : Int} {ps : List P3} (h : generalB p ps = true) : (basP p ps).length = 4 ∧ ∀ r ∈ basP p ps, Rg p 10 r := by
  obtain ⟨g1, g2, g3⟩ := general_parts h
  exact ⟨bas_four g1 g2, (solP_rows (wd := 10) (apart_prime g2 (by omega)) (ps.map cuI)).2⟩
theorem ciP_len (p : Int) (ps : List P3) (a : P3) : (ciP p ps a).length ≤ 4 := by
  unfold ciP
  cases h : ciB p ps a
  · simp
  · rw [ciB, Bool.and_eq_true, Bool.and_eq_true] at h
    simp only [if_true]
    rw [rowS_length, imR_len, (bas_facts h.1.1).1]; omega
theorem ci_no {p : Int} {ps : List P3} {a : P3} (h : ciB p ps a = false) : ciP p ps a = [] := by rw [ciP, h]; rfl

set_option maxRecDepth 100000 in
set_option maxHeartbeats 4000000 in
theorem implCubicImage_ok (p : Int) (A : Option Addr) (n c : Nat) (ps : List P3) (x y z : Int) (w : World) (hr : RP w A n ps) (hnc : n ≤ c) :
    Calls Try.prog 24 #[.int .i64 p, .slice A n c, .agg #[.int .i64 x, .int .i64 y, .int .i64 z]] w fun e w' => ∃ v, e = .returned (.tuple #[v, .bool (ciB p ps (x, y, z))]) ∧ OI w' w.heap.size v (ciP p ps (x, y, z)) ∧ Below w.heap.size w w' := by
  have B0 := hid (below_alloc w (.cells #[.int .i64 x, .int .i64 y, .int .i64 z] 35))
  have HR := hid (hr.below B0.out)
  have hl := hr.1
  have HA := hid (areGeneral_ok p A n c ps _ HR.out hnc)
  have HB := hid (show ciB p ps (x, y, z) = ((generalB p ps && specPointB p x y z) && !zeroB (imR p (basP p ps) (x, y, z))) from rfl)
  have HC0 := hid (cells_last (Below.refl (w.alloc (.cells #[.int .i64 x, .int .i64 y, .int .i64 z] 35)).heap.size _) w.heap.size rfl)
  clear hr
  cases hg : generalB p ps
  · have HF := hid (show ciB p ps (x, y, z) = false by rw [HB.out, hg]; rfl)
    rw [hg] at HA
    clear hg HB
    go_enter Try.func24, Try.ntmps24
    go_wp2_with fail
    refine HA.out.mono ?_
    rintro e w1 ⟨rfl, b1⟩
    have B1 := hid (below_trans B0.out b1)
    clear b1
    go_wp2
    go_ret2
    exact ⟨_, by rw [HF.out]; rfl, by rw [ci_no HF.out]; exact ⟨rfl, .inl ⟨rfl, rfl⟩⟩, B1.out⟩
  · obtain ⟨g1, g2, g3⟩ := general_parts hg
    have HP := hid (apart_prime g2 (by omega))
    have HPB := hid (apart_PB g2)
    obtain ⟨f1, f2⟩ := bas_facts hg
    have F1 := hid f1
    have F2 := hid f2
    have HM := hid (@image_mem p ps x y z HP.out)
    obtain rfl : n = 6 := by omega
    rw [hg] at HA
    cases hpt : specPointB p x y z
    · have HF := hid (show ciB p ps (x, y, z) = false by rw [HB.out, hpt, Bool.and_false]; rfl)
      have HPt := hid hpt
      clear hg HB hpt g2 g3 f1 f2
      go_enter Try.func24, Try.ntmps24
      go_wp2_with fail
      refine HA.out.mono ?_
      rintro e w1 ⟨rfl, b1⟩
      have B1 := hid (below_trans B0.out b1)
      have c0 := cell_below b1 (HC0.out.1 0 _ rfl)
      have c1 := cell_below b1 (HC0.out.1 1 _ rfl)
      have c2 := cell_below b1 (HC0.out.1 2 _ rfl)
      clear b1
      go_wp2_with fail
      refine (isPoint_ok' p x y z _).mono ?_
      rintro e w2 ⟨rfl, b2⟩
      rw [HPt.out]
      have B2 := hid (below_trans B1.out b2)
      clear b2 c0 c1 c2
      go_wp2
      go_ret2
      exact ⟨_, by rw [HF.out]; rfl, by rw [ci_no HF.out]; exact ⟨rfl, .inl ⟨rfl, rfl⟩⟩, B2.out⟩
    · have HPt := hid hpt
      have hpb := specPoint_bd hpt
      have HX := hid (show 0 ≤ x ∧ x ≤ 31 by omega)
      have HY := hid (show 0 ≤ y ∧ y ≤ 31 by omega)
      have HZ := hid (show 0 ≤ z ∧ z ≤ 31 by omega)
      cases hct : ps.any (samePt x y z)
      · have HCt := hid hct
        have HIm := hid (fun (W : World) (B : Option Addr) (d : Nat) (h : RRI W B 4 (basP p ps)) => imageOf_ok p B 4 d (basP p ps) x y z W HP.out h F2.out (by omega) (by omega) HX.out HY.out HZ.out)
        have HRR := hid (fun (W : World) (b1 b2 : Nat) (v : Value) (rs : List Rw) (h1 : RwO W b1 v rs) (h2 : RwIn W b2 rs) (h3 : rs.map (·.xs) = basP p ps) =>
          (show ∃ A' c', v = .slice A' 4 c' ∧ RRI W A' 4 (basP p ps) by
            have hrl : rs.length = 4 := by rw [← F1.out, ← h3, List.length_map]
            obtain ⟨A', c', e, h⟩ := RRI_of h1 h2 (by omega) (fun r hr => by
              have := (F2.out r.xs (by rw [← h3]; exact List.mem_map.2 ⟨r, hr, rfl⟩)).1
              omega)
            rw [h3, hrl] at h
            exact ⟨A', c', by rw [e, hrl], h⟩))
        have HV := hid (show imV p (basP p ps) (x, y, z) = ciP p ps (x, y, z) ∧ ciB p ps (x, y, z) = decide (0 < (ciP p ps (x, y, z)).length) by
          have e1 : ciB p ps (x, y, z) = !zeroB (imR p (basP p ps) (x, y, z)) := by rw [HB.out, hg, hpt]; rfl
          unfold ciP imV
          rw [e1]
          cases hz : zeroB (imR p (basP p ps) (x, y, z))
          · simp [rowS_length, imR_len, F1.out]
          · simp)
        have HLn := hid (ciP_len p ps (x, y, z))
        clear hg HB hpt hct hpb g2 g3 f1 f2
        rw [HV.out.1] at HIm
        go_enter Try.func24, Try.ntmps24
        go_wp2_with fail
        refine HA.out.mono ?_
        rintro e w1 ⟨rfl, b1⟩
        have B1 := hid (below_trans B0.out b1)
        have R1 := hid (HR.out.below b1)
        have c0 := cell_below b1 (HC0.out.1 0 _ rfl)
        have c1 := cell_below b1 (HC0.out.1 1 _ rfl)
        have c2 := cell_below b1 (HC0.out.1 2 _ rfl)
        clear b1
        go_wp2_with fail
        refine (isPoint_ok' p x y z _).mono ?_
        rintro e w2 ⟨rfl, b2⟩
        rw [HPt.out]
        have B2 := hid (below_trans B1.out b2)
        have R2 := hid (R1.out.below b2)
        have d0 := cell_below b2 c0
        have d1 := cell_below b2 c1
        have d2 := cell_below b2 c2
        clear b2 c0 c1 c2
        go_wp2_with fail
        refine (ContainsPt_ok A 6 c ps x y z _ R2.out).mono ?_
        rintro e w3 ⟨rfl, b3⟩
        rw [HCt.out]
        have B3 := hid (below_trans B2.out b3)
        have R3 := hid (R2.out.below b3)
        have c0 := cell_below b3 d0
        have c1 := cell_below b3 d1
        have c2 := cell_below b3 d2
        clear b3 d0 d1 d2
        go_wp2
        go_region_held_law (fun w' => w'.cell? ⟨w.heap.size, 0, none⟩ = some (.int .i64 x) ∧ w'.cell? ⟨w.heap.size, 1, none⟩ = some (.int .i64 y) ∧ w'.cell? ⟨w.heap.size, 2, none⟩ = some (.int .i64 z)) (first | exact ⟨k0, k1, k2⟩ | exact ⟨j0, j1, j2⟩ | go_keep)
          (first
            | (go_at_call 40; refine (baseOf_ok p A 6 c ps _ HP.out (R3.out.below (below_drewN (Below.refl _ _) 1)) (by omega) HPB.out).mono ?_; rintro e w4 ⟨v4, rs, rfl, o4, s4, m4, b4⟩; obtain ⟨A4, c4, rfl, rr4⟩ := HRR.out _ _ _ _ _ o4 s4 m4; have RR4 := hid rr4; have B4 := hid (below_trans (below_drewN B3.out 1) b4); have j0 := cell_below b4 (show w3.drew.cell? _ = _ from c0); have j1 := cell_below b4 (show w3.drew.cell? _ = _ from c1); have j2 := cell_below b4 (show w3.drew.cell? _ = _ from c2); clear o4 s4 m4 rr4 b4)
            | (go_at_call 53; refine (HIm.out _ _ _ RR4.out).mono ?_; rintro e w5 ⟨v5, rfl, o5, b5⟩; have O5 := hid o5; have B5 := hid (below_trans B4.out b5); have k0 := cell_below b5 j0; have k1 := cell_below b5 j1; have k2 := cell_below b5 j2; clear o5 b5))
        have O6 := hid (OI.mono O5.out B4.out.size)
        obtain ⟨A6, c6, rfl, _⟩ := O6.out.ri (by have := HLn.out; omega)
        clear k0 k1 k2 j0 j1 j2 c0 c1 c2
        have HVB := hid HV.out.2
        have hlen := HLn.out
        go_wp2
        go_ret2
        exact ⟨_, by rw [HVB.out]; rfl, O6.out, B5.out⟩
      · have HCt := hid hct
        have HF := hid (show ciB p ps (x, y, z) = false by rw [HB.out, HM.out hct, Bool.not_true, Bool.and_false])
        clear hg HB hpt hct hpb g2 g3 f1 f2
        go_enter Try.func24, Try.ntmps24
        go_wp2_with fail
        refine HA.out.mono ?_
        rintro e w1 ⟨rfl, b1⟩
        have B1 := hid (below_trans B0.out b1)
        have R1 := hid (HR.out.below b1)
        have c0 := cell_below b1 (HC0.out.1 0 _ rfl)
        have c1 := cell_below b1 (HC0.out.1 1 _ rfl)
        have c2 := cell_below b1 (HC0.out.1 2 _ rfl)
        clear b1
        go_wp2_with fail
        refine (isPoint_ok' p x y z _).mono ?_
        rintro e w2 ⟨rfl, b2⟩
        rw [HPt.out]
        have B2 := hid (below_trans B1.out b2)
        have R2 := hid (R1.out.below b2)
        have d0 := cell_below b2 c0
        have d1 := cell_below b2 c1
        have d2 := cell_below b2 c2
        clear b2 c0 c1 c2
        go_wp2_with fail
        refine (ContainsPt_ok A 6 c ps x y z _ R2.out).mono ?_
        rintro e w3 ⟨rfl, b3⟩
        rw [HCt.out]
        have B3 := hid (below_trans B2.out b3)
        clear b3 d0 d1 d2
        go_wp2
        go_ret2
        exact ⟨_, by rw [HF.out]; rfl, by rw [ci_no HF.out]; exact ⟨rfl, .inl ⟨rfl, rfl⟩⟩, B3.out⟩

set_option maxRecDepth 100000 in
set_option maxHeartbeats 4000000 in
theorem specCubicImage_ok (p : Int) (A : Option Addr) (n c : Nat) (ps : List P3) (x y z : Int) (w : World) (hr : RP w A n ps) :
    Calls Try.prog 22 #[.int .i64 p, .slice A n c, .agg #[.int .i64 x, .int .i64 y, .int .i64 z]] w fun e w' => ∃ v, e = .returned (.tuple #[v, .bool (ciB p ps (x, y, z))]) ∧ OI w' w.heap.size v (ciP p ps (x, y, z)) ∧ Below w.heap.size w w' := by
  have B0 := hid (below_alloc w (.cells #[.int .i64 x, .int .i64 y, .int .i64 z] 35))
  have HR := hid (hr.below B0.out)
  have hl := hr.1
  have HA := hid (specPointGeneral_ok p A n c ps _ HR.out)
  have HB := hid (show ciB p ps (x, y, z) = ((generalB p ps && specPointB p x y z) && !zeroB (imR p (basP p ps) (x, y, z))) from rfl)
  have HC0 := hid (cells_last (Below.refl (w.alloc (.cells #[.int .i64 x, .int .i64 y, .int .i64 z] 35)).heap.size _) w.heap.size rfl)
  have HNil := hid (fun (W : World) (hW : w.heap.size ≤ W.heap.size) => (show OI (W.alloc (.cells #[] 3)) w.heap.size (.slice (some ⟨W.heap.size, 0, none⟩) 0 0) [] from OI.mono (show OI (W.alloc (.cells #[] 3)) W.heap.size (.slice (some ⟨W.heap.size, 0, none⟩) 0 0) [] from World.ownsRow_lit W #[] 0 (Nat.le_refl _) (by decide) rfl) hW))
  clear hr
  cases hg : generalB p ps
  · have HF := hid (show ciB p ps (x, y, z) = false by rw [HB.out, hg]; rfl)
    rw [hg] at HA
    clear hg HB
    go_enter Try.func22, Try.ntmps22
    go_wp2_with fail
    refine HA.out.mono ?_
    rintro e w1 ⟨rfl, b1⟩
    have B1 := hid (below_trans B0.out b1)
    clear b1
    go_wp2
    go_ret2
    exact ⟨_, by rw [HF.out]; rfl, by rw [ci_no HF.out]; exact HNil.out _ B1.out.size, below_trans B1.out (below_alloc _ _)⟩
  · obtain ⟨g1, g2, g3⟩ := general_parts hg
    have HP := hid (apart_prime g2 (by omega))
    have HPB := hid (apart_PB g2)
    obtain ⟨f1, f2⟩ := bas_facts hg
    have F1 := hid f1
    have F2 := hid f2
    obtain rfl : n = 6 := by omega
    rw [hg] at HA
    cases hpt : specPointB p x y z
    · have HF := hid (show ciB p ps (x, y, z) = false by rw [HB.out, hpt, Bool.and_false]; rfl)
      have HPt := hid hpt
      clear hg HB hpt g2 g3 f1 f2
      go_enter Try.func22, Try.ntmps22
      go_wp2_with fail
      refine HA.out.mono ?_
      rintro e w1 ⟨rfl, b1⟩
      have B1 := hid (below_trans B0.out b1)
      have c0 := cell_below b1 (HC0.out.1 0 _ rfl)
      have c1 := cell_below b1 (HC0.out.1 1 _ rfl)
      have c2 := cell_below b1 (HC0.out.1 2 _ rfl)
      clear b1
      go_wp2_with fail
      refine (specPointIn_ok p x y z _).mono ?_
      rintro e w2 ⟨rfl, b2⟩
      rw [HPt.out]
      have B2 := hid (below_trans B1.out b2)
      clear b2 c0 c1 c2
      go_wp2
      go_ret2
      exact ⟨_, by rw [HF.out]; rfl, by rw [ci_no HF.out]; exact HNil.out _ B2.out.size, below_trans B2.out (below_alloc _ _)⟩
    · have HPt := hid hpt
      have hpb := specPoint_bd hpt
      have HX := hid (show 0 ≤ x ∧ x ≤ 31 by omega)
      have HY := hid (show 0 ≤ y ∧ y ≤ 31 by omega)
      have HZ := hid (show 0 ≤ z ∧ z ≤ 31 by omega)
      have hpr := isPrimeB_bd HP.out
      have HIm := hid (fun (W : World) (B : Option Addr) (d : Nat) (h : RRI W B 4 (basP p ps)) => l5Image_ok p B 4 d (basP p ps) x y z W (by omega) hpr.2 h F2.out (by omega) HX.out HY.out HZ.out)
      have HRR := hid (fun (W : World) (b1 b2 : Nat) (v : Value) (rs : List Rw) (h1 : RwO W b1 v rs) (h2 : RwS W b2 rs) (h3 : rs.map (·.xs) = basP p ps) =>
        (show ∃ A' c', v = .slice A' 4 c' ∧ RRI W A' 4 (basP p ps) by
          have hrl : rs.length = 4 := by rw [← F1.out, ← h3, List.length_map]
          obtain ⟨A', c', e, h⟩ := RRI_ofS h1 h2 (by omega) (fun r hr => by
            have := (F2.out r.xs (by rw [← h3]; exact List.mem_map.2 ⟨r, hr, rfl⟩)).1
            omega)
          rw [h3, hrl] at h
          exact ⟨A', c', by rw [e, hrl], h⟩))
      have HLI := hid (show (imR p (basP p ps) (x, y, z)).length = 4 by rw [imR_len, F1.out])
      have HBd := hid (imR_bd (show 1 ≤ p by omega) (basP p ps) (x, y, z))
      have HE := hid (show ciB p ps (x, y, z) = !zeroB (imR p (basP p ps) (x, y, z)) by rw [HB.out, hg, hpt]; rfl)
      have HCP := hid (show ciP p ps (x, y, z) = if ciB p ps (x, y, z) then rowS p (imR p (basP p ps) (x, y, z)) else [] from rfl)
      have HPr := hid hpr
      clear hg HB hpt hpb g2 g3 f1 f2 hpr
      generalize imR p (basP p ps) (x, y, z) = I at *
      go_enter Try.func22, Try.ntmps22
      go_wp2_with fail
      refine HA.out.mono ?_
      rintro e w1 ⟨rfl, b1⟩
      have B1 := hid (below_trans B0.out b1)
      have R1 := hid (HR.out.below b1)
      have c0 := cell_below b1 (HC0.out.1 0 _ rfl)
      have c1 := cell_below b1 (HC0.out.1 1 _ rfl)
      have c2 := cell_below b1 (HC0.out.1 2 _ rfl)
      clear b1
      go_wp2_with fail
      refine (specPointIn_ok p x y z _).mono ?_
      rintro e w2 ⟨rfl, b2⟩
      rw [HPt.out]
      have B2 := hid (below_trans B1.out b2)
      have R2 := hid (R1.out.below b2)
      have d0 := cell_below b2 c0
      have d1 := cell_below b2 c1
      have d2 := cell_below b2 c2
      clear b2 c0 c1 c2
      go_wp2
      go_region_held_law (fun w' => w'.cell? ⟨w.heap.size, 0, none⟩ = some (.int .i64 x) ∧ w'.cell? ⟨w.heap.size, 1, none⟩ = some (.int .i64 y) ∧ w'.cell? ⟨w.heap.size, 2, none⟩ = some (.int .i64 z)) (first | exact ⟨k0, k1, k2⟩ | exact ⟨j0, j1, j2⟩ | go_keep)
        (first
          | (go_at_call 41; refine (l5Base_ok p A c ps _ HP.out (R2.out.below (below_drewN (Below.refl _ _) 1)) HPB.out).mono ?_; rintro e w4 ⟨v4, rs, rfl, o4, s4, m4, b4⟩; obtain ⟨A4, c4, rfl, rr4⟩ := HRR.out _ _ _ _ _ o4 s4 m4; have RR4 := hid rr4; have B4 := hid (below_trans (below_drewN B2.out 1) b4); have j0 := cell_below b4 (show w2.drew.cell? _ = _ from d0); have j1 := cell_below b4 (show w2.drew.cell? _ = _ from d1); have j2 := cell_below b4 (show w2.drew.cell? _ = _ from d2); clear o4 s4 m4 rr4 b4)
          | (go_at_call 48; refine (HIm.out _ _ _ RR4.out).mono ?_; rintro e w5 ⟨v5, rfl, o5, b5⟩; have O5 := hid o5; have B5 := hid (below_trans B4.out b5); have k0 := cell_below b5 j0; have k1 := cell_below b5 j1; have k2 := cell_below b5 j2; clear o5 b5))
      obtain ⟨A6, c6, rfl, r6⟩ := O5.out.ri (by have := HLI.out; omega)
      rw [HLI.out] at r6 ⊢
      have R6 := hid r6
      clear k0 k1 k2 j0 j1 j2 d0 d1 d2 r6
      go_wp2_with fail
      refine (l4Zero_ok A6 4 c6 I _ R6.out).mono ?_
      rintro e w' ⟨rfl, rfl⟩
      cases hz : zeroB I
      · have HF := hid (show ciB p ps (x, y, z) = true by rw [HE.out, hz]; rfl)
        have HF2 := hid (show ciP p ps (x, y, z) = rowS p I by rw [HCP.out, HF.out]; rfl)
        clear hz
        go_wp2_with fail
        refine (l4Row_ok p A6 4 c6 I _ (by have := HPr.out; omega) HPr.out.2 R6.out (fun u hu => by have := HBd.out u hu; have := HPr.out; omega)).mono ?_
        rintro e w7 ⟨v7, rfl, o7, b7⟩
        have O7 := hid (OI.mono o7 B5.out.size)
        have B7 := hid (below_trans B5.out b7)
        clear o7 b7
        go_wp2
        go_ret2
        exact ⟨v7, by rw [HF.out]; rfl, by rw [HF2.out]; exact O7.out, B7.out⟩
      · have HF := hid (show ciB p ps (x, y, z) = false by rw [HE.out, hz]; rfl)
        clear hz
        go_wp2
        go_ret2
        exact ⟨_, by rw [HF.out]; rfl, by rw [ci_no HF.out]; exact HNil.out _ B5.out.size, below_trans B5.out (below_alloc _ _)⟩

end Go.Proofs.Ytkhkcgoblibnpaa
