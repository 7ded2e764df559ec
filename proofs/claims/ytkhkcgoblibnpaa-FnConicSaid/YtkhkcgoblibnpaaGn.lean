/-
  Contracts: general points, and cubics through them, of both sides.
-/
import Derived.Test.YtkhkcgoblibnpaaTp
namespace Go.Proofs.Ytkhkcgoblibnpaa
open Go.RowKit
set_option linter.unusedVariables false
set_option linter.unusedSimpArgs false

def generalB (p : Int) (ps : List P3) : Bool := (decide (ps.length = 6) && apartB p ps) && decide ((conP p ps).length = 0)
theorem apart_prime {p : Int} {ps : List P3} (h : apartB p ps = true) (h0 : 0 < ps.length) : isPrimeB p = true := by
  have h1 := List.all_eq_true.1 h 0 (List.mem_range.2 h0)
  rw [apB, Bool.and_eq_true] at h1
  have h2 := h1.1
  rw [ptOk, specPointB, Bool.and_eq_true] at h2
  exact h2.1

set_option maxRecDepth 100000 in
set_option maxHeartbeats 4000000 in
theorem areGeneral_ok (p : Int) (A : Option Addr) (n c : Nat) (ps : List P3) (w : World) (hr : RP w A n ps) (hnc : n ≤ c) :
    Calls Try.prog 39 #[.int .i64 p, .slice A n c] w fun e w' => e = .returned (.bool (generalB p ps)) ∧ Below w.heap.size w w' := by
  have HR := hid hr
  have hl := hr.1
  have hn64 := hr.2.1
  have HG := hid (show generalB p ps = ((decide (ps.length = 6) && apartB p ps) && decide ((conP p ps).length = 0)) from rfl)
  by_cases h6 : n = 6
  · subst h6
    have hd : decide (ps.length = 6) = true := by simp [hl]
    rw [hd] at HG
    have HAp := hid (areApart_ok p A 6 c ps w hr (by omega) hnc)
    clear hr
    cases hap : apartB p ps
    · have HF := hid (show generalB p ps = false by rw [HG.out, hap]; rfl)
      rw [hap] at HAp
      clear hap HG
      go_enter Try.func39, Try.ntmps39
      go_wp2_with fail
      refine HAp.out.mono ?_
      rintro e w1 ⟨rfl, b1⟩
      have B1 := hid b1
      clear b1
      go_wp2
      go_ret
      exact ⟨by rw [HF.out]; rfl, B1.out⟩
    · have HF := hid (show generalB p ps = decide ((conP p ps).length = 0) by rw [HG.out, hap]; rfl)
      have HP := hid (apart_prime hap (by omega))
      have HPB := hid (apart_PB hap)
      rw [hap] at HAp
      clear hap HG
      go_enter Try.func39, Try.ntmps39
      go_wp2_with fail
      refine HAp.out.mono ?_
      rintro e w1 ⟨rfl, b1⟩
      have B1 := hid b1
      have HSq := hid (squares_ok A 6 c ps w1 (HR.out.below b1) (by omega) HPB.out)
      clear b1
      go_wp2_with fail
      refine HSq.out.mono ?_
      rintro e w2 ⟨v2, rs, rfl, hO, hS, hM, b2⟩
      have B2 := hid (below_trans B1.out b2)
      have hrl : rs.length = 6 := by
        have h1 := congrArg List.length hM
        rw [List.length_map, List.length_map] at h1
        omega
      have hmem : ∀ r ∈ rs.map (·.xs), ∃ a ∈ ps, r = sqI a := fun r hr => by
        rw [hM] at hr
        obtain ⟨a, ha, he⟩ := List.mem_map.1 hr
        exact ⟨a, ha, he.symm⟩
      obtain ⟨A2, c2, rfl, hri⟩ := RRI_ofS hO hS (by omega) (fun r hr => by
        obtain ⟨a, ha, he⟩ := hmem r.xs (List.mem_map.2 ⟨r, hr, rfl⟩)
        rw [he]
        simp [sqI])
      rw [hrl] at hri ⊢
      have HSo := hid (solutions_ok p A2 6 c2 6 _ w2 HP.out (by omega) (by omega) hri (fun r hr => by
        obtain ⟨a, ha, rfl⟩ := hmem r hr
        rfl) (fun r hr x hx => by
        obtain ⟨a, ha, rfl⟩ := hmem r hr
        have := sq_bd (HPB.out a ha) x hx
        omega) (by omega))
      rw [hM, show solP p 6 (ps.map sqI) = conP p ps from rfl] at HSo
      clear hri hmem hrl hO hS hM b2 HSq
      go_wp2_with fail
      refine HSo.out.mono ?_
      rintro e w3 ⟨v3, r3, rfl, hO3, _, hM3, b3⟩
      have B3 := hid (below_trans B2.out b3)
      obtain ⟨A3, c3, rfl, _⟩ := hO3.form
      have HM := hid (show (conP p ps).length = r3.length by rw [← hM3, List.length_map])
      clear b3 hO3 hM3
      generalize r3.length = m at *
      have hq : ((m : Int) == 0) = decide (m = 0) := by
        rw [Bool.eq_iff_iff]; simp
      go_wp2
      go_ret
      exact ⟨by rw [HF.out, HM.out]; rfl, B3.out⟩
  · have HF := hid (show generalB p ps = false by rw [HG.out, show decide (ps.length = 6) = false by simp; omega]; rfl)
    have hq : ((n : Int) == 6) = false := by simp; omega
    clear hr HG h6
    go_enter Try.func39, Try.ntmps39
    go_wp2
    go_ret
    exact ⟨by rw [HF.out]; rfl, Below.refl _ _⟩

theorem implPointGeneral_ok (p : Int) (A : Option Addr) (n c : Nat) (ps : List P3) (w : World) (hr : RP w A n ps) (hnc : n ≤ c) :
    Calls Try.prog 29 #[.int .i64 p, .slice A n c] w fun e w' => e = .returned (.bool (generalB p ps)) ∧ Below w.heap.size w w' := by
  have HA := hid (areGeneral_ok p A n c ps w hr hnc)
  clear hr
  go_enter Try.func29, Try.ntmps29
  go_wp2_with fail
  refine HA.out.mono ?_
  rintro e w1 ⟨rfl, b1⟩
  have B1 := hid b1
  clear b1
  go_wp2
  go_ret
  exact ⟨rfl, B1.out⟩

set_option maxRecDepth 100000 in
set_option maxHeartbeats 4000000 in
theorem specPointGeneral_ok (p : Int) (A : Option Addr) (n c : Nat) (ps : List P3) (w : World) (hr : RP w A n ps) :
    Calls Try.prog 28 #[.int .i64 p, .slice A n c] w fun e w' => e = .returned (.bool (generalB p ps)) ∧ Below w.heap.size w w' := by
  have HR := hid hr
  have hl := hr.1
  have hn64 := hr.2.1
  have HG := hid (show generalB p ps = ((decide (ps.length = 6) && apartB p ps) && decide ((conP p ps).length = 0)) from rfl)
  by_cases h6 : n = 6
  · subst h6
    have hd : decide (ps.length = 6) = true := by simp [hl]
    rw [hd] at HG
    have HAp := hid (l4Apart_ok p A 6 c ps w hr (by omega))
    clear hr
    cases hap : apartB p ps
    · have HF := hid (show generalB p ps = false by rw [HG.out, hap]; rfl)
      rw [hap] at HAp
      clear hap HG
      go_enter Try.func28, Try.ntmps28
      go_wp2_with fail
      refine HAp.out.mono ?_
      rintro e w1 ⟨rfl, b1⟩
      have B1 := hid b1
      clear b1
      go_wp2
      go_ret
      exact ⟨by rw [HF.out]; rfl, B1.out⟩
    · have HF := hid (show generalB p ps = decide ((conP p ps).length = 0) by rw [HG.out, hap]; rfl)
      have HP := hid (apart_prime hap (by omega))
      have HPB := hid (apart_PB hap)
      rw [hap] at HAp
      clear hap HG
      go_enter Try.func28, Try.ntmps28
      go_wp2_with fail
      refine HAp.out.mono ?_
      rintro e w1 ⟨rfl, b1⟩
      have B1 := hid b1
      have HSo := hid (l4Conics_ok p A 6 c ps w1 HP.out (HR.out.below b1) (by omega) HPB.out)
      clear b1
      go_wp2_with fail
      refine HSo.out.mono ?_
      rintro e w3 ⟨v3, r3, rfl, hO3, _, hM3, b3⟩
      have B3 := hid (below_trans B1.out b3)
      obtain ⟨A3, c3, rfl, _⟩ := hO3.form
      have HM := hid (show (conP p ps).length = r3.length by rw [← hM3, List.length_map])
      clear b3 hO3 hM3
      generalize r3.length = m at *
      have hq : ((m : Int) == 0) = decide (m = 0) := by
        rw [Bool.eq_iff_iff]; simp
      go_wp2
      go_ret
      exact ⟨by rw [HF.out, HM.out]; rfl, B3.out⟩
  · have HF := hid (show generalB p ps = false by rw [HG.out, show decide (ps.length = 6) = false by simp; omega]; rfl)
    have hq : ((n : Int) == 6) = false := by simp; omega
    clear hr HG h6
    go_enter Try.func28, Try.ntmps28
    go_wp2
    go_ret
    exact ⟨by rw [HF.out]; rfl, Below.refl _ _⟩

theorem general_parts {p : Int} {ps : List P3} (h : generalB p ps = true) : ps.length = 6 ∧ apartB p ps = true ∧ conP p ps = [] := by
  rw [generalB, Bool.and_eq_true, Bool.and_eq_true, decide_eq_true_eq, decide_eq_true_eq] at h
  exact ⟨h.1.1, h.1.2, List.length_eq_zero_iff.1 h.2⟩
/-- The base of six points. -/
def cbP (p : Int) (ps : List P3) : List (List Int) := if generalB p ps then basP p ps else []

set_option maxRecDepth 100000 in
theorem implCubicBase_ok (p : Int) (A : Option Addr) (n c : Nat) (ps : List P3) (w : World) (hr : RP w A n ps) (hnc : n ≤ c) :
    Calls Try.prog 11 #[.int .i64 p, .slice A n c] w fun e w' => ∃ v rs, e = .returned (.tuple #[v, .bool (generalB p ps)]) ∧ RwO w' w.heap.size v rs ∧ RwIn w' w.heap.size rs ∧ rs.map (·.xs) = cbP p ps ∧ Below w.heap.size w w' := by
  have HR := hid hr
  have hl := hr.1
  have HA := hid (areGeneral_ok p A n c ps w hr hnc)
  have HC := hid (show cbP p ps = if generalB p ps then basP p ps else [] from rfl)
  clear hr
  cases hg : generalB p ps
  · have HF := hid (show cbP p ps = [] by rw [HC.out, hg]; rfl)
    rw [hg] at HA
    clear hg HC
    go_enter Try.func11, Try.ntmps11
    go_wp2_with fail
    refine HA.out.mono ?_
    rintro e w1 ⟨rfl, b1⟩
    have B1 := hid b1
    clear b1
    go_wp2
    go_ret2
    exact ⟨_, [], rfl, ⟨rfl, .inl ⟨rfl, rfl⟩⟩, ⟨fun r hr => (by cases hr), by simp⟩, by rw [HF.out]; rfl, B1.out⟩
  · have HF := hid (show cbP p ps = basP p ps by rw [HC.out, hg]; rfl)
    obtain ⟨g1, g2, g3⟩ := general_parts hg
    have HP := hid (apart_prime g2 (by omega))
    have HPB := hid (apart_PB g2)
    rw [hg] at HA
    clear hg HC g2 g3
    go_enter Try.func11, Try.ntmps11
    go_wp2_with fail
    refine HA.out.mono ?_
    rintro e w1 ⟨rfl, b1⟩
    have B1 := hid b1
    have HB := hid (baseOf_ok p A n c ps w1 HP.out (HR.out.below b1) (by omega) HPB.out)
    clear b1
    go_wp2_with fail
    refine HB.out.mono ?_
    rintro e w2 ⟨v2, rs, rfl, hO, hS, hM, b2⟩
    have O2 := hid (OR_mono hO B1.out.size)
    have S2 := hid (show RwIn w2 w.heap.size rs from ⟨fun r hr => OI.mono (hS.own r hr) B1.out.size, hS.nd⟩)
    have M2 := hid hM
    have B2 := hid (below_trans B1.out b2)
    clear hO hS hM b2
    go_wp2
    go_ret2
    exact ⟨v2, rs, rfl, O2.out, S2.out, by rw [HF.out]; exact M2.out, B2.out⟩

set_option maxRecDepth 100000 in
theorem specCubicBase_ok (p : Int) (A : Option Addr) (n c : Nat) (ps : List P3) (w : World) (hr : RP w A n ps) :
    Calls Try.prog 12 #[.int .i64 p, .slice A n c] w fun e w' => ∃ v rs, e = .returned (.tuple #[v, .bool (generalB p ps)]) ∧ RwO w' w.heap.size v rs ∧ RwS w' w.heap.size rs ∧ rs.map (·.xs) = cbP p ps ∧ Below w.heap.size w w' := by
  have HR := hid hr
  have hl := hr.1
  have HA := hid (specPointGeneral_ok p A n c ps w hr)
  have HC := hid (show cbP p ps = if generalB p ps then basP p ps else [] from rfl)
  clear hr
  cases hg : generalB p ps
  · have HF := hid (show cbP p ps = [] by rw [HC.out, hg]; rfl)
    rw [hg] at HA
    clear hg HC
    go_enter Try.func12, Try.ntmps12
    go_wp2_with fail
    refine HA.out.mono ?_
    rintro e w1 ⟨rfl, b1⟩
    have B1 := hid b1
    clear b1
    go_wp2
    go_ret2
    exact ⟨_, [], rfl, (show RwO (w1.alloc (.cells #[] 32)) w1.heap.size (.slice (some ⟨w1.heap.size, 0, none⟩) 0 0) [] from World.ownsRow_lit w1 #[] 0 (Nat.le_refl _) (by decide) rfl) |> (OR_mono · B1.out.size), fun r hr => (by cases hr), by rw [HF.out]; rfl, below_trans B1.out (below_alloc _ _)⟩
  · have HF := hid (show cbP p ps = basP p ps by rw [HC.out, hg]; rfl)
    obtain ⟨g1, g2, g3⟩ := general_parts hg
    have hn6 : n = 6 := by omega
    subst hn6
    have HP := hid (apart_prime g2 (by omega))
    have HPB := hid (apart_PB g2)
    rw [hg] at HA
    clear hg HC g2 g3
    go_enter Try.func12, Try.ntmps12
    go_wp2_with fail
    refine HA.out.mono ?_
    rintro e w1 ⟨rfl, b1⟩
    have B1 := hid b1
    have HB := hid (l5Base_ok p A c ps w1 HP.out (HR.out.below b1) HPB.out)
    clear b1
    go_wp2_with fail
    refine HB.out.mono ?_
    rintro e w2 ⟨v2, rs, rfl, hO, hS, hM, b2⟩
    have O2 := hid (OR_mono hO B1.out.size)
    have S2 := hid (hS.mono B1.out.size)
    have M2 := hid hM
    have B2 := hid (below_trans B1.out b2)
    clear hO hS hM b2
    go_wp2
    go_ret2
    exact ⟨v2, rs, rfl, O2.out, S2.out, by rw [HF.out]; exact M2.out, B2.out⟩

set_option maxRecDepth 100000 in
set_option maxHeartbeats 4000000 in
theorem FnExactPointGeneral_ok (p : Int) (A : Option Addr) (n c : Nat) (ps : List P3) (w : World) (hp : (Lit.int .i64 p).wf = true) (hn64 : n ≤ 9223372036854775807) (hr : n ≤ 1048576 → RP w A n ps) :
    Calls Try.prog 6 #[.int .i64 p, .slice A n c] w fun e w' => e = .returned (.bool true) ∧ Below w.heap.size w w' := by
  have HSz := hid (szPointS_ok A n c w hn64)
  clear hp
  by_cases hb : n ≤ 1048576
  · have HR := hid (hr hb)
    have hl := (hr hb).1
    rw [if_neg (by omega)] at HSz
    have HS := hid (fun B d W h => specPointGeneral_ok p B n d ps W h)
    have HI := hid (fun B W h => implPointGeneral_ok p B n n ps W h (Nat.le_refl _))
    generalize generalB p ps = D at *
    have hne : (D != D) = false := by simp
    have hnz : ¬ (1048576 - (n : Int) < 0) := by omega
    clear hr
    go_enter Try.func6, Try.ntmps6
    go_wp2_with fail
    refine HSz.out.mono ?_
    rintro e w0 ⟨rfl, rfl⟩
    go_wp2_with fail
    refine (toPointS_ok A n c ps _ HR.out hb).mono ?_
    rintro e w1 ⟨rfl, o1, b1⟩
    obtain ⟨A1, c1, e1, r1⟩ := o1.rp (by omega)
    injection e1 with e11 e12 e13
    subst e11
    rw [hl] at r1
    have R1 := hid r1
    have B1 := hid b1
    clear o1 b1 r1 e12 e13
    go_wp2_with fail
    refine (HS.out _ _ _ R1.out).mono ?_
    rintro e w2 ⟨rfl, b2⟩
    have B2 := hid (below_trans B1.out b2)
    clear b2
    go_wp2_with fail
    refine (toPointS_ok A n c ps _ (HR.out.below B2.out) hb).mono ?_
    rintro e w3 ⟨rfl, o3, b3⟩
    obtain ⟨A3, c3, e3, r3⟩ := o3.rp (by omega)
    injection e3 with e31 e32 e33
    subst e31
    rw [hl] at r3
    have R3 := hid r3
    have B3 := hid (below_trans B2.out b3)
    clear o3 b3 r3 e32 e33
    go_wp2_with fail
    refine (HI.out _ _ R3.out).mono ?_
    rintro e w4 ⟨rfl, b4⟩
    have B4 := hid (below_trans B3.out b4)
    have R4 := hid (R3.out.below b4)
    clear b4
    go_wp2_with fail
    refine (toPointS_ok A n c ps _ (HR.out.below B4.out) hb).mono ?_
    rintro e w5 ⟨rfl, o5, b5⟩
    obtain ⟨A5, c5, e5, r5⟩ := o5.rp (by omega)
    injection e5 with e51 e52 e53
    subst e51
    rw [hl] at r5
    have R5 := hid r5
    have B5 := hid (below_trans B4.out b5)
    have R45 := hid (R4.out.below b5)
    clear o5 b5 r5 e52 e53
    go_wp2_with fail
    refine (eqPointS_ok _ n n ps _ n n ps _ R45.out R5.out).mono ?_
    rintro e w6 ⟨rfl, b6⟩
    rw [beq_self_eq_true]
    have B6 := hid (below_trans B5.out b6)
    clear b6
    go_wp2
    go_ret
    exact ⟨rfl, B6.out⟩
  · rw [if_pos (by omega)] at HSz
    clear hr
    go_enter Try.func6, Try.ntmps6
    go_wp2_with fail
    refine HSz.out.mono ?_
    rintro e w0 ⟨rfl, rfl⟩
    go_wp2
    go_ret
    exact ⟨rfl, Below.refl _ _⟩

end Go.Proofs.Ytkhkcgoblibnpaa
