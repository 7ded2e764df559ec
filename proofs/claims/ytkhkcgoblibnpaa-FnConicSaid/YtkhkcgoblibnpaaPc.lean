/-
  Contracts: the conic through five points, of both sides, and the law on it.
-/
import Derived.Test.YtkhkcgoblibnpaaCn
namespace Go.Proofs.Ytkhkcgoblibnpaa
open Go.RowKit
set_option linter.unusedVariables false
set_option linter.unusedSimpArgs false

def pcB (p : Int) (ps : List P3) : Bool := decide (ps.length = 5) && apartB p ps
/-- The conic of five points. -/
def pcP (p : Int) (ps : List P3) : List Int := if pcB p ps then (conP p ps).getD 0 [] else []
theorem pcB_parts {p : Int} {ps : List P3} (h : pcB p ps = true) : ps.length = 5 ∧ apartB p ps = true := by
  rw [pcB, Bool.and_eq_true, decide_eq_true_eq] at h; exact h
theorem pcP_len (p : Int) (ps : List P3) : (pcP p ps).length ≤ 6 := by
  unfold pcP
  cases hg : pcB p ps
  · simp
  · obtain ⟨g1, g2⟩ := pcB_parts hg
    have h1 := con_one g1 g2
    have h2 := (solP_rows (wd := 6) (apart_prime g2 (by omega)) (ps.map sqI)).2 _ (getD_mem (d := []) (i := 0) (by rw [show solP p 6 (ps.map sqI) = conP p ps from rfl, h1]; omega))
    simp only [if_true]
    exact Nat.le_of_eq h2.1
theorem one_row {w : World} {rs : List Rw} {R : List (List Int)} (hM : rs.map (·.xs) = R) (h1 : R.length = 1) : ∃ r, rs = [r] ∧ R.getD 0 [] = r.xs := by
  have hl : rs.length = 1 := by rw [← h1, ← hM, List.length_map]
  match rs, hl with
  | [r], _ => exact ⟨r, rfl, by rw [← hM]; rfl⟩

set_option maxRecDepth 100000 in
set_option maxHeartbeats 4000000 in
theorem conicOf_ok (p : Int) (A : Option Addr) (n c : Nat) (ps : List P3) (w : World) (hr : RP w A n ps) (hn : n = 5) (hap : apartB p ps = true) :
    Calls Try.prog 57 #[.int .i64 p, .slice A n c] w fun e w' => ∃ v, e = .returned v ∧ OI w' w.heap.size v ((conP p ps).getD 0 []) ∧ Below w.heap.size w w' := by
  subst hn
  have hl := hr.1
  have HP := hid (apart_prime hap (by omega))
  have HPB := hid (apart_PB hap)
  have H1 := hid (con_one hl hap)
  have HSq := hid (squares_ok A 5 c ps w hr (by omega) HPB.out)
  clear hr hap
  go_enter Try.func57, Try.ntmps57
  go_wp2_with fail
  refine HSq.out.mono ?_
  rintro e w2 ⟨v2, rs, rfl, hO, hS, hM, b2⟩
  have B2 := hid b2
  have hrl : rs.length = 5 := by
    have h1 := congrArg List.length hM
    rw [List.length_map, List.length_map] at h1
    omega
  have hmem : ∀ r ∈ rs.map (·.xs), ∃ a ∈ ps, r = sqI a := fun r hr => by
    rw [hM] at hr
    obtain ⟨a, ha, he⟩ := List.mem_map.1 hr
    exact ⟨a, ha, he.symm⟩
  obtain ⟨A2, c2, rfl, hri⟩ := RRI_ofS hO hS (by omega) (fun r hr => by
    obtain ⟨a, ha, he⟩ := hmem r.xs (List.mem_map.2 ⟨r, hr, rfl⟩)
    rw [he]
    simp [sqI])
  rw [hrl] at hri ⊢
  have HSo := hid (solutions_ok p A2 5 c2 6 _ w2 HP.out (by omega) (by omega) hri (fun r hr => by
    obtain ⟨a, ha, rfl⟩ := hmem r hr
    rfl) (fun r hr x hx => by
    obtain ⟨a, ha, rfl⟩ := hmem r hr
    have := sq_bd (HPB.out a ha) x hx
    omega) (by omega))
  rw [hM, show solP p 6 (ps.map sqI) = conP p ps from rfl] at HSo
  clear hri hmem hrl hO hS hM b2 HSq
  go_wp2_with fail
  refine HSo.out.mono ?_
  rintro e w3 ⟨v3, r3, rfl, hO3, hS3, hM3, b3⟩
  have B3 := hid (below_trans B2.out b3)
  obtain ⟨r, rfl, hR⟩ := one_row (w := w3) hM3 H1.out
  have hown := hS3.own r (by simp)
  rw [← hR] at hown
  have HO := hid (OI.mono hown B2.out.size)
  obtain ⟨g, cap, hv, _, _, _, _, _, hc⟩ := hO3.shape (by simp)
  subst hv
  have c0 : w3.cell? ⟨g, 0, none⟩ = some (rwV r) := hc 0 (by simp)
  clear b3 hO3 hM3 hS3 hown hR hc
  generalize rwV r = V at *
  go_wp2
  go_ret
  exact ⟨V, rfl, HO.out, B3.out⟩

set_option maxRecDepth 100000 in
set_option maxHeartbeats 4000000 in
theorem implPointConic_ok (p : Int) (A : Option Addr) (n c : Nat) (ps : List P3) (w : World) (hr : RP w A n ps) (hnc : n ≤ c) :
    Calls Try.prog 31 #[.int .i64 p, .slice A n c] w fun e w' => ∃ v, e = .returned (.tuple #[v, .bool (pcB p ps)]) ∧ OI w' w.heap.size v (pcP p ps) ∧ Below w.heap.size w w' := by
  have HR := hid hr
  have hl := hr.1
  have hn64 := hr.2.1
  have HG := hid (show pcB p ps = (decide (ps.length = 5) && apartB p ps) from rfl)
  have HC := hid (show pcP p ps = if pcB p ps then (conP p ps).getD 0 [] else [] from rfl)
  by_cases h6 : n = 5
  · subst h6
    have hd : decide (ps.length = 5) = true := by simp [hl]
    rw [hd, Bool.true_and] at HG
    have HAp := hid (areApart_ok p A 5 c ps w hr (by omega) hnc)
    clear hr
    cases hap : apartB p ps
    · have HF := hid (show pcB p ps = false by rw [HG.out, hap])
      have HF2 := hid (show pcP p ps = [] by rw [HC.out, HF.out]; rfl)
      rw [hap] at HAp
      clear hap HG HC
      go_enter Try.func31, Try.ntmps31
      go_wp2_with fail
      refine HAp.out.mono ?_
      rintro e w1 ⟨rfl, b1⟩
      have B1 := hid b1
      clear b1
      go_wp2
      go_ret2
      exact ⟨_, by rw [HF.out]; rfl, by rw [HF2.out]; exact ⟨rfl, .inl ⟨rfl, rfl⟩⟩, B1.out⟩
    · have HF := hid (show pcB p ps = true by rw [HG.out, hap])
      have HF2 := hid (show pcP p ps = (conP p ps).getD 0 [] by rw [HC.out, HF.out]; rfl)
      have HAP := hid hap
      rw [hap] at HAp
      clear hap HG HC
      go_enter Try.func31, Try.ntmps31
      go_wp2_with fail
      refine HAp.out.mono ?_
      rintro e w1 ⟨rfl, b1⟩
      have B1 := hid b1
      have HCo := hid (conicOf_ok p A 5 c ps w1 (HR.out.below b1) rfl HAP.out)
      clear b1
      go_wp2_with fail
      refine HCo.out.mono ?_
      rintro e w2 ⟨v2, rfl, o2, b2⟩
      have B2 := hid (below_trans B1.out b2)
      have O2 := hid (OI.mono o2 B1.out.size)
      clear b2 o2
      go_wp2
      go_ret2
      exact ⟨v2, by rw [HF.out]; rfl, by rw [HF2.out]; exact O2.out, B2.out⟩
  · have HF := hid (show pcB p ps = false by rw [HG.out, show decide (ps.length = 5) = false by simp; omega]; rfl)
    have HF2 := hid (show pcP p ps = [] by rw [HC.out, HF.out]; rfl)
    have hq : ((n : Int) != 5) = true := by simp; omega
    clear hr HG h6 HC
    go_enter Try.func31, Try.ntmps31
    go_wp2
    go_ret2
    exact ⟨_, by rw [HF.out]; rfl, by rw [HF2.out]; exact ⟨rfl, .inl ⟨rfl, rfl⟩⟩, Below.refl _ _⟩

set_option maxRecDepth 100000 in
set_option maxHeartbeats 4000000 in
theorem specPointConic_ok (p : Int) (A : Option Addr) (n c : Nat) (ps : List P3) (w : World) (hr : RP w A n ps) :
    Calls Try.prog 30 #[.int .i64 p, .slice A n c] w fun e w' => ∃ v, e = .returned (.tuple #[v, .bool (pcB p ps)]) ∧ OI w' w.heap.size v (pcP p ps) ∧ Below w.heap.size w w' := by
  have HR := hid hr
  have hl := hr.1
  have hn64 := hr.2.1
  have HG := hid (show pcB p ps = (decide (ps.length = 5) && apartB p ps) from rfl)
  have HC := hid (show pcP p ps = if pcB p ps then (conP p ps).getD 0 [] else [] from rfl)
  by_cases h6 : n = 5
  · subst h6
    have hd : decide (ps.length = 5) = true := by simp [hl]
    rw [hd, Bool.true_and] at HG
    have HAp := hid (l4Apart_ok p A 5 c ps w hr (by omega))
    clear hr
    cases hap : apartB p ps
    · have HF := hid (show pcB p ps = false by rw [HG.out, hap])
      have HF2 := hid (show pcP p ps = [] by rw [HC.out, HF.out]; rfl)
      rw [hap] at HAp
      clear hap HG HC
      go_enter Try.func30, Try.ntmps30
      go_wp2_with fail
      refine HAp.out.mono ?_
      rintro e w1 ⟨rfl, b1⟩
      have B1 := hid b1
      clear b1
      go_wp2
      go_ret2
      exact ⟨_, by rw [HF.out]; rfl, by rw [HF2.out]; exact (show OI (w1.alloc (.cells #[] 3)) w1.heap.size (.slice (some ⟨w1.heap.size, 0, none⟩) 0 0) [] from World.ownsRow_lit w1 #[] 0 (Nat.le_refl _) (by decide) rfl) |> (OI.mono · B1.out.size), below_trans B1.out (below_alloc _ _)⟩
    · have HF := hid (show pcB p ps = true by rw [HG.out, hap])
      have HF2 := hid (show pcP p ps = (conP p ps).getD 0 [] by rw [HC.out, HF.out]; rfl)
      have HP := hid (apart_prime hap (by omega))
      have HPB := hid (apart_PB hap)
      have H1 := hid (con_one hl hap)
      rw [hap] at HAp
      clear hap HG HC
      go_enter Try.func30, Try.ntmps30
      go_wp2_with fail
      refine HAp.out.mono ?_
      rintro e w1 ⟨rfl, b1⟩
      have B1 := hid b1
      have HSo := hid (l4Conics_ok p A 5 c ps w1 HP.out (HR.out.below b1) (by omega) HPB.out)
      clear b1
      go_wp2_with fail
      refine HSo.out.mono ?_
      rintro e w3 ⟨v3, r3, rfl, hO3, hS3, hM3, b3⟩
      have B3 := hid (below_trans B1.out b3)
      obtain ⟨r, rfl, hR⟩ := one_row (w := w3) hM3 H1.out
      have hown := hS3 r (by simp)
      rw [← hR] at hown
      have HO := hid (OI.mono hown B1.out.size)
      obtain ⟨g, cap, hv, _, _, _, _, _, hc⟩ := hO3.shape (by simp)
      have hv : v3 = .slice (some ⟨g, 0, none⟩) 1 cap := hv
      subst hv
      have c0 : w3.cell? ⟨g, 0, none⟩ = some (rwV r) := hc 0 (by simp)
      clear b3 hO3 hM3 hS3 hown hR hc
      generalize rwV r = V at *
      go_wp2
      go_ret2
      exact ⟨V, by rw [HF.out]; rfl, by rw [HF2.out]; exact HO.out, B3.out⟩
  · have HF := hid (show pcB p ps = false by rw [HG.out, show decide (ps.length = 5) = false by simp; omega]; rfl)
    have HF2 := hid (show pcP p ps = [] by rw [HC.out, HF.out]; rfl)
    have hq : ((n : Int) != 5) = true := by simp; omega
    clear hr HG h6 HC
    go_enter Try.func30, Try.ntmps30
    go_wp2
    go_ret2
    exact ⟨_, by rw [HF.out]; rfl, by rw [HF2.out]; exact World.ownsRow_lit w #[] 0 (Nat.le_refl _) (by decide) rfl, below_alloc _ _⟩

end Go.Proofs.Ytkhkcgoblibnpaa
