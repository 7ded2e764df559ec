/-
  Contracts: one row divided by its first number that is not 0; the point of three numbers.
-/
import Derived.Test.YtkhkcgoblibnpaaRe
import Derived.Test.YtkhkcgoblibnpaaDp
namespace Go.Proofs.Ytkhkcgoblibnpaa
open Go.RowKit
set_option linter.unusedVariables false
set_option linter.unusedSimpArgs false

theorem inv_turned {p x : Int} (hp : isPrimeB p = true) (h0 : 0 < x) (h1 : x < p) : invM p x = turned p x := by
  obtain ⟨k, rfl⟩ := Int.eq_ofNat_of_zero_le (Int.le_of_lt h0)
  have hk : k < 31 := by have := isPrimeB_bd hp; omega
  have hk0 : 0 < k := by omega
  rcases isPrimeB_cases hp with rfl | rfl | rfl | rfl | rfl | rfl | rfl | rfl
  · exact (show ∀ k : Nat, k < 7 → 0 < k → invM 7 k = turned 7 k by decide +kernel) k (by omega) hk0
  · exact (show ∀ k : Nat, k < 11 → 0 < k → invM 11 k = turned 11 k by decide +kernel) k (by omega) hk0
  · exact (show ∀ k : Nat, k < 13 → 0 < k → invM 13 k = turned 13 k by decide +kernel) k (by omega) hk0
  · exact (show ∀ k : Nat, k < 17 → 0 < k → invM 17 k = turned 17 k by decide +kernel) k (by omega) hk0
  · exact (show ∀ k : Nat, k < 19 → 0 < k → invM 19 k = turned 19 k by decide +kernel) k (by omega) hk0
  · exact (show ∀ k : Nat, k < 23 → 0 < k → invM 23 k = turned 23 k by decide +kernel) k (by omega) hk0
  · exact (show ∀ k : Nat, k < 29 → 0 < k → invM 29 k = turned 29 k by decide +kernel) k (by omega) hk0
  · exact (show ∀ k : Nat, k < 31 → 0 < k → invM 31 k = turned 31 k by decide +kernel) k (by omega) hk0
theorem rowS_pre {p : Int} (hp : isPrimeB p = true) : ∀ (c : Nat) (r : List Int), c < r.length → (∀ i, i < c → r.getD i 0 = 0) → 0 < r.getD c 0 → r.getD c 0 < p → rowS p r = scaleL p (turned p (r.getD c 0)) r := by
  intro c
  induction c with
  | zero =>
    intro r hc hz h0 h1
    cases r with
    | nil => simp at hc
    | cons x xs =>
      simp at h0 h1
      rw [rowS_nz hp h0 h1]
      have hs := (turned_spec hp h0 h1).1
      show _ = (x * turned p x % p) :: xs.map (fun y => y * turned p x % p)
      rw [hs]
  | succ c ih =>
    intro r hc hz h0 h1
    cases r with
    | nil => simp at hc
    | cons x xs =>
      have hx : x = 0 := by have := hz 0 (by omega); simpa using this
      subst hx
      have e : ((0 : Int) :: xs).getD (c + 1) 0 = xs.getD c 0 := by simp [List.getD_eq_getElem?_getD]
      rw [e] at h0 h1 ⊢
      rw [rowS_zero hp, ih xs (by simpa using hc) (fun i hi => by have := hz (i + 1) (by omega); simpa [List.getD_eq_getElem?_getD] using this) h0 h1]
      show 0 :: _ = (0 * _ % p) :: xs.map _
      rw [Int.zero_mul, Int.zero_emod]
      rfl
theorem zeroB_iff (r : List Int) : zeroB r = true ↔ ∀ i, i < r.length → r.getD i 0 = 0 := by
  rw [zeroB, List.all_eq_true]
  constructor
  · intro h i hi
    have := h (r.getD i 0) (by rw [getD_lt hi]; exact List.getElem_mem _)
    simpa using this
  · intro h x hx
    obtain ⟨i, hi, rfl⟩ := List.mem_iff_getElem.1 hx
    have := h i hi
    rw [getD_lt hi] at this
    simpa using this
theorem redF_one {p : Int} (hp : isPrimeB p = true) (r : List Int) (hr : ∀ x ∈ r, 0 ≤ x ∧ x < p) : ∀ n c : Nat, n + c = r.length → (∀ i, i < c → r.getD i 0 = 0) → redF p n c [r] [] = if zeroB r then [] else [rowS p r] := by
  intro n
  induction n with
  | zero =>
    intro c hc hz
    rw [if_pos ((zeroB_iff r).2 fun i hi => hz i (by omega))]
    rfl
  | succ n ih =>
    intro c hc hz
    by_cases h0 : r.getD c 0 = 0
    · have hcp : colP c r = false := by rw [colP, h0]; rfl
      rw [redF_none (by simp) (by simp [idxL, hcp])]
      exact ih (c + 1) (by omega) fun i hi => by
        by_cases e : i = c
        · rw [e]; exact h0
        · exact hz i (by omega)
    · have hcl : c < r.length := by omega
      have hb := hr (r.getD c 0) (by rw [getD_lt hcl]; exact List.getElem_mem _)
      have hzf : zeroB r = false := by
        cases h : zeroB r
        · rfl
        · exact absurd ((zeroB_iff r).1 h c hcl) h0
      have hcp : colP c r = true := by rw [colP]; exact bne_iff_ne.2 h0
      rw [redF_some (k := 0) (row := r) (head := scaleL p (invM p (r.getD c 0)) r) (by simp) (by simp [idxL, hcp]) rfl rfl, redF_nil (by simp), hzf]
      show [scaleL p (invM p (r.getD c 0)) r] = [rowS p r]
      rw [rowS_pre hp c r hcl hz (by omega) hb.2, inv_turned hp (by omega) hb.2]
theorem redP_one {p : Int} (hp : isPrimeB p = true) (row : List Int) (wd : Nat) (hl : row.length = wd) : redP p wd [row] = if zeroB (modL p row) then [] else [rowS p (modL p row)] := by
  have hb := isPrimeB_bd hp
  exact redF_one hp (modL p row) (modL_rng (by omega) row) wd 0 (by rw [modL_length]; omega) (fun i hi => by omega)

theorem RRI_one (w : World) (A : Option Addr) (n c : Nat) (row : List Int) (h : RI w A n row) : RRI (w.alloc (.cells #[.slice A n c] 32)) (some ⟨w.heap.size, 0, none⟩) 1 [row] := by
  refine ⟨rfl, by omega, w.heap.size, 0, .inr rfl, fun j hj => ?_⟩
  obtain rfl : j = 0 := by omega
  exact ⟨A, c, by rw [World.cell?_alloc_at _ _ _ _ rfl]; simp [h.1], by simpa [h.1] using h.alloc _⟩

set_option maxHeartbeats 1000000 in
theorem monic_zero (p : Int) (A : Option Addr) (n c : Nat) (row : List Int) (w : World) (hp : isPrimeB p = true) (hr : RI w A n row) (hn : 1 ≤ n) (hn2 : n ≤ 100) (hx : ∀ x ∈ row, -1000000000000 ≤ x ∧ x ≤ 1000000000000) (hz : zeroB (modL p row) = true) :
    Calls Try.prog 81 #[.int .i64 p, .slice A n c] w fun e w' => e = .returned (.slice none 0 0) ∧ Below w.heap.size w w' := by
  have hb := isPrimeB_bd hp
  have hl := hr.1
  have HRR := hid (RRI_one w A n c row hr)
  have HB := hid (below_alloc w (.cells #[.slice A n c] 32))
  have HP := hid (show redP p n [row] = [] by rw [redP_one hp row n hl, hz]; rfl)
  have HX := hid hx
  have HL := hid hl
  clear hz hx hr hl
  go_enter Try.func81, Try.ntmps81
  go_wp2_with fail
  refine (reduced_ok p _ 1 1 n [row] _ (by omega) hb.2 hn hn2 HRR.out (by simpa using HL.out) (by simpa using HX.out)).mono ?_
  rintro e w1 ⟨v, rs, rfl, hO, hI, hM, hB⟩
  rw [HP.out] at hM
  have h0 : rs = [] := by simpa using hM
  subst h0
  obtain ⟨Av, cv, rfl, _⟩ := hO.form
  have B1 := hid (below_trans HB.out hB)
  clear hO hI hM hB
  go_wp2
  go_ret
  exact ⟨rfl, B1.out⟩

set_option maxHeartbeats 1000000 in
theorem monic_one (p : Int) (A : Option Addr) (n c : Nat) (row : List Int) (w : World) (hp : isPrimeB p = true) (hr : RI w A n row) (hn : 1 ≤ n) (hn2 : n ≤ 100) (hx : ∀ x ∈ row, -1000000000000 ≤ x ∧ x ≤ 1000000000000) (hz : zeroB (modL p row) = false) :
    Calls Try.prog 81 #[.int .i64 p, .slice A n c] w fun e w' => ∃ g cap : Nat, e = .returned (.slice (some ⟨g, 0, none⟩) n cap) ∧ OI w' w.heap.size (.slice (some ⟨g, 0, none⟩) n cap) (rowS p (modL p row)) ∧ Below w.heap.size w w' := by
  have hb := isPrimeB_bd hp
  have hl := hr.1
  have HRR := hid (RRI_one w A n c row hr)
  have HB := hid (below_alloc w (.cells #[.slice A n c] 32))
  have HP := hid (show redP p n [row] = [rowS p (modL p row)] by rw [redP_one hp row n hl, hz]; rfl)
  have HLr := hid (show (rowS p (modL p row)).length = n by rw [rowS_length, modL_length, hl])
  have HX := hid hx
  have HL := hid hl
  clear hz hx hr hl
  go_enter Try.func81, Try.ntmps81
  go_wp2_with fail
  refine (reduced_ok p _ 1 1 n [row] _ (by omega) hb.2 hn hn2 HRR.out (by simpa using HL.out) (by simpa using HX.out)).mono ?_
  rintro e w1 ⟨v, rs, rfl, hO, hI, hM, hB⟩
  rw [HP.out] at hM
  obtain ⟨r, rfl, hrx⟩ : ∃ r : Rw, rs = [r] ∧ r.xs = rowS p (modL p row) := by
    have hlen : rs.length = 1 := by have := congrArg List.length hM; simpa using this
    obtain ⟨r, rfl⟩ := List.length_eq_one_iff.1 hlen
    exact ⟨r, rfl, by simpa using hM⟩
  obtain ⟨gv, cv, rfl, _, _, _, _, _, hc⟩ := hO.shape (by simp)
  have hc0 := hc 0 (by simp)
  have hrl : r.xs.length = n := by rw [hrx]; exact HLr.out
  have hv : rwV r = .slice (some ⟨r.g, 0, none⟩) n r.cap := by unfold rwV; rw [hrl]
  have e0 : ([r] : List Rw)[0] = r := rfl
  rw [e0, hv] at hc0
  have HOw := hid (show OI w1 w.heap.size (.slice (some ⟨r.g, 0, none⟩) n r.cap) (rowS p (modL p row)) from by
    have h := hI.own r (by simp)
    rw [hv, hrx] at h
    exact h.mono HB.out.size)
  have B1 := hid (below_trans HB.out hB)
  clear hO hI hM hB hc hrx hrl hv
  go_wp2
  go_ret
  exact ⟨_, _, rfl, HOw.out, B1.out⟩

def pbB (p : Int) (row : List Int) : Bool := !zeroB (modL p row)
def pbV (p : Int) (row : List Int) : Int × Int × Int := if pbB p row then ptRow p (modL p row) else (0, 0, 0)
set_option maxRecDepth 100000 in
set_option maxHeartbeats 2000000 in
theorem pointBy_ok (p : Int) (A : Option Addr) (c : Nat) (row : List Int) (w : World) (hp : isPrimeB p = true) (hr : RI w A 3 row) (hx : ∀ x ∈ row, -1000000000000 ≤ x ∧ x ≤ 1000000000000) :
    Calls Try.prog 58 #[.int .i64 p, .slice A 3 c] w fun e w' => e = .returned (.tuple #[ptVal (pbV p row), .bool (pbB p row)]) ∧ Below w.heap.size w w' := by
  have HR := hid (hr.alloc (.cells #[.int .i64 0, .int .i64 0, .int .i64 0] 35))
  have HI := hid (IBox.new w 0 0 0)
  have HB := hid (below_alloc w (.cells #[.int .i64 0, .int .i64 0, .int .i64 0] 35))
  have HX := hid hx
  have HLr := hid (show (rowS p (modL p row)).length = 3 by rw [rowS_length, modL_length, hr.1])
  have HV := hid (show pbV p row = if pbB p row then ptRow p (modL p row) else (0, 0, 0) from rfl)
  have HBb := hid (show pbB p row = !zeroB (modL p row) from rfl)
  clear hx hr
  have hn1 := fun (W : World) (a : Option Addr) (n c : Nat) => Lib.run_eql_slice_nil (P := Try.prog) W 32 3 a n c 0 0 Try.underlying32
  cases hz : zeroB (modL p row)
  · have HZ := hid hz
    have HBt := hid (show pbB p row = true by rw [HBb.out, hz]; rfl)
    have HPt := hid (show pbV p row = ((rowS p (modL p row)).getD 0 0, (rowS p (modL p row)).getD 1 0, (rowS p (modL p row)).getD 2 0) by rw [HV.out, HBt.out]; rfl)
    rw [HBt.out, HPt.out]
    generalize hx0 : (rowS p (modL p row)).getD 0 0 = x at *
    generalize hy0 : (rowS p (modL p row)).getD 1 0 = y at *
    generalize hz0 : (rowS p (modL p row)).getD 2 0 = z at *
    have HX0 := hid hx0
    have HY0 := hid hy0
    have HZ0 := hid hz0
    clear hz hx0 hy0 hz0 HPt
    go_enter Try.func58, Try.ntmps58
    go_wp2_with fail
    refine (monic_one p A 3 c row _ hp HR.out (by omega) (by omega) HX.out HZ.out).mono ?_
    rintro e w1 ⟨g, cap, rfl, ho, hb⟩
    obtain ⟨g', cap', hv, hg, hgl, hc⟩ := ho.shape (by rw [HLr.out]; omega)
    simp only [Value.slice.injEq, Option.some.injEq, Addr.mk.injEq, and_true] at hv
    obtain ⟨rfl, hzz, rfl⟩ := hv
    clear hzz
    have c0 := hc 0 (by rw [HLr.out]; omega)
    have c1 := hc 1 (by rw [HLr.out]; omega)
    have c2 := hc 2 (by rw [HLr.out]; omega)
    have I1 := hid (HI.out.below hb)
    have B1 := hid (below_trans HB.out hb)
    rw [HX0.out] at c0
    rw [HY0.out] at c1
    rw [HZ0.out] at c2
    clear hc ho hb
    obtain ⟨b0, b1, b2, f0, f1, f2⟩ := I1.out.cells
    have hat : ∀ W, (Instr.arrayAt 33 (.slice (some ⟨g, 0, none⟩) 3 cap)).run Try.prog W = .ok (.pointer (some ⟨g, 0, none⟩)) W := fun W => by kernel_rfl
    have I2 := hid (I1.out.put x y z)
    have B2 := hid (below_put B1.out (Nat.le_refl _) (.int .i64 x) (.int .i64 y) (.int .i64 z))
    obtain ⟨u0, u1, u2, _⟩ := I2.out.cells
    go_wp2
    refine bodyPost_ret (v := .tuple #[ptVal (x, y, z), .bool true]) (by simp [results, Try.results58, go_sem, ptVal, u0, u1, u2]) rfl ⟨rfl, ?_⟩
    with_reducible exact B2.out
  · have HZ := hid hz
    have HBt := hid (show pbB p row = false by rw [HBb.out, hz]; rfl)
    have HPt := hid (show pbV p row = (0, 0, 0) by rw [HV.out, HBt.out]; rfl)
    rw [HBt.out, HPt.out]
    clear hz
    go_enter Try.func58, Try.ntmps58
    go_wp2_with fail
    refine (monic_zero p A 3 c row _ hp HR.out (by omega) (by omega) HX.out HZ.out).mono ?_
    rintro e w1 ⟨rfl, hb⟩
    have I1 := hid (HI.out.below hb)
    have B1 := hid (below_trans HB.out hb)
    have I2 := hid (I1.out.put 0 0 0)
    have B2 := hid (below_put B1.out (Nat.le_refl _) (.int .i64 0) (.int .i64 0) (.int .i64 0))
    obtain ⟨b0, b1, b2, f0, f1, f2⟩ := I1.out.cells
    obtain ⟨u0, u1, u2, _⟩ := I2.out.cells
    clear hb
    go_wp2
    refine bodyPost_ret (v := .tuple #[ptVal (0, 0, 0), .bool false]) (by simp [results, Try.results58, go_sem, ptVal, u0, u1, u2]) rfl ⟨rfl, ?_⟩
    with_reducible exact B2.out

end Go.Proofs.Ytkhkcgoblibnpaa
