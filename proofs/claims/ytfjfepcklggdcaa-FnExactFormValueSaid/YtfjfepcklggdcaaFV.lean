/-
  The value of a form at a place; the law of FormValue.
-/
import Derived.Test.YtfjfepcklggdcaaE
import Derived.Test.YtfjfepcklggdcaaOn
import Derived.Test.YtfjfepcklggdcaaH
namespace Go.Proofs.Ytfjfepcklggdcaa
open Go.RowKit
set_option linter.unusedVariables false
set_option linter.unusedSimpArgs false

def st1 (i : Nat) : Nat := [0, 10, 16, 19, 20].getD i 0
def st2 (i j : Nat) : Nat := ([[0, 4, 7, 9, 10], [0, 10, 13, 15, 16], [0, 0, 16, 18, 19], [0, 0, 0, 19, 20]].getD i []).getD j 0
def tri (n : Nat) : Nat × Nat × Nat := [(0, 0, 0), (0, 0, 1), (0, 0, 2), (0, 0, 3), (0, 1, 1), (0, 1, 2), (0, 1, 3), (0, 2, 2), (0, 2, 3), (0, 3, 3), (1, 1, 1), (1, 1, 2), (1, 1, 3), (1, 2, 2), (1, 2, 3), (1, 3, 3), (2, 2, 2), (2, 2, 3), (2, 3, 3), (3, 3, 3)].getD n (0, 0, 0)

theorem st_f1 : ∀ i, i < 4 → st2 i i = st1 i ∧ st2 i 4 = st1 (i + 1) ∧ st1 i ≤ 20 := by decide
theorem st_f2 : ∀ i, i < 4 → ∀ j, j < 4 → i ≤ j → st2 i (j + 1) = st2 i j + (4 - j) ∧ st2 i j + (4 - j) ≤ 20 := by decide
set_option synthInstance.maxSize 1000 in
set_option synthInstance.maxHeartbeats 200000 in
theorem st_f3 : ∀ i, i < 4 → ∀ j, j < 4 → ∀ k, k < 4 → i ≤ j → j ≤ k → tri (st2 i j + (k - j)) = (i, j, k) := by decide
theorem st_facts (i : Nat) (hi : i < 4) : st2 i i = st1 i ∧ st2 i 4 = st1 (i + 1) ∧ st1 i ≤ 20 ∧ ∀ j, j < 4 → i ≤ j → st2 i (j + 1) = st2 i j + (4 - j) ∧ st2 i j + (4 - j) ≤ 20 ∧ ∀ k, k < 4 → j ≤ k → tri (st2 i j + (k - j)) = (i, j, k) :=
  ⟨(st_f1 i hi).1, (st_f1 i hi).2.1, (st_f1 i hi).2.2, fun j hj hij => ⟨(st_f2 i hi j hj hij).1, (st_f2 i hi j hj hij).2, fun k hk hjk => st_f3 i hi j hj k hk hij hjk⟩⟩

/-- The sum of the first products, never divided. -/
def frm (fs xs : List Int) : Nat → Int
  | 0 => 0
  | m + 1 => frm fs xs m + fs.getD m 0 * (xs.getD (tri m).1 0 * xs.getD (tri m).2.1 0) * xs.getD (tri m).2.2 0
/-- .. and as the other side has it. -/
def frmP (p : Int) (fs xs : List Int) : Nat → Int
  | 0 => 0
  | m + 1 => (frmP p fs xs m + fs.getD m 0 * xs.getD (tri m).1 0 % p * xs.getD (tri m).2.1 0 % p * xs.getD (tri m).2.2 0) % p

theorem frmP_eq (p : Int) (fs xs : List Int) (m : Nat) : frmP p fs xs m = frm fs xs m % p := by
  induction m with
  | zero => simp [frm, frmP]
  | succ m ih =>
    rw [frm, frmP, ih]
    generalize fs.getD m 0 = f
    generalize xs.getD (tri m).1 0 = a
    generalize xs.getD (tri m).2.1 0 = b
    generalize xs.getD (tri m).2.2 0 = c
    rw [Int.add_emod, Int.emod_emod, ← Int.add_emod]
    rw [Int.add_emod (frm fs xs m), Int.add_emod (frm fs xs m)]
    congr 2
    rw [Int.mul_emod (f * a % p * b % p), Int.emod_emod, Int.mul_emod (f * a % p) b, Int.emod_emod, ← Int.mul_emod (f * a) b, ← Int.mul_emod, Int.mul_assoc f a b]

theorem bd01 {xs : List Int} {B : Int} (hB : 0 ≤ B) (h : ∀ x ∈ xs, 0 ≤ x ∧ x ≤ B) (i : Nat) : 0 ≤ xs.getD i 0 ∧ xs.getD i 0 ≤ B := by
  by_cases hi : i < xs.length
  · rw [getD_lt hi]; exact h _ (List.getElem_mem _)
  · rw [List.getD_eq_getElem?_getD, List.getElem?_eq_none (by omega)]; simpa using hB

theorem frm_bd {fs xs : List Int} (hf : ∀ x ∈ fs, 0 ≤ x ∧ x ≤ 31) (hx : ∀ x ∈ xs, 0 ≤ x ∧ x ≤ 31) (m : Nat) : 0 ≤ frm fs xs m ∧ frm fs xs m ≤ m * 923521 := by
  induction m with
  | zero => simp [frm]
  | succ m ih =>
    rw [frm]
    have h0 := bd01 (by omega) hf m
    have h1 := bd01 (by omega) hx (tri m).1
    have h2 := bd01 (by omega) hx (tri m).2.1
    have h3 := bd01 (by omega) hx (tri m).2.2
    have k1 := mul_bd h1.1 h2.1 h1.2 h2.2
    have k2 := mul_bd h0.1 k1.1 h0.2 k1.2
    have k3 := mul_bd k2.1 h3.1 k2.2 h3.2
    omega

theorem drewN2 (w : World) (m n : Nat) : (w.drewN m).drewN n = w.drewN (m + n) := by simp [World.drewN, Nat.add_assoc]

theorem rem_rng {p n : Int} (hp : 1 ≤ p) (hn : 0 ≤ n) : 0 ≤ n % p ∧ n % p < p := ⟨Int.emod_nonneg _ (by omega), Int.emod_lt_of_pos _ (by omega)⟩
theorem frmP_bd (p : Int) (hp : 1 ≤ p) (fs xs : List Int) (m : Nat) : 0 ≤ frmP p fs xs m ∧ frmP p fs xs m < p := by
  cases m with
  | zero => simp [frmP]; omega
  | succ m => rw [frmP]; exact ⟨Int.emod_nonneg _ (by omega), Int.emod_lt_of_pos _ (by omega)⟩

set_option maxHeartbeats 1000000 in
theorem valueAt_ok (p : Int) (A : Option Addr) (c : Nat) (fs : List Int) (A' : Option Addr) (c' : Nat) (xs : List Int) (w : World) (hr : RI w A 20 fs) (hr' : RI w A' 4 xs) (hp : 1 ≤ p) (hp2 : p ≤ 31) (hf : ∀ x ∈ fs, 0 ≤ x ∧ x ≤ 31) (hx : ∀ x ∈ xs, 0 ≤ x ∧ x ≤ 31) :
    Calls Try.prog 61 #[.int .i64 p, .slice A 20 c, .slice A' 4 c'] w fun e w' => e = .returned (.int .i64 (frm fs xs 20 % p)) ∧ Below w.heap.size w w' := by
  obtain ⟨hl, _, b, off, hA, hc⟩ := hr
  obtain ⟨hl', _, b', off', hA', hc'⟩ := hr'
  obtain rfl : A = some ⟨b, off, none⟩ := by rcases hA with h | h; omega; exact h
  obtain rfl : A' = some ⟨b', off', none⟩ := by rcases hA' with h | h; omega; exact h
  have HC := hid hc
  have HC' := hid hc'
  have HF := hid (fun i => bd01 (by omega) hf i)
  have HX := hid (fun i => bd01 (by omega) hx i)
  have HS := hid (fun m => frm_bd hf hx m)
  clear hc hc' hf hx hA hA'
  go_enter Try.func61, Try.ntmps61
  go_wp2
  go_loopw [7, 8, 13] (fun s t u wr => ∃ i : Nat, i ≤ 4 ∧ u = .int .i64 i ∧ t = .int .i64 (st1 i) ∧ s = .int .i64 (frm fs xs (st1 i)) ∧ ∃ m, wr = w.drewN m) (fun _ _ u _ => 4 - (intOf u).toNat)
  case atStart => exact ⟨0, by omega, rfl, rfl, rfl, 0, rfl⟩
  case round =>
    obtain ⟨i, hi, rfl, rfl, rfl, mi, rfl⟩ := hrel
    by_cases hlt : i < 4
    · have HT := hid (st_facts i hlt)
      have hs1 : st1 i ≤ 20 := HT.out.2.2.1
      go_wp2
      go_loopw [7, 8, 10] (fun s t u wr => ∃ j : Nat, i ≤ j ∧ j ≤ 4 ∧ u = .int .i64 j ∧ t = .int .i64 (st2 i j) ∧ s = .int .i64 (frm fs xs (st2 i j)) ∧ ∃ m, wr = w.drewN m) (fun _ _ u _ => 4 - (intOf u).toNat)
      case atStart => exact ⟨i, by omega, by omega, rfl, by rw [HT.out.1], by rw [HT.out.1], mi, rfl⟩
      case round =>
        obtain ⟨j, hij, hj, rfl, rfl, rfl, mj, rfl⟩ := hrel
        by_cases hjlt : j < 4
        · have HJ := hid (HT.out.2.2.2 j hjlt hij)
          have hai := HC'.out i hlt
          have haj := HC'.out j hjlt
          have hxi := (HX.out i)
          have hxj := (HX.out j)
          have HM := hid (mul_bd hxi.1 hxj.1 hxi.2 hxj.2)
          have hm0 := HM.out.1
          have hm1 := HM.out.2
          have HAI := hid (rfl : xs.getD i 0 = xs.getD i 0)
          have HAJ := hid (rfl : xs.getD j 0 = xs.getD j 0)
          clear hxi hxj HM
          generalize hgi : xs.getD i 0 = ai at hai hm0 hm1
          generalize hgj : xs.getD j 0 = aj at haj hm0 hm1
          have HGI := hid hgi
          have HGJ := hid hgj
          generalize hgq : st2 i j = q at *
          have HGQ := hid hgq
          clear hgi hgj HAI HAJ hgq
          have hq20 : q ≤ 20 := by have := HJ.out.2.1; omega
          go_wp2
          go_quiet (fail)
          go_wp2
          go_loopw [7, 8, 12] (fun s t u wr => ∃ k r : Nat, j ≤ k ∧ k ≤ 4 ∧ r = q + (k - j) ∧ u = .int .i64 k ∧ t = .int .i64 r ∧ s = .int .i64 (frm fs xs r) ∧ ∃ m, wr = w.drewN m) (fun _ _ u _ => 4 - (intOf u).toNat)
          case atStart => exact ⟨j, q, by omega, by omega, by omega, rfl, rfl, rfl, _, drewN2 _ _ _⟩
          case round =>
            obtain ⟨k, r, hjk, hk, hr0, rfl, rfl, rfl, mk, rfl⟩ := hrel
            have HRQ := hid hr0
            clear hr0
            by_cases hklt : k < 4
            · have HK := hid (HJ.out.2.2 k hklt hjk)
              rw [← HRQ.out] at HK
              have hr20 : r < 20 := by have := HJ.out.2.1; have := HRQ.out; omega
              have hfr := HC.out r hr20
              have hak := HC'.out k hklt
              have HN := hid (show frm fs xs (r + 1) = frm fs xs r + fs.getD r 0 * (ai * aj) * xs.getD k 0 by rw [frm, HK.out]; simp only; rw [HGI.out, HGJ.out])
              have hb0 := HF.out r
              have hb1 := HX.out k
              have hm2 := mul_bd hb0.1 hm0 hb0.2 hm1
              have hm3 := mul_bd hm2.1 hb1.1 hm2.2 hb1.2
              have hs := HS.out r
              generalize xs.getD k 0 = ak at *
              generalize fs.getD r 0 = fr at *
              generalize frm fs xs r = s at *
              have n0 := hm2.1
              have n1 := hm2.2
              have n2 := hm3.1
              have n3 := hm3.2
              have n4 := hs.1
              have n5 : s ≤ 20 * 923521 := by have := hs.2; omega
              clear hm2 hm3 hs hb0 hb1
              go_wp2
              go_quiet (fail)
              go_wp2
              go_roundw
              case rel => exact ⟨k + 1, r + 1, by omega, by omega, by have := HRQ.out; omega, by go_num, by go_num, by rw [HN.out], _, rfl⟩
              case measure => simp [intOf]; omega
            · obtain rfl : k = 4 := by omega
              go_wp2
              go_roundw
              case rel => exact ⟨j + 1, by omega, by omega, by go_num, by rw [HJ.out.1, HRQ.out], by rw [HJ.out.1, HRQ.out], mk, rfl⟩
              case measure => simp [intOf]; omega
        · obtain rfl : j = 4 := by omega
          go_wp2
          go_roundw
          case rel => exact ⟨i + 1, by omega, by go_num, by rw [HT.out.2.1], by rw [HT.out.2.1], mj, rfl⟩
          case measure => simp [intOf]; omega
    · obtain rfl : i = 4 := by omega
      have hs := HS.out 20
      have HE := hid (show st1 4 = 20 from rfl)
      have HV := hid (show (frm fs xs 20).tmod p = frm fs xs 20 % p from Int.tmod_eq_emod_of_nonneg hs.1)
      rw [HE.out]
      generalize hgs : frm fs xs 20 = s at *
      have HGS := hid hgs
      clear hgs
      have n4 := hs.1
      have n5 := hs.2
      clear hs
      go_wp2
      go_ret
      exact ⟨by simp [HGS.out], below_drewN (Below.refl _ _) _⟩

set_option maxHeartbeats 1000000 in
theorem l6sValue_ok (p : Int) (A : Option Addr) (c : Nat) (fs : List Int) (A' : Option Addr) (c' : Nat) (xs : List Int) (w : World) (hr : RI w A 20 fs) (hr' : RI w A' 4 xs) (hp : 1 ≤ p) (hp2 : p ≤ 31) (hf : ∀ x ∈ fs, 0 ≤ x ∧ x ≤ 31) (hx : ∀ x ∈ xs, 0 ≤ x ∧ x ≤ 31) :
    Calls Try.prog 60 #[.int .i64 p, .slice A 20 c, .slice A' 4 c'] w fun e w' => e = .returned (.int .i64 (frmP p fs xs 20)) ∧ Below w.heap.size w w' := by
  obtain ⟨hl, _, b, off, hA, hc⟩ := hr
  obtain ⟨hl', _, b', off', hA', hc'⟩ := hr'
  obtain rfl : A = some ⟨b, off, none⟩ := by rcases hA with h | h; omega; exact h
  obtain rfl : A' = some ⟨b', off', none⟩ := by rcases hA' with h | h; omega; exact h
  have HC := hid hc
  have HC' := hid hc'
  have HF := hid (fun i => bd01 (by omega) hf i)
  have HX := hid (fun i => bd01 (by omega) hx i)
  have HS := hid (fun m => frmP_bd p hp fs xs m)
  clear hc hc' hf hx hA hA'
  go_enter Try.func60, Try.ntmps60
  go_wp2
  go_loopw [7, 8, 9] (fun s t u wr => ∃ i : Nat, i ≤ 4 ∧ u = .int .i64 i ∧ t = .int .i64 (st1 i) ∧ s = .int .i64 (frmP p fs xs (st1 i)) ∧ ∃ m, wr = w.drewN m) (fun _ _ u _ => 4 - (intOf u).toNat)
  case atStart => exact ⟨0, by omega, rfl, rfl, rfl, 0, rfl⟩
  case round =>
    obtain ⟨i, hi, rfl, rfl, rfl, mi, rfl⟩ := hrel
    by_cases hlt : i < 4
    · have HT := hid (st_facts i hlt)
      have hs1 : st1 i ≤ 20 := HT.out.2.2.1
      go_wp2
      go_loopw [7, 8, 10] (fun s t u wr => ∃ j : Nat, i ≤ j ∧ j ≤ 4 ∧ u = .int .i64 j ∧ t = .int .i64 (st2 i j) ∧ s = .int .i64 (frmP p fs xs (st2 i j)) ∧ ∃ m, wr = w.drewN m) (fun _ _ u _ => 4 - (intOf u).toNat)
      case atStart => exact ⟨i, by omega, by omega, rfl, by rw [HT.out.1], by rw [HT.out.1], mi, rfl⟩
      case round =>
        obtain ⟨j, hij, hj, rfl, rfl, rfl, mj, rfl⟩ := hrel
        by_cases hjlt : j < 4
        · have HJ := hid (HT.out.2.2.2 j hjlt hij)
          have hai := HC'.out i hlt
          have haj := HC'.out j hjlt
          have hxi := (HX.out i)
          have hxj := (HX.out j)
          have hai0 := hxi
          have haj0 := hxj
          have HAI := hid (rfl : xs.getD i 0 = xs.getD i 0)
          have HAJ := hid (rfl : xs.getD j 0 = xs.getD j 0)
          clear hxi hxj
          generalize hgi : xs.getD i 0 = ai at hai hai0
          generalize hgj : xs.getD j 0 = aj at haj haj0
          have HGI := hid hgi
          have HGJ := hid hgj
          generalize hgq : st2 i j = q at *
          have HGQ := hid hgq
          clear hgi hgj HAI HAJ hgq
          have hq20 : q ≤ 20 := by have := HJ.out.2.1; omega
          go_wp2
          go_loopw [7, 8, 11] (fun s t u wr => ∃ k r : Nat, j ≤ k ∧ k ≤ 4 ∧ r = q + (k - j) ∧ u = .int .i64 k ∧ t = .int .i64 r ∧ s = .int .i64 (frmP p fs xs r) ∧ ∃ m, wr = w.drewN m) (fun _ _ u _ => 4 - (intOf u).toNat)
          case atStart => exact ⟨j, q, by omega, by omega, by omega, rfl, rfl, rfl, mj, rfl⟩
          case round =>
            obtain ⟨k, r, hjk, hk, hr0, rfl, rfl, rfl, mk, rfl⟩ := hrel
            have HRQ := hid hr0
            clear hr0
            by_cases hklt : k < 4
            · have HK := hid (HJ.out.2.2 k hklt hjk)
              rw [← HRQ.out] at HK
              have hr20 : r < 20 := by have := HJ.out.2.1; have := HRQ.out; omega
              have hfr := HC.out r hr20
              have hak := HC'.out k hklt
              have HN := hid (show frmP p fs xs (r + 1) = (frmP p fs xs r + fs.getD r 0 * ai % p * aj % p * xs.getD k 0) % p by rw [frmP, HK.out]; simp only; rw [HGI.out, HGJ.out])
              have hb0 := HF.out r
              have hb1 := HX.out k
              have hs := HS.out r
              generalize xs.getD k 0 = ak at *
              generalize fs.getD r 0 = fr at *
              generalize frmP p fs xs r = s at *
              have k1 := mul_bd hb0.1 hai0.1 hb0.2 hai0.2
              have u1 := rem_rng hp k1.1
              have v1 : (fr * ai).tmod p = fr * ai % p := Int.tmod_eq_emod_of_nonneg k1.1
              generalize fr * ai % p = u at *
              have k2 := mul_bd u1.1 haj0.1 (show u ≤ 31 by omega) haj0.2
              have u2 := rem_rng hp k2.1
              have v2 : (u * aj).tmod p = u * aj % p := Int.tmod_eq_emod_of_nonneg k2.1
              generalize u * aj % p = v at *
              have k3 := mul_bd u2.1 hb1.1 (show v ≤ 31 by omega) hb1.2
              have v3 : (s + v * ak).tmod p = (s + v * ak) % p := Int.tmod_eq_emod_of_nonneg (by omega)
              have n0 := k1.1
              have n1 := k1.2
              have n2 := k2.1
              have n3 := k2.2
              have n4 := k3.1
              have n5 := k3.2
              have n6 := hs.1
              have n7 := hs.2
              have n8 := u1.1
              have n9 := u1.2
              have n10 := u2.1
              have n11 := u2.2
              clear k1 k2 k3 hs hb0 hb1 u1 u2
              go_wp2
              go_quiet (fail)
              go_wp2
              go_roundw
              case rel => exact ⟨k + 1, r + 1, by omega, by omega, by have := HRQ.out; omega, by go_num, by go_num, by rw [HN.out], _, rfl⟩
              case measure => simp [intOf]; omega
            · obtain rfl : k = 4 := by omega
              go_wp2
              go_roundw
              case rel => exact ⟨j + 1, by omega, by omega, by go_num, by rw [HJ.out.1, HRQ.out], by rw [HJ.out.1, HRQ.out], mk, rfl⟩
              case measure => simp [intOf]; omega
        · obtain rfl : j = 4 := by omega
          go_wp2
          go_roundw
          case rel => exact ⟨i + 1, by omega, by go_num, by rw [HT.out.2.1], by rw [HT.out.2.1], mj, rfl⟩
          case measure => simp [intOf]; omega
    · obtain rfl : i = 4 := by omega
      have hs := HS.out 20
      have HE := hid (show st1 4 = 20 from rfl)
      rw [HE.out]
      generalize hgs : frmP p fs xs 20 = s at *
      have HGS := hid hgs
      clear hgs
      have n4 := hs.1
      have n5 := hs.2
      clear hs
      go_wp2
      go_ret
      exact ⟨by simp [HGS.out], below_drewN (Below.refl _ _) _⟩

def formB (p : Int) (fs xs : List Int) : Bool := specNumbersB p fs 20 && specPlaceB p xs
def formV (p : Int) (fs xs : List Int) : Int := if formB p fs xs then frm fs xs 20 % p else 0

theorem specNumbers_prime {p : Int} {xs : List Int} {m : Int} (h : specNumbersB p xs m = true) : isPrimeB p = true := by
  simp [specNumbersB] at h; exact h.2.1
theorem specNumbers_len {p : Int} {xs : List Int} {m : Int} (h : specNumbersB p xs m = true) : (xs.length : Int) = m := by
  simp [specNumbersB] at h; exact h.2.2
theorem specNumbers_bd {p : Int} {xs : List Int} {m : Int} (h : specNumbersB p xs m = true) : ∀ x ∈ xs, 0 ≤ x ∧ x < p := by
  rw [specNumbersB, Bool.and_eq_true] at h; exact all_inP_bd h.1
theorem specNumbers_bd31 {p : Int} {xs : List Int} {m : Int} (h : specNumbersB p xs m = true) : ∀ x ∈ xs, 0 ≤ x ∧ x ≤ 31 := by
  intro x hx
  have := specNumbers_bd h x hx
  have := isPrimeB_bd (specNumbers_prime h)
  omega
theorem specPlace_bd31 {p : Int} {xs : List Int} (h : specPlaceB p xs = true) : ∀ x ∈ xs, 0 ≤ x ∧ x ≤ 31 := by
  rw [specPlaceB, Bool.and_eq_true, Bool.and_eq_true, Bool.and_eq_true] at h
  have hp := isPrimeB_bd h.1.1
  intro x hx
  have := all_inP_bd h.2.1 x hx
  omega

set_option maxHeartbeats 1000000 in
theorem implFormValue_ok (p : Int) (A : Option Addr) (n c : Nat) (fs : List Int) (A' : Option Addr) (n' c' : Nat) (xs : List Int) (w : World) (hr : RI w A n fs) (hr' : RI w A' n' xs) :
    Calls Try.prog 40 #[.int .i64 p, .slice A n c, .slice A' n' c'] w fun e w' => e = .returned (.tuple #[.int .i64 (formV p fs xs), .bool (formB p fs xs)]) ∧ Below w.heap.size w w' := by
  have HR := hid hr
  have HR' := hid hr'
  have hnum := hid (numbers_alike p fs 20)
  have hpla := hid (places_alike p xs)
  have HV := hid (show formV p fs xs = if formB p fs xs then frm fs xs 20 % p else 0 from rfl)
  have HB := hid (show formB p fs xs = (specNumbersB p fs 20 && specPlaceB p xs) from rfl)
  clear hr hr'
  cases h1 : specNumbersB p fs 20
  · have H1 := hid h1
    clear h1
    have HB1 := hid (show formB p fs xs = false by rw [HB.out, H1.out]; rfl)
    go_enter Try.func40, Try.ntmps40
    go_wp2_with fail
    refine (areNumbers_ok p 20 A n c fs _ HR.out).mono ?_
    rintro e w1 ⟨rfl, b1⟩
    have B1 := hid b1
    have R1 := hid (HR.out.below b1)
    have R1' := hid (HR'.out.below b1)
    clear b1
    rw [hnum.out, H1.out]
    go_wp2
    go_ret2
    exact ⟨by rw [HV.out, HB1.out]; rfl, B1.out⟩
  · have H1 := hid h1
    clear h1
    cases h2 : specPlaceB p xs
    · have H2 := hid h2
      clear h2
      have HB1 := hid (show formB p fs xs = false by rw [HB.out, H1.out, H2.out]; rfl)
      go_enter Try.func40, Try.ntmps40
      go_wp2_with fail
      refine (areNumbers_ok p 20 A n c fs _ HR.out).mono ?_
      rintro e w1 ⟨rfl, b1⟩
      have B1 := hid b1
      have R1 := hid (HR.out.below b1)
      have R1' := hid (HR'.out.below b1)
      clear b1
      rw [hnum.out, H1.out]
      go_wp2_with fail
      refine (isPlace_ok p A' n' c' xs _ R1'.out).mono ?_
      rintro e w2 ⟨rfl, b2⟩
      have B2 := hid (below_trans B1.out b2)
      clear b2
      rw [hpla.out, H2.out]
      go_wp2
      go_ret2
      exact ⟨by rw [HV.out, HB1.out]; rfl, B2.out⟩
    · have H2 := hid h2
      have hl := specNumbers_len H1.out
      have hl' := (specPlaceB_monic h2).1
      have hpb := isPrimeB_bd (specNumbers_prime H1.out)
      have HF := hid (specNumbers_bd31 H1.out)
      have HX := hid (specPlace_bd31 H2.out)
      obtain rfl : n = 20 := by have := HR.out.1; omega
      obtain rfl : n' = 4 := by have := HR'.out.1; omega
      clear h2 hl hl'
      have HB1 := hid (show formB p fs xs = true by rw [HB.out, H1.out, H2.out]; rfl)
      go_enter Try.func40, Try.ntmps40
      go_wp2_with fail
      refine (areNumbers_ok p 20 A 20 c fs _ HR.out).mono ?_
      rintro e w1 ⟨rfl, b1⟩
      have B1 := hid b1
      have R1 := hid (HR.out.below b1)
      have R1' := hid (HR'.out.below b1)
      clear b1
      rw [hnum.out, H1.out]
      go_wp2_with fail
      refine (isPlace_ok p A' 4 c' xs _ R1'.out).mono ?_
      rintro e w2 ⟨rfl, b2⟩
      have B2 := hid (below_trans B1.out b2)
      have R2 := hid (R1.out.below b2)
      have R2' := hid (R1'.out.below b2)
      clear b2
      rw [hpla.out, H2.out]
      go_wp2_with fail
      refine (valueAt_ok p A c fs A' c' xs _ R2.out R2'.out (by omega) (by omega) HF.out HX.out).mono ?_
      rintro e w3 ⟨rfl, b3⟩
      have B3 := hid (below_trans B2.out b3)
      clear b3
      go_wp2
      go_ret2
      exact ⟨by rw [HV.out, HB1.out]; rfl, B3.out⟩

set_option maxHeartbeats 1000000 in
theorem specFormValue_ok (p : Int) (A : Option Addr) (n c : Nat) (fs : List Int) (A' : Option Addr) (n' c' : Nat) (xs : List Int) (w : World) (hr : RI w A n fs) (hr' : RI w A' n' xs) :
    Calls Try.prog 39 #[.int .i64 p, .slice A n c, .slice A' n' c'] w fun e w' => e = .returned (.tuple #[.int .i64 (formV p fs xs), .bool (formB p fs xs)]) ∧ Below w.heap.size w w' := by
  have HR := hid hr
  have HR' := hid hr'
  have hnum := hid (numbers_alike p fs 20)
  have hpla := hid (places_alike p xs)
  have HV := hid (show formV p fs xs = if formB p fs xs then frm fs xs 20 % p else 0 from rfl)
  have HB := hid (show formB p fs xs = (specNumbersB p fs 20 && specPlaceB p xs) from rfl)
  clear hr hr'
  cases h1 : specNumbersB p fs 20
  · have H1 := hid h1
    clear h1
    have HB1 := hid (show formB p fs xs = false by rw [HB.out, H1.out]; rfl)
    go_enter Try.func39, Try.ntmps39
    go_wp2_with fail
    refine (specFormIn_ok p A n c fs _ HR.out).mono ?_
    rintro e w1 ⟨rfl, rfl⟩
    have B1 := hid (Below.refl w.heap.size w)
    have R1 := hid HR.out
    have R1' := hid HR'.out
    rw [H1.out]
    go_wp2
    go_ret2
    exact ⟨by rw [HV.out, HB1.out]; rfl, B1.out⟩
  · have H1 := hid h1
    clear h1
    cases h2 : specPlaceB p xs
    · have H2 := hid h2
      clear h2
      have HB1 := hid (show formB p fs xs = false by rw [HB.out, H1.out, H2.out]; rfl)
      go_enter Try.func39, Try.ntmps39
      go_wp2_with fail
      refine (specFormIn_ok p A n c fs _ HR.out).mono ?_
      rintro e w1 ⟨rfl, rfl⟩
      have B1 := hid (Below.refl w.heap.size w)
      have R1 := hid HR.out
      have R1' := hid HR'.out
      rw [H1.out]
      go_wp2_with fail
      refine (specPlaceIn_ok p A' n' c' xs _ R1'.out).mono ?_
      rintro e w2 ⟨rfl, b2⟩
      have B2 := hid (below_trans B1.out b2)
      clear b2
      rw [H2.out]
      go_wp2
      go_ret2
      exact ⟨by rw [HV.out, HB1.out]; rfl, B2.out⟩
    · have H2 := hid h2
      have hl := specNumbers_len H1.out
      have hl' := (specPlaceB_monic h2).1
      have hpb := isPrimeB_bd (specNumbers_prime H1.out)
      have HF := hid (specNumbers_bd31 H1.out)
      have HX := hid (specPlace_bd31 H2.out)
      obtain rfl : n = 20 := by have := HR.out.1; omega
      obtain rfl : n' = 4 := by have := HR'.out.1; omega
      clear h2 hl hl'
      have HB1 := hid (show formB p fs xs = true by rw [HB.out, H1.out, H2.out]; rfl)
      go_enter Try.func39, Try.ntmps39
      go_wp2_with fail
      refine (specFormIn_ok p A 20 c fs _ HR.out).mono ?_
      rintro e w1 ⟨rfl, rfl⟩
      have B1 := hid (Below.refl w.heap.size w)
      have R1 := hid HR.out
      have R1' := hid HR'.out
      rw [H1.out]
      go_wp2_with fail
      refine (specPlaceIn_ok p A' 4 c' xs _ R1'.out).mono ?_
      rintro e w2 ⟨rfl, b2⟩
      have B2 := hid (below_trans B1.out b2)
      have R2 := hid (R1.out.below b2)
      have R2' := hid (R1'.out.below b2)
      clear b2
      rw [H2.out]
      go_wp2_with fail
      refine (l6sValue_ok p A c fs A' c' xs _ R2.out R2'.out (by omega) (by omega) HF.out HX.out).mono ?_
      rintro e w3 ⟨rfl, b3⟩
      have B3 := hid (below_trans B2.out b3)
      clear b3
      go_wp2
      go_ret2
      exact ⟨by rw [HV.out, HB1.out]; rw [frmP_eq]; rfl, B3.out⟩

set_option maxHeartbeats 1000000 in
theorem FnExactFormValue_ok (p : Int) (A : Option Addr) (n c : Nat) (fs : List Int) (A' : Option Addr) (n' c' : Nat) (xs : List Int) (w : World) (hp : (Lit.int .i64 p).wf = true) (hr : n ≤ 1048576 → RI w A n fs) (hr' : n' ≤ 1048576 → RI w A' n' xs) :
    Calls Try.prog 13 #[.int .i64 p, .slice A n c, .slice A' n' c'] w fun e w' => e = .returned (.bool true) ∧ Below w.heap.size w w' := by
  by_cases hb : n ≤ 1048576
  · by_cases hb' : n' ≤ 1048576
    · have HR := hid (hr hb)
      have HR' := hid (hr' hb')
      clear hr hr'
      go_enter Try.func13, Try.ntmps13
      go_wp2_with fail
      refine (toIntS_ri A n c fs _ HR.out).mono ?_
      rintro e w1 ⟨A1, c1, rfl, r1, b1⟩
      have R1 := hid r1
      have B1 := hid b1
      clear r1 b1
      go_wp2_with fail
      refine (toIntS_ri A' n' c' xs _ (HR'.out.below B1.out)).mono ?_
      rintro e w2 ⟨A2, c2, rfl, r2, b2⟩
      have R2 := hid r2
      have B2 := hid (below_trans B1.out b2)
      have R12 := hid (R1.out.below b2)
      clear r2 b2
      go_wp2_with fail
      refine (specFormValue_ok p A1 n c1 fs A2 n' c2 xs _ R12.out R2.out).mono ?_
      rintro e w3 ⟨rfl, b3⟩
      have B3 := hid (below_trans B2.out b3)
      clear b3
      go_wp2_with fail
      refine (toIntS_ri A n c fs _ (HR.out.below B3.out)).mono ?_
      rintro e w4 ⟨A4, c4, rfl, r4, b4⟩
      have R4 := hid r4
      have B4 := hid (below_trans B3.out b4)
      clear r4 b4
      go_wp2_with fail
      refine (toIntS_ri A' n' c' xs _ (HR'.out.below B4.out)).mono ?_
      rintro e w5 ⟨A5, c5, rfl, r5, b5⟩
      have R5 := hid r5
      have B5 := hid (below_trans B4.out b5)
      have R45 := hid (R4.out.below b5)
      clear r5 b5
      go_wp2_with fail
      refine (implFormValue_ok p A4 n c4 fs A5 n' c5 xs _ R45.out R5.out).mono ?_
      rintro e w6 ⟨rfl, b6⟩
      have B6 := hid (below_trans B5.out b6)
      have R46 := hid (R45.out.below b6)
      have R56 := hid (R5.out.below b6)
      clear b6
      generalize formV p fs xs = V
      generalize formB p fs xs = D
      have hne : (V != V) = false := by simp
      have hne2 : (D != D) = false := by simp
      go_wp2_with fail
      refine (toIntS_ri A n c fs _ (HR.out.below B6.out)).mono ?_
      rintro e w7 ⟨A7, c7, rfl, r7, b7⟩
      have R7 := hid r7
      have B7 := hid (below_trans B6.out b7)
      have R47 := hid (R46.out.below b7)
      have R57 := hid (R56.out.below b7)
      clear r7 b7
      go_wp2_with fail
      refine (eqIntS_ok A4 n c4 fs A7 n c7 fs _ R47.out R7.out).mono ?_
      rintro e w8 ⟨rfl, b8⟩
      have B8 := hid (below_trans B7.out b8)
      have R58 := hid (R57.out.below b8)
      clear b8
      rw [beq_self_eq_true]
      go_wp2_with fail
      refine (toIntS_ri A' n' c' xs _ (HR'.out.below B8.out)).mono ?_
      rintro e w9 ⟨A9, c9, rfl, r9, b9⟩
      have R9 := hid r9
      have B9 := hid (below_trans B8.out b9)
      have R59 := hid (R58.out.below b9)
      clear r9 b9
      go_wp2_with fail
      refine (eqIntS_ok A5 n' c5 xs A9 n' c9 xs _ R59.out R9.out).mono ?_
      rintro e w10 ⟨rfl, b10⟩
      have B10 := hid (below_trans B9.out b10)
      clear b10
      rw [beq_self_eq_true]
      go_wp2
      go_ret
      exact ⟨rfl, B10.out⟩
    · clear hr hr'
      go_enter Try.func13, Try.ntmps13
      go_wp2
      go_ret
      exact ⟨rfl, Below.refl _ _⟩
  · clear hr hr'
    go_enter Try.func13, Try.ntmps13
    go_wp2
    go_ret
    exact ⟨rfl, Below.refl _ _⟩

end Go.Proofs.Ytfjfepcklggdcaa
