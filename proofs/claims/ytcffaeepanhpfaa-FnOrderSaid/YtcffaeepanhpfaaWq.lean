/-
  Contracts: whether a list is sorted. The order of a word, plain.
-/
import Derived.Test.YtcffaeepanhpfaaWl
import Derived.Test.YtcffaeepanhpfaaWo
namespace Go.Proofs.Ytcffaeepanhpfaa
open Go.RowKit
set_option linter.unusedVariables false
set_option linter.unusedSimpArgs false

/-- A callee that turns nothing, inside a region that draws its order, behind other draws. -/
theorem quiet_same2 {P : Program} {f : FuncId} {args : Array Value} {w : World} {m n : Nat} {v : Value}
    (h : Calls P f args (w.drewN (m + n)) fun e w' => e = .returned v ∧ w.drewN (m + n) = w') : Calls P f args (w.drewN (m + n)) fun e w'' => e = .returned v ∧ ∃ k, w'' = w.drewN (m + k) :=
  h.mono fun _ _ ⟨he, hm⟩ => ⟨he, n, hm.symm⟩
def srtB (xs : List Int) : Bool := (List.range (xs.length - 1)).all (fun i => decide (xs.getD i 0 ≤ xs.getD (i + 1) 0))
theorem srtB_yes {xs : List Int} (h : ∀ j, 0 ≤ j → j + 1 < xs.length → xs.getD j 0 ≤ xs.getD (j + 1) 0) : srtB xs = true := by
  rw [srtB, List.all_eq_true]
  intro i hi
  rw [List.mem_range] at hi
  simpa using h i (by omega) (by omega)
theorem srtB_no {xs : List Int} {j : Nat} (hj : j + 1 < xs.length) (h : xs.getD (j + 1) 0 < xs.getD j 0) : srtB xs = false := by
  rw [srtB, List.all_eq_false]
  exact ⟨j, by rw [List.mem_range]; omega, by simp only [decide_eq_true_eq]; omega⟩

theorem isNaN_ok (x : Int) (w : World) : Calls Try.prog 65 #[.int .i64 x] w fun e w' => e = .returned (.bool false) ∧ w = w' := by
  have hx : (x != x) = false := by simp
  go_enter Try.func65, Try.ntmps65
  go_wp2
  go_ret
  exact ⟨rfl, rfl⟩
theorem Less_ok (x y : Int) (w : World) : Calls Try.prog 54 #[.int .i64 x, .int .i64 y] w fun e w' => e = .returned (.bool (decide (x < y))) ∧ w = w' := by
  go_enter Try.func54, Try.ntmps54
  go_wp2_with (go_at_call 65; refine (isNaN_ok _ _).mono ?_; rintro e w' ⟨rfl, rfl⟩)
  go_ret
  exact ⟨rfl, rfl⟩

set_option maxRecDepth 100000 in
set_option maxHeartbeats 2000000 in
theorem IsSorted_ok (A : Option Addr) (n c : Nat) (xs : List Int) (w : World) (hr : RI w A n xs) :
    Calls Try.prog 37 #[.slice A n c] w fun e w' => e = .returned (.bool (srtB xs)) ∧ ∃ m, w' = w.drewN m := by
  obtain ⟨hl, hn, b, off, hA, hc⟩ := hr
  have HC := hid hc
  have HL := hid hl
  clear hc hl
  go_enter Try.func37, Try.ntmps37
  go_wp2
  go_loopg [3] n (fun gk t wr => ∃ i m : Nat, i ≤ n ∧ gk = i ∧ t = .int .i64 ((i : Int) - 1) ∧ (∀ j, i ≤ j + 1 → j + 1 < n → xs.getD j 0 ≤ xs.getD (j + 1) 0) ∧ wr = w.drewN m)
  case atStart => exact ⟨n, 0, by omega, rfl, by go_num, fun j h1 h2 => by omega, rfl⟩
  case round =>
    obtain ⟨i, m, hi, hgk, rfl, hs, rfl⟩ := hrel
    have HS := hid hs
    have HGk := hid hgk
    clear hs hgk
    by_cases hlt : 2 ≤ i
    · obtain ⟨k, rfl⟩ : ∃ k, i = k + 2 := ⟨i - 2, by omega⟩
      obtain rfl : A = some ⟨b, off, none⟩ := by rcases hA with h | h; omega; exact h
      have c1 := HC.out (k + 1) (by omega)
      have c0 := HC.out k (by omega)
      have hiz : ((k + 2 : Nat) : Int) - 1 = ((k + 1 : Nat) : Int) := by omega
      rw [hiz]
      have hiz2 : ((k + 1 : Nat) : Int) - 1 = (k : Int) := by omega
      have HY := hid (fun (h : xs.getD (k + 1) 0 < xs.getD k 0) => srtB_no (xs := xs) (j := k) (by have := HL.out; omega) h)
      have HN := hid (fun (h : ¬ xs.getD (k + 1) 0 < xs.getD k 0) j (h1 : k + 1 ≤ j + 1) (h2 : j + 1 < n) => show xs.getD j 0 ≤ xs.getD (j + 1) 0 from by
        by_cases hj : j = k
        · subst hj; omega
        · exact HS.out j (by omega) h2)
      have hk1 : k + 1 < n := by omega
      have hk0 : k < n := by omega
      obtain ⟨k1, hk1e⟩ : ∃ k1 : Nat, k1 = k + 1 := ⟨_, rfl⟩
      rw [← hk1e] at c1 hk1 hiz2 HY HN ⊢
      have HKe := hid hk1e
      have hwk : IntKind.i64.wrap (k : Int) = (k : Int) := IntWalk.i64_in _ (by omega)
      clear hA hiz hk1e HS
      generalize xs.getD k 0 = y at *
      generalize xs.getD k1 0 = x at *
      have HLs := hid (fun W => Less_ok x y W)
      by_cases hq : x < y
      · have HQ := hid hq
        go_wp2
        go_quiet ((go_at_call 54; exact quiet_same2 (HLs.out _)))
        go_wp2
        go_ret
        exact ⟨by rw [HY.out HQ.out]; rfl, m + nq, World.drewN_drewN _ _ _⟩
      · have HQ := hid hq
        go_wp2
        go_quiet ((go_at_call 54; exact quiet_same2 (HLs.out _)))
        go_wp2
        go_roundg (k + 1)
        case measure => have := HGk.out; omega
        case rel => exact ⟨k + 1, m + nq, by omega, rfl, by rw [show ((k + 1 : Nat) : Int) - 1 = (k : Int) by omega], fun j h1 h2 => HN.out HQ.out j (by have := HKe.out; omega) h2, by first | rfl | exact World.drewN_drewN _ _ _⟩
    · have HR := hid (srtB_yes (xs := xs) (fun j _ h => HS.out j (by omega) (by have := HL.out; omega)))
      have hno : ¬ (0 : Int) < (i : Int) - 1 := by omega
      go_wp2
      go_ret
      exact ⟨by rw [HR.out]; rfl, _, rfl⟩

/-- A list of lines that is sorted has each line at its place. -/
theorem srt_isId {f : Nat → Nat} (hf : ∀ k, k < 27 → f k < 27) (hi : ∀ j k, j < 27 → k < 27 → f j = f k → j = k) : srtB ((List.range 27).map (fun k => ((f k : Nat) : Int))) = isId f := by
  have hg : ∀ k, k < 27 → ((List.range 27).map (fun k => ((f k : Nat) : Int))).getD k 0 = ((f k : Nat) : Int) := fun k hk => by
    simp [List.getD_eq_getElem?_getD, List.getElem?_map, List.getElem?_range hk]
  have hl : ((List.range 27).map (fun k => ((f k : Nat) : Int))).length = 27 := by simp
  cases h : isId f
  · cases h2 : srtB ((List.range 27).map (fun k => ((f k : Nat) : Int)))
    · rfl
    · exfalso
      rw [srtB, List.all_eq_true] at h2
      have hs : ∀ k, k < 26 → f k < f (k + 1) := fun k hk => by
        have := h2 k (by rw [List.mem_range, hl]; omega)
        rw [hg k (by omega), hg (k + 1) (by omega)] at this
        have h3 : f k ≤ f (k + 1) := by simpa using this
        rcases Nat.lt_or_eq_of_le h3 with h4 | h4
        · exact h4
        · have := hi k (k + 1) (by omega) (by omega) h4
          omega
      have lo : ∀ k, k < 27 → k ≤ f k := fun k => by
        induction k with
        | zero => intro _; omega
        | succ k ih =>
          intro hk
          have := ih (by omega)
          have := hs k (by omega)
          omega
      have up : ∀ d, d < 27 → f (26 - d) ≤ 26 - d := fun d => by
        induction d with
        | zero => intro _; have := hf 26 (by omega); show f 26 ≤ 26; omega
        | succ d ih =>
          intro hd
          have h5 := ih (by omega)
          have h6 := hs (26 - (d + 1)) (by omega)
          rw [show 26 - (d + 1) + 1 = 26 - d by omega] at h6
          omega
      have : isId f = true := isId_iff.2 fun k hk => by
        have h1 := lo k hk
        have h2 := up (26 - k) (by omega)
        rw [show 26 - (26 - k) = k by omega] at h2
        omega
      rw [h] at this
      cases this
  · have hk := isId_iff.1 h
    refine srtB_yes fun j _ hj => ?_
    rw [hl] at hj
    rw [hg j (by omega), hg (j + 1) (by omega), hk j (by omega), hk (j + 1) (by omega)]
    omega
theorem itN_inj {xs : List Int} (h : Wd xs) : ∀ n j k, j < 27 → k < 27 → itN (wL xs) n j = itN (wL xs) n k → j = k
  | 0, j, k, _, _, e => e
  | n + 1, j, k, hj, hk, e => itN_inj h n j k hj hk (wL_inj h (itN_lt (fun k hk => wL_lt h hk) n j hj) (itN_lt (fun k hk => wL_lt h hk) n k hk) e)

open Classical in
/-- The order of a word. -/
noncomputable def ordW (xs : List Int) : Nat := if h : Wd xs then Classical.choose (order_ex h) else 0
theorem ordW_ok {xs : List Int} (h : Wd xs) : (1 ≤ ordW xs ∧ ordW xs ≤ 12 ∧ ordW xs ≠ 7 ∧ ordW xs ≠ 11) ∧ isId (itN (wL xs) (ordW xs)) = true ∧ ∀ m, 1 ≤ m → m < ordW xs → isId (itN (wL xs) m) = false := by
  have e : ordW xs = Classical.choose (order_ex h) := by rw [ordW, dif_pos h]
  have hs := Classical.choose_spec (order_ex h)
  rw [← e] at hs
  obtain ⟨h1, h2, h3⟩ := hs
  obtain ⟨k1, k2, k3⟩ := order_few h h1 h2 h3
  exact ⟨⟨h1, k1, k2, k3⟩, h2, h3⟩
theorem ordW_eq {xs ys : List Int} (hx : Wd xs) (hy : Wd ys) (h : ∀ n, isId (itN (wL ys) n) = isId (itN (wL xs) n)) : ordW ys = ordW xs := by
  obtain ⟨⟨a1, _⟩, a2, a3⟩ := ordW_ok hx
  obtain ⟨⟨b1, _⟩, b2, b3⟩ := ordW_ok hy
  rcases Nat.lt_trichotomy (ordW ys) (ordW xs) with hlt | he | hgt
  · have := a3 _ b1 hlt
    rw [← h, b2] at this
    cases this
  · exact he
  · have := b3 _ a1 hgt
    rw [h, a2] at this
    cases this
noncomputable def ordI (xs : List Int) : Int := if wordB xs then (ordW xs : Int) else 0
/-- The lines moved again and again. -/
def itV (xs : List Int) (m : Nat) : List Int := (List.range 27).map (fun k => ((itN (wL xs) m k : Nat) : Int))
/-- .. and half way to the next time. -/
def itTo (xs : List Int) (m k : Nat) : List Int := (List.range 27).map (fun j => ((if j < k then itN (wL xs) (m + 1) j else itN (wL xs) m j : Nat) : Int))
theorem itV_len (xs : List Int) (m : Nat) : (itV xs m).length = 27 := by simp [itV]
theorem itTo_len (xs : List Int) (m k : Nat) : (itTo xs m k).length = 27 := by simp [itTo]
theorem itV_get (xs : List Int) (m : Nat) {k : Nat} (h : k < 27) : (itV xs m).getD k 0 = ((itN (wL xs) m k : Nat) : Int) := by
  simp [itV, List.getD_eq_getElem?_getD, List.getElem?_map, List.getElem?_range h]
theorem itTo_get (xs : List Int) (m : Nat) {k : Nat} (h : k < 27) : (itTo xs m k).getD k 0 = ((itN (wL xs) m k : Nat) : Int) := by
  simp [itTo, List.getD_eq_getElem?_getD, List.getElem?_map, List.getElem?_range h]
theorem itV_one (xs : List Int) : itV xs 1 = wlV xs := rfl
theorem itTo_zero (xs : List Int) (m : Nat) : itTo xs m 0 = itV xs m := by simp [itTo, itV]
theorem itTo_all (xs : List Int) (m : Nat) : itTo xs m 27 = itV xs (m + 1) := by
  unfold itTo itV
  refine List.map_congr_left fun j hj => ?_
  rw [List.mem_range] at hj
  rw [if_pos hj]
theorem itTo_set (xs : List Int) (m : Nat) {k : Nat} (h : k < 27) : (itTo xs m k).set k ((itN (wL xs) (m + 1) k : Nat) : Int) = itTo xs m (k + 1) := by
  apply List.ext_getElem?
  intro i
  rw [List.getElem?_set]
  by_cases hi : i < 27
  · by_cases hk : k = i
    · subst hk
      rw [if_pos rfl, itTo_len, if_pos h]
      simp [itTo, List.getElem?_map, List.getElem?_range hi]
    · rw [if_neg hk]
      simp only [itTo, List.getElem?_map, List.getElem?_range hi, Option.map_some]
      congr 2
      by_cases h1 : i < k
      · rw [if_pos h1, if_pos (by omega)]
      · rw [if_neg h1, if_neg (by omega)]
  · rw [if_neg (by omega), List.getElem?_eq_none (by rw [itTo_len]; omega), List.getElem?_eq_none (by rw [itTo_len]; omega)]
theorem itV_sorted {xs : List Int} (h : Wd xs) (m : Nat) : srtB (itV xs m) = isId (itN (wL xs) m) := srt_isId (fun k hk => itN_lt (fun k hk => wL_lt h hk) m k hk) (fun j k hj hk e => itN_inj h m j k hj hk e)

end Go.Proofs.Ytcffaeepanhpfaa
