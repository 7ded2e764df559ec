/-
  Contracts: slices.IndexFunc on a list of rows, the test of a column, the inverse of a number.
-/
import Derived.Test.YtkhkcgoblibnpaaDl
namespace Go.Proofs.Ytkhkcgoblibnpaa
open Go.RowKit
set_option linter.unusedVariables false
set_option linter.unusedSimpArgs false

def idxL (p : List Int → Bool) : List (List Int) → Nat → Int
  | [], _ => -1
  | x :: xs, k => if p x then (k : Int) else idxL p xs (k + 1)
theorem idxL_yes {p : List Int → Bool} {xs : List (List Int)} {k : Nat} (h : k < xs.length) (hp : p (xs.getD k []) = true) : idxL p (xs.drop k) k = k := by
  rw [List.drop_eq_getElem_cons h, idxL, if_pos]
  rwa [List.getD_eq_getElem?_getD, List.getElem?_eq_getElem h] at hp
theorem idxL_no {p : List Int → Bool} {xs : List (List Int)} {k : Nat} (h : k < xs.length) (hp : p (xs.getD k []) = false) : idxL p (xs.drop k) k = idxL p (xs.drop (k + 1)) (k + 1) := by
  rw [List.drop_eq_getElem_cons h, idxL, if_neg]
  rw [List.getD_eq_getElem?_getD, List.getElem?_eq_getElem h] at hp
  simp at hp
  simp [hp]
theorem idxL_range (p : List Int → Bool) (xs : List (List Int)) (k : Nat) : idxL p xs k = -1 ∨ ∃ i : Nat, i < xs.length ∧ idxL p xs k = ((k + i : Nat) : Int) ∧ p (xs.getD i []) = true := by
  induction xs generalizing k with
  | nil => exact .inl rfl
  | cons x xs ih =>
    unfold idxL
    by_cases h : p x = true
    · rw [if_pos h]
      exact .inr ⟨0, by simp, by simp, by simpa using h⟩
    · rw [if_neg h]
      rcases ih (k + 1) with h | ⟨i, hi, he, hp⟩
      · exact .inl h
      · exact .inr ⟨i + 1, by simpa using hi, by rw [he]; congr 1; omega, by simpa using hp⟩

/-- A function value that answers p of each row, and turns nothing. -/
def PredR (P : Program) (g : Nat) (lb : Array Value) (p : List Int → Bool) (rs : List Rw) (w : World) : Prop :=
  (∀ args w, (callFunc g args).run P w = .ok (.enter g args) w) ∧ ∀ r ∈ rs, Calls P g (#[rwV r] ++ lb) w fun e W' => e = .returned (.bool (p r.xs)) ∧ w = W'

theorem IndexFuncR_ok (f : Nat) (lb : Array Value) (p : List Int → Bool) (base g n cap : Nat) (rs : List Rw) (w : World) (hr : RwO w base (.slice (some ⟨g, 0, none⟩) n cap) rs) (hn : n = rs.length) (h0 : 0 < n) (h1 : n < 1000000) (hp : PredR Try.prog f lb p rs w) :
    Calls Try.prog 98 #[.slice (some ⟨g, 0, none⟩) n cap, .func (.func f) #[] lb] w fun e w' => e = .returned (.int .i64 (idxL p (rs.map (·.xs)) 0)) ∧ w = w' := by
  obtain ⟨eg, hp⟩ := hp
  obtain ⟨g', cap', hv, _, _, _, _, _, hc⟩ := hr.shape (by omega)
  simp only [Value.slice.injEq, Option.some.injEq, Addr.mk.injEq, and_true] at hv
  obtain ⟨rfl, hzz, rfl⟩ := hv
  have HN := hid hn
  have HP := hid hp
  have HC := hid hc
  clear hc hp hr hzz hn
  go_enter Try.func98, Try.ntmps98
  go_wp2
  go_loop [5, 8] (fun _ t => ∃ k : Nat, k ≤ n ∧ t = .int .i64 k ∧ idxL p (rs.map (·.xs)) 0 = idxL p ((rs.map (·.xs)).drop k) k) (fun _ t => n - (intOf t).toNat)
  case atStart => exact ⟨0, by omega, rfl, rfl⟩
  case round =>
    obtain ⟨k, hk, rfl, hf⟩ := hrel
    have HF := hid hf
    clear hf
    by_cases hlt : k < n
    · have hk2 : k < rs.length := by have := HN.out; omega
      have hcx := HC.out k hk2
      have hpx := HP.out rs[k] (List.getElem_mem _)
      have HY := hid (@idxL_yes p (rs.map (·.xs)) k (by simpa using hk2))
      have HNo := hid (@idxL_no p (rs.map (·.xs)) k (by simpa using hk2))
      have HE := hid (show (rs.map (·.xs)).getD k [] = rs[k].xs by rw [List.getD_eq_getElem?_getD, List.getElem?_map, List.getElem?_eq_getElem hk2]; rfl)
      have hV : ∃ V, rwV rs[k] = V := ⟨_, rfl⟩
      obtain ⟨V, hV⟩ := hV
      rw [hV] at hcx hpx
      have hVs : ∃ A nn cc, V = .slice A nn cc := ⟨_, _, _, hV.symm⟩
      obtain ⟨A, nn, cc, rfl⟩ := hVs
      clear hV
      cases hq : p rs[k].xs
      · rw [hq] at hpx
        have HX := hid hpx
        have HQ := hid hq
        clear hq hpx
        go_wp2_with ((with_reducible refine (HX.out).mono ?_); rintro e w' ⟨rfl, rfl⟩)
        go_round
        case rel => exact ⟨k + 1, by omega, by go_num, by rw [HF.out, HNo.out (by rw [HE.out]; exact HQ.out)]⟩
        case measure => simp [intOf]; omega
      · rw [hq] at hpx
        have HX := hid hpx
        have HQ := hid hq
        clear hq hpx
        go_wp2_with ((with_reducible refine (HX.out).mono ?_); rintro e w' ⟨rfl, rfl⟩)
        go_ret
        exact ⟨by rw [HF.out, HY.out (by rw [HE.out]; exact HQ.out)]; rfl, rfl⟩
    · have HD := hid (show (rs.map (·.xs)).drop k = [] from List.drop_eq_nil_of_le (by simp; have := HN.out; omega))
      go_wp2
      go_ret
      exact ⟨by rw [HF.out, HD.out]; rfl, rfl⟩

/-- The test of a column: the column's number lies in a box. -/
def colP (c : Nat) (row : List Int) : Bool := row.getD c 0 != 0
theorem reduced1_ok (c gb base : Nat) (rs : List Rw) (w : World) (h : RwIn w base rs) (hc : w.cell? ⟨gb, 0, none⟩ = some (.int .i64 c)) (hw : ∀ r ∈ rs, c < r.xs.length ∧ r.xs.length ≤ 1000000) :
    PredR Try.prog 99 #[.pointer (some ⟨gb, 0, none⟩)] (colP c) rs w := by
  refine ⟨enters_of Try.func99 (by kernel_rfl) rfl, fun r hr => ?_⟩
  obtain ⟨_, _, b, off, hA, hcl⟩ := h.ri hr (by have := (hw r hr).2; omega)
  have hlt := (hw r hr).1
  have hle := (hw r hr).2
  have hA2 : (some ⟨r.g, 0, none⟩ : Option Addr) = some ⟨b, off, none⟩ := by rcases hA with h | h; omega; exact h
  injection hA2 with hA2
  injection hA2 with e1 e2
  subst e1 e2
  have hx := hcl c hlt
  rw [Nat.zero_add] at hx
  have HC := hid (show colP c r.xs = (r.xs.getD c 0 != 0) from rfl)
  show Calls Try.prog _ #[.slice (some ⟨r.g, 0, none⟩) r.xs.length r.cap, .pointer (some ⟨gb, 0, none⟩)] w _
  generalize r.xs.getD c 0 = x at *
  clear hcl hA h hw
  rw [HC.out]
  go_enter Try.func99, Try.ntmps99
  go_wp2
  go_ret
  exact ⟨rfl, rfl⟩

/-- A number to a power, modulo p. -/
def powM (p n : Int) : Nat → Int
  | 0 => 1
  | k + 1 => powM p n k * n % p
theorem powM_bd {p n : Int} (hp : 2 ≤ p) (k : Nat) : 0 ≤ powM p n k ∧ powM p n k < p := by
  induction k with
  | zero => simp [powM]; omega
  | succ k ih => exact ⟨Int.emod_nonneg _ (by omega), Int.emod_lt_of_pos _ (by omega)⟩
def invM (p n : Int) : Int := powM p n (p - 2).toNat

theorem inverse_ok (n p : Int) (w : World) (hp : 2 ≤ p) (hp2 : p ≤ 31) (h0 : 0 ≤ n) (h1 : n ≤ 31) :
    Calls Try.prog 101 #[.int .i64 n, .int .i64 p] w fun e w' => e = .returned (.int .i64 (invM p n)) ∧ w = w' := by
  go_enter Try.func101, Try.ntmps101
  go_wp2
  go_loop [5, 8] (fun v t => ∃ k : Nat, (k : Int) ≤ p - 2 ∧ t = .int .i64 k ∧ v = .int .i64 (powM p n k)) (fun _ t => (p - intOf t).toNat)
  case atStart => exact ⟨0, by omega, rfl, rfl⟩
  case round =>
    obtain ⟨k, hk, rfl, rfl⟩ := hrel
    have hb := @powM_bd p n hp k
    have HS := hid (show powM p n (k + 1) = powM p n k * n % p from rfl)
    generalize hy : powM p n k = y at *
    have HYy := hid hy
    clear hy
    have m := mul_bd hb.1 h0 (show y ≤ 31 by omega) h1
    have m0 := m.1
    have m1 := m.2
    clear m
    have y0 := hb.1
    have y1 := hb.2
    by_cases hlt : (k : Int) < p - 2
    · go_wp2
      go_round
      case rel => exact ⟨k + 1, by omega, by go_num, by rw [HS.out]⟩
      case measure => simp [intOf]; omega
    · have HK := hid (show (p - 2).toNat = k by omega)
      go_wp2
      go_ret
      exact ⟨by rw [invM, HK.out, HYy.out]; rfl, rfl⟩

end Go.Proofs.Ytkhkcgoblibnpaa
