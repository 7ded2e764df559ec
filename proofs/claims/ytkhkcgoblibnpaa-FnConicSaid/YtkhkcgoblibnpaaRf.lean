/-
  Reduced rows: the plain functions.
-/
import Derived.Test.YtkhkcgoblibnpaaIv
namespace Go.Proofs.Ytkhkcgoblibnpaa
set_option linter.unusedVariables false
set_option linter.unusedSimpArgs false

def modL (p : Int) (row : List Int) : List Int := row.map (· % p)
def scaleL (p b : Int) (row : List Int) : List Int := row.map fun x => x * b % p
def elimL (p : Int) (c : Nat) (head row : List Int) : List Int := List.zipWith (fun a b => (a - row.getD c 0 * b) % p) row head
/-- From column c on, n columns. -/
def redF (p : Int) : Nat → Nat → List (List Int) → List (List Int) → List (List Int)
  | 0, _, _, out => out
  | n + 1, c, left, out =>
    if left.length = 0 then out
    else if idxL (colP c) left 0 = -1 then redF p n (c + 1) left out
    else
      redF p n (c + 1) ((left.eraseIdx (idxL (colP c) left 0).toNat).map (elimL p c (scaleL p (invM p ((left.getD (idxL (colP c) left 0).toNat []).getD c 0)) (left.getD (idxL (colP c) left 0).toNat []))))
        (out.map (elimL p c (scaleL p (invM p ((left.getD (idxL (colP c) left 0).toNat []).getD c 0)) (left.getD (idxL (colP c) left 0).toNat []))) ++ [scaleL p (invM p ((left.getD (idxL (colP c) left 0).toNat []).getD c 0)) (left.getD (idxL (colP c) left 0).toNat [])])
def redP (p : Int) (wd : Nat) (rows : List (List Int)) : List (List Int) := redF p wd 0 (rows.map (modL p)) []

theorem redF_none {p : Int} {n c : Nat} {left out : List (List Int)} (h : left.length ≠ 0) (hi : idxL (colP c) left 0 = -1) : redF p (n + 1) c left out = redF p n (c + 1) left out := by
  rw [redF, if_neg h, if_pos hi]
theorem redF_some {p : Int} {n c k : Nat} {left out : List (List Int)} {row head : List Int} (h : left.length ≠ 0) (hi : idxL (colP c) left 0 = k) (hr : left.getD k [] = row) (hh : scaleL p (invM p (row.getD c 0)) row = head) :
    redF p (n + 1) c left out = redF p n (c + 1) ((left.eraseIdx k).map (elimL p c head)) (out.map (elimL p c head) ++ [head]) := by
  rw [redF, if_neg h, if_neg (by omega), hi, Int.toNat_natCast, hr, hh]
theorem redF_nil {p : Int} {n c : Nat} {left out : List (List Int)} (h : left.length = 0) : redF p n c left out = out := by
  cases n with
  | zero => rfl
  | succ n => rw [redF, if_pos h]

/-- The first i numbers turned. -/
def updTo (f : Nat → Int) (xs : List Int) (i : Nat) : List Int := (List.range xs.length).map fun j => if j < i then f j else xs.getD j 0
theorem updTo_length (f : Nat → Int) (xs : List Int) (i : Nat) : (updTo f xs i).length = xs.length := by simp [updTo]
theorem updTo_get (f : Nat → Int) (xs : List Int) (i j : Nat) (h : j < xs.length) : (updTo f xs i).getD j 0 = if j < i then f j else xs.getD j 0 := by
  simp [updTo, List.getD_eq_getElem?_getD, List.getElem?_map, List.getElem?_range h]
theorem ext_getD {xs ys : List Int} (hl : xs.length = ys.length) (h : ∀ j, j < xs.length → xs.getD j 0 = ys.getD j 0) : xs = ys := by
  apply List.ext_getElem hl
  intro j h1 h2
  have := h j h1
  rwa [getD_lt h1, getD_lt h2] at this
theorem updTo_zero (f : Nat → Int) (xs : List Int) : updTo f xs 0 = xs :=
  ext_getD (updTo_length _ _ _) fun j hj => by rw [updTo_length] at hj; rw [updTo_get _ _ _ _ hj, if_neg (by omega)]
theorem updTo_set (f : Nat → Int) (xs : List Int) (i : Nat) (h : i < xs.length) : (updTo f xs i).set i (f i) = updTo f xs (i + 1) :=
  ext_getD (by rw [List.length_set, updTo_length, updTo_length]) fun j hj => by
    rw [List.length_set, updTo_length] at hj
    rw [updTo_get _ _ _ _ hj, List.getD_eq_getElem?_getD]
    by_cases e : j = i
    · subst e
      rw [List.getElem?_set_self (by rw [updTo_length]; omega), if_pos (by omega)]
      rfl
    · rw [List.getElem?_set_ne (fun e' => e e'.symm), ← List.getD_eq_getElem?_getD, updTo_get _ _ _ _ hj]
      by_cases h2 : j < i
      · rw [if_pos h2, if_pos (by omega)]
      · rw [if_neg h2, if_neg (by omega)]
theorem updTo_scale (p b : Int) (xs : List Int) : updTo (fun j => xs.getD j 0 * b % p) xs xs.length = scaleL p b xs :=
  ext_getD (by rw [updTo_length, scaleL, List.length_map]) fun j hj => by
    rw [updTo_length] at hj
    rw [updTo_get _ _ _ _ hj, if_pos hj, scaleL, getD_lt hj, List.getD_eq_getElem?_getD, List.getElem?_map, List.getElem?_eq_getElem hj]
    rfl
theorem updTo_elim (p : Int) (c : Nat) (head xs : List Int) (hl : head.length = xs.length) : updTo (fun j => (xs.getD j 0 - xs.getD c 0 * head.getD j 0) % p) xs xs.length = elimL p c head xs :=
  ext_getD (by rw [updTo_length, elimL, List.length_zipWith]; omega) fun j hj => by
    rw [updTo_length] at hj
    rw [updTo_get _ _ _ _ hj, if_pos hj, elimL, List.getD_eq_getElem?_getD (l := List.zipWith _ _ _), List.getElem?_zipWith, List.getElem?_eq_getElem hj, List.getElem?_eq_getElem (show j < head.length by omega), getD_lt hj, getD_lt (show j < head.length by omega)]
    rfl
theorem modL_length (p : Int) (row : List Int) : (modL p row).length = row.length := List.length_map _
theorem scaleL_length (p b : Int) (row : List Int) : (scaleL p b row).length = row.length := List.length_map _
theorem elimL_length (p : Int) (c : Nat) (head row : List Int) (h : head.length = row.length) : (elimL p c head row).length = row.length := by rw [elimL, List.length_zipWith]; omega
theorem emod_rng {p : Int} (hp : 1 ≤ p) (x : Int) : 0 ≤ x % p ∧ x % p < p := ⟨Int.emod_nonneg _ (by omega), Int.emod_lt_of_pos _ (by omega)⟩
theorem modL_rng {p : Int} (hp : 1 ≤ p) (row : List Int) : ∀ x ∈ modL p row, 0 ≤ x ∧ x < p := by
  intro x hx
  obtain ⟨y, _, rfl⟩ := List.mem_map.1 hx
  exact emod_rng hp y
theorem scaleL_rng {p b : Int} (hp : 1 ≤ p) (row : List Int) : ∀ x ∈ scaleL p b row, 0 ≤ x ∧ x < p := by
  intro x hx
  obtain ⟨y, _, rfl⟩ := List.mem_map.1 hx
  exact emod_rng hp _
theorem elimL_rng {p : Int} {c : Nat} (hp : 1 ≤ p) (head row : List Int) : ∀ x ∈ elimL p c head row, 0 ≤ x ∧ x < p := by
  intro x hx
  unfold elimL at hx
  obtain ⟨i, hi, rfl⟩ := List.mem_iff_getElem.1 hx
  rw [List.getElem_zipWith]
  exact emod_rng hp _
def modTo (p : Int) (row : List Int) (k : Nat) : List Int := modL p (row.take k)
theorem modTo_succ (p : Int) (row : List Int) (k : Nat) (h : k < row.length) : modTo p row (k + 1) = modTo p row k ++ [row.getD k 0 % p] := by
  rw [modTo, modTo, List.take_succ_eq_append_getElem h, modL, modL, List.map_append, getD_lt h]
  rfl
theorem modTo_length (p : Int) (row : List Int) (k : Nat) (h : k ≤ row.length) : (modTo p row k).length = k := by rw [modTo, modL_length, List.length_take]; omega
theorem modTo_all (p : Int) (row : List Int) : modTo p row row.length = modL p row := by rw [modTo, List.take_length]

end Go.Proofs.Ytkhkcgoblibnpaa
