/-
  The plain functions that the program computes: lists of integers and numbers alone, no Go.
-/
namespace Go.Proofs.Ytfjfepcklggdcaa

def inB (n lo hi : Int) : Bool := decide (lo ≤ n) && decide (n ≤ hi)

/-- The place of the first one of which p holds, counted from k; -1. -/
def idxB (p : Int → Bool) : List Int → Nat → Int
  | [], _ => -1
  | x :: xs, k => if p x then (k : Int) else idxB p xs (k + 1)

theorem idxB_drop_yes {p : Int → Bool} {xs : List Int} {k : Nat} (h : k < xs.length) (hp : p (xs.getD k 0) = true) : idxB p (xs.drop k) k = k := by
  rw [List.drop_eq_getElem_cons h, idxB]
  simp [List.getD_eq_getElem?_getD, List.getElem?_eq_getElem h] at hp
  simp [hp]
theorem idxB_drop_no {p : Int → Bool} {xs : List Int} {k : Nat} (h : k < xs.length) (hp : p (xs.getD k 0) = false) : idxB p (xs.drop k) k = idxB p (xs.drop (k + 1)) (k + 1) := by
  rw [List.drop_eq_getElem_cons h, idxB]
  simp [List.getD_eq_getElem?_getD, List.getElem?_eq_getElem h] at hp
  simp [hp]
theorem idxB_ge (p : Int → Bool) (xs : List Int) (k : Nat) : decide (0 ≤ idxB p xs k) = xs.any p := by
  induction xs generalizing k with
  | nil => rfl
  | cons x xs ih =>
    rw [idxB, List.any_cons]
    by_cases h : p x = true
    · simp [h]
    · simp [h, ih]
theorem idxB_range (p : Int → Bool) (xs : List Int) (k : Nat) : idxB p xs k = -1 ∨ ((k : Int) ≤ idxB p xs k ∧ idxB p xs k < k + xs.length) := by
  induction xs generalizing k with
  | nil => exact .inl rfl
  | cons x xs ih =>
    rw [idxB]
    by_cases h : p x = true
    · rw [if_pos h]; right; simp; omega
    · rw [if_neg h]
      rcases ih (k + 1) with h | h
      · exact .inl h
      · right; simp only [List.length_cons]; omega

def primes : List Int := [7, 11, 13, 17, 19, 23, 29, 31]
def isPrimeB (p : Int) : Bool := primes.any fun y => p == y
theorem isPrimeB_cases {p : Int} (h : isPrimeB p = true) : p = 7 ∨ p = 11 ∨ p = 13 ∨ p = 17 ∨ p = 19 ∨ p = 23 ∨ p = 29 ∨ p = 31 := by
  simpa [isPrimeB, primes] using h
theorem isPrimeB_bd {p : Int} (h : isPrimeB p = true) : 7 ≤ p ∧ p ≤ 31 := by
  rcases isPrimeB_cases h with h | h | h | h | h | h | h | h <;> omega

def okNum (p x : Int) : Bool := !(decide (x < 0) || decide (x ≥ p))
def badNum (p x : Int) : Bool := decide (x < 0) || decide (x ≥ p)
def areNumbersB (p : Int) (xs : List Int) (n : Int) : Bool := isPrimeB p && decide ((xs.length : Int) = n) && !(xs.any (badNum p))

def isMonicB (xs : List Int) : Bool := decide (idxB (fun x => x != 0) xs 0 ≥ 0) && (xs.getD (idxB (fun x => x != 0) xs 0).toNat 0 == 1)

/-- The least k from k on, in f steps, whose product with n is 1 modulo p; 0. -/
def turnedF (p n : Int) : Nat → Int → Int
  | 0, _ => 0
  | f + 1, k => if k * n % p == 1 then k else turnedF p n f (k + 1)
def turned (p n : Int) : Int := turnedF p n (p - 1).toNat 1

theorem turnedF_range (p n : Int) (f : Nat) (k : Int) (hk : 0 ≤ k) : 0 ≤ turnedF p n f k ∧ turnedF p n f k < k + f + 1 := by
  induction f generalizing k with
  | zero => simp [turnedF]; omega
  | succ f ih =>
    rw [turnedF]
    by_cases h : (k * n % p == 1) = true
    · rw [if_pos h]; omega
    · rw [if_neg h]; have := ih (k + 1) (by omega); omega
theorem turned_range (p n : Int) (hp : 1 ≤ p) : 0 ≤ turned p n ∧ turned p n ≤ p := by
  have := turnedF_range p n (p - 1).toNat 1 (by omega)
  unfold turned; omega

/-- The number by which a row is multiplied: after its first k numbers. -/
def rowN (p : Int) (row : List Int) : Nat → Int
  | 0 => 0
  | k + 1 => if rowN p row k == 0 then turned p (row.getD k 0) else rowN p row k
theorem rowN_range (p : Int) (row : List Int) (hp : 1 ≤ p) (k : Nat) : 0 ≤ rowN p row k ∧ rowN p row k ≤ p := by
  induction k with
  | zero => simp [rowN]; omega
  | succ k ih => rw [rowN]; split; exact turned_range _ _ hp; exact ih
def rowTo (p : Int) (row : List Int) (k : Nat) : List Int := (List.range k).map fun i => row.getD i 0 * rowN p row (i + 1) % p
theorem rowTo_succ (p : Int) (row : List Int) (k : Nat) : rowTo p row (k + 1) = rowTo p row k ++ [row.getD k 0 * rowN p row (k + 1) % p] := by
  simp [rowTo, List.range_succ]
theorem rowTo_length (p : Int) (row : List Int) (k : Nat) : (rowTo p row k).length = k := by simp [rowTo]
def rowS (p : Int) (row : List Int) : List Int := rowTo p row row.length

def zeroB (row : List Int) : Bool := row.all fun x => x == 0

theorem zeroB_drop_yes {xs : List Int} {k : Nat} (h : k < xs.length) (hp : (xs.getD k 0 == 0) = false) : zeroB (xs.drop k) = false := by
  rw [List.drop_eq_getElem_cons h, zeroB, List.all_cons]
  simp [List.getD_eq_getElem?_getD, List.getElem?_eq_getElem h] at hp
  simp [hp]
theorem zeroB_drop_no {xs : List Int} {k : Nat} (h : k < xs.length) (hp : (xs.getD k 0 == 0) = true) : zeroB (xs.drop k) = zeroB (xs.drop (k + 1)) := by
  rw [List.drop_eq_getElem_cons h, zeroB, List.all_cons]
  simp [List.getD_eq_getElem?_getD, List.getElem?_eq_getElem h] at hp
  simp [hp, zeroB]

theorem all_drop_no {q : Int → Bool} {xs : List Int} {k : Nat} (h : k < xs.length) (hp : q (xs.getD k 0) = false) : (xs.drop k).all q = false := by
  rw [List.drop_eq_getElem_cons h, List.all_cons]
  simp [List.getD_eq_getElem?_getD, List.getElem?_eq_getElem h] at hp
  simp [hp]
theorem all_drop_yes {q : Int → Bool} {xs : List Int} {k : Nat} (h : k < xs.length) (hp : q (xs.getD k 0) = true) : (xs.drop k).all q = (xs.drop (k + 1)).all q := by
  rw [List.drop_eq_getElem_cons h, List.all_cons]
  simp [List.getD_eq_getElem?_getD, List.getElem?_eq_getElem h] at hp
  simp [hp]

def inP (p x : Int) : Bool := inB x 0 (p - 1)

/-- The numbers of a point, as the reference tests them. -/
def l4TailB (p x y z : Int) : Bool :=
  ((!zeroB (rowS p [x, y, z]) && ((rowS p [x, y, z]).getD 0 0 == x)) && ((rowS p [x, y, z]).getD 1 0 == y)) && ((rowS p [x, y, z]).getD 2 0 == z)
def l4IsB (p x y z : Int) : Bool := [x, y, z].all (inP p) && l4TailB p x y z

theorem rowS_length (p : Int) (row : List Int) : (rowS p row).length = row.length := rowTo_length _ _ _

theorem inP_bd {p x : Int} (h : inP p x = true) : 0 ≤ x ∧ x < p := by
  simp [inP, inB] at h
  omega
theorem all_inP_bd {p : Int} {xs : List Int} (h : xs.all (inP p) = true) : ∀ x ∈ xs, 0 ≤ x ∧ x < p := fun x hx => inP_bd (List.all_eq_true.1 h x hx)

def specNumbersB (p : Int) (xs : List Int) (m : Int) : Bool := xs.all (inP p) && (isPrimeB p && decide ((xs.length : Int) = m))
def specPointB (p x y z : Int) : Bool := isPrimeB p && l4IsB p x y z

/-- The numbers of a place, as the reference tests them. -/
def placeTailB (p : Int) (xs : List Int) : Bool :=
  (((!zeroB xs && ((rowS p xs).getD 0 0 == xs.getD 0 0)) && ((rowS p xs).getD 1 0 == xs.getD 1 0)) && ((rowS p xs).getD 2 0 == xs.getD 2 0)) && ((rowS p xs).getD 3 0 == xs.getD 3 0)
def specPlaceB (p : Int) (xs : List Int) : Bool := (isPrimeB p && decide ((xs.length : Int) = 4)) && (xs.all (inP p) && placeTailB p xs)

/-- Two lists that are alike from k on. -/
theorem drop_eq_cons {xs ys : List Int} {k : Nat} (hx : k < xs.length) (hy : k < ys.length) :
    (xs.drop k == ys.drop k) = ((xs.getD k 0 == ys.getD k 0) && (xs.drop (k + 1) == ys.drop (k + 1))) := by
  have e1 : xs.getD k 0 = xs[k] := by simp [List.getD_eq_getElem?_getD, List.getElem?_eq_getElem hx]
  have e2 : ys.getD k 0 = ys[k] := by simp [List.getD_eq_getElem?_getD, List.getElem?_eq_getElem hy]
  rw [List.drop_eq_getElem_cons hx, List.drop_eq_getElem_cons hy, e1, e2]
  rfl

theorem bad_not_in (p x : Int) : badNum p x = !(inP p x) := by
  rw [Bool.eq_iff_iff]
  simp [badNum, inP, inB]
  omega
theorem numbers_alike (p : Int) (xs : List Int) (m : Int) : areNumbersB p xs m = specNumbersB p xs m := by
  have h : (!(xs.any (badNum p))) = xs.all (inP p) := by
    rw [show badNum p = (fun x => !(inP p x)) from funext (bad_not_in p), List.not_any_eq_all_not]
    simp
  rw [areNumbersB, specNumbersB, h]
  cases isPrimeB p <;> cases decide ((xs.length : Int) = m) <;> cases xs.all (inP p) <;> rfl

theorem mul_bd {a b A B : Int} (ha : 0 ≤ a) (hb : 0 ≤ b) (hA : a ≤ A) (hB : b ≤ B) : 0 ≤ a * b ∧ a * b ≤ A * B :=
  ⟨Int.mul_nonneg ha hb, Int.mul_le_mul hA hB hb (by omega)⟩

end Go.Proofs.Ytfjfepcklggdcaa
