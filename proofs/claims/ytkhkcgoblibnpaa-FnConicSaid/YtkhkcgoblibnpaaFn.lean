/-
  The plain functions that the program computes: lists of integers and numbers alone, no Go.
-/
namespace Go.Proofs.Ytkhkcgoblibnpaa

def inB (n lo hi : Int) : Bool := decide (lo ≤ n) && decide (n ≤ hi)

/-- The place of the first one of which p holds, counted from k; -1. -/
def idxB (p : Int → Bool) : List Int → Nat → Int
  | [], _ => -1
  | x :: xs, k => if p x then (k : Int) else idxB p xs (k + 1)

theorem idxB_drop_yes {p : Int → Bool} {xs : List Int} {k : Nat} (h : k < xs.length) (hp : p (xs.getD k 0) = true) : idxB p (xs.drop k) k = k := by
  rw [List.drop_eq_getElem_cons h, idxB]
  simp [List.getD_eq_getElem?_getD, List.getElem?_eq_getElem h] at hp
  simp [hp]
theorem idxB_drop_no {p : Int → Bool} {xs : List Int} {k : Nat} (h : k < xs.length) (hp : p (xs.getD k 0) = false) : idxB p (xs.drop k) k = idxB p (xs.drop (k + 1)) (k + 1) := by
  rw [List.drop_eq_getElem_cons h, idxB]
  simp [List.getD_eq_getElem?_getD, List.getElem?_eq_getElem h] at hp
  simp [hp]
theorem idxB_ge (p : Int → Bool) (xs : List Int) (k : Nat) : decide (0 ≤ idxB p xs k) = xs.any p := by
  induction xs generalizing k with
  | nil => rfl
  | cons x xs ih =>
    rw [idxB, List.any_cons]
    by_cases h : p x = true
    · simp [h]
    · simp [h, ih]
theorem idxB_range (p : Int → Bool) (xs : List Int) (k : Nat) : idxB p xs k = -1 ∨ ((k : Int) ≤ idxB p xs k ∧ idxB p xs k < k + xs.length) := by
  induction xs generalizing k with
  | nil => exact .inl rfl
  | cons x xs ih =>
    rw [idxB]
    by_cases h : p x = true
    · rw [if_pos h]; right; simp; omega
    · rw [if_neg h]
      rcases ih (k + 1) with h | h
      · exact .inl h
      · right; simp only [List.length_cons]; omega

def primes : List Int := [7, 11, 13, 17, 19, 23, 29, 31]
def isPrimeB (p : Int) : Bool := primes.any fun y => p == y
theorem isPrimeB_cases {p : Int} (h : isPrimeB p = true) : p = 7 ∨ p = 11 ∨ p = 13 ∨ p = 17 ∨ p = 19 ∨ p = 23 ∨ p = 29 ∨ p = 31 := by
  simpa [isPrimeB, primes] using h
theorem isPrimeB_bd {p : Int} (h : isPrimeB p = true) : 7 ≤ p ∧ p ≤ 31 := by
  rcases isPrimeB_cases h with h | h | h | h | h | h | h | h <;> omega

theorem prime_divides {p : Int} (hp : isPrimeB p = true) (k : Int) (h1 : 2 ≤ k) (h2 : k < p) : (p % k == 0) = false := by
  have h : ∀ q : Nat, q < 32 → isPrimeB q = true → ∀ k : Nat, k < q → 2 ≤ k → ((q : Int) % k == 0) = false := by decide +kernel
  have hb := isPrimeB_bd hp
  obtain ⟨q, rfl⟩ := Int.eq_ofNat_of_zero_le (show 0 ≤ p by omega)
  obtain ⟨j, rfl⟩ := Int.eq_ofNat_of_zero_le (show 0 ≤ k by omega)
  exact h q (by omega) hp j (by omega) (by omega)

def okNum (p x : Int) : Bool := !(decide (x < 0) || decide (x ≥ p))
def badNum (p x : Int) : Bool := decide (x < 0) || decide (x ≥ p)
def areNumbersB (p : Int) (xs : List Int) (n : Int) : Bool := isPrimeB p && decide ((xs.length : Int) = n) && !(xs.any (badNum p))

def isMonicB (xs : List Int) : Bool := decide (idxB (fun x => x != 0) xs 0 ≥ 0) && (xs.getD (idxB (fun x => x != 0) xs 0).toNat 0 == 1)

/-- The least k from k on, in f steps, whose product with n is 1 modulo p; 0. -/
def turnedF (p n : Int) : Nat → Int → Int
  | 0, _ => 0
  | f + 1, k => if k * n % p == 1 then k else turnedF p n f (k + 1)
def turned (p n : Int) : Int := turnedF p n (p - 1).toNat 1

theorem turnedF_range (p n : Int) (f : Nat) (k : Int) (hk : 0 ≤ k) : 0 ≤ turnedF p n f k ∧ turnedF p n f k < k + f + 1 := by
  induction f generalizing k with
  | zero => simp [turnedF]; omega
  | succ f ih =>
    rw [turnedF]
    by_cases h : (k * n % p == 1) = true
    · rw [if_pos h]; omega
    · rw [if_neg h]; have := ih (k + 1) (by omega); omega
theorem turned_range (p n : Int) (hp : 1 ≤ p) : 0 ≤ turned p n ∧ turned p n ≤ p := by
  have := turnedF_range p n (p - 1).toNat 1 (by omega)
  unfold turned; omega

/-- The number by which a row is multiplied: n at first; after its first k numbers. -/
def rowM (p n : Int) (row : List Int) : Nat → Int
  | 0 => n
  | k + 1 => if rowM p n row k == 0 then turned p (row.getD k 0) else rowM p n row k
def rowN (p : Int) (row : List Int) : Nat → Int
  | 0 => 0
  | k + 1 => if rowN p row k == 0 then turned p (row.getD k 0) else rowN p row k
theorem rowN_range (p : Int) (row : List Int) (hp : 1 ≤ p) (k : Nat) : 0 ≤ rowN p row k ∧ rowN p row k ≤ p := by
  induction k with
  | zero => simp [rowN]; omega
  | succ k ih => rw [rowN]; split; exact turned_range _ _ hp; exact ih
def rowTo (p : Int) (row : List Int) (k : Nat) : List Int := (List.range k).map fun i => row.getD i 0 * rowN p row (i + 1) % p
theorem rowTo_succ (p : Int) (row : List Int) (k : Nat) : rowTo p row (k + 1) = rowTo p row k ++ [row.getD k 0 * rowN p row (k + 1) % p] := by
  simp [rowTo, List.range_succ]
theorem rowTo_length (p : Int) (row : List Int) (k : Nat) : (rowTo p row k).length = k := by simp [rowTo]
def rowS (p : Int) (row : List Int) : List Int := rowTo p row row.length

def zeroB (row : List Int) : Bool := row.all fun x => x == 0

theorem zeroB_drop_yes {xs : List Int} {k : Nat} (h : k < xs.length) (hp : (xs.getD k 0 == 0) = false) : zeroB (xs.drop k) = false := by
  rw [List.drop_eq_getElem_cons h, zeroB, List.all_cons]
  simp [List.getD_eq_getElem?_getD, List.getElem?_eq_getElem h] at hp
  simp [hp]
theorem zeroB_drop_no {xs : List Int} {k : Nat} (h : k < xs.length) (hp : (xs.getD k 0 == 0) = true) : zeroB (xs.drop k) = zeroB (xs.drop (k + 1)) := by
  rw [List.drop_eq_getElem_cons h, zeroB, List.all_cons]
  simp [List.getD_eq_getElem?_getD, List.getElem?_eq_getElem h] at hp
  simp [hp, zeroB]

theorem all_drop_no {q : Int → Bool} {xs : List Int} {k : Nat} (h : k < xs.length) (hp : q (xs.getD k 0) = false) : (xs.drop k).all q = false := by
  rw [List.drop_eq_getElem_cons h, List.all_cons]
  simp [List.getD_eq_getElem?_getD, List.getElem?_eq_getElem h] at hp
  simp [hp]
theorem all_drop_yes {q : Int → Bool} {xs : List Int} {k : Nat} (h : k < xs.length) (hp : q (xs.getD k 0) = true) : (xs.drop k).all q = (xs.drop (k + 1)).all q := by
  rw [List.drop_eq_getElem_cons h, List.all_cons]
  simp [List.getD_eq_getElem?_getD, List.getElem?_eq_getElem h] at hp
  simp [hp]

def inP (p x : Int) : Bool := inB x 0 (p - 1)

/-- The numbers of a point, as the reference tests them. -/
def l4TailB (p x y z : Int) : Bool :=
  ((!zeroB (rowS p [x, y, z]) && ((rowS p [x, y, z]).getD 0 0 == x)) && ((rowS p [x, y, z]).getD 1 0 == y)) && ((rowS p [x, y, z]).getD 2 0 == z)
def l4IsB (p x y z : Int) : Bool := [x, y, z].all (inP p) && l4TailB p x y z

theorem rowS_length (p : Int) (row : List Int) : (rowS p row).length = row.length := rowTo_length _ _ _

theorem inP_bd {p x : Int} (h : inP p x = true) : 0 ≤ x ∧ x < p := by
  simp [inP, inB] at h
  omega
theorem all_inP_bd {p : Int} {xs : List Int} (h : xs.all (inP p) = true) : ∀ x ∈ xs, 0 ≤ x ∧ x < p := fun x hx => inP_bd (List.all_eq_true.1 h x hx)

def specNumbersB (p : Int) (xs : List Int) (m : Int) : Bool := xs.all (inP p) && (isPrimeB p && decide ((xs.length : Int) = m))
def specPointB (p x y z : Int) : Bool := isPrimeB p && l4IsB p x y z

/-- The numbers of a place, as the reference tests them. -/
def placeTailB (p : Int) (xs : List Int) : Bool :=
  (((!zeroB xs && ((rowS p xs).getD 0 0 == xs.getD 0 0)) && ((rowS p xs).getD 1 0 == xs.getD 1 0)) && ((rowS p xs).getD 2 0 == xs.getD 2 0)) && ((rowS p xs).getD 3 0 == xs.getD 3 0)
def specPlaceB (p : Int) (xs : List Int) : Bool := (isPrimeB p && decide ((xs.length : Int) = 4)) && (xs.all (inP p) && placeTailB p xs)

/-- Two lists that are alike from k on. -/
theorem drop_eq_cons {xs ys : List Int} {k : Nat} (hx : k < xs.length) (hy : k < ys.length) :
    (xs.drop k == ys.drop k) = ((xs.getD k 0 == ys.getD k 0) && (xs.drop (k + 1) == ys.drop (k + 1))) := by
  have e1 : xs.getD k 0 = xs[k] := by simp [List.getD_eq_getElem?_getD, List.getElem?_eq_getElem hx]
  have e2 : ys.getD k 0 = ys[k] := by simp [List.getD_eq_getElem?_getD, List.getElem?_eq_getElem hy]
  rw [List.drop_eq_getElem_cons hx, List.drop_eq_getElem_cons hy, e1, e2]
  rfl

theorem bad_not_in (p x : Int) : badNum p x = !(inP p x) := by
  rw [Bool.eq_iff_iff]
  simp [badNum, inP, inB]
  omega
theorem numbers_alike (p : Int) (xs : List Int) (m : Int) : areNumbersB p xs m = specNumbersB p xs m := by
  have h : (!(xs.any (badNum p))) = xs.all (inP p) := by
    rw [show badNum p = (fun x => !(inP p x)) from funext (bad_not_in p), List.not_any_eq_all_not]
    simp
  rw [areNumbersB, specNumbersB, h]
  cases isPrimeB p <;> cases decide ((xs.length : Int) = m) <;> cases xs.all (inP p) <;> rfl

theorem mul_bd {a b A B : Int} (ha : 0 ≤ a) (hb : 0 ≤ b) (hA : a ≤ A) (hB : b ≤ B) : 0 ≤ a * b ∧ a * b ≤ A * B :=
  ⟨Int.mul_nonneg ha hb, Int.mul_le_mul hA hB hb (by omega)⟩

/-! ### Monic rows -/
theorem turned_spec {p u : Int} (hp : isPrimeB p = true) (h0 : 0 < u) (h1 : u < p) : u * turned p u % p = 1 ∧ 0 < turned p u ∧ turned p u < p := by
  have h7 : ∀ u : Nat, u < 7 → 0 < u → (u : Int) * turned 7 u % 7 = 1 ∧ 0 < turned 7 u ∧ turned 7 u < 7 := by decide +kernel
  have h11 : ∀ u : Nat, u < 11 → 0 < u → (u : Int) * turned 11 u % 11 = 1 ∧ 0 < turned 11 u ∧ turned 11 u < 11 := by decide +kernel
  have h13 : ∀ u : Nat, u < 13 → 0 < u → (u : Int) * turned 13 u % 13 = 1 ∧ 0 < turned 13 u ∧ turned 13 u < 13 := by decide +kernel
  have h17 : ∀ u : Nat, u < 17 → 0 < u → (u : Int) * turned 17 u % 17 = 1 ∧ 0 < turned 17 u ∧ turned 17 u < 17 := by decide +kernel
  have h19 : ∀ u : Nat, u < 19 → 0 < u → (u : Int) * turned 19 u % 19 = 1 ∧ 0 < turned 19 u ∧ turned 19 u < 19 := by decide +kernel
  have h23 : ∀ u : Nat, u < 23 → 0 < u → (u : Int) * turned 23 u % 23 = 1 ∧ 0 < turned 23 u ∧ turned 23 u < 23 := by decide +kernel
  have h29 : ∀ u : Nat, u < 29 → 0 < u → (u : Int) * turned 29 u % 29 = 1 ∧ 0 < turned 29 u ∧ turned 29 u < 29 := by decide +kernel
  have h31 : ∀ u : Nat, u < 31 → 0 < u → (u : Int) * turned 31 u % 31 = 1 ∧ 0 < turned 31 u ∧ turned 31 u < 31 := by decide +kernel
  obtain ⟨k, rfl⟩ := Int.eq_ofNat_of_zero_le (show 0 ≤ u by omega)
  rcases isPrimeB_cases hp with rfl | rfl | rfl | rfl | rfl | rfl | rfl | rfl
  · exact h7 k (by omega) (by omega)
  · exact h11 k (by omega) (by omega)
  · exact h13 k (by omega) (by omega)
  · exact h17 k (by omega) (by omega)
  · exact h19 k (by omega) (by omega)
  · exact h23 k (by omega) (by omega)
  · exact h29 k (by omega) (by omega)
  · exact h31 k (by omega) (by omega)
theorem turned_zero {p : Int} (hp : isPrimeB p = true) : turned p 0 = 0 := by
  rcases isPrimeB_cases hp with rfl | rfl | rfl | rfl | rfl | rfl | rfl | rfl <;> decide +kernel
theorem turned_one {p : Int} (hp : isPrimeB p = true) : turned p 1 = 1 := by
  rcases isPrimeB_cases hp with rfl | rfl | rfl | rfl | rfl | rfl | rfl | rfl <;> decide +kernel

theorem rowN_M (p : Int) (row : List Int) (k : Nat) : rowN p row k = rowM p 0 row k := by
  induction k with
  | zero => rfl
  | succ k ih => rw [rowN, rowM, ih]
theorem rowM_cons (p n x : Int) (xs : List Int) (k : Nat) : rowM p n (x :: xs) (k + 1) = rowM p (if n == 0 then turned p x else n) xs k := by
  induction k with
  | zero => rfl
  | succ k ih => rw [rowM, ih, rowM]; rfl
def rowMTo (p n : Int) (row : List Int) : List Int := (List.range row.length).map fun i => row.getD i 0 * rowM p n row (i + 1) % p
theorem rowMTo_cons (p n x : Int) (xs : List Int) : rowMTo p n (x :: xs) = x * (if n == 0 then turned p x else n) % p :: rowMTo p (if n == 0 then turned p x else n) xs := by
  simp only [rowMTo, List.length_cons, List.range_succ_eq_map, List.map_cons, List.map_map]
  congr 1
  apply List.map_congr_left
  intro i _
  simp only [Function.comp, rowM_cons]
  rfl
theorem rowMTo_nz (p n : Int) (hn : n ≠ 0) (xs : List Int) : rowMTo p n xs = xs.map fun x => x * n % p := by
  induction xs with
  | nil => rfl
  | cons x xs ih =>
    rw [rowMTo_cons, if_neg (by simpa using hn), ih]
    rfl
theorem rowS_M (p : Int) (xs : List Int) : rowS p xs = rowMTo p 0 xs := by
  unfold rowS rowTo rowMTo
  apply List.map_congr_left
  intro i _
  rw [rowN_M]
theorem rowS_zero {p : Int} (hp : isPrimeB p = true) (xs : List Int) : rowS p (0 :: xs) = 0 :: rowS p xs := by
  rw [rowS_M, rowS_M, rowMTo_cons]
  simp [turned_zero hp]
theorem rowS_nz {p x : Int} (hp : isPrimeB p = true) (h0 : 0 < x) (h1 : x < p) (xs : List Int) : rowS p (x :: xs) = 1 :: xs.map fun y => y * turned p x % p := by
  obtain ⟨e, t0, _⟩ := turned_spec hp h0 h1
  rw [rowS_M, rowMTo_cons]
  simp only [beq_self_eq_true, if_true]
  rw [e, rowMTo_nz _ _ (by omega)]

theorem idxB_shift (q : Int → Bool) (xs : List Int) (k : Nat) : idxB q xs (k + 1) = if idxB q xs k = -1 then -1 else idxB q xs k + 1 := by
  induction xs generalizing k with
  | nil => rfl
  | cons x xs ih =>
    rw [idxB, idxB]
    by_cases h : q x = true
    · rw [if_pos h, if_pos h, if_neg (by omega)]; omega
    · rw [if_neg h, if_neg h, ih (k + 1)]
theorem isMonicB_zero (xs : List Int) : isMonicB (0 :: xs) = isMonicB xs := by
  have e : idxB (fun x => x != 0) (0 :: xs) 0 = idxB (fun x => x != 0) xs 1 := rfl
  unfold isMonicB
  rw [e, idxB_shift]
  rcases idxB_range (fun x => x != 0) xs 0 with h | ⟨h, h2⟩
  · simp [h]
  · rw [if_neg (by omega)]
    have e1 : (idxB (fun x => x != 0) xs 0 + 1).toNat = (idxB (fun x => x != 0) xs 0).toNat + 1 := by omega
    have e2 : decide (idxB (fun x => x != 0) xs 0 + 1 ≥ 0) = decide (idxB (fun x => x != 0) xs 0 ≥ 0) := by
      rw [decide_eq_decide]; omega
    rw [e1, e2]
    rfl
theorem isMonicB_nz (x : Int) (xs : List Int) (h : x ≠ 0) : isMonicB (x :: xs) = (x == 1) := by
  have e : idxB (fun x => x != 0) (x :: xs) 0 = 0 := by rw [idxB, if_pos (by simpa using h)]; rfl
  unfold isMonicB
  rw [e]
  rfl

/-- A row divided by its first number that is not 0 is itself just when this number is 1. -/
theorem monic_row {p : Int} (hp : isPrimeB p = true) (xs : List Int) (hx : ∀ x ∈ xs, 0 ≤ x ∧ x < p) : (!zeroB xs && (rowS p xs == xs)) = isMonicB xs := by
  induction xs with
  | nil => rfl
  | cons x xs ih =>
    have hx0 := hx x (List.mem_cons_self ..)
    have hxs : ∀ y ∈ xs, 0 ≤ y ∧ y < p := fun y hy => hx y (List.mem_cons_of_mem _ hy)
    by_cases h0 : x = 0
    · subst h0
      rw [rowS_zero hp, isMonicB_zero, ← ih hxs]
      rfl
    · rw [rowS_nz hp (by omega) hx0.2, isMonicB_nz x xs h0]
      have hz : zeroB (x :: xs) = false := by simp [zeroB, h0]
      rw [hz]
      by_cases h1 : x = 1
      · subst h1
        rw [turned_one hp]
        have : (xs.map fun y => y * 1 % p) = xs := by
          conv => rhs; rw [← List.map_id xs]
          apply List.map_congr_left
          intro y hy
          have := hxs y hy
          simp only [Int.mul_one, id]
          exact Int.emod_eq_of_lt this.1 this.2
        rw [this]
        simp
      · have e : ((1 :: xs.map fun y => y * turned p x % p) == x :: xs) = false := by
          simp
          intro h
          omega
        rw [e]
        simp [h1]

theorem list3 {l : List Int} (h : l.length = 3) : l = [l.getD 0 0, l.getD 1 0, l.getD 2 0] := by
  match l, h with
  | [a, b, c], _ => rfl
theorem list4 {l : List Int} (h : l.length = 4) : l = [l.getD 0 0, l.getD 1 0, l.getD 2 0, l.getD 3 0] := by
  match l, h with
  | [a, b, c, d], _ => rfl

theorem tail_alike {p : Int} (hp : isPrimeB p = true) (x y z : Int) (hx : ∀ q ∈ [x, y, z], 0 ≤ q ∧ q < p) : isMonicB [x, y, z] = l4TailB p x y z := by
  rw [← monic_row hp _ hx, l4TailB]
  have hl := list3 (rowS_length p [x, y, z])
  generalize rowS p [x, y, z] = r at *
  generalize r.getD 0 0 = a at *
  generalize r.getD 1 0 = b at *
  generalize r.getD 2 0 = c at *
  subst hl
  rw [Bool.eq_iff_iff]
  simp only [Bool.and_eq_true, Bool.not_eq_true', beq_iff_eq, List.cons.injEq, and_true]
  constructor
  · rintro ⟨h, rfl, rfl, rfl⟩; exact ⟨⟨⟨h, rfl⟩, rfl⟩, rfl⟩
  · rintro ⟨⟨⟨h, rfl⟩, rfl⟩, rfl⟩; exact ⟨h, rfl, rfl, rfl⟩

theorem points_alike (p x y z : Int) : (areNumbersB p [x, y, z] 3 && isMonicB [x, y, z]) = specPointB p x y z := by
  rw [numbers_alike, specNumbersB, specPointB, l4IsB]
  cases hp : isPrimeB p
  · simp
  · cases ha : [x, y, z].all (inP p)
    · simp
    · rw [tail_alike hp x y z (all_inP_bd ha)]
      simp

theorem places_alike (p : Int) (xs : List Int) : (areNumbersB p xs 4 && isMonicB xs) = specPlaceB p xs := by
  rw [numbers_alike, specNumbersB, specPlaceB, placeTailB]
  cases hp : isPrimeB p
  · simp
  · by_cases hl : xs.length = 4
    · cases ha : xs.all (inP p)
      · simp
      · rw [← monic_row hp _ (all_inP_bd ha)]
        have h1 := list4 hl
        have h2 := list4 ((rowS_length p xs).trans hl)
        generalize rowS p xs = r at *
        generalize r.getD 0 0 = a at *
        generalize r.getD 1 0 = b at *
        generalize r.getD 2 0 = c at *
        generalize r.getD 3 0 = d at *
        subst h2
        rw [Bool.eq_iff_iff]
        generalize hxs : xs.getD 0 0 = a' at *
        generalize hxs : xs.getD 1 0 = b' at *
        generalize hxs : xs.getD 2 0 = c' at *
        generalize hxs : xs.getD 3 0 = d' at *
        subst h1
        simp [and_assoc]
    · have : ((xs.length : Int) = 4) = False := by simp; omega
      simp [this]

theorem specPlaceB_monic {p : Int} {xs : List Int} (h : specPlaceB p xs = true) : xs.length = 4 ∧ isMonicB xs = true := by
  rw [← places_alike] at h
  simp [areNumbersB] at h
  exact ⟨by omega, h.2⟩

end Go.Proofs.Ytkhkcgoblibnpaa
