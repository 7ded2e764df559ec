/-
  The length of a word: positive roots that it makes negative. Plain laws.
-/
import Derived.Test.YtcffaeepanhpfaaWp
namespace Go.Proofs.Ytcffaeepanhpfaa
set_option linter.unusedVariables false
set_option linter.unusedSimpArgs false
set_option maxRecDepth 100000

def cnt (p : Nat → Bool) : Nat := (List.range 72).countP p
/-- The number of positive roots that a word makes negative. -/
def lenW (xs : List Int) : Nat := cnt (fun j => posR j && !posR (wR xs j))
theorem cnt_congr {p q : Nat → Bool} (h : ∀ j, j < 72 → p j = q j) : cnt p = cnt q := by
  unfold cnt
  refine List.countP_congr fun j hj => ?_
  rw [h j (List.mem_range.1 hj)]
theorem perm_mv : ∀ i, i < 6 → ((List.range 72).map (mvR i)).isPerm (List.range 72) = true := by decide +kernel
theorem perm_neg : ((List.range 72).map (fun j => 71 - j)).isPerm (List.range 72) = true := by decide +kernel
theorem cnt_mv {i : Nat} (hi : i < 6) (p : Nat → Bool) : cnt (fun j => p (mvR i j)) = cnt p := by
  have h := (List.isPerm_iff.1 (perm_mv i hi)).countP_eq p
  rw [List.countP_map] at h
  exact h
theorem cnt_neg (p : Nat → Bool) : cnt (fun j => p (71 - j)) = cnt p := by
  have h := (List.isPerm_iff.1 perm_neg).countP_eq p
  rw [List.countP_map] at h
  exact h
theorem cnt_word {xs : List Int} : Wd xs → ∀ p : Nat → Bool, cnt (fun j => p (wR xs j)) = cnt p := by
  induction xs with
  | nil => intro _ p; rfl
  | cons x xs ih =>
    intro h p
    obtain ⟨i, hi, rfl⟩ := h.head
    rw [← ih h.tail p, ← cnt_mv hi (fun j => p (wR xs j))]
    simp [wR]
/-- The word that moves back is as long. -/
theorem lenW_back {xs : List Int} (h : Wd xs) : lenW xs.reverse = lenW xs := by
  unfold lenW
  rw [← cnt_word h (fun j => posR j && !posR (wR xs.reverse j)), ← cnt_neg (fun j => posR (wR xs j) && !posR (wR xs.reverse (wR xs j)))]
  refine cnt_congr fun j hj => ?_
  rw [wR_back h (show 71 - j < 72 by omega), wR_neg h hj, posR_neg _ (wR_lt h hj), posR_neg j hj]
  cases posR j <;> cases posR (wR xs j) <;> rfl
theorem split_mv : ∀ i, i < 6 → (simpleR i :: (71 - simpleR i) :: (List.range 72).filter (fun j => j != simpleR i && j != 71 - simpleR i)).isPerm (List.range 72) = true := by decide +kernel
theorem cnt_split {i : Nat} (hi : i < 6) (p : Nat → Bool) : cnt p = (if p (simpleR i) then 1 else 0) + (if p (71 - simpleR i) then 1 else 0) + ((List.range 72).filter (fun j => j != simpleR i && j != 71 - simpleR i)).countP p := by
  have h := (List.isPerm_iff.1 (split_mv i hi)).countP_eq p
  unfold cnt
  rw [← h, List.countP_cons, List.countP_cons]
  omega
theorem cnt_step {i : Nat} (hi : i < 6) (Q : Nat → Bool) (hQ : ∀ j, j < 72 → Q (71 - j) = !Q j) :
    cnt (fun j => Q j && !posR (mvR i j)) = cnt (fun j => Q j && !posR j) + 1 ∨ cnt (fun j => Q j && !posR j) = cnt (fun j => Q j && !posR (mvR i j)) + 1 := by
  obtain ⟨h1, h2⟩ := simpleR_ok i hi
  have h3 := posR_neg _ h1
  have h4 := posR_mv i hi _ h1
  have h5 := posR_mv i hi (71 - simpleR i) (by omega)
  have h6 : (71 - simpleR i == simpleR i) = false := by simp; omega
  have h7 := hQ _ h1
  have hrest : ((List.range 72).filter (fun j => j != simpleR i && j != 71 - simpleR i)).countP (fun j => Q j && !posR (mvR i j)) = ((List.range 72).filter (fun j => j != simpleR i && j != 71 - simpleR i)).countP (fun j => Q j && !posR j) := by
    refine List.countP_congr fun j hj => ?_
    rw [List.mem_filter, List.mem_range, Bool.and_eq_true] at hj
    obtain ⟨e1, e2, e3⟩ := hj
    have e2' : (j == simpleR i) = false := by simpa using e2
    have e3' : (j == 71 - simpleR i) = false := by simpa using e3
    have := posR_mv i hi j e1
    rw [e2', e3'] at this
    rw [this]
    simp
  rw [cnt_split hi (fun j => Q j && !posR (mvR i j)), cnt_split hi (fun j => Q j && !posR j), hrest]
  simp only [beq_self_eq_true, if_true] at h4
  rw [h6] at h5
  simp only [beq_self_eq_true, if_true, Bool.false_eq_true, if_false] at h5
  simp only [h2, h3, h4, h5, h7, Bool.not_true, Bool.not_false, Bool.and_true, Bool.and_false, Bool.false_eq_true, if_false]
  cases Q (simpleR i)
  · right; simp; omega
  · left; simp; omega
theorem lenW_step {xs : List Int} (h : Wd xs) {i : Nat} (hi : i < 6) : lenW (xs ++ [(i : Int)]) = lenW xs + 1 ∨ lenW xs = lenW (xs ++ [(i : Int)]) + 1 := by
  have hQ : ∀ j, j < 72 → posR (wR xs.reverse (71 - j)) = !posR (wR xs.reverse j) := fun j hj => by
    rw [wR_neg h.reverse hj, posR_neg _ (wR_lt h.reverse hj)]
  have e1 : lenW xs = cnt (fun j => posR (wR xs.reverse j) && !posR j) := by
    unfold lenW
    rw [← cnt_word h.reverse (fun j => posR j && !posR (wR xs j))]
    exact cnt_congr fun j hj => by rw [wR_forth h hj]
  have e2 : lenW (xs ++ [(i : Int)]) = cnt (fun j => posR (wR xs.reverse j) && !posR (mvR i j)) := by
    unfold lenW
    rw [← cnt_word h.reverse (fun j => posR j && !posR (wR (xs ++ [(i : Int)]) j))]
    exact cnt_congr fun j hj => by rw [wR_append, wR_forth h hj, wR_one]
  rw [e1, e2]
  exact cnt_step hi _ hQ
theorem lenW_nil : lenW [] = 0 := by decide +kernel
theorem lenW_36 (xs : List Int) : lenW xs ≤ 36 := by
  have h : cnt posR = 36 := by decide +kernel
  rw [← h]
  unfold lenW cnt
  exact List.countP_mono_left fun j _ hj => by
    simp only [Bool.and_eq_true] at hj
    exact hj.1
theorem lenW_len (n : Nat) : ∀ xs : List Int, xs.length = n → Wd xs → lenW xs ≤ n ∧ (lenW xs + n) % 2 = 0 := by
  induction n with
  | zero =>
    intro xs hl _
    obtain rfl := List.length_eq_zero_iff.1 hl
    rw [lenW_nil]
    omega
  | succ n ih =>
    intro xs hl hw
    obtain ⟨ys, x, rfl⟩ : ∃ ys x, xs = ys ++ [x] := ⟨xs.dropLast, xs.getLast (by intro e; simp [e] at hl), (List.dropLast_concat_getLast _).symm⟩
    obtain ⟨i, hi, rfl⟩ := hw.right.head
    have := ih ys (by simpa using hl) hw.left
    have := lenW_step hw.left hi
    omega

/-- Whether a root is a sum of simple roots, as the reference tells it and as the program does. -/
def posSl : List Int → Bool
  | [] => false
  | x :: xs => if x != 0 then decide (x < 0) else posSl xs
def posS : List Int → Bool
  | [] => false
  | d :: ms => if d != 0 then decide (d > 0) else posSl ms
def posIl (s : Int) : List Int → Bool
  | [] => true
  | m :: ms => if s - m < 0 then false else posIl (s - m) ms
def posI (a : List Int) : Bool := posIl 0 ((lin a (-a.headD 0) (simple 5)).drop 1) && decide (0 ≤ a.headD 0)
theorem pos_ok : ∀ j, j < 72 → posS (rootC j) = posR j ∧ posI (rootC j) = posR j := by decide +kernel

end Go.Proofs.Ytcffaeepanhpfaa
