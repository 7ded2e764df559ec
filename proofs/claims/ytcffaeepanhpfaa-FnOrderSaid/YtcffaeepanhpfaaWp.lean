/-
  Words as moves of the lines and of the roots: plain laws.
-/
import Derived.Test.YtcffaeepanhpfaaWt
import Derived.Test.YtcffaeepanhpfaaK5
namespace Go.Proofs.Ytcffaeepanhpfaa
set_option linter.unusedVariables false
set_option linter.unusedSimpArgs false

/-- Where a word moves a line, and a root, and a class. -/
def wL (xs : List Int) (k : Nat) : Nat := xs.foldl (fun l x => mvL x.toNat l) k
def wR (xs : List Int) (j : Nat) : Nat := xs.foldl (fun l x => mvR x.toNat l) j
def actF (a : List Int) (xs : List Int) : List Int := xs.foldl (fun b x => refl b (simple x.toNat)) a
def Wd (xs : List Int) : Prop := ∀ x ∈ xs, ∃ i : Nat, i < 6 ∧ x = (i : Int)
theorem Wd.head {x : Int} {xs : List Int} (h : Wd (x :: xs)) : ∃ i : Nat, i < 6 ∧ x = (i : Int) := h x (by simp)
theorem Wd.tail {x : Int} {xs : List Int} (h : Wd (x :: xs)) : Wd xs := fun y hy => h y (by simp [hy])
theorem Wd.append {xs ys : List Int} (h : Wd xs) (k : Wd ys) : Wd (xs ++ ys) := fun y hy => by
  rcases List.mem_append.1 hy with hy | hy
  · exact h y hy
  · exact k y hy
theorem Wd.left {xs ys : List Int} (h : Wd (xs ++ ys)) : Wd xs := fun y hy => h y (by simp [hy])
theorem Wd.right {xs ys : List Int} (h : Wd (xs ++ ys)) : Wd ys := fun y hy => h y (by simp [hy])
theorem Wd.reverse {xs : List Int} (h : Wd xs) : Wd xs.reverse := fun y hy => h y (by simpa using hy)
theorem Wd.one {i : Nat} (h : i < 6) : Wd [(i : Int)] := fun y hy => ⟨i, h, by simpa using hy⟩
theorem Wd.take {xs : List Int} (h : Wd xs) (n : Nat) : Wd (xs.take n) := fun y hy => h y (List.mem_of_mem_take hy)
theorem wordB_wd {xs : List Int} (h : wordB xs = true) : Wd xs := fun x hx => by
  rw [wordB, Bool.and_eq_true] at h
  have := List.all_eq_true.1 h.1 x hx
  simp [inW, inB] at this
  exact ⟨x.toNat, by omega, by omega⟩
theorem wd_wordB {xs : List Int} (h : Wd xs) (hl : xs.length ≤ 60) : wordB xs = true := by
  rw [wordB, Bool.and_eq_true]
  refine ⟨List.all_eq_true.2 fun x hx => ?_, by simpa using hl⟩
  obtain ⟨i, hi, rfl⟩ := h x hx
  simp [inW, inB]
  omega

theorem wL_append (xs ys : List Int) (k : Nat) : wL (xs ++ ys) k = wL ys (wL xs k) := List.foldl_append
theorem wR_append (xs ys : List Int) (k : Nat) : wR (xs ++ ys) k = wR ys (wR xs k) := List.foldl_append
theorem actF_append (a xs ys : List Int) : actF a (xs ++ ys) = actF (actF a xs) ys := List.foldl_append
theorem wL_one (i k : Nat) : wL [(i : Int)] k = mvL i k := by simp [wL]
theorem wR_one (i k : Nat) : wR [(i : Int)] k = mvR i k := by simp [wR]
theorem wL_lt {xs : List Int} : Wd xs → ∀ {k : Nat}, k < 27 → wL xs k < 27 := by
  induction xs with
  | nil => intro _ k hk; exact hk
  | cons x xs ih =>
    intro h k hk
    obtain ⟨i, hi, rfl⟩ := h.head
    exact ih h.tail ((tabL_ok i hi k hk).1)
theorem wR_lt {xs : List Int} : Wd xs → ∀ {k : Nat}, k < 72 → wR xs k < 72 := by
  induction xs with
  | nil => intro _ k hk; exact hk
  | cons x xs ih =>
    intro h k hk
    obtain ⟨i, hi, rfl⟩ := h.head
    exact ih h.tail ((tabR_ok i hi k hk).1)
theorem actF_line {xs : List Int} : Wd xs → ∀ {k : Nat}, k < 27 → actF (lineC k) xs = lineC (wL xs k) := by
  induction xs with
  | nil => intro _ k hk; rfl
  | cons x xs ih =>
    intro h k hk
    obtain ⟨i, hi, rfl⟩ := h.head
    have := ih h.tail (tabL_ok i hi k hk).1
    rw [← (tabL_ok i hi k hk).2.1] at this
    simpa [actF, wL] using this
theorem actF_root {xs : List Int} : Wd xs → ∀ {k : Nat}, k < 72 → actF (rootC k) xs = rootC (wR xs k) := by
  induction xs with
  | nil => intro _ k hk; rfl
  | cons x xs ih =>
    intro h k hk
    obtain ⟨i, hi, rfl⟩ := h.head
    have := ih h.tail (tabR_ok i hi k hk).1
    rw [← (tabR_ok i hi k hk).2.1] at this
    simpa [actF, wR] using this
theorem lineC_in {k : Nat} (h : k < 27) : lineC k ∈ lines := by
  simp [lineC, List.getD_eq_getElem?_getD, List.getElem?_eq_getElem (show k < lines.length by rw [lines_len]; exact h)]
theorem rootC_in {k : Nat} (h : k < 72) : rootC k ∈ roots := by
  simp [rootC, List.getD_eq_getElem?_getD, List.getElem?_eq_getElem (show k < roots.length by rw [roots_len]; exact h)]
theorem bd_valid {a : List Int} (h : ∀ x ∈ a, -2 ≤ x ∧ x ≤ 2) : validB a = true := List.all_eq_true.2 fun x hx => by
  have := h x hx
  simp [inC]
  omega
theorem lineC_valid {k : Nat} (h : k < 27) : validB (lineC k) = true := bd_valid (lines_bd _ (lineC_in h))
theorem rootC_valid {k : Nat} (h : k < 72) : validB (rootC k) = true := bd_valid (roots_bd _ (rootC_in h))
theorem runW_line {xs : List Int} : Wd xs → ∀ {k : Nat}, k < 27 → runW (lineC k) xs = some (lineC (wL xs k)) := by
  induction xs with
  | nil => intro _ k hk; rfl
  | cons x xs ih =>
    intro h k hk
    obtain ⟨i, hi, rfl⟩ := h.head
    have h1 := tabL_ok i hi k hk
    rw [runW, Int.toNat_natCast, h1.2.1, if_pos (lineC_valid h1.1), ih h.tail h1.1]
    simp [wL]
theorem runW_root {xs : List Int} : Wd xs → ∀ {k : Nat}, k < 72 → runW (rootC k) xs = some (rootC (wR xs k)) := by
  induction xs with
  | nil => intro _ k hk; rfl
  | cons x xs ih =>
    intro h k hk
    obtain ⟨i, hi, rfl⟩ := h.head
    have h1 := tabR_ok i hi k hk
    rw [runW, Int.toNat_natCast, h1.2.1, if_pos (rootC_valid h1.1), ih h.tail h1.1]
    simp [wR]
theorem wL_back {xs : List Int} : Wd xs → ∀ {k : Nat}, k < 27 → wL xs.reverse (wL xs k) = k := by
  induction xs with
  | nil => intro _ k hk; rfl
  | cons x xs ih =>
    intro h k hk
    obtain ⟨i, hi, rfl⟩ := h.head
    have h1 := tabL_ok i hi k hk
    have := ih h.tail h1.1
    rw [List.reverse_cons, wL_append, show wL ((i : Int) :: xs) k = wL xs (mvL i k) by simp [wL], this, wL_one, h1.2.2]
theorem wR_back {xs : List Int} : Wd xs → ∀ {k : Nat}, k < 72 → wR xs.reverse (wR xs k) = k := by
  induction xs with
  | nil => intro _ k hk; rfl
  | cons x xs ih =>
    intro h k hk
    obtain ⟨i, hi, rfl⟩ := h.head
    have h1 := tabR_ok i hi k hk
    have := ih h.tail h1.1
    rw [List.reverse_cons, wR_append, show wR ((i : Int) :: xs) k = wR xs (mvR i k) by simp [wR], this, wR_one, h1.2.2.1]
theorem wL_forth {xs : List Int} (h : Wd xs) {k : Nat} (hk : k < 27) : wL xs (wL xs.reverse k) = k := by
  have := wL_back h.reverse hk
  rwa [List.reverse_reverse] at this
theorem wR_forth {xs : List Int} (h : Wd xs) {k : Nat} (hk : k < 72) : wR xs (wR xs.reverse k) = k := by
  have := wR_back h.reverse hk
  rwa [List.reverse_reverse] at this
theorem wL_inj {xs : List Int} (h : Wd xs) {j k : Nat} (hj : j < 27) (hk : k < 27) (e : wL xs j = wL xs k) : j = k := by
  have := congrArg (wL xs.reverse) e
  rwa [wL_back h hj, wL_back h hk] at this
theorem wR_inj {xs : List Int} (h : Wd xs) {j k : Nat} (hj : j < 72) (hk : k < 72) (e : wR xs j = wR xs k) : j = k := by
  have := congrArg (wR xs.reverse) e
  rwa [wR_back h hj, wR_back h hk] at this
theorem wR_neg {xs : List Int} : Wd xs → ∀ {k : Nat}, k < 72 → wR xs (71 - k) = 71 - wR xs k := by
  induction xs with
  | nil => intro _ k hk; rfl
  | cons x xs ih =>
    intro h k hk
    obtain ⟨i, hi, rfl⟩ := h.head
    have h1 := tabR_ok i hi k hk
    have := ih h.tail h1.1
    simp only [wR, List.foldl_cons, Int.toNat_natCast] at this ⊢
    rw [h1.2.2.2, this]
theorem wL_prd {xs : List Int} : Wd xs → ∀ {j k : Nat}, j < 27 → k < 27 → prd (lineC (wL xs j)) (lineC (wL xs k)) = prd (lineC j) (lineC k) := by
  induction xs with
  | nil => intro _ j k _ _; rfl
  | cons x xs ih =>
    intro h j k hj hk
    obtain ⟨i, hi, rfl⟩ := h.head
    have := ih h.tail (tabL_ok i hi j hj).1 (tabL_ok i hi k hk).1
    rw [lines_prd i hi j hj k hk] at this
    simpa [wL] using this

/-- Again and again. -/
def itN (f : Nat → Nat) : Nat → Nat → Nat
  | 0, k => k
  | n + 1, k => f (itN f n k)
theorem itN_add (f : Nat → Nat) (m n k : Nat) : itN f (m + n) k = itN f m (itN f n k) := by
  induction m with
  | zero => rw [Nat.zero_add]; rfl
  | succ m ih => rw [Nat.succ_add, itN, ih]; rfl
theorem itN_lt {f : Nat → Nat} (hf : ∀ k, k < 27 → f k < 27) : ∀ n k, k < 27 → itN f n k < 27
  | 0, k, h => h
  | n + 1, k, h => hf _ (itN_lt hf n k h)
def isId (f : Nat → Nat) : Bool := (List.range 27).all (fun k => f k == k)
theorem isId_iff {f : Nat → Nat} : isId f = true ↔ ∀ k, k < 27 → f k = k := by
  simp [isId]
theorem itN_period {f : Nat → Nat} {m : Nat} (hm : ∀ k, k < 27 → itN f m k = k) (hf : ∀ k, k < 27 → f k < 27) : ∀ q r k, k < 27 → itN f (q * m + r) k = itN f r k
  | 0, r, k, _ => by rw [Nat.zero_mul, Nat.zero_add]
  | q + 1, r, k, hk => by
    rw [show (q + 1) * m + r = q * m + (m + r) by rw [Nat.succ_mul]; omega, itN_period hm hf q (m + r) k hk, itN_add, hm _ (itN_lt hf r k hk)]

/-- Moved back, again and again. -/
theorem itN_back {f g : Nat → Nat} (hf : ∀ k, k < 27 → f k < 27) (hg : ∀ k, k < 27 → g (f k) = k) : ∀ n k, k < 27 → itN g n (itN f n k) = k
  | 0, k, _ => rfl
  | n + 1, k, hk => by
    rw [show itN g (n + 1) (itN f (n + 1) k) = itN g (n + 1) (f (itN f n k)) from rfl, show n + 1 = n + 1 from rfl, itN_add g n 1]
    show itN g n (g (f (itN f n k))) = k
    rw [hg _ (itN_lt hf n k hk)]
    exact itN_back hf hg n k hk
theorem itN_congr {f g : Nat → Nat} (hf : ∀ k, k < 27 → f k < 27) (h : ∀ k, k < 27 → f k = g k) : ∀ n k, k < 27 → itN f n k = itN g n k
  | 0, k, _ => rfl
  | n + 1, k, hk => by
    show f (itN f n k) = g (itN g n k)
    rw [← itN_congr hf h n k hk, h _ (itN_lt hf n k hk)]

end Go.Proofs.Ytcffaeepanhpfaa
