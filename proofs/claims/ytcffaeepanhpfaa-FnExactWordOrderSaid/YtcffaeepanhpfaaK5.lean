/-
  Contracts: words: the program's.
-/
import Derived.Test.YtcffaeepanhpfaaK4
import Derived.Deep.RegionWith
namespace Go.Proofs.Ytcffaeepanhpfaa
open Go.RowKit
set_option linter.unusedVariables false
set_option linter.unusedSimpArgs false

/-- A word: at most sixty numbers from 0 to 5. -/
def badW (x : Int) : Bool := decide (x < 0) || decide (x > 5)
def inW (x : Int) : Bool := inB x 0 5
def wordB (xs : List Int) : Bool := xs.all inW && decide (xs.length ≤ 60)
/-- A class moved by a word, as long as it stays one. -/
def runW (a : List Int) : List Int → Option (List Int)
  | [] => some a
  | i :: xs => if validB (refl a (simple i.toNat)) then runW (refl a (simple i.toNat)) xs else none
def waR (xs a : List Int) : Option (List Int) := if wordB xs && validB a then runW a xs else none
theorem bad_not_inW (x : Int) : badW x = !(inW x) := by
  by_cases h1 : x < 0 <;> by_cases h2 : x > 5 <;> simp [badW, inW, inB, h1, h2] <;> omega
theorem any_badW (xs : List Int) : xs.any badW = !(xs.all inW) := by
  induction xs with
  | nil => rfl
  | cons x xs ih => rw [List.any_cons, List.all_cons, ih, bad_not_inW]; cases inW x <;> rfl
theorem runW_drop {a xs : List Int} {k : Nat} (h : k < xs.length) : runW a (xs.drop k) = if validB (refl a (simple (xs.getD k 0).toNat)) then runW (refl a (simple (xs.getD k 0).toNat)) (xs.drop (k + 1)) else none := by
  rw [List.drop_eq_getElem_cons h, getD_lt h]
  rfl
theorem simple_len (i : Nat) : (simple i).length = 7 := by unfold simple; split <;> rfl
theorem simple_bd (i : Nat) : Bd 1 (simple i) := by
  unfold simple
  split <;> (intro x hx; simp at hx; omega)
theorem runW_len {xs : List Int} : ∀ {a b : List Int}, a.length = 7 → runW a xs = some b → b.length = 7 := by
  induction xs with
  | nil => intro a b ha h; cases h; exact ha
  | cons x xs ih =>
    intro a b ha h
    unfold runW at h
    split at h
    · exact ih (refl_len ha (simple_len _)) h
    · cases h
theorem waR_len {xs a : List Int} (ha : a.length = 7) : ((waR xs a).getD zeroC).length = 7 := by
  unfold waR
  split
  · cases h : runW a xs with
    | none => rfl
    | some b => exact runW_len ha h
  · rfl
theorem wordB_in {xs : List Int} (h : wordB xs = true) {k : Nat} (hk : k < xs.length) : ∃ i : Nat, i ≤ 5 ∧ xs.getD k 0 = i := by
  rw [wordB, Bool.and_eq_true] at h
  have := List.all_eq_true.1 h.1 (xs.getD k 0) (by rw [getD_lt hk]; exact List.getElem_mem _)
  generalize xs.getD k 0 = u at *
  simp [inW, inB] at this
  exact ⟨u.toNat, by omega, by omega⟩

theorem isWord1_ok (w : World) : PredI Try.prog 50 #[] badW w := by
  refine ⟨enters_of Try.func50 (by kernel_rfl) rfl, fun x => ?_⟩
  by_cases h1 : x < 0 <;> by_cases h2 : 5 < x
  all_goals
    go_enter Try.func50, Try.ntmps50
    go_wp2
    go_ret
    simp [badW, h1, h2]

theorem isWord_ok (A : Option Addr) (n c : Nat) (xs : List Int) (w : World) (hr : RI w A n xs) :
    Calls Try.prog 32 #[.slice A n c] w fun e w' => e = .returned (.bool (wordB xs)) ∧ w = w' := by
  have hl := hr.1
  have HR := hid hr
  clear hr
  by_cases hn : n ≤ 60
  · have HB := hid (show wordB xs = !(xs.any badW) by rw [wordB, any_badW]; simp; omega)
    go_enter Try.func32, Try.ntmps32
    go_wp2_with (go_at_call 49; refine (ContainsFunc_ok _ _ _ A n c xs _ HR.out (isWord1_ok w)).mono ?_; rintro e w2 ⟨rfl, rfl⟩)
    go_ret
    exact ⟨by rw [HB.out]; rfl, rfl⟩
  · have HB := hid (show wordB xs = false by rw [wordB]; simp; omega)
    go_enter Try.func32, Try.ntmps32
    go_wp2
    go_ret
    exact ⟨by rw [HB.out]; rfl, rfl⟩


end Go.Proofs.Ytcffaeepanhpfaa
