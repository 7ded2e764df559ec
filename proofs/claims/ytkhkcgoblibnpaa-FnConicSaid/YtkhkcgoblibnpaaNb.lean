/-
  Plain laws of the null space that the program's solutions are rows of.
-/
import Derived.Test.YtkhkcgoblibnpaaNa
namespace Go.Proofs.Ytkhkcgoblibnpaa
set_option linter.unusedVariables false
set_option linter.unusedSimpArgs false

theorem getD_set_eq {l : List Int} {a : Nat} {v : Int} (h : a < l.length) : (l.set a v).getD a 0 = v := by
  simp [List.getD_eq_getElem?_getD, h]
theorem getD_set_ne {l : List Int} {a j : Nat} {v : Int} (h : j ≠ a) : (l.set a v).getD j 0 = l.getD j 0 := by
  simp [List.getD_eq_getElem?_getD, List.getElem?_set_ne (Ne.symm h)]
theorem contains_no {hs : List Nat} {c : Nat} (h : hs.contains c = false) {i : Nat} (hi : i < hs.length) : hs.getD i 0 ≠ c := fun e => by
  have h1 : hs.contains c = true := by
    rw [List.contains_iff_mem, ← e]; exact getD_mem hi
  rw [h] at h1; cases h1
theorem contains_or (hs : List Nat) (c : Nat) : (∃ i, i < hs.length ∧ hs.getD i 0 = c) ∨ hs.contains c = false := by
  cases h : hs.contains c
  · exact .inr rfl
  · left
    rw [List.contains_iff_mem] at h
    obtain ⟨i, hi, e⟩ := List.getElem_of_mem h
    exact ⟨i, hi, by simp [List.getD_eq_getElem?_getD, List.getElem?_eq_getElem hi, e]⟩

section
variable {p : Int} {wd : Nat} {left base : List (List Int)} {hs : List Nat}
theorem RedI.inj (h : RedI p wd wd left base hs) {i k : Nat} (hi : i < hs.length) (hk : k < hs.length) (e : hs.getD i 0 = hs.getD k 0) : i = k := by
  rcases Nat.lt_trichotomy i k with h1 | h1 | h1
  · have := h.hm i k h1 hk; omega
  · exact h1
  · have := h.hm k i h1 hi; omega
theorem nlTo_head (h : RedI p wd wd left base hs) (c : Nat) : ∀ k, k ≤ hs.length → ∀ i, i < k → (nlTo p wd base hs c k).getD (hs.getD i 0) 0 = -(base.getD i []).getD c 0 % p
  | 0, _, i, hi => by omega
  | k + 1, hk, i, hi => by
    rw [nlTo]
    by_cases hik : i = k
    · subst hik
      exact getD_set_eq (by rw [nlTo_len]; exact h.hi i (by omega))
    · rw [getD_set_ne (fun e => hik (h.inj (by omega) (by omega) e))]
      exact nlTo_head h c k (by omega) i (by omega)
theorem nlTo_other (h : RedI p wd wd left base hs) (c : Nat) {j : Nat} (hj : j < wd) : ∀ k, k ≤ hs.length → (∀ i, i < k → hs.getD i 0 ≠ j) → (nlTo p wd base hs c k).getD j 0 = if j = c then 1 else 0
  | 0, _, _ => by
    rw [nlTo]
    by_cases e : j = c
    · subst e; rw [if_pos rfl]; exact getD_set_eq (by simpa using hj)
    · rw [if_neg e, getD_set_ne e]
      simp [List.getD_eq_getElem?_getD, List.getElem?_replicate, hj]
  | k + 1, hk, hn => by
    rw [nlTo, getD_set_ne (fun e => hn k (by omega) e.symm)]
    exact nlTo_other h c hj k (by omega) (fun i hi => hn i (by omega))
theorem nl_head (h : RedI p wd wd left base hs) (c : Nat) {i : Nat} (hi : i < hs.length) : (nlRow p wd base hs c).getD (hs.getD i 0) 0 = -(base.getD i []).getD c 0 % p := by
  rw [nlRow, ← h.hl]; exact nlTo_head h c _ (Nat.le_refl _) i hi
theorem nl_free (h : RedI p wd wd left base hs) (c : Nat) {j : Nat} (hj : j < wd) (hn : hs.contains j = false) : (nlRow p wd base hs c).getD j 0 = if j = c then 1 else 0 := by
  rw [nlRow, ← h.hl]; exact nlTo_other h c hj _ (Nat.le_refl _) (fun i hi => contains_no hn hi)
/-- The rows of the free columns lie in the null space. -/
theorem nl_null (h : RedI p wd wd left base hs) {c : Nat} (hc : c < wd) (hn : hs.contains c = false) {i : Nat} (hi : i < base.length) : Zr p wd (base.getD i []) (nlRow p wd base hs c) := by
  have hi' : i < hs.length := by rw [h.hl]; exact hi
  have hia := h.hi i hi'
  have hac : hs.getD i 0 ≠ c := contains_no hn hi'
  unfold Zr
  rw [dot_sum, sumN_split _ (hs.getD i 0) wd hia, sumN_split _ c wd hc, if_neg (Ne.symm hac), nl_head h c hi', nl_free h c hc hn, if_pos rfl, h.oh i i hi hi', if_pos rfl, sumN_zero wd]
  · rw [Int.add_zero, Int.one_mul, Int.mul_one, Int.add_emod, Int.emod_emod_of_dvd _ (Int.dvd_refl p), ← Int.add_emod]
    rw [Int.add_comm, Int.add_right_neg]; rfl
  · intro j hj
    by_cases e1 : j = c
    · rw [if_pos e1]
    · rw [if_neg e1]
      by_cases e2 : j = hs.getD i 0
      · rw [if_pos e2]
      · rw [if_neg e2]
        rcases contains_or hs j with ⟨k, hk, rfl⟩ | hnj
        · rw [h.oh i k hi hk, if_neg (fun e => e2 (by rw [e])), Int.zero_mul]
        · rw [nl_free h c hj hnj, if_neg e1, Int.mul_zero]
theorem free_len (h : RedI p wd wd left base hs) : ∀ c, c ≤ wd → ∃ m, m ≤ hs.length ∧ (∀ i, i < m → hs.getD i 0 < c) ∧ (∀ i, m ≤ i → i < hs.length → c ≤ hs.getD i 0) ∧ (freeTo hs c).length + m = c
  | 0, _ => ⟨0, by omega, by intro i hi; omega, by intro i _ _; omega, by simp [freeTo]⟩
  | c + 1, hc => by
    obtain ⟨m, h1, h2, h3, h4⟩ := free_len h c (by omega)
    by_cases hm : m < hs.length ∧ hs.getD m 0 = c
    · obtain ⟨hm1, hm2⟩ := hm
      refine ⟨m + 1, by omega, fun i hi => ?_, fun i hi hil => ?_, ?_⟩
      · by_cases e : i = m
        · subst e; omega
        · have := h2 i (by omega); omega
      · have := h.hm m i (by omega) hil; omega
      · rw [freeTo_succ, if_pos (by rw [List.contains_iff_mem, ← hm2]; exact getD_mem hm1)]; omega
    · have hno : hs.contains c = false := by
        rcases contains_or hs c with ⟨i, hi, e⟩ | h'
        · exfalso
          rcases Nat.lt_or_ge i m with hlt | hge
          · have := h2 i hlt; omega
          · by_cases e2 : i = m
            · subst e2; exact hm ⟨hi, e⟩
            · have := h.hm m i (by omega) hi
              have := h3 m (Nat.le_refl _) (by omega)
              omega
        · exact h'
      refine ⟨m, h1, fun i hi => by have := h2 i hi; omega, fun i hi hil => ?_, ?_⟩
      · have h5 := h3 i hi hil
        have h6 := contains_no hno hil
        omega
      · rw [freeTo_succ, hno, if_neg (by simp), List.length_append, List.length_singleton]; omega
theorem free_all (h : RedI p wd wd left base hs) : (freeTo hs wd).length + hs.length = wd := by
  obtain ⟨m, h1, h2, h3, h4⟩ := free_len h wd (Nat.le_refl _)
  by_cases e : m = hs.length
  · rw [e] at h4; exact h4
  · have := h3 m (Nat.le_refl _) (by omega)
    have := h.hi m (by omega)
    omega
theorem free_mem {c : Nat} (h : c ∈ freeTo hs wd) : c < wd ∧ hs.contains c = false := by
  have := List.mem_filter.1 h
  exact ⟨List.mem_range.1 this.1, by simpa using this.2⟩
theorem free_nodup : (freeTo hs wd).Nodup := List.nodup_range.sublist List.filter_sublist
/-- The list with 1 at c. -/
def unit (wd c : Nat) : List Int := (List.replicate wd 0).set c 1
theorem unit_len (wd c : Nat) : (unit wd c).length = wd := by simp [unit]
theorem dot_unit (r : List Int) {wd c : Nat} (hc : c < wd) : dotTo r (unit wd c) wd = r.getD c 0 := by
  rw [dot_sum, sumN_split _ c wd hc, sumN_zero wd]
  · rw [unit, getD_set_eq (by simpa using hc)]; omega
  · intro j hj
    by_cases e : j = c
    · rw [if_pos e]
    · rw [if_neg e, unit, getD_set_ne e]
      simp [List.getD_eq_getElem?_getD, List.getElem?_replicate, hj]
theorem nl_sj (hp : isPrimeB p = true) (h : RedI p wd wd left base hs) : Sj p wd (nlRows p wd base hs wd) := by
  have hb := isPrimeB_bd hp
  have hlen : (nlRows p wd base hs wd).length = (freeTo hs wd).length := List.length_map _
  have hget : ∀ i, i < (freeTo hs wd).length → (nlRows p wd base hs wd).getD i [] = nlRow p wd base hs ((freeTo hs wd).getD i 0) := fun i hi => getD_map' (d := 0) _ hi
  refine sj_dual hp (fun i => unit wd ((freeTo hs wd).getD i 0)) (fun i _ => unit_len _ _) ?_ ?_
  · intro i j hi hj hij
    rw [hlen] at hi hj
    obtain ⟨c1, c2⟩ := free_mem (getD_mem (d := 0) hj)
    rw [hget i hi, dot_unit _ c1, nl_free h _ c1 c2, if_neg ?_]
    · rfl
    · intro e
      have hn := free_nodup (hs := hs) (wd := wd)
      rw [List.getD_eq_getElem?_getD, List.getD_eq_getElem?_getD, List.getElem?_eq_getElem hj, List.getElem?_eq_getElem hi] at e
      have e' : (freeTo hs wd)[j] = (freeTo hs wd)[i] := e
      have hpw := List.pairwise_iff_getElem.1 hn
      rcases Nat.lt_trichotomy i j with h1 | h1 | h1
      · exact hpw i j hi hj h1 e'.symm
      · exact hij h1
      · exact hpw j i hj hi h1 e'
  · intro i hi
    rw [hlen] at hi
    obtain ⟨c1, c2⟩ := free_mem (getD_mem (d := 0) hi)
    rw [hget i hi, dot_unit _ c1, nl_free h _ c1 c2, if_pos rfl, Int.emod_eq_of_lt (by omega) (by omega)]
    omega
end

/-- The solutions lie in the null space. -/
theorem sol_null {p : Int} {wd : Nat} (hp : isPrimeB p = true) {rows : List (List Int)} (hw : ∀ r ∈ rows, r.length = wd) {r s : List Int} (hr : r ∈ rows) (hs : s ∈ solP p wd rows) : Zr p wd s r := by
  obtain ⟨left, hI⟩ := RedI.done hp hw
  have hwn : ∀ q ∈ nlRows p wd (redP p wd rows) (hdsP p wd rows) wd, q.length = wd := fun q hq => by
    obtain ⟨c, _, rfl⟩ := List.mem_map.1 hq
    exact nlTo_len _ _ _ _ _ _
  refine (null_red hp hwn r).1 (fun q hq => ?_) s hs
  obtain ⟨c, hc, rfl⟩ := List.mem_map.1 hq
  obtain ⟨c1, c2⟩ := free_mem hc
  have h1 : ∀ b ∈ redP p wd rows, Zr p wd b (nlRow p wd (redP p wd rows) (hdsP p wd rows) c) := fun b hb => by
    obtain ⟨i, hi, rfl⟩ := List.getElem_of_mem hb
    have := nl_null hI c1 c2 hi
    rwa [show (redP p wd rows).getD i [] = (redP p wd rows)[i] by simp [List.getD_eq_getElem?_getD, List.getElem?_eq_getElem hi]] at this
  have h2 := (null_red hp hw _).2 h1 r hr
  unfold Zr at h2 ⊢
  rw [dot_comm]; exact h2
/-- How many solutions there are. -/
theorem sol_count {p : Int} {wd : Nat} (hp : isPrimeB p = true) {rows : List (List Int)} (hw : ∀ r ∈ rows, r.length = wd) : (solP p wd rows).length + (redP p wd rows).length = wd := by
  obtain ⟨left, hI⟩ := RedI.done hp hw
  have hwn : ∀ q ∈ nlRows p wd (redP p wd rows) (hdsP p wd rows) wd, q.length = wd := fun q hq => by
    obtain ⟨c, _, rfl⟩ := List.mem_map.1 hq
    exact nlTo_len _ _ _ _ _ _
  rw [solP, sj_len hp hwn (nl_sj hp hI), ← hI.hl, nlRows, List.length_map]
  exact free_all hI
/-- Rows of full rank: only 0 goes to 0. -/
theorem full_null {p : Int} {wd : Nat} (hp : isPrimeB p = true) {rows : List (List Int)} (hw : ∀ r ∈ rows, r.length = wd) (hf : solP p wd rows = []) {x : List Int} (hx : ∀ r ∈ rows, Zr p wd r x) : ∀ j, j < wd → x.getD j 0 % p = 0 := by
  intro j hj
  obtain ⟨left, hI⟩ := RedI.done hp hw
  have hc := sol_count hp hw
  rw [hf, List.length_nil, Nat.zero_add] at hc
  have hfr : (freeTo (hdsP p wd rows) wd).length = 0 := by have := free_all hI; rw [hI.hl] at this; omega
  have hfn : freeTo (hdsP p wd rows) wd = [] := List.length_eq_zero_iff.1 hfr
  have hz := (null_red hp hw x).1 hx
  have hall : ∀ c, c < wd → ∃ i, i < (hdsP p wd rows).length ∧ (hdsP p wd rows).getD i 0 = c := fun c hc => by
    rcases contains_or (hdsP p wd rows) c with h | h
    · exact h
    · exfalso
      have : c ∈ freeTo (hdsP p wd rows) wd := List.mem_filter.2 ⟨List.mem_range.2 hc, by rw [h]; rfl⟩
      rw [hfn] at this; cases this
  obtain ⟨i, hi, rfl⟩ := hall j hj
  have hib : i < (redP p wd rows).length := by rw [← hI.hl]; exact hi
  have h1 := hz _ (getD_mem (d := []) hib)
  unfold Zr at h1
  rw [dot_sum, sumN_split _ _ wd hj, sumN_zero wd] at h1
  · rw [hI.oh i i hib hi, if_pos rfl, Int.one_mul, Int.add_zero] at h1
    exact h1
  · intro k hk
    by_cases e : k = (hdsP p wd rows).getD i 0
    · rw [if_pos e]
    · rw [if_neg e]
      obtain ⟨m, hm, rfl⟩ := hall k hk
      rw [hI.oh i m hib hm, if_neg (fun e' => e (by rw [e'])), Int.zero_mul]
/-- If only 0 goes to 0 there are no solutions. -/
theorem null_full {p : Int} {wd : Nat} (hp : isPrimeB p = true) {rows : List (List Int)} (hw : ∀ r ∈ rows, r.length = wd) (hx : ∀ x : List Int, x.length = wd → (∀ r ∈ rows, Zr p wd r x) → ∀ j, j < wd → x.getD j 0 % p = 0) : solP p wd rows = [] := by
  have hb := isPrimeB_bd hp
  obtain ⟨left, hI⟩ := RedI.done hp hw
  have hfn : freeTo (hdsP p wd rows) wd = [] := by
    cases hf : freeTo (hdsP p wd rows) wd with
    | nil => rfl
    | cons c l =>
      exfalso
      have hc : c ∈ freeTo (hdsP p wd rows) wd := by rw [hf]; simp
      obtain ⟨c1, c2⟩ := free_mem hc
      have := hx (nlRow p wd (redP p wd rows) (hdsP p wd rows) c) (nlTo_len _ _ _ _ _ _) ((null_red hp hw _).2 fun b hb => by
        obtain ⟨i, hi, rfl⟩ := List.getElem_of_mem hb
        have := nl_null hI c1 c2 hi
        rwa [show (redP p wd rows).getD i [] = (redP p wd rows)[i] by simp [List.getD_eq_getElem?_getD, List.getElem?_eq_getElem hi]] at this) c c1
      rw [nl_free hI c c1 c2, if_pos rfl, Int.emod_eq_of_lt (by omega) (by omega)] at this
      omega
  have hc := sol_count hp hw
  have hfr := free_all hI
  rw [hfn, hI.hl, List.length_nil] at hfr
  exact List.length_eq_zero_iff.1 (by omega)

end Go.Proofs.Ytkhkcgoblibnpaa
