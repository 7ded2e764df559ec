/-
  Reduced rows with the columns of their heads; the rows whose products with rows are 0. Plain functions.
-/
import Derived.Test.YtkhkcgoblibnpaaRf
import Derived.Test.YtkhkcgoblibnpaaMn
namespace Go.Proofs.Ytkhkcgoblibnpaa
set_option linter.unusedVariables false
set_option linter.unusedSimpArgs false

/-- From column c on, n columns: the reduced rows, and the columns of their heads. -/
def redH (p : Int) : Nat → Nat → List (List Int) → List (List Int) → List Nat → List (List Int) × List Nat
  | 0, _, _, out, hs => (out, hs)
  | n + 1, c, left, out, hs =>
    if idxL (colP c) left 0 = -1 then redH p n (c + 1) left out hs
    else
      redH p n (c + 1) ((left.eraseIdx (idxL (colP c) left 0).toNat).map (elimL p c (scaleL p (invM p ((left.getD (idxL (colP c) left 0).toNat []).getD c 0)) (left.getD (idxL (colP c) left 0).toNat []))))
        (out.map (elimL p c (scaleL p (invM p ((left.getD (idxL (colP c) left 0).toNat []).getD c 0)) (left.getD (idxL (colP c) left 0).toNat []))) ++ [scaleL p (invM p ((left.getD (idxL (colP c) left 0).toNat []).getD c 0)) (left.getD (idxL (colP c) left 0).toNat [])]) (hs ++ [c])
theorem redH_none {p : Int} {n c : Nat} {left out : List (List Int)} {hs : List Nat} (hi : idxL (colP c) left 0 = -1) : redH p (n + 1) c left out hs = redH p n (c + 1) left out hs := by
  rw [redH, if_pos hi]
theorem redH_some {p : Int} {n c k : Nat} {left out : List (List Int)} {hs : List Nat} {row head : List Int} (hi : idxL (colP c) left 0 = k) (hr : left.getD k [] = row) (hh : scaleL p (invM p (row.getD c 0)) row = head) :
    redH p (n + 1) c left out hs = redH p n (c + 1) ((left.eraseIdx k).map (elimL p c head)) (out.map (elimL p c head) ++ [head]) (hs ++ [c]) := by
  rw [redH, if_neg (by omega), hi, Int.toNat_natCast, hr, hh]
theorem redH_nil {p : Int} {out : List (List Int)} {hs : List Nat} : ∀ n c : Nat, redH p n c [] out hs = (out, hs)
  | 0, _ => rfl
  | n + 1, c => by rw [redH_none rfl]; exact redH_nil n (c + 1)
theorem redH_fst {p : Int} : ∀ (n c : Nat) (left out : List (List Int)) (hs : List Nat), (redH p n c left out hs).1 = redF p n c left out
  | 0, _, _, _, _ => rfl
  | n + 1, c, left, out, hs => by
    by_cases hl : left.length = 0
    · obtain rfl := List.length_eq_zero_iff.1 hl
      rw [redH_nil, redF_nil rfl]
    · rcases idxL_range (colP c) left 0 with h | ⟨k, hk, h, _⟩
      · rw [redH_none h, redF_none hl h]; exact redH_fst n (c + 1) left out hs
      · rw [Nat.zero_add] at h
        rw [redH_some h rfl rfl, redF_some hl h rfl rfl]; exact redH_fst n (c + 1) _ _ _

/-- The columns of the heads of reduced rows. -/
def hdsP (p : Int) (wd : Nat) (rows : List (List Int)) : List Nat := (redH p wd 0 (rows.map (modL p)) [] []).2
theorem redP_fst (p : Int) (wd : Nat) (rows : List (List Int)) : redP p wd rows = (redH p wd 0 (rows.map (modL p)) [] []).1 := (redH_fst _ _ _ _ _).symm

/-- A row of numbers modulo a prime. -/
def Rg (p : Int) (wd : Nat) (r : List Int) : Prop := r.length = wd ∧ ∀ x ∈ r, 0 ≤ x ∧ x < p
theorem Rg.get {p : Int} {wd : Nat} {r : List Int} (h : Rg p wd r) {j : Nat} (hj : j < wd) : 0 ≤ r.getD j 0 ∧ r.getD j 0 < p := by
  obtain ⟨h1, h2⟩ := h
  rw [getD_lt (by omega)]
  exact h2 _ (List.getElem_mem _)
theorem Rg.modL {p : Int} (hp : 1 ≤ p) {wd : Nat} {r : List Int} (h : r.length = wd) : Rg p wd (modL p r) := ⟨by rw [modL_length, h], modL_rng hp r⟩
theorem Rg.scaleL {p : Int} (hp : 1 ≤ p) {wd : Nat} {r : List Int} (h : r.length = wd) (b : Int) : Rg p wd (scaleL p b r) := ⟨by rw [scaleL_length, h], scaleL_rng hp r⟩
theorem Rg.elimL {p : Int} (hp : 1 ≤ p) {wd : Nat} {h r : List Int} (hh : h.length = wd) (hr : r.length = wd) (c : Nat) : Rg p wd (elimL p c h r) := ⟨by rw [elimL_length _ _ _ _ (by omega), hr], elimL_rng hp h r⟩
theorem scaleL_get (p b : Int) (r : List Int) {j : Nat} (hj : j < r.length) : (scaleL p b r).getD j 0 = r.getD j 0 * b % p := by
  simp [scaleL, List.getD_eq_getElem?_getD, List.getElem?_map, List.getElem?_eq_getElem hj]
theorem elimL_get (p : Int) (c : Nat) (h r : List Int) {j : Nat} (hh : j < h.length) (hr : j < r.length) : (elimL p c h r).getD j 0 = (r.getD j 0 - r.getD c 0 * h.getD j 0) % p := by
  simp [elimL, List.getD_eq_getElem?_getD, List.getElem?_zipWith, List.getElem?_eq_getElem hh, List.getElem?_eq_getElem hr]
theorem modL_get (p : Int) (r : List Int) {j : Nat} (hj : j < r.length) : (modL p r).getD j 0 = r.getD j 0 % p := by
  simp [modL, List.getD_eq_getElem?_getD, List.getElem?_map, List.getElem?_eq_getElem hj]

/-- How rows and their heads stand when the columns before c are done. -/
structure RedI (p : Int) (wd c : Nat) (left out : List (List Int)) (hs : List Nat) : Prop where
  lg : ∀ r ∈ left, Rg p wd r
  og : ∀ r ∈ out, Rg p wd r
  lz : ∀ r ∈ left, ∀ j, j < c → r.getD j 0 = 0
  hl : hs.length = out.length
  hi : ∀ i, i < hs.length → hs.getD i 0 < c
  hm : ∀ i j, i < j → j < hs.length → hs.getD i 0 < hs.getD j 0
  oz : ∀ i, i < out.length → ∀ j, j < hs.getD i 0 → (out.getD i []).getD j 0 = 0
  oh : ∀ i k, i < out.length → k < hs.length → (out.getD i []).getD (hs.getD k 0) 0 = if i = k then 1 else 0

theorem idxL_none {q : List Int → Bool} : ∀ (xs : List (List Int)) (k : Nat), idxL q xs k = -1 → ∀ x ∈ xs, q x = false
  | [], _, _, x, hx => by cases hx
  | y :: xs, k, h, x, hx => by
    rw [idxL] at h
    split at h
    · omega
    · rename_i hq
      rcases List.mem_cons.1 hx with rfl | hx
      · simpa using hq
      · exact idxL_none xs (k + 1) h x hx
theorem getD_mem {α : Type} {xs : List α} {i : Nat} {d : α} (h : i < xs.length) : xs.getD i d ∈ xs := by
  simp [List.getD_eq_getElem?_getD, List.getElem?_eq_getElem h]
theorem getD_app_lt {α : Type} {xs ys : List α} {i : Nat} {d : α} (h : i < xs.length) : (xs ++ ys).getD i d = xs.getD i d := by
  simp [List.getD_eq_getElem?_getD, List.getElem?_append_left h]
theorem getD_app_one {α : Type} {xs : List α} {y d : α} {i : Nat} (h : i = xs.length) : (xs ++ [y]).getD i d = y := by
  subst h
  simp [List.getD_eq_getElem?_getD]
theorem getD_map' {α β : Type} (f : α → β) {xs : List α} {i : Nat} {d : α} {e : β} (h : i < xs.length) : (xs.map f).getD i e = f (xs.getD i d) := by
  simp [List.getD_eq_getElem?_getD, List.getElem?_map, List.getElem?_eq_getElem h]
theorem RedI.skip {p : Int} {wd c : Nat} {left out : List (List Int)} {hs : List Nat} (h : RedI p wd c left out hs) (hi : idxL (colP c) left 0 = -1) : RedI p wd (c + 1) left out hs := by
  refine ⟨h.lg, h.og, fun r hr j hj => ?_, h.hl, fun i hi => by have := h.hi i hi; omega, h.hm, h.oz, h.oh⟩
  by_cases hjc : j = c
  · subst hjc
    have := idxL_none left 0 hi r hr
    simpa [colP] using this
  · exact h.lz r hr j (by omega)
theorem RedI.step {p : Int} {wd c k : Nat} {left out : List (List Int)} {hs : List Nat} {row head : List Int} (hp : isPrimeB p = true) (hc : c < wd) (h : RedI p wd c left out hs) (hi : idxL (colP c) left 0 = k) (hk : k < left.length)
    (hr : left.getD k [] = row) (hh : scaleL p (invM p (row.getD c 0)) row = head) :
    RedI p wd (c + 1) ((left.eraseIdx k).map (elimL p c head)) (out.map (elimL p c head) ++ [head]) (hs ++ [c]) ∧ rowS p row = head ∧ 0 < row.getD c 0 ∧ row.getD c 0 < p ∧ (∀ j, j < c → head.getD j 0 = 0) ∧ head.getD c 0 = 1 ∧ Rg p wd head ∧ Rg p wd row := by
  have hb := isPrimeB_bd hp
  have hrm : row ∈ left := by rw [← hr]; exact getD_mem hk
  have hrg := h.lg row hrm
  have hrz := h.lz row hrm
  have hcr : row.getD c 0 ≠ 0 := by
    rcases idxL_range (colP c) left 0 with h' | ⟨i, _, h', h''⟩
    · omega
    · have : i = k := by omega
      subst this
      rw [hr] at h''
      simpa [colP] using h''
  have hcg := hrg.get hc
  have h0 : 0 < row.getD c 0 := by omega
  have hinv := inv_turned hp h0 hcg.2
  have hts := turned_spec hp h0 hcg.2
  rw [hinv] at hh
  have hhl : head.length = wd := by rw [← hh, scaleL_length]; exact hrg.1
  have hhz : ∀ j, j < c → head.getD j 0 = 0 := fun j hj => by
    rw [← hh, scaleL_get _ _ _ (by rw [hrg.1]; omega), hrz j hj]; simp
  have hh1 : head.getD c 0 = 1 := by rw [← hh, scaleL_get _ _ _ (by rw [hrg.1]; omega)]; exact hts.1
  have hhg : Rg p wd head := by rw [← hh]; exact Rg.scaleL (by omega) hrg.1 _
  have key : ∀ r, Rg p wd r → ∀ j, j < c → r.getD j 0 = 0 → (elimL p c head r).getD j 0 = 0 := fun r hr j hj h0 => by
    rw [elimL_get _ _ _ _ (by omega) (by rw [hr.1]; omega), h0, hhz j hj]; simp
  have keyc : ∀ r, Rg p wd r → (elimL p c head r).getD c 0 = 0 := fun r hr => by
    rw [elimL_get _ _ _ _ (by omega) (by rw [hr.1]; omega), hh1]; simp
  have same : ∀ r, Rg p wd r → ∀ j, j < c → (elimL p c head r).getD j 0 = r.getD j 0 := fun r hr j hj => by
    have hg := hr.get (show j < wd by omega)
    rw [elimL_get _ _ _ _ (by omega) (by rw [hr.1]; omega), hhz j hj]
    simp
    exact Int.emod_eq_of_lt hg.1 hg.2
  have hml : (out.map (elimL p c head)).length = out.length := List.length_map _
  have hoi : ∀ i, i < out.length → (out.map (elimL p c head) ++ [head]).getD i [] = elimL p c head (out.getD i []) := fun i hi => by
    rw [getD_app_lt (by rw [hml]; exact hi), getD_map' (d := []) _ hi]
  have hol : (out.map (elimL p c head) ++ [head]).getD out.length [] = head := getD_app_one hml.symm
  have hsi : ∀ i, i < hs.length → (hs ++ [c]).getD i 0 = hs.getD i 0 := fun i hi => getD_app_lt hi
  have hsl : (hs ++ [c]).getD hs.length 0 = c := getD_app_one rfl
  refine ⟨⟨?_, ?_, ?_, ?_, ?_, ?_, ?_, ?_⟩, ?_, h0, hcg.2, hhz, hh1, hhg, hrg⟩
  · intro r hr
    obtain ⟨q, hq, rfl⟩ := List.mem_map.1 hr
    have := h.lg q (List.mem_of_mem_eraseIdx hq)
    exact Rg.elimL (by omega) hhl this.1 c
  · intro r hr
    rcases List.mem_append.1 hr with hr | hr
    · obtain ⟨q, hq, rfl⟩ := List.mem_map.1 hr
      exact Rg.elimL (by omega) hhl (h.og q hq).1 c
    · simp at hr; subst hr; exact hhg
  · intro r hr j hj
    obtain ⟨q, hq, rfl⟩ := List.mem_map.1 hr
    have hqm := List.mem_of_mem_eraseIdx hq
    by_cases hjc : j = c
    · subst hjc; exact keyc q (h.lg q hqm)
    · exact key q (h.lg q hqm) j (by omega) (h.lz q hqm j (by omega))
  · simp [h.hl]
  · intro i hi
    simp at hi
    by_cases hil : i < hs.length
    · rw [hsi i hil]; have := h.hi i hil; omega
    · obtain rfl : i = hs.length := by omega
      rw [hsl]; omega
  · intro i j hij hj
    simp at hj
    by_cases hjl : j < hs.length
    · rw [hsi i (by omega), hsi j hjl]; exact h.hm i j hij hjl
    · obtain rfl : j = hs.length := by omega
      rw [hsl, hsi i hij]; exact h.hi i hij
  · intro i hi j hj
    simp at hi
    by_cases hil : i < out.length
    · rw [hsi i (by rw [h.hl]; exact hil)] at hj
      rw [hoi i hil]
      have := h.hi i (by rw [h.hl]; exact hil)
      exact key _ (h.og _ (getD_mem hil)) j (by omega) (h.oz i hil j hj)
    · obtain rfl : i = out.length := by omega
      rw [← h.hl, hsl] at hj
      rw [hol]; exact hhz j hj
  · intro i k' hi hk'
    simp at hi hk'
    by_cases hil : i < out.length
    · rw [hoi i hil]
      have hog := h.og _ (getD_mem (d := []) hil)
      by_cases hkl : k' < hs.length
      · rw [hsi k' hkl, same _ hog _ (h.hi k' hkl)]; exact h.oh i k' hil hkl
      · obtain rfl : k' = hs.length := by omega
        rw [hsl, keyc _ hog, if_neg (by rw [h.hl]; omega)]
    · obtain rfl : i = out.length := by omega
      rw [hol]
      by_cases hkl : k' < hs.length
      · rw [hsi k' hkl, hhz _ (h.hi k' hkl), if_neg (by rw [h.hl] at hkl; omega)]
      · obtain rfl : k' = hs.length := by omega
        rw [hsl, hh1, if_pos h.hl.symm]
  · rw [← hh]; exact rowS_pre hp c row (by rw [hrg.1]; exact hc) hrz h0 hcg.2
theorem RedI.all {p : Int} {wd : Nat} (hp : isPrimeB p = true) : ∀ (n c : Nat) (left out : List (List Int)) (hs : List Nat), c + n = wd → RedI p wd c left out hs → ∃ left', RedI p wd wd left' (redH p n c left out hs).1 (redH p n c left out hs).2
  | 0, c, left, out, hs, hc, h => by
    obtain rfl : c = wd := by omega
    exact ⟨left, h⟩
  | n + 1, c, left, out, hs, hc, h => by
    rcases idxL_range (colP c) left 0 with hi | ⟨k, hk, hi, _⟩
    · rw [redH_none hi]; exact RedI.all hp n (c + 1) _ _ _ (by omega) (h.skip hi)
    · rw [Nat.zero_add] at hi
      rw [redH_some hi rfl rfl]; exact RedI.all hp n (c + 1) _ _ _ (by omega) (h.step hp (by omega) hi hk rfl rfl).1
theorem RedI.start {p : Int} {wd : Nat} (hp : isPrimeB p = true) {rows : List (List Int)} (hw : ∀ r ∈ rows, r.length = wd) : RedI p wd 0 (rows.map (modL p)) [] [] := by
  have hb := isPrimeB_bd hp
  refine ⟨fun r hr => ?_, fun r hr => (by cases hr), fun r _ j hj => by omega, rfl, fun i hi => (by cases hi), fun i j _ hj => (by cases hj), fun i hi => (by cases hi), fun i k hi => (by cases hi)⟩
  obtain ⟨q, hq, rfl⟩ := List.mem_map.1 hr
  exact Rg.modL (by omega) (hw q hq)
theorem RedI.done {p : Int} {wd : Nat} (hp : isPrimeB p = true) {rows : List (List Int)} (hw : ∀ r ∈ rows, r.length = wd) : ∃ left', RedI p wd wd left' (redP p wd rows) (hdsP p wd rows) := by
  have := RedI.all hp wd 0 _ _ _ (by omega) (RedI.start hp hw)
  rw [← redP_fst] at this
  exact this

/-- The first place of a number. -/
def idx1 (v : Int) : List Int → Nat → Int
  | [], _ => -1
  | x :: xs, k => if v == x then (k : Int) else idx1 v xs (k + 1)
theorem idx1_at (v : Int) : ∀ (xs : List Int) (k j : Nat), j < xs.length → xs.getD j 0 = v → (∀ i, i < j → xs.getD i 0 ≠ v) → idx1 v xs k = ((k + j : Nat) : Int)
  | [], _, _, h, _, _ => by cases h
  | x :: xs, k, 0, _, h, _ => by
    rw [idx1, if_pos (by rw [show x = v from h]; simp), Nat.add_zero]
  | x :: xs, k, j + 1, hj, h, hn => by
    rw [idx1, if_neg (by have := hn 0 (by omega); simp at this; simpa using fun e => this e.symm)]
    have := idx1_at v xs (k + 1) j (by simpa using hj) h (fun i hi => hn (i + 1) (by omega))
    rw [this]
    congr 1; omega
theorem head_idx {p : Int} {wd c : Nat} {left out : List (List Int)} {hs : List Nat} (h : RedI p wd c left out hs) {i : Nat} (hi : i < out.length) (hc : c ≤ wd) : idx1 1 (out.getD i []) 0 = ((hs.getD i 0 : Nat) : Int) := by
  have hl := h.hi i (by rw [h.hl]; exact hi)
  have := idx1_at 1 (out.getD i []) 0 (hs.getD i 0) (by rw [(h.og _ (getD_mem hi)).1]; omega) (by rw [h.oh i i hi (by rw [h.hl]; exact hi), if_pos rfl]) (fun j hj => by rw [h.oz i hi j hj]; omega)
  rwa [Nat.zero_add] at this

/-- The row of one free column, after k heads. -/
def nlTo (p : Int) (wd : Nat) (base : List (List Int)) (hs : List Nat) (c : Nat) : Nat → List Int
  | 0 => (List.replicate wd 0).set c 1
  | k + 1 => (nlTo p wd base hs c k).set (hs.getD k 0) (-(base.getD k []).getD c 0 % p)
def nlRow (p : Int) (wd : Nat) (base : List (List Int)) (hs : List Nat) (c : Nat) : List Int := nlTo p wd base hs c base.length
theorem nlTo_len (p : Int) (wd : Nat) (base : List (List Int)) (hs : List Nat) (c k : Nat) : (nlTo p wd base hs c k).length = wd := by
  induction k with
  | zero => simp [nlTo]
  | succ k ih => rw [nlTo, List.length_set, ih]
/-- The free columns before c. -/
def freeTo (hs : List Nat) (c : Nat) : List Nat := (List.range c).filter (fun c => !hs.contains c)
theorem freeTo_succ (hs : List Nat) (c : Nat) : freeTo hs (c + 1) = if hs.contains c then freeTo hs c else freeTo hs c ++ [c] := by
  rw [freeTo, List.range_succ, List.filter_append]
  cases h : hs.contains c
  · have h' : ¬ c ∈ hs := by simpa using h
    simp [freeTo, h']
  · have h' : c ∈ hs := by simpa using h
    simp [freeTo, h']
/-- The rows of the free columns before c. -/
def nlRows (p : Int) (wd : Nat) (base : List (List Int)) (hs : List Nat) (c : Nat) : List (List Int) := (freeTo hs c).map (nlRow p wd base hs)
theorem nlRows_yes {p : Int} {wd : Nat} {base : List (List Int)} {hs : List Nat} {c : Nat} (h : hs.contains c = true) : nlRows p wd base hs (c + 1) = nlRows p wd base hs c := by
  rw [nlRows, freeTo_succ, if_pos h]; rfl
theorem nlRows_no {p : Int} {wd : Nat} {base : List (List Int)} {hs : List Nat} {c : Nat} (h : hs.contains c = false) : nlRows p wd base hs (c + 1) = nlRows p wd base hs c ++ [nlRow p wd base hs c] := by
  rw [nlRows, freeTo_succ, h, if_neg (by simp), List.map_append]; rfl
/-- The reduced rows of all lists whose products with rows are 0. -/
def solP (p : Int) (wd : Nat) (rows : List (List Int)) : List (List Int) := redP p wd (nlRows p wd (redP p wd rows) (hdsP p wd rows) wd)
theorem nlTo_rng {p : Int} (hp : 7 ≤ p) (wd : Nat) (base : List (List Int)) (hs : List Nat) (c k : Nat) : ∀ x ∈ nlTo p wd base hs c k, 0 ≤ x ∧ x < p := by
  induction k with
  | zero =>
    intro x hx
    rw [nlTo] at hx
    rcases List.mem_or_eq_of_mem_set hx with h | h
    · have := List.eq_of_mem_replicate h; omega
    · omega
  | succ k ih =>
    intro x hx
    rw [nlTo] at hx
    rcases List.mem_or_eq_of_mem_set hx with h | h
    · exact ih x h
    · subst h; exact emod_rng (by omega) _

end Go.Proofs.Ytkhkcgoblibnpaa
