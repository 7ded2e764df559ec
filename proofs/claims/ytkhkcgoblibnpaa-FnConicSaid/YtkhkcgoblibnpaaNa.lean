/-
  Plain laws of rows modulo a prime: null spaces, independent rows.
-/
import Derived.Test.YtkhkcgoblibnpaaNu
import Derived.Test.YtkhkcgoblibnpaaOn
namespace Go.Proofs.Ytkhkcgoblibnpaa
set_option linter.unusedVariables false
set_option linter.unusedSimpArgs false

def sumN (t : Nat → Int) : Nat → Int
  | 0 => 0
  | k + 1 => sumN t k + t k
theorem sumN_congr {t s : Nat → Int} : ∀ n : Nat, (∀ i, i < n → t i = s i) → sumN t n = sumN s n
  | 0, _ => rfl
  | n + 1, h => by rw [sumN, sumN, sumN_congr n (fun i hi => h i (by omega)), h n (by omega)]
theorem sumN_mod {t s : Nat → Int} {p : Int} : ∀ n : Nat, (∀ i, i < n → t i % p = s i % p) → sumN t n % p = sumN s n % p
  | 0, _ => rfl
  | n + 1, h => by rw [sumN, sumN, Int.add_emod, sumN_mod n (fun i hi => h i (by omega)), h n (by omega), ← Int.add_emod]
theorem sumN_zero {t : Nat → Int} : ∀ n : Nat, (∀ i, i < n → t i = 0) → sumN t n = 0
  | 0, _ => rfl
  | n + 1, h => by rw [sumN, sumN_zero n (fun i hi => h i (by omega)), h n (by omega)]; rfl
theorem sumN_add (t s : Nat → Int) : ∀ n : Nat, sumN (fun i => t i + s i) n = sumN t n + sumN s n
  | 0 => rfl
  | n + 1 => by rw [sumN, sumN_add t s n, sumN, sumN]; omega
theorem sumN_mul (a : Int) (t : Nat → Int) : ∀ n : Nat, sumN (fun i => a * t i) n = a * sumN t n
  | 0 => by rw [sumN, sumN]; simp
  | n + 1 => by rw [sumN, sumN_mul a t n, sumN, Int.mul_add]
theorem sumN_split (t : Nat → Int) (a : Nat) : ∀ n : Nat, a < n → sumN t n = t a + sumN (fun i => if i = a then 0 else t i) n
  | 0, h => by omega
  | n + 1, h => by
    rw [sumN, sumN]
    by_cases ha : a = n
    · subst ha
      rw [if_pos rfl, sumN_congr (t := fun i => if i = a then 0 else t i) (s := t) a (fun i hi => if_neg (by omega))]
      omega
    · rw [if_neg (by omega), sumN_split t a n (by omega)]; omega
theorem dot_sum (r x : List Int) : ∀ n : Nat, dotTo r x n = sumN (fun i => r.getD i 0 * x.getD i 0) n
  | 0 => rfl
  | n + 1 => by rw [dotTo, sumN, dot_sum r x n]

/-- The product of a row with x is 0 modulo p. -/
def Zr (p : Int) (wd : Nat) (r x : List Int) : Prop := dotTo r x wd % p = 0
theorem dot_elim (p : Int) {wd c : Nat} {h r : List Int} (x : List Int) (hh : h.length = wd) (hr : r.length = wd) : dotTo (elimL p c h r) x wd % p = (dotTo r x wd - r.getD c 0 * dotTo h x wd) % p := by
  rw [dot_sum, dot_sum, dot_sum, ← sumN_mul, show sumN (fun i => r.getD i 0 * x.getD i 0) wd - sumN (fun i => r.getD c 0 * (h.getD i 0 * x.getD i 0)) wd = sumN (fun i => r.getD i 0 * x.getD i 0 + (-1) * (r.getD c 0 * (h.getD i 0 * x.getD i 0))) wd by rw [sumN_add, sumN_mul (-1)]; omega]
  refine sumN_mod wd fun i hi => ?_
  rw [elimL_get _ _ _ _ (by omega) (by omega), Int.mul_emod, Int.emod_emod_of_dvd _ (Int.dvd_refl p), ← Int.mul_emod]
  congr 1
  grind
theorem dot_scale (p b : Int) {wd : Nat} {r : List Int} (x : List Int) (hr : r.length = wd) : dotTo (scaleL p b r) x wd % p = (b * dotTo r x wd) % p := by
  rw [dot_sum, dot_sum, ← sumN_mul]
  refine sumN_mod wd fun i hi => ?_
  rw [scaleL_get _ _ _ (by omega), Int.mul_emod, Int.emod_emod_of_dvd _ (Int.dvd_refl p), ← Int.mul_emod]
  congr 1
  grind
theorem dot_modl (p : Int) {wd : Nat} {r : List Int} (x : List Int) (hr : r.length = wd) : dotTo (modL p r) x wd % p = dotTo r x wd % p := by
  rw [dot_sum, dot_sum]
  refine sumN_mod wd fun i hi => ?_
  rw [modL_get _ _ (by omega), Int.mul_emod, Int.emod_emod_of_dvd _ (Int.dvd_refl p), ← Int.mul_emod]
theorem dot_congr (p : Int) {wd : Nat} {r x y : List Int} (h : ∀ i, i < wd → x.getD i 0 % p = y.getD i 0 % p) : dotTo r x wd % p = dotTo r y wd % p := by
  rw [dot_sum, dot_sum]
  refine sumN_mod wd fun i hi => ?_
  rw [Int.mul_emod, h i hi, ← Int.mul_emod]
theorem dot_comm (r x : List Int) (n : Nat) : dotTo r x n = dotTo x r n := by
  rw [dot_sum, dot_sum]
  exact sumN_congr n fun i _ => Int.mul_comm _ _
theorem dot_zero {r x : List Int} {wd : Nat} (h : ∀ j, j < wd → r.getD j 0 = 0) : dotTo r x wd = 0 := by
  rw [dot_sum]
  exact sumN_zero wd fun i hi => by rw [h i hi, Int.zero_mul]

/-- What a step of the reduction does to the null space. -/
structure Stp (p : Int) (wd c : Nat) (row head : List Int) : Prop where
  hl : head.length = wd
  rl : row.length = wd
  to_ : ∀ x, dotTo head x wd % p = (turned p (row.getD c 0) * dotTo row x wd) % p
  fro : ∀ x, dotTo row x wd % p = (row.getD c 0 * dotTo head x wd) % p
theorem RedI.stp {p : Int} {wd c k : Nat} {left out : List (List Int)} {hs : List Nat} {row head : List Int} (hp : isPrimeB p = true) (hc : c < wd) (h : RedI p wd c left out hs) (hi : idxL (colP c) left 0 = k) (hk : k < left.length)
    (hr : left.getD k [] = row) (hh : scaleL p (invM p (row.getD c 0)) row = head) : Stp p wd c row head := by
  obtain ⟨_, _, h0, h1, _, _, hhg, hrg⟩ := h.step hp hc hi hk hr hh
  have ht := turned_spec hp h0 h1
  rw [inv_turned hp h0 h1] at hh
  have e : ∀ x, dotTo head x wd % p = (turned p (row.getD c 0) * dotTo row x wd) % p := fun x => by rw [← hh]; exact dot_scale p _ x hrg.1
  refine ⟨hhg.1, hrg.1, e, fun x => ?_⟩
  rw [Int.mul_emod, e x, ← Int.mul_emod, ← Int.mul_assoc, Int.mul_emod, ht.1]
  simp
theorem Stp.zr {p : Int} {wd c : Nat} {row head : List Int} (h : Stp p wd c row head) (x : List Int) : Zr p wd row x ↔ Zr p wd head x := by
  unfold Zr
  constructor
  · intro h1; rw [h.to_, Int.mul_emod, h1]; simp
  · intro h1; rw [h.fro, Int.mul_emod, h1]; simp
theorem zr_elim {p : Int} {wd c : Nat} {h r x : List Int} (hh : h.length = wd) (hr : r.length = wd) (hz : Zr p wd h x) : Zr p wd r x ↔ Zr p wd (elimL p c h r) x := by
  unfold Zr at *
  rw [dot_elim p x hh hr]
  have : (dotTo r x wd - r.getD c 0 * dotTo h x wd) % p = dotTo r x wd % p := by
    rw [Int.sub_emod, Int.mul_emod, hz]; simp
  rw [this]
theorem mem_erase_or {α : Type} {l : List α} {k : Nat} (hk : k < l.length) {x : α} (h : x ∈ l) : x = l[k] ∨ x ∈ l.eraseIdx k := by
  have := (erase_perm l k hk).mem_iff.2 h
  rcases List.mem_cons.1 this with h | h
  · exact .inl h
  · exact .inr h
theorem null_all {p : Int} {wd : Nat} (hp : isPrimeB p = true) (x : List Int) : ∀ (n c : Nat) (left out : List (List Int)) (hs : List Nat), c + n = wd → RedI p wd c left out hs →
    (((∀ r ∈ left, Zr p wd r x) ∧ (∀ r ∈ out, Zr p wd r x)) ↔ ∀ r ∈ (redH p n c left out hs).1, Zr p wd r x)
  | 0, c, left, out, hs, hc, h => by
    obtain rfl : c = wd := by omega
    show _ ↔ ∀ r ∈ out, _
    refine ⟨fun h1 => h1.2, fun h1 => ⟨fun r hr => ?_, h1⟩⟩
    unfold Zr
    rw [dot_zero (h.lz r hr)]; rfl
  | n + 1, c, left, out, hs, hc, h => by
    rcases idxL_range (colP c) left 0 with hi | ⟨k, hk, hi, _⟩
    · rw [redH_none hi]; exact null_all hp x n (c + 1) _ _ _ (by omega) (h.skip hi)
    · rw [Nat.zero_add] at hi
      rw [redH_some hi rfl rfl, ← null_all hp x n (c + 1) _ _ _ (by omega) (h.step hp (by omega) hi hk rfl rfl).1]
      have hst := h.stp hp (by omega) hi hk rfl rfl
      generalize hrow : left.getD k [] = row at *
      generalize scaleL p (invM p (row.getD c 0)) row = head at *
      have hrow' : left[k] = row := by rw [← hrow]; simp [List.getD_eq_getElem?_getD, List.getElem?_eq_getElem hk]
      have hll : ∀ r ∈ left, r.length = wd := fun r hr => (h.lg r hr).1
      have hol : ∀ r ∈ out, r.length = wd := fun r hr => (h.og r hr).1
      constructor
      · rintro ⟨h1, h2⟩
        have hz : Zr p wd head x := (hst.zr x).1 (h1 row (by rw [← hrow']; exact List.getElem_mem _))
        refine ⟨fun r hr => ?_, fun r hr => ?_⟩
        · obtain ⟨q, hq, rfl⟩ := List.mem_map.1 hr
          have hq' := List.mem_of_mem_eraseIdx hq
          exact (zr_elim hst.hl (hll q hq') hz).1 (h1 q hq')
        · rcases List.mem_append.1 hr with hr | hr
          · obtain ⟨q, hq, rfl⟩ := List.mem_map.1 hr
            exact (zr_elim hst.hl (hol q hq) hz).1 (h2 q hq)
          · obtain rfl : r = head := by simpa using hr
            exact hz
      · rintro ⟨h1, h2⟩
        have hz : Zr p wd head x := h2 head (by simp)
        refine ⟨fun r hr => ?_, fun r hr => ?_⟩
        · rcases mem_erase_or hk hr with rfl | hr'
          · rw [hrow']; exact (hst.zr x).2 hz
          · exact (zr_elim hst.hl (hll r hr) hz).2 (h1 _ (List.mem_map.2 ⟨r, hr', rfl⟩))
        · exact (zr_elim hst.hl (hol r hr) hz).2 (h2 _ (List.mem_append_left _ (List.mem_map.2 ⟨r, hr, rfl⟩)))
/-- Reduced rows have the same null space. -/
theorem null_red {p : Int} {wd : Nat} (hp : isPrimeB p = true) {rows : List (List Int)} (hw : ∀ r ∈ rows, r.length = wd) (x : List Int) : (∀ r ∈ rows, Zr p wd r x) ↔ ∀ r ∈ redP p wd rows, Zr p wd r x := by
  rw [redP_fst, ← null_all hp x wd 0 _ _ _ (by omega) (RedI.start hp hw)]
  constructor
  · intro h
    refine ⟨fun r hr => ?_, fun r hr => by cases hr⟩
    obtain ⟨q, hq, rfl⟩ := List.mem_map.1 hr
    unfold Zr
    rw [dot_modl p x (hw q hq)]
    exact h q hq
  · rintro ⟨h, _⟩ r hr
    have := h (modL p r) (List.mem_map.2 ⟨r, hr, rfl⟩)
    unfold Zr at *
    rwa [dot_modl p x (hw r hr)] at this

/-- Rows that take any values together. -/
def Sj (p : Int) (wd : Nat) (rows : List (List Int)) : Prop := ∀ f : Nat → Int, ∃ y : List Int, ∀ i, i < rows.length → (dotTo (rows.getD i []) y wd - f i) % p = 0
theorem perm_val {rows rows' : List (List Int)} (h : rows.Perm rows') : ∀ f' : Nat → Int, ∃ f : Nat → Int, ∀ P : List Int → Int → Prop, (∀ i, i < rows.length → P (rows.getD i []) (f i)) → ∀ i, i < rows'.length → P (rows'.getD i []) (f' i) := by
  induction h with
  | nil => intro f'; exact ⟨f', fun P _ i hi => by simp at hi⟩
  | cons x _ ih =>
    intro f'
    obtain ⟨f, hf⟩ := ih (fun i => f' (i + 1))
    refine ⟨fun i => match i with | 0 => f' 0 | i + 1 => f i, fun P hP i hi => ?_⟩
    cases i with
    | zero => exact hP 0 (by simp)
    | succ i => exact hf P (fun j hj => hP (j + 1) (by simpa using hj)) i (by simpa using hi)
  | swap x y l =>
    intro f'
    refine ⟨fun i => match i with | 0 => f' 1 | 1 => f' 0 | i + 2 => f' (i + 2), fun P hP i hi => ?_⟩
    match i, hi with
    | 0, _ => exact hP 1 (by simp)
    | 1, _ => exact hP 0 (by simp)
    | i + 2, hi => exact hP (i + 2) (by simpa using hi)
  | trans _ _ ih1 ih2 =>
    intro f'
    obtain ⟨f2, h2⟩ := ih2 f'
    obtain ⟨f1, h1⟩ := ih1 f2
    exact ⟨f1, fun P hP => h2 P (h1 P hP)⟩
theorem Sj.perm {p : Int} {wd : Nat} {rows rows' : List (List Int)} (h : Sj p wd rows) (hp : rows.Perm rows') : Sj p wd rows' := fun f' => by
  obtain ⟨f, hf⟩ := perm_val hp f'
  obtain ⟨y, hy⟩ := h f
  exact ⟨y, hf (fun r v => (dotTo r y wd - v) % p = 0) hy⟩
theorem Sj.step {p : Int} {wd c : Nat} {row head : List Int} {L : List (List Int)} (h : Sj p wd (row :: L)) (hs : Stp p wd c row head) (hu : (turned p (row.getD c 0) * row.getD c 0) % p = 1) (hL : ∀ r ∈ L, r.length = wd) : Sj p wd (head :: L.map (elimL p c head)) := fun f => by
  obtain ⟨y, hy⟩ := h (fun i => match i with | 0 => row.getD c 0 * f 0 | i + 1 => f (i + 1) + (L.getD i []).getD c 0 * f 0)
  have h0 : (dotTo row y wd - row.getD c 0 * f 0) % p = 0 := hy 0 (by simp)
  have hhd : (dotTo head y wd - f 0) % p = 0 := by
    have e1 := hs.to_ y
    obtain ⟨a, ha⟩ := Int.dvd_of_emod_eq_zero h0
    obtain ⟨b, hb⟩ := Int.dvd_of_emod_eq_zero (Int.emod_eq_emod_iff_emod_sub_eq_zero.1 e1)
    obtain ⟨d, hd⟩ := Int.dvd_of_emod_eq_zero (show (turned p (row.getD c 0) * row.getD c 0 - 1) % p = 0 by
      rw [Int.sub_emod, hu]; simp)
    refine Int.emod_eq_zero_of_dvd ⟨b + turned p (row.getD c 0) * a + d * f 0, ?_⟩
    grind
  refine ⟨y, fun i hi => ?_⟩
  cases i with
  | zero => exact hhd
  | succ i =>
    have hil : i < L.length := by simpa using hi
    have h1 : (dotTo (L.getD i []) y wd - (f (i + 1) + (L.getD i []).getD c 0 * f 0)) % p = 0 := hy (i + 1) (by simpa using hil)
    rw [List.getD_cons_succ, getD_map' (d := []) _ hil]
    have e2 := dot_elim p (c := c) y hs.hl (hL _ (getD_mem (d := []) hil))
    obtain ⟨a, ha⟩ := Int.dvd_of_emod_eq_zero h1
    obtain ⟨b, hb⟩ := Int.dvd_of_emod_eq_zero hhd
    obtain ⟨d, hd⟩ := Int.dvd_of_emod_eq_zero (Int.emod_eq_emod_iff_emod_sub_eq_zero.1 e2)
    refine Int.emod_eq_zero_of_dvd ⟨d + a - (L.getD i []).getD c 0 * b, ?_⟩
    grind
theorem sj_all {p : Int} {wd : Nat} (hp : isPrimeB p = true) : ∀ (n c : Nat) (left out : List (List Int)) (hs : List Nat), c + n = wd → RedI p wd c left out hs → Sj p wd (left ++ out) → (redH p n c left out hs).1.length = left.length + out.length
  | 0, c, left, out, hs, hc, h, hS => by
    obtain rfl : c = wd := by omega
    show out.length = _
    cases left with
    | nil => simp
    | cons r l =>
      exfalso
      obtain ⟨y, hy⟩ := hS (fun _ => 1)
      have h1 : (dotTo r y c - 1) % p = 0 := hy 0 (by simp)
      rw [dot_zero (h.lz r (by simp))] at h1
      have hb := isPrimeB_bd hp
      rcases isPrimeB_cases hp with rfl | rfl | rfl | rfl | rfl | rfl | rfl | rfl <;> simp at h1
  | n + 1, c, left, out, hs, hc, h, hS => by
    rcases idxL_range (colP c) left 0 with hi | ⟨k, hk, hi, _⟩
    · rw [redH_none hi]; exact sj_all hp n (c + 1) _ _ _ (by omega) (h.skip hi) hS
    · rw [Nat.zero_add] at hi
      have hst := h.stp hp (by omega) hi hk rfl rfl
      have hstep := h.step hp (by omega) hi hk rfl rfl
      rw [redH_some hi rfl rfl]
      have hlen : ((left.eraseIdx k).map (elimL p c (scaleL p (invM p ((left.getD k []).getD c 0)) (left.getD k [])))).length + (out.map (elimL p c (scaleL p (invM p ((left.getD k []).getD c 0)) (left.getD k []))) ++ [scaleL p (invM p ((left.getD k []).getD c 0)) (left.getD k [])]).length = left.length + out.length := by
        simp [List.length_eraseIdx, hk]; omega
      rw [← hlen]
      refine sj_all hp n (c + 1) _ _ _ (by omega) hstep.1 ?_
      obtain ⟨_, _, g0, g1, _⟩ := hstep
      have hrow' : left[k] = left.getD k [] := by simp [List.getD_eq_getElem?_getD, List.getElem?_eq_getElem hk]
      have p1 : (left ++ out).Perm (left.getD k [] :: (left.eraseIdx k ++ out)) := by
        rw [← hrow']
        exact ((erase_perm left k hk).symm.append_right out)
      have s1 := (hS.perm p1).step hst (by rw [Int.mul_comm]; exact (turned_spec hp g0 g1).1) (fun r hr => by
        rcases List.mem_append.1 hr with hr | hr
        · exact (h.lg r (List.mem_of_mem_eraseIdx hr)).1
        · exact (h.og r hr).1)
      refine s1.perm ?_
      rw [List.map_append, ← List.append_assoc]
      exact (List.perm_append_singleton _ _).symm
/-- Rows that take any values together are all kept. -/
theorem sj_len {p : Int} {wd : Nat} (hp : isPrimeB p = true) {rows : List (List Int)} (hw : ∀ r ∈ rows, r.length = wd) (h : Sj p wd rows) : (redP p wd rows).length = rows.length := by
  have hS : Sj p wd (rows.map (modL p) ++ []) := fun f => by
    obtain ⟨y, hy⟩ := h f
    refine ⟨y, fun i hi => ?_⟩
    rw [List.append_nil] at hi ⊢
    rw [List.length_map] at hi
    rw [getD_map' (d := []) _ hi, Int.sub_emod, dot_modl p y (hw _ (getD_mem hi)), ← Int.sub_emod]
    exact hy i hi
  rw [redP_fst, sj_all hp wd 0 _ _ _ (by omega) (RedI.start hp hw) hS]
  simp
theorem redP_le {p : Int} {wd : Nat} (hp : isPrimeB p = true) {rows : List (List Int)} (hw : ∀ r ∈ rows, r.length = wd) : (redP p wd rows).length ≤ wd ∧ (hdsP p wd rows).length = (redP p wd rows).length := by
  obtain ⟨left', hI⟩ := RedI.done hp hw
  refine ⟨?_, hI.hl⟩
  have key : ∀ i, i < (hdsP p wd rows).length → i ≤ (hdsP p wd rows).getD i 0 := fun i => by
    induction i with
    | zero => intro _; omega
    | succ i ih =>
      intro hi
      have := ih (by omega)
      have := hI.hm i (i + 1) (by omega) hi
      omega
  rw [← hI.hl]
  by_cases h0 : (hdsP p wd rows).length = 0
  · omega
  · have := key ((hdsP p wd rows).length - 1) (by omega)
    have := hI.hi ((hdsP p wd rows).length - 1) (by omega)
    omega

/-- A unit and its inverse. -/
theorem unit_inv {p a : Int} (hp : isPrimeB p = true) (h : a % p ≠ 0) : ∃ u, (a * u - 1) % p = 0 := by
  have hb := isPrimeB_bd hp
  have h0 := Int.emod_nonneg a (show p ≠ 0 by omega)
  have h1 := Int.emod_lt_of_pos a (show 0 < p by omega)
  have ht := (turned_spec hp (show 0 < a % p by omega) h1).1
  generalize turned p (a % p) = t at ht
  refine ⟨t, ?_⟩
  have h2 : a * t % p = 1 := by
    rw [Int.mul_emod] at ht ⊢
    rwa [Int.emod_emod_of_dvd _ (Int.dvd_refl p)] at ht
  rw [Int.sub_emod, h2]
  simp
def addV (y : List Int) (t : Int) (z : List Int) : List Int := List.zipWith (fun a b => a + t * b) y z
theorem addV_len {y z : List Int} {t : Int} {wd : Nat} (hy : y.length = wd) (hz : z.length = wd) : (addV y t z).length = wd := by rw [addV, List.length_zipWith]; omega
theorem addV_get {y z : List Int} {t : Int} {wd i : Nat} (hy : y.length = wd) (hz : z.length = wd) (hi : i < wd) : (addV y t z).getD i 0 = y.getD i 0 + t * z.getD i 0 := by
  simp [addV, List.getD_eq_getElem?_getD, List.getElem?_zipWith, List.getElem?_eq_getElem (show i < y.length by omega), List.getElem?_eq_getElem (show i < z.length by omega)]
theorem dot_addV {r y z : List Int} {t : Int} {wd : Nat} (hy : y.length = wd) (hz : z.length = wd) : dotTo r (addV y t z) wd = dotTo r y wd + t * dotTo r z wd := by
  rw [dot_sum, dot_sum, dot_sum, ← sumN_mul, ← sumN_add]
  exact sumN_congr wd fun i hi => by rw [addV_get hy hz hi]; grind
/-- Rows with lists at which one of them alone is not 0. -/
theorem sj_dual {p : Int} {wd : Nat} (hp : isPrimeB p = true) {rows : List (List Int)} (Y : Nat → List Int) (hY : ∀ i, i < rows.length → (Y i).length = wd)
    (h0 : ∀ i j, i < rows.length → j < rows.length → i ≠ j → dotTo (rows.getD i []) (Y j) wd % p = 0) (h1 : ∀ i, i < rows.length → dotTo (rows.getD i []) (Y i) wd % p ≠ 0) : Sj p wd rows := fun f => by
  have key : ∀ k, k ≤ rows.length → ∃ y : List Int, y.length = wd ∧ ∀ i, i < rows.length → (dotTo (rows.getD i []) y wd - if i < k then f i else 0) % p = 0 := fun k => by
    induction k with
    | zero =>
      intro _
      refine ⟨List.replicate wd 0, by simp, fun i hi => ?_⟩
      rw [dot_comm, dot_zero (fun j hj => by simp [List.getD_eq_getElem?_getD, List.getElem?_replicate, hj])]
      simp
    | succ k ih =>
      intro hk
      obtain ⟨y, hyl, hy⟩ := ih (by omega)
      obtain ⟨u, hu⟩ := unit_inv hp (h1 k (by omega))
      refine ⟨addV y (f k * u) (Y k), addV_len hyl (hY k (by omega)), fun i hi => ?_⟩
      rw [dot_addV hyl (hY k (by omega))]
      obtain ⟨a, ha⟩ := Int.dvd_of_emod_eq_zero (hy i hi)
      obtain ⟨b, hb⟩ := Int.dvd_of_emod_eq_zero hu
      by_cases hik : i = k
      · subst hik
        rw [if_neg (by omega)] at ha
        rw [if_pos (by omega)]
        refine Int.emod_eq_zero_of_dvd ⟨a + f i * b, ?_⟩
        grind
      · obtain ⟨d, hd⟩ := Int.dvd_of_emod_eq_zero (h0 i k hi (by omega) hik)
        have e : (if i < k + 1 then f i else 0) = if i < k then f i else 0 := by
          by_cases h : i < k
          · rw [if_pos h, if_pos (by omega)]
          · rw [if_neg h, if_neg (by omega)]
        rw [e]
        refine Int.emod_eq_zero_of_dvd ⟨a + f k * u * d, ?_⟩
        grind
  obtain ⟨y, _, hy⟩ := key rows.length (Nat.le_refl _)
  refine ⟨y, fun i hi => ?_⟩
  have := hy i hi
  rwa [if_pos hi] at this

end Go.Proofs.Ytkhkcgoblibnpaa
