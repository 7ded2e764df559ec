/-
  Plain laws of six general points.
-/
import Derived.Test.YtkhkcgoblibnpaaPc
import Derived.Test.YtkhkcgoblibnpaaPm
namespace Go.Proofs.Ytkhkcgoblibnpaa
set_option linter.unusedVariables false
set_option linter.unusedSimpArgs false

theorem getD_rev (ps : List P3) {i : Nat} (h : i < ps.length) : ps.reverse.getD i default = ps.getD (ps.length - 1 - i) default := by
  rw [List.getD_eq_getElem?_getD, List.getD_eq_getElem?_getD, List.getElem?_reverse h]
theorem getD_take (ps : List P3) {i n : Nat} (h : i < n) : (ps.take n).getD i default = ps.getD i default := by
  rw [List.getD_eq_getElem?_getD, List.getD_eq_getElem?_getD, List.getElem?_take_of_lt h]
theorem general_rev {p : Int} {ps : List P3} (hg : generalB p ps = true) : generalB p ps.reverse = true := by
  obtain ⟨g1, g2, g3⟩ := general_parts hg
  have hp := apart_prime g2 (by omega)
  have ha := apart_apt g2
  rw [generalB, Bool.and_eq_true, Bool.and_eq_true, decide_eq_true_eq, decide_eq_true_eq]
  refine ⟨⟨by simp [g1], apart_of (fun a h => apart_pt g2 a (by simpa using h)) ?_⟩, ?_⟩
  · intro i j k hi hj hk hij hik hjk
    rw [List.length_reverse] at hi hj hk
    rw [getD_rev ps hi, getD_rev ps hj, getD_rev ps hk]
    exact ha _ _ _ (by omega) (by omega) (by omega) (by omega) (by omega) (by omega)
  · rw [List.length_eq_zero_iff]
    refine null_full hp (sq_len _) fun x hx h => full_null hp (sq_len ps) g3 fun r hr => h r ?_
    obtain ⟨a, ha, rfl⟩ := List.mem_map.1 hr
    exact List.mem_map.2 ⟨a, by simpa using ha, rfl⟩
theorem sol_head {p : Int} {wd : Nat} (hp : isPrimeB p = true) (rows : List (List Int)) {i : Nat} (hi : i < (solP p wd rows).length) : ∃ c, c < wd ∧ ((solP p wd rows).getD i []).getD c 0 = 1 := by
  have hw : ∀ r ∈ nlRows p wd (redP p wd rows) (hdsP p wd rows) wd, r.length = wd := fun r hr => by
    obtain ⟨c, _, rfl⟩ := List.mem_map.1 hr
    exact nlTo_len _ _ _ _ _ _
  obtain ⟨left', hI⟩ := RedI.done hp hw
  have hih : i < (hdsP p wd (nlRows p wd (redP p wd rows) (hdsP p wd rows) wd)).length := by rw [hI.hl]; exact hi
  refine ⟨_, hI.hi i hih, ?_⟩
  have := hI.oh i i hi hih
  rw [if_pos rfl] at this
  exact this
theorem conic_six {p : Int} {ps : List P3} (hg : generalB p ps = true) : pcB p (ps.take 5) = true ∧ dotTo (pcP p (ps.take 5)) (sqI (ps.getD 5 default)) 6 % p ≠ 0 ∧ Rg p 6 (pcP p (ps.take 5)) := by
  obtain ⟨g1, g2, g3⟩ := general_parts hg
  have hp := apart_prime g2 (by omega)
  have hb := isPrimeB_bd hp
  have ha := apart_apt g2
  have h5 : (ps.take 5).length = 5 := by rw [List.length_take]; omega
  have a5 : apartB p (ps.take 5) = true := by
    refine apart_of (fun a h => apart_pt g2 a (List.mem_of_mem_take h)) ?_
    intro i j k hi hj hk hij hik hjk
    rw [h5] at hi hj hk
    rw [getD_take ps hi, getD_take ps hj, getD_take ps hk]
    exact ha _ _ _ (by omega) (by omega) (by omega) hij hik hjk
  have hpc : pcB p (ps.take 5) = true := by
    rw [pcB, Bool.and_eq_true, decide_eq_true_eq]; exact ⟨h5, a5⟩
  have hP : pcP p (ps.take 5) = (conP p (ps.take 5)).getD 0 [] := by rw [pcP, hpc]; rfl
  have h1 := con_one h5 a5
  have hs : (conP p (ps.take 5)).getD 0 [] ∈ conP p (ps.take 5) := getD_mem (by omega)
  refine ⟨hpc, fun hz => ?_, by rw [hP]; exact (solP_rows hp _).2 _ hs⟩
  rw [hP] at hz
  obtain ⟨c, hc, e⟩ := sol_head (wd := 6) hp ((ps.take 5).map sqI) (i := 0) (by rw [show solP p 6 ((ps.take 5).map sqI) = conP p (ps.take 5) from rfl, h1]; omega)
  have hall := full_null hp (sq_len ps) g3 (x := (conP p (ps.take 5)).getD 0 []) (fun r hr => by
    obtain ⟨a, ha, rfl⟩ := List.mem_map.1 hr
    unfold Zr
    rw [dot_comm]
    obtain ⟨i, hi, rfl⟩ := List.getElem_of_mem ha
    by_cases h : i < 5
    · exact con_null hp (List.mem_iff_getElem.2 ⟨i, by rw [h5]; exact h, by simp⟩) hs
    · obtain rfl : i = 5 := by omega
      simpa [List.getD_eq_getElem?_getD, List.getElem?_eq_getElem hi] using hz) c hc
  rw [show conP p (ps.take 5) = solP p 6 ((ps.take 5).map sqI) from rfl, e, Int.emod_eq_of_lt (by omega) (by omega)] at hall
  omega

theorem dot_line2 {p x y z l m n u v w t : Int} : (u * ((y * n - z * m) % p * t % p) + v * ((z * l - x * n) % p * t % p) + w * ((x * m - y * l) % p * t % p)) % p = det3 (x, y, z) (l, m, n) (u, v, w) * t % p := by
  have a1 := Int.mul_ediv_add_emod ((y * n - z * m) % p * t) p
  have a2 := Int.mul_ediv_add_emod ((z * l - x * n) % p * t) p
  have a3 := Int.mul_ediv_add_emod ((x * m - y * l) % p * t) p
  have b1 := Int.mul_ediv_add_emod (y * n - z * m) p
  have b2 := Int.mul_ediv_add_emod (z * l - x * n) p
  have b3 := Int.mul_ediv_add_emod (x * m - y * l) p
  have hd : det3 (x, y, z) (l, m, n) (u, v, w) = (y * n - z * m) * u + (z * l - x * n) * v + (x * m - y * l) * w := rfl
  rw [hd]
  generalize (y * n - z * m) % p * t / p = k1 at *
  generalize (z * l - x * n) % p * t / p = k2 at *
  generalize (x * m - y * l) % p * t / p = k3 at *
  generalize (y * n - z * m) % p * t % p = u1 at *
  generalize (z * l - x * n) % p * t % p = u2 at *
  generalize (x * m - y * l) % p * t % p = u3 at *
  generalize (y * n - z * m) % p = v1 at *
  generalize (z * l - x * n) % p = v2 at *
  generalize (x * m - y * l) % p = v3 at *
  generalize (y * n - z * m) / p = j1 at *
  generalize (z * l - x * n) / p = j2 at *
  generalize (x * m - y * l) / p = j3 at *
  generalize y * n - z * m = A at *
  generalize z * l - x * n = B at *
  generalize x * m - y * l = C at *
  have : u * u1 + v * u2 + w * u3 = (A * u + B * v + C * w) * t + p * (-(u * k1 + v * k2 + w * k3) - t * (u * j1 + v * j2 + w * j3)) := by
    have e1 : u1 = v1 * t - p * k1 := by omega
    have e2 : u2 = v2 * t - p * k2 := by omega
    have e3 : u3 = v3 * t - p * k3 := by omega
    have f1 : v1 = A - p * j1 := by omega
    have f2 : v2 = B - p * j2 := by omega
    have f3 : v3 = C - p * j3 := by omega
    rw [e1, e2, e3, f1, f2, f3]
    grind
  rw [emod_of_dvd this]
theorem line_off {p x y z l m n u v w : Int} (h : lineB p x y z l m n = true) (hd : det3 (x, y, z) (l, m, n) (u, v, w) % p ≠ 0) : onB p u v w (lineV p x y z l m n).1 (lineV p x y z l m n).2.1 (lineV p x y z l m n).2.2 = false := by
  obtain ⟨h1, h2, h3⟩ := lineB_parts h
  have hp := (point_parts h1).1
  have hin := crossS_in hp x y z l m n
  have hP := row_point hp rfl hin (cross_ne h1 h2 h3)
  rw [lineV, if_pos h, onB, hP, ptRow_list rfl]
  obtain ⟨t, ht⟩ := rowS_times hp _ hin
  have hm := (rowS_monic hp _ hin (cross_ne h1 h2 h3)).1
  rw [ht, crossS] at hm ⊢
  have := @dot_line2 p x y z l m n u v w t
  simp only [dotTo, List.map_cons, List.map_nil, List.getD_cons_zero, List.getD_cons_succ, Int.zero_add] at hm ⊢
  rw [this]
  have hne : det3 (x, y, z) (l, m, n) (u, v, w) * t % p ≠ 0 := fun e => by
    have ht0 := prime_mul hp hd e
    obtain ⟨q, hq⟩ := Int.dvd_of_emod_eq_zero ht0
    have hz : ∀ a : Int, a * t % p = 0 := fun a => Int.emod_eq_zero_of_dvd ⟨a * q, by rw [hq]; grind⟩
    rw [hz, hz, hz] at hm
    rcases monic3 hm with h | h | h <;> omega
  have : (det3 (x, y, z) (l, m, n) (u, v, w) * t % p == 0) = false := by simpa using hne
  rw [this, Bool.and_false]
theorem line_two {p : Int} {a b c : P3} (ha : ptOk p a = true) (hb : ptOk p b = true) (hd : det3 a b c % p ≠ 0) : lineB p a.1 a.2.1 a.2.2 b.1 b.2.1 b.2.2 = true := by
  obtain ⟨x, y, z⟩ := a
  obtain ⟨l, m, n⟩ := b
  rw [lineB, show specPointB p x y z = true from ha, show specPointB p l m n = true from hb]
  have : ((x == l && y == m) && z == n) = false := by
    cases h : ((x == l && y == m) && z == n)
    · rfl
    · exfalso
      simp only [Bool.and_eq_true, beq_iff_eq] at h
      obtain ⟨⟨rfl, rfl⟩, rfl⟩ := h
      exact hd (by rw [det_aa]; rfl)
  rw [this]; rfl

end Go.Proofs.Ytkhkcgoblibnpaa
