/-
  The laws on all points.
-/
import Derived.Test.YtkhkcgoblibnpaaMk
import Derived.Test.YtkhkcgoblibnpaaEq
import Derived.Test.YtkhkcgoblibnpaaExt
import Derived.Test.YtkhkcgoblibnpaaDr
namespace Go.Proofs.Ytkhkcgoblibnpaa
open Go.RowKit
set_option linter.unusedVariables false
set_option linter.unusedSimpArgs false

theorem below_trans' {w0 w1 w2 : World} (h : Below w0.heap.size w0 w1) (k : Below w1.heap.size w1 w2) : Below w0.heap.size w0 w2 := h.trans (k.mono h.size)

theorem ptsB_length (p : Int) : (ptsB p).length ≤ 1000 := by
  unfold ptsB
  cases hp : isPrimeB p
  · simp
  · have hbd := isPrimeB_bd hp
    rw [if_pos rfl, allPts, allTo_length]
    have : p.toNat * p.toNat ≤ 31 * 31 := Nat.mul_le_mul (by omega) (by omega)
    omega

theorem OP.rp' {w : World} {base : Nat} {A : Option Addr} {n c : Nat} {ps : List P3} (h : OP w base (.slice A n c) ps) (hl : ps.length = n) (hn : n ≤ 4398046511104) : RP w A n ps := by
  obtain ⟨A', c', e, hr⟩ := h.rp (by omega)
  simp at e
  obtain ⟨rfl, _, _⟩ := e
  rw [hl] at hr
  exact hr


/-! ### Of all points -/
theorem allHead_mem {p : Nat} {q : P3} (h : q ∈ allHead p) : q.1 = 0 := by
  simp only [allHead, List.mem_cons, List.mem_map] at h
  rcases h with rfl | ⟨z, _, rfl⟩ <;> rfl
theorem rowPts_mem {y k : Nat} {q : P3} (h : q ∈ rowPts y k) : ∃ z : Nat, z < k ∧ q = (1, (y : Int), (z : Int)) := by
  simp only [rowPts, List.mem_map, List.mem_range] at h
  obtain ⟨z, hz, rfl⟩ := h
  exact ⟨z, hz, rfl⟩
theorem allTo_mem {p k : Nat} {q : P3} (h : q ∈ allTo p k) : q = (0, 0, 1) ∨ (∃ z : Nat, z < p ∧ q = (0, 1, (z : Int))) ∨ ∃ y z : Nat, y < k ∧ z < p ∧ q = (1, (y : Int), (z : Int)) := by
  induction k with
  | zero =>
    rw [allTo_zero] at h
    simp only [allHead, List.mem_cons, List.mem_map, List.mem_range] at h
    rcases h with rfl | ⟨z, hz, rfl⟩
    · exact .inl rfl
    · exact .inr (.inl ⟨z, hz, rfl⟩)
  | succ k ih =>
    rw [allTo_succ, List.mem_append] at h
    rcases h with h | h
    · rcases ih h with h | h | ⟨y, z, hy, hz, h⟩
      · exact .inl h
      · exact .inr (.inl h)
      · exact .inr (.inr ⟨y, z, by omega, hz, h⟩)
    · obtain ⟨z, hz, h⟩ := rowPts_mem h
      exact .inr (.inr ⟨k, z, by omega, hz, h⟩)
theorem map_nodup {f : Nat → P3} (hf : ∀ a b, f a = f b → a = b) (k : Nat) : ((List.range k).map f).Nodup := by
  induction k with
  | zero => exact List.nodup_nil
  | succ k ih =>
    rw [List.range_succ, List.map_append]
    refine List.nodup_append.2 ⟨ih, by simp, ?_⟩
    intro a ha b hb e
    simp only [List.mem_map, List.mem_range] at ha
    obtain ⟨z, hz, rfl⟩ := ha
    simp at hb
    have := hf _ _ (e.trans hb)
    omega
theorem allTo_nodup (p k : Nat) : (allTo p k).Nodup := by
  induction k with
  | zero =>
    rw [allTo_zero, allHead, List.nodup_cons]
    refine ⟨?_, map_nodup (fun a b h => by simp at h; omega) p⟩
    simp
  | succ k ih =>
    rw [allTo_succ]
    refine List.nodup_append.2 ⟨ih, map_nodup (fun a b h => by simp at h; omega) p, ?_⟩
    intro a ha b hb e
    subst e
    obtain ⟨z, _, rfl⟩ := rowPts_mem hb
    rcases allTo_mem ha with h | ⟨z', _, h⟩ | ⟨y, z', hy, _, h⟩
    · simp at h
    · simp at h
    · simp at h; omega

/-- A point modulo p, as the program tests it. -/
def isPtB (p : Int) (q : P3) : Bool := areNumbersB p [q.1, q.2.1, q.2.2] 3 && isMonicB [q.1, q.2.1, q.2.2]

theorem allPts_ok {p : Int} (hp : isPrimeB p = true) : ∀ q ∈ allPts p.toNat, isPtB p q = true := by
  intro q hq
  have hbd := isPrimeB_bd hp
  have hn : ∀ x y z : Int, 0 ≤ x → x < p → 0 ≤ y → y < p → 0 ≤ z → z < p → areNumbersB p [x, y, z] 3 = true := by
    intro x y z h1 h2 h3 h4 h5 h6
    rw [numbers_alike, specNumbersB, hp]
    have e : ∀ u : Int, 0 ≤ u → u < p → inP p u = true := fun u a b => by simp [inP, inB]; omega
    simp [e x h1 h2, e y h3 h4, e z h5 h6]
  rcases allTo_mem hq with rfl | ⟨z, hz, rfl⟩ | ⟨y, z, hy, hz, rfl⟩
  · dsimp only [isPtB]
    rw [hn _ _ _ (by omega) (by omega) (by omega) (by omega) (by omega) (by omega)]
    rfl
  · dsimp only [isPtB]
    rw [hn _ _ _ (by omega) (by omega) (by omega) (by omega) (by omega) (by omega), isMonicB_zero, isMonicB_nz _ _ (by decide)]
    rfl
  · dsimp only [isPtB]
    rw [hn _ _ _ (by omega) (by omega) (by omega) (by omega) (by omega) (by omega), isMonicB_nz _ _ (by decide)]
    rfl

theorem allPts_next (p i : Nat) (h : i + 1 < (allPts p).length) : ((((allPts p).getD (i + 1) default).1 == ((allPts p).getD i default).1 && ((allPts p).getD (i + 1) default).2.1 == ((allPts p).getD i default).2.1) && ((allPts p).getD (i + 1) default).2.2 == ((allPts p).getD i default).2.2) = false := by
  have hnd := allTo_nodup p p
  have e1 : (allPts p).getD (i + 1) default = (allPts p)[i + 1] := by simp [List.getD_eq_getElem?_getD, List.getElem?_eq_getElem h]
  have e2 : (allPts p).getD i default = (allPts p)[i] := by simp [List.getD_eq_getElem?_getD, List.getElem?_eq_getElem (show i < (allPts p).length by omega)]
  rw [e1, e2]
  cases hb : (((allPts p)[i + 1].1 == (allPts p)[i].1 && (allPts p)[i + 1].2.1 == (allPts p)[i].2.1) && (allPts p)[i + 1].2.2 == (allPts p)[i].2.2)
  · rfl
  · exfalso
    simp only [Bool.and_eq_true, beq_iff_eq] at hb
    have e : (allPts p)[i + 1] = (allPts p)[i] := Prod.ext hb.1.1 (Prod.ext hb.1.2 hb.2)
    exact List.pairwise_iff_getElem.1 hnd i (i + 1) (show i < (allPts p).length by omega) h (by omega) e.symm




end Go.Proofs.Ytkhkcgoblibnpaa
