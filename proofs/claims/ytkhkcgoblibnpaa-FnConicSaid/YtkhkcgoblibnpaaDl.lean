/-
  Contracts: slices.Delete and slices.IndexFunc on a list of rows of the call's own; the inverse of a number.
-/
import Derived.Test.YtkhkcgoblibnpaaRw
import Derived.Deep.RegionLaw
import Derived.Laws.IdiomCopy
import Derived.Lib.SliceRun
import Derived.Deep.DeepCutAuto
import Derived.Test.YtkhkcgoblibnpaaDr
namespace Go.Proofs.Ytkhkcgoblibnpaa
open Go.RowKit
set_option linter.unusedVariables false
set_option linter.unusedSimpArgs false

def putL {α : Type} (xs : List α) : Nat → List α → List α
  | _, [] => xs
  | o, v :: r => putL (xs.set o v) (o + 1) r
theorem putL_length {α : Type} (vs : List α) : ∀ (xs : List α) (o : Nat), (putL xs o vs).length = xs.length := by
  induction vs with
  | nil => intro xs o; rfl
  | cons v r ih => intro xs o; rw [putL, ih, List.length_set]
theorem putL_get {α : Type} (vs : List α) : ∀ (xs : List α) (o i : Nat), o + vs.length ≤ xs.length → (putL xs o vs)[i]? = if o ≤ i ∧ i < o + vs.length then vs[i - o]? else xs[i]? := by
  induction vs with
  | nil => intro xs o i _; rw [putL, if_neg (by simp only [List.length_nil]; omega)]
  | cons v r ih =>
    intro xs o i h
    simp only [List.length_cons] at h
    rw [putL, ih _ _ _ (by rw [List.length_set]; omega)]
    by_cases h1 : o + 1 ≤ i ∧ i < o + 1 + r.length
    · rw [if_pos h1, if_pos (by simp only [List.length_cons]; omega), show i - o = (i - (o + 1)) + 1 by omega, List.getElem?_cons_succ]
    · rw [if_neg h1]
      by_cases h2 : i = o
      · subst h2
        rw [if_pos (by simp), List.getElem?_set_self (by omega), Nat.sub_self]; rfl
      · rw [List.getElem?_set_ne (by omega), if_neg (by simp; omega)]
theorem erase_put {α : Type} (xs : List α) (z : α) (k : Nat) (hk : k < xs.length) : (putL (putL xs k (xs.drop (k + 1))) (xs.length - 1) [z]).take (xs.length - 1) = xs.eraseIdx k := by
  apply List.ext_getElem?
  intro i
  rw [List.getElem?_take, List.getElem?_eraseIdx]
  by_cases hi : i < xs.length - 1
  · rw [if_pos hi, putL_get _ _ _ _ (by rw [putL_length]; simp; omega), if_neg (by simp; omega), putL_get _ _ _ _ (by simp; omega)]
    by_cases h1 : i < k
    · rw [if_neg (by omega), if_pos h1]
    · rw [if_pos (by simp; omega), if_neg h1, List.getElem?_drop]
      congr 1
      omega
  · rw [if_neg hi, if_neg (by omega), List.getElem?_eq_none (by omega)]
theorem owns_setCells {base e g cap n : Nat} (vs : List Value) : ∀ (w : World) (xs : List Value) (o : Nat), w.ownsRow base e 1 (.slice (some ⟨g, 0, none⟩) n cap) n xs →
    (w.setCells g o vs).ownsRow base e 1 (.slice (some ⟨g, 0, none⟩) n cap) n (putL xs o vs) ∧ w.grownBy (w.setCells g o vs) (some g) := by
  induction vs with
  | nil => intro w xs o h; exact ⟨h, ⟨rfl, rfl, rfl, Nat.le_refl _, fun _ _ _ => rfl⟩⟩
  | cons v r ih =>
    intro w xs o h
    obtain ⟨h1, h2⟩ := World.ownsRow.stored h o v
    obtain ⟨h3, h4⟩ := ih _ _ (o + 1) h1
    exact ⟨h3, ⟨h4.os.trans h2.os, h4.tape.trans h2.tape, h4.output.trans h2.output, Nat.le_trans h2.size h4.size, fun i hi hr => (h4.block i (Nat.lt_of_lt_of_le hi h2.size) hr).trans (h2.block i hi hr)⟩⟩
theorem owns_shrink {base e g cap n m : Nat} {w : World} {xs : List Value} (h : w.ownsRow base e 1 (.slice (some ⟨g, 0, none⟩) n cap) n xs) (hm : m ≤ n) : w.ownsRow base e 1 (.slice (some ⟨g, 0, none⟩) m cap) m (xs.take m) := by
  have hl := h.1
  refine ⟨by simp; omega, ?_⟩
  rcases h.2 with ⟨h', _⟩ | ⟨g', cap', cur, h', hb, hg, hnc, hcm, hcs, ht⟩
  · simp at h'
  · simp only [Value.slice.injEq, Option.some.injEq, Addr.mk.injEq, and_true, true_and] at h'
    obtain ⟨rfl, rfl⟩ := h'
    refine .inr ⟨g, cap, cur, rfl, hb, hg, by omega, hcm, hcs, ?_⟩
    rw [← ht, List.take_take]
    congr 1
    omega

set_option maxHeartbeats 4000000 in
set_option maxRecDepth 1000000 in
theorem DeleteR_ok' (base g cap k j n m : Nat) (rs : List Rw) (w : World) (h : RwO w base (.slice (some ⟨g, 0, none⟩) n cap) rs) (hn : n = rs.length) (hk : k < n) (hj : j = k + 1) (hnm : n = m + 1) :
    Calls Try.prog 100 #[.slice (some ⟨g, 0, none⟩) n cap, .int .i64 k, .int .i64 j] w fun e w' => e = .returned (.slice (some ⟨g, 0, none⟩) m cap) ∧ RwO w' base (.slice (some ⟨g, 0, none⟩) m cap) (rs.eraseIdx k) ∧ w.grownBy w' (some g) := by
  obtain ⟨i0, hi, hz0, hz1, hz2⟩ := info_parts infoRow
  obtain ⟨g', cap', hv, _, hlt, hc, hm, hf, hcell⟩ := h.shape (by omega)
  simp only [Value.slice.injEq, Option.some.injEq, Addr.mk.injEq, and_true] at hv
  obtain ⟨rfl, hzz, rfl⟩ := hv
  clear hzz
  unfold maxLen at hm
  obtain ⟨news, hnews⟩ : ∃ news, news = (rs.drop j).map rwV := ⟨_, rfl⟩
  have hlen : news.length = n - j := by rw [hnews]; simp; omega
  have hget : ∀ t u, news[t]? = some u → w.cell? ⟨g, j + t, none⟩ = some u := by
    intro t u hu
    have ht : t < n - j := by have := (List.getElem?_eq_some_iff.1 hu).1; omega
    rw [hnews, List.getElem?_map, List.getElem?_drop, List.getElem?_eq_getElem (by omega)] at hu
    rw [hcell (j + t) (by omega)]
    exact hu
  obtain ⟨A, hA, hsrc⟩ : ∃ A : Addr, (if cap = j then some (⟨g, 0, none⟩ : Addr) else some ⟨g, j, none⟩) = some A ∧ Hid (∀ t u, news[t]? = some u → w.drew.cell? (A.add t) = some u) := by
    by_cases hck : cap = j
    · refine ⟨⟨g, 0, none⟩, by simp [hck], fun t u hu => ?_⟩
      have h0 : news.length = 0 := by omega
      rw [List.length_eq_zero_iff.1 h0] at hu
      simp at hu
    · refine ⟨⟨g, j, none⟩, by simp [hck], fun t u hu => ?_⟩
      rw [Addr.add_lit]
      exact hget t u hu
  have s1 : Hid (news.length = (n - j) * 1) := by rw [Nat.mul_one]; exact hlen
  have s2 : Hid (∀ u ∈ news, u.oneCell' = true) := by
    intro u hu
    rw [hnews] at hu
    obtain ⟨x, _, rfl⟩ := List.mem_map.1 hu
    rfl
  have s3 : Hid (∀ t, t < news.length → (w.drew.cell? ⟨g, 0 + k * 1 + t, none⟩).isSome = true ∧ w.drew.frozen? ⟨g, 0 + k * 1 + t, none⟩ = false) := by
    intro t ht
    rw [Nat.mul_one, Nat.zero_add]
    exact ⟨by show (w.cell? _).isSome = true; rw [hcell (k + t) (by omega)]; rfl, hf _⟩
  obtain ⟨W1, hW1⟩ : ∃ W1, W1 = w.drew.setCells g (0 + k * 1) news := ⟨_, rfl⟩
  obtain ⟨hO1, hG1⟩ := owns_setCells news w.drew (rs.map rwV) (0 + k * 1) (show w.drew.ownsRow base 32 1 (.slice (some ⟨g, 0, none⟩) n cap) n (rs.map rwV) from by unfold RwO at h; rw [← hn] at h; exact h)
  rw [← hW1] at hO1 hG1
  have hcl : ∀ ty, (Builtin.clear_ #[26] ty #[.slice (some ⟨g, m, none⟩) (n - m) (cap - m)]).run Try.prog W1 = .ok (.tuple #[]) (W1.setCells g m (List.replicate (n - m) (.slice none 0 0))) :=
    fun ty => Lib.run_clear_slice W1 _ _ ty _ Try.underlying26 Try.zeroValue32 rfl rfl g m _ _ (by omega) (fun t ht => by
      have h1 := World.ownsRow.cellAt hO1 (m + t) (by omega)
      rw [h1, List.getElem?_eq_getElem (by rw [putL_length]; simp; omega)]
      rfl) (fun t ht => World.ownsRow.frozenAt hO1 _)
  have HQ := hid (show ∀ (W : World), W = W1.setCells g m (List.replicate (n - m) (.slice none 0 0)) → RwO W base (.slice (some ⟨g, 0, none⟩) m cap) (rs.eraseIdx k) ∧ w.grownBy W (some g) from fun W hW => by
    rw [show n - m = 1 by omega] at hW
    obtain ⟨q1, q2⟩ := owns_setCells [.slice none 0 0] W1 _ m hO1
    have q3 := owns_shrink q1 (show m ≤ n by omega)
    rw [Nat.zero_add, Nat.mul_one, hnews, hj] at q3
    have q4 := erase_put (rs.map rwV) (.slice none 0 0) k (by simp; omega)
    rw [List.length_map, ← List.map_drop, show rs.length - 1 = m by omega] at q4
    rw [q4] at q3
    subst hW
    exact (show RwO (W1.setCells g m [.slice none 0 0]) base (.slice (some ⟨g, 0, none⟩) m cap) (rs.eraseIdx k) ∧ w.grownBy (W1.setCells g m [.slice none 0 0]) (some g) from ⟨by
      unfold RwO
      have e : (rs.eraseIdx k).length = m := by rw [List.length_eraseIdx, if_pos (by omega)]; omega
      rw [e]
      have e2 : (rs.map rwV).eraseIdx k = (rs.eraseIdx k).map rwV := by
        apply List.ext_getElem?
        intro i
        rw [List.getElem?_eraseIdx, List.getElem?_map, List.getElem?_map, List.getElem?_map, List.getElem?_eraseIdx]
        split <;> rfl
      rw [← e2]
      exact q3, by
      have q5 : w.grownBy w.drew (some g) := ⟨rfl, rfl, rfl, Nat.le_refl _, fun _ _ _ => rfl⟩
      exact gb_trans (gb_trans q5 hG1) q2⟩))
  have HW := hid hW1
  have hjc : j ≤ cap := by omega
  have hic : k ≤ cap := by omega
  have hmn : m ≤ n := by omega
  have hmc : m ≤ cap := by omega
  have hcm : ¬ cap = m := by omega
  have hnc : n ≤ cap := by omega
  have hn64 : n ≤ 9223372036854775807 := by omega
  have hkj : k < j := by omega
  have hjn : j ≤ n := by omega
  have HE := hid (show k + (n - j) = m by omega)
  clear hO1 hG1 hW1 hget hcell hlen hnews h hlt hf hj hn hnm hc
  go_enter Try.func100, Try.ntmps100
  go_wp2_with fail
  go_region_law (refine step_append_room rfl (.tmp 22) (.tmp 25) 26 rfl 32 i0 1 Try.underlying26 hi hz1 g 0 k cap (by simp [Act.eval, Act.put]) A (n - j) (cap - j) news (by simp [Act.eval, Act.put]) s1.out hsrc.out s2.out (by omega) s3.out ?_; rw [← HW.out])
  go_upto_region 6 with (fail)
  rw [HE.out]
  simp only [List.getElem_toArray, List.getElem_cons_succ, List.getElem_cons_zero, Act.put, List.setIfInBounds_toArray, List.set_cons_zero, List.set_cons_succ]
  go_wp2
  go_ret
  exact ⟨rfl, HQ.out _ rfl⟩

theorem DeleteR_ok (base g cap k n : Nat) (rs : List Rw) (w : World) (h : RwO w base (.slice (some ⟨g, 0, none⟩) n cap) rs) (hn : n = rs.length) (hk : k < n) :
    Calls Try.prog 100 #[.slice (some ⟨g, 0, none⟩) n cap, .int .i64 k, .int .i64 ((k : Int) + 1)] w fun e w' => e = .returned (.slice (some ⟨g, 0, none⟩) (n - 1) cap) ∧ RwO w' base (.slice (some ⟨g, 0, none⟩) (n - 1) cap) (rs.eraseIdx k) ∧ w.grownBy w' (some g) := by
  have := DeleteR_ok' base g cap k (k + 1) n (n - 1) rs w h hn hk rfl (by omega)
  rwa [Int.natCast_add] at this

end Go.Proofs.Ytkhkcgoblibnpaa
