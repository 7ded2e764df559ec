/-
  Contracts: a class moved by a word, the program's; a word turned round; drawn words.
-/
import Derived.Test.YtbodpfgbelaopaaWp
import Derived.Test.YtbodpfgbelaopaaD
import Derived.Test.YtbodpfgbelaopaaRd
import Derived.Deep.LoopGhost
import Derived.Laws.AppendOwnNone
namespace Go.Proofs.Ytbodpfgbelaopaa
open Go.RowKit
set_option linter.unusedVariables false
set_option linter.unusedSimpArgs false

theorem actF_take {xs : List Int} {k : Nat} (a : List Int) (h : k < xs.length) : actF a (xs.take (k + 1)) = refl (actF a (xs.take k)) (simple (xs.getD k 0).toNat) := by
  rw [List.take_succ_eq_append_getElem h, actF_append, getD_lt h]
  rfl
theorem actF_len {xs : List Int} : ∀ {a : List Int}, a.length = 7 → (actF a xs).length = 7 := by
  induction xs with
  | nil => intro a h; exact h
  | cons x xs ih => intro a h; exact ih (refl_len h (simple_len _))
theorem wd_at {xs : List Int} (h : Wd xs) {k : Nat} (hk : k < xs.length) : ∃ i : Nat, i ≤ 5 ∧ xs.getD k 0 = i := by
  obtain ⟨i, hi, he⟩ := h (xs.getD k 0) (by rw [getD_lt hk]; exact List.getElem_mem _)
  exact ⟨i, by omega, he⟩


/-- 'append(out, ys...)'. -/
theorem append_ints {ops : Array Oper} {rest : List Oper} {o : Oper} {a : Act} {Q : Exit → Act → World → Prop} {w : World} (s x : Operand) (hgd : o.guard = none)
    (ho : o.op = .call { callee := .builtin .append, args := #[s, x], argTypes := #[22, 22] }) (base : Nat) (v : Value) (xs ys : List Int) (A : Option Addr) (m c : Nat)
    (hs : a.eval s = v) (hx : a.eval x = .slice A m c) (hown : OI w base v xs) (hr : RI w A m ys) (hA : A = none → c = 0) (hn : xs.length + m < 1000000) (hb : base ≤ w.heap.size)
    (h : ∀ v' w', OI w' base v' (xs ++ ys) → w.grownBy w' v.ownBlock → wpList Try.prog ops Q rest (a.put o.dst v') w') : wpList Try.prog ops Q (o :: rest) a w := by
  obtain ⟨i0, hi, hz0, hz1, hz2⟩ := info_parts infoInt
  obtain ⟨hl, _, b, off, hA', hc⟩ := hr
  cases A with
  | none =>
    have hm : m = 0 := by
      rcases hA' with h | h
      · exact h
      · cases h
    subst hm
    have hc0 := hA rfl
    subst hc0
    obtain rfl := List.length_eq_zero_iff.1 hl
    refine wpList_append_own_none hgd s x 22 ho base 3 i0 1 Try.underlying22 hi v _ _ hs hown hx ?_
    refine h v w ?_ (World.grownBy.refl _ _)
    rwa [List.append_nil]
  | some ad =>
    refine wpList_append_own w hgd s x 22 ho base 3 i0 (.int .i64 0) 1 8 Try.underlying22 hi hz0 hz1 hz2 rfl (by decide) v _ _ hs hown ad m c (ys.map (Value.int .i64)) hx (by simp [hl]) ?_ ?_ (by unfold maxLen; omega) (by omega) hb ?_
    · intro j u hj
      have hlt : j < m := by
        have := (List.getElem?_eq_some_iff.1 hj).1
        simpa [hl] using this
      have hAd : (some ad : Option Addr) = some ⟨b, off, none⟩ := by
        rcases hA' with h | h
        · omega
        · exact h
      injection hAd with hAd
      subst hAd
      rw [Addr.add_lit, hc j hlt]
      rw [List.getElem?_map, List.getElem?_eq_getElem (by omega)] at hj
      rw [getD_lt (by omega)]
      exact hj
    · intro u hu
      obtain ⟨y, _, rfl⟩ := List.mem_map.1 hu
      rfl
    · intro v' w' h1 h2 _
      refine h v' w' ?_ h2
      unfold OI
      simpa [hl] using h1

/-- A stored element of a row of the call's own. -/
theorem OI.store {w : World} {base g n c : Nat} {xs : List Int} (h : OI w base (.slice (some ⟨g, 0, none⟩) n c) xs) (hn : xs.length = n) (k : Nat) (y : Int) :
    OI (w.setCell ⟨g, k, none⟩ (.int .i64 y)) base (.slice (some ⟨g, 0, none⟩) n c) (xs.set k y) ∧ w.grownBy (w.setCell ⟨g, k, none⟩ (.int .i64 y)) (some g) := by
  have h' : w.ownsRow base 3 1 (.slice (some ⟨g, 0, none⟩) n c) n (xs.map (Value.int .i64)) := by unfold OI at h; rwa [hn] at h
  obtain ⟨h1, h2⟩ := World.ownsRow.stored h' k (.int .i64 y)
  refine ⟨?_, h2⟩
  unfold OI
  rw [List.length_set, hn]
  rw [← List.map_set] at h1
  exact h1
theorem OI.frozen {w : World} {base g n c : Nat} {xs : List Int} (h : OI w base (.slice (some ⟨g, 0, none⟩) n c) xs) (hn : xs.length = n) (k : Nat) : w.frozen? ⟨g, k, none⟩ = false := by
  unfold OI at h
  rw [hn] at h
  exact World.ownsRow.frozenAt h k

/-- The list when the pairs outside i .. j are exchanged. -/
def revTo (xs : List Int) (i : Nat) : List Int := (xs.drop (xs.length - i)).reverse ++ ((xs.drop i).take (xs.length - 2 * i)) ++ (xs.take i).reverse
theorem revTo_zero (xs : List Int) : revTo xs 0 = xs := by simp [revTo]
theorem revTo_len (xs : List Int) {i : Nat} (h : 2 * i ≤ xs.length) : (revTo xs i).length = xs.length := by simp [revTo]; omega
theorem revTo_get (xs : List Int) {i : Nat} (h : 2 * i ≤ xs.length) (k : Nat) (hk : k < xs.length) : (revTo xs i).getD k 0 = if k < i ∨ xs.length - i ≤ k then xs.getD (xs.length - 1 - k) 0 else xs.getD k 0 := by
  have e1 : ((xs.drop (xs.length - i)).reverse).length = i := by simp; omega
  have e2 : ((xs.drop i).take (xs.length - 2 * i)).length = xs.length - 2 * i := by simp; omega
  simp only [List.getD_eq_getElem?_getD]
  unfold revTo
  by_cases h1 : k < i
  · rw [List.append_assoc, List.getElem?_append_left (by omega), if_pos (.inl h1), List.getElem?_reverse (by simp; omega), List.getElem?_drop]
    congr 2
    simp; omega
  · by_cases h2 : xs.length - i ≤ k
    · rw [List.getElem?_append_right (by simp only [List.length_append, e1, e2]; omega), if_pos (.inr h2), List.length_append, e1, e2, List.getElem?_reverse (by simp; omega), List.getElem?_take, if_pos (by simp; omega)]
      congr 2
      simp; omega
    · rw [List.append_assoc, List.getElem?_append_right (by omega), e1, List.getElem?_append_left (by omega), if_neg (by omega), List.getElem?_take, if_pos (by omega), List.getElem?_drop]
      congr 2
      omega
theorem gb_drew1 {w w1 : World} {row : Option Nat} (h : w.grownBy w1 row) : w.grownBy w1.drew row := ⟨h.os, h.tape, h.output, h.size, h.block⟩
theorem ext_getD {xs ys : List Int} (hl : xs.length = ys.length) (h : ∀ k, k < xs.length → xs.getD k 0 = ys.getD k 0) : xs = ys := by
  apply List.ext_getElem hl
  intro i h1 h2
  have := h i h1
  rwa [getD_lt h1, getD_lt h2] at this
theorem getD_set (xs : List Int) (i : Nat) (y : Int) (k : Nat) (hk : k < xs.length) : (xs.set i y).getD k 0 = if i = k then y else xs.getD k 0 := by
  simp only [List.getD_eq_getElem?_getD, List.getElem?_set]
  by_cases h : i = k
  · subst h; simp [hk]
  · simp [h]
theorem revTo_succ (xs : List Int) {i : Nat} (h : 2 * i + 2 ≤ xs.length) : ((revTo xs i).set i (xs.getD (xs.length - 1 - i) 0)).set (xs.length - 1 - i) (xs.getD i 0) = revTo xs (i + 1) := by
  have hl := revTo_len xs (i := i) (by omega)
  refine ext_getD (by rw [List.length_set, List.length_set, hl, revTo_len xs (by omega)]) fun k hk => ?_
  rw [List.length_set, List.length_set, hl] at hk
  rw [getD_set _ _ _ _ (by rw [List.length_set, hl]; exact hk), getD_set _ _ _ _ (by rw [hl]; exact hk), revTo_get xs (by omega) k hk, revTo_get xs (by omega) k hk]
  by_cases h1 : xs.length - 1 - i = k
  · subst h1
    rw [if_pos rfl, if_pos (by omega)]
    congr 1; omega
  · rw [if_neg h1]
    by_cases h2 : i = k
    · subst h2
      rw [if_pos rfl, if_pos (by omega)]
    · rw [if_neg h2]
      by_cases h3 : k < i ∨ xs.length - i ≤ k
      · rw [if_pos h3, if_pos (by omega)]
      · rw [if_neg h3, if_neg (by omega)]
theorem revTo_all (xs : List Int) {i : Nat} (h : 2 * i ≤ xs.length) (h2 : xs.length ≤ 2 * i + 1) : revTo xs i = xs.reverse := by
  refine ext_getD (by rw [revTo_len xs h, List.length_reverse]) fun k hk => ?_
  rw [revTo_len xs h] at hk
  rw [revTo_get xs h k hk]
  simp only [List.getD_eq_getElem?_getD]
  rw [List.getElem?_reverse hk]
  by_cases h3 : k < i ∨ xs.length - i ≤ k
  · rw [if_pos h3]
  · rw [if_neg h3]
    have : k = xs.length - 1 - k := by omega
    rw [← this]

set_option maxRecDepth 100000 in
set_option maxHeartbeats 4000000 in
theorem Reverse_ok (base g n c : Nat) (xs : List Int) (w : World) (h : OI w base (.slice (some ⟨g, 0, none⟩) n c) xs) (hn : xs.length = n) (hs : n ≤ 1000000) :
    Calls Try.prog 61 #[.slice (some ⟨g, 0, none⟩) n c] w fun e w' => e = .returned (.tuple #[]) ∧ OI w' base (.slice (some ⟨g, 0, none⟩) n c) xs.reverse ∧ w.grownBy w' (some g) := by
  have H0 := hid h
  clear h
  go_enter Try.func61, Try.ntmps61
  go_wp2
  go_loopg [2, 3] n (fun gk s t wr => ∃ i : Nat, 2 * i ≤ n + 1 ∧ gk = n - i ∧ s = .int .i64 i ∧ t = .int .i64 ((n : Int) - 1 - i) ∧ (2 * i ≤ n → OI wr base (.slice (some ⟨g, 0, none⟩) n c) (revTo xs i)) ∧ w.grownBy wr (some g) ∧ (¬ 2 * i ≤ n → False))
  case atStart => exact ⟨0, by omega, rfl, rfl, by go_num, fun _ => by rw [revTo_zero]; exact H0.out, World.grownBy.refl _ _, by omega⟩
  case round =>
    obtain ⟨i, hi, hgk, rfl, rfl, hO, hG, hle⟩ := hrel
    have hle' : 2 * i ≤ n := Decidable.byContradiction hle
    have HO := hid (hO hle')
    have HG := hid hG
    have HGk := hid hgk
    clear hO hG hle hgk
    by_cases hlt : 2 * i + 2 ≤ n
    · obtain ⟨j, hj⟩ : ∃ j : Nat, j = n - 1 - i := ⟨_, rfl⟩
      have hjz : (n : Int) - 1 - i = (j : Int) := by omega
      have hij : i < j := by omega
      have hjn : j < n := by omega
      have hrl := revTo_len xs (i := i) (by omega)
      obtain ⟨g', cap', hsl, _, hgw, hcell⟩ := HO.out.shape (by omega)
      injection hsl with e1 e2 e3
      injection e1 with e1
      injection e1 with e1
      subst e1
      have ci := hcell i (by omega)
      have cj := hcell j (by omega)
      rw [revTo_get xs (by omega) i (by omega), if_neg (by omega)] at ci
      rw [revTo_get xs (by omega) j (by omega), if_neg (by omega)] at cj
      have fi := HO.out.frozen (by omega) i
      have fj := HO.out.frozen (by omega) j
      have s1 := HO.out.store (by omega) i (xs.getD j 0)
      have s2 := s1.1.store (by rw [List.length_set]; omega) j (xs.getD i 0)
      have hsu := revTo_succ xs (i := i) (by omega)
      rw [show xs.length - 1 - i = j by omega] at hsu
      rw [hsu] at s2
      have S2 := hid s2.1
      have G2 := hid (show w.grownBy _ (some g) from ⟨(s2.2.os.trans s1.2.os).trans HG.out.os, (s2.2.tape.trans s1.2.tape).trans HG.out.tape, (s2.2.output.trans s1.2.output).trans HG.out.output, Nat.le_trans HG.out.size (Nat.le_trans s1.2.size s2.2.size), fun k hk hr => ((s2.2.block k (Nat.lt_of_lt_of_le (Nat.lt_of_lt_of_le hk HG.out.size) s1.2.size) hr).trans (s1.2.block k (Nat.lt_of_lt_of_le hk HG.out.size) hr)).trans (HG.out.block k hk hr)⟩)
      have hne : i ≠ j := by omega
      have hgk2 : n - (i + 1) < n - i := by omega
      rw [hjz]
      have HJ := hid hj
      clear s1 s2 hsu hcell hrl e2 e3 hj hjz
      generalize xs.getD i 0 = y at *
      generalize xs.getD j 0 = z at *
      go_wp2_with fail
      go_region
      go_wp2
      go_roundg (n - (i + 1))
      case measure => have := HGk.out; omega
      case rel => exact ⟨i + 1, by omega, rfl, by go_num, by rw [show (n : Int) - 1 - ((i + 1 : Nat) : Int) = (j : Int) - 1 by have := HJ.out; omega], fun _ => S2.out, gb_drew1 G2.out, by have := HJ.out; omega⟩
    · have HR := hid (revTo_all xs (i := i) (by omega) (by omega))
      have hno : ¬ (i : Int) < (n : Int) - 1 - i := by omega
      go_wp2
      go_end0
      exact ⟨rfl, by rw [← HR.out]; exact HO.out, HG.out⟩

end Go.Proofs.Ytbodpfgbelaopaa
