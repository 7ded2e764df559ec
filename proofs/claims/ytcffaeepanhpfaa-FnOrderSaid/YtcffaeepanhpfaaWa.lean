/-
  Contracts: a class moved by a word, the program's; a word turned round; drawn words.
-/
import Derived.Test.YtcffaeepanhpfaaWp
import Derived.Test.YtcffaeepanhpfaaD
import Derived.Test.YtcffaeepanhpfaaRd
import Derived.Deep.LoopGhost
import Derived.Laws.AppendOwnNone
namespace Go.Proofs.Ytcffaeepanhpfaa
open Go.RowKit
set_option linter.unusedVariables false
set_option linter.unusedSimpArgs false

theorem actF_take {xs : List Int} {k : Nat} (a : List Int) (h : k < xs.length) : actF a (xs.take (k + 1)) = refl (actF a (xs.take k)) (simple (xs.getD k 0).toNat) := by
  rw [List.take_succ_eq_append_getElem h, actF_append, getD_lt h]
  rfl
theorem actF_len {xs : List Int} : ∀ {a : List Int}, a.length = 7 → (actF a xs).length = 7 := by
  induction xs with
  | nil => intro a h; exact h
  | cons x xs ih => intro a h; exact ih (refl_len h (simple_len _))
theorem wd_at {xs : List Int} (h : Wd xs) {k : Nat} (hk : k < xs.length) : ∃ i : Nat, i ≤ 5 ∧ xs.getD k 0 = i := by
  obtain ⟨i, hi, he⟩ := h (xs.getD k 0) (by rw [getD_lt hk]; exact List.getElem_mem _)
  exact ⟨i, by omega, he⟩

set_option maxRecDepth 100000 in
set_option maxHeartbeats 8000000 in
theorem acted_ok (A : Option Addr) (n c : Nat) (xs : List Int) (a0 a1 a2 a3 a4 a5 a6 : Int) (w : World) (hr : RI w A n xs) (hwd : Wd xs) (hb : ∀ k, k ≤ n → Bd 1000 (actF [a0, a1, a2, a3, a4, a5, a6] (xs.take k))) :
    Calls Try.prog 40 #[.slice A n c, .agg #[.int .i64 a0, .int .i64 a1, .int .i64 a2, .int .i64 a3, .int .i64 a4, .int .i64 a5, .int .i64 a6]] w fun k w' => k = .returned (clsV (actF [a0, a1, a2, a3, a4, a5, a6] xs)) ∧ Below w.heap.size w w' := by
  have hl := hr.1
  have X0 := hid ((CB.new w 38 a0 a1 a2 a3 a4 a5 a6).alloc (.cells #[.int .i64 0, .int .i64 0, .int .i64 0, .int .i64 0, .int .i64 0, .int .i64 0, .int .i64 0] 38))
  have Y0 := hid (CB.newAt (w.alloc (.cells #[.int .i64 a0, .int .i64 a1, .int .i64 a2, .int .i64 a3, .int .i64 a4, .int .i64 a5, .int .i64 a6] 38)) 38 (w.heap.size + 1) (by simp) 0 0 0 0 0 0 0)
  have B0 := hid (below_trans (below_alloc w (.cells #[.int .i64 a0, .int .i64 a1, .int .i64 a2, .int .i64 a3, .int .i64 a4, .int .i64 a5, .int .i64 a6] 38)) (below_alloc _ (.cells #[.int .i64 0, .int .i64 0, .int .i64 0, .int .i64 0, .int .i64 0, .int .i64 0, .int .i64 0] 38)))
  have n5 : w.heap.size ≤ w.heap.size + 1 := by omega
  have n2 : ¬ w.heap.size + 1 = w.heap.size := by omega
  have n6 : w.heap.size ≤ w.heap.size := by omega
  have HBd := hid hb
  have HWd := hid hwd
  obtain ⟨_, hn, bk, off, hA, hc⟩ := hr
  have HCl := hid hc
  clear hc hb hwd
  go_enter Try.func40, Try.ntmps40
  go_wp2
  go_loopw [9] (fun t wr => ∃ (k : Nat) (c0 c1 c2 c3 c4 c5 c6 : Int), k ≤ n ∧ t = .int .i64 k ∧ actF [a0, a1, a2, a3, a4, a5, a6] (xs.take k) = [c0, c1, c2, c3, c4, c5, c6] ∧ CB wr 38 w.heap.size c0 c1 c2 c3 c4 c5 c6 ∧ CB wr 38 (w.heap.size + 1) 0 0 0 0 0 0 0 ∧ Below w.heap.size w wr) (fun t _ => n - (intOf t).toNat)
  case atStart => exact ⟨0, a0, a1, a2, a3, a4, a5, a6, by omega, rfl, rfl, X0.out, Y0.out, B0.out⟩
  case round =>
    obtain ⟨k, c0, c1, c2, c3, c4, c5, c6, hk, rfl, hrun, hX, hY, hB⟩ := hrel
    have HX := hid hX
    have HY := hid hY
    have HB := hid hB
    have HRun := hid hrun
    clear hX hY hB hrun
    by_cases hlt : k < n
    · obtain rfl : A = some ⟨bk, off, none⟩ := by rcases hA with h | h; omega; exact h
      have hcx : wr.cell? ⟨bk, off + k, none⟩ = some (.int .i64 (xs.getD k 0)) := cell_below HB.out (HCl.out k hlt)
      obtain ⟨i, hi, hxi⟩ := wd_at HWd.out (show k < xs.length by omega)
      have HD := hid (@actF_take xs k [a0, a1, a2, a3, a4, a5, a6] (by omega))
      rw [HRun.out, hxi, Int.toNat_natCast] at HD
      rw [hxi] at hcx
      have hbd : Bd 1000 [c0, c1, c2, c3, c4, c5, c6] := by have := HBd.out k hk; rwa [HRun.out] at this
      have hS := simple_bd i
      have hSl := simple_len i
      have HSi := hid (fun W => simpleRoot_ok i W hi)
      generalize simple i = S at *
      obtain ⟨r0, r1, r2, r3, r4, r5, r6, hS7⟩ := seven hSl
      subst hS7
      have HSv := hid (show clsV [r0, r1, r2, r3, r4, r5, r6] = .agg #[.int .i64 r0, .int .i64 r1, .int .i64 r2, .int .i64 r3, .int .i64 r4, .int .i64 r5, .int .i64 r6] from rfl)
      have HRf := hid (fun W => reflected_ok c0 c1 c2 c3 c4 c5 c6 r0 r1 r2 r3 r4 r5 r6 W hbd (hS.mono (by omega)))
      have HLn := refl_len (seven_len c0 c1 c2 c3 c4 c5 c6) (seven_len r0 r1 r2 r3 r4 r5 r6)
      clear hS hSl hbd hxi hA
      generalize refl [c0, c1, c2, c3, c4, c5, c6] [r0, r1, r2, r3, r4, r5, r6] = Z at *
      obtain ⟨x0, x1, x2, x3, x4, x5, x6, hZ7⟩ := seven HLn
      subst hZ7
      have HZv := hid (show clsV [x0, x1, x2, x3, x4, x5, x6] = .agg #[.int .i64 x0, .int .i64 x1, .int .i64 x2, .int .i64 x3, .int .i64 x4, .int .i64 x5, .int .i64 x6] from rfl)
      clear HLn
      obtain ⟨p0, p1, p2, p3, p4, p5, p6⟩ := HX.out.seven
      go_wp2
      go_region_with (first
        | (go_at_call 57; refine (HSi.out _).mono ?_; rintro e w3 ⟨rfl, b3⟩; rw [HSv.out]; have X3 := hid (HX.out.drew.below b3); have Y3 := hid (HY.out.drew.below b3); have B3 := hid (below_trans HB.out.drew b3); obtain ⟨q0, q1, q2, q3, q4, q5, q6⟩ := X3.out.seven; clear b3)
        | (go_at_call 58; refine (HRf.out _).mono ?_; rintro e w4 ⟨rfl, b4⟩; rw [HZv.out]; have X4 := hid (X3.out.below b4); have Y4 := hid (Y3.out.below b4); have B4 := hid (below_trans B3.out b4); obtain ⟨_, _, _, _, _, _, _, f0, f1, f2, f3, f4, f5, f6⟩ := X4.out.cells; obtain ⟨t0, t1, t2, t3, t4, t5, t6⟩ := X4.out.seven; clear b4))
      all_goals
        have X5 := hid (X4.out.put x0 x1 x2 x3 x4 x5 x6)
        have Y5 := hid (Y4.out.far n2 x0 x1 x2 x3 x4 x5 x6)
        have B5 := hid (below_put7 B4.out n6 x0 x1 x2 x3 x4 x5 x6)
        clear f0 f1 f2 f3 f4 f5 f6 t0 t1 t2 t3 t4 t5 t6 q0 q1 q2 q3 q4 q5 q6 p0 p1 p2 p3 p4 p5 p6
        go_wp2
        go_roundw
        case rel => exact ⟨k + 1, x0, x1, x2, x3, x4, x5, x6, by omega, by go_num, HD.out, by with_reducible exact X5.out, by with_reducible exact Y5.out, by with_reducible exact B5.out⟩
        case measure => simp [intOf]; omega
    · have HD := hid (show actF [a0, a1, a2, a3, a4, a5, a6] xs = [c0, c1, c2, c3, c4, c5, c6] by have := HRun.out; rwa [List.take_of_length_le (by omega)] at this)
      obtain ⟨p0, p1, p2, p3, p4, p5, p6⟩ := HX.out.seven
      obtain ⟨y0, y1, y2, y3, y4, y5, y6, g0, g1, g2, g3, g4, g5, g6⟩ := HY.out.cells
      have Y7 := hid (HY.out.put c0 c1 c2 c3 c4 c5 c6)
      have B7 := hid (below_put7 HB.out n5 c0 c1 c2 c3 c4 c5 c6)
      obtain ⟨s0, s1, s2, s3, s4, s5, s6⟩ := Y7.out.seven
      go_wp2
      refine bodyPost_ret (v := clsV [c0, c1, c2, c3, c4, c5, c6]) (by simp [results, Try.results40, go_sem, clsV, s0, s1, s2, s3, s4, s5, s6]) rfl ⟨by rw [HD.out], ?_⟩
      with_reducible exact B7.out

/-- 'append(out, ys...)'. -/
theorem append_ints {ops : Array Oper} {rest : List Oper} {o : Oper} {a : Act} {Q : Exit → Act → World → Prop} {w : World} (s x : Operand) (hgd : o.guard = none)
    (ho : o.op = .call { callee := .builtin .append, args := #[s, x], argTypes := #[22, 22] }) (base : Nat) (v : Value) (xs ys : List Int) (A : Option Addr) (m c : Nat)
    (hs : a.eval s = v) (hx : a.eval x = .slice A m c) (hown : OI w base v xs) (hr : RI w A m ys) (hA : A = none → c = 0) (hn : xs.length + m < 1000000) (hb : base ≤ w.heap.size)
    (h : ∀ v' w', OI w' base v' (xs ++ ys) → w.grownBy w' v.ownBlock → wpList Try.prog ops Q rest (a.put o.dst v') w') : wpList Try.prog ops Q (o :: rest) a w := by
  obtain ⟨i0, hi, hz0, hz1, hz2⟩ := info_parts infoInt
  obtain ⟨hl, _, b, off, hA', hc⟩ := hr
  cases A with
  | none =>
    have hm : m = 0 := by
      rcases hA' with h | h
      · exact h
      · cases h
    subst hm
    have hc0 := hA rfl
    subst hc0
    obtain rfl := List.length_eq_zero_iff.1 hl
    refine wpList_append_own_none hgd s x 22 ho base 3 i0 1 Try.underlying22 hi v _ _ hs hown hx ?_
    refine h v w ?_ (World.grownBy.refl _ _)
    rwa [List.append_nil]
  | some ad =>
    refine wpList_append_own w hgd s x 22 ho base 3 i0 (.int .i64 0) 1 8 Try.underlying22 hi hz0 hz1 hz2 rfl (by decide) v _ _ hs hown ad m c (ys.map (Value.int .i64)) hx (by simp [hl]) ?_ ?_ (by unfold maxLen; omega) (by omega) hb ?_
    · intro j u hj
      have hlt : j < m := by
        have := (List.getElem?_eq_some_iff.1 hj).1
        simpa [hl] using this
      have hAd : (some ad : Option Addr) = some ⟨b, off, none⟩ := by
        rcases hA' with h | h
        · omega
        · exact h
      injection hAd with hAd
      subst hAd
      rw [Addr.add_lit, hc j hlt]
      rw [List.getElem?_map, List.getElem?_eq_getElem (by omega)] at hj
      rw [getD_lt (by omega)]
      exact hj
    · intro u hu
      obtain ⟨y, _, rfl⟩ := List.mem_map.1 hu
      rfl
    · intro v' w' h1 h2 _
      refine h v' w' ?_ h2
      unfold OI
      simpa [hl] using h1

/-- A stored element of a row of the call's own. -/
theorem OI.store {w : World} {base g n c : Nat} {xs : List Int} (h : OI w base (.slice (some ⟨g, 0, none⟩) n c) xs) (hn : xs.length = n) (k : Nat) (y : Int) :
    OI (w.setCell ⟨g, k, none⟩ (.int .i64 y)) base (.slice (some ⟨g, 0, none⟩) n c) (xs.set k y) ∧ w.grownBy (w.setCell ⟨g, k, none⟩ (.int .i64 y)) (some g) := by
  have h' : w.ownsRow base 3 1 (.slice (some ⟨g, 0, none⟩) n c) n (xs.map (Value.int .i64)) := by unfold OI at h; rwa [hn] at h
  obtain ⟨h1, h2⟩ := World.ownsRow.stored h' k (.int .i64 y)
  refine ⟨?_, h2⟩
  unfold OI
  rw [List.length_set, hn]
  rw [← List.map_set] at h1
  exact h1
theorem OI.frozen {w : World} {base g n c : Nat} {xs : List Int} (h : OI w base (.slice (some ⟨g, 0, none⟩) n c) xs) (hn : xs.length = n) (k : Nat) : w.frozen? ⟨g, k, none⟩ = false := by
  unfold OI at h
  rw [hn] at h
  exact World.ownsRow.frozenAt h k

/-- The list when the pairs outside i .. j are exchanged. -/
def revTo (xs : List Int) (i : Nat) : List Int := (xs.drop (xs.length - i)).reverse ++ ((xs.drop i).take (xs.length - 2 * i)) ++ (xs.take i).reverse
theorem revTo_zero (xs : List Int) : revTo xs 0 = xs := by simp [revTo]
theorem revTo_len (xs : List Int) {i : Nat} (h : 2 * i ≤ xs.length) : (revTo xs i).length = xs.length := by simp [revTo]; omega
theorem revTo_get (xs : List Int) {i : Nat} (h : 2 * i ≤ xs.length) (k : Nat) (hk : k < xs.length) : (revTo xs i).getD k 0 = if k < i ∨ xs.length - i ≤ k then xs.getD (xs.length - 1 - k) 0 else xs.getD k 0 := by
  have e1 : ((xs.drop (xs.length - i)).reverse).length = i := by simp; omega
  have e2 : ((xs.drop i).take (xs.length - 2 * i)).length = xs.length - 2 * i := by simp; omega
  simp only [List.getD_eq_getElem?_getD]
  unfold revTo
  by_cases h1 : k < i
  · rw [List.append_assoc, List.getElem?_append_left (by omega), if_pos (.inl h1), List.getElem?_reverse (by simp; omega), List.getElem?_drop]
    congr 2
    simp; omega
  · by_cases h2 : xs.length - i ≤ k
    · rw [List.getElem?_append_right (by simp only [List.length_append, e1, e2]; omega), if_pos (.inr h2), List.length_append, e1, e2, List.getElem?_reverse (by simp; omega), List.getElem?_take, if_pos (by simp; omega)]
      congr 2
      simp; omega
    · rw [List.append_assoc, List.getElem?_append_right (by omega), e1, List.getElem?_append_left (by omega), if_neg (by omega), List.getElem?_take, if_pos (by omega), List.getElem?_drop]
      congr 2
      omega
theorem gb_drew1 {w w1 : World} {row : Option Nat} (h : w.grownBy w1 row) : w.grownBy w1.drew row := ⟨h.os, h.tape, h.output, h.size, h.block⟩
theorem ext_getD {xs ys : List Int} (hl : xs.length = ys.length) (h : ∀ k, k < xs.length → xs.getD k 0 = ys.getD k 0) : xs = ys := by
  apply List.ext_getElem hl
  intro i h1 h2
  have := h i h1
  rwa [getD_lt h1, getD_lt h2] at this
theorem getD_set (xs : List Int) (i : Nat) (y : Int) (k : Nat) (hk : k < xs.length) : (xs.set i y).getD k 0 = if i = k then y else xs.getD k 0 := by
  simp only [List.getD_eq_getElem?_getD, List.getElem?_set]
  by_cases h : i = k
  · subst h; simp [hk]
  · simp [h]
theorem revTo_succ (xs : List Int) {i : Nat} (h : 2 * i + 2 ≤ xs.length) : ((revTo xs i).set i (xs.getD (xs.length - 1 - i) 0)).set (xs.length - 1 - i) (xs.getD i 0) = revTo xs (i + 1) := by
  have hl := revTo_len xs (i := i) (by omega)
  refine ext_getD (by rw [List.length_set, List.length_set, hl, revTo_len xs (by omega)]) fun k hk => ?_
  rw [List.length_set, List.length_set, hl] at hk
  rw [getD_set _ _ _ _ (by rw [List.length_set, hl]; exact hk), getD_set _ _ _ _ (by rw [hl]; exact hk), revTo_get xs (by omega) k hk, revTo_get xs (by omega) k hk]
  by_cases h1 : xs.length - 1 - i = k
  · subst h1
    rw [if_pos rfl, if_pos (by omega)]
    congr 1; omega
  · rw [if_neg h1]
    by_cases h2 : i = k
    · subst h2
      rw [if_pos rfl, if_pos (by omega)]
    · rw [if_neg h2]
      by_cases h3 : k < i ∨ xs.length - i ≤ k
      · rw [if_pos h3, if_pos (by omega)]
      · rw [if_neg h3, if_neg (by omega)]
theorem revTo_all (xs : List Int) {i : Nat} (h : 2 * i ≤ xs.length) (h2 : xs.length ≤ 2 * i + 1) : revTo xs i = xs.reverse := by
  refine ext_getD (by rw [revTo_len xs h, List.length_reverse]) fun k hk => ?_
  rw [revTo_len xs h] at hk
  rw [revTo_get xs h k hk]
  simp only [List.getD_eq_getElem?_getD]
  rw [List.getElem?_reverse hk]
  by_cases h3 : k < i ∨ xs.length - i ≤ k
  · rw [if_pos h3]
  · rw [if_neg h3]
    have : k = xs.length - 1 - k := by omega
    rw [← this]

set_option maxRecDepth 100000 in
set_option maxHeartbeats 4000000 in
theorem Reverse_ok (base g n c : Nat) (xs : List Int) (w : World) (h : OI w base (.slice (some ⟨g, 0, none⟩) n c) xs) (hn : xs.length = n) (hs : n ≤ 1000000) :
    Calls Try.prog 36 #[.slice (some ⟨g, 0, none⟩) n c] w fun e w' => e = .returned (.tuple #[]) ∧ OI w' base (.slice (some ⟨g, 0, none⟩) n c) xs.reverse ∧ w.grownBy w' (some g) := by
  have H0 := hid h
  clear h
  go_enter Try.func36, Try.ntmps36
  go_wp2
  go_loopg [2, 3] n (fun gk s t wr => ∃ i : Nat, 2 * i ≤ n + 1 ∧ gk = n - i ∧ s = .int .i64 i ∧ t = .int .i64 ((n : Int) - 1 - i) ∧ (2 * i ≤ n → OI wr base (.slice (some ⟨g, 0, none⟩) n c) (revTo xs i)) ∧ w.grownBy wr (some g) ∧ (¬ 2 * i ≤ n → False))
  case atStart => exact ⟨0, by omega, rfl, rfl, by go_num, fun _ => by rw [revTo_zero]; exact H0.out, World.grownBy.refl _ _, by omega⟩
  case round =>
    obtain ⟨i, hi, hgk, rfl, rfl, hO, hG, hle⟩ := hrel
    have hle' : 2 * i ≤ n := Decidable.byContradiction hle
    have HO := hid (hO hle')
    have HG := hid hG
    have HGk := hid hgk
    clear hO hG hle hgk
    by_cases hlt : 2 * i + 2 ≤ n
    · obtain ⟨j, hj⟩ : ∃ j : Nat, j = n - 1 - i := ⟨_, rfl⟩
      have hjz : (n : Int) - 1 - i = (j : Int) := by omega
      have hij : i < j := by omega
      have hjn : j < n := by omega
      have hrl := revTo_len xs (i := i) (by omega)
      obtain ⟨g', cap', hsl, _, hgw, hcell⟩ := HO.out.shape (by omega)
      injection hsl with e1 e2 e3
      injection e1 with e1
      injection e1 with e1
      subst e1
      have ci := hcell i (by omega)
      have cj := hcell j (by omega)
      rw [revTo_get xs (by omega) i (by omega), if_neg (by omega)] at ci
      rw [revTo_get xs (by omega) j (by omega), if_neg (by omega)] at cj
      have fi := HO.out.frozen (by omega) i
      have fj := HO.out.frozen (by omega) j
      have s1 := HO.out.store (by omega) i (xs.getD j 0)
      have s2 := s1.1.store (by rw [List.length_set]; omega) j (xs.getD i 0)
      have hsu := revTo_succ xs (i := i) (by omega)
      rw [show xs.length - 1 - i = j by omega] at hsu
      rw [hsu] at s2
      have S2 := hid s2.1
      have G2 := hid (show w.grownBy _ (some g) from ⟨(s2.2.os.trans s1.2.os).trans HG.out.os, (s2.2.tape.trans s1.2.tape).trans HG.out.tape, (s2.2.output.trans s1.2.output).trans HG.out.output, Nat.le_trans HG.out.size (Nat.le_trans s1.2.size s2.2.size), fun k hk hr => ((s2.2.block k (Nat.lt_of_lt_of_le (Nat.lt_of_lt_of_le hk HG.out.size) s1.2.size) hr).trans (s1.2.block k (Nat.lt_of_lt_of_le hk HG.out.size) hr)).trans (HG.out.block k hk hr)⟩)
      have hne : i ≠ j := by omega
      have hgk2 : n - (i + 1) < n - i := by omega
      rw [hjz]
      have HJ := hid hj
      clear s1 s2 hsu hcell hrl e2 e3 hj hjz
      generalize xs.getD i 0 = y at *
      generalize xs.getD j 0 = z at *
      go_wp2_with fail
      go_region
      go_wp2
      go_roundg (n - (i + 1))
      case measure => have := HGk.out; omega
      case rel => exact ⟨i + 1, by omega, rfl, by go_num, by rw [show (n : Int) - 1 - ((i + 1 : Nat) : Int) = (j : Int) - 1 by have := HJ.out; omega], fun _ => S2.out, gb_drew1 G2.out, by have := HJ.out; omega⟩
    · have HR := hid (revTo_all xs (i := i) (by omega) (by omega))
      have hno : ¬ (i : Int) < (n : Int) - 1 - i := by omega
      go_wp2
      go_end0
      exact ⟨rfl, by rw [← HR.out]; exact HO.out, HG.out⟩

end Go.Proofs.Ytcffaeepanhpfaa
