/-
  Contracts: products and sums of classes.
-/
import Derived.Test.YtcffaeepanhpfaaProg
import Derived.Test.YtcffaeepanhpfaaKf
import Derived.Test.YtcffaeepanhpfaaC
import Derived.Handy
import Derived.StillTailTactics
import Derived.Deep.RegionLawGrows
namespace Go.Proofs.Ytcffaeepanhpfaa
open Go.RowKit
set_option linter.unusedVariables false
set_option linter.unusedSimpArgs false

theorem index6 (a b c e f g : Value) :
    (∀ w, (Instr.index 36 (.agg #[a, b, c, e, f, g]) (.int .i64 0)).run Try.prog w = .ok a w) ∧
    (∀ w, (Instr.index 36 (.agg #[a, b, c, e, f, g]) (.int .i64 1)).run Try.prog w = .ok b w) ∧
    (∀ w, (Instr.index 36 (.agg #[a, b, c, e, f, g]) (.int .i64 2)).run Try.prog w = .ok c w) ∧
    (∀ w, (Instr.index 36 (.agg #[a, b, c, e, f, g]) (.int .i64 3)).run Try.prog w = .ok e w) ∧
    (∀ w, (Instr.index 36 (.agg #[a, b, c, e, f, g]) (.int .i64 4)).run Try.prog w = .ok f w) ∧
    (∀ w, (Instr.index 36 (.agg #[a, b, c, e, f, g]) (.int .i64 5)).run Try.prog w = .ok g w) :=
  ⟨fun _ => by kernel_rfl, fun _ => by kernel_rfl, fun _ => by kernel_rfl, fun _ => by kernel_rfl, fun _ => by kernel_rfl, fun _ => by kernel_rfl⟩

theorem prods {a0 a1 a2 a3 a4 a5 a6 b0 b1 b2 b3 b4 b5 b6 : Int} {A B : Int} (h1 : Bd A [a0, a1, a2, a3, a4, a5, a6]) (h2 : Bd B [b0, b1, b2, b3, b4, b5, b6]) :
    (-(A * B) ≤ a0 * b0 ∧ a0 * b0 ≤ A * B) ∧ (-(A * B) ≤ a1 * b1 ∧ a1 * b1 ≤ A * B) ∧ (-(A * B) ≤ a2 * b2 ∧ a2 * b2 ≤ A * B) ∧ (-(A * B) ≤ a3 * b3 ∧ a3 * b3 ≤ A * B) ∧ (-(A * B) ≤ a4 * b4 ∧ a4 * b4 ≤ A * B) ∧ (-(A * B) ≤ a5 * b5 ∧ a5 * b5 ≤ A * B) ∧ (-(A * B) ≤ a6 * b6 ∧ a6 * b6 ≤ A * B) :=
  ⟨mul_abs (h1 a0 (by simp)) (h2 b0 (by simp)), mul_abs (h1 a1 (by simp)) (h2 b1 (by simp)), mul_abs (h1 a2 (by simp)) (h2 b2 (by simp)), mul_abs (h1 a3 (by simp)) (h2 b3 (by simp)), mul_abs (h1 a4 (by simp)) (h2 b4 (by simp)), mul_abs (h1 a5 (by simp)) (h2 b5 (by simp)), mul_abs (h1 a6 (by simp)) (h2 b6 (by simp))⟩
theorem bds {a0 a1 a2 a3 a4 a5 a6 : Int} {A : Int} (h : Bd A [a0, a1, a2, a3, a4, a5, a6]) : (-A ≤ a0 ∧ a0 ≤ A) ∧ (-A ≤ a1 ∧ a1 ≤ A) ∧ (-A ≤ a2 ∧ a2 ≤ A) ∧ (-A ≤ a3 ∧ a3 ≤ A) ∧ (-A ≤ a4 ∧ a4 ≤ A) ∧ (-A ≤ a5 ∧ a5 ≤ A) ∧ (-A ≤ a6 ∧ a6 ≤ A) :=
  ⟨h a0 (by simp), h a1 (by simp), h a2 (by simp), h a3 (by simp), h a4 (by simp), h a5 (by simp), h a6 (by simp)⟩
theorem muls {n : Int} {b0 b1 b2 b3 b4 b5 b6 : Int} {N B : Int} (h1 : -N ≤ n ∧ n ≤ N) (h2 : Bd B [b0, b1, b2, b3, b4, b5, b6]) :
    (-(N * B) ≤ n * b0 ∧ n * b0 ≤ N * B) ∧ (-(N * B) ≤ n * b1 ∧ n * b1 ≤ N * B) ∧ (-(N * B) ≤ n * b2 ∧ n * b2 ≤ N * B) ∧ (-(N * B) ≤ n * b3 ∧ n * b3 ≤ N * B) ∧ (-(N * B) ≤ n * b4 ∧ n * b4 ≤ N * B) ∧ (-(N * B) ≤ n * b5 ∧ n * b5 ≤ N * B) ∧ (-(N * B) ≤ n * b6 ∧ n * b6 ≤ N * B) :=
  ⟨mul_abs h1 (h2 b0 (by simp)), mul_abs h1 (h2 b1 (by simp)), mul_abs h1 (h2 b2 (by simp)), mul_abs h1 (h2 b3 (by simp)), mul_abs h1 (h2 b4 (by simp)), mul_abs h1 (h2 b5 (by simp)), mul_abs h1 (h2 b6 (by simp))⟩

set_option maxRecDepth 100000 in
set_option maxHeartbeats 2000000 in
theorem product_ok (a0 a1 a2 a3 a4 a5 a6 b0 b1 b2 b3 b4 b5 b6 : Int) (w : World) (h1 : Bd 1000000 [a0, a1, a2, a3, a4, a5, a6]) (h2 : Bd 1000000 [b0, b1, b2, b3, b4, b5, b6]) :
    Calls Try.prog 59 #[.agg #[.int .i64 a0, .int .i64 a1, .int .i64 a2, .int .i64 a3, .int .i64 a4, .int .i64 a5, .int .i64 a6], .agg #[.int .i64 b0, .int .i64 b1, .int .i64 b2, .int .i64 b3, .int .i64 b4, .int .i64 b5, .int .i64 b6]] w fun k w' => k = .returned (.int .i64 (prd [a0, a1, a2, a3, a4, a5, a6] [b0, b1, b2, b3, b4, b5, b6])) ∧ Below w.heap.size w w' := by
  obtain ⟨⟨l0, u0⟩, ⟨l1, u1⟩, ⟨l2, u2⟩, ⟨l3, u3⟩, ⟨l4, u4⟩, ⟨l5, u5⟩, ⟨l6, u6⟩⟩ := prods h1 h2
  obtain ⟨i0, i1, i2, i3, i4, i5⟩ := index6 (.int .i64 a1) (.int .i64 a2) (.int .i64 a3) (.int .i64 a4) (.int .i64 a5) (.int .i64 a6)
  clear h1 h2
  go_enter Try.func59, Try.ntmps59
  go_wp2
  go_rounds 7
  go_ret
  exact ⟨rfl, below_trans (below_alloc _ _) (below_alloc _ _)⟩

set_option maxRecDepth 100000 in
set_option maxHeartbeats 2000000 in
theorem addTimes_ok (a0 a1 a2 a3 a4 a5 a6 n b0 b1 b2 b3 b4 b5 b6 : Int) (w : World) (h1 : Bd 1000000 [a0, a1, a2, a3, a4, a5, a6]) (hn : -100000000 ≤ n ∧ n ≤ 100000000) (h2 : Bd 1000000 [b0, b1, b2, b3, b4, b5, b6]) :
    Calls Try.prog 56 #[.agg #[.int .i64 a0, .int .i64 a1, .int .i64 a2, .int .i64 a3, .int .i64 a4, .int .i64 a5, .int .i64 a6], .int .i64 n, .agg #[.int .i64 b0, .int .i64 b1, .int .i64 b2, .int .i64 b3, .int .i64 b4, .int .i64 b5, .int .i64 b6]] w fun k w' => k = .returned (clsV (lin [a0, a1, a2, a3, a4, a5, a6] n [b0, b1, b2, b3, b4, b5, b6])) ∧ Below w.heap.size w w' := by
  obtain ⟨⟨l0, u0⟩, ⟨l1, u1⟩, ⟨l2, u2⟩, ⟨l3, u3⟩, ⟨l4, u4⟩, ⟨l5, u5⟩, ⟨l6, u6⟩⟩ := muls hn h2
  obtain ⟨⟨p0, q0⟩, ⟨p1, q1⟩, ⟨p2, q2⟩, ⟨p3, q3⟩, ⟨p4, q4⟩, ⟨p5, q5⟩, ⟨p6, q6⟩⟩ := bds h1
  obtain ⟨i0, i1, i2, i3, i4, i5⟩ := index6 (.int .i64 b1) (.int .i64 b2) (.int .i64 b3) (.int .i64 b4) (.int .i64 b5) (.int .i64 b6)
  clear h1 h2 hn
  go_enter Try.func56, Try.ntmps56
  go_wp2
  go_rounds 7
  refine bodyPost_ret (v := clsV (lin [a0, a1, a2, a3, a4, a5, a6] n [b0, b1, b2, b3, b4, b5, b6])) (by simp [results, Try.results56, go_sem, clsV, lin]) rfl ⟨rfl, ?_⟩
  exact below_trans (below_trans (below_alloc _ _) (below_alloc _ _)) (below_alloc _ _)

def R7 (x : List Int) : List Int := x.drop 1 ++ x.take 1
theorem infoIntK : (Try.prog.info? 3).map (fun i => (i.zero, i.size, i.bytes)) = some (some (.int .i64 0), 1, 8) := by kernel_rfl

set_option maxRecDepth 100000 in
set_option maxHeartbeats 2000000 in
theorem isClass_ok (a0 a1 a2 a3 a4 a5 a6 : Int) (w : World) :
    Calls Try.prog 66 #[.agg #[.int .i64 a0, .int .i64 a1, .int .i64 a2, .int .i64 a3, .int .i64 a4, .int .i64 a5, .int .i64 a6]] w fun k w' => k = .returned (.bool (validB [a0, a1, a2, a3, a4, a5, a6])) ∧ Below w.heap.size w w' := by
  obtain ⟨i0, hi, hz0, hz1, hz2⟩ := info_parts infoIntK
  have HZ := hid (show [a1, a2, a3, a4, a5, a6, a0].all inC = validB [a0, a1, a2, a3, a4, a5, a6] by simp [validB]; ac_rfl)
  have HC := hid (show ∀ b, some (⟨w.heap.size, 1, none⟩ : Addr) = some b → ∀ j u, [Value.int .i64 a1, .int .i64 a2, .int .i64 a3, .int .i64 a4, .int .i64 a5, .int .i64 a6][j]? = some u → ((w.alloc (.cells #[.int .i64 a0, .int .i64 a1, .int .i64 a2, .int .i64 a3, .int .i64 a4, .int .i64 a5, .int .i64 a6] 38)).alloc (.cells #[.int .i64 a0] 3)).drew.cell? (b.add j) = some u from by
    intro b hb j u hu
    cases hb
    rw [Addr.add_lit]
    refine cell_below (below_alloc _ _) ?_
    rw [World.cell?_alloc_at _ _ _ _ rfl, ← hu, Nat.add_comm, List.getElem?_toArray, List.getElem?_cons_succ])
  have HD := hid (show ∀ j u, [Value.int .i64 a0][j]? = some u → ((w.alloc (.cells #[.int .i64 a0, .int .i64 a1, .int .i64 a2, .int .i64 a3, .int .i64 a4, .int .i64 a5, .int .i64 a6] 38)).alloc (.cells #[.int .i64 a0] 3)).drew.cell? ((⟨w.heap.size + 1, 0, none⟩ : Addr).add j) = some u from by
    intro j u hu
    rw [Addr.add_lit, Nat.zero_add, ← hu]
    have h := World.cell?_alloc_at (w := w.alloc (.cells #[.int .i64 a0, .int .i64 a1, .int .i64 a2, .int .i64 a3, .int .i64 a4, .int .i64 a5, .int .i64 a6] 38)) #[.int .i64 a0] 3 (w.heap.size + 1) j (by simp)
    rw [List.getElem?_toArray] at h
    exact h)
  have HL7 := hid (show [a1, a2, a3, a4, a5, a6, a0].length ≤ 17592186044416 by simp)
  have H1 := hid (show ∀ u ∈ [Value.int .i64 a0], u.oneCell' = true from fun u hu => by simp at hu; subst hu; rfl)
  have HB := hid (below_trans (below_alloc w (.cells #[.int .i64 a0, .int .i64 a1, .int .i64 a2, .int .i64 a3, .int .i64 a4, .int .i64 a5, .int .i64 a6] 38)) (below_alloc _ (.cells #[.int .i64 a0] 3)))
  go_enter Try.func66, Try.ntmps66
  go_wp2
  go_region_law (refine step_append_grows rfl (.tmp 6) (.tmp 9) 22 rfl 3 i0 (.int .i64 0) 1 8 Try.underlying22 hi hz0 hz1 hz2 rfl (by decide) (some ⟨w.heap.size, 1, none⟩) 6 6 _ (by simp [Act.eval, Act.put]) (by simp) rfl HC.out ⟨w.heap.size + 1, 0, none⟩ 1 1 [.int .i64 a0] (by simp [Act.eval, Act.put]) rfl HD.out H1.out (by omega) (by decide) (by decide) ?_; intro v' w1 hown hgrow; have B1 := hid (HB.out.drew.grown hgrow HB.out.drew.size (fun k hk => nomatch hk)); obtain ⟨A, c, rfl, hri⟩ := OI.ri (xs := [a1, a2, a3, a4, a5, a6, a0]) hown HL7.out; have HRI := hid hri; clear hown hgrow hri)
  simp only [List.getElem_toArray, List.getElem_cons_succ, List.getElem_cons_zero, Act.put, List.setIfInBounds_toArray, List.set_cons_zero, List.set_cons_succ]
  go_wp2
  obtain ⟨_, _, bk, off, hA, hc⟩ := HRI.out
  obtain rfl : A = some ⟨bk, off, none⟩ := by rcases hA with h | h; cases h; exact h
  have HCl := hid hc
  clear hc hA
  go_loop [12] (fun t => ∃ k : Nat, k ≤ 7 ∧ t = .int .i64 k ∧ [a1, a2, a3, a4, a5, a6, a0].all inC = ([a1, a2, a3, a4, a5, a6, a0].drop k).all inC) (fun t => 7 - (intOf t).toNat)
  case atStart => exact ⟨0, by omega, rfl, rfl⟩
  case round =>
    obtain ⟨k, hk, rfl, hf⟩ := hrel
    have HF := hid hf
    clear hf
    by_cases hlt : k < 7
    · have hcx := HCl.out k hlt
      have HY := hid (@all_drop_yes inC [a1, a2, a3, a4, a5, a6, a0] k (by simpa using hlt))
      have HN := hid (@all_drop_no inC [a1, a2, a3, a4, a5, a6, a0] k (by simpa using hlt))
      generalize hy : [a1, a2, a3, a4, a5, a6, a0].getD k 0 = u at *
      clear hy
      by_cases h1 : u < -1000
      · have HQ := hid (show inC u = false by simp [inC]; omega)
        go_wp2
        go_ret
        exact ⟨by rw [← HZ.out, HF.out, HN.out HQ.out]; rfl, B1.out⟩
      · by_cases h2 : u > 1000
        · have HQ := hid (show inC u = false by simp [inC]; omega)
          go_wp2
          go_ret
          exact ⟨by rw [← HZ.out, HF.out, HN.out HQ.out]; rfl, B1.out⟩
        · have HQ := hid (show inC u = true by simp [inC]; omega)
          go_wp2
          go_round
          case rel => exact ⟨k + 1, by omega, by go_num, by rw [HF.out, HY.out HQ.out]⟩
          case measure => simp [intOf]; omega
    · go_wp2
      go_ret
      exact ⟨by rw [← HZ.out, HF.out, List.drop_eq_nil_of_le (by simp; omega)]; rfl, B1.out⟩

end Go.Proofs.Ytcffaeepanhpfaa
