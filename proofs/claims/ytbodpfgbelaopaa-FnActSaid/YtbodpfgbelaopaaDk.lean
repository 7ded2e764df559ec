/-
  Drawn classes and roots.
-/
import Derived.Test.YtbodpfgbelaopaaLn
import Derived.Test.YtbodpfgbelaopaaRd
namespace Go.Proofs.Ytbodpfgbelaopaa
open Go.RowKit
set_option linter.unusedVariables false
set_option linter.unusedSimpArgs false

theorem Rd.setC {w : World} {R k : Nat} {cnt : Int} {a0 a1 a2 a3 a4 a5 a6 : Int} {T : TypeId} (h : Rd w R cnt) (hb : CB w T k a0 a1 a2 a3 a4 a5 a6) (hk : k ≠ R) (j : Nat) (v : Value) : Rd (w.setCell ⟨k, j, none⟩ v) R cnt := by
  obtain ⟨hlt, b', off, n, cc, A, xs, h1, h2, h3, h4, h5, h6, h7⟩ := h
  refine ⟨by simpa using hlt, b', off, n, cc, A, xs, ?_, h2, h3, h4, h5, h6, fun i hi => ?_⟩
  · rw [heap_setCell_other w ⟨k, j, none⟩ R v (fun e => hk e.symm)]
    exact h1
  · have hne : k ≠ b' := by
      intro e
      subst e
      have h := h7 i hi
      rw [cell_of_row w k (off + i) _ _ _ hb] at h
      match off + i, h with
      | 0, h => simp at h
      | 1, h => simp at h
      | 2, h => simp at h
      | 3, h => simp at h
      | 4, h => simp at h
      | 5, h => simp at h
      | 6, h => simp at h
      | j + 7, h => simp at h
    exact (World.cell?_setCell_other (v := v) w ⟨k, j, none⟩ ⟨b', off + i, none⟩ (fun e => hne (by injection e with e))).trans (h7 i hi)
theorem Rd.put7 {w : World} {R k : Nat} {cnt : Int} {a0 a1 a2 a3 a4 a5 a6 : Int} {T : TypeId} (h : Rd w R cnt) (hb : CB w T k a0 a1 a2 a3 a4 a5 a6) (hk : k ≠ R) (b0 b1 b2 b3 b4 b5 b6 : Int) : Rd (((((((w.setCell ⟨k, 0, none⟩ (.int .i64 b0)).setCell ⟨k, 1, none⟩ (.int .i64 b1)).setCell ⟨k, 2, none⟩ (.int .i64 b2)).setCell ⟨k, 3, none⟩ (.int .i64 b3)).setCell ⟨k, 4, none⟩ (.int .i64 b4)).setCell ⟨k, 5, none⟩ (.int .i64 b5)).setCell ⟨k, 6, none⟩ (.int .i64 b6)) R cnt := by
  have c0 := (hb.set b0).1
  have c1 := (c0.set b1).2.1
  have c2 := (c1.set b2).2.2.1
  have c3 := (c2.set b3).2.2.2.1
  have c4 := (c3.set b4).2.2.2.2.1
  have c5 := (c4.set b5).2.2.2.2.2.1
  exact ((((((h.setC hb hk 0 _).setC c0 hk 1 _).setC c1 hk 2 _).setC c2 hk 3 _).setC c3 hk 4 _).setC c4 hk 5 _).setC c5 hk 6 _
theorem gb_trans1 {w w1 w2 : World} {row : Option Nat} (h : w.grownBy w1 row) (k : w1.grownBy w2 row) : w.grownBy w2 row :=
  ⟨k.os.trans h.os, k.tape.trans h.tape, k.output.trans h.output, Nat.le_trans h.size k.size, fun i hi hr => (k.block i (Nat.lt_of_lt_of_le hi h.size) hr).trans (h.block i hi hr)⟩
theorem gb_below1 {w w1 : World} {row : Option Nat} (h : Below w.heap.size w w1) : w.grownBy w1 row := ⟨h.os, h.tape, h.output, h.size, fun i hi _ => h.block i hi⟩

theorem OC.shape {w : World} {base : Nat} {v : Value} {cs : List (List Int)} (h : OC w base v cs) (h0 : 0 < cs.length) (hn : cs.length ≤ 100000) :
    ∃ g c, v = .slice (some ⟨g, 0, none⟩) cs.length c ∧ base ≤ g ∧ RC w (some ⟨g, 0, none⟩) cs.length cs := by
  rcases h.2.2 with ⟨_, h1⟩ | ⟨g, cap, cur, h1, hb, _, h4, _⟩
  · omega
  · obtain ⟨A, c, h5, h6⟩ := h.rc hn
    rw [h1] at h5
    injection h5 with e1 e2 e3
    exact ⟨g, cap, h1, hb, e1 ▸ h6⟩
theorem CB.setE {w : World} {T : TypeId} {k : Nat} {a0 a1 a2 a3 a4 a5 a6 : Int} (h : CB w T k a0 a1 a2 a3 a4 a5 a6) (hb : Bd 2000 [a0, a1, a2, a3, a4, a5, a6]) (j : Nat) (hj : j < 7) (v : Int) (hv : -2000 ≤ v ∧ v ≤ 2000) :
    ∃ b0 b1 b2 b3 b4 b5 b6 : Int, CB (w.setCell ⟨k, j, none⟩ (.int .i64 v)) T k b0 b1 b2 b3 b4 b5 b6 ∧ Bd 2000 [b0, b1, b2, b3, b4, b5, b6] := by
  obtain ⟨s0, s1, s2, s3, s4, s5, s6⟩ := h.set v
  have hb' : ∀ x ∈ [a0, a1, a2, a3, a4, a5, a6], -2000 ≤ x ∧ x ≤ 2000 := hb
  simp only [List.mem_cons, List.not_mem_nil, or_false, forall_eq_or_imp, forall_eq] at hb'
  match j, hj with
  | 0, _ => exact ⟨_, _, _, _, _, _, _, s0, by intro x hx; simp at hx; omega⟩
  | 1, _ => exact ⟨_, _, _, _, _, _, _, s1, by intro x hx; simp at hx; omega⟩
  | 2, _ => exact ⟨_, _, _, _, _, _, _, s2, by intro x hx; simp at hx; omega⟩
  | 3, _ => exact ⟨_, _, _, _, _, _, _, s3, by intro x hx; simp at hx; omega⟩
  | 4, _ => exact ⟨_, _, _, _, _, _, _, s4, by intro x hx; simp at hx; omega⟩
  | 5, _ => exact ⟨_, _, _, _, _, _, _, s5, by intro x hx; simp at hx; omega⟩
  | 6, _ => exact ⟨_, _, _, _, _, _, _, s6, by intro x hx; simp at hx; omega⟩
theorem CB.cellAt {w : World} {T : TypeId} {k : Nat} {a0 a1 a2 a3 a4 a5 a6 : Int} (h : CB w T k a0 a1 a2 a3 a4 a5 a6) (j : Nat) (hj : j < 7) : ∃ v, w.cell? ⟨k, j, none⟩ = some v ∧ w.frozen? ⟨k, j, none⟩ = false := by
  obtain ⟨x0, x1, x2, x3, x4, x5, x6, f0, f1, f2, f3, f4, f5, f6⟩ := h.cells
  match j, hj with
  | 0, _ => exact ⟨_, x0, f0⟩
  | 1, _ => exact ⟨_, x1, f1⟩
  | 2, _ => exact ⟨_, x2, f2⟩
  | 3, _ => exact ⟨_, x3, f3⟩
  | 4, _ => exact ⟨_, x4, f4⟩
  | 5, _ => exact ⟨_, x5, f5⟩
  | 6, _ => exact ⟨_, x6, f6⟩
/-- A root of the list that a call has made. -/
theorem roots_in {j : Nat} (h : j < 72) : roots.getD j [] ∈ roots := by
  simp [List.getD_eq_getElem?_getD, List.getElem?_eq_getElem (show j < roots.length by rw [roots_len]; exact h)]

set_option maxRecDepth 100000 in
set_option maxHeartbeats 8000000 in
theorem l91Class_ok (R : Nat) (cnt : Int) (w : World) (hr : Rd w R cnt) (h0 : 0 ≤ cnt) (h1 : cnt ≤ 900000) :
    Calls Try.prog 55 #[.pointer (some ⟨R, 0, none⟩)] w fun e w' => ∃ q0 q1 q2 q3 q4 q5 q6 : Int, e = .returned (.agg #[.int .i64 q0, .int .i64 q1, .int .i64 q2, .int .i64 q3, .int .i64 q4, .int .i64 q5, .int .i64 q6]) ∧ Bd 2000 [q0, q1, q2, q3, q4, q5, q6] ∧ (∃ cnt' : Int, cnt ≤ cnt' ∧ cnt' ≤ cnt + 12 ∧ Rd w' R cnt') ∧ w.grownBy w' (some R) := by
  have hlt := hr.lt
  go_enter Try.func55, Try.ntmps55
  go_wp2_with fail
  refine (pick_ok R cnt 5 _ (hr.below (below_alloc _ _)) h0 (by omega) (by omega)).mono ?_
  rintro e w1 ⟨s, rfl, s0, s1, hd1, hg1⟩
  have X1 := hid (CB.gb (CB.new w 26 0 0 0 0 0 0 0) hg1 (by omega))
  have G1 := hid (gb_trans1 (gb_below1 (row := some R) (below_alloc _ _)) hg1)
  have hz1 : w.heap.size < w1.heap.size := X1.out.lt
  have hne : w.heap.size ≠ R := by omega
  clear hg1 hr
  by_cases hs0 : s = 0
  · subst hs0
    go_wp2_with fail
    refine (pick_ok R _ 9 _ hd1 (by omega) (by omega) (by omega)).mono ?_
    rintro e w2 ⟨q, rfl, q0, q1, hd2, hg2⟩
    have hlt2 : R < w2.heap.size := hd2.lt
    have X2 := hid ((X1.out.gb hg2 hne).alloc (.cells #[.int .i64 (q - 2), .int .i64 0, .int .i64 0, .int .i64 0, .int .i64 0, .int .i64 0, .int .i64 0] 26))
    have Y2 := hid (CB.new w2 26 (q - 2) 0 0 0 0 0 0)
    have G2 := hid (gb_trans1 (gb_trans1 G1.out hg2) (gb_below1 (row := some R) (below_alloc w2 (.cells #[.int .i64 (q - 2), .int .i64 0, .int .i64 0, .int .i64 0, .int .i64 0, .int .i64 0, .int .i64 0] 26))))
    have D2 := hid (hd2.below (below_alloc w2 (.cells #[.int .i64 (q - 2), .int .i64 0, .int .i64 0, .int .i64 0, .int .i64 0, .int .i64 0, .int .i64 0] 26)))
    have hsz := hg2.size
    have hny : w2.heap.size ≠ R := by omega
    have hxy : w.heap.size ≠ w2.heap.size := by omega
    have hyx : w2.heap.size ≠ w.heap.size := by omega
    have hyw : w.heap.size ≤ w2.heap.size := by omega
    have HQ := hid (show Bd 2000 [q - 2, 0, 0, 0, 0, 0, 0] by intro x hx; simp at hx; omega)
    clear hg2 hd1 hd2 hsz s1 s0
    go_wp2
    generalize w2.alloc (.cells #[.int .i64 (q - 2), .int .i64 0, .int .i64 0, .int .i64 0, .int .i64 0, .int .i64 0, .int .i64 0] 26) = W at *
    go_loopg [4] 6 (fun gk t wr => ∃ (i : Nat) (m0 m1 m2 m3 m4 m5 m6 : Int), i ≤ 6 ∧ gk = 6 - i ∧ t = .int .i64 i ∧ CB wr 26 w2.heap.size m0 m1 m2 m3 m4 m5 m6 ∧ Bd 2000 [m0, m1, m2, m3, m4, m5, m6] ∧ CB wr 26 w.heap.size 0 0 0 0 0 0 0 ∧ Rd wr R (cnt + 1 + 1 + i) ∧ w.grownBy wr (some R))
    case atStart => exact ⟨0, _, _, _, _, _, _, _, by omega, rfl, rfl, Y2.out, HQ.out, X2.out, by simpa using D2.out, G2.out⟩
    case round =>
      obtain ⟨i, m0, m1, m2, m3, m4, m5, m6, hi, hgk, rfl, hY, hBd, hX, hD, hG⟩ := hrel
      have HGk := hid hgk
      have Y3 := hid hY
      have Q3 := hid hBd
      have X3 := hid hX
      have G3 := hid hG
      clear hgk hY hBd hX hG
      by_cases hit : i < 6
      · go_wp2_with fail
        refine (pick_ok R _ 5 _ hD (by omega) (by omega) (by omega)).mono ?_
        rintro e w4 ⟨p, rfl, p0, p1, hd4, hg4⟩
        have Y4 := hid (Y3.out.gb hg4 hny)
        have X4 := hid (X3.out.gb hg4 hne)
        have G4 := hid (gb_trans1 G3.out hg4)
        have D4 := hid hd4
        obtain ⟨n0, n1, n2, n3, n4, n5, n6, hn, hnb⟩ := Y4.out.setE Q3.out (1 + i) (by omega) (p - 1) (by omega)
        have Y5 := hid hn
        have Q5 := hid hnb
        have X5 := hid (X4.out.other (j := 1 + i) (v := .int .i64 (p - 1)) hxy)
        have G5 := hid (gb_set1 (j := 1 + i) (v := .int .i64 (p - 1)) G4.out hyw)
        have D5 := hid (D4.out.setC Y4.out hny (1 + i) (.int .i64 (p - 1)))
        obtain ⟨v0, hv0, hf0⟩ := Y4.out.cellAt (1 + i) (by omega)
        clear hn hnb hd4 hg4 hD
        go_wp2
        go_roundg (6 - (i + 1))
        case measure => have := HGk.out; omega
        case rel => exact ⟨i + 1, n0, n1, n2, n3, n4, n5, n6, by omega, rfl, by go_num, by with_reducible exact Y5.out, Q5.out, by with_reducible exact X5.out, by have h := D5.out; rwa [show cnt + 1 + 1 + (i : Int) + 1 = cnt + 1 + 1 + ((i + 1 : Nat) : Int) by omega] at h, by with_reducible exact G5.out⟩
      · obtain rfl : i = 6 := by omega
        go_wp2_with fail
        refine (pick_ok R _ 12 _ hD (by omega) (by omega) (by omega)).mono ?_
        rintro e w4 ⟨p, rfl, p0, p1, hd4, hg4⟩
        have Y4 := hid (Y3.out.gb hg4 hny)
        have X4 := hid (X3.out.gb hg4 hne)
        have G4 := hid (gb_trans1 G3.out hg4)
        have D4 := hid hd4
        clear hd4 hg4 hD
        cases hp : (p == 0)
        · obtain ⟨z0, z1, z2, z3, z4, z5, z6⟩ := Y4.out.seven
          have X5 := hid (X4.out.put m0 m1 m2 m3 m4 m5 m6)
          have G5 := hid (gb_put7 G4.out (Nat.le_refl _) m0 m1 m2 m3 m4 m5 m6)
          have D5 := hid (D4.out.put7 X4.out hne m0 m1 m2 m3 m4 m5 m6)
          obtain ⟨y0, y1, y2, y3, y4, y5, y6, g0, g1, g2, g3, g4, g5, g6⟩ := X4.out.cells
          obtain ⟨u0, u1, u2, u3, u4, u5, u6⟩ := X5.out.seven
          go_wp2
          refine bodyPost_ret (v := .agg #[.int .i64 m0, .int .i64 m1, .int .i64 m2, .int .i64 m3, .int .i64 m4, .int .i64 m5, .int .i64 m6]) (by simp [results, Try.results55, go_sem, u0, u1, u2, u3, u4, u5, u6]) rfl ⟨m0, m1, m2, m3, m4, m5, m6, rfl, Q3.out, ⟨_, ?_, ?_, by with_reducible exact D5.out⟩, by with_reducible exact G5.out⟩
          · omega
          · omega
        · go_wp2_with fail
          refine (pick_ok R _ 6 _ D4.out (by omega) (by omega) (by omega)).mono ?_
          rintro e w5 ⟨r, rfl, r0, r1, hd5, hg5⟩
          obtain ⟨k, rfl⟩ := Int.eq_ofNat_of_zero_le r0
          have Y5 := hid (Y4.out.gb hg5 hny)
          have X5 := hid (X4.out.gb hg5 hne)
          have G5 := hid (gb_trans1 G4.out hg5)
          obtain ⟨n0, n1, n2, n3, n4, n5, n6, hn, hnb⟩ := Y5.out.setE Q3.out (1 + k) (by omega) 1001 (by omega)
          have X6 := hid (X5.out.other (j := 1 + k) (v := .int .i64 1001) hxy)
          have G6 := hid (gb_set1 (j := 1 + k) (v := .int .i64 1001) G5.out hyw)
          have D6 := hid (hd5.setC Y5.out hny (1 + k) (.int .i64 1001))
          have Y6 := hid hn
          have Q6 := hid hnb
          obtain ⟨v0, hv0, hf0⟩ := Y5.out.cellAt (1 + k) (by omega)
          clear hn hnb hd5 hg5
          obtain ⟨z0, z1, z2, z3, z4, z5, z6⟩ := Y6.out.seven
          obtain ⟨y0, y1, y2, y3, y4, y5, y6, g0, g1, g2, g3, g4, g5, g6⟩ := X6.out.cells
          have X7 := hid (X6.out.put n0 n1 n2 n3 n4 n5 n6)
          have G7 := hid (gb_put7 G6.out (Nat.le_refl _) n0 n1 n2 n3 n4 n5 n6)
          have D7 := hid (D6.out.put7 X6.out hne n0 n1 n2 n3 n4 n5 n6)
          obtain ⟨u0, u1, u2, u3, u4, u5, u6⟩ := X7.out.seven
          go_wp2
          refine bodyPost_ret (v := .agg #[.int .i64 n0, .int .i64 n1, .int .i64 n2, .int .i64 n3, .int .i64 n4, .int .i64 n5, .int .i64 n6]) (by simp [results, Try.results55, go_sem, u0, u1, u2, u3, u4, u5, u6]) rfl ⟨n0, n1, n2, n3, n4, n5, n6, rfl, Q6.out, ⟨_, ?_, ?_, by with_reducible exact D7.out⟩, by with_reducible exact G7.out⟩
          · omega
          · omega
  · have hsf : (s == 0) = false := by simpa using hs0
    by_cases hs1 : s = 1
    · subst hs1
      go_wp2_with fail
      refine (l3Roots_ok _).mono ?_
      rintro e w2 ⟨v2, rfl, o2, b2⟩
      obtain ⟨b, c2, rfl, hbb, r2⟩ := o2.shape (by rw [roots_len]; omega) (by rw [roots_len]; omega)
      rw [roots_len] at r2
      rw [roots_len]
      have D2 := hid (hd1.below b2)
      have X2 := hid (X1.out.below b2)
      have G2 := hid (gb_trans1 G1.out (gb_below1 (row := some R) b2))
      have R2 := hid r2
      have hRlt : R < w1.heap.size := hd1.lt
      have hbR : b ≠ R := by omega
      clear o2 b2 r2 hd1
      go_wp2_with fail
      refine (pick_ok R _ 72 _ D2.out (by omega) (by omega) (by omega)).mono ?_
      rintro e w3 ⟨q, rfl, q0, q1, hd3, hg3⟩
      obtain ⟨k, rfl⟩ := Int.eq_ofNat_of_zero_le q0
      have hk : k < 72 := by omega
      have X3 := hid (X2.out.gb hg3 hne)
      have G3 := hid (gb_trans1 G2.out hg3)
      have D3 := hid hd3
      obtain ⟨b', z0, z1, z2, z3, z4, z5, z6, hA2, hz, _, c0, c1, c2', c3, c4, c5, c6⟩ := R2.out.at_ k hk
      obtain rfl : b = b' := by injection hA2 with h; injection h
      have hbn : some b ≠ some R := by intro e; injection e with e; exact hbR e
      replace c0 := hg3.cell c0 hbn
      replace c1 := hg3.cell c1 hbn
      replace c2' := hg3.cell c2' hbn
      replace c3 := hg3.cell c3 hbn
      replace c4 := hg3.cell c4 hbn
      replace c5 := hg3.cell c5 hbn
      replace c6 := hg3.cell c6 hbn
      have HBd := hid (show Bd 2000 (roots.getD k []) from fun x hx => by
        have := roots_bd _ (roots_in hk) x hx
        omega)
      rw [hz] at HBd
      have X4 := hid (X3.out.put z0 z1 z2 z3 z4 z5 z6)
      have G4 := hid (gb_put7 G3.out (Nat.le_refl _) z0 z1 z2 z3 z4 z5 z6)
      have D4 := hid (D3.out.put7 X3.out hne z0 z1 z2 z3 z4 z5 z6)
      obtain ⟨y0, y1, y2, y3, y4, y5, y6, g0, g1, g2, g3, g4, g5, g6⟩ := X3.out.cells
      obtain ⟨u0, u1, u2, u3, u4, u5, u6⟩ := X4.out.seven
      clear hg3 hd3 hA2 hz
      go_wp2
      refine bodyPost_ret (v := .agg #[.int .i64 z0, .int .i64 z1, .int .i64 z2, .int .i64 z3, .int .i64 z4, .int .i64 z5, .int .i64 z6]) (by simp [results, Try.results55, go_sem, u0, u1, u2, u3, u4, u5, u6]) rfl ⟨z0, z1, z2, z3, z4, z5, z6, rfl, HBd.out, ⟨cnt + 1 + 1, by omega, by omega, ?_⟩, ?_⟩
      · with_reducible exact D4.out
      · with_reducible exact G4.out
    · have hsf1 : (s == 1) = false := by simpa using hs1
      go_wp2_with fail
      refine (pick_ok R _ 27 _ hd1 (by omega) (by omega) (by omega)).mono ?_
      rintro e w2 ⟨q, rfl, q0, q1, hd2, hg2⟩
      obtain ⟨k, rfl⟩ := Int.eq_ofNat_of_zero_le q0
      have hk : k < 27 := by omega
      have X2 := hid (X1.out.gb hg2 hne)
      have G2 := hid (gb_trans1 G1.out hg2)
      have D2 := hid hd2
      obtain ⟨z0, z1, z2, z3, z4, z5, z6, hz⟩ := seven (lineC_7 k hk)
      have HL := hid (fun W => l1Of_ok k hk W)
      have HBd := hid (show Bd 2000 (lineC k) from fun x hx => by
        have := lines_bd (lineC k) (by simp [lineC, List.getD_eq_getElem?_getD, List.getElem?_eq_getElem (show k < lines.length by rw [lines_len]; exact hk)]) x hx
        omega)
      rw [hz] at HL HBd
      have HZv := hid (show clsV [z0, z1, z2, z3, z4, z5, z6] = .agg #[.int .i64 z0, .int .i64 z1, .int .i64 z2, .int .i64 z3, .int .i64 z4, .int .i64 z5, .int .i64 z6] from rfl)
      clear hg2 hd2 hz
      go_wp2_with fail
      refine (HL.out _).mono ?_
      rintro e w3 ⟨rfl, b3⟩
      rw [HZv.out]
      have X3 := hid (X2.out.below b3)
      have G3 := hid (gb_trans1 G2.out (gb_below1 (row := some R) b3))
      have D3 := hid (D2.out.below b3)
      have X4 := hid (X3.out.put z0 z1 z2 z3 z4 z5 z6)
      have G4 := hid (gb_put7 G3.out (Nat.le_refl _) z0 z1 z2 z3 z4 z5 z6)
      have D4 := hid (D3.out.put7 X3.out hne z0 z1 z2 z3 z4 z5 z6)
      obtain ⟨y0, y1, y2, y3, y4, y5, y6, g0, g1, g2, g3, g4, g5, g6⟩ := X3.out.cells
      obtain ⟨u0, u1, u2, u3, u4, u5, u6⟩ := X4.out.seven
      clear b3
      go_wp2
      refine bodyPost_ret (v := .agg #[.int .i64 z0, .int .i64 z1, .int .i64 z2, .int .i64 z3, .int .i64 z4, .int .i64 z5, .int .i64 z6]) (by simp [results, Try.results55, go_sem, u0, u1, u2, u3, u4, u5, u6]) rfl ⟨z0, z1, z2, z3, z4, z5, z6, rfl, HBd.out, ⟨cnt + 1 + 1, by omega, by omega, ?_⟩, ?_⟩
      · with_reducible exact D4.out
      · with_reducible exact G4.out

set_option maxRecDepth 100000 in
set_option maxHeartbeats 8000000 in
theorem l91Root_ok (R : Nat) (cnt : Int) (w : World) (hr : Rd w R cnt) (h0 : 0 ≤ cnt) (h1 : cnt ≤ 800000) :
    Calls Try.prog 52 #[.pointer (some ⟨R, 0, none⟩)] w fun e w' => ∃ q0 q1 q2 q3 q4 q5 q6 : Int, e = .returned (.agg #[.int .i64 q0, .int .i64 q1, .int .i64 q2, .int .i64 q3, .int .i64 q4, .int .i64 q5, .int .i64 q6]) ∧ Bd 2000 [q0, q1, q2, q3, q4, q5, q6] ∧ (∃ cnt' : Int, cnt ≤ cnt' ∧ cnt' ≤ cnt + 14 ∧ Rd w' R cnt') ∧ w.grownBy w' (some R) := by
  have hlt := hr.lt
  go_enter Try.func52, Try.ntmps52
  go_wp2_with fail
  refine (pick_ok R cnt 8 _ (hr.below (below_alloc _ _)) h0 (by omega) (by omega)).mono ?_
  rintro e w1 ⟨s, rfl, s0, s1, hd1, hg1⟩
  have X1 := hid (CB.gb (CB.new w 26 0 0 0 0 0 0 0) hg1 (by omega))
  have G1 := hid (gb_trans1 (gb_below1 (row := some R) (below_alloc _ _)) hg1)
  have hz1 : w.heap.size < w1.heap.size := X1.out.lt
  have hne : w.heap.size ≠ R := by omega
  clear hg1 hr
  cases hs0 : (s == 0)
  · go_wp2_with fail
    refine (l3Roots_ok _).mono ?_
    rintro e w2 ⟨v2, rfl, o2, b2⟩
    obtain ⟨b, c2, rfl, hbb, r2⟩ := o2.shape (by rw [roots_len]; omega) (by rw [roots_len]; omega)
    rw [roots_len] at r2
    rw [roots_len]
    have D2 := hid (hd1.below b2)
    have X2 := hid (X1.out.below b2)
    have G2 := hid (gb_trans1 G1.out (gb_below1 (row := some R) b2))
    have R2 := hid r2
    have hRlt : R < w1.heap.size := hd1.lt
    have hbR : b ≠ R := by omega
    clear o2 b2 r2 hd1
    go_wp2_with fail
    refine (pick_ok R _ 72 _ D2.out (by omega) (by omega) (by omega)).mono ?_
    rintro e w3 ⟨q, rfl, q0, q1, hd3, hg3⟩
    obtain ⟨k, rfl⟩ := Int.eq_ofNat_of_zero_le q0
    have hk : k < 72 := by omega
    have X3 := hid (X2.out.gb hg3 hne)
    have G3 := hid (gb_trans1 G2.out hg3)
    have D3 := hid hd3
    obtain ⟨b', z0, z1, z2, z3, z4, z5, z6, hA2, hz, _, c0, c1, c2', c3, c4, c5, c6⟩ := R2.out.at_ k hk
    obtain rfl : b = b' := by injection hA2 with h; injection h
    have hbn : some b ≠ some R := by intro e; injection e with e; exact hbR e
    replace c0 := hg3.cell c0 hbn
    replace c1 := hg3.cell c1 hbn
    replace c2' := hg3.cell c2' hbn
    replace c3 := hg3.cell c3 hbn
    replace c4 := hg3.cell c4 hbn
    replace c5 := hg3.cell c5 hbn
    replace c6 := hg3.cell c6 hbn
    have HBd := hid (show Bd 2000 (roots.getD k []) from fun x hx => by
      have := roots_bd _ (roots_in hk) x hx
      omega)
    rw [hz] at HBd
    have X4 := hid (X3.out.put z0 z1 z2 z3 z4 z5 z6)
    have G4 := hid (gb_put7 G3.out (Nat.le_refl _) z0 z1 z2 z3 z4 z5 z6)
    have D4 := hid (D3.out.put7 X3.out hne z0 z1 z2 z3 z4 z5 z6)
    obtain ⟨y0, y1, y2, y3, y4, y5, y6, g0, g1, g2, g3, g4, g5, g6⟩ := X3.out.cells
    obtain ⟨u0, u1, u2, u3, u4, u5, u6⟩ := X4.out.seven
    clear hg3 hd3 hA2 hz
    go_wp2
    refine bodyPost_ret (v := .agg #[.int .i64 z0, .int .i64 z1, .int .i64 z2, .int .i64 z3, .int .i64 z4, .int .i64 z5, .int .i64 z6]) (by simp [results, Try.results52, go_sem, u0, u1, u2, u3, u4, u5, u6]) rfl ⟨z0, z1, z2, z3, z4, z5, z6, rfl, HBd.out, ⟨cnt + 1 + 1, by omega, by omega, ?_⟩, ?_⟩
    · with_reducible exact D4.out
    · with_reducible exact G4.out
  · go_wp2_with fail
    refine (l91Class_ok R _ _ hd1 (by omega) (by omega)).mono ?_
    rintro e w2 ⟨z0, z1, z2, z3, z4, z5, z6, rfl, hbd, ⟨cnt2, k0, k1, hd2⟩, hg2⟩
    have X3 := hid (X1.out.gb hg2 hne)
    have G3 := hid (gb_trans1 G1.out hg2)
    have D3 := hid hd2
    have HBd := hid hbd
    have X4 := hid (X3.out.put z0 z1 z2 z3 z4 z5 z6)
    have G4 := hid (gb_put7 G3.out (Nat.le_refl _) z0 z1 z2 z3 z4 z5 z6)
    have D4 := hid (D3.out.put7 X3.out hne z0 z1 z2 z3 z4 z5 z6)
    obtain ⟨y0, y1, y2, y3, y4, y5, y6, g0, g1, g2, g3, g4, g5, g6⟩ := X3.out.cells
    obtain ⟨u0, u1, u2, u3, u4, u5, u6⟩ := X4.out.seven
    clear hg2 hd2 hbd
    go_wp2
    refine bodyPost_ret (v := .agg #[.int .i64 z0, .int .i64 z1, .int .i64 z2, .int .i64 z3, .int .i64 z4, .int .i64 z5, .int .i64 z6]) (by simp [results, Try.results52, go_sem, u0, u1, u2, u3, u4, u5, u6]) rfl ⟨z0, z1, z2, z3, z4, z5, z6, rfl, HBd.out, ⟨cnt2, by omega, by omega, ?_⟩, ?_⟩
    · with_reducible exact D4.out
    · with_reducible exact G4.out

set_option maxHeartbeats 1000000 in
theorem DrawRootIn_ok (A : Option Addr) (n c : Nat) (xs : List Int) (w : World) (hr : RB w A n c xs) :
    Calls Try.prog 25 #[.slice A n c] w fun e w' => ∃ q0 q1 q2 q3 q4 q5 q6 : Int, e = .returned (.agg #[.int .i64 q0, .int .i64 q1, .int .i64 q2, .int .i64 q3, .int .i64 q4, .int .i64 q5, .int .i64 q6]) ∧ Bd 2000 [q0, q1, q2, q3, q4, q5, q6] ∧ Below w.heap.size w w' := by
  have HR0 := hid (hr.below (below_alloc w (.cells #[.int .i64 0, .int .i64 0, .int .i64 0, .int .i64 0, .int .i64 0, .int .i64 0, .int .i64 0] 26)))
  have X0 := hid (CB.new w 26 0 0 0 0 0 0 0)
  have B0 := hid (below_alloc w (.cells #[.int .i64 0, .int .i64 0, .int .i64 0, .int .i64 0, .int .i64 0, .int .i64 0, .int .i64 0] 26))
  clear hr
  go_enter Try.func25, Try.ntmps25
  go_wp2_with fail
  refine (l6Open_ok A n c xs _ HR0.out).mono ?_
  rintro e w1 ⟨R, rfl, hR, hd, hb⟩
  have B1 := hid (below_trans B0.out hb)
  have X1 := hid (X0.out.below hb)
  have hlt : w.heap.size < R := by rw [hR]; simp
  clear hR hb
  go_wp2_with fail
  refine (l91Root_ok R 0 w1 hd (by omega) (by omega)).mono ?_
  rintro e w2 ⟨z0, z1, z2, z3, z4, z5, z6, rfl, hbd, _, hg⟩
  have HBd := hid hbd
  have B2 := hid (B1.out.grown hg B1.out.size (fun k hk => by cases hk; omega))
  have X2 := hid (X1.out.gb hg (by omega))
  have X3 := hid (X2.out.put z0 z1 z2 z3 z4 z5 z6)
  have B3 := hid (below_put7 B2.out (Nat.le_refl _) z0 z1 z2 z3 z4 z5 z6)
  obtain ⟨y0, y1, y2, y3, y4, y5, y6, g0, g1, g2, g3, g4, g5, g6⟩ := X2.out.cells
  obtain ⟨u0, u1, u2, u3, u4, u5, u6⟩ := X3.out.seven
  clear hg hd hbd
  go_wp2
  refine bodyPost_ret (v := .agg #[.int .i64 z0, .int .i64 z1, .int .i64 z2, .int .i64 z3, .int .i64 z4, .int .i64 z5, .int .i64 z6]) (by simp [results, Try.results25, go_sem, u0, u1, u2, u3, u4, u5, u6]) rfl ⟨z0, z1, z2, z3, z4, z5, z6, rfl, HBd.out, ?_⟩
  with_reducible exact B3.out

end Go.Proofs.Ytbodpfgbelaopaa
