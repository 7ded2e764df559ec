/-
  Contracts: the reference's list of roots.
-/
import Derived.Test.YtcffaeepanhpfaaLq
import Derived.Test.YtcffaeepanhpfaaL1
import Derived.Test.YtcffaeepanhpfaaS1
import Derived.Test.YtcffaeepanhpfaaEc
namespace Go.Proofs.Ytcffaeepanhpfaa
open Go.RowKit
set_option linter.unusedVariables false
set_option linter.unusedSimpArgs false

theorem diff_bd : ∀ i, i < 27 → ∀ k, k < 27 → ∀ x ∈ diffC i k, -1000000 ≤ x ∧ x ≤ 1000000 := by decide +kernel
theorem diff_7 : ∀ i, i < 27 → ∀ k, k < 27 → (diffC i k).length = 7 := by decide +kernel
theorem lineC_7 : ∀ i, i < 27 → (lineC i).length = 7 := by decide +kernel
theorem lineC_bd : ∀ i, i < 27 → ∀ x ∈ lineC i, -1000000 ≤ x ∧ x ≤ 1000000 := by decide +kernel
theorem putC_len (a : List Int) : ∀ cs : List (List Int), (putC a cs).length = cs.length + 1
  | [] => rfl
  | b :: bs => by
    rw [putC]
    split
    · rw [List.length_cons, putC_len a bs, List.length_cons]
    · rfl
theorem stepC_len (out : List (List Int)) (d : List Int) : (stepC out d).length ≤ out.length + 1 := by
  rw [stepC]
  split
  · omega
  · split
    · omega
    · rw [putC_len]; omega
theorem foundK_len (out : List (List Int)) (i k : Nat) : (foundK out i k).length ≤ out.length + k := by
  induction k with
  | zero => exact Nat.le_refl _
  | succ k ih => rw [foundK]; have := stepC_len (foundK out i k) (diffC i k); omega
theorem foundI_len (i : Nat) : (foundI i).length ≤ i * 27 := by
  induction i with
  | zero => exact Nat.le_refl _
  | succ i ih => rw [foundI]; have := foundK_len (foundI i) i 27; omega
theorem OC.rc2 {w : World} {base : Nat} {v : Value} {cs : List (List Int)} (h : OC w base v cs) (hv : v ≠ .slice none 0 0) (hn : cs.length ≤ 100000) :
    ∃ g c, v = .slice (some ⟨g, 0, none⟩) cs.length c ∧ cs.length ≤ c ∧ RC w (some ⟨g, 0, none⟩) cs.length cs := by
  rcases h.2.2 with ⟨h1, _⟩ | ⟨g, cap, cur, h1, _, _, h4, _⟩
  · exact absurd h1 hv
  · obtain ⟨A, c, h5, h6⟩ := h.rc hn
    rw [h1] at h5
    injection h5 with e1 e2 e3
    exact ⟨g, cap, h1, h4, e1 ▸ h6⟩
theorem any_take {cs : List (List Int)} {d : List Int} {j : Nat} (h : j < cs.length) : (cs.take (j + 1)).any (fun x => x == d) = ((cs.take j).any (fun x => x == d) || (cs.getD j [] == d)) := by
  rw [List.take_succ_eq_append_getElem h, List.any_append]
  simp [List.getD_eq_getElem?_getD, List.getElem?_eq_getElem h]

set_option maxRecDepth 100000 in
set_option maxHeartbeats 8000000 in
theorem l3Roots_ok (w : World) :
    Calls Try.prog 43 #[] w fun e w' => ∃ v, e = .returned v ∧ OC w' w.heap.size v roots ∧ Below w.heap.size w w' := by
  go_enter Try.func43, Try.ntmps43
  go_wp2
  go_loopg [1, 2] 27 (fun gk v t wr => ∃ i : Nat, i ≤ 27 ∧ gk = 27 - i ∧ t = .int .i64 i ∧ OC wr w.heap.size v (foundI i) ∧ v ≠ .slice none 0 0 ∧ Below w.heap.size w wr)
  case atStart => exact ⟨0, by omega, rfl, rfl, OC.lit w, by simp, below_alloc _ _⟩
  case round =>
    obtain ⟨i, hi, hgk, rfl, ho, hv, hb⟩ := hrel
    obtain ⟨wo, rfl⟩ : ∃ wo : World, wo = wr := ⟨_, rfl⟩
    have HO := hid ho
    have HV := hid hv
    have HB := hid hb
    have HGk := hid hgk
    clear ho hv hb hgk
    by_cases hit : i < 27
    · have hit2 : decide ((i : Int) < 27) = true := by simpa using (show (i : Int) < 27 by omega)
      go_wp2
      go_loopg [1, 3] 27 (fun gk v t wr => ∃ k : Nat, k ≤ 27 ∧ gk = 27 - k ∧ t = .int .i64 k ∧ OC wr w.heap.size v (foundK (foundI i) i k) ∧ v ≠ .slice none 0 0 ∧ Below w.heap.size w wr)
      case atStart => exact ⟨0, by omega, rfl, rfl, HO.out, HV.out, HB.out⟩
      case round =>
        obtain ⟨k, hk, hgc, rfl, ho2, hv2, hb2⟩ := hrel
        have HO2 := hid ho2
        have HV2 := hid hv2
        have HB2 := hid hb2
        have HGc := hid hgc
        clear ho2 hv2 hb2 hgc
        by_cases hkt : k < 27
        · have hkt2 : decide ((k : Int) < 27) = true := by simpa using (show (k : Int) < 27 by omega)
          have HLn := hid (show (foundK (foundI i) i k).length ≤ 1000 by have := foundK_len (foundI i) i k; have := foundI_len i; omega)
          have HSt := hid (show foundK (foundI i) i (k + 1) = stepC (foundK (foundI i) i k) (diffC i k) from rfl)
          obtain ⟨a0, a1, a2, a3, a4, a5, a6, ha⟩ := seven (lineC_7 i hit)
          obtain ⟨b0, b1, b2, b3, b4, b5, b6, hbb⟩ := seven (lineC_7 k hkt)
          obtain ⟨d0, d1, d2, d3, d4, d5, d6, hd⟩ := seven (diff_7 i hit k hkt)
          have HAi := hid (fun W => l1Of_ok i hit W)
          have HBi := hid (fun W => l1Of_ok k hkt W)
          rw [ha] at HAi
          rw [hbb] at HBi
          have h1 := lineC_bd i hit
          have h2 := lineC_bd k hkt
          have h3 := diff_bd i hit k hkt
          rw [ha] at h1
          rw [hbb] at h2
          rw [hd] at h3
          have hdd := hd
          rw [diffC, ha, hbb] at hdd
          have HSm := hid (fun W => l1Sum_ok a0 a1 a2 a3 a4 a5 a6 (-1) b0 b1 b2 b3 b4 b5 b6 W h1 (by omega) h2)
          rw [hdd] at HSm
          have HPr := hid (fun W => l1Product_ok d0 d1 d2 d3 d4 d5 d6 d0 d1 d2 d3 d4 d5 d6 W h3 h3)
          rw [hd] at HSt
          have HAv := hid (show clsV [a0, a1, a2, a3, a4, a5, a6] = .agg #[.int .i64 a0, .int .i64 a1, .int .i64 a2, .int .i64 a3, .int .i64 a4, .int .i64 a5, .int .i64 a6] from rfl)
          have HBv := hid (show clsV [b0, b1, b2, b3, b4, b5, b6] = .agg #[.int .i64 b0, .int .i64 b1, .int .i64 b2, .int .i64 b3, .int .i64 b4, .int .i64 b5, .int .i64 b6] from rfl)
          have HDv := hid (show clsV [d0, d1, d2, d3, d4, d5, d6] = .agg #[.int .i64 d0, .int .i64 d1, .int .i64 d2, .int .i64 d3, .int .i64 d4, .int .i64 d5, .int .i64 d6] from rfl)
          generalize foundK (foundI i) i k = out at *
          clear ha hbb hd h1 h2 h3 hdd
          go_wp2_with fail
          refine (HAi.out _).mono ?_
          rintro e w1 ⟨rfl, e1⟩
          rw [HAv.out]
          have B1 := hid (below_trans HB2.out e1)
          have O1 := hid (HO2.out.below e1)
          clear e1
          go_wp2_with fail
          refine (HBi.out _).mono ?_
          rintro e w2 ⟨rfl, e2⟩
          rw [HBv.out]
          have B2 := hid (below_trans B1.out e2)
          have O2 := hid (O1.out.below e2)
          clear e2
          go_wp2_with fail
          refine (HSm.out _).mono ?_
          rintro e w3 ⟨rfl, e3⟩
          rw [HDv.out]
          have B3 := hid (below_trans (below_trans B2.out e3) (below_alloc w3 (.cells #[.int .i64 d0, .int .i64 d1, .int .i64 d2, .int .i64 d3, .int .i64 d4, .int .i64 d5, .int .i64 d6] 38)))
          have O3 := hid ((O2.out.below e3).alloc (.cells #[.int .i64 d0, .int .i64 d1, .int .i64 d2, .int .i64 d3, .int .i64 d4, .int .i64 d5, .int .i64 d6] 38))
          have X3 := hid (CB.new w3 38 d0 d1 d2 d3 d4 d5 d6)
          clear e3
          obtain ⟨x0, x1, x2, x3, x4, x5, x6⟩ := X3.out.seven
          go_wp2_with fail
          refine (HPr.out _).mono ?_
          rintro e w4 ⟨rfl, e4⟩
          have B4 := hid (below_trans B3.out e4)
          have O4 := hid (O3.out.below e4)
          have X4 := hid (X3.out.below e4)
          clear e4 x0 x1 x2 x3 x4 x5 x6
          cases hp : (prd [d0, d1, d2, d3, d4, d5, d6] [d0, d1, d2, d3, d4, d5, d6] != -2)
          · have HSt2 := hid (show stepC out [d0, d1, d2, d3, d4, d5, d6] = if out.any (fun x => x == [d0, d1, d2, d3, d4, d5, d6]) then out else putC [d0, d1, d2, d3, d4, d5, d6] out by rw [stepC, hp]; rfl)
            obtain ⟨g, c, hv3, hlc, hrc⟩ := O4.out.rc2 HV2.out (by have := HLn.out; omega)
            subst hv3
            have R4 := hid hrc
            have HLc := hid hlc
            have hn := HLn.out
            clear hrc hlc
            generalize hnn : out.length = n at *
            have HNn := hid hnn
            clear hnn
            generalize prd [d0, d1, d2, d3, d4, d5, d6] [d0, d1, d2, d3, d4, d5, d6] = pd at *
            have HEq := hid (fun (z0 z1 z2 z3 z4 z5 z6 : Int) => run_eqlCls z0 z1 z2 z3 z4 z5 z6 d0 d1 d2 d3 d4 d5 d6)
            have hgd := guardCls
            go_wp2
            go_loopg [5, 6] n (fun gk s t wr => ∃ j m : Nat, j ≤ n ∧ gk = n - j ∧ t = .int .i64 j ∧ s = .bool ((out.take j).any (fun x => x == [d0, d1, d2, d3, d4, d5, d6])) ∧ wr = w4.drewN m)
            case atStart => exact ⟨0, 0, by omega, rfl, rfl, rfl, rfl⟩
            case round =>
              obtain ⟨j, m, hj, hgj, rfl, rfl, rfl⟩ := hrel
              have HGj := hid hgj
              clear hgj
              by_cases hjt : j < n
              · obtain ⟨z0, z1, z2, z3, z4, z5, z6, hz⟩ := seven (R4.out.2.2.1 (out.getD j []) (by simp [List.getD_eq_getElem?_getD, List.getElem?_eq_getElem (show j < out.length by have := HNn.out; omega)]))
                have HTk := hid (show (out.take (j + 1)).any (fun x => x == [d0, d1, d2, d3, d4, d5, d6]) = ((out.take j).any (fun x => x == [d0, d1, d2, d3, d4, d5, d6]) || ([z0, z1, z2, z3, z4, z5, z6] == [d0, d1, d2, d3, d4, d5, d6])) by rw [any_take (show j < out.length by have := HNn.out; omega), hz])
                obtain ⟨b', hb1, hb2⟩ := R4.out.2.2.2
                obtain rfl : g = b' := by
                  rcases hb1 with h | h
                  · omega
                  · injection h with h; injection h
                have c0 := hb2 j 0 hjt (by omega)
                have c1 := hb2 j 1 hjt (by omega)
                have c2 := hb2 j 2 hjt (by omega)
                have c3 := hb2 j 3 hjt (by omega)
                have c4 := hb2 j 4 hjt (by omega)
                have c5 := hb2 j 5 hjt (by omega)
                have c6 := hb2 j 6 hjt (by omega)
                rw [hz] at c0 c1 c2 c3 c4 c5 c6
                simp only [List.getD_cons_zero, List.getD_cons_succ, Nat.add_zero] at c0 c1 c2 c3 c4 c5 c6
                obtain ⟨x0, x1, x2, x3, x4, x5, x6⟩ := X4.out.seven
                have heq := HEq.out z0 z1 z2 z3 z4 z5 z6
                clear hb1 hb2 hz
                generalize ([z0, z1, z2, z3, z4, z5, z6] == [d0, d1, d2, d3, d4, d5, d6]) = q at *
                generalize (out.take j).any (fun x => x == [d0, d1, d2, d3, d4, d5, d6]) = kn at *
                cases kn
                · go_wp2
                  go_quiet (fail)
                  go_wp2
                  go_roundg (n - (j + 1))
                  case measure => have := HGj.out; omega
                  case rel => exact ⟨j + 1, m + nq, by omega, rfl, by go_num, by rw [HTk.out]; rfl, rfl⟩
                · go_wp2
                  go_quiet (fail)
                  go_wp2
                  go_roundg (n - (j + 1))
                  case measure => have := HGj.out; omega
                  case rel => exact ⟨j + 1, m + nq, by omega, rfl, by go_num, by rw [HTk.out]; rfl, rfl⟩
              · obtain rfl : j = n := by omega
                have HAll := hid (show out.take j = out by rw [← HNn.out, List.take_length])
                rw [HAll.out]
                cases hq : out.any (fun x => x == [d0, d1, d2, d3, d4, d5, d6])
                · have HF := hid (show foundK (foundI i) i (k + 1) = putC [d0, d1, d2, d3, d4, d5, d6] out by rw [HSt.out, HSt2.out, hq]; rfl)
                  obtain ⟨x0, x1, x2, x3, x4, x5, x6⟩ := X4.out.seven
                  clear hq
                  go_wp2_with fail
                  refine (l3Put_ok g j c out d0 d1 d2 d3 d4 d5 d6 _ (R4.out.drewN m) HLc.out (by omega)).mono ?_
                  rintro e w9 ⟨v9, rfl, ho9, hv9, hb9⟩
                  have B9 := hid (below_trans (below_drewN B4.out m) hb9)
                  have O9 := hid (OC.mono ho9 (show w.heap.size ≤ (w4.drewN m).heap.size from B4.out.size))
                  have V9 := hid hv9
                  clear ho9 hv9 hb9 x0 x1 x2 x3 x4 x5 x6
                  go_wp2
                  go_roundg (27 - (k + 1))
                  case measure => have := HGc.out; omega
                  case rel => exact ⟨k + 1, by omega, rfl, by go_num, by rw [HF.out]; exact O9.out, V9.out, B9.out⟩
                · have HF := hid (show foundK (foundI i) i (k + 1) = out by rw [HSt.out, HSt2.out, hq]; rfl)
                  clear hq
                  go_wp2
                  go_roundg (27 - (k + 1))
                  case measure => have := HGc.out; omega
                  case rel => exact ⟨k + 1, by omega, rfl, by go_num, by rw [HF.out]; exact O4.out.drewN m, HV2.out, below_drewN B4.out m⟩
          · have HSt2 := hid (show stepC out [d0, d1, d2, d3, d4, d5, d6] = out by rw [stepC, hp]; rfl)
            generalize prd [d0, d1, d2, d3, d4, d5, d6] [d0, d1, d2, d3, d4, d5, d6] = pd at *
            go_wp2
            go_roundg (27 - (k + 1))
            case measure => have := HGc.out; omega
            case rel => exact ⟨k + 1, by omega, rfl, by go_num, by rw [HSt.out, HSt2.out]; exact O4.out, HV2.out, B4.out⟩
        · obtain rfl : k = 27 := by omega
          go_wp2
          go_roundg (27 - (i + 1))
          case measure => have := HGk.out; omega
          case rel => exact ⟨i + 1, by omega, rfl, by go_num, HO2.out, HV2.out, HB2.out⟩
    · obtain rfl : i = 27 := by omega
      rw [foundI_eq] at HO
      go_wp2
      go_ret
      exact ⟨_, rfl, HO.out, HB.out⟩

end Go.Proofs.Ytcffaeepanhpfaa
