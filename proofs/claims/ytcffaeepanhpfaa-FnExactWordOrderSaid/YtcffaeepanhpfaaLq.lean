/-
  Contracts: the reference puts a class into a sorted list.
-/
import Derived.Test.YtcffaeepanhpfaaLp
namespace Go.Proofs.Ytcffaeepanhpfaa
open Go.RowKit
set_option linter.unusedVariables false
set_option linter.unusedSimpArgs false

theorem RC.tail {w : World} {b n c : Nat} {cs : List (List Int)} (h : RC w (some ⟨b, 0, none⟩) n cs) (k : Nat) (hk : k ≤ n) (hc : n ≤ c) :
    ∃ ad : Addr, (if c = k then some ⟨b, 0, none⟩ else some ⟨b, k * 7, none⟩ : Option Addr) = some ad ∧ CCat w ad (cs.drop k) := by
  by_cases hck : c = k
  · refine ⟨⟨b, 0, none⟩, if_pos hck, fun j i hj _ => ?_⟩
    rw [List.length_drop, h.1] at hj
    omega
  · exact ⟨_, if_neg hck, h.drop k⟩
theorem CB.gbn {w w' : World} {T : TypeId} {k : Nat} {row : Option Nat} {a0 a1 a2 a3 a4 a5 a6 : Int} (h : CB w T k a0 a1 a2 a3 a4 a5 a6) (hb : w.grownBy w' row) (hR : some k ≠ row) : CB w' T k a0 a1 a2 a3 a4 a5 a6 := by
  unfold CB; rw [hb.block k h.lt hR]; exact h

set_option maxRecDepth 100000 in
set_option maxHeartbeats 8000000 in
theorem l3Put_ok (b n c : Nat) (cs : List (List Int)) (y0 y1 y2 y3 y4 y5 y6 : Int) (w : World) (hr : RC w (some ⟨b, 0, none⟩) n cs) (hc : n ≤ c) (hn : n < 90000) :
    Calls Try.prog 62 #[.slice (some ⟨b, 0, none⟩) n c, .agg #[.int .i64 y0, .int .i64 y1, .int .i64 y2, .int .i64 y3, .int .i64 y4, .int .i64 y5, .int .i64 y6]] w fun e w' => ∃ v, e = .returned v ∧ OC w' w.heap.size v (putC [y0, y1, y2, y3, y4, y5, y6] cs) ∧ v ≠ .slice none 0 0 ∧ Below w.heap.size w w' := by
  have HR := hid (hr.below (below_alloc w (.cells #[.int .i64 y0, .int .i64 y1, .int .i64 y2, .int .i64 y3, .int .i64 y4, .int .i64 y5, .int .i64 y6] 38)))
  have HX := hid (CB.new w 38 y0 y1 y2 y3 y4 y5 y6)
  have HB := hid (below_alloc w (.cells #[.int .i64 y0, .int .i64 y1, .int .i64 y2, .int .i64 y3, .int .i64 y4, .int .i64 y5, .int .i64 y6] 38))
  clear hr
  go_enter Try.func62, Try.ntmps62
  go_wp2
  generalize (w.alloc (.cells #[.int .i64 y0, .int .i64 y1, .int .i64 y2, .int .i64 y3, .int .i64 y4, .int .i64 y5, .int .i64 y6] 38)) = W at *
  go_loopg [5] n (fun g t wr => ∃ k : Nat, k ≤ n ∧ g = n - k ∧ t = .int .i64 k ∧ (∀ j, j < k → lessC (cs.getD j []) [y0, y1, y2, y3, y4, y5, y6] = true) ∧ Below W.heap.size W wr)
  case atStart => exact ⟨0, by omega, rfl, rfl, fun j hj => by omega, Below.refl _ _⟩
  case round =>
    obtain ⟨k, hk, hgk, rfl, hle, hb⟩ := hrel
    have HGk := hid hgk
    have HLe := hid hle
    have HBk := hid hb
    have XE := ext7 (HX.out.below hb)
    obtain ⟨x0, x1, x2, x3, x4, x5, x6⟩ := XE
    clear hgk hle hb
    by_cases hlt : k < n
    · obtain ⟨z0, z1, z2, z3, z4, z5, z6, hz⟩ := seven (HR.out.2.2.1 (cs.getD k []) (by simp [List.getD_eq_getElem?_getD, List.getElem?_eq_getElem (show k < cs.length by have := HR.out.1; omega)]))
      have HZ := hid hz
      obtain ⟨b', hb1, hb2⟩ := (HR.out.below HBk.out).2.2.2
      obtain rfl : b = b' := by
        rcases hb1 with h | h
        · omega
        · injection h with h; injection h
      have c0 := ext_cell (hb2 k 0 hlt (by omega))
      have c1 := ext_cell (hb2 k 1 hlt (by omega))
      have c2 := ext_cell (hb2 k 2 hlt (by omega))
      have c3 := ext_cell (hb2 k 3 hlt (by omega))
      have c4 := ext_cell (hb2 k 4 hlt (by omega))
      have c5 := ext_cell (hb2 k 5 hlt (by omega))
      have c6 := ext_cell (hb2 k 6 hlt (by omega))
      rw [hz] at c0 c1 c2 c3 c4 c5 c6
      simp only [List.getD_cons_zero, List.getD_cons_succ, Nat.add_zero] at c0 c1 c2 c3 c4 c5 c6
      have HL := hid (fun W => l3Less_ok z0 z1 z2 z3 z4 z5 z6 y0 y1 y2 y3 y4 y5 y6 W)
      clear hb1 hb2 hz
      cases hq : lessC [z0, z1, z2, z3, z4, z5, z6] [y0, y1, y2, y3, y4, y5, y6]
      · rw [hq] at HL
        have HPut := hid (show putC [y0, y1, y2, y3, y4, y5, y6] cs = cs.take k ++ [[y0, y1, y2, y3, y4, y5, y6]] ++ cs.drop k from putC_cut _ cs k (by have := HR.out.1; omega) HLe.out (.inr (by rw [HZ.out]; exact hq)))
        clear hq
        go_wp2
        refine wp_region_ext (by kernel_rfl) (by kernel_rfl) ?_
        repeat (go_big_quiet_step ((go_at_call 68; exact ext_call (HL.out _))))
        refine wpQuiet_nil ?_
        rintro w5 ⟨⟨w6, b5⟩, hw⟩
        have hw' : w5 = w6 := hw
        clear hw
        subst hw'
        have B5 := hid (below_trans HBk.out b5)
        clear b5 c0 c1 c2 c3 c4 c5 c6
        have X5 := hid (HX.out.below B5.out)
        have R5 := hid (HR.out.below B5.out)
        have C5 := hid (below_trans HB.out B5.out)
        clear x0 x1 x2 x3 x4 x5 x6
        obtain ⟨x0, x1, x2, x3, x4, x5, x6⟩ := X5.out.seven
        have hz5 : w.heap.size < w5.heap.size := X5.out.lt
        have hl7 := hid (show ∀ d ∈ cs.take k, d.length = 7 from fun d hd => HR.out.2.2.1 d (List.mem_of_mem_take hd))
        have hd7 := hid (show ∀ d ∈ cs.drop k, d.length = 7 from fun d hd => HR.out.2.2.1 d (List.mem_of_mem_drop hd))
        have hlt := hid (show (cs.take k).length = k by rw [List.length_take]; have := HR.out.1; omega)
        have hld := hid (show (cs.drop k).length = n - k by rw [List.length_drop]; have := HR.out.1; omega)
        obtain ⟨ad, had, hcat⟩ := R5.out.tail k hk hc
        have HAd := hid had
        have HCat := hid hcat
        clear had hcat
        go_wp2
        have hkc : k ≤ c := by omega
        have BE := hid (below_drewN (below_alloc w5 (.cells #[] 38)) 1)
        have BEC := hid (below_drewN (below_trans (below_alloc w5 (.cells #[] 38)) (below_alloc _ (.cells #[.int .i64 y0, .int .i64 y1, .int .i64 y2, .int .i64 y3, .int .i64 y4, .int .i64 y5, .int .i64 y6] 38))) 1)
        have BCE := hid (below_drewN (below_trans (below_alloc w5 (.cells #[.int .i64 y0, .int .i64 y1, .int .i64 y2, .int .i64 y3, .int .i64 y4, .int .i64 y5, .int .i64 y6] 38)) (below_alloc _ (.cells #[] 38))) 1)
        have OE := hid (show OC (w5.alloc (.cells #[] 38)).drew w5.heap.size (.slice (some ⟨w5.heap.size, 0, none⟩) 0 0) [] from OC.lit w5)
        have OEC := hid (show OC ((w5.alloc (.cells #[] 38)).alloc (.cells #[.int .i64 y0, .int .i64 y1, .int .i64 y2, .int .i64 y3, .int .i64 y4, .int .i64 y5, .int .i64 y6] 38)).drew w5.heap.size (.slice (some ⟨w5.heap.size, 0, none⟩) 0 0) [] from (OC.lit w5).alloc _)
        have OCE := hid (show OC ((w5.alloc (.cells #[.int .i64 y0, .int .i64 y1, .int .i64 y2, .int .i64 y3, .int .i64 y4, .int .i64 y5, .int .i64 y6] 38)).alloc (.cells #[] 38)).drew w5.heap.size (.slice (some ⟨w5.heap.size + 1, 0, none⟩) 0 0) [] by have h := OC.lit (w5.alloc (.cells #[.int .i64 y0, .int .i64 y1, .int .i64 y2, .int .i64 y3, .int .i64 y4, .int .i64 y5, .int .i64 y6] 38)); rw [show (w5.alloc (.cells #[.int .i64 y0, .int .i64 y1, .int .i64 y2, .int .i64 y3, .int .i64 y4, .int .i64 y5, .int .i64 y6] 38)).heap.size = w5.heap.size + 1 by simp] at h; exact OC.mono h (by omega))
        have CEC := hid (show CB ((w5.alloc (.cells #[] 38)).alloc (.cells #[.int .i64 y0, .int .i64 y1, .int .i64 y2, .int .i64 y3, .int .i64 y4, .int .i64 y5, .int .i64 y6] 38)).drew 38 (w5.heap.size + 1) y0 y1 y2 y3 y4 y5 y6 from CB.newAt (w5.alloc (.cells #[] 38)) _ _ (by simp) y0 y1 y2 y3 y4 y5 y6)
        have CCE := hid (show CB ((w5.alloc (.cells #[.int .i64 y0, .int .i64 y1, .int .i64 y2, .int .i64 y3, .int .i64 y4, .int .i64 y5, .int .i64 y6] 38)).alloc (.cells #[] 38)).drew 38 w5.heap.size y0 y1 y2 y3 y4 y5 y6 from (CB.new w5 _ y0 y1 y2 y3 y4 y5 y6).alloc _)
        go_cut [4] (fun s4 wx => OC wx w5.heap.size s4 (putC [y0, y1, y2, y3, y4, y5, y6] cs) ∧ s4 ≠ .slice none 0 0 ∧ Below w5.heap.size w5 wx)
        case first =>
          go_region_law (first
            | (refine step_append_cls _ _ rfl rfl w5.heap.size (.slice (some ⟨w5.heap.size, 0, none⟩) 0 0) [] (cs.take k) ⟨b, 0, none⟩ k c rfl rfl OE.out (by simp) ((R5.out.below BE.out).take k hk) hlt.out hl7.out (by simp; omega) BE.out.size ?_; intro v1 w7 ho hg hne; have N1 := hid hne; have O1 := hid ho; have B1 := hid (BE.out.grown hg BE.out.size (fun q hq => own_base OE.out.2 q hq)); have X1 := hid (X5.out.below B1.out); clear ho hg hne; obtain ⟨e0, e1, e2, e3, e4, e5, e6⟩ := X1.out.seven)
            | (refine step_append_cls _ _ rfl rfl w5.heap.size (.slice (some ⟨w5.heap.size, 0, none⟩) 0 0) [] (cs.take k) ⟨b, 0, none⟩ k c rfl rfl OEC.out (by simp) ((R5.out.below BEC.out).take k hk) hlt.out hl7.out (by simp; omega) BEC.out.size ?_; intro v1 w7 ho hg hne; have N1 := hid hne; have O1 := hid ho; have B1 := hid (BEC.out.grown hg BEC.out.size (fun q hq => own_base OEC.out.2 q hq)); have C1 := hid (CEC.out.gbn hg (by simp [Value.ownBlock])); clear ho hg hne)
            | (refine step_append_cls _ _ rfl rfl w5.heap.size (.slice (some ⟨w5.heap.size + 1, 0, none⟩) 0 0) [] (cs.take k) ⟨b, 0, none⟩ k c rfl rfl OCE.out (by simp) ((R5.out.below BCE.out).take k hk) hlt.out hl7.out (by simp; omega) BCE.out.size ?_; intro v1 w7 ho hg hne; have N1 := hid hne; have O1 := hid ho; have B1 := hid (BCE.out.grown hg BCE.out.size (fun q hq => own_base OCE.out.2 q hq)); have C1 := hid (CCE.out.gbn hg (by simp [Value.ownBlock])); clear ho hg hne)
            | (refine step_append_cls _ _ rfl rfl w5.heap.size _ _ [[y0, y1, y2, y3, y4, y5, y6]] ⟨w7.heap.size, 0, none⟩ 1 1 rfl rfl (O1.out.alloc _) N1.out (CCat.one (CB.new w7 38 y0 y1 y2 y3 y4 y5 y6)) rfl (by simp) (by have := hlt.out; simp; omega) (size_alloc B1.out.size _) ?_; intro v2 w8 ho hg hne; have N2 := hid hne; have O2 := hid ho; have B2 := hid ((B1.out.alloc B1.out.size _).grown hg (size_alloc B1.out.size _) (fun q hq => own_base O1.out.2 q hq)); clear ho hg hne)
            | (refine step_append_cls _ _ rfl rfl w5.heap.size _ _ [[y0, y1, y2, y3, y4, y5, y6]] _ 1 1 rfl rfl O1.out N1.out (CCat.one C1.out) rfl (by simp) (by have := hlt.out; simp; omega) B1.out.size ?_; intro v2 w8 ho hg hne; have N2 := hid hne; have O2 := hid ho; have B2 := hid (B1.out.grown hg B1.out.size (fun q hq => own_base O1.out.2 q hq)); clear ho hg hne)
            | (refine step_append_cls _ _ rfl rfl w5.heap.size _ _ (cs.drop k) ad (n - k) (c - k) rfl (by simp only [Act.eval, Act.put, HAd.out]; rfl) O2.out N2.out (HCat.out.below B2.out) hld.out hd7.out (by have := hlt.out; simp; omega) B2.out.size ?_; intro v3 w9 ho hg hne; have N3 := hid hne; have O3 := hid ho; have B3 := hid (B2.out.grown hg B2.out.size (fun q hq => own_base O2.out.2 q hq)); clear ho hg hne))
          all_goals
            (try simp only [HAd.out])
            go_wp2
            go_meet
            exact ⟨by rw [HPut.out]; exact O3.out, N3.out, B3.out⟩
        case rest =>
          obtain ⟨ho, hne, hb⟩ := hcut
          have HO := hid (OC.mono ho (show w.heap.size ≤ w5.heap.size by omega))
          have HN := hid hne
          have HBx := hid (below_trans C5.out hb)
          clear ho hne hb
          go_wp2
          go_ret
          exact ⟨_, rfl, HO.out, HN.out, HBx.out⟩
      · rw [hq] at HL
        have HN := hid (show ∀ j, j < k + 1 → lessC (cs.getD j []) [y0, y1, y2, y3, y4, y5, y6] = true from fun j hj => by
          by_cases h : j < k
          · exact HLe.out j h
          · obtain rfl : j = k := by omega
            rw [HZ.out]; exact hq)
        clear hq
        go_wp2
        refine wp_region_ext (by kernel_rfl) (by kernel_rfl) ?_
        repeat (go_big_quiet_step ((go_at_call 68; exact ext_call (HL.out _))))
        refine wpQuiet_nil ?_
        rintro w5 ⟨⟨w6, b5⟩, hw⟩
        have hw' : w5 = w6 := hw
        clear hw
        subst hw'
        have B5 := hid (below_trans HBk.out b5)
        clear b5
        go_wp2
        go_roundg (n - (k + 1))
        case measure => have := HGk.out; omega
        case rel => exact ⟨k + 1, by omega, rfl, by go_num, HN.out, B5.out⟩
    · have HKn := hid (show k = n by omega)
      have hd : decide ((k : Int) < (n : Int)) = false := by simp; omega
      have HPut := hid (show putC [y0, y1, y2, y3, y4, y5, y6] cs = cs.take k ++ [[y0, y1, y2, y3, y4, y5, y6]] ++ cs.drop k from putC_cut _ cs k (by have := HR.out.1; omega) HLe.out (.inl (by have := HR.out.1; have := HKn.out; omega)))
      go_wp2
      refine wp_region_ext (by kernel_rfl) (by kernel_rfl) ?_
      repeat (go_big_quiet_step (fail))
      refine wpQuiet_nil ?_
      rintro w5 ⟨⟨w6, b5⟩, hw⟩
      have hw' : w5 = w6 := hw
      clear hw
      subst hw'
      have B5 := hid (below_trans HBk.out b5)
      clear b5 hd
      have X5 := hid (HX.out.below B5.out)
      have R5 := hid (HR.out.below B5.out)
      have C5 := hid (below_trans HB.out B5.out)
      clear x0 x1 x2 x3 x4 x5 x6
      obtain ⟨x0, x1, x2, x3, x4, x5, x6⟩ := X5.out.seven
      have hz5 : w.heap.size < w5.heap.size := X5.out.lt
      have hl7 := hid (show ∀ d ∈ cs.take k, d.length = 7 from fun d hd => HR.out.2.2.1 d (List.mem_of_mem_take hd))
      have hd7 := hid (show ∀ d ∈ cs.drop k, d.length = 7 from fun d hd => HR.out.2.2.1 d (List.mem_of_mem_drop hd))
      have hlt := hid (show (cs.take k).length = k by rw [List.length_take]; have := HR.out.1; omega)
      have hld := hid (show (cs.drop k).length = n - k by rw [List.length_drop]; have := HR.out.1; omega)
      obtain ⟨ad, had, hcat⟩ := R5.out.tail k hk hc
      have HAd := hid had
      have HCat := hid hcat
      clear had hcat
      go_wp2
      have hkc : k ≤ c := by omega
      have BE := hid (below_drewN (below_alloc w5 (.cells #[] 38)) 1)
      have BEC := hid (below_drewN (below_trans (below_alloc w5 (.cells #[] 38)) (below_alloc _ (.cells #[.int .i64 y0, .int .i64 y1, .int .i64 y2, .int .i64 y3, .int .i64 y4, .int .i64 y5, .int .i64 y6] 38))) 1)
      have BCE := hid (below_drewN (below_trans (below_alloc w5 (.cells #[.int .i64 y0, .int .i64 y1, .int .i64 y2, .int .i64 y3, .int .i64 y4, .int .i64 y5, .int .i64 y6] 38)) (below_alloc _ (.cells #[] 38))) 1)
      have OE := hid (show OC (w5.alloc (.cells #[] 38)).drew w5.heap.size (.slice (some ⟨w5.heap.size, 0, none⟩) 0 0) [] from OC.lit w5)
      have OEC := hid (show OC ((w5.alloc (.cells #[] 38)).alloc (.cells #[.int .i64 y0, .int .i64 y1, .int .i64 y2, .int .i64 y3, .int .i64 y4, .int .i64 y5, .int .i64 y6] 38)).drew w5.heap.size (.slice (some ⟨w5.heap.size, 0, none⟩) 0 0) [] from (OC.lit w5).alloc _)
      have OCE := hid (show OC ((w5.alloc (.cells #[.int .i64 y0, .int .i64 y1, .int .i64 y2, .int .i64 y3, .int .i64 y4, .int .i64 y5, .int .i64 y6] 38)).alloc (.cells #[] 38)).drew w5.heap.size (.slice (some ⟨w5.heap.size + 1, 0, none⟩) 0 0) [] by have h := OC.lit (w5.alloc (.cells #[.int .i64 y0, .int .i64 y1, .int .i64 y2, .int .i64 y3, .int .i64 y4, .int .i64 y5, .int .i64 y6] 38)); rw [show (w5.alloc (.cells #[.int .i64 y0, .int .i64 y1, .int .i64 y2, .int .i64 y3, .int .i64 y4, .int .i64 y5, .int .i64 y6] 38)).heap.size = w5.heap.size + 1 by simp] at h; exact OC.mono h (by omega))
      have CEC := hid (show CB ((w5.alloc (.cells #[] 38)).alloc (.cells #[.int .i64 y0, .int .i64 y1, .int .i64 y2, .int .i64 y3, .int .i64 y4, .int .i64 y5, .int .i64 y6] 38)).drew 38 (w5.heap.size + 1) y0 y1 y2 y3 y4 y5 y6 from CB.newAt (w5.alloc (.cells #[] 38)) _ _ (by simp) y0 y1 y2 y3 y4 y5 y6)
      have CCE := hid (show CB ((w5.alloc (.cells #[.int .i64 y0, .int .i64 y1, .int .i64 y2, .int .i64 y3, .int .i64 y4, .int .i64 y5, .int .i64 y6] 38)).alloc (.cells #[] 38)).drew 38 w5.heap.size y0 y1 y2 y3 y4 y5 y6 from (CB.new w5 _ y0 y1 y2 y3 y4 y5 y6).alloc _)
      go_cut [4] (fun s4 wx => OC wx w5.heap.size s4 (putC [y0, y1, y2, y3, y4, y5, y6] cs) ∧ s4 ≠ .slice none 0 0 ∧ Below w5.heap.size w5 wx)
      case first =>
        go_region_law (first
          | (refine step_append_cls _ _ rfl rfl w5.heap.size (.slice (some ⟨w5.heap.size, 0, none⟩) 0 0) [] (cs.take k) ⟨b, 0, none⟩ k c rfl rfl OE.out (by simp) ((R5.out.below BE.out).take k hk) hlt.out hl7.out (by simp; omega) BE.out.size ?_; intro v1 w7 ho hg hne; have N1 := hid hne; have O1 := hid ho; have B1 := hid (BE.out.grown hg BE.out.size (fun q hq => own_base OE.out.2 q hq)); have X1 := hid (X5.out.below B1.out); clear ho hg hne; obtain ⟨e0, e1, e2, e3, e4, e5, e6⟩ := X1.out.seven)
          | (refine step_append_cls _ _ rfl rfl w5.heap.size (.slice (some ⟨w5.heap.size, 0, none⟩) 0 0) [] (cs.take k) ⟨b, 0, none⟩ k c rfl rfl OEC.out (by simp) ((R5.out.below BEC.out).take k hk) hlt.out hl7.out (by simp; omega) BEC.out.size ?_; intro v1 w7 ho hg hne; have N1 := hid hne; have O1 := hid ho; have B1 := hid (BEC.out.grown hg BEC.out.size (fun q hq => own_base OEC.out.2 q hq)); have C1 := hid (CEC.out.gbn hg (by simp [Value.ownBlock])); clear ho hg hne)
          | (refine step_append_cls _ _ rfl rfl w5.heap.size (.slice (some ⟨w5.heap.size + 1, 0, none⟩) 0 0) [] (cs.take k) ⟨b, 0, none⟩ k c rfl rfl OCE.out (by simp) ((R5.out.below BCE.out).take k hk) hlt.out hl7.out (by simp; omega) BCE.out.size ?_; intro v1 w7 ho hg hne; have N1 := hid hne; have O1 := hid ho; have B1 := hid (BCE.out.grown hg BCE.out.size (fun q hq => own_base OCE.out.2 q hq)); have C1 := hid (CCE.out.gbn hg (by simp [Value.ownBlock])); clear ho hg hne)
          | (refine step_append_cls _ _ rfl rfl w5.heap.size _ _ [[y0, y1, y2, y3, y4, y5, y6]] ⟨w7.heap.size, 0, none⟩ 1 1 rfl rfl (O1.out.alloc _) N1.out (CCat.one (CB.new w7 38 y0 y1 y2 y3 y4 y5 y6)) rfl (by simp) (by have := hlt.out; simp; omega) (size_alloc B1.out.size _) ?_; intro v2 w8 ho hg hne; have N2 := hid hne; have O2 := hid ho; have B2 := hid ((B1.out.alloc B1.out.size _).grown hg (size_alloc B1.out.size _) (fun q hq => own_base O1.out.2 q hq)); clear ho hg hne)
          | (refine step_append_cls _ _ rfl rfl w5.heap.size _ _ [[y0, y1, y2, y3, y4, y5, y6]] _ 1 1 rfl rfl O1.out N1.out (CCat.one C1.out) rfl (by simp) (by have := hlt.out; simp; omega) B1.out.size ?_; intro v2 w8 ho hg hne; have N2 := hid hne; have O2 := hid ho; have B2 := hid (B1.out.grown hg B1.out.size (fun q hq => own_base O1.out.2 q hq)); clear ho hg hne)
          | (refine step_append_cls _ _ rfl rfl w5.heap.size _ _ (cs.drop k) ad (n - k) (c - k) rfl (by simp only [Act.eval, Act.put, HAd.out]; rfl) O2.out N2.out (HCat.out.below B2.out) hld.out hd7.out (by have := hlt.out; simp; omega) B2.out.size ?_; intro v3 w9 ho hg hne; have N3 := hid hne; have O3 := hid ho; have B3 := hid (B2.out.grown hg B2.out.size (fun q hq => own_base O2.out.2 q hq)); clear ho hg hne))
        all_goals
          (try simp only [HAd.out])
          go_wp2
          go_meet
          exact ⟨by rw [HPut.out]; exact O3.out, N3.out, B3.out⟩
      case rest =>
        obtain ⟨ho, hne, hb⟩ := hcut
        have HO := hid (OC.mono ho (show w.heap.size ≤ w5.heap.size by omega))
        have HN := hid hne
        have HBx := hid (below_trans C5.out hb)
        clear ho hne hb
        go_wp2
        go_ret
        exact ⟨_, rfl, HO.out, HN.out, HBx.out⟩

end Go.Proofs.Ytcffaeepanhpfaa
