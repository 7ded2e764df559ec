/-
  Drawn words.
-/
import Derived.Test.YtcffaeepanhpfaaWa
namespace Go.Proofs.Ytcffaeepanhpfaa
open Go.RowKit
set_option linter.unusedVariables false
set_option linter.unusedSimpArgs false

theorem gb2_trans {w w1 w2 : World} {row : Option Nat} (h : w.grownBy w1 row) (k : w1.grownBy w2 row) : w.grownBy w2 row :=
  ⟨k.os.trans h.os, k.tape.trans h.tape, k.output.trans h.output, Nat.le_trans h.size k.size, fun i hi hr => (k.block i (Nat.lt_of_lt_of_le hi h.size) hr).trans (h.block i hi hr)⟩
theorem gb2_below {w w1 : World} {row : Option Nat} (h : Below w.heap.size w w1) : w.grownBy w1 row := ⟨h.os, h.tape, h.output, h.size, fun i hi _ => h.block i hi⟩
theorem OI.gb2 {w w' : World} {base R : Nat} {v : Value} {xs : List Int} (h : OI w base v xs) (hg : w.grownBy w' (some R)) (hR : R < base) : OI w' base v xs := by
  refine h.kept hg ?_
  cases hv : v.ownBlock with
  | none => exact .inl rfl
  | some k => right; have := own_base h k hv; intro e; cases e; omega
theorem gb2_append {w wr w1 : World} {R : Nat} {o : Obj} {e : TypeId} {size n : Nat} {v : Value} {xs : List Value} (h : w.grownBy wr (some R)) (hown : wr.ownsRow w.heap.size e size v n xs) (hg : (wr.alloc o).grownBy w1 v.ownBlock) : w.grownBy w1 (some R) := by
  have h2 : w.grownBy (wr.alloc o) (some R) := gb2_trans h (gb2_below (below_alloc wr o))
  refine ⟨hg.os.trans h2.os, hg.tape.trans h2.tape, hg.output.trans h2.output, Nat.le_trans h2.size hg.size, fun i hi hr => ?_⟩
  rw [hg.block i (Nat.lt_of_lt_of_le hi h2.size) (fun e => by have := own_base hown i e.symm; omega)]
  exact h2.block i hi hr
theorem Rd.gb2Other {w w' : World} {R : Nat} {cnt : Int} {v : Value} {base : Nat} {xs : List Int} (h : Rd w R cnt) (ho : OI w base v xs) (hR : R < base) (hg : w.grownBy w' v.ownBlock) : Rd w' R cnt := by
  obtain ⟨hlt, b', off, n, cc, A, xs', h1, h2, h3, h4, h5, h6, h7⟩ := h
  refine ⟨Nat.lt_of_lt_of_le hlt hg.size, b', off, n, cc, A, xs', ?_, h2, h3, h4, h5, h6, fun i hi => ?_⟩
  · rw [hg.block R hlt (fun e => by have := own_base ho R e.symm; omega)]
    exact h1
  · exact hg.cell (h7 i hi) (fun e => by have := own_base ho b' e.symm; omega)

set_option maxHeartbeats 2000000 in
theorem l91Word_ok (R : Nat) (cnt : Int) (w : World) (hr : Rd w R cnt) (h0 : 0 ≤ cnt) (h1 : cnt ≤ 900000) :
    Calls Try.prog 34 #[.pointer (some ⟨R, 0, none⟩)] w fun e w' => ∃ (v : Value) (xs : List Int), e = .returned v ∧ OI w' w.heap.size v xs ∧ xs.length ≤ 20 ∧ (∃ cnt' : Int, cnt ≤ cnt' ∧ cnt' ≤ cnt + 22 ∧ Rd w' R cnt') ∧ w.grownBy w' (some R) := by
  have hlt := hr.lt
  have HR0 := hid (hr.below (below_alloc w (.cells #[] 3)))
  clear hr
  go_enter Try.func34, Try.ntmps34
  go_wp2_with fail
  refine (pick_ok R cnt 20 _ HR0.out (by omega) (by omega) (by omega)).mono ?_
  rintro e w1 ⟨N, rfl, n0, n1, hd1, hg1⟩
  have hn20 : N ≤ 19 := by omega
  obtain ⟨M, rfl⟩ := Int.eq_ofNat_of_zero_le n0
  have hO0 : OI w1 w.heap.size (.slice (some ⟨w.heap.size, 0, none⟩) 0 0) [] := OI.gb2 (show OI (w.alloc (.cells #[] 3)) w.heap.size (.slice (some ⟨w.heap.size, 0, none⟩) 0 0) [] from World.ownsRow_lit w #[] 0 (Nat.le_refl _) (by decide) rfl) hg1 hlt
  have HO0 := hid hO0
  have G1 := hid (gb2_trans (gb2_below (row := some R) (below_alloc w (.cells #[] 3))) hg1)
  have D1 := hid hd1
  clear hO0 hg1 hd1 n1 n0
  go_wp2
  go_loopw [3, 5] (fun v t wr => ∃ (k : Nat) (xs : List Int), k ≤ M ∧ t = .int .i64 k ∧ xs.length = k ∧ OI wr w.heap.size v xs ∧ Rd wr R (cnt + 1 + k) ∧ w.grownBy wr (some R)) (fun _ t _ => M - (intOf t).toNat)
  case atStart => exact ⟨0, [], by omega, rfl, rfl, HO0.out, by simpa using D1.out, G1.out⟩
  case round =>
    obtain ⟨k, xs, hk, rfl, hxl, ho, hd, hg⟩ := hrel
    have HO := hid ho
    have HG := hid hg
    have HD := hid hd
    clear ho hg hd
    have HLn := hid (show xs.length < 17592186044416 by omega)
    by_cases hkt : k < M
    · go_wp2_with fail
      refine (pick_ok R _ 6 _ HD.out (by omega) (by omega) (by omega)).mono ?_
      rintro e w2 ⟨a, rfl, a0, a1, hd2, hg2⟩
      have HO2 := hid (HO.out.gb2 hg2 hlt)
      have G2 := hid (gb2_trans HG.out hg2)
      have D2 := hid hd2
      clear hg2 hd2
      go_wp2_with (at_builtin; refine append_int _ _ rfl rfl w.heap.size _ xs a ⟨w2.heap.size, 0, none⟩ rfl rfl (HO2.out.alloc _) (World.cell?_alloc_at _ _ _ _ rfl) HLn.out (size_alloc G2.out.size _) ?_; intro v' w3 hown hgrow; have HO3 := hid hown; have HG3 := hid hgrow; clear hown hgrow)
      go_roundw
      case rel => exact ⟨k + 1, xs ++ [a], by omega, by go_num, by simp; omega, HO3.out, by have h := Rd.gb2Other (D2.out.below (below_alloc _ _)) (HO2.out.alloc _) hlt HG3.out; rwa [show cnt + 1 + (k : Int) + 1 = cnt + 1 + ((k + 1 : Nat) : Int) by omega] at h, gb2_append G2.out HO2.out HG3.out⟩
      case measure => simp [intOf]; omega
    · obtain rfl : k = M := by omega
      go_wp2_with fail
      refine (pick_ok R _ 20 _ HD.out (by omega) (by omega) (by omega)).mono ?_
      rintro e w2 ⟨a, rfl, a0, a1, hd2, hg2⟩
      have HO2 := hid (HO.out.gb2 hg2 hlt)
      have G2 := hid (gb2_trans HG.out hg2)
      have D2 := hid hd2
      clear hg2 hd2
      cases hz : (a == 0)
      · go_wp2
        go_ret
        exact ⟨_, xs, rfl, HO2.out, by omega, ⟨_, by omega, by omega, D2.out⟩, G2.out⟩
      · go_wp2_with (at_builtin; refine append_int _ _ rfl rfl w.heap.size _ xs 6 ⟨w2.heap.size, 0, none⟩ rfl rfl (HO2.out.alloc _) (World.cell?_alloc_at _ _ _ _ rfl) HLn.out (size_alloc G2.out.size _) ?_; intro v' w3 hown hgrow; have HO3 := hid hown; have HG3 := hid hgrow; clear hown hgrow)
        go_ret
        exact ⟨_, xs ++ [6], rfl, HO3.out, by simp; omega, ⟨_, by omega, by omega, Rd.gb2Other (D2.out.below (below_alloc _ _)) (HO2.out.alloc _) hlt HG3.out⟩, gb2_append G2.out HO2.out HG3.out⟩

theorem DrawWordLines_ok (A : Option Addr) (n c : Nat) (xs : List Int) (w : World) (hr : RB w A n c xs) :
    Calls Try.prog 22 #[.slice A n c] w fun e w' => ∃ (v : Value) (ws : List Int), e = .returned v ∧ OI w' w.heap.size v ws ∧ ws.length ≤ 20 ∧ Below w.heap.size w w' := by
  have HR0 := hid hr
  clear hr
  go_enter Try.func22, Try.ntmps22
  go_wp2_with fail
  refine (l6Open_ok A n c xs _ HR0.out).mono ?_
  rintro e w1 ⟨R, rfl, hR, hd, hb⟩
  have B1 := hid hb
  have D1 := hid hd
  have HRs := hid hR
  clear hR hb hd
  go_wp2_with fail
  refine (l91Word_ok R 0 w1 D1.out (by omega) (by omega)).mono ?_
  rintro e w2 ⟨v, ws, rfl, ho, hl, _, hg⟩
  have HO := hid (ho.mono B1.out.size)
  have B2 := hid (B1.out.grown hg B1.out.size (fun k hk => by cases hk; exact Nat.le_of_eq HRs.out.symm))
  clear ho hg
  go_wp2
  go_ret
  exact ⟨_, ws, rfl, HO.out, hl, B2.out⟩

theorem DrawWordBack_ok (A : Option Addr) (n c : Nat) (xs : List Int) (w : World) (hr : RB w A n c xs) :
    Calls Try.prog 16 #[.slice A n c] w fun e w' => ∃ (v : Value) (ws : List Int), e = .returned v ∧ OI w' w.heap.size v ws ∧ ws.length ≤ 20 ∧ Below w.heap.size w w' := by
  have HR0 := hid hr
  clear hr
  go_enter Try.func16, Try.ntmps16
  go_wp2_with fail
  refine (l6Open_ok A n c xs _ HR0.out).mono ?_
  rintro e w1 ⟨R, rfl, hR, hd, hb⟩
  have B1 := hid hb
  have D1 := hid hd
  have HRs := hid hR
  clear hR hb hd
  go_wp2_with fail
  refine (l91Word_ok R 0 w1 D1.out (by omega) (by omega)).mono ?_
  rintro e w2 ⟨v, ws, rfl, ho, hl, _, hg⟩
  have HO := hid (ho.mono B1.out.size)
  have B2 := hid (B1.out.grown hg B1.out.size (fun k hk => by cases hk; exact Nat.le_of_eq HRs.out.symm))
  clear ho hg
  go_wp2
  go_ret
  exact ⟨_, ws, rfl, HO.out, hl, B2.out⟩

theorem DrawWordOrder_ok (A : Option Addr) (n c : Nat) (xs : List Int) (w : World) (hr : RB w A n c xs) :
    Calls Try.prog 27 #[.slice A n c] w fun e w' => ∃ (v : Value) (ws : List Int), e = .returned v ∧ OI w' w.heap.size v ws ∧ ws.length ≤ 20 ∧ Below w.heap.size w w' := by
  have HR0 := hid hr
  clear hr
  go_enter Try.func27, Try.ntmps27
  go_wp2_with fail
  refine (l6Open_ok A n c xs _ HR0.out).mono ?_
  rintro e w1 ⟨R, rfl, hR, hd, hb⟩
  have B1 := hid hb
  have D1 := hid hd
  have HRs := hid hR
  clear hR hb hd
  go_wp2_with fail
  refine (l91Word_ok R 0 w1 D1.out (by omega) (by omega)).mono ?_
  rintro e w2 ⟨v, ws, rfl, ho, hl, _, hg⟩
  have HO := hid (ho.mono B1.out.size)
  have B2 := hid (B1.out.grown hg B1.out.size (fun k hk => by cases hk; exact Nat.le_of_eq HRs.out.symm))
  clear ho hg
  go_wp2
  go_ret
  exact ⟨_, ws, rfl, HO.out, hl, B2.out⟩

theorem DrawWordLength_ok (A : Option Addr) (n c : Nat) (xs : List Int) (w : World) (hr : RB w A n c xs) :
    Calls Try.prog 26 #[.slice A n c] w fun e w' => ∃ (v : Value) (ws : List Int), e = .returned v ∧ OI w' w.heap.size v ws ∧ ws.length ≤ 20 ∧ Below w.heap.size w w' := by
  have HR0 := hid hr
  clear hr
  go_enter Try.func26, Try.ntmps26
  go_wp2_with fail
  refine (l6Open_ok A n c xs _ HR0.out).mono ?_
  rintro e w1 ⟨R, rfl, hR, hd, hb⟩
  have B1 := hid hb
  have D1 := hid hd
  have HRs := hid hR
  clear hR hb hd
  go_wp2_with fail
  refine (l91Word_ok R 0 w1 D1.out (by omega) (by omega)).mono ?_
  rintro e w2 ⟨v, ws, rfl, ho, hl, _, hg⟩
  have HO := hid (ho.mono B1.out.size)
  have B2 := hid (B1.out.grown hg B1.out.size (fun k hk => by cases hk; exact Nat.le_of_eq HRs.out.symm))
  clear ho hg
  go_wp2
  go_ret
  exact ⟨_, ws, rfl, HO.out, hl, B2.out⟩

end Go.Proofs.Ytcffaeepanhpfaa
