/-
  Drawn cubics. (A sketch: one hole.)
-/
import Derived.Test.YtkddhlgohjojpaaDp
namespace Go.Proofs.Ytkddhlgohjojpaa
open Go.RowKit
set_option linter.unusedVariables false
set_option linter.unusedSimpArgs false

/-- A slice of numbers survives what is written into the reader's block alone. -/
theorem RI.gbR {w w' : World} {A : Option Addr} {n R base : Nat} {xs : List Int} (h : RI w A n xs) (hA : ∀ b off, A = some ⟨b, off, none⟩ → base ≤ b) (hR : R < base) (hg : w.grownBy w' (some R)) : RI w' A n xs := by
  obtain ⟨h1, h2, b, off, h3, h4⟩ := h
  exact ⟨h1, h2, b, off, h3, fun j hj => hg.cell (h4 j hj) (fun e => by injection e with e; have : b = R := e; rcases h3 with h3 | h3; omega; have := hA b off h3; omega)⟩

theorem Rd.gbOther {w w' : World} {R : Nat} {cnt : Int} {v : Value} {base : Nat} {xs : List Int} (h : Rd w R cnt) (ho : OI w base v xs) (hR : R < base) (hg : w.grownBy w' v.ownBlock) : Rd w' R cnt := by
  obtain ⟨hlt, b', off, n, cc, A, xs', h1, h2, h3, h4, h5, h6, h7⟩ := h
  refine ⟨Nat.lt_of_lt_of_le hlt hg.size, b', off, n, cc, A, xs', ?_, h2, h3, h4, h5, h6, fun i hi => ?_⟩
  · rw [hg.block R hlt (fun e => by have := own_base ho R e.symm; omega)]
    exact h1
  · exact hg.cell (h7 i hi) (fun e => by have := own_base ho b' e.symm; omega)

set_option maxHeartbeats 2000000 in
theorem l92Cubic_ok (R : Nat) (cnt p : Int) (w : World) (hr : Rd w R cnt) (h0 : 0 ≤ cnt) (h1 : cnt ≤ 900000) (hp : 5 ≤ p) (hp2 : p ≤ 31) :
    Calls Try.prog 38 #[.pointer (some ⟨R, 0, none⟩), .int .i64 p] w fun e w' => ∃ (A : Option Addr) (n c : Nat) (xs : List Int), e = .returned (.slice A n c) ∧ RI w' A n xs ∧ (∀ b off, A = some ⟨b, off, none⟩ → w.heap.size ≤ b) ∧ n ≤ 10 ∧ (∃ cnt' : Int, cnt ≤ cnt' ∧ cnt' ≤ cnt + 30 ∧ Rd w' R cnt') ∧ w.grownBy w' (some R) := by
  have hlt := hr.lt
  go_enter Try.func38, Try.ntmps38
  go_wp2
  go_loopw [5, 6] (fun v t wr => ∃ (k : Nat) (xs : List Int) (cn : Int), k ≤ 10 ∧ t = .int .i64 k ∧ xs.length = k ∧ OI wr w.heap.size v xs ∧ cnt ≤ cn ∧ cn ≤ cnt + 2 * k ∧ Rd wr R cn ∧ w.grownBy wr (some R)) (fun _ t _ => 10 - (intOf t).toNat)
  case atStart => exact ⟨0, [], cnt, by omega, rfl, rfl, World.ownsRow_lit w #[] 0 (Nat.le_refl _) (by decide) rfl, by omega, by omega, hr.below (below_alloc _ _), gb_below (below_alloc _ _)⟩
  case round =>
    obtain ⟨k, xs, cn, hk, rfl, hxl, ho, hc0, hc1, hd, hg⟩ := hrel
    have HO := hid ho
    have HG := hid hg
    have HD := hid hd
    clear ho hg hd
    by_cases hkt : k < 10
    · go_wp2_with fail
      refine (pick_ok R cn p _ HD.out (by omega) (by omega) (by omega)).mono ?_
      rintro e w1 ⟨a, rfl, a0, a1, hd1, hg1⟩
      have HO1 := hid (HO.out.gb hg1 hlt)
      have G1 := hid (gb_trans HG.out hg1)
      clear hg1
      go_wp2_with fail
      refine (pick_ok R _ 2 _ hd1 (by omega) (by omega) (by omega)).mono ?_
      rintro e w2 ⟨b, rfl, b0, b1, hd2, hg2⟩
      have HO2 := hid (HO1.out.gb hg2 hlt)
      have G2 := hid (gb_trans G1.out hg2)
      have D2 := hid hd2
      clear hg2 hd1 hd2
      have hm := mul_bd a0 b0 (show a ≤ 31 by omega) (show b ≤ 2 by omega)
      have m0 := hm.1
      have m1 := hm.2
      clear hm
      have HLn := hid (show xs.length < 17592186044416 by omega)
      go_wp2_with (at_builtin; refine append_int _ _ rfl rfl w.heap.size _ xs (a * b) ⟨w2.heap.size, 0, none⟩ rfl rfl (HO2.out.alloc _) (World.cell?_alloc_at _ _ _ _ rfl) HLn.out (size_alloc G2.out.size _) ?_; intro v' w3 hown hgrow; have HO3 := hid hown; have HG3 := hid hgrow; clear hown hgrow)
      go_roundw
      case rel => exact ⟨k + 1, xs ++ [a * b], cn + 1 + 1, by omega, by go_num, by simp; omega, HO3.out, by omega, by omega, Rd.gbOther (D2.out.below (below_alloc _ _)) (HO2.out.alloc _) hlt HG3.out, gb_append G2.out HO2.out HG3.out⟩
      case measure => simp [intOf]; omega
    · obtain rfl : k = 10 := by omega
      obtain ⟨g, cap, rfl, hgb, hgl, hcell⟩ := HO.out.shape (by omega)
      have HCell := hid hcell
      clear hcell
      rw [hxl]
      go_wp2_with fail
      refine (pick_ok R cn 24 _ HD.out (by omega) (by omega) (by omega)).mono ?_
      rintro e w1 ⟨r, rfl, r0, r1, hd1, hg1⟩
      have hw1 : w1.ownsRow w.heap.size 3 1 (.slice (some ⟨g, 0, none⟩) 10 cap) 10 (xs.map (Value.int .i64)) := by
        have h := HO.out.gb hg1 hlt
        unfold OI at h
        rwa [hxl] at h
      have G1 := hid (gb_trans HG.out hg1)
      have D1 := hid hd1
      have HW := hid hw1
      have hcl : ∀ i, i < 10 → w1.cell? ⟨g, i, none⟩ = some (.int .i64 (xs.getD i 0)) := fun i hi => hg1.cell (HCell.out i (by omega)) (fun e => by injection e with e; have : g = R := e; omega)
      have hcap : 10 ≤ cap := by
        rcases hw1.2 with ⟨h, _⟩ | ⟨g', cap', cur, h, _, _, hc, _⟩
        · simp at h
        · simp at h; omega
      have HCl := hid hcl
      have q0 := hcl 0 (by omega)
      have f0 := World.ownsRow.frozenAt hw1 0
      clear hcl hg1 hd1 hw1
      by_cases h0 : r = 0
      · subst h0
        have hst := World.ownsRow.stored HW.out 0 (.int .i64 p)
        have HSt := hid hst
        clear hst
        go_wp2
        go_ret
        refine ⟨_, 10, cap, xs.set 0 p, rfl, ⟨by simp [hxl], by omega, g, 0, .inr rfl, fun j hj => ?_⟩, (fun b off e => by injection e with e; injection e with e; omega), by omega, ⟨_, ?_, ?_, Rd.gbOther (v := .slice (some ⟨g, 0, none⟩) 10 cap) (xs := xs) D1.out (by unfold OI; rw [hxl]; exact HW.out) hlt HSt.out.2⟩, ?_⟩
        · rw [Nat.zero_add, World.ownsRow.cellAt HSt.out.1 j (by omega), ← List.map_set]
          rw [List.getElem?_map, List.getD_eq_getElem?_getD, List.getElem?_eq_getElem (show j < (xs.set 0 p).length by rw [List.length_set]; omega)]
          rfl
        · omega
        · omega
        · exact gb_set G1.out hgb
      · by_cases h1 : r = 1
        · subst h1
          go_wp2
          go_ret
          refine ⟨_, 9, cap, xs.take 9, rfl, ⟨by simp; omega, by omega, g, 0, .inr rfl, fun j hj => ?_⟩, (fun b off e => by injection e with e; injection e with e; omega), by omega, ⟨_, by omega, by omega, D1.out⟩, G1.out⟩
          rw [Nat.zero_add, HCl.out j (by omega)]
          simp [List.getD_eq_getElem?_getD, hj]
        · have e0 : (r == 0) = false := by simpa using h0
          have e1 : (r == 1) = false := by simpa using h1
          go_wp2
          go_ret
          exact ⟨_, 10, cap, xs, rfl, ⟨hxl, by omega, g, 0, .inr rfl, fun j hj => by rw [Nat.zero_add]; exact HCl.out j hj⟩, (fun b off e => by injection e with e; injection e with e; omega), by omega, ⟨_, by omega, by omega, D1.out⟩, G1.out⟩

theorem DrawCubicIn_ok (A : Option Addr) (n c : Nat) (xs : List Int) (w : World) (hr : RB w A n c xs) :
    Calls Try.prog 13 #[.slice A n c] w fun e w' => ∃ (p : Int) (A' : Option Addr) (n' c' : Nat) (ys : List Int), e = .returned (.tuple #[.int .i64 p, .slice A' n' c']) ∧ 5 ≤ p ∧ p ≤ 31 ∧ RI w' A' n' ys ∧ n' ≤ 10 ∧ Below w.heap.size w w' := by
  go_enter Try.func13, Try.ntmps13
  go_wp2_with fail
  refine (l6Open_ok A n c xs w hr).mono ?_
  rintro e w1 ⟨R, rfl, hR, hd, hb⟩
  have HR := hid hR
  have HB := hid hb
  clear hR hb
  go_wp2_with fail
  refine (l92Prime_ok R 0 w1 hd (by omega) (by omega)).mono ?_
  rintro e w2 ⟨p, rfl, p0, p1, hd2, hg⟩
  have HG := hid hg
  clear hg hd
  go_wp2_with fail
  refine (l92Cubic_ok R _ p w2 hd2 (by omega) (by omega) p0 p1).mono ?_
  rintro e w3 ⟨A', n', c', ys, rfl, hri, _, hn', _, hg⟩
  have HG3 := hid (gb_trans HG.out hg)
  have HRI := hid hri
  clear hg hd2 hri
  go_wp2
  go_ret2
  exact ⟨p, A', n', c', ys, rfl, p0, p1, HRI.out, hn', gb_open HB.out HR.out HG3.out⟩

end Go.Proofs.Ytkddhlgohjojpaa
