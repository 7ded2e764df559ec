/-
  The law FnExactRootList.
-/
import Derived.Test.YtbodpfgbelaopaaLm
namespace Go.Proofs.Ytbodpfgbelaopaa
open Go.RowKit
set_option linter.unusedVariables false
set_option linter.unusedSimpArgs false

theorem RC.at_ {w : World} {A : Option Addr} {n : Nat} {cs : List (List Int)} (h : RC w A n cs) (i : Nat) (hi : i < n) : ∃ b, ∃ z0 z1 z2 z3 z4 z5 z6 : Int, A = some ⟨b, 0, none⟩ ∧ cs.getD i [] = [z0, z1, z2, z3, z4, z5, z6] ∧ (w.cell? ⟨b, 0, none⟩ = some (.int .i64 z0) ∧ w.cell? ⟨b, 1, none⟩ = some (.int .i64 z1) ∧ w.cell? ⟨b, 2, none⟩ = some (.int .i64 z2) ∧ w.cell? ⟨b, 3, none⟩ = some (.int .i64 z3) ∧ w.cell? ⟨b, 4, none⟩ = some (.int .i64 z4) ∧ w.cell? ⟨b, 5, none⟩ = some (.int .i64 z5) ∧ w.cell? ⟨b, 6, none⟩ = some (.int .i64 z6) → True) ∧
    w.cell? ⟨b, i * 7, none⟩ = some (.int .i64 z0) ∧ w.cell? ⟨b, i * 7 + 1, none⟩ = some (.int .i64 z1) ∧ w.cell? ⟨b, i * 7 + 2, none⟩ = some (.int .i64 z2) ∧ w.cell? ⟨b, i * 7 + 3, none⟩ = some (.int .i64 z3) ∧ w.cell? ⟨b, i * 7 + 4, none⟩ = some (.int .i64 z4) ∧ w.cell? ⟨b, i * 7 + 5, none⟩ = some (.int .i64 z5) ∧ w.cell? ⟨b, i * 7 + 6, none⟩ = some (.int .i64 z6) := by
  obtain ⟨h1, h2, h3, b, h4, h5⟩ := h
  obtain ⟨z0, z1, z2, z3, z4, z5, z6, hz⟩ := seven (h3 (cs.getD i []) (by simp [List.getD_eq_getElem?_getD, List.getElem?_eq_getElem (show i < cs.length by omega)]))
  have c0 := h5 i 0 hi (by omega)
  have c1 := h5 i 1 hi (by omega)
  have c2 := h5 i 2 hi (by omega)
  have c3 := h5 i 3 hi (by omega)
  have c4 := h5 i 4 hi (by omega)
  have c5 := h5 i 5 hi (by omega)
  have c6 := h5 i 6 hi (by omega)
  rw [hz] at c0 c1 c2 c3 c4 c5 c6
  simp only [List.getD_cons_zero, List.getD_cons_succ, Nat.add_zero] at c0 c1 c2 c3 c4 c5 c6
  exact ⟨b, z0, z1, z2, z3, z4, z5, z6, by rcases h4 with h | h; omega; exact h, hz, fun _ => trivial, c0, c1, c2, c3, c4, c5, c6⟩

theorem below_trans' {w0 w1 w2 : World} (h : Below w0.heap.size w0 w1) (k : Below w1.heap.size w1 w2) : Below w0.heap.size w0 w2 := h.trans (k.mono h.size)

set_option maxRecDepth 100000 in
set_option maxHeartbeats 4000000 in
theorem eqClassS_ok (A B : Option Addr) (n c d : Nat) (cs : List (List Int)) (w : World) (hr : RC w A n cs) (hs : RC w B n cs) :
    Calls Try.prog 18 #[.slice A n c, .slice B n d] w fun e w' => e = .returned (.bool true) ∧ Below w.heap.size w w' := by
  have HR := hid hr
  have HS := hid hs
  have hn100 := hr.2.1
  clear hr hs
  go_enter Try.func18, Try.ntmps18
  go_wp2
  go_loopg [5] n (fun gk t wr => ∃ i : Nat, i ≤ n ∧ gk = n - i ∧ t = .int .i64 i ∧ Below w.heap.size w wr)
  case atStart => exact ⟨0, by omega, rfl, rfl, Below.refl _ _⟩
  case round =>
    obtain ⟨i, hi, hgk, rfl, hb⟩ := hrel
    have HB := hid hb
    have HGk := hid hgk
    clear hb hgk
    by_cases hlt : i < n
    · obtain ⟨b, z0, z1, z2, z3, z4, z5, z6, rfl, hz, _, c0, c1, c2, c3, c4, c5, c6⟩ := (HR.out.below HB.out).at_ i hlt
      obtain ⟨b', y0, y1, y2, y3, y4, y5, y6, rfl, hy, _, e0, e1, e2, e3, e4, e5, e6⟩ := (HS.out.below HB.out).at_ i hlt
      rw [hz] at hy
      injection hy with g0 hy
      injection hy with g1 hy
      injection hy with g2 hy
      injection hy with g3 hy
      injection hy with g4 hy
      injection hy with g5 hy
      injection hy with g6 hy
      subst g0 g1 g2 g3 g4 g5 g6
      replace c0 := ext_cell c0
      replace c1 := ext_cell c1
      replace c2 := ext_cell c2
      replace c3 := ext_cell c3
      replace c4 := ext_cell c4
      replace c5 := ext_cell c5
      replace c6 := ext_cell c6
      replace e0 := ext_cell e0
      replace e1 := ext_cell e1
      replace e2 := ext_cell e2
      replace e3 := ext_cell e3
      replace e4 := ext_cell e4
      replace e5 := ext_cell e5
      replace e6 := ext_cell e6
      clear hz hy
      have HE := hid (fun W => eqClass_ok z0 z1 z2 z3 z4 z5 z6 W)
      go_wp2
      refine wp_region_ext (by kernel_rfl) (by kernel_rfl) ?_
      repeat (go_big_quiet_step ((go_at_call 14; exact ext_call (HE.out _))))
      refine wpQuiet_nil ?_
      rintro w5 ⟨⟨w6, b5⟩, hw⟩
      have hw' : w5 = w6 := hw
      clear hw
      subst hw'
      have B5 := hid (below_trans HB.out b5)
      clear b5 c0 c1 c2 c3 c4 c5 c6 e0 e1 e2 e3 e4 e5 e6
      go_wp2
      go_roundg (n - (i + 1))
      case measure => have := HGk.out; omega
      case rel => exact ⟨i + 1, by omega, rfl, by go_num, B5.out⟩
    · obtain rfl : i = n := by omega
      go_wp2
      go_ret
      exact ⟨rfl, HB.out⟩

theorem specRootList_ok (n : Int) (w : World) :
    Calls Try.prog 16 #[.int .i64 n] w fun e w' => ∃ v, e = .returned (.tuple #[v, .bool (n == 72)]) ∧ OC w' w.heap.size v (rl72 n) ∧ Below w.heap.size w w' := by
  by_cases h : n = 72
  · subst h
    have HR := hid (show rl72 72 = roots from rfl)
    rw [HR.out]
    go_enter Try.func16, Try.ntmps16
    go_wp2_with fail
    refine (l3Roots_ok w).mono ?_
    rintro e w1 ⟨v, rfl, ho, hb⟩
    have HO := hid ho
    have HB := hid hb
    clear ho hb
    go_wp2
    go_ret2
    exact ⟨v, rfl, HO.out, HB.out⟩
  · have hn : (n == 72) = false := by simpa using h
    have hn2 : (n != 72) = true := by simpa using h
    have HR := hid (show rl72 n = [] by rw [rl72, hn]; rfl)
    rw [HR.out, hn]
    clear h hn
    go_enter Try.func16, Try.ntmps16
    go_wp2
    go_ret2
    exact ⟨_, rfl, OC.lit w, below_alloc _ _⟩

theorem rl72_len (n : Int) : (rl72 n).length ≤ 72 := by
  rw [rl72]
  split
  · exact Nat.le_of_eq roots_len
  · exact Nat.zero_le _

set_option maxRecDepth 100000 in
set_option maxHeartbeats 4000000 in
theorem FnExactRootList_ok (n : Int) (w : World) (hp : (Lit.int .i64 n).wf = true) :
    Calls Try.prog 4 #[.int .i64 n] w fun e w' => e = .returned (.bool true) ∧ Below w.heap.size w w' := by
  have hlen := rl72_len n
  have HS := hid (fun W => specRootList_ok n W)
  have HI := hid (fun W => implRootList_ok n W)
  have hbb : ((n == 72) != (n == 72)) = false := by simp
  clear hp
  generalize (n == 72) = D at *
  generalize rl72 n = rs at *
  go_enter Try.func4, Try.ntmps4
  go_wp2_with fail
  refine (HS.out _).mono ?_
  rintro e w1 ⟨v1, rfl, o1, b1⟩
  obtain ⟨A1, c1, rfl, r1⟩ := o1.rc (by omega)
  have R1 := hid r1
  have B1 := hid b1
  clear r1 b1 o1
  go_wp2_with fail
  refine (HI.out _).mono ?_
  rintro e w2 ⟨v2, rfl, o2, b2⟩
  obtain ⟨A2, c2, rfl, r2⟩ := o2.rc (by omega)
  have O2 := hid o2
  have R2 := hid r2
  have D2 := hid b2
  clear r2 b2 o2
  go_wp2_with fail
  refine (eqClassS_ok A2 A1 _ c2 c1 _ _ R2.out (R1.out.below D2.out)).mono ?_
  rintro e w3 ⟨rfl, b3⟩
  have D3 := hid (below_trans D2.out b3)
  have O3 := hid (O2.out.below b3)
  clear b3
  go_wp2_with fail
  refine (markClassS_ok w1.heap.size A2 _ c2 rs 1 _ O3.out (by omega) rfl (by omega) (by omega)).mono ?_
  rintro e w4 ⟨rfl, o4, g4⟩
  have D4 := hid (D3.out.grown g4 D3.out.size (fun k hk => own_base O3.out.2 k hk))
  obtain ⟨A4, c4, e4, r4⟩ := o4.rc (by rw [marks7_length]; omega)
  rw [marks7_length] at e4 r4
  injection e4 with e41 e42 e43
  subst e41
  have R4 := hid r4
  clear o4 g4 r4 e42 e43
  go_wp2_with fail
  refine (heldClassS_ok A2 _ c2 1 _ R4.out (by omega) (by omega)).mono ?_
  rintro e w' ⟨rfl, rfl⟩
  have hne : ((1 + ((rs.length : Nat) : Int) * 7) != (1 + ((rs.length : Nat) : Int) * 7)) = false := by simp
  go_wp2_with fail
  refine (HI.out _).mono ?_
  rintro e w5 ⟨v5, rfl, o5, b5⟩
  obtain ⟨A5, c5, rfl, r5⟩ := o5.rc (by omega)
  have R5 := hid r5
  have D5 := hid (below_trans' D4.out b5)
  have R45 := hid (R4.out.below b5)
  clear r5 b5 o5
  go_wp2_with fail
  refine (eqClassS_ok A5 A1 _ c5 c1 _ _ R5.out (R1.out.below D5.out)).mono ?_
  rintro e w6 ⟨rfl, b6⟩
  have D6 := hid (below_trans' D5.out b6)
  have R46 := hid (R45.out.below b6)
  clear b6
  go_wp2_with fail
  refine (heldClassS_ok A2 _ c2 1 _ R46.out (by omega) (by omega)).mono ?_
  rintro e w' ⟨rfl, rfl⟩
  go_wp2
  go_ret
  exact ⟨rfl, below_trans B1.out D6.out⟩

end Go.Proofs.Ytbodpfgbelaopaa
