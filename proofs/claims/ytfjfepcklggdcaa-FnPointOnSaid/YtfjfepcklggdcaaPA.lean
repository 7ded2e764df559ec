/-
  The laws on all points.
-/
import Derived.Test.YtfjfepcklggdcaaMk
import Derived.Test.YtfjfepcklggdcaaEq
import Derived.Test.YtfjfepcklggdcaaExt
import Derived.Test.YtfjfepcklggdcaaDr
import Derived.Test.YtfjfepcklggdcaaH
namespace Go.Proofs.Ytfjfepcklggdcaa
open Go.RowKit
set_option linter.unusedVariables false
set_option linter.unusedSimpArgs false

theorem below_trans' {w0 w1 w2 : World} (h : Below w0.heap.size w0 w1) (k : Below w1.heap.size w1 w2) : Below w0.heap.size w0 w2 := h.trans (k.mono h.size)

theorem ptsB_length (p : Int) : (ptsB p).length ≤ 1000 := by
  unfold ptsB
  cases hp : isPrimeB p
  · simp
  · have hbd := isPrimeB_bd hp
    rw [if_pos rfl, allPts, allTo_length]
    have : p.toNat * p.toNat ≤ 31 * 31 := Nat.mul_le_mul (by omega) (by omega)
    omega

theorem OP.rp' {w : World} {base : Nat} {A : Option Addr} {n c : Nat} {ps : List P3} (h : OP w base (.slice A n c) ps) (hl : ps.length = n) (hn : n ≤ 4398046511104) : RP w A n ps := by
  obtain ⟨A', c', e, hr⟩ := h.rp (by omega)
  simp at e
  obtain ⟨rfl, _, _⟩ := e
  rw [hl] at hr
  exact hr

set_option maxHeartbeats 1000000 in
theorem FnExactPointAll_ok (p : Int) (w : World) (hp : (Lit.int .i64 p).wf = true) :
    Calls Try.prog 8 #[.int .i64 p] w fun e w' => e = .returned (.bool true) ∧ Below w.heap.size w w' := by
  have hlen := ptsB_length p
  go_enter Try.func8, Try.ntmps8
  go_wp2_with fail
  refine (specPointAll_ok p _).mono ?_
  rintro e w1 ⟨v1, rfl, o1, b1⟩
  obtain ⟨A1, c1, rfl, r1⟩ := o1.rp (by omega)
  have R1 := hid r1
  have B1 := hid b1
  clear r1 b1 o1
  go_wp2_with fail
  refine (implPointAll_ok p _).mono ?_
  rintro e w2 ⟨v2, rfl, o2, b2⟩
  obtain ⟨A2, c2, rfl, r2⟩ := o2.rp (by omega)
  have O2 := hid o2
  have R2 := hid r2
  have D2 := hid b2
  clear r2 b2 o2
  go_wp2_with fail
  refine (eqPointS_ok A2 _ c2 _ A1 _ c1 _ _ R2.out (R1.out.below D2.out)).mono ?_
  rintro e w3 ⟨rfl, b3⟩
  have D3 := hid (below_trans D2.out b3)
  have O3 := hid (O2.out.below b3)
  clear b3
  rw [beq_self_eq_true]
  have hbb : (isPrimeB p != isPrimeB p) = false := by simp
  go_wp2_with fail
  refine (markPointS_ok w1.heap.size A2 _ c2 (ptsB p) 1 _ O3.out (by omega) rfl (by omega) (by omega)).mono ?_
  rintro e w4 ⟨rfl, o4, g4⟩
  have O4 := hid o4
  have D4 := hid (D3.out.grown g4 D3.out.size (fun k hk => own_base O3.out k hk))
  have R4 := hid (o4.rp' (marks_length _ _) (by omega))
  clear o4 g4
  go_wp2_with fail
  refine (heldPointS_ok A2 _ c2 1 _ R4.out (by omega) (by omega)).mono ?_
  rintro e w' ⟨rfl, rfl⟩
  have hne : ((1 + ((ptsB p).length : Int) * 3) != (1 + ((ptsB p).length : Int) * 3)) = false := by simp
  go_wp2_with fail
  refine (implPointAll_ok p _).mono ?_
  rintro e w5 ⟨v5, rfl, o5, b5⟩
  obtain ⟨A5, c5, rfl, r5⟩ := o5.rp (by omega)
  have R5 := hid r5
  have D5 := hid (below_trans' D4.out b5)
  have R45 := hid (R4.out.below b5)
  clear r5 b5 o5
  go_wp2_with fail
  refine (eqPointS_ok A5 _ c5 _ A1 _ c1 _ _ R5.out (R1.out.below D5.out)).mono ?_
  rintro e w6 ⟨rfl, b6⟩
  have D6 := hid (below_trans' D5.out b6)
  have R46 := hid (R45.out.below b6)
  clear b6
  rw [beq_self_eq_true]
  go_wp2_with fail
  refine (heldPointS_ok A2 _ c2 1 _ R46.out (by omega) (by omega)).mono ?_
  rintro e w' ⟨rfl, rfl⟩
  go_wp2
  go_ret
  exact ⟨rfl, below_trans B1.out D6.out⟩

/-! ### Of all points -/
theorem allHead_mem {p : Nat} {q : P3} (h : q ∈ allHead p) : q.1 = 0 := by
  simp only [allHead, List.mem_cons, List.mem_map] at h
  rcases h with rfl | ⟨z, _, rfl⟩ <;> rfl
theorem rowPts_mem {y k : Nat} {q : P3} (h : q ∈ rowPts y k) : ∃ z : Nat, z < k ∧ q = (1, (y : Int), (z : Int)) := by
  simp only [rowPts, List.mem_map, List.mem_range] at h
  obtain ⟨z, hz, rfl⟩ := h
  exact ⟨z, hz, rfl⟩
theorem allTo_mem {p k : Nat} {q : P3} (h : q ∈ allTo p k) : q = (0, 0, 1) ∨ (∃ z : Nat, z < p ∧ q = (0, 1, (z : Int))) ∨ ∃ y z : Nat, y < k ∧ z < p ∧ q = (1, (y : Int), (z : Int)) := by
  induction k with
  | zero =>
    rw [allTo_zero] at h
    simp only [allHead, List.mem_cons, List.mem_map, List.mem_range] at h
    rcases h with rfl | ⟨z, hz, rfl⟩
    · exact .inl rfl
    · exact .inr (.inl ⟨z, hz, rfl⟩)
  | succ k ih =>
    rw [allTo_succ, List.mem_append] at h
    rcases h with h | h
    · rcases ih h with h | h | ⟨y, z, hy, hz, h⟩
      · exact .inl h
      · exact .inr (.inl h)
      · exact .inr (.inr ⟨y, z, by omega, hz, h⟩)
    · obtain ⟨z, hz, h⟩ := rowPts_mem h
      exact .inr (.inr ⟨k, z, by omega, hz, h⟩)
theorem map_nodup {f : Nat → P3} (hf : ∀ a b, f a = f b → a = b) (k : Nat) : ((List.range k).map f).Nodup := by
  induction k with
  | zero => exact List.nodup_nil
  | succ k ih =>
    rw [List.range_succ, List.map_append]
    refine List.nodup_append.2 ⟨ih, by simp, ?_⟩
    intro a ha b hb e
    simp only [List.mem_map, List.mem_range] at ha
    obtain ⟨z, hz, rfl⟩ := ha
    simp at hb
    have := hf _ _ (e.trans hb)
    omega
theorem allTo_nodup (p k : Nat) : (allTo p k).Nodup := by
  induction k with
  | zero =>
    rw [allTo_zero, allHead, List.nodup_cons]
    refine ⟨?_, map_nodup (fun a b h => by simp at h; omega) p⟩
    simp
  | succ k ih =>
    rw [allTo_succ]
    refine List.nodup_append.2 ⟨ih, map_nodup (fun a b h => by simp at h; omega) p, ?_⟩
    intro a ha b hb e
    subst e
    obtain ⟨z, _, rfl⟩ := rowPts_mem hb
    rcases allTo_mem ha with h | ⟨z', _, h⟩ | ⟨y, z', hy, _, h⟩
    · simp at h
    · simp at h
    · simp at h; omega

/-- A point modulo p, as the program tests it. -/
def isPtB (p : Int) (q : P3) : Bool := areNumbersB p [q.1, q.2.1, q.2.2] 3 && isMonicB [q.1, q.2.1, q.2.2]

theorem allPts_ok {p : Int} (hp : isPrimeB p = true) : ∀ q ∈ allPts p.toNat, isPtB p q = true := by
  intro q hq
  have hbd := isPrimeB_bd hp
  have hn : ∀ x y z : Int, 0 ≤ x → x < p → 0 ≤ y → y < p → 0 ≤ z → z < p → areNumbersB p [x, y, z] 3 = true := by
    intro x y z h1 h2 h3 h4 h5 h6
    rw [numbers_alike, specNumbersB, hp]
    have e : ∀ u : Int, 0 ≤ u → u < p → inP p u = true := fun u a b => by simp [inP, inB]; omega
    simp [e x h1 h2, e y h3 h4, e z h5 h6]
  rcases allTo_mem hq with rfl | ⟨z, hz, rfl⟩ | ⟨y, z, hy, hz, rfl⟩
  · dsimp only [isPtB]
    rw [hn _ _ _ (by omega) (by omega) (by omega) (by omega) (by omega) (by omega)]
    rfl
  · dsimp only [isPtB]
    rw [hn _ _ _ (by omega) (by omega) (by omega) (by omega) (by omega) (by omega), isMonicB_zero, isMonicB_nz _ _ (by decide)]
    rfl
  · dsimp only [isPtB]
    rw [hn _ _ _ (by omega) (by omega) (by omega) (by omega) (by omega) (by omega), isMonicB_nz _ _ (by decide)]
    rfl

theorem allPts_next (p i : Nat) (h : i + 1 < (allPts p).length) : ((((allPts p).getD (i + 1) default).1 == ((allPts p).getD i default).1 && ((allPts p).getD (i + 1) default).2.1 == ((allPts p).getD i default).2.1) && ((allPts p).getD (i + 1) default).2.2 == ((allPts p).getD i default).2.2) = false := by
  have hnd := allTo_nodup p p
  have e1 : (allPts p).getD (i + 1) default = (allPts p)[i + 1] := by simp [List.getD_eq_getElem?_getD, List.getElem?_eq_getElem h]
  have e2 : (allPts p).getD i default = (allPts p)[i] := by simp [List.getD_eq_getElem?_getD, List.getElem?_eq_getElem (show i < (allPts p).length by omega)]
  rw [e1, e2]
  cases hb : (((allPts p)[i + 1].1 == (allPts p)[i].1 && (allPts p)[i + 1].2.1 == (allPts p)[i].2.1) && (allPts p)[i + 1].2.2 == (allPts p)[i].2.2)
  · rfl
  · exfalso
    simp only [Bool.and_eq_true, beq_iff_eq] at hb
    have e : (allPts p)[i + 1] = (allPts p)[i] := Prod.ext hb.1.1 (Prod.ext hb.1.2 hb.2)
    exact List.pairwise_iff_getElem.1 hnd i (i + 1) (show i < (allPts p).length by omega) h (by omega) e.symm

set_option maxRecDepth 100000 in
theorem samePoints_ok (A : Option Addr) (n c : Nat) (ps : List P3) (A' : Option Addr) (n' c' : Nat) (qs : List P3) (w : World) (hr : RP w A n ps) (hr' : RP w A' n' qs) :
    Calls Try.prog 37 #[.slice A n c, .slice A' n' c'] w fun e w' => e = .returned (.bool (ps == qs)) ∧ Below w.heap.size w w' := by
  obtain ⟨hl, hn, b, off, hA, hc⟩ := hr
  obtain ⟨hl', hn', b', off', hA', hc'⟩ := hr'
  have HC := hid hc
  have HC' := hid hc'
  clear hc hc'
  by_cases hnn : n = n'
  · subst hnn
    go_enter Try.func37, Try.ntmps37
    go_wp2
    go_loopw [5] (fun t wr => ∃ k : Nat, k ≤ n ∧ t = .int .i64 k ∧ (ps == qs) = (ps.drop k == qs.drop k) ∧ ∃ m, wr = w.drewN m) (fun t _ => n - (intOf t).toNat)
    case atStart => exact ⟨0, by omega, rfl, rfl, 0, rfl⟩
    case round =>
      obtain ⟨k, hk, rfl, hf, m, rfl⟩ := hrel
      have HF := hid hf
      clear hf
      by_cases hlt : k < n
      · obtain rfl : A = some ⟨b, off, none⟩ := by rcases hA with h | h; omega; exact h
        obtain rfl : A' = some ⟨b', off', none⟩ := by rcases hA' with h | h; omega; exact h
        obtain ⟨c0, c1, c2⟩ := HC.out k hlt
        obtain ⟨d0, d1, d2⟩ := HC'.out k hlt
        have HE := hid (drop_eq_cons3 (show k < ps.length by omega) (show k < qs.length by omega))
        clear hA hA'
        generalize ps.getD k default = P at *
        generalize qs.getD k default = Q at *
        obtain ⟨x, y, z⟩ := P
        obtain ⟨x', y', z'⟩ := Q
        simp only at c0 c1 c2 d0 d1 d2
        have hne := run_neqPt x y z x' y' z'
        have hgd := guardPt
        cases hq : ((x == x' && y == y') && z == z')
        · have HQ := hid hq
          rw [hq] at hne
          clear hq
          go_wp2
          go_quiet (fail)
          go_wp2
          go_ret
          exact ⟨by rw [HF.out, HE.out, HQ.out]; rfl, below_drewN (below_drewN (Below.refl _ _) _) _⟩
        · have HQ := hid hq
          rw [hq] at hne
          clear hq
          go_wp2
          go_quiet (fail)
          go_wp2
          go_roundw
          case rel => exact ⟨k + 1, by omega, by go_num, by rw [HF.out, HE.out, HQ.out]; rfl, _, rfl⟩
          case measure => simp [intOf]; omega
      · obtain rfl : k = n := by omega
        have HE := hid (show (ps == qs) = true by rw [HF.out, List.drop_eq_nil_of_le (by omega), List.drop_eq_nil_of_le (by omega)]; rfl)
        go_wp2
        go_ret
        exact ⟨by rw [HE.out]; rfl, below_drewN (Below.refl _ _) _⟩
  · have HE := hid (show (ps == qs) = false by simp; intro h; subst h; omega)
    have hne : ((n : Int) != (n' : Int)) = true := by simp; omega
    go_enter Try.func37, Try.ntmps37
    go_wp2
    go_ret
    exact ⟨by rw [HE.out]; rfl, Below.refl _ _⟩

theorem DrawPointAll_ok (A : Option Addr) (n c : Nat) (xs : List Int) (w : World) (hr : RB w A n c xs) :
    Calls Try.prog 36 #[.slice A n c] w fun e w' => ∃ p : Int, e = .returned (.int .i64 p) ∧ 5 ≤ p ∧ p ≤ 31 ∧ Below w.heap.size w w' := by
  go_enter Try.func36, Try.ntmps36
  go_wp2_with fail
  refine (l6Open_ok A n c xs w hr).mono ?_
  rintro e w1 ⟨R, rfl, hR, hd, hb⟩
  have HR := hid hR
  have HB := hid hb
  clear hR hb
  go_wp2_with fail
  refine (l92Prime_ok R 0 w1 hd (by omega) (by omega)).mono ?_
  rintro e w2 ⟨p, rfl, p0, p1, hd2, hg⟩
  have HG := hid hg
  clear hg hd
  go_wp2
  go_ret
  exact ⟨p, rfl, p0, p1, gb_open HB.out HR.out HG.out⟩

set_option maxHeartbeats 1000000 in
theorem FnPointAll_ok (A : Option Addr) (n c : Nat) (xs : List Int) (w : World) (hr : n ≤ 1048576 → RB w A n c xs) :
    Calls Try.prog 11 #[.slice A n c] w fun e w' => e = .returned (.bool true) ∧ Below w.heap.size w w' := by
  by_cases hb : n ≤ 1048576
  · have HR := hid (hr hb)
    clear hr
    go_enter Try.func11, Try.ntmps11
    go_wp2_with fail
    refine (DrawPointAll_ok A n c xs w HR.out).mono ?_
    rintro e w1 ⟨p, rfl, hp0, hp1, b1⟩
    have B1 := hid b1
    have hlen := ptsB_length p
    clear b1
    go_wp2_with fail
    refine (implPointAll_ok p _).mono ?_
    rintro e w2 ⟨v2, rfl, o2, b2⟩
    obtain ⟨A2, c2, rfl, r2⟩ := o2.rp (by omega)
    have R2 := hid r2
    have D2 := hid b2
    clear r2 b2 o2
    go_wp2_with fail
    refine (specPointAll_ok p _).mono ?_
    rintro e w3 ⟨v3, rfl, o3, b3⟩
    obtain ⟨A3, c3, rfl, r3⟩ := o3.rp (by omega)
    have R3 := hid r3
    have D3 := hid (below_trans' D2.out b3)
    have R23 := hid (R2.out.below b3)
    clear r3 b3 o3
    have hbb : (isPrimeB p != isPrimeB p) = false := by simp
    go_wp2_with fail
    refine (samePoints_ok A2 _ c2 _ A3 _ c3 _ _ R23.out R3.out).mono ?_
    rintro e w4 ⟨rfl, b4⟩
    have D4 := hid (below_trans' D3.out b4)
    have R24 := hid (R23.out.below b4)
    have R34 := hid (R3.out.below b4)
    clear b4
    rw [beq_self_eq_true]
    cases hp : isPrimeB p
    · clear hp hbb
      go_wp2_with fail
      refine (samePoints_ok A2 _ c2 _ A3 _ c3 _ _ R24.out R34.out).mono ?_
      rintro e w5 ⟨rfl, b5⟩
      have D5 := hid (below_trans' D4.out b5)
      clear b5
      rw [beq_self_eq_true]
      go_wp2
      go_ret
      exact ⟨rfl, below_trans B1.out D5.out⟩
    · have HP := hid hp
      have hbd := isPrimeB_bd hp
      have hpts : ptsB p = allPts p.toNat := by rw [ptsB, hp]; rfl
      have HO := hid (allPts_ok hp)
      have hl2 : (allPts p.toNat).length = p.toNat + 1 + p.toNat * p.toNat := allTo_length _ _
      have HLen := hid hl2
      have HN := hid (allPts_next p.toNat)
      rw [hpts] at R24 hlen ⊢
      obtain ⟨hl, hn, b, off, hA, hc⟩ := R24.out
      have HC := hid hc
      clear hp hbb hc hpts hl2
      generalize hps : allPts p.toNat = ps at *
      generalize hm : ps.length = m at *
      have HM := hid hm
      clear hps hm
      go_wp2
      go_loopw [8] (fun t wr => ∃ k : Nat, k ≤ m ∧ t = .int .i64 k ∧ Below w1.heap.size w1 wr ∧ Below w4.heap.size w4 wr) (fun t _ => m - (intOf t).toNat)
      case atStart => exact ⟨0, by omega, rfl, D4.out, Below.refl _ _⟩
      case round =>
        obtain ⟨k, hk, rfl, hb1, hb4⟩ := hrel
        have E1 := hid hb1
        have E4 := hid hb4
        clear hb1 hb4
        by_cases hlt : k < m
        · obtain rfl : A2 = some ⟨b, off, none⟩ := by rcases hA with h | h; omega; exact h
          obtain ⟨d0, d1, d2⟩ := HC.out k hlt
          have c0 := cell_below E4.out d0
          have c1 := cell_below E4.out d1
          have c2 := cell_below E4.out d2
          have HOk := hid (HO.out (ps.getD k default) (by rw [show ps.getD k default = ps[k]'(by have := HM.out; omega) by simp [List.getD_eq_getElem?_getD, List.getElem?_eq_getElem (show k < ps.length by have := HM.out; omega)]]; exact List.getElem_mem _))
          clear d0 d1 d2 hA
          by_cases hk0 : k = 0
          · have hz : decide ((0 : Int) < (k : Int)) = false := by simp; omega
            have hz2 : decide (0 < k) = false := by simp; omega
            generalize ps.getD k default = P at *
            obtain ⟨x, y, z⟩ := P
            simp only at c0 c1 c2
            clear hk0
            have q0 := ext_cell c0
            have q1 := ext_cell c1
            have q2 := ext_cell c2
            have HIn := hid (fun W => implPointIn_ok p x y z W)
            rw [show (areNumbersB p [x, y, z] 3 && isMonicB [x, y, z]) = true from HOk.out] at HIn
            clear c0 c1 c2
            go_wp2
            refine wp_region_ext (by kernel_rfl) (by kernel_rfl) ?_
            repeat (go_big_quiet_step ((go_at_call 26; exact ext_call (HIn.out _))))
            refine wpQuiet_nil ?_
            rintro _ ⟨⟨w5, b5⟩, rfl⟩
            have B5 := hid b5
            clear b5
            go_wp2
            go_roundw
            case rel => exact ⟨k + 1, by omega, by go_num, below_trans' E1.out B5.out, below_trans' E4.out B5.out⟩
            case measure => simp [intOf]; omega
          · obtain ⟨j, rfl⟩ : ∃ j, k = j + 1 := ⟨k - 1, by omega⟩
            have hz : decide ((0 : Int) < ((j + 1 : Nat) : Int)) = true := decide_eq_true (by omega)
            have hz2 : decide (0 < j + 1) = true := by simp
            obtain ⟨f0, f1, f2⟩ := HC.out j (by omega)
            have g0 := ext_cell (cell_below E4.out f0)
            have g1 := ext_cell (cell_below E4.out f1)
            have g2 := ext_cell (cell_below E4.out f2)
            have HNx := hid (HN.out j (by omega))
            generalize ps.getD (j + 1) default = P at *
            generalize ps.getD j default = Q at *
            obtain ⟨x, y, z⟩ := P
            obtain ⟨x', y', z'⟩ := Q
            simp only at c0 c1 c2 g0 g1 g2
            have hne := run_eqlPt x y z x' y' z'
            rw [HNx.out] at hne
            have hgd := guardPt
            have q0 := ext_cell c0
            have q1 := ext_cell c1
            have q2 := ext_cell c2
            have HIn := hid (fun W => implPointIn_ok p x y z W)
            rw [show (areNumbersB p [x, y, z] 3 && isMonicB [x, y, z]) = true from HOk.out] at HIn
            clear c0 c1 c2 hk0 f0 f1 f2
            go_wp2
            refine wp_region_ext (by kernel_rfl) (by kernel_rfl) ?_
            repeat (go_big_quiet_step ((go_at_call 26; exact ext_call (HIn.out _))))
            refine wpQuiet_nil ?_
            rintro _ ⟨⟨w5, b5⟩, rfl⟩
            have B5 := hid b5
            clear b5
            go_wp2
            go_roundw
            case rel => exact ⟨j + 1 + 1, by omega, by go_num, below_trans' E1.out B5.out, below_trans' E4.out B5.out⟩
            case measure => simp [intOf]; omega
        · obtain rfl : k = m := by omega
          have hpp := mul_bd (show 0 ≤ p by omega) (show 0 ≤ p by omega) hp1 hp1
          have hpp0 := hpp.1
          have hpp1 := hpp.2
          have hfin : ((k : Int) == p * p + p + 1) = true := by
            have h := HLen.out
            obtain ⟨q, rfl⟩ := Int.eq_ofNat_of_zero_le (show 0 ≤ p by omega)
            rw [Int.toNat_natCast] at h
            simp only [beq_iff_eq]
            rw [h]
            omega
          clear hpp
          go_wp2
          go_ret
          exact ⟨rfl, below_trans B1.out E1.out⟩
  · clear hr
    go_enter Try.func11, Try.ntmps11
    go_wp2
    go_ret
    exact ⟨rfl, Below.refl _ _⟩

end Go.Proofs.Ytfjfepcklggdcaa
