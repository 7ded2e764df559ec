/-
  Sums of products, points on lines; the law of PointOn.
-/
import Derived.Test.YtkhkcgoblibnpaaF
import Derived.Test.YtkhkcgoblibnpaaExt
namespace Go.Proofs.Ytkhkcgoblibnpaa
open Go.RowKit
set_option linter.unusedVariables false
set_option linter.unusedSimpArgs false

theorem tmod_bd (n p : Int) (hp : 0 < p) : -p < n.tmod p ∧ n.tmod p < p := by
  have h1 := Int.tmod_lt_of_pos n hp
  have h2 := Int.tmod_lt_of_pos (-n) hp
  rw [Int.neg_tmod] at h2
  omega
theorem mod_eq (n p : Int) (hp : 0 < p) : (n.tmod p + p).tmod p = n % p := by
  have h := tmod_bd n p hp
  rw [Int.tmod_eq_emod_of_nonneg (by omega), Int.add_emod_right]
  have e := Int.tmod_add_mul_tdiv n p
  conv => rhs; rw [← e]
  rw [Int.add_mul_emod_self_left]

theorem mod_ok (n p : Int) (w : World) (hp : 1 ≤ p) (hp2 : p ≤ 31) (hn : -1000000000000 ≤ n) (hn2 : n ≤ 1000000000000) :
    Calls Try.prog 72 #[.int .i64 n, .int .i64 p] w fun e w' => e = .returned (.int .i64 (n % p)) ∧ w = w' := by
  have hb := tmod_bd n p (by omega)
  have hb1 := hb.1
  have hb2 := hb.2
  have HE := hid (show (n.tmod p + p) % p = n % p from (Int.tmod_eq_emod_of_nonneg (by omega)).symm.trans (mod_eq n p (by omega)))
  have hz := tmod_bd (n.tmod p + p) p (by omega)
  have hz1 := hz.1
  have hz2 := hz.2
  clear hb hz
  go_enter Try.func72, Try.ntmps72
  go_wp2
  go_ret
  exact ⟨by rw [← HE.out]; rfl, rfl⟩

def dotTo (xs ys : List Int) : Nat → Int
  | 0 => 0
  | k + 1 => dotTo xs ys k + xs.getD k 0 * ys.getD k 0

theorem dotTo_bd {xs ys : List Int} {M : Int} (hM : 0 ≤ M) (k : Nat) (h : ∀ i, i < k → -M ≤ xs.getD i 0 * ys.getD i 0 ∧ xs.getD i 0 * ys.getD i 0 ≤ M) : -(k * M) ≤ dotTo xs ys k ∧ dotTo xs ys k ≤ k * M := by
  induction k with
  | zero => simp [dotTo]
  | succ k ih =>
    have h1 := ih fun i hi => h i (by omega)
    have h2 := h k (by omega)
    rw [dotTo]
    have e : ((k + 1 : Nat) : Int) * M = k * M + M := by rw [Int.natCast_add]; simp [Int.add_mul]
    rw [e]
    omega

theorem dot_ok (p : Int) (A : Option Addr) (n c : Nat) (xs : List Int) (A' : Option Addr) (c' : Nat) (ys : List Int) (w : World) (hr : RI w A n xs) (hr' : RI w A' n ys) (hp : 1 ≤ p) (hp2 : p ≤ 31) (hn : n ≤ 100)
    (hbd : ∀ i, i < n → -1000000000 ≤ xs.getD i 0 * ys.getD i 0 ∧ xs.getD i 0 * ys.getD i 0 ≤ 1000000000) :
    Calls Try.prog 44 #[.int .i64 p, .slice A n c, .slice A' n c'] w fun e w' => e = .returned (.int .i64 (dotTo xs ys n % p)) ∧ w = w' := by
  obtain ⟨hl, _, b, off, hA, hc⟩ := hr
  obtain ⟨hl', _, b', off', hA', hc'⟩ := hr'
  have HC := hid hc
  have HC' := hid hc'
  have HB := hid hbd
  have hsum : ∀ k, k ≤ n → -100000000000 ≤ dotTo xs ys k ∧ dotTo xs ys k ≤ 100000000000 := fun k hk => by
    have := dotTo_bd (M := 1000000000) (by omega) k fun i hi => hbd i (by omega)
    omega
  have HS := hid hsum
  clear hc hc' hbd hsum
  go_enter Try.func44, Try.ntmps44
  go_wp2
  go_loop [7, 12] (fun s t => ∃ k : Nat, k ≤ n ∧ t = .int .i64 k ∧ s = .int .i64 (dotTo xs ys k)) (fun _ t => n - (intOf t).toNat)
  case atStart => exact ⟨0, by omega, rfl, rfl⟩
  case round =>
    obtain ⟨k, hk, rfl, rfl⟩ := hrel
    have hs1 := (HS.out k hk).1
    have hs2 := (HS.out k hk).2
    by_cases hlt : k < n
    · obtain rfl : A = some ⟨b, off, none⟩ := by rcases hA with h | h; omega; exact h
      obtain rfl : A' = some ⟨b', off', none⟩ := by rcases hA' with h | h; omega; exact h
      have hcx := HC.out k hlt
      have hcy := HC'.out k hlt
      have hm1 := (HB.out k hlt).1
      have hm2 := (HB.out k hlt).2
      have HT := hid (show dotTo xs ys (k + 1) = dotTo xs ys k + xs.getD k 0 * ys.getD k 0 from rfl)
      generalize xs.getD k 0 = x at *
      generalize ys.getD k 0 = y at *
      go_wp2
      go_round
      case rel => exact ⟨k + 1, by omega, by go_num, by rw [HT.out]⟩
      case measure => simp [intOf]; omega
    · obtain rfl : k = n := by omega
      have HG := hid hs1
      generalize hs : dotTo xs ys k = s at *
      have HSS := hid hs
      go_wp2_with (go_at_call 72; refine (mod_ok s p w hp hp2 (by omega) (by omega)).mono ?_; rintro e w' ⟨rfl, rfl⟩)
      go_ret
      exact ⟨by simp [HSS.out], rfl⟩

theorem l4On_ok (p x y z : Int) (A : Option Addr) (n c : Nat) (ls : List Int) (w : World) (hr : RI w A n ls) (hn : n = 3) (hp : 1 ≤ p) (hp2 : p ≤ 31) (hx : 0 ≤ x ∧ x ≤ 31) (hy : 0 ≤ y ∧ y ≤ 31) (hz : 0 ≤ z ∧ z ≤ 31) (hls : ∀ i, i < 3 → 0 ≤ ls.getD i 0 ∧ ls.getD i 0 ≤ 31) :
    Calls Try.prog 82 #[.int .i64 p, .agg #[.int .i64 x, .int .i64 y, .int .i64 z], .slice A n c] w fun e w' => e = .returned (.bool (dotTo [x, y, z] ls 3 % p == 0)) ∧ Below w.heap.size w w' := by
  subst hn
  obtain ⟨hl, _, b, off, hA, hc⟩ := hr
  obtain rfl : A = some ⟨b, off, none⟩ := by rcases hA with h | h; omega; exact h
  have hb0 : b < w.heap.size := World.block_lt_of_cell? w _ (hc 0 (by omega))
  have c0 : (w.alloc (.cells #[.int .i64 x, .int .i64 y, .int .i64 z] 35)).cell? ⟨b, off, none⟩ = _ := cell_below (below_alloc w _) (hc 0 (by omega))
  have c1 : (w.alloc (.cells #[.int .i64 x, .int .i64 y, .int .i64 z] 35)).cell? ⟨b, off + 1, none⟩ = _ := cell_below (below_alloc w _) (hc 1 (by omega))
  have c2 : (w.alloc (.cells #[.int .i64 x, .int .i64 y, .int .i64 z] 35)).cell? ⟨b, off + 2, none⟩ = _ := cell_below (below_alloc w _) (hc 2 (by omega))
  have HT := hid (show dotTo [x, y, z] ls 3 = 0 + x * ls.getD 0 0 + y * ls.getD 1 0 + z * ls.getD 2 0 from rfl)
  have m0 := mul_bd hx.1 (hls 0 (by omega)).1 hx.2 (hls 0 (by omega)).2
  have m1 := mul_bd hy.1 (hls 1 (by omega)).1 hy.2 (hls 1 (by omega)).2
  have m2 := mul_bd hz.1 (hls 2 (by omega)).1 hz.2 (hls 2 (by omega)).2
  clear hls hc hA hx hy hz
  generalize ls.getD 0 0 = l0 at *
  generalize ls.getD 1 0 = l1 at *
  generalize ls.getD 2 0 = l2 at *
  have m00 := m0.1
  have m01 := m0.2
  have m10 := m1.1
  have m11 := m1.2
  have m20 := m2.1
  have m21 := m2.2
  clear m0 m1 m2
  have HE := hid (show (x * l0 + y * l1 + z * l2).tmod p = (x * l0 + y * l1 + z * l2) % p from Int.tmod_eq_emod_of_nonneg (by omega))
  go_enter Try.func82, Try.ntmps82
  go_wp2
  go_quiet (fail)
  go_wp2
  go_ret
  exact ⟨by rw [HT.out, Int.zero_add, ← HE.out]; rfl, below_drewN (below_alloc _ _) _⟩


def onB (p x y z l m n : Int) : Bool := (specPointB p x y z && specPointB p l m n) && (dotTo [x, y, z] [l, m, n] 3 % p == 0)

theorem specPoint_bd {p x y z : Int} (h : specPointB p x y z = true) : (7 ≤ p ∧ p ≤ 31) ∧ (0 ≤ x ∧ x < p) ∧ (0 ≤ y ∧ y < p) ∧ (0 ≤ z ∧ z < p) := by
  rw [specPointB, l4IsB, Bool.and_eq_true, Bool.and_eq_true] at h
  have hp := isPrimeB_bd h.1
  have ha := all_inP_bd h.2.1
  exact ⟨hp, ha x (by simp), ha y (by simp), ha z (by simp)⟩

theorem implPointIn_ok' (p x y z : Int) (w : World) :
    Calls Try.prog 43 #[.int .i64 p, .agg #[.int .i64 x, .int .i64 y, .int .i64 z]] w fun e w' => e = .returned (.bool (specPointB p x y z)) ∧ Below w.heap.size w w' := by
  rw [← points_alike]
  exact isPoint_ok p x y z w

theorem getD3 (x y z : Int) (q : Int → Prop) (hx : q x) (hy : q y) (hz : q z) : ∀ i, i < 3 → q ([x, y, z].getD i 0) := by
  intro i hi
  match i, hi with
  | 0, _ => exact hx
  | 1, _ => exact hy
  | 2, _ => exact hz
theorem dot3_bd {p x y z l m n : Int} (hp : p ≤ 31) (hx : 0 ≤ x ∧ x < p) (hy : 0 ≤ y ∧ y < p) (hz : 0 ≤ z ∧ z < p) (hl : 0 ≤ l ∧ l < p) (hm : 0 ≤ m ∧ m < p) (hn : 0 ≤ n ∧ n < p) :
    ∀ i, i < 3 → -1000000000 ≤ [x, y, z].getD i 0 * [l, m, n].getD i 0 ∧ [x, y, z].getD i 0 * [l, m, n].getD i 0 ≤ 1000000000 := by
  intro i hi
  have h1 := getD3 x y z (fun u => 0 ≤ u ∧ u ≤ 31) (by omega) (by omega) (by omega) i hi
  have h2 := getD3 l m n (fun u => 0 ≤ u ∧ u ≤ 31) (by omega) (by omega) (by omega) i hi
  have h3 := mul_bd h1.1 h2.1 h1.2 h2.2
  omega

set_option maxHeartbeats 1000000 in
theorem implPointOn_ok (p x y z l m n : Int) (w : World) :
    Calls Try.prog 34 #[.int .i64 p, .agg #[.int .i64 x, .int .i64 y, .int .i64 z], .agg #[.int .i64 l, .int .i64 m, .int .i64 n]] w fun e w' => e = .returned (.bool (onB p x y z l m n)) ∧ Below w.heap.size w w' := by
  have HD := hid (show onB p x y z l m n = ((specPointB p x y z && specPointB p l m n) && (dotTo [x, y, z] [l, m, n] 3 % p == 0)) from rfl)
  have HA := hid (fun (a b c : Int) (r : Bool) (hr : specPointB p a b c = r) (W : World) => hr ▸ implPointIn_ok' p a b c W)
  have c0 := ext_cell (w := (w.alloc (.cells #[.int .i64 x, .int .i64 y, .int .i64 z] 35)).alloc (.cells #[.int .i64 l, .int .i64 m, .int .i64 n] 35)) (a := ⟨w.heap.size, 0, none⟩) (v := .int .i64 x) (by simp [go_sem])
  have c1 := ext_cell (w := (w.alloc (.cells #[.int .i64 x, .int .i64 y, .int .i64 z] 35)).alloc (.cells #[.int .i64 l, .int .i64 m, .int .i64 n] 35)) (a := ⟨w.heap.size, 1, none⟩) (v := .int .i64 y) (by simp [go_sem])
  have c2 := ext_cell (w := (w.alloc (.cells #[.int .i64 x, .int .i64 y, .int .i64 z] 35)).alloc (.cells #[.int .i64 l, .int .i64 m, .int .i64 n] 35)) (a := ⟨w.heap.size, 2, none⟩) (v := .int .i64 z) (by simp [go_sem])
  have d0 := ext_cell (w := (w.alloc (.cells #[.int .i64 x, .int .i64 y, .int .i64 z] 35)).alloc (.cells #[.int .i64 l, .int .i64 m, .int .i64 n] 35)) (a := ⟨w.heap.size + 1, 0, none⟩) (v := .int .i64 l) (by simp [go_sem])
  have d1 := ext_cell (w := (w.alloc (.cells #[.int .i64 x, .int .i64 y, .int .i64 z] 35)).alloc (.cells #[.int .i64 l, .int .i64 m, .int .i64 n] 35)) (a := ⟨w.heap.size + 1, 1, none⟩) (v := .int .i64 m) (by simp [go_sem])
  have d2 := ext_cell (w := (w.alloc (.cells #[.int .i64 x, .int .i64 y, .int .i64 z] 35)).alloc (.cells #[.int .i64 l, .int .i64 m, .int .i64 n] 35)) (a := ⟨w.heap.size + 1, 2, none⟩) (v := .int .i64 n) (by simp [go_sem])
  have R1 := hid ((RI_box3 w x y z 35).below (below_alloc _ (.cells #[.int .i64 l, .int .i64 m, .int .i64 n] 35)))
  have R2 := hid (RI_box3 (w.alloc (.cells #[.int .i64 x, .int .i64 y, .int .i64 z] 35)) l m n 35)
  have HB := hid (show Below w.heap.size w ((w.alloc (.cells #[.int .i64 x, .int .i64 y, .int .i64 z] 35)).alloc (.cells #[.int .i64 l, .int .i64 m, .int .i64 n] 35)) from below_trans (below_alloc _ _) (below_alloc _ _))
  rw [World.size_alloc] at R2
  cases h1 : specPointB p x y z
  · rw [h1] at HD
    go_enter Try.func34, Try.ntmps34
    go_wp2
    refine wp_region_ext (by kernel_rfl) (by kernel_rfl) ?_
    repeat (go_big_quiet_step ((go_at_call 43; first | (refine ext_call (HA.out _ _ _ true ?_ _); with_reducible assumption) | (refine ext_call (HA.out _ _ _ false ?_ _); with_reducible assumption))))
    refine wpQuiet_nil ?_
    rintro _ ⟨⟨w5, b5⟩, rfl⟩
    have B5 := hid (below_trans HB.out b5)
    clear b5
    go_wp2
    go_ret
    exact ⟨by rw [HD.out]; rfl, B5.out⟩
  · rw [h1] at HD
    have H1 := hid h1
    cases h2 : specPointB p l m n
    · rw [h2] at HD
      go_enter Try.func34, Try.ntmps34
      go_wp2
      refine wp_region_ext (by kernel_rfl) (by kernel_rfl) ?_
      repeat (go_big_quiet_step ((go_at_call 43; first | (refine ext_call (HA.out _ _ _ true ?_ _); with_reducible assumption) | (refine ext_call (HA.out _ _ _ false ?_ _); with_reducible assumption))))
      refine wpQuiet_nil ?_
      rintro _ ⟨⟨w5, b5⟩, rfl⟩
      have B5 := hid (below_trans HB.out b5)
      clear b5
      go_wp2
      go_ret
      exact ⟨by rw [HD.out]; rfl, B5.out⟩
    · rw [h2] at HD
      have bx := specPoint_bd H1.out
      have bl := specPoint_bd h2
      have HT := hid (fun (d : Ext ((w.alloc (.cells #[.int .i64 x, .int .i64 y, .int .i64 z] 35)).alloc (.cells #[.int .i64 l, .int .i64 m, .int .i64 n] 35))) => dot_ok p _ 3 3 [x, y, z] _ 3 [l, m, n] d.at_ (R1.out.below d.below) (R2.out.below d.below) (by omega) (by omega) (by omega) (dot3_bd (by omega) bx.2.1 bx.2.2.1 bx.2.2.2 bl.2.1 bl.2.2.1 bl.2.2.2))
      have hdd : onB p x y z l m n = (dotTo [x, y, z] [l, m, n] 3 % p == 0) := HD.out
      rw [hdd]
      generalize dotTo [x, y, z] [l, m, n] 3 % p = D at *
      clear hdd HD bx bl H1
      go_enter Try.func34, Try.ntmps34
      go_wp2
      refine wp_region_ext (by kernel_rfl) (by kernel_rfl) ?_
      repeat (go_big_quiet_step (first | (go_at_call 43; first | (refine ext_call (HA.out _ _ _ true ?_ _); with_reducible assumption) | (refine ext_call (HA.out _ _ _ false ?_ _); with_reducible assumption)) | (go_at_call 44; exact ext_pure (HT.out _))))
      refine wpQuiet_nil ?_
      rintro _ ⟨⟨w5, b5⟩, rfl⟩
      have B5 := hid (below_trans HB.out b5)
      clear b5
      go_wp2
      go_ret
      exact ⟨rfl, B5.out⟩



end Go.Proofs.Ytkhkcgoblibnpaa
