/-
  The reference's points of three numbers, and lines through two points.
-/
import Derived.Test.YtkhkcgoblibnpaaOn
import Derived.Test.YtkhkcgoblibnpaaEq
import Derived.StillTailTactics
namespace Go.Proofs.Ytkhkcgoblibnpaa
open Go.RowKit
set_option linter.unusedVariables false
set_option linter.unusedSimpArgs false

theorem l4Mod_ok (n p : Int) (w : World) (hp : 1 ≤ p) (hp2 : p ≤ 31) (hn : -1000000000000 ≤ n) (hn2 : n ≤ 1000000000000) :
    Calls Try.prog 93 #[.int .i64 p, .int .i64 n] w fun e w' => e = .returned (.int .i64 (n % p)) ∧ w' = w := by
  have hb := tmod_bd n p (by omega)
  have hb1 := hb.1
  have hb2 := hb.2
  have HE := hid (show (n.tmod p + p) % p = n % p from (Int.tmod_eq_emod_of_nonneg (by omega)).symm.trans (mod_eq n p (by omega)))
  have hz := tmod_bd (n.tmod p + p) p (by omega)
  have hz1 := hz.1
  have hz2 := hz.2
  clear hb hz
  go_enter Try.func93, Try.ntmps93
  go_wp2
  go_ret
  exact ⟨by rw [← HE.out]; rfl, rfl⟩

def ptRow (p : Int) (row : List Int) : Int × Int × Int := ((rowS p row).getD 0 0, (rowS p row).getD 1 0, (rowS p row).getD 2 0)

set_option maxRecDepth 100000 in
set_option maxHeartbeats 1000000 in
theorem l4Point_ok (p : Int) (A : Option Addr) (c : Nat) (row : List Int) (w : World) (hp : 1 ≤ p) (hp2 : p ≤ 31) (hr : RI w A 3 row) (hx : ∀ q ∈ row, 0 ≤ q ∧ q ≤ 1000) :
    Calls Try.prog 103 #[.int .i64 p, .slice A 3 c] w fun e w' => e = .returned (.agg #[.int .i64 (ptRow p row).1, .int .i64 (ptRow p row).2.1, .int .i64 (ptRow p row).2.2]) ∧ Below w.heap.size w w' := by
  have HR := hid (hr.alloc (.cells #[.int .i64 0, .int .i64 0, .int .i64 0] 35))
  have HX := hid hx
  have hlen := hid ((rowS_length p row).trans hr.1)
  have HP := hid (show ptRow p row = ((rowS p row).getD 0 0, (rowS p row).getD 1 0, (rowS p row).getD 2 0) from rfl)
  clear hr hx
  go_enter Try.func103, Try.ntmps103
  go_wp2_with fail
  refine (l4Row_ok p A 3 c row _ hp hp2 HR.out HX.out).mono ?_
  rintro e w1 ⟨v, rfl, hown, hb⟩
  have HB := hid (below_alloc_then hb)
  have CL := hid (cells_last hb w.heap.size rfl)
  generalize rowS p row = r at *
  obtain ⟨g, cap, rfl, hg, hglt, hcell⟩ := hown.shape (by have := hlen.out; omega)
  have c0 := hcell 0 (by have := hlen.out; omega)
  have c1 := hcell 1 (by have := hlen.out; omega)
  have c2 := hcell 2 (by have := hlen.out; omega)
  have hl3 := hlen.out
  rw [hl3]
  have k0 := CL.out.1 0 _ rfl
  have k1 := CL.out.1 1 _ rfl
  have k2 := CL.out.1 2 _ rfl
  have f0 := CL.out.2.1 0
  have f1 := CL.out.2.1 1
  have f2 := CL.out.2.1 2
  have hgne : g ≠ w.heap.size := by simp at hg; omega
  clear hcell hb hown hl3 hg
  generalize r.getD 0 0 = a at *
  generalize r.getD 1 0 = b at *
  generalize r.getD 2 0 = d at *
  go_wp2
  go_still_tail 11, (by kernel_rfl)
  change wpList _ _ _ _ _ (World.drew _)
  have k0' : w1.drew.cell? ⟨w.heap.size, 0, none⟩ = _ := k0
  have k1' : w1.drew.cell? ⟨w.heap.size, 1, none⟩ = _ := k1
  have k2' : w1.drew.cell? ⟨w.heap.size, 2, none⟩ = _ := k2
  have f0' : w1.drew.frozen? ⟨w.heap.size, 0, none⟩ = _ := f0
  have f1' : w1.drew.frozen? ⟨w.heap.size, 1, none⟩ = _ := f1
  have f2' : w1.drew.frozen? ⟨w.heap.size, 2, none⟩ = _ := f2
  have HB2 := hid (below_drewN HB.out 1)
  have HBD := hid (show Below w.heap.size w w1.drew from HB2.out)
  clear k0 k1 k2 f0 f1 f2 c0 c1 c2
  generalize w1.drew = W at *
  go_wp2
  refine bodyPost_ret (v := .agg #[.int .i64 a, .int .i64 b, .int .i64 d]) (by simp [results, Try.results103, go_sem, k0', k1', k2', f0', f1', f2']) rfl ⟨by rw [HP.out], ?_⟩
  exact ((HBD.out.setCell (Nat.le_refl _) _).setCell (Nat.le_refl _) _).setCell (Nat.le_refl _) _


def pofB (p x y z : Int) : Bool := (((isPrimeB p && inB x (-1000) 1000) && inB y (-1000) 1000) && inB z (-1000) 1000) && !zeroB [x % p, y % p, z % p]
def pofV (p x y z : Int) : Int × Int × Int := if pofB p x y z then ptRow p [x % p, y % p, z % p] else (0, 0, 0)
def ptVal (q : Int × Int × Int) : Value := .agg #[.int .i64 q.1, .int .i64 q.2.1, .int .i64 q.2.2]

theorem RI_at (w : World) (k : Nat) (hk : k = w.heap.size) (xs : List Int) (cs : Array Value) (t : TypeId) (n : Nat) (hcs : cs = (xs.map (Value.int .i64)).toArray) (hx : xs.length = n) (hn : n ≤ 17592186044416) :
    RI (w.alloc (.cells cs t)) (some ⟨k, 0, none⟩) n xs := by
  subst hk
  exact RI_new w xs cs t n hcs hx hn

theorem inB_bd {x a b : Int} (h : inB x a b = true) : a ≤ x ∧ x ≤ b := by
  simpa [inB] using h
theorem emod3_bd {p : Int} (hp : 1 ≤ p) (hp2 : p ≤ 31) (x y z : Int) : ∀ q ∈ [x % p, y % p, z % p], 0 ≤ q ∧ q ≤ 1000 := by
  intro q hq
  simp at hq
  have h : ∀ u : Int, 0 ≤ u % p ∧ u % p < p := fun u => ⟨Int.emod_nonneg _ (by omega), Int.emod_lt_of_pos _ (by omega)⟩
  rcases hq with rfl | rfl | rfl
  · have := h x; omega
  · have := h y; omega
  · have := h z; omega

set_option maxHeartbeats 2000000 in
theorem specPointOf_ok (p x y z : Int) (w : World) :
    Calls Try.prog 97 #[.int .i64 p, .int .i64 x, .int .i64 y, .int .i64 z] w fun e w' => e = .returned (.tuple #[ptVal (pofV p x y z), .bool (pofB p x y z)]) ∧ Below w.heap.size w w' := by
  have HB := hid (show pofB p x y z = ((((isPrimeB p && inB x (-1000) 1000) && inB y (-1000) 1000) && inB z (-1000) 1000) && !zeroB [x % p, y % p, z % p]) from rfl)
  have HV := hid (show pofV p x y z = if pofB p x y z then ptRow p [x % p, y % p, z % p] else (0, 0, 0) from rfl)
  have no : pofB p x y z = false → ((pofB p x y z = false) ∧ (pofV p x y z = (0, 0, 0))) := fun h => ⟨h, by rw [HV.out, h]; rfl⟩
  have NO := hid no
  clear no
  cases h0 : isPrimeB p
  · have HP := hid h0
    clear h0
    obtain ⟨hb, hv⟩ := NO.out (by rw [HB.out, HP.out]; rfl)
    have Hb := hid hb
    have Hv := hid hv
    clear hb hv
    go_enter Try.func97, Try.ntmps97
    go_wp2_with (first | (go_at_call 76; refine (specPrimeIn_ok p _).mono ?_; rintro e w' ⟨rfl, rfl⟩; rw [HP.out]) | (go_at_call 96; refine (l6In_ok _ _ _ _).mono ?_; rintro e w' ⟨rfl, rfl⟩; first | fail))
    refine bodyPost_ret (v := .tuple #[.agg #[.int .i64 0, .int .i64 0, .int .i64 0], .bool false]) (by simp [results, Try.results97, go_sem]) rfl ⟨by rw [Hb.out, Hv.out]; rfl, ?_⟩
    first | exact below_alloc _ _ | exact (below_alloc _ _).setCell (Nat.le_refl _) _
  · have HP := hid h0
    have hbd := isPrimeB_bd h0
    clear h0
    cases h1 : inB x (-1000) 1000
    · have HX := hid h1
      clear h1
      obtain ⟨hb, hv⟩ := NO.out (by rw [HB.out, HP.out, HX.out]; rfl)
      have Hb := hid hb
      have Hv := hid hv
      clear hb hv
      go_enter Try.func97, Try.ntmps97
      go_wp2_with (first | (go_at_call 76; refine (specPrimeIn_ok p _).mono ?_; rintro e w' ⟨rfl, rfl⟩; rw [HP.out]) | (go_at_call 96; refine (l6In_ok _ _ _ _).mono ?_; rintro e w' ⟨rfl, rfl⟩; first | rw [HX.out]))
      refine bodyPost_ret (v := .tuple #[.agg #[.int .i64 0, .int .i64 0, .int .i64 0], .bool false]) (by simp [results, Try.results97, go_sem]) rfl ⟨by rw [Hb.out, Hv.out]; rfl, ?_⟩
      first | exact below_alloc _ _ | exact (below_alloc _ _).setCell (Nat.le_refl _) _
    · have HX := hid h1
      have b1 := inB_bd h1
      have b1l := b1.1
      have b1r := b1.2
      clear h1 b1
      cases h2 : inB y (-1000) 1000
      · have HY := hid h2
        clear h2
        obtain ⟨hb, hv⟩ := NO.out (by rw [HB.out, HP.out, HX.out, HY.out]; rfl)
        have Hb := hid hb
        have Hv := hid hv
        clear hb hv
        go_enter Try.func97, Try.ntmps97
        go_wp2_with (first | (go_at_call 76; refine (specPrimeIn_ok p _).mono ?_; rintro e w' ⟨rfl, rfl⟩; rw [HP.out]) | (go_at_call 96; refine (l6In_ok _ _ _ _).mono ?_; rintro e w' ⟨rfl, rfl⟩; first | rw [HX.out] | rw [HY.out]))
        refine bodyPost_ret (v := .tuple #[.agg #[.int .i64 0, .int .i64 0, .int .i64 0], .bool false]) (by simp [results, Try.results97, go_sem]) rfl ⟨by rw [Hb.out, Hv.out]; rfl, ?_⟩
        first | exact below_alloc _ _ | exact (below_alloc _ _).setCell (Nat.le_refl _) _
      · have HY := hid h2
        have b2 := inB_bd h2
        have b2l := b2.1
        have b2r := b2.2
        clear h2 b2
        cases h3 : inB z (-1000) 1000
        · have HZ := hid h3
          clear h3
          obtain ⟨hb, hv⟩ := NO.out (by rw [HB.out, HP.out, HX.out, HY.out, HZ.out]; rfl)
          have Hb := hid hb
          have Hv := hid hv
          clear hb hv
          go_enter Try.func97, Try.ntmps97
          go_wp2_with (first | (go_at_call 76; refine (specPrimeIn_ok p _).mono ?_; rintro e w' ⟨rfl, rfl⟩; rw [HP.out]) | (go_at_call 96; refine (l6In_ok _ _ _ _).mono ?_; rintro e w' ⟨rfl, rfl⟩; first | rw [HX.out] | rw [HY.out] | rw [HZ.out]))
          refine bodyPost_ret (v := .tuple #[.agg #[.int .i64 0, .int .i64 0, .int .i64 0], .bool false]) (by simp [results, Try.results97, go_sem]) rfl ⟨by rw [Hb.out, Hv.out]; rfl, ?_⟩
          first | exact below_alloc _ _ | exact (below_alloc _ _).setCell (Nat.le_refl _) _
        · have HZ := hid h3
          have b3 := inB_bd h3
          have b3l := b3.1
          have b3r := b3.2
          clear h3 b3
          have BD := hid (emod3_bd (p := p) (by omega) (by omega) x y z)
          have HBp := hid (show pofB p x y z = !zeroB [x % p, y % p, z % p] by rw [HB.out, HP.out, HX.out, HY.out, HZ.out]; rfl)
          have HM := hid (fun (n : Int) (W : World) (h1 : -1000000000000 ≤ n) (h2 : n ≤ 1000000000000) => l4Mod_ok n p W (by omega) (by omega) h1 h2)
          have hx0 : -1000000000000 ≤ x := by omega
          have HRI := hid (fun (W : World) (k : Nat) (hk : k = W.heap.size) => RI_at W k hk [x % p, y % p, z % p] #[.int .i64 (x % p), .int .i64 (y % p), .int .i64 (z % p)] 3 3 rfl rfl (by decide))
          cases hz : zeroB [x % p, y % p, z % p]
          · have HZ0 := hid hz
            have Hb := hid (show pofB p x y z = true by rw [HBp.out, hz]; rfl)
            have Hv := hid (show pofV p x y z = ptRow p [x % p, y % p, z % p] by rw [HV.out, Hb.out]; rfl)
            clear hz
            go_enter Try.func97, Try.ntmps97
            go_wp2_with (first | (go_at_call 76; refine (specPrimeIn_ok p _).mono ?_; rintro e w' ⟨rfl, rfl⟩; rw [HP.out]) | (go_at_call 96; refine (l6In_ok _ _ _ _).mono ?_; rintro e w' ⟨rfl, rfl⟩; first | rw [HX.out] | rw [HY.out] | rw [HZ.out]))
            refine (l4Mod_ok x p _ (by omega) (by omega) (by omega) (by omega)).mono ?_
            rintro e w1 ⟨rfl, rfl⟩
            go_wp2_with fail
            refine (l4Mod_ok y p _ (by omega) (by omega) (by omega) (by omega)).mono ?_
            rintro e w1 ⟨rfl, rfl⟩
            go_wp2_with fail
            refine (l4Mod_ok z p _ (by omega) (by omega) (by omega) (by omega)).mono ?_
            rintro e w1 ⟨rfl, rfl⟩
            go_wp2_with fail
            refine (l4Zero_ok _ 3 3 [x % p, y % p, z % p] _ (HRI.out _ _ (by simp))).mono ?_
            rintro e w' ⟨rfl, rfl⟩
            rw [HZ0.out]
            go_wp2_with fail
            refine (l4Point_ok p _ 3 [x % p, y % p, z % p] _ (by omega) (by omega) (HRI.out _ _ (by simp)) BD.out).mono ?_
            rintro e w2 ⟨rfl, b2⟩
            have B2 := hid (below_alloc_then (below_alloc_then b2))
            have CL := hid (cells_second b2 w.heap.size rfl)
            have k0 := CL.out.1 0 _ rfl
            have k1 := CL.out.1 1 _ rfl
            have k2 := CL.out.1 2 _ rfl
            have f0 := CL.out.2.1 0
            have f1 := CL.out.2.1 1
            have f2 := CL.out.2.1 2
            clear b2
            go_wp2
            refine bodyPost_ret (v := .tuple #[ptVal (ptRow p [x % p, y % p, z % p]), .bool true]) (by simp [results, Try.results97, go_sem, k0, k1, k2, f0, f1, f2, ptVal]) rfl ⟨by rw [Hb.out, Hv.out], ?_⟩
            exact ((B2.out.setCell (Nat.le_refl _) _).setCell (Nat.le_refl _) _).setCell (Nat.le_refl _) _
          · have HZ0 := hid hz
            obtain ⟨hb, hv⟩ := NO.out (by rw [HBp.out, hz]; rfl)
            have Hb := hid hb
            have Hv := hid hv
            clear hb hv hz
            go_enter Try.func97, Try.ntmps97
            go_wp2_with (first | (go_at_call 76; refine (specPrimeIn_ok p _).mono ?_; rintro e w' ⟨rfl, rfl⟩; rw [HP.out]) | (go_at_call 96; refine (l6In_ok _ _ _ _).mono ?_; rintro e w' ⟨rfl, rfl⟩; first | rw [HX.out] | rw [HY.out] | rw [HZ.out]))
            refine (l4Mod_ok x p _ (by omega) (by omega) (by omega) (by omega)).mono ?_
            rintro e w1 ⟨rfl, rfl⟩
            go_wp2_with fail
            refine (l4Mod_ok y p _ (by omega) (by omega) (by omega) (by omega)).mono ?_
            rintro e w1 ⟨rfl, rfl⟩
            go_wp2_with fail
            refine (l4Mod_ok z p _ (by omega) (by omega) (by omega) (by omega)).mono ?_
            rintro e w1 ⟨rfl, rfl⟩
            go_wp2_with fail
            refine (l4Zero_ok _ 3 3 [x % p, y % p, z % p] _ (HRI.out _ _ (by simp))).mono ?_
            rintro e w' ⟨rfl, rfl⟩
            rw [HZ0.out]
            go_wp2
            refine bodyPost_ret (v := .tuple #[.agg #[.int .i64 0, .int .i64 0, .int .i64 0], .bool false]) (by simp [results, Try.results97, go_sem]) rfl ⟨by rw [Hb.out, Hv.out]; rfl, ?_⟩
            exact below_trans (below_alloc _ _) (below_alloc _ _)


def crossS (p x y z l m n : Int) : List Int := [(y * n - z * m) % p, (z * l - x * n) % p, (x * m - y * l) % p]

set_option maxRecDepth 100000 in
set_option maxHeartbeats 2000000 in
theorem l4Cross_ok (p x y z l m n : Int) (w : World) (hp : 1 ≤ p) (hp2 : p ≤ 31) (hx : 0 ≤ x ∧ x ≤ 31) (hy : 0 ≤ y ∧ y ≤ 31) (hz : 0 ≤ z ∧ z ≤ 31) (hl : 0 ≤ l ∧ l ≤ 31) (hm : 0 ≤ m ∧ m ≤ 31) (hn : 0 ≤ n ∧ n ≤ 31) :
    Calls Try.prog 83 #[.int .i64 p, .agg #[.int .i64 x, .int .i64 y, .int .i64 z], .agg #[.int .i64 l, .int .i64 m, .int .i64 n]] w fun e w' => ∃ v, e = .returned v ∧ OI w' w.heap.size v (crossS p x y z l m n) ∧ Below w.heap.size w w' := by
  have a1 := mul_bd hy.1 hn.1 hy.2 hn.2
  have a2 := mul_bd hz.1 hm.1 hz.2 hm.2
  have a3 := mul_bd hz.1 hl.1 hz.2 hl.2
  have a4 := mul_bd hx.1 hn.1 hx.2 hn.2
  have a5 := mul_bd hx.1 hm.1 hx.2 hm.2
  have a6 := mul_bd hy.1 hl.1 hy.2 hl.2
  have w1 : IntKind.i64.wrap (y * n) = y * n := IntWalk.i64_in _ (by omega)
  have w2 : IntKind.i64.wrap (z * m) = z * m := IntWalk.i64_in _ (by omega)
  have w3 : IntKind.i64.wrap (z * l) = z * l := IntWalk.i64_in _ (by omega)
  have w4 : IntKind.i64.wrap (x * n) = x * n := IntWalk.i64_in _ (by omega)
  have w5 : IntKind.i64.wrap (x * m) = x * m := IntWalk.i64_in _ (by omega)
  have w6 : IntKind.i64.wrap (y * l) = y * l := IntWalk.i64_in _ (by omega)
  have w7 : IntKind.i64.wrap (y * n - z * m) = y * n - z * m := IntWalk.i64_in _ (by omega)
  have w8 : IntKind.i64.wrap (z * l - x * n) = z * l - x * n := IntWalk.i64_in _ (by omega)
  have w9 : IntKind.i64.wrap (x * m - y * l) = x * m - y * l := IntWalk.i64_in _ (by omega)
  have H1 := hid (fun W => l4Mod_ok (y * n - z * m) p W hp hp2 (by omega) (by omega))
  have H2 := hid (fun W => l4Mod_ok (z * l - x * n) p W hp hp2 (by omega) (by omega))
  have H3 := hid (fun W => l4Mod_ok (x * m - y * l) p W hp hp2 (by omega) (by omega))
  have c0 : ((w.alloc (.cells #[.int .i64 x, .int .i64 y, .int .i64 z] 35)).alloc (.cells #[.int .i64 l, .int .i64 m, .int .i64 n] 35)).cell? ⟨w.heap.size, 0, none⟩ = some (.int .i64 x) := by simp [go_sem]
  have c1 : ((w.alloc (.cells #[.int .i64 x, .int .i64 y, .int .i64 z] 35)).alloc (.cells #[.int .i64 l, .int .i64 m, .int .i64 n] 35)).cell? ⟨w.heap.size, 1, none⟩ = some (.int .i64 y) := by simp [go_sem]
  have c2 : ((w.alloc (.cells #[.int .i64 x, .int .i64 y, .int .i64 z] 35)).alloc (.cells #[.int .i64 l, .int .i64 m, .int .i64 n] 35)).cell? ⟨w.heap.size, 2, none⟩ = some (.int .i64 z) := by simp [go_sem]
  have d0 : ((w.alloc (.cells #[.int .i64 x, .int .i64 y, .int .i64 z] 35)).alloc (.cells #[.int .i64 l, .int .i64 m, .int .i64 n] 35)).cell? ⟨w.heap.size + 1, 0, none⟩ = some (.int .i64 l) := by simp [go_sem]
  have d1 : ((w.alloc (.cells #[.int .i64 x, .int .i64 y, .int .i64 z] 35)).alloc (.cells #[.int .i64 l, .int .i64 m, .int .i64 n] 35)).cell? ⟨w.heap.size + 1, 1, none⟩ = some (.int .i64 m) := by simp [go_sem]
  have d2 : ((w.alloc (.cells #[.int .i64 x, .int .i64 y, .int .i64 z] 35)).alloc (.cells #[.int .i64 l, .int .i64 m, .int .i64 n] 35)).cell? ⟨w.heap.size + 1, 2, none⟩ = some (.int .i64 n) := by simp [go_sem]
  have HB := hid (show Below w.heap.size w ((w.alloc (.cells #[.int .i64 x, .int .i64 y, .int .i64 z] 35)).alloc (.cells #[.int .i64 l, .int .i64 m, .int .i64 n] 35)) from below_trans (below_alloc _ _) (below_alloc _ _))
  clear hx hy hz hl hm hn a1 a2 a3 a4 a5 a6
  go_enter Try.func83, Try.ntmps83
  go_wp2
  generalize ((w.alloc (.cells #[.int .i64 x, .int .i64 y, .int .i64 z] 35)).alloc (.cells #[.int .i64 l, .int .i64 m, .int .i64 n] 35)) = W at *
  refine wp_region_still_tail 51 (by kernel_rfl) (by kernel_rfl) ?_
  simp only [List.take_succ_cons, List.take_zero, List.drop_succ_cons, List.drop_zero]
  repeat (first | still_step | (refine wpStill_step (fun K hK => ?_); go_simp; refine ⟨_, (by first | with_reducible exact H1.out _ | with_reducible exact H2.out _ | with_reducible exact H3.out _), hK _ ?_⟩; clear hK K))
  refine wpStill_nil ?_
  change wpList _ _ _ _ _ (World.drew _)
  go_wp2
  go_ret
  exact ⟨_, rfl, (OI_new W.drew (crossS p x y z l m n) _ 3 rfl rfl (by omega)).mono HB.out.size, (show Below w.heap.size w W.drew from below_drewN HB.out 1).alloc HB.out.size _⟩


def lineB (p x y z l m n : Int) : Bool := (specPointB p x y z && specPointB p l m n) && !((x == l && y == m) && z == n)
def lineV (p x y z l m n : Int) : Int × Int × Int := if lineB p x y z l m n then ptRow p (crossS p x y z l m n) else (0, 0, 0)
theorem crossS_bd {p : Int} (hp : 1 ≤ p) (hp2 : p ≤ 31) (x y z l m n : Int) : ∀ q ∈ crossS p x y z l m n, 0 ≤ q ∧ q ≤ 1000 := by
  intro q hq
  simp [crossS] at hq
  have h : ∀ u : Int, 0 ≤ u % p ∧ u % p < p := fun u => ⟨Int.emod_nonneg _ (by omega), Int.emod_lt_of_pos _ (by omega)⟩
  rcases hq with rfl | rfl | rfl
  · have := h (y * n - z * m); omega
  · have := h (z * l - x * n); omega
  · have := h (x * m - y * l); omega


end Go.Proofs.Ytkhkcgoblibnpaa
