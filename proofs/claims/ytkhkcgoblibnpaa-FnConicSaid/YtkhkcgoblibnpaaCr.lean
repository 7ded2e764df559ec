/-
  Contracts: the line through two points, the program's.
-/
import Derived.Test.YtkhkcgoblibnpaaPm
import Derived.Test.YtkhkcgoblibnpaaMn
import Derived.BigRegion
import Derived.Deep.DeepCutAuto
namespace Go.Proofs.Ytkhkcgoblibnpaa
open Go.RowKit
set_option linter.unusedVariables false
set_option linter.unusedSimpArgs false

/-- Three numbers of an array. -/
def ABox (w : World) (k : Nat) (a b c : Int) : Prop := (w.cell? ⟨k, 0, none⟩ = some (.int .i64 a) ∧ w.cell? ⟨k, 1, none⟩ = some (.int .i64 b) ∧ w.cell? ⟨k, 2, none⟩ = some (.int .i64 c))

set_option maxRecDepth 100000 in
set_option maxHeartbeats 4000000 in
theorem cross_ok (x y z l m n : Int) (w : World) (hx : 0 ≤ x ∧ x ≤ 31) (hy : 0 ≤ y ∧ y ≤ 31) (hz : 0 ≤ z ∧ z ≤ 31) (hl : 0 ≤ l ∧ l ≤ 31) (hm : 0 ≤ m ∧ m ≤ 31) (hn : 0 ≤ n ∧ n ≤ 31) :
    Calls Try.prog 59 #[.agg #[.int .i64 x, .int .i64 y, .int .i64 z], .agg #[.int .i64 l, .int .i64 m, .int .i64 n]] w fun e w' => ∃ A : Addr, e = .returned (.slice (some A) 3 3) ∧ RI w' (some A) 3 [y * n - z * m, z * l - x * n, x * m - y * l] ∧ Below w.heap.size w w' := by
  have a1 := mul_bd hy.1 hn.1 hy.2 hn.2
  have a2 := mul_bd hz.1 hm.1 hz.2 hm.2
  have a3 := mul_bd hz.1 hl.1 hz.2 hl.2
  have a4 := mul_bd hx.1 hn.1 hx.2 hn.2
  have a5 := mul_bd hx.1 hm.1 hx.2 hm.2
  have a6 := mul_bd hy.1 hl.1 hy.2 hl.2
  have w1 : IntKind.i64.wrap (y * n) = y * n := IntWalk.i64_in _ (by omega)
  have w2 : IntKind.i64.wrap (z * m) = z * m := IntWalk.i64_in _ (by omega)
  have w3 : IntKind.i64.wrap (z * l) = z * l := IntWalk.i64_in _ (by omega)
  have w4 : IntKind.i64.wrap (x * n) = x * n := IntWalk.i64_in _ (by omega)
  have w5 : IntKind.i64.wrap (x * m) = x * m := IntWalk.i64_in _ (by omega)
  have w6 : IntKind.i64.wrap (y * l) = y * l := IntWalk.i64_in _ (by omega)
  have w7 : IntKind.i64.wrap (y * n - z * m) = y * n - z * m := IntWalk.i64_in _ (by omega)
  have w8 : IntKind.i64.wrap (z * l - x * n) = z * l - x * n := IntWalk.i64_in _ (by omega)
  have w9 : IntKind.i64.wrap (x * m - y * l) = x * m - y * l := IntWalk.i64_in _ (by omega)
  have A0 := hid ((IBox.new w x y z).below (below_alloc _ (.cells #[.int .i64 l, .int .i64 m, .int .i64 n] 35)))
  have hs0 : (w.alloc (.cells #[.int .i64 x, .int .i64 y, .int .i64 z] 35)).heap.size = w.heap.size + 1 := by simp
  have B0' := IBox.new (w.alloc (.cells #[.int .i64 x, .int .i64 y, .int .i64 z] 35)) l m n
  rw [hs0] at B0'
  have B0 := hid B0'
  have HB := hid (show Below w.heap.size w ((w.alloc (.cells #[.int .i64 x, .int .i64 y, .int .i64 z] 35)).alloc (.cells #[.int .i64 l, .int .i64 m, .int .i64 n] 35)) from below_trans (below_alloc _ _) (below_alloc _ _))
  clear hx hy hz hl hm hn a1 a2 a3 a4 a5 a6 hs0 B0'
  go_enter Try.func59, Try.ntmps59
  go_wp2
  go_cut [5, 6] (fun s5 s6 wx => ∃ g h : Nat, s5 = .pointer (some ⟨g, 0, none⟩) ∧ s6 = .pointer (some ⟨h, 0, none⟩) ∧ ABox wx g x y z ∧ ABox wx h l m n ∧ Below w.heap.size w wx)
  case first =>
    go_region
    all_goals
      go_wp2
      go_meet
      refine ⟨_, _, rfl, rfl, ?_, ?_, ?_⟩
      · simp [ABox, go_sem]
      · simp [ABox, go_sem]
      · exact below_drewN (below_trans HB.out (below_trans (below_alloc _ _) (below_alloc _ _))) 1
  case rest =>
    obtain ⟨g, h, rfl, rfl, ⟨g0, g1, g2⟩, ⟨h0, h1, h2⟩, hB⟩ := hcut
    have B1 := hid hB
    clear hB
    go_wp2
    go_ret
    exact ⟨_, rfl, RI_new _ [y * n - z * m, z * l - x * n, x * m - y * l] _ _ 3 rfl rfl (by decide), below_trans B1.out (below_alloc _ _)⟩

set_option maxRecDepth 100000 in
set_option maxHeartbeats 4000000 in
theorem implPointLine_ok (p x y z l m n : Int) (w : World) :
    Calls Try.prog 33 #[.int .i64 p, .agg #[.int .i64 x, .int .i64 y, .int .i64 z], .agg #[.int .i64 l, .int .i64 m, .int .i64 n]] w fun e w' => e = .returned (.tuple #[ptVal (lineV p x y z l m n), .bool (lineB p x y z l m n)]) ∧ Below w.heap.size w w' := by
  have HB := hid (show lineB p x y z l m n = ((specPointB p x y z && specPointB p l m n) && !((x == l && y == m) && z == n)) from rfl)
  have HV := hid (show lineV p x y z l m n = if lineB p x y z l m n then ptRow p (crossS p x y z l m n) else (0, 0, 0) from rfl)
  have NO := hid (show lineB p x y z l m n = false → ((lineB p x y z l m n = false) ∧ (lineV p x y z l m n = (0, 0, 0))) from fun h => ⟨h, by rw [HV.out, h]; rfl⟩)
  have XB := hid (below_trans (below_alloc w (.cells #[.int .i64 x, .int .i64 y, .int .i64 z] 35)) (below_trans (below_alloc _ (.cells #[.int .i64 l, .int .i64 m, .int .i64 n] 35)) (below_alloc _ (.cells #[.int .i64 0, .int .i64 0, .int .i64 0] 35))))
  have XA := hid (((IBox.new w x y z).below (below_alloc _ (.cells #[.int .i64 l, .int .i64 m, .int .i64 n] 35))).below (below_alloc _ (.cells #[.int .i64 0, .int .i64 0, .int .i64 0] 35)))
  have hs0 : (w.alloc (.cells #[.int .i64 x, .int .i64 y, .int .i64 z] 35)).heap.size = w.heap.size + 1 := by simp
  have hs1 : ((w.alloc (.cells #[.int .i64 x, .int .i64 y, .int .i64 z] 35)).alloc (.cells #[.int .i64 l, .int .i64 m, .int .i64 n] 35)).heap.size = w.heap.size + 1 + 1 := by simp
  have XC' := (IBox.new (w.alloc (.cells #[.int .i64 x, .int .i64 y, .int .i64 z] 35)) l m n).below (below_alloc _ (.cells #[.int .i64 0, .int .i64 0, .int .i64 0] 35))
  rw [hs0] at XC'
  have XR' := IBox.new ((w.alloc (.cells #[.int .i64 x, .int .i64 y, .int .i64 z] 35)).alloc (.cells #[.int .i64 l, .int .i64 m, .int .i64 n] 35)) 0 0 0
  rw [hs1] at XR'
  have XC := hid XC'
  have XR := hid XR'
  have HPA := hid (points_alike p x y z)
  have HPB := hid (points_alike p l m n)
  have HIA := hid (fun W => isPoint_ok p x y z W)
  have HIB := hid (fun W => isPoint_ok p l m n W)
  rw [HPA.out] at HIA
  rw [HPB.out] at HIB
  clear hs0 hs1 XC' XR' HPA HPB
  cases h1 : specPointB p x y z
  · obtain ⟨hb, hv⟩ := NO.out (by rw [HB.out, h1]; rfl)
    rw [hb, hv]
    have H1 := hid h1
    clear HB HV NO hb hv h1
    go_enter Try.func33, Try.ntmps33
    go_wp2_with fail
    refine (HIA.out _).mono ?_
    rintro e w1 ⟨rfl, b1⟩
    rw [H1.out]
    have B1 := hid (below_trans XB.out b1)
    have R1 := hid (XR.out.below b1)
    have R2 := hid (R1.out.put 0 0 0)
    have B2 := hid (below_put B1.out (show w.heap.size ≤ w.heap.size + 1 + 1 by omega) (.int .i64 0) (.int .i64 0) (.int .i64 0))
    obtain ⟨c0, c1, c2, f0, f1, f2⟩ := R1.out.cells
    obtain ⟨u0, u1, u2, _⟩ := R2.out.cells
    clear b1
    go_wp2
    refine bodyPost_ret (v := .tuple #[ptVal (0, 0, 0), .bool false]) (by simp [results, Try.results33, go_sem, ptVal, u0, u1, u2]) rfl ⟨rfl, ?_⟩
    with_reducible exact B2.out
  · have H1 := hid h1
    cases h2 : specPointB p l m n
    · obtain ⟨hb, hv⟩ := NO.out (by rw [HB.out, h1, h2]; rfl)
      rw [hb, hv]
      have H2 := hid h2
      clear HB HV NO hb hv h1 h2
      go_enter Try.func33, Try.ntmps33
      go_wp2_with fail
      refine (HIA.out _).mono ?_
      rintro e w1 ⟨rfl, b1⟩
      rw [H1.out]
      have B1 := hid (below_trans XB.out b1)
      have R1 := hid (XR.out.below b1)
      have C1 := hid (XC.out.below b1)
      obtain ⟨y0, y1, y2, _⟩ := C1.out.cells
      clear b1
      go_wp2_with fail
      refine (HIB.out _).mono ?_
      rintro e w2 ⟨rfl, b2⟩
      rw [H2.out]
      have B2 := hid (below_trans B1.out b2)
      have R2 := hid (R1.out.below b2)
      have R3 := hid (R2.out.put 0 0 0)
      have B3 := hid (below_put B2.out (show w.heap.size ≤ w.heap.size + 1 + 1 by omega) (.int .i64 0) (.int .i64 0) (.int .i64 0))
      obtain ⟨c0, c1, c2, f0, f1, f2⟩ := R2.out.cells
      obtain ⟨u0, u1, u2, _⟩ := R3.out.cells
      clear b2 y0 y1 y2
      go_wp2
      refine bodyPost_ret (v := .tuple #[ptVal (0, 0, 0), .bool false]) (by simp [results, Try.results33, go_sem, ptVal, u0, u1, u2]) rfl ⟨rfl, ?_⟩
      with_reducible exact B3.out
    · have H2 := hid h2
      have hql := run_eqlPt x y z l m n
      have hgd := guardPt
      cases h3 : ((x == l && y == m) && z == n)
      · have hb : lineB p x y z l m n = true := by rw [HB.out, h1, h2, h3]; rfl
        have HVv := hid (show lineV p x y z l m n = ptRow p (crossS p x y z l m n) by rw [HV.out, hb]; rfl)
        have hp := (point_parts h1).1
        have hbd := isPrimeB_bd hp
        have P1 := hid (point_parts h1).2
        have P2 := hid (point_parts h2).2
        have hzc := cross_ne h1 h2 h3
        have hpb : pbB p [y * n - z * m, z * l - x * n, x * m - y * l] = true := by rw [pbB, modL_cross, hzc]; rfl
        have hpv : pbV p [y * n - z * m, z * l - x * n, x * m - y * l] = lineV p x y z l m n := by rw [pbV, if_pos hpb, modL_cross, HVv.out]
        have HPb := hid (fun (A : Addr) (W : World) (h : RI W (some A) 3 [y * n - z * m, z * l - x * n, x * m - y * l]) (hx : ∀ q ∈ [y * n - z * m, z * l - x * n, x * m - y * l], -1000000000000 ≤ q ∧ q ≤ 1000000000000) => pointBy_ok p (some A) 3 [y * n - z * m, z * l - x * n, x * m - y * l] W hp h hx)
        rw [hpb, hpv] at HPb
        have hbx : ∀ q ∈ [y * n - z * m, z * l - x * n, x * m - y * l], -1000000000000 ≤ q ∧ q ≤ 1000000000000 := by
          have a1 := mul_bd P1.out.2.1.1 P2.out.2.2.1.1 (show y ≤ 31 by have := P1.out.2.1.2; omega) (show n ≤ 31 by have := P2.out.2.2.1.2; omega)
          have a2 := mul_bd P1.out.2.2.1.1 P2.out.2.1.1 (show z ≤ 31 by have := P1.out.2.2.1.2; omega) (show m ≤ 31 by have := P2.out.2.1.2; omega)
          have a3 := mul_bd P1.out.2.2.1.1 P2.out.1.1 (show z ≤ 31 by have := P1.out.2.2.1.2; omega) (show l ≤ 31 by have := P2.out.1.2; omega)
          have a4 := mul_bd P1.out.1.1 P2.out.2.2.1.1 (show x ≤ 31 by have := P1.out.1.2; omega) (show n ≤ 31 by have := P2.out.2.2.1.2; omega)
          have a5 := mul_bd P1.out.1.1 P2.out.2.1.1 (show x ≤ 31 by have := P1.out.1.2; omega) (show m ≤ 31 by have := P2.out.2.1.2; omega)
          have a6 := mul_bd P1.out.2.1.1 P2.out.1.1 (show y ≤ 31 by have := P1.out.2.1.2; omega) (show l ≤ 31 by have := P2.out.1.2; omega)
          intro q hq
          simp at hq
          omega
        have HX := hid hbx
        have HC := hid (fun W => cross_ok x y z l m n W (by have := P1.out.1; omega) (by have := P1.out.2.1; omega) (by have := P1.out.2.2.1; omega) (by have := P2.out.1; omega) (by have := P2.out.2.1; omega) (by have := P2.out.2.2.1; omega))
        rw [h3] at hql
        have H3 := hid h3
        rw [hb]
        clear HB HV NO hb HVv hp hbd P1 P2 hzc hpb hpv hbx h1 h2 h3
        generalize lineV p x y z l m n = V at *
        generalize [y * n - z * m, z * l - x * n, x * m - y * l] = row at *
        obtain ⟨V0, V1, V2⟩ := V
        have HVv := hid (show ptVal (V0, V1, V2) = .agg #[.int .i64 V0, .int .i64 V1, .int .i64 V2] from rfl)
        go_enter Try.func33, Try.ntmps33
        go_wp2_with fail
        refine (HIA.out _).mono ?_
        rintro e w1 ⟨rfl, b1⟩
        rw [H1.out]
        have B1 := hid (below_trans XB.out b1)
        have R1 := hid (XR.out.below b1)
        have A1 := hid (XA.out.below b1)
        have C1 := hid (XC.out.below b1)
        obtain ⟨y0, y1, y2, _⟩ := C1.out.cells
        clear b1
        go_wp2_with fail
        refine (HIB.out _).mono ?_
        rintro e w2 ⟨rfl, b2⟩
        rw [H2.out]
        have B2 := hid (below_trans B1.out b2)
        have R2 := hid (R1.out.below b2)
        have A2 := hid (A1.out.below b2)
        have C2 := hid (C1.out.below b2)
        clear b2 y0 y1 y2
        obtain ⟨x0, x1, x2, _⟩ := A2.out.cells
        obtain ⟨y0, y1, y2, _⟩ := C2.out.cells
        go_wp2_with fail
        refine (HC.out _).mono ?_
        rintro e w3 ⟨A3, rfl, r3, b3⟩
        have B3 := hid (below_trans B2.out b3)
        have R3 := hid (R2.out.below b3)
        have Q3 := hid r3
        clear b3 r3 x0 x1 x2 y0 y1 y2
        go_wp2_with fail
        refine (HPb.out _ _ Q3.out HX.out).mono ?_
        rintro e w4 ⟨rfl, b4⟩
        rw [HVv.out]
        have B4 := hid (below_trans (below_trans B3.out b4) (below_alloc w4 (.cells #[.int .i64 V0, .int .i64 V1, .int .i64 V2] 35)))
        have R4 := hid ((R3.out.below b4).below (below_alloc w4 (.cells #[.int .i64 V0, .int .i64 V1, .int .i64 V2] 35)))
        have N4 := hid (IBox.new w4 V0 V1 V2)
        have R5 := hid (R4.out.put V0 V1 V2)
        have B5 := hid (below_put B4.out (show w.heap.size ≤ w.heap.size + 1 + 1 by omega) (.int .i64 V0) (.int .i64 V1) (.int .i64 V2))
        obtain ⟨c0, c1, c2, f0, f1, f2⟩ := R4.out.cells
        obtain ⟨d0, d1, d2, _⟩ := N4.out.cells
        obtain ⟨u0, u1, u2, _⟩ := R5.out.cells
        clear b4
        go_wp2
        refine bodyPost_ret (v := .tuple #[ptVal (V0, V1, V2), .bool true]) (by simp [results, Try.results33, go_sem, ptVal, u0, u1, u2]) rfl ⟨rfl, ?_⟩
        with_reducible exact B5.out
      · obtain ⟨hb, hv⟩ := NO.out (by rw [HB.out, h1, h2, h3]; rfl)
        rw [hb, hv]
        rw [h3] at hql
        clear HB HV NO hb hv h1 h2 h3
        go_enter Try.func33, Try.ntmps33
        go_wp2_with fail
        refine (HIA.out _).mono ?_
        rintro e w1 ⟨rfl, b1⟩
        rw [H1.out]
        have B1 := hid (below_trans XB.out b1)
        have R1 := hid (XR.out.below b1)
        have A1 := hid (XA.out.below b1)
        have C1 := hid (XC.out.below b1)
        obtain ⟨y0, y1, y2, _⟩ := C1.out.cells
        clear b1
        go_wp2_with fail
        refine (HIB.out _).mono ?_
        rintro e w2 ⟨rfl, b2⟩
        rw [H2.out]
        have B2 := hid (below_trans B1.out b2)
        have R2 := hid (R1.out.below b2)
        have A2 := hid (A1.out.below b2)
        have C2 := hid (C1.out.below b2)
        clear b2 y0 y1 y2
        obtain ⟨x0, x1, x2, _⟩ := A2.out.cells
        obtain ⟨y0, y1, y2, _⟩ := C2.out.cells
        have R3 := hid (R2.out.put 0 0 0)
        have B3 := hid (below_put B2.out (show w.heap.size ≤ w.heap.size + 1 + 1 by omega) (.int .i64 0) (.int .i64 0) (.int .i64 0))
        obtain ⟨c0, c1, c2, f0, f1, f2⟩ := R2.out.cells
        obtain ⟨u0, u1, u2, _⟩ := R3.out.cells
        go_wp2
        refine bodyPost_ret (v := .tuple #[ptVal (0, 0, 0), .bool false]) (by simp [results, Try.results33, go_sem, ptVal, u0, u1, u2]) rfl ⟨rfl, ?_⟩
        with_reducible exact B3.out

end Go.Proofs.Ytkhkcgoblibnpaa
