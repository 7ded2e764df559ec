/-
  Contracts: rows of products of points, and the solutions of them, of both sides.
-/
import Derived.Test.YtkhkcgoblibnpaaAp
import Derived.Test.YtkhkcgoblibnpaaSn
import Derived.Test.YtkhkcgoblibnpaaEs
namespace Go.Proofs.Ytkhkcgoblibnpaa
open Go.RowKit
set_option linter.unusedVariables false
set_option linter.unusedSimpArgs false

/-- The six products of a point. -/
def sqI (a : P3) : List Int := [a.1 * a.1, a.1 * a.2.1, a.1 * a.2.2, a.2.1 * a.2.1, a.2.1 * a.2.2, a.2.2 * a.2.2]
def sqS (p : Int) (a : P3) : List Int := [a.1 * a.1 % p, a.1 * a.2.1 % p, a.1 * a.2.2 % p, a.2.1 * a.2.1 % p, a.2.1 * a.2.2 % p, a.2.2 * a.2.2 % p]
def cuI (a : P3) : List Int := cubesTo a.1 a.2.1 a.2.2 10
def cuS (p : Int) (a : P3) : List Int := prodTo p a.1 a.2.1 a.2.2 10
theorem solP_congr {p : Int} {wd : Nat} {rows rows' : List (List Int)} (h : rows.map (modL p) = rows'.map (modL p)) : solP p wd rows = solP p wd rows' := by
  have e1 : redP p wd rows = redP p wd rows' := by rw [redP, redP, h]
  have e2 : hdsP p wd rows = hdsP p wd rows' := by rw [hdsP, hdsP, h]
  rw [solP, solP, e1, e2]
theorem modL_modL (p : Int) (r : List Int) : modL p (modL p r) = modL p r := by
  unfold modL
  rw [List.map_map]
  exact List.map_congr_left fun x _ => Int.emod_emod_of_dvd x (Int.dvd_refl p)
theorem sqS_mod (p : Int) (a : P3) : sqS p a = modL p (sqI a) := rfl
theorem cuS_mod (p : Int) (hp : 2 ≤ p) (a : P3) : cuS p a = modL p (cuI a) := by
  rw [cuS, cuI, prodTo, cubesTo, modL, List.map_map]
  exact List.map_congr_left fun k _ => prodI_eq p a.1 a.2.1 a.2.2 hp k
def conP (p : Int) (ps : List P3) : List (List Int) := solP p 6 (ps.map sqI)
def basP (p : Int) (ps : List P3) : List (List Int) := solP p 10 (ps.map cuI)
theorem conP_S (p : Int) (ps : List P3) : solP p 6 (ps.map (sqS p)) = conP p ps := by
  refine solP_congr ?_
  rw [List.map_map, List.map_map]
  exact List.map_congr_left fun a _ => modL_modL p (sqI a)
theorem basP_S (p : Int) (hp : 2 ≤ p) (ps : List P3) : solP p 10 (ps.map (cuS p)) = basP p ps := by
  refine solP_congr ?_
  rw [List.map_map, List.map_map]
  exact List.map_congr_left fun a _ => by simp only [Function.comp]; rw [cuS_mod p hp, modL_modL]
/-- The points have numbers from 0 to 31. -/
def PB (ps : List P3) : Prop := ∀ a ∈ ps, (0 ≤ a.1 ∧ a.1 ≤ 31) ∧ (0 ≤ a.2.1 ∧ a.2.1 ≤ 31) ∧ (0 ≤ a.2.2 ∧ a.2.2 ≤ 31)
theorem apart_PB {p : Int} {ps : List P3} (h : apartB p ps = true) : PB ps := fun a ha => by
  obtain ⟨i, hi, rfl⟩ := List.getElem_of_mem ha
  have h1 := List.all_eq_true.1 h i (List.mem_range.2 hi)
  rw [apB, Bool.and_eq_true] at h1
  have h2 := ptOk_bd h1.1
  simp only [List.getD_eq_getElem?_getD, List.getElem?_eq_getElem hi, Option.getD_some] at h2
  omega
theorem PB.at {ps : List P3} (h : PB ps) {i : Nat} (hi : i < ps.length) : (0 ≤ (ps.getD i default).1 ∧ (ps.getD i default).1 ≤ 31) ∧ (0 ≤ (ps.getD i default).2.1 ∧ (ps.getD i default).2.1 ≤ 31) ∧ (0 ≤ (ps.getD i default).2.2 ∧ (ps.getD i default).2.2 ≤ 31) := h _ (getD_mem hi)
theorem map_take_succ' {α β : Type} (f : α → β) (ps : List α) (d : α) {k : Nat} (h : k < ps.length) : (ps.take (k + 1)).map f = (ps.take k).map f ++ [f (ps.getD k d)] := by
  rw [List.take_succ_eq_append_getElem h, List.map_append]
  simp [List.getD_eq_getElem?_getD, List.getElem?_eq_getElem h]
theorem sq_bd {a : P3} (h : (0 ≤ a.1 ∧ a.1 ≤ 31) ∧ (0 ≤ a.2.1 ∧ a.2.1 ≤ 31) ∧ (0 ≤ a.2.2 ∧ a.2.2 ≤ 31)) : ∀ x ∈ sqI a, 0 ≤ x ∧ x ≤ 961 := by
  intro x hx
  have m1 := mul_bd h.1.1 h.1.1 h.1.2 h.1.2
  have m2 := mul_bd h.1.1 h.2.1.1 h.1.2 h.2.1.2
  have m3 := mul_bd h.1.1 h.2.2.1 h.1.2 h.2.2.2
  have m4 := mul_bd h.2.1.1 h.2.1.1 h.2.1.2 h.2.1.2
  have m5 := mul_bd h.2.1.1 h.2.2.1 h.2.1.2 h.2.2.2
  have m6 := mul_bd h.2.2.1 h.2.2.1 h.2.2.2 h.2.2.2
  simp only [sqI, List.mem_cons, List.not_mem_nil, or_false] at hx
  rcases hx with rfl | rfl | rfl | rfl | rfl | rfl <;> omega
theorem cu_bd {a : P3} (h : (0 ≤ a.1 ∧ a.1 ≤ 31) ∧ (0 ≤ a.2.1 ∧ a.2.1 ≤ 31) ∧ (0 ≤ a.2.2 ∧ a.2.2 ≤ 31)) : ∀ x ∈ cuI a, 0 ≤ x ∧ x ≤ 29791 := by
  intro x hx
  obtain ⟨k, hk, rfl⟩ := List.mem_map.1 hx
  exact cubes31 h.1 h.2.1 h.2.2 k (List.mem_range.1 hk)

set_option maxRecDepth 100000 in
set_option maxHeartbeats 4000000 in
theorem l4Squares_ok (p x y z : Int) (w : World) (hp : 1 ≤ p) (hp2 : p ≤ 31) (hx : 0 ≤ x ∧ x ≤ 31) (hy : 0 ≤ y ∧ y ≤ 31) (hz : 0 ≤ z ∧ z ≤ 31) :
    Calls Try.prog 84 #[.int .i64 p, .agg #[.int .i64 x, .int .i64 y, .int .i64 z]] w fun e w' => ∃ v, e = .returned v ∧ OI w' w.heap.size v (sqS p (x, y, z)) ∧ Below w.heap.size w w' := by
  have m0 := mul_bd hx.1 hx.1 hx.2 hx.2
  have u0 := IntWalk.i64_in (x * x) (by omega)
  have t0 : (x * x).tmod p = x * x % p := Int.tmod_eq_emod_of_nonneg m0.1
  have r0 := Int.emod_nonneg (x * x) (show p ≠ 0 by omega)
  have s0 := Int.emod_lt_of_pos (x * x) (show 0 < p by omega)
  have v0 : IntKind.i64.wrap (x * x % p) = x * x % p := IntWalk.i64_in _ (by omega)
  have m1 := mul_bd hx.1 hy.1 hx.2 hy.2
  have u1 := IntWalk.i64_in (x * y) (by omega)
  have t1 : (x * y).tmod p = x * y % p := Int.tmod_eq_emod_of_nonneg m1.1
  have r1 := Int.emod_nonneg (x * y) (show p ≠ 0 by omega)
  have s1 := Int.emod_lt_of_pos (x * y) (show 0 < p by omega)
  have v1 : IntKind.i64.wrap (x * y % p) = x * y % p := IntWalk.i64_in _ (by omega)
  have m2 := mul_bd hx.1 hz.1 hx.2 hz.2
  have u2 := IntWalk.i64_in (x * z) (by omega)
  have t2 : (x * z).tmod p = x * z % p := Int.tmod_eq_emod_of_nonneg m2.1
  have r2 := Int.emod_nonneg (x * z) (show p ≠ 0 by omega)
  have s2 := Int.emod_lt_of_pos (x * z) (show 0 < p by omega)
  have v2 : IntKind.i64.wrap (x * z % p) = x * z % p := IntWalk.i64_in _ (by omega)
  have m3 := mul_bd hy.1 hy.1 hy.2 hy.2
  have u3 := IntWalk.i64_in (y * y) (by omega)
  have t3 : (y * y).tmod p = y * y % p := Int.tmod_eq_emod_of_nonneg m3.1
  have r3 := Int.emod_nonneg (y * y) (show p ≠ 0 by omega)
  have s3 := Int.emod_lt_of_pos (y * y) (show 0 < p by omega)
  have v3 : IntKind.i64.wrap (y * y % p) = y * y % p := IntWalk.i64_in _ (by omega)
  have m4 := mul_bd hy.1 hz.1 hy.2 hz.2
  have u4 := IntWalk.i64_in (y * z) (by omega)
  have t4 : (y * z).tmod p = y * z % p := Int.tmod_eq_emod_of_nonneg m4.1
  have r4 := Int.emod_nonneg (y * z) (show p ≠ 0 by omega)
  have s4 := Int.emod_lt_of_pos (y * z) (show 0 < p by omega)
  have v4 : IntKind.i64.wrap (y * z % p) = y * z % p := IntWalk.i64_in _ (by omega)
  have m5 := mul_bd hz.1 hz.1 hz.2 hz.2
  have u5 := IntWalk.i64_in (z * z) (by omega)
  have t5 : (z * z).tmod p = z * z % p := Int.tmod_eq_emod_of_nonneg m5.1
  have r5 := Int.emod_nonneg (z * z) (show p ≠ 0 by omega)
  have s5 := Int.emod_lt_of_pos (z * z) (show 0 < p by omega)
  have v5 : IntKind.i64.wrap (z * z % p) = z * z % p := IntWalk.i64_in _ (by omega)
  have hp0 : ¬ p = 0 := by omega
  have hp1 : ¬ p = -1 := by omega
  have HL := hid (show sqS p (x, y, z) = [x * x % p, x * y % p, x * z % p, y * y % p, y * z % p, z * z % p] from rfl)
  rw [HL.out]
  clear HL
  generalize x * x % p = q0 at *
  generalize x * y % p = q1 at *
  generalize x * z % p = q2 at *
  generalize y * y % p = q3 at *
  generalize y * z % p = q4 at *
  generalize z * z % p = q5 at *
  clear m0 r0 s0 m1 r1 s1 m2 r2 s2 m3 r3 s3 m4 r4 s4 m5 r5 s5
  go_enter Try.func84, Try.ntmps84
  go_wp2
  refine wp_region_still_tail 30 (by kernel_rfl) (by kernel_rfl) ?_
  simp only [List.take_succ_cons, List.take_zero, List.drop_succ_cons, List.drop_zero]
  repeat still_step
  refine wpStill_nil ?_
  change wpList _ _ _ _ _ (World.drew _)
  have HB2 := hid (drewBelow (below_alloc w (.cells #[.int .i64 x, .int .i64 y, .int .i64 z] 35)))
  generalize (w.alloc (.cells #[.int .i64 x, .int .i64 y, .int .i64 z] 35)).drew = W at *
  go_wp2
  go_ret
  exact ⟨_, rfl, (OI_new W [q0, q1, q2, q3, q4, q5] _ 6 rfl rfl (by decide)).mono HB2.out.size, below_trans HB2.out (below_alloc _ _)⟩

set_option maxRecDepth 100000 in
set_option maxHeartbeats 4000000 in
theorem squares_ok (A : Option Addr) (n c : Nat) (ps : List P3) (w : World) (hr : RP w A n ps) (hn : n ≤ 10) (hpb : PB ps) :
    Calls Try.prog 66 #[.slice A n c] w fun e w' => ∃ v rs, e = .returned v ∧ RwO w' w.heap.size v rs ∧ RwS w' w.heap.size rs ∧ rs.map (·.xs) = ps.map sqI ∧ Below w.heap.size w w' := by
  have HR := hid hr
  have hl := hr.1
  have HPB := hid hpb
  clear hr hpb
  go_enter Try.func66, Try.ntmps66
  go_wp2
  go_loopg [3, 12] n (fun g v t wr => ∃ (k : Nat) (rs : List Rw), k ≤ n ∧ g = n - k ∧ t = .int .i64 k ∧ RwO wr w.heap.size v rs ∧ RwS wr w.heap.size rs ∧ rs.map (·.xs) = (ps.take k).map sqI ∧ Below w.heap.size w wr)
  case atStart => exact ⟨0, [], by omega, by omega, rfl, World.ownsRow_lit w #[] 0 (Nat.le_refl _) (by decide) rfl, fun r hr => (by cases hr), rfl, below_alloc _ _⟩
  case round =>
    obtain ⟨k, rs, hk, hg, rfl, hO, hS, hM, hB⟩ := hrel
    have HG := hid hg
    have O1 := hid hO
    have S1 := hid hS
    have M1 := hid hM
    have B1 := hid hB
    clear hg hO hS hM hB
    by_cases hlt : k < n
    · obtain ⟨b, off, rfl⟩ := HR.out.addr (by omega)
      have hkl : k < ps.length := by omega
      have hc := (HR.out.below B1.out).at3 hlt
      have hbd := HPB.out.at hkl
      have HNx := hid (map_take_succ' sqI ps default hkl)
      obtain ⟨q, hq⟩ : ∃ q, ps.getD k default = q := ⟨_, rfl⟩
      rw [hq] at hc hbd HNx
      clear hq
      obtain ⟨x, y, z⟩ := q
      obtain ⟨a0, a1, a2⟩ := hc
      have a0 : wr.cell? ⟨b, off + k * 3, none⟩ = some (.int .i64 x) := a0
      have a1 : wr.cell? ⟨b, off + k * 3 + 1, none⟩ = some (.int .i64 y) := a1
      have a2 : wr.cell? ⟨b, off + k * 3 + 2, none⟩ = some (.int .i64 z) := a2
      have hx : 0 ≤ x ∧ x ≤ 31 := hbd.1
      have hy : 0 ≤ y ∧ y ≤ 31 := hbd.2.1
      have hz : 0 ≤ z ∧ z ≤ 31 := hbd.2.2
      have m0 := mul_bd hx.1 hx.1 hx.2 hx.2
      have u0 := IntWalk.i64_in (x * x) (by omega)
      have m1 := mul_bd hx.1 hy.1 hx.2 hy.2
      have u1 := IntWalk.i64_in (x * y) (by omega)
      have m2 := mul_bd hx.1 hz.1 hx.2 hz.2
      have u2 := IntWalk.i64_in (x * z) (by omega)
      have m3 := mul_bd hy.1 hy.1 hy.2 hy.2
      have u3 := IntWalk.i64_in (y * y) (by omega)
      have m4 := mul_bd hy.1 hz.1 hy.2 hz.2
      have u4 := IntWalk.i64_in (y * z) (by omega)
      have m5 := mul_bd hz.1 hz.1 hz.2 hz.2
      have u5 := IntWalk.i64_in (z * z) (by omega)
      have HSq := hid (show sqI (x, y, z) = [x * x, x * y, x * z, y * y, y * z, z * z] from rfl)
      have HLn := hid (show rs.length < 1000000 by
        have h1 := congrArg List.length M1.out
        rw [List.length_map, List.length_map, List.length_take] at h1
        omega)
      have IB := hid (IBox.new wr x y z)
      have O2 := hid (O1.out.alloc (.cells #[.int .i64 x, .int .i64 y, .int .i64 z] 35))
      have S2 := hid (S1.out.below (below_alloc wr (.cells #[.int .i64 x, .int .i64 y, .int .i64 z] 35)))
      have B2 := hid (below_trans B1.out (below_alloc wr (.cells #[.int .i64 x, .int .i64 y, .int .i64 z] 35)))
      clear hbd hx hy hz m0 m1 m2 m3 m4 m5
      rw [HSq.out] at HNx
      go_wp2
      obtain ⟨gp, hgp⟩ : ∃ gp, gp = wr.heap.size := ⟨_, rfl⟩
      rw [← hgp] at IB ⊢
      clear hgp
      generalize wr.alloc (.cells #[.int .i64 x, .int .i64 y, .int .i64 z] 35) = w2 at *
      obtain ⟨p0, p1, p2, _⟩ := IB.out.cells
      clear a0 a1 a2
      go_quiet (fail)
      have O3 := hid (O2.out.drewN nq)
      have S3 := hid (S2.out.drewN nq)
      have B3 := hid (below_drewN B2.out nq)
      clear p0 p1 p2
      generalize w2.drewN nq = w3 at *
      go_wp2_with (at_builtin; refine append_row _ _ rfl rfl w.heap.size _ rs ⟨w3.heap.size, 6, [x * x, x * y, x * z, y * y, y * z, z * z]⟩ ⟨w3.heap.size + 1, 0, none⟩ rfl (by simp [go_sem]) ((O3.out.alloc _).alloc _) (by rw [show (⟨w3.heap.size + 1, 0, none⟩ : Addr) = ⟨(w3.alloc (.cells #[.int .i64 (x * x), .int .i64 (x * y), .int .i64 (x * z), .int .i64 (y * y), .int .i64 (y * z), .int .i64 (z * z)] 3)).heap.size, 0, none⟩ by simp]; exact World.cell?_alloc_at _ _ _ _ rfl) HLn.out (by have := B3.out.size; simp; omega) ?_; intro v' w4 hown hgrow; have O4 := hid hown; have G4 := hid hgrow; clear hown hgrow)
      go_roundg (n - (k + 1))
      case measure => have := HG.out; omega
      case rel =>
        refine ⟨k + 1, rs ++ [⟨w3.heap.size, 6, [x * x, x * y, x * z, y * y, y * z, z * z]⟩], by omega, rfl, by go_num, O4.out, ?_, by rw [List.map_append, M1.out, HNx.out]; rfl, below_append (below_trans B3.out (below_alloc _ _)) (by have := B3.out.size; simp; omega) (O3.out.alloc _) G4.out⟩
        refine RwS.outer (RwS.below ?_ (below_alloc _ _)) ((O3.out.alloc _).alloc _) G4.out
        intro r hr
        rcases List.mem_append.1 hr with hr | hr
        · exact (S3.out.below (below_alloc _ _)) r hr
        · obtain rfl : r = ⟨w3.heap.size, 6, [x * x, x * y, x * z, y * y, y * z, z * z]⟩ := by simpa using hr
          exact (OI_new w3 [x * x, x * y, x * z, y * y, y * z, z * z] _ 6 rfl rfl (by decide)).mono B3.out.size
    · obtain rfl : k = n := by omega
      have HM := hid (show rs.map (·.xs) = ps.map sqI by have h := M1.out; rwa [List.take_of_length_le (by omega)] at h)
      go_wp2
      go_ret
      exact ⟨_, rs, rfl, O1.out, S1.out, HM.out, B1.out⟩

set_option maxRecDepth 100000 in
set_option maxHeartbeats 4000000 in
theorem l4Conics_ok (p : Int) (A : Option Addr) (n c : Nat) (ps : List P3) (w : World) (hp : isPrimeB p = true) (hr : RP w A n ps) (hn : n ≤ 10) (hpb : PB ps) :
    Calls Try.prog 55 #[.int .i64 p, .slice A n c] w fun e w' => ∃ v rs, e = .returned v ∧ RwO w' w.heap.size v rs ∧ RwS w' w.heap.size rs ∧ rs.map (·.xs) = conP p ps ∧ Below w.heap.size w w' := by
  have HR := hid hr
  have hl := hr.1
  have HPB := hid hpb
  have HP := hid hp
  have hpp := isPrimeB_bd hp
  clear hr hpb hp
  go_enter Try.func55, Try.ntmps55
  go_wp2
  go_loopg [5, 6] n (fun g v t wr => ∃ (k : Nat) (rs : List Rw), k ≤ n ∧ g = n - k ∧ t = .int .i64 k ∧ RwO wr w.heap.size v rs ∧ RwS wr w.heap.size rs ∧ rs.map (·.xs) = (ps.take k).map (sqS p) ∧ Below w.heap.size w wr)
  case atStart => exact ⟨0, [], by omega, by omega, rfl, World.ownsRow_lit w #[] 0 (Nat.le_refl _) (by decide) rfl, fun r hr => (by cases hr), rfl, below_alloc _ _⟩
  case round =>
    obtain ⟨k, rs, hk, hg, rfl, hO, hS, hM, hB⟩ := hrel
    have HG := hid hg
    have O1 := hid hO
    have S1 := hid hS
    have M1 := hid hM
    have B1 := hid hB
    clear hg hO hS hM hB
    by_cases hlt : k < n
    · obtain ⟨b, off, rfl⟩ := HR.out.addr (by omega)
      have hkl : k < ps.length := by omega
      have hc := (HR.out.below B1.out).at3 hlt
      have hbd := HPB.out.at hkl
      have HNx := hid (map_take_succ' (sqS p) ps default hkl)
      obtain ⟨q, hq⟩ : ∃ q, ps.getD k default = q := ⟨_, rfl⟩
      rw [hq] at hc hbd HNx
      clear hq
      obtain ⟨x, y, z⟩ := q
      obtain ⟨a0, a1, a2⟩ := hc
      have a0 : wr.cell? ⟨b, off + k * 3, none⟩ = some (.int .i64 x) := a0
      have a1 : wr.cell? ⟨b, off + k * 3 + 1, none⟩ = some (.int .i64 y) := a1
      have a2 : wr.cell? ⟨b, off + k * 3 + 2, none⟩ = some (.int .i64 z) := a2
      have hx : 0 ≤ x ∧ x ≤ 31 := hbd.1
      have hy : 0 ≤ y ∧ y ≤ 31 := hbd.2.1
      have hz : 0 ≤ z ∧ z ≤ 31 := hbd.2.2
      have HC := hid (fun W => l4Squares_ok p x y z W (by omega) (by omega) hx hy hz)
      have hel : ((sqS p) (x, y, z)).length = 6 := rfl
      have HEl := hid hel
      have HLn := hid (show rs.length < 1000000 by
        have h1 := congrArg List.length M1.out
        rw [List.length_map, List.length_map, List.length_take] at h1
        omega)
      have HC : Hid (∀ W, Calls Try.prog 84 #[.int .i64 p, .agg #[.int .i64 x, .int .i64 y, .int .i64 z]] W fun e w' => ∃ v, e = .returned v ∧ OI w' W.heap.size v ((sqS p) (x, y, z)) ∧ Below W.heap.size W w') := HC
      generalize (sqS p) (x, y, z) = el at *
      clear hel hbd hx hy hz
      go_wp2_with fail
      refine (HC.out _).mono ?_
      rintro e w2 ⟨v2, rfl, ho2, b2⟩
      obtain ⟨g2, c2, rfl, _, _, _⟩ := ho2.shape (by rw [HEl.out]; omega)
      rw [HEl.out]
      have hb2 := b2
      have B2 := hid (below_trans B1.out hb2)
      have O2 := hid (O1.out.below hb2)
      have S2 := hid (S1.out.below hb2)
      have E2 := hid (show OI w2 w.heap.size (rwV ⟨g2, c2, el⟩) el from by
        have h := ho2
        rw [show rwV ⟨g2, c2, el⟩ = .slice (some ⟨g2, 0, none⟩) el.length c2 from rfl]
        exact h.mono B1.out.size)
      clear b2 hb2 ho2 a0 a1 a2
      go_wp2_with (at_builtin; refine append_row _ _ rfl rfl w.heap.size _ rs ⟨g2, c2, el⟩ ⟨w2.heap.size, 0, none⟩ rfl rfl (O2.out.alloc _) (by rw [rwV, HEl.out]; exact World.cell?_alloc_at _ _ _ _ rfl) HLn.out (size_alloc B2.out.size _) ?_; intro v' w4 hown hgrow; have O4 := hid hown; have G4 := hid hgrow; clear hown hgrow)
      go_roundg (n - (k + 1))
      case measure => have := HG.out; omega
      case rel =>
        refine ⟨k + 1, rs ++ [⟨g2, c2, el⟩], by omega, rfl, by go_num, O4.out, ?_, by rw [List.map_append, M1.out, HNx.out]; rfl, below_append B2.out B2.out.size O2.out G4.out⟩
        refine RwS.outer (RwS.below ?_ (below_alloc _ _)) (O2.out.alloc _) G4.out
        intro r hr
        rcases List.mem_append.1 hr with hr | hr
        · exact S2.out r hr
        · obtain rfl : r = ⟨g2, c2, el⟩ := by simpa using hr
          exact E2.out
    · obtain rfl : k = n := by omega
      have HM := hid (show rs.map (·.xs) = ps.map (sqS p) by have h := M1.out; rwa [List.take_of_length_le (by omega)] at h)
      have hrl : rs.length = k := by
        have h1 := congrArg List.length HM.out
        rw [List.length_map, List.length_map] at h1
        omega
      have hmem : ∀ r ∈ rs.map (·.xs), ∃ a ∈ ps, r = (sqS p) a := fun r hr => by
        rw [HM.out] at hr
        obtain ⟨a, ha, he⟩ := List.mem_map.1 hr
        exact ⟨a, ha, he.symm⟩
      obtain ⟨A2, c2, rfl, hri⟩ := RRI_ofS O1.out S1.out (by omega) (fun r hr => by
        obtain ⟨a, ha, he⟩ := hmem r.xs (List.mem_map.2 ⟨r, hr, rfl⟩)
        rw [he, show ((sqS p) a).length = 6 from rfl]
        omega)
      rw [hrl] at hri ⊢
      have HSo := hid (l4Null_ok p A2 k c2 6 _ wr HP.out (by omega) (by omega) hri (fun r hr => by
        obtain ⟨a, ha, rfl⟩ := hmem r hr
        rw [sqS_mod]
        exact Rg.modL (by omega) rfl) (by omega))
      rw [HM.out, conP_S] at HSo
      clear hri hmem hrl
      go_wp2_with fail
      refine HSo.out.mono ?_
      rintro e w9 ⟨v9, r9, rfl, hO9, hS9, hM9, hB9⟩
      have O9 := hid (OR_mono hO9 B1.out.size)
      have S9 := hid (show RwS w9 w.heap.size r9 from hS9.mono B1.out.size)
      have M9 := hid hM9
      have B9 := hid (below_trans B1.out hB9)
      clear hO9 hS9 hM9 hB9
      go_wp2
      go_ret
      exact ⟨v9, r9, rfl, O9.out, S9.out, M9.out, B9.out⟩

set_option maxRecDepth 100000 in
set_option maxHeartbeats 4000000 in
theorem baseOf_ok (p : Int) (A : Option Addr) (n c : Nat) (ps : List P3) (w : World) (hp : isPrimeB p = true) (hr : RP w A n ps) (hn : n ≤ 10) (hpb : PB ps) :
    Calls Try.prog 40 #[.int .i64 p, .slice A n c] w fun e w' => ∃ v rs, e = .returned v ∧ RwO w' w.heap.size v rs ∧ RwIn w' w.heap.size rs ∧ rs.map (·.xs) = basP p ps ∧ Below w.heap.size w w' := by
  have HR := hid hr
  have hl := hr.1
  have HPB := hid hpb
  have HP := hid hp
  have hpp := isPrimeB_bd hp
  clear hr hpb hp
  go_enter Try.func40, Try.ntmps40
  go_wp2
  go_loopg [5, 11] n (fun g v t wr => ∃ (k : Nat) (rs : List Rw), k ≤ n ∧ g = n - k ∧ t = .int .i64 k ∧ RwO wr w.heap.size v rs ∧ RwS wr w.heap.size rs ∧ rs.map (·.xs) = (ps.take k).map cuI ∧ Below w.heap.size w wr)
  case atStart => exact ⟨0, [], by omega, by omega, rfl, World.ownsRow_lit w #[] 0 (Nat.le_refl _) (by decide) rfl, fun r hr => (by cases hr), rfl, below_alloc _ _⟩
  case round =>
    obtain ⟨k, rs, hk, hg, rfl, hO, hS, hM, hB⟩ := hrel
    have HG := hid hg
    have O1 := hid hO
    have S1 := hid hS
    have M1 := hid hM
    have B1 := hid hB
    clear hg hO hS hM hB
    by_cases hlt : k < n
    · obtain ⟨b, off, rfl⟩ := HR.out.addr (by omega)
      have hkl : k < ps.length := by omega
      have hc := (HR.out.below B1.out).at3 hlt
      have hbd := HPB.out.at hkl
      have HNx := hid (map_take_succ' cuI ps default hkl)
      obtain ⟨q, hq⟩ : ∃ q, ps.getD k default = q := ⟨_, rfl⟩
      rw [hq] at hc hbd HNx
      clear hq
      obtain ⟨x, y, z⟩ := q
      obtain ⟨a0, a1, a2⟩ := hc
      have a0 : wr.cell? ⟨b, off + k * 3, none⟩ = some (.int .i64 x) := a0
      have a1 : wr.cell? ⟨b, off + k * 3 + 1, none⟩ = some (.int .i64 y) := a1
      have a2 : wr.cell? ⟨b, off + k * 3 + 2, none⟩ = some (.int .i64 z) := a2
      have hx : 0 ≤ x ∧ x ≤ 31 := hbd.1
      have hy : 0 ≤ y ∧ y ≤ 31 := hbd.2.1
      have hz : 0 ≤ z ∧ z ≤ 31 := hbd.2.2
      have HC := hid (fun W => cubes_ok x y z W hx hy hz)
      have hel : (cuI (x, y, z)).length = 10 := cubesTo_length _ _ _ _
      have HEl := hid hel
      have HLn := hid (show rs.length < 1000000 by
        have h1 := congrArg List.length M1.out
        rw [List.length_map, List.length_map, List.length_take] at h1
        omega)
      have HC : Hid (∀ W, Calls Try.prog 45 #[.agg #[.int .i64 x, .int .i64 y, .int .i64 z]] W fun e w' => ∃ v, e = .returned v ∧ OI w' W.heap.size v (cuI (x, y, z)) ∧ Below W.heap.size W w') := HC
      generalize cuI (x, y, z) = el at *
      clear hel hbd hx hy hz
      go_wp2_with fail
      refine (HC.out _).mono ?_
      rintro e w2 ⟨v2, rfl, ho2, b2⟩
      obtain ⟨g2, c2, rfl, _, _, _⟩ := ho2.shape (by rw [HEl.out]; omega)
      rw [HEl.out]
      have hb2 := below_trans (below_alloc wr (.cells #[.int .i64 x, .int .i64 y, .int .i64 z] 35)) b2
      have B2 := hid (below_trans B1.out hb2)
      have O2 := hid (O1.out.below hb2)
      have S2 := hid (S1.out.below hb2)
      have E2 := hid (show OI w2 w.heap.size (rwV ⟨g2, c2, el⟩) el from by
        have h := ho2
        rw [show rwV ⟨g2, c2, el⟩ = .slice (some ⟨g2, 0, none⟩) el.length c2 from rfl]
        exact h.mono (Nat.le_trans B1.out.size (by simp)))
      clear b2 hb2 ho2 a0 a1 a2
      go_wp2_with (at_builtin; refine append_row _ _ rfl rfl w.heap.size _ rs ⟨g2, c2, el⟩ ⟨w2.heap.size, 0, none⟩ rfl rfl (O2.out.alloc _) (by rw [rwV, HEl.out]; exact World.cell?_alloc_at _ _ _ _ rfl) HLn.out (size_alloc B2.out.size _) ?_; intro v' w4 hown hgrow; have O4 := hid hown; have G4 := hid hgrow; clear hown hgrow)
      go_roundg (n - (k + 1))
      case measure => have := HG.out; omega
      case rel =>
        refine ⟨k + 1, rs ++ [⟨g2, c2, el⟩], by omega, rfl, by go_num, O4.out, ?_, by rw [List.map_append, M1.out, HNx.out]; rfl, below_append B2.out B2.out.size O2.out G4.out⟩
        refine RwS.outer (RwS.below ?_ (below_alloc _ _)) (O2.out.alloc _) G4.out
        intro r hr
        rcases List.mem_append.1 hr with hr | hr
        · exact S2.out r hr
        · obtain rfl : r = ⟨g2, c2, el⟩ := by simpa using hr
          exact E2.out
    · obtain rfl : k = n := by omega
      have HM := hid (show rs.map (·.xs) = ps.map cuI by have h := M1.out; rwa [List.take_of_length_le (by omega)] at h)
      have hrl : rs.length = k := by
        have h1 := congrArg List.length HM.out
        rw [List.length_map, List.length_map] at h1
        omega
      have hmem : ∀ r ∈ rs.map (·.xs), ∃ a ∈ ps, r = cuI a := fun r hr => by
        rw [HM.out] at hr
        obtain ⟨a, ha, he⟩ := List.mem_map.1 hr
        exact ⟨a, ha, he.symm⟩
      obtain ⟨A2, c2, rfl, hri⟩ := RRI_ofS O1.out S1.out (by omega) (fun r hr => by
        obtain ⟨a, ha, he⟩ := hmem r.xs (List.mem_map.2 ⟨r, hr, rfl⟩)
        rw [he, show (cuI a).length = 10 from cubesTo_length _ _ _ _]
        omega)
      rw [hrl] at hri ⊢
      have HSo := hid (solutions_ok p A2 k c2 10 _ wr HP.out (by omega) (by omega) hri (fun r hr => by
        obtain ⟨a, ha, rfl⟩ := hmem r hr
        exact cubesTo_length _ _ _ _) (fun r hr x hx => by
        obtain ⟨a, ha, rfl⟩ := hmem r hr
        have := cu_bd (HPB.out a ha) x hx
        omega) (by omega))
      rw [HM.out, show solP p 10 (ps.map cuI) = basP p ps from rfl] at HSo
      clear hri hmem hrl
      go_wp2_with fail
      refine HSo.out.mono ?_
      rintro e w9 ⟨v9, r9, rfl, hO9, hS9, hM9, hB9⟩
      have O9 := hid (OR_mono hO9 B1.out.size)
      have S9 := hid (show RwIn w9 w.heap.size r9 from ⟨fun r hr => OI.mono (hS9.own r hr) B1.out.size, hS9.nd⟩)
      have M9 := hid hM9
      have B9 := hid (below_trans B1.out hB9)
      clear hO9 hS9 hM9 hB9
      go_wp2
      go_ret
      exact ⟨v9, r9, rfl, O9.out, S9.out, M9.out, B9.out⟩

set_option maxRecDepth 100000 in
set_option maxHeartbeats 4000000 in
theorem l5Base_ok (p : Int) (A : Option Addr) (c : Nat) (ps : List P3) (w : World) (hp : isPrimeB p = true) (hr : RP w A 6 ps) (hpb : PB ps) :
    Calls Try.prog 41 #[.int .i64 p, .slice A 6 c] w fun e w' => ∃ v rs, e = .returned v ∧ RwO w' w.heap.size v rs ∧ RwS w' w.heap.size rs ∧ rs.map (·.xs) = basP p ps ∧ Below w.heap.size w w' := by
  have HR := hid hr
  have hl := hr.1
  have HPB := hid hpb
  have HP := hid hp
  have hpp := isPrimeB_bd hp
  clear hr hpb hp
  go_enter Try.func41, Try.ntmps41
  go_wp2
  go_loopg [5, 6] 6 (fun g v t wr => ∃ (k : Nat) (rs : List Rw), k ≤ 6 ∧ g = 6 - k ∧ t = .int .i64 k ∧ RwO wr w.heap.size v rs ∧ RwS wr w.heap.size rs ∧ rs.map (·.xs) = (ps.take k).map (cuS p) ∧ Below w.heap.size w wr)
  case atStart => exact ⟨0, [], by omega, by omega, rfl, World.ownsRow_lit w #[] 0 (Nat.le_refl _) (by decide) rfl, fun r hr => (by cases hr), rfl, below_alloc _ _⟩
  case round =>
    obtain ⟨k, rs, hk, hg, rfl, hO, hS, hM, hB⟩ := hrel
    have HG := hid hg
    have O1 := hid hO
    have S1 := hid hS
    have M1 := hid hM
    have B1 := hid hB
    clear hg hO hS hM hB
    by_cases hlt : k < 6
    · obtain ⟨b, off, rfl⟩ := HR.out.addr (by omega)
      have hkl : k < ps.length := by omega
      have hc := (HR.out.below B1.out).at3 hlt
      have hbd := HPB.out.at hkl
      have HNx := hid (map_take_succ' (cuS p) ps default hkl)
      obtain ⟨q, hq⟩ : ∃ q, ps.getD k default = q := ⟨_, rfl⟩
      rw [hq] at hc hbd HNx
      clear hq
      obtain ⟨x, y, z⟩ := q
      obtain ⟨a0, a1, a2⟩ := hc
      have a0 : wr.cell? ⟨b, off + k * 3, none⟩ = some (.int .i64 x) := a0
      have a1 : wr.cell? ⟨b, off + k * 3 + 1, none⟩ = some (.int .i64 y) := a1
      have a2 : wr.cell? ⟨b, off + k * 3 + 2, none⟩ = some (.int .i64 z) := a2
      have hx : 0 ≤ x ∧ x ≤ 31 := hbd.1
      have hy : 0 ≤ y ∧ y ≤ 31 := hbd.2.1
      have hz : 0 ≤ z ∧ z ≤ 31 := hbd.2.2
      have HC := hid (fun W => l5Products_ok p x y z W (by omega) (by omega) hx hy hz)
      have hel : ((cuS p) (x, y, z)).length = 10 := prodTo_length _ _ _ _ _
      have HEl := hid hel
      have HLn := hid (show rs.length < 1000000 by
        have h1 := congrArg List.length M1.out
        rw [List.length_map, List.length_map, List.length_take] at h1
        omega)
      have HC : Hid (∀ W, Calls Try.prog 67 #[.int .i64 p, .agg #[.int .i64 x, .int .i64 y, .int .i64 z]] W fun e w' => ∃ v, e = .returned v ∧ OI w' W.heap.size v ((cuS p) (x, y, z)) ∧ Below W.heap.size W w') := HC
      generalize (cuS p) (x, y, z) = el at *
      clear hel hbd hx hy hz
      go_wp2_with fail
      refine (HC.out _).mono ?_
      rintro e w2 ⟨v2, rfl, ho2, b2⟩
      obtain ⟨g2, c2, rfl, _, _, _⟩ := ho2.shape (by rw [HEl.out]; omega)
      rw [HEl.out]
      have hb2 := b2
      have B2 := hid (below_trans B1.out hb2)
      have O2 := hid (O1.out.below hb2)
      have S2 := hid (S1.out.below hb2)
      have E2 := hid (show OI w2 w.heap.size (rwV ⟨g2, c2, el⟩) el from by
        have h := ho2
        rw [show rwV ⟨g2, c2, el⟩ = .slice (some ⟨g2, 0, none⟩) el.length c2 from rfl]
        exact h.mono B1.out.size)
      clear b2 hb2 ho2 a0 a1 a2
      go_wp2_with (at_builtin; refine append_row _ _ rfl rfl w.heap.size _ rs ⟨g2, c2, el⟩ ⟨w2.heap.size, 0, none⟩ rfl rfl (O2.out.alloc _) (by rw [rwV, HEl.out]; exact World.cell?_alloc_at _ _ _ _ rfl) HLn.out (size_alloc B2.out.size _) ?_; intro v' w4 hown hgrow; have O4 := hid hown; have G4 := hid hgrow; clear hown hgrow)
      go_roundg (6 - (k + 1))
      case measure => have := HG.out; omega
      case rel =>
        refine ⟨k + 1, rs ++ [⟨g2, c2, el⟩], by omega, rfl, by go_num, O4.out, ?_, by rw [List.map_append, M1.out, HNx.out]; rfl, below_append B2.out B2.out.size O2.out G4.out⟩
        refine RwS.outer (RwS.below ?_ (below_alloc _ _)) (O2.out.alloc _) G4.out
        intro r hr
        rcases List.mem_append.1 hr with hr | hr
        · exact S2.out r hr
        · obtain rfl : r = ⟨g2, c2, el⟩ := by simpa using hr
          exact E2.out
    · obtain rfl : k = 6 := by omega
      have HM := hid (show rs.map (·.xs) = ps.map (cuS p) by have h := M1.out; rwa [List.take_of_length_le (by omega)] at h)
      have hrl : rs.length = 6 := by
        have h1 := congrArg List.length HM.out
        rw [List.length_map, List.length_map] at h1
        omega
      have hmem : ∀ r ∈ rs.map (·.xs), ∃ a ∈ ps, r = (cuS p) a := fun r hr => by
        rw [HM.out] at hr
        obtain ⟨a, ha, he⟩ := List.mem_map.1 hr
        exact ⟨a, ha, he.symm⟩
      obtain ⟨A2, c2, rfl, hri⟩ := RRI_ofS O1.out S1.out (by omega) (fun r hr => by
        obtain ⟨a, ha, he⟩ := hmem r.xs (List.mem_map.2 ⟨r, hr, rfl⟩)
        rw [he, show ((cuS p) a).length = 10 from prodTo_length _ _ _ _ _]
        omega)
      rw [hrl] at hri ⊢
      have HSo := hid (l4Null_ok p A2 6 c2 10 _ wr HP.out (by omega) (by omega) hri (fun r hr => by
        obtain ⟨a, ha, rfl⟩ := hmem r hr
        rw [cuS_mod p (by omega)]
        exact Rg.modL (by omega) (cubesTo_length _ _ _ _)) (by omega))
      rw [HM.out, basP_S p (by omega)] at HSo
      clear hri hmem hrl
      go_wp2_with fail
      refine HSo.out.mono ?_
      rintro e w9 ⟨v9, r9, rfl, hO9, hS9, hM9, hB9⟩
      have O9 := hid (OR_mono hO9 B1.out.size)
      have S9 := hid (show RwS w9 w.heap.size r9 from hS9.mono B1.out.size)
      have M9 := hid hM9
      have B9 := hid (below_trans B1.out hB9)
      clear hO9 hS9 hM9 hB9
      go_wp2
      go_ret
      exact ⟨v9, r9, rfl, O9.out, S9.out, M9.out, B9.out⟩

end Go.Proofs.Ytkhkcgoblibnpaa
