/-
  Contracts: whether points are such and no three are on one line, of both sides.
-/
import Derived.Test.YtkhkcgoblibnpaaCr
import Derived.Test.YtkhkcgoblibnpaaPt
import Derived.Test.YtkhkcgoblibnpaaCv
import Derived.Deep.LoopGhost
namespace Go.Proofs.Ytkhkcgoblibnpaa
open Go.RowKit
set_option linter.unusedVariables false
set_option linter.unusedSimpArgs false

def ptOk (p : Int) (a : P3) : Bool := specPointB p a.1 a.2.1 a.2.2
def det3 (a b c : P3) : Int := (a.2.1 * b.2.2 - a.2.2 * b.2.1) * c.1 + (a.2.2 * b.1 - a.1 * b.2.2) * c.2.1 + (a.1 * b.2.1 - a.2.1 * b.1) * c.2.2
def tri (p : Int) (a b c : P3) : Bool := det3 a b c % p == 0
def pairB (p : Int) (ps : List P3) (i j : Nat) : Bool := (List.range j).all (fun k => !tri p (ps.getD i default) (ps.getD j default) (ps.getD k default))
def rowB (p : Int) (ps : List P3) (i : Nat) : Bool := (List.range i).all (pairB p ps i)
def apB (p : Int) (ps : List P3) (i : Nat) : Bool := ptOk p (ps.getD i default) && rowB p ps i
/-- The points are such, and no three are on one line. -/
def apartB (p : Int) (ps : List P3) : Bool := (List.range ps.length).all (apB p ps)
theorem rall_no {f : Nat → Bool} {n i : Nat} (h : i < n) (hf : f i = false) : (List.range n).all f = false := by
  rw [List.all_eq_false]
  exact ⟨i, by rw [List.mem_range]; exact h, by rw [hf]; simp⟩
theorem rall_yes {f : Nat → Bool} {n : Nat} (h : ∀ i, i < n → f i = true) : (List.range n).all f = true := by
  rw [List.all_eq_true]
  exact fun i hi => h i (List.mem_range.1 hi)
theorem ptOk_bd {p : Int} {a : P3} (h : ptOk p a = true) : (7 ≤ p ∧ p ≤ 31) ∧ (0 ≤ a.1 ∧ a.1 < p) ∧ (0 ≤ a.2.1 ∧ a.2.1 < p) ∧ (0 ≤ a.2.2 ∧ a.2.2 < p) := specPoint_bd h
theorem dot_det (a b c : P3) : dotTo [a.2.1 * b.2.2 - a.2.2 * b.2.1, a.2.2 * b.1 - a.1 * b.2.2, a.1 * b.2.1 - a.2.1 * b.1] [c.1, c.2.1, c.2.2] 3 = det3 a b c := by
  simp [dotTo, det3]
theorem dot_det2 (p : Int) (a b c : P3) : dotTo [a.1, a.2.1, a.2.2] (crossS p b.1 b.2.1 b.2.2 c.1 c.2.1 c.2.2) 3 % p = det3 a b c % p := by
  rw [crossS, dotTo_mod p _ _ [b.2.1 * c.2.2 - b.2.2 * c.2.1, b.2.2 * c.1 - b.1 * c.2.2, b.1 * c.2.1 - b.2.1 * c.1] 3 (fun i hi => by
    match i, hi with
    | 0, _ => simp
    | 1, _ => simp
    | 2, _ => simp)]
  congr 1
  simp only [dotTo, det3, List.getD_cons_zero, List.getD_cons_succ]
  grind
theorem RP.at3 {w : World} {b off n : Nat} {ps : List P3} (h : RP w (some ⟨b, off, none⟩) n ps) {j : Nat} (hj : j < n) :
    w.cell? ⟨b, off + j * 3, none⟩ = some (.int .i64 (ps.getD j default).1) ∧ w.cell? ⟨b, off + j * 3 + 1, none⟩ = some (.int .i64 (ps.getD j default).2.1) ∧ w.cell? ⟨b, off + j * 3 + 2, none⟩ = some (.int .i64 (ps.getD j default).2.2) := by
  obtain ⟨_, _, b', off', hA, hc⟩ := h
  rcases hA with hA | hA
  · omega
  · injection hA with hA
    injection hA with h1 h2
    subst h1 h2
    exact hc j hj
theorem RP.addr {w : World} {A : Option Addr} {n : Nat} {ps : List P3} (h : RP w A n ps) (hn : 0 < n) : ∃ b off, A = some ⟨b, off, none⟩ := by
  obtain ⟨_, _, b, off, hA, _⟩ := h
  rcases hA with hA | hA
  · omega
  · exact ⟨b, off, hA⟩
theorem IBox.ri {w : World} {k : Nat} {a b c : Int} (h : IBox w k a b c) : RI w (some ⟨k, 0, none⟩) 3 [a, b, c] := by
  refine ⟨rfl, by omega, k, 0, .inr rfl, fun j hj => ?_⟩
  obtain ⟨h0, h1, h2, _⟩ := h.cells
  match j, hj with
  | 0, _ => exact h0
  | 1, _ => exact h1
  | 2, _ => exact h2

set_option maxRecDepth 100000 in
set_option maxHeartbeats 8000000 in
theorem areApart_ok (p : Int) (A : Option Addr) (n c : Nat) (ps : List P3) (w : World) (hr : RP w A n ps) (hn : n ≤ 10) (hnc : n ≤ c) :
    Calls Try.prog 56 #[.int .i64 p, .slice A n c] w fun e w' => e = .returned (.bool (apartB p ps)) ∧ Below w.heap.size w w' := by
  have HR := hid hr
  have hl := hr.1
  clear hr
  go_enter Try.func56, Try.ntmps56
  go_wp2
  go_loopg [13] n (fun g t wr => ∃ i : Nat, i ≤ n ∧ g = n - i ∧ t = .int .i64 i ∧ (∀ m, m < i → apB p ps m = true) ∧ Below w.heap.size w wr)
  case atStart => exact ⟨0, by omega, by omega, rfl, fun m hm => by omega, Below.refl _ _⟩
  case round =>
    obtain ⟨i, hi, hg, rfl, hall, hb⟩ := hrel
    have HG := hid hg
    have HAll := hid hall
    have HB := hid hb
    clear hg hall hb
    by_cases hlt : i < n
    · obtain ⟨b, off, rfl⟩ := HR.out.addr (by omega)
      have hin : i < ps.length := by omega
      have hca := (HR.out.below HB.out).at3 hlt
      obtain ⟨a0, a1, a2⟩ := hca
      have HPt := hid (fun W => isPoint_ok' p (ps.getD i default).1 (ps.getD i default).2.1 (ps.getD i default).2.2 W)
      have HPe := hid (show specPointB p (ps.getD i default).1 (ps.getD i default).2.1 (ps.getD i default).2.2 = ptOk p (ps.getD i default) from rfl)
      rw [HPe.out] at HPt
      have HAp := hid (show apB p ps i = (ptOk p (ps.getD i default) && rowB p ps i) from rfl)
      cases hpt : ptOk p (ps.getD i default)
      · rw [hpt] at HPt
        have HNo := hid (show apartB p ps = false from rall_no hin (by rw [HAp.out, hpt]; rfl))
        clear hpt HPe
        generalize (ps.getD i default).1 = x at *
        generalize (ps.getD i default).2.1 = y at *
        generalize (ps.getD i default).2.2 = z at *
        go_wp2_with fail
        refine (HPt.out _).mono ?_
        rintro e w1 ⟨rfl, b1⟩
        have B1 := hid (below_trans HB.out (below_trans (below_alloc _ _) b1))
        clear b1 a0 a1 a2
        go_wp2
        go_ret
        exact ⟨by rw [HNo.out]; rfl, B1.out⟩
      · rw [hpt] at HPt
        have hbd := ptOk_bd hpt
        have HBd := hid hbd
        have HPo := hid hpt
        clear hpt HPe hbd
        obtain ⟨qa, hqa⟩ : ∃ q, ps.getD i default = q := ⟨_, rfl⟩
        rw [hqa] at HPt HBd HPo HAp a0 a1 a2
        have HQa := hid hqa
        clear hqa
        obtain ⟨x, y, z⟩ := qa
        have HBd := hid (show (7 ≤ p ∧ p ≤ 31) ∧ (0 ≤ x ∧ x < p) ∧ (0 ≤ y ∧ y < p) ∧ (0 ≤ z ∧ z < p) from HBd.out)
        have a0 : wr.cell? ⟨b, off + i * 3, none⟩ = some (.int .i64 x) := a0
        have a1 : wr.cell? ⟨b, off + i * 3 + 1, none⟩ = some (.int .i64 y) := a1
        have a2 : wr.cell? ⟨b, off + i * 3 + 2, none⟩ = some (.int .i64 z) := a2
        have HPt : Hid (∀ W, Calls Try.prog 43 #[.int .i64 p, .agg #[.int .i64 x, .int .i64 y, .int .i64 z]] W fun e w' => e = .returned (.bool true) ∧ Below W.heap.size W w') := HPt
        have XA := hid (IBox.new wr x y z)
        have hic : i ≤ c := by omega
        go_wp2_with fail
        refine (HPt.out _).mono ?_
        rintro e w1 ⟨rfl, b1⟩
        have XA1 := hid (XA.out.below b1)
        have B1 := hid (below_trans HB.out (below_trans (below_alloc wr (.cells #[.int .i64 x, .int .i64 y, .int .i64 z] 35)) b1))
        clear b1 a0 a1 a2 XA
        obtain ⟨ga, hga⟩ : ∃ ga, ga = wr.heap.size := ⟨_, rfl⟩
        rw [← hga] at XA1 ⊢
        clear hga
        go_wp2
        go_loopg [26] i (fun g t wq => ∃ j : Nat, j ≤ i ∧ g = i - j ∧ t = .int .i64 j ∧ (∀ m, m < j → pairB p ps i m = true) ∧ IBox wq ga x y z ∧ Below w.heap.size w wq)
        case atStart => exact ⟨0, by omega, by omega, rfl, fun m hm => by omega, XA1.out, B1.out⟩
        case round =>
          obtain ⟨j, hj, hg2, rfl, hall2, hxa, hb2⟩ := hrel
          have HG2 := hid hg2
          have HAll2 := hid hall2
          have XA2 := hid hxa
          have HB2 := hid hb2
          clear hg2 hall2 hxa hb2
          by_cases hjt : j < i
          · have hjn : j < n := by omega
            obtain ⟨c0, c1, c2⟩ := (HR.out.below HB2.out).at3 hjn
            have hpj : ptOk p (ps.getD j default) = true := by
              have := HAll.out j hjt
              rw [apB, Bool.and_eq_true] at this
              exact this.1
            have HBj := hid (ptOk_bd hpj)
            clear hpj
            obtain ⟨qb, hqb⟩ : ∃ q, ps.getD j default = q := ⟨_, rfl⟩
            rw [hqb] at HBj c0 c1 c2
            have HQb := hid hqb
            clear hqb
            obtain ⟨l, m, o⟩ := qb
            have HBj := hid (show (7 ≤ p ∧ p ≤ 31) ∧ (0 ≤ l ∧ l < p) ∧ (0 ≤ m ∧ m < p) ∧ (0 ≤ o ∧ o < p) from HBj.out)
            have c0 : wr.cell? ⟨b, off + j * 3, none⟩ = some (.int .i64 l) := c0
            have c1 : wr.cell? ⟨b, off + j * 3 + 1, none⟩ = some (.int .i64 m) := c1
            have c2 : wr.cell? ⟨b, off + j * 3 + 2, none⟩ = some (.int .i64 o) := c2
            have hjc : j ≤ c := by omega
            have XB3 := hid (IBox.new wr l m o)
            have XA3 := hid (XA2.out.below (below_alloc wr (.cells #[.int .i64 l, .int .i64 m, .int .i64 o] 35)))
            have HB3 := hid (below_trans HB2.out (below_alloc wr (.cells #[.int .i64 l, .int .i64 m, .int .i64 o] 35)))
            go_wp2
            obtain ⟨gb, hgb⟩ : ∃ gb, gb = wr.heap.size := ⟨_, rfl⟩
            rw [← hgb] at XB3 ⊢
            clear hgb
            generalize wr.alloc (.cells #[.int .i64 l, .int .i64 m, .int .i64 o] 35) = w5 at *
            clear c0 c1 c2
            go_loopg [35] j (fun g t wq => ∃ k : Nat, k ≤ j ∧ g = j - k ∧ t = .int .i64 k ∧ (∀ m, m < k → tri p (ps.getD i default) (ps.getD j default) (ps.getD m default) = false) ∧ IBox wq ga x y z ∧ IBox wq gb l m o ∧ Below w.heap.size w wq)
            case atStart => exact ⟨0, by omega, by omega, rfl, fun m hm => by omega, XA3.out, XB3.out, HB3.out⟩
            case round =>
              obtain ⟨k, hk, hg3, rfl, hall3, hxa, hxb, hb3⟩ := hrel
              have HG3 := hid hg3
              have HAll3 := hid hall3
              have XA4 := hid hxa
              have XB4 := hid hxb
              have HB4 := hid hb3
              clear hg3 hall3 hxa hxb hb3
              by_cases hkt : k < j
              · have hkn : k < n := by omega
                obtain ⟨c0, c1, c2⟩ := (HR.out.below HB4.out).at3 hkn
                have hpk : ptOk p (ps.getD k default) = true := by
                  have := HAll.out k (by omega)
                  rw [apB, Bool.and_eq_true] at this
                  exact this.1
                have HBk := hid (ptOk_bd hpk)
                clear hpk
                obtain ⟨qc, hqc⟩ : ∃ q, ps.getD k default = q := ⟨_, rfl⟩
                rw [hqc] at HBk c0 c1 c2
                have HQc := hid hqc
                clear hqc
                obtain ⟨r, s, t⟩ := qc
                have HBk := hid (show (7 ≤ p ∧ p ≤ 31) ∧ (0 ≤ r ∧ r < p) ∧ (0 ≤ s ∧ s < p) ∧ (0 ≤ t ∧ t < p) from HBk.out)
                have c0 : wr.cell? ⟨b, off + k * 3, none⟩ = some (.int .i64 r) := c0
                have c1 : wr.cell? ⟨b, off + k * 3 + 1, none⟩ = some (.int .i64 s) := c1
                have c2 : wr.cell? ⟨b, off + k * 3 + 2, none⟩ = some (.int .i64 t) := c2
                have HTri := hid (show tri p (ps.getD i default) (ps.getD j default) (ps.getD k default) = (dotTo [y * o - z * m, z * l - x * o, x * m - y * l] [r, s, t] 3 % p == 0) from by
                  rw [HQa.out, HQb.out, HQc.out, tri, ← dot_det])
                have XC5 := hid (IBox.new wr r s t)
                have XA5 := hid (XA4.out.below (below_alloc wr (.cells #[.int .i64 r, .int .i64 s, .int .i64 t] 35)))
                have XB5 := hid (XB4.out.below (below_alloc wr (.cells #[.int .i64 r, .int .i64 s, .int .i64 t] 35)))
                have HB5 := hid (below_trans HB4.out (below_alloc wr (.cells #[.int .i64 r, .int .i64 s, .int .i64 t] 35)))
                have HCr := hid (fun W => cross_ok x y z l m o W (by have := HBd.out; omega) (by have := HBd.out; omega) (by have := HBd.out; omega) (by have := HBj.out; omega) (by have := HBj.out; omega) (by have := HBj.out; omega))
                have HDo := hid (fun (A1 : Addr) (A2 : Option Addr) W h1 h2 => dot_ok p (some A1) 3 3 [y * o - z * m, z * l - x * o, x * m - y * l] A2 3 [r, s, t] W h1 h2 (by have := HBd.out; omega) (by have := HBd.out; omega) (by omega) (by
                  have ha := HBd.out
                  have hb := HBj.out
                  have hc := HBk.out
                  have m1 := mul_bd (show 0 ≤ y by omega) (show 0 ≤ o by omega) (show y ≤ 31 by omega) (show o ≤ 31 by omega)
                  have m2 := mul_bd (show 0 ≤ z by omega) (show 0 ≤ m by omega) (show z ≤ 31 by omega) (show m ≤ 31 by omega)
                  have m3 := mul_bd (show 0 ≤ z by omega) (show 0 ≤ l by omega) (show z ≤ 31 by omega) (show l ≤ 31 by omega)
                  have m4 := mul_bd (show 0 ≤ x by omega) (show 0 ≤ o by omega) (show x ≤ 31 by omega) (show o ≤ 31 by omega)
                  have m5 := mul_bd (show 0 ≤ x by omega) (show 0 ≤ m by omega) (show x ≤ 31 by omega) (show m ≤ 31 by omega)
                  have m6 := mul_bd (show 0 ≤ y by omega) (show 0 ≤ l by omega) (show y ≤ 31 by omega) (show l ≤ 31 by omega)
                  have key : ∀ u v : Int, -1000 ≤ u → u ≤ 1000 → 0 ≤ v → v ≤ 31 → -1000000000 ≤ u * v ∧ u * v ≤ 1000000000 := fun u v h1 h2 h3 h4 => by
                    rcases Int.le_total 0 u with hu | hu
                    · have := mul_bd hu h3 h2 h4; omega
                    · have := mul_bd (show 0 ≤ -u by omega) h3 (show -u ≤ 1000 by omega) h4
                      rw [Int.neg_mul] at this; omega
                  intro q hq
                  match q, hq with
                  | 0, _ => exact key (y * o - z * m) r (by omega) (by omega) (by omega) (by omega)
                  | 1, _ => exact key (z * l - x * o) s (by omega) (by omega) (by omega) (by omega)
                  | 2, _ => exact key (x * m - y * l) t (by omega) (by omega) (by omega) (by omega)))
                generalize dotTo [y * o - z * m, z * l - x * o, x * m - y * l] [r, s, t] 3 % p = dv at *
                go_wp2
                obtain ⟨gc, hgc⟩ : ∃ gc, gc = wr.heap.size := ⟨_, rfl⟩
                rw [← hgc] at XC5 ⊢
                clear hgc
                generalize wr.alloc (.cells #[.int .i64 r, .int .i64 s, .int .i64 t] 35) = w6 at *
                obtain ⟨x0, x1, x2, _⟩ := XA5.out.cells
                obtain ⟨y0, y1, y2, _⟩ := XB5.out.cells
                clear c0 c1 c2
                have done : ∀ w8 : World, Below w.heap.size w w8 → IBox w8 ga x y z → IBox w8 gb l m o → True := fun _ _ _ _ => trivial
                cases hdv : (dv == 0)
                · have HDv := hid hdv
                  rw [hdv] at HTri
                  clear done
                  go_region_held_law (fun w' => (w'.cell? ⟨ga, 0, none⟩ = some (.int .i64 x) ∧ w'.cell? ⟨ga, 1, none⟩ = some (.int .i64 y) ∧ w'.cell? ⟨ga, 2, none⟩ = some (.int .i64 z)) ∧ (w'.cell? ⟨gb, 0, none⟩ = some (.int .i64 l) ∧ w'.cell? ⟨gb, 1, none⟩ = some (.int .i64 m) ∧ w'.cell? ⟨gb, 2, none⟩ = some (.int .i64 o))) (first | with_reducible exact ⟨⟨k0, k1, k2⟩, ⟨k3, k4, k5⟩⟩ | go_keep)
                    (first
                      | (go_at_call 59; refine (HCr.out _).mono ?_; rintro e w7 ⟨AC, rfl, ric, b7⟩; have RIC := hid ric; have B7 := hid (below_trans HB5.out.drew b7); have XA7 := hid ((show IBox w6.drew ga x y z from XA5.out).below b7); have XB7 := hid ((show IBox w6.drew gb l m o from XB5.out).below b7); have XC7 := hid ((show IBox w6.drew gc r s t from XC5.out).below b7); have k0 := cell_below b7 x0; have k1 := cell_below b7 x1; have k2 := cell_below b7 x2; have k3 := cell_below b7 y0; have k4 := cell_below b7 y1; have k5 := cell_below b7 y2; clear ric b7)
                      | (go_at_call 44; refine (HDo.out _ _ _ RIC.out XC7.out.ri).mono ?_; rintro e w8 ⟨rfl, rfl⟩))
                  go_wp2
                  go_roundg (j - (k + 1))
                  case measure => have := HG3.out; omega
                  case rel => exact ⟨k + 1, by omega, rfl, by go_num, fun m' hm' => by
                    by_cases hmk : m' = k
                    · subst hmk; rw [HTri.out]
                    · exact HAll3.out m' (by omega), XA7.out, XB7.out, B7.out⟩
                · have HNo := hid (show apartB p ps = false from rall_no hin (by
                    rw [HAp.out, HPo.out, Bool.true_and]
                    exact rall_no hjt (rall_no hkt (by rw [HTri.out, hdv]; rfl))))
                  clear done
                  go_region_held_law (fun w' => (w'.cell? ⟨ga, 0, none⟩ = some (.int .i64 x) ∧ w'.cell? ⟨ga, 1, none⟩ = some (.int .i64 y) ∧ w'.cell? ⟨ga, 2, none⟩ = some (.int .i64 z)) ∧ (w'.cell? ⟨gb, 0, none⟩ = some (.int .i64 l) ∧ w'.cell? ⟨gb, 1, none⟩ = some (.int .i64 m) ∧ w'.cell? ⟨gb, 2, none⟩ = some (.int .i64 o))) (first | with_reducible exact ⟨⟨k0, k1, k2⟩, ⟨k3, k4, k5⟩⟩ | go_keep)
                    (first
                      | (go_at_call 59; refine (HCr.out _).mono ?_; rintro e w7 ⟨AC, rfl, ric, b7⟩; have RIC := hid ric; have B7 := hid (below_trans HB5.out.drew b7); have XA7 := hid ((show IBox w6.drew ga x y z from XA5.out).below b7); have XB7 := hid ((show IBox w6.drew gb l m o from XB5.out).below b7); have XC7 := hid ((show IBox w6.drew gc r s t from XC5.out).below b7); have k0 := cell_below b7 x0; have k1 := cell_below b7 x1; have k2 := cell_below b7 x2; have k3 := cell_below b7 y0; have k4 := cell_below b7 y1; have k5 := cell_below b7 y2; clear ric b7)
                      | (go_at_call 44; refine (HDo.out _ _ _ RIC.out XC7.out.ri).mono ?_; rintro e w8 ⟨rfl, rfl⟩))
                  go_wp2
                  go_ret
                  exact ⟨by rw [HNo.out]; rfl, B7.out⟩
              · obtain rfl : k = j := by omega
                have HPair := hid (show pairB p ps i k = true from rall_yes (fun m' hm' => by rw [HAll3.out m' hm']; rfl))
                go_wp2
                go_roundg (i - (k + 1))
                case measure => have := HG2.out; omega
                case rel => exact ⟨k + 1, by omega, rfl, by go_num, fun m' hm' => by
                  by_cases hmk : m' = k
                  · subst hmk; exact HPair.out
                  · exact HAll2.out m' (by omega), XA4.out, HB4.out⟩
          · obtain rfl : j = i := by omega
            have HA1 := hid (show apB p ps j = true from by
              rw [HAp.out, HPo.out, Bool.true_and]
              exact rall_yes HAll2.out)
            go_wp2
            go_roundg (n - (j + 1))
            case measure => have := HG.out; omega
            case rel => exact ⟨j + 1, by omega, rfl, by go_num, fun m' hm' => by
              by_cases hmk : m' = j
              · subst hmk; exact HA1.out
              · exact HAll.out m' (by omega), HB2.out⟩
    · obtain rfl : i = n := by omega
      have HY := hid (show apartB p ps = true from rall_yes (fun m hm => HAll.out m (by omega)))
      go_wp2
      go_ret
      exact ⟨by rw [HY.out]; rfl, HB.out⟩

set_option maxRecDepth 100000 in
set_option maxHeartbeats 8000000 in
theorem l4Apart_ok (p : Int) (A : Option Addr) (n c : Nat) (ps : List P3) (w : World) (hr : RP w A n ps) (hn : n ≤ 10) :
    Calls Try.prog 54 #[.int .i64 p, .slice A n c] w fun e w' => e = .returned (.bool (apartB p ps)) ∧ Below w.heap.size w w' := by
  have HR := hid hr
  have hl := hr.1
  clear hr
  go_enter Try.func54, Try.ntmps54
  go_wp2
  go_loopg [5] n (fun g t wr => ∃ i : Nat, i ≤ n ∧ g = n - i ∧ t = .int .i64 i ∧ (∀ m, m < i → apB p ps m = true) ∧ Below w.heap.size w wr)
  case atStart => exact ⟨0, by omega, by omega, rfl, fun m hm => by omega, Below.refl _ _⟩
  case round =>
    obtain ⟨i, hi, hg, rfl, hall, hb⟩ := hrel
    have HG := hid hg
    have HAll := hid hall
    have HB := hid hb
    clear hg hall hb
    by_cases hlt : i < n
    · obtain ⟨b, off, rfl⟩ := HR.out.addr (by omega)
      have hin : i < ps.length := by omega
      obtain ⟨a0, a1, a2⟩ := (HR.out.below HB.out).at3 hlt
      have HPt := hid (fun W => specPointIn_ok p (ps.getD i default).1 (ps.getD i default).2.1 (ps.getD i default).2.2 W)
      have HPe := hid (show specPointB p (ps.getD i default).1 (ps.getD i default).2.1 (ps.getD i default).2.2 = ptOk p (ps.getD i default) from rfl)
      rw [HPe.out] at HPt
      have HAp := hid (show apB p ps i = (ptOk p (ps.getD i default) && rowB p ps i) from rfl)
      cases hpt : ptOk p (ps.getD i default)
      · rw [hpt] at HPt
        have HNo := hid (show apartB p ps = false from rall_no hin (by rw [HAp.out, hpt]; rfl))
        clear hpt HPe
        generalize (ps.getD i default).1 = x at *
        generalize (ps.getD i default).2.1 = y at *
        generalize (ps.getD i default).2.2 = z at *
        go_wp2_with fail
        refine (HPt.out _).mono ?_
        rintro e w1 ⟨rfl, b1⟩
        have B1 := hid (below_trans HB.out b1)
        clear b1 a0 a1 a2
        go_wp2
        go_ret
        exact ⟨by rw [HNo.out]; rfl, B1.out⟩
      · rw [hpt] at HPt
        have hbd := ptOk_bd hpt
        have HBd := hid hbd
        have HPo := hid hpt
        clear hpt HPe hbd
        obtain ⟨qa, hqa⟩ : ∃ q, ps.getD i default = q := ⟨_, rfl⟩
        rw [hqa] at HPt HBd HPo HAp a0 a1 a2
        have HQa := hid hqa
        clear hqa
        obtain ⟨x, y, z⟩ := qa
        have HBd := hid (show (7 ≤ p ∧ p ≤ 31) ∧ (0 ≤ x ∧ x < p) ∧ (0 ≤ y ∧ y < p) ∧ (0 ≤ z ∧ z < p) from HBd.out)
        have a0 : wr.cell? ⟨b, off + i * 3, none⟩ = some (.int .i64 x) := a0
        have a1 : wr.cell? ⟨b, off + i * 3 + 1, none⟩ = some (.int .i64 y) := a1
        have a2 : wr.cell? ⟨b, off + i * 3 + 2, none⟩ = some (.int .i64 z) := a2
        have HPt : Hid (∀ W, Calls Try.prog 47 #[.int .i64 p, .agg #[.int .i64 x, .int .i64 y, .int .i64 z]] W fun e w' => e = .returned (.bool true) ∧ Below W.heap.size W w') := HPt
        go_wp2_with fail
        refine (HPt.out _).mono ?_
        rintro e w1 ⟨rfl, b1⟩
        have B1 := hid (below_trans HB.out b1)
        clear b1 a0 a1 a2
        go_wp2
        go_loopg [6] i (fun g t wq => ∃ j : Nat, j ≤ i ∧ g = i - j ∧ t = .int .i64 j ∧ (∀ m, m < j → pairB p ps i m = true) ∧ Below w.heap.size w wq)
        case atStart => exact ⟨0, by omega, by omega, rfl, fun m hm => by omega, B1.out⟩
        case round =>
          obtain ⟨j, hj, hg2, rfl, hall2, hb2⟩ := hrel
          have HG2 := hid hg2
          have HAll2 := hid hall2
          have HB2 := hid hb2
          clear hg2 hall2 hb2
          by_cases hjt : j < i
          · have hjn : j < n := by omega
            have hpj : ptOk p (ps.getD j default) = true := by
              have := HAll.out j hjt
              rw [apB, Bool.and_eq_true] at this
              exact this.1
            have HBj := hid (ptOk_bd hpj)
            clear hpj
            obtain ⟨qb, hqb⟩ : ∃ q, ps.getD j default = q := ⟨_, rfl⟩
            rw [hqb] at HBj
            have HQb := hid hqb
            clear hqb
            obtain ⟨l, m, o⟩ := qb
            have HBj := hid (show (7 ≤ p ∧ p ≤ 31) ∧ (0 ≤ l ∧ l < p) ∧ (0 ≤ m ∧ m < p) ∧ (0 ≤ o ∧ o < p) from HBj.out)
            go_wp2
            go_loopg [7] j (fun g t wq => ∃ k : Nat, k ≤ j ∧ g = j - k ∧ t = .int .i64 k ∧ (∀ m, m < k → tri p (ps.getD i default) (ps.getD j default) (ps.getD m default) = false) ∧ Below w.heap.size w wq)
            case atStart => exact ⟨0, by omega, by omega, rfl, fun m hm => by omega, HB2.out⟩
            case round =>
              obtain ⟨k, hk, hg3, rfl, hall3, hb3⟩ := hrel
              have HG3 := hid hg3
              have HAll3 := hid hall3
              have HB4 := hid hb3
              clear hg3 hall3 hb3
              by_cases hkt : k < j
              · have hkn : k < n := by omega
                have hra := (HR.out.below HB4.out).at3 hlt
                have hrb := (HR.out.below HB4.out).at3 hjn
                have hrc := (HR.out.below HB4.out).at3 hkn
                have hpk : ptOk p (ps.getD k default) = true := by
                  have := HAll.out k (by omega)
                  rw [apB, Bool.and_eq_true] at this
                  exact this.1
                have HBk := hid (ptOk_bd hpk)
                clear hpk
                obtain ⟨qc, hqc⟩ : ∃ q, ps.getD k default = q := ⟨_, rfl⟩
                rw [hqc] at HBk hrc
                rw [HQa.out] at hra
                rw [HQb.out] at hrb
                have HQc := hid hqc
                clear hqc
                obtain ⟨r, s, t⟩ := qc
                have HBk := hid (show (7 ≤ p ∧ p ≤ 31) ∧ (0 ≤ r ∧ r < p) ∧ (0 ≤ s ∧ s < p) ∧ (0 ≤ t ∧ t < p) from HBk.out)
                obtain ⟨a0, a1, a2⟩ := hra
                obtain ⟨b0, b1, b2⟩ := hrb
                obtain ⟨c0, c1, c2⟩ := hrc
                have a0 : wr.cell? ⟨b, off + i * 3, none⟩ = some (.int .i64 x) := a0
                have a1 : wr.cell? ⟨b, off + i * 3 + 1, none⟩ = some (.int .i64 y) := a1
                have a2 : wr.cell? ⟨b, off + i * 3 + 2, none⟩ = some (.int .i64 z) := a2
                have b0 : wr.cell? ⟨b, off + j * 3, none⟩ = some (.int .i64 l) := b0
                have b1 : wr.cell? ⟨b, off + j * 3 + 1, none⟩ = some (.int .i64 m) := b1
                have b2 : wr.cell? ⟨b, off + j * 3 + 2, none⟩ = some (.int .i64 o) := b2
                have c0 : wr.cell? ⟨b, off + k * 3, none⟩ = some (.int .i64 r) := c0
                have c1 : wr.cell? ⟨b, off + k * 3 + 1, none⟩ = some (.int .i64 s) := c1
                have c2 : wr.cell? ⟨b, off + k * 3 + 2, none⟩ = some (.int .i64 t) := c2
                have HTri := hid (show tri p (ps.getD i default) (ps.getD j default) (ps.getD k default) = (dotTo [x, y, z] (crossS p l m o r s t) 3 % p == 0) from by
                  rw [HQa.out, HQb.out, HQc.out, tri, ← dot_det2])
                have HCr := hid (fun W => l4Cross_ok p l m o r s t W (by have := HBd.out; omega) (by have := HBd.out; omega) (by have := HBj.out; omega) (by have := HBj.out; omega) (by have := HBj.out; omega) (by have := HBk.out; omega) (by have := HBk.out; omega) (by have := HBk.out; omega))
                have HDo := hid (fun (A1 : Option Addr) (c' : Nat) W h1 => l4On_ok p x y z A1 3 c' (crossS p l m o r s t) W h1 rfl (by have := HBd.out; omega) (by have := HBd.out; omega) (by have := HBd.out; omega) (by have := HBd.out; omega) (by have := HBd.out; omega) (by
                  have hp := HBd.out
                  have key : ∀ u : Int, 0 ≤ u % p ∧ u % p ≤ 31 := fun u => by
                    have h1 := Int.emod_nonneg u (show p ≠ 0 by omega)
                    have h2 := Int.emod_lt_of_pos u (show 0 < p by omega)
                    omega
                  intro q hq
                  match q, hq with
                  | 0, _ => exact key _
                  | 1, _ => exact key _
                  | 2, _ => exact key _))
                have HCl := hid (show (crossS p l m o r s t).length = 3 from rfl)
                generalize (dotTo [x, y, z] (crossS p l m o r s t) 3 % p == 0) = dv at *
                generalize crossS p l m o r s t = cs at *
                cases dv
                · go_wp2
                  go_region_held_law (fun w' => (w'.cell? ⟨b, off + i * 3, none⟩ = some (.int .i64 x) ∧ w'.cell? ⟨b, off + i * 3 + 1, none⟩ = some (.int .i64 y) ∧ w'.cell? ⟨b, off + i * 3 + 2, none⟩ = some (.int .i64 z)) ∧ (w'.cell? ⟨b, off + j * 3, none⟩ = some (.int .i64 l) ∧ w'.cell? ⟨b, off + j * 3 + 1, none⟩ = some (.int .i64 m) ∧ w'.cell? ⟨b, off + j * 3 + 2, none⟩ = some (.int .i64 o)) ∧ (w'.cell? ⟨b, off + k * 3, none⟩ = some (.int .i64 r) ∧ w'.cell? ⟨b, off + k * 3 + 1, none⟩ = some (.int .i64 s) ∧ w'.cell? ⟨b, off + k * 3 + 2, none⟩ = some (.int .i64 t))) (first | with_reducible exact ⟨⟨m0, m1, m2⟩, ⟨m3, m4, m5⟩, ⟨m6, m7, m8⟩⟩ | with_reducible exact ⟨⟨k0, k1, k2⟩, ⟨k3, k4, k5⟩, ⟨k6, k7, k8⟩⟩ | go_keep)
                    (first
                      | (go_at_call 83; refine (HCr.out _).mono ?_; rintro e w7 ⟨v7, rfl, ho7, b7⟩; obtain ⟨g7, c7, rfl, _, _, _⟩ := ho7.shape (by rw [HCl.out]; omega); rw [HCl.out]; have RIC := hid (show RI w7 (some ⟨g7, 0, none⟩) 3 cs from by (obtain ⟨A', c', e, hr⟩ := ho7.ri (by rw [HCl.out]; omega); injection e with e1 e2 e3; rw [← e1, HCl.out] at hr; exact hr)); have B7 := hid (below_trans HB4.out.drew b7); have k0 := cell_below b7 a0; have k1 := cell_below b7 a1; have k2 := cell_below b7 a2; have k3 := cell_below b7 b0; have k4 := cell_below b7 b1; have k5 := cell_below b7 b2; have k6 := cell_below b7 c0; have k7 := cell_below b7 c1; have k8 := cell_below b7 c2; clear ho7 b7)
                      | (go_at_call 82; refine (HDo.out _ _ _ RIC.out).mono ?_; rintro e w8 ⟨rfl, b8⟩; have B8 := hid (below_trans B7.out b8); have m0 := cell_below b8 k0; have m1 := cell_below b8 k1; have m2 := cell_below b8 k2; have m3 := cell_below b8 k3; have m4 := cell_below b8 k4; have m5 := cell_below b8 k5; have m6 := cell_below b8 k6; have m7 := cell_below b8 k7; have m8 := cell_below b8 k8; clear b8))
                  go_wp2
                  go_roundg (j - (k + 1))
                  case measure => have := HG3.out; omega
                  case rel => exact ⟨k + 1, by omega, rfl, by go_num, fun m' hm' => by
                    by_cases hmk : m' = k
                    · subst hmk; rw [HTri.out]
                    · exact HAll3.out m' (by omega), B8.out⟩
                · have HNo := hid (show apartB p ps = false from rall_no hin (by
                    rw [HAp.out, HPo.out, Bool.true_and]
                    exact rall_no hjt (rall_no hkt (by rw [HTri.out]; rfl))))
                  go_wp2
                  go_region_held_law (fun w' => (w'.cell? ⟨b, off + i * 3, none⟩ = some (.int .i64 x) ∧ w'.cell? ⟨b, off + i * 3 + 1, none⟩ = some (.int .i64 y) ∧ w'.cell? ⟨b, off + i * 3 + 2, none⟩ = some (.int .i64 z)) ∧ (w'.cell? ⟨b, off + j * 3, none⟩ = some (.int .i64 l) ∧ w'.cell? ⟨b, off + j * 3 + 1, none⟩ = some (.int .i64 m) ∧ w'.cell? ⟨b, off + j * 3 + 2, none⟩ = some (.int .i64 o)) ∧ (w'.cell? ⟨b, off + k * 3, none⟩ = some (.int .i64 r) ∧ w'.cell? ⟨b, off + k * 3 + 1, none⟩ = some (.int .i64 s) ∧ w'.cell? ⟨b, off + k * 3 + 2, none⟩ = some (.int .i64 t))) (first | with_reducible exact ⟨⟨m0, m1, m2⟩, ⟨m3, m4, m5⟩, ⟨m6, m7, m8⟩⟩ | with_reducible exact ⟨⟨k0, k1, k2⟩, ⟨k3, k4, k5⟩, ⟨k6, k7, k8⟩⟩ | go_keep)
                    (first
                      | (go_at_call 83; refine (HCr.out _).mono ?_; rintro e w7 ⟨v7, rfl, ho7, b7⟩; obtain ⟨g7, c7, rfl, _, _, _⟩ := ho7.shape (by rw [HCl.out]; omega); rw [HCl.out]; have RIC := hid (show RI w7 (some ⟨g7, 0, none⟩) 3 cs from by (obtain ⟨A', c', e, hr⟩ := ho7.ri (by rw [HCl.out]; omega); injection e with e1 e2 e3; rw [← e1, HCl.out] at hr; exact hr)); have B7 := hid (below_trans HB4.out.drew b7); have k0 := cell_below b7 a0; have k1 := cell_below b7 a1; have k2 := cell_below b7 a2; have k3 := cell_below b7 b0; have k4 := cell_below b7 b1; have k5 := cell_below b7 b2; have k6 := cell_below b7 c0; have k7 := cell_below b7 c1; have k8 := cell_below b7 c2; clear ho7 b7)
                      | (go_at_call 82; refine (HDo.out _ _ _ RIC.out).mono ?_; rintro e w8 ⟨rfl, b8⟩; have B8 := hid (below_trans B7.out b8); have m0 := cell_below b8 k0; have m1 := cell_below b8 k1; have m2 := cell_below b8 k2; have m3 := cell_below b8 k3; have m4 := cell_below b8 k4; have m5 := cell_below b8 k5; have m6 := cell_below b8 k6; have m7 := cell_below b8 k7; have m8 := cell_below b8 k8; clear b8))
                  go_wp2
                  go_ret
                  exact ⟨by rw [HNo.out]; rfl, B8.out⟩
              · obtain rfl : k = j := by omega
                have HPair := hid (show pairB p ps i k = true from rall_yes (fun m' hm' => by rw [HAll3.out m' hm']; rfl))
                go_wp2
                go_roundg (i - (k + 1))
                case measure => have := HG2.out; omega
                case rel => exact ⟨k + 1, by omega, rfl, by go_num, fun m' hm' => by
                  by_cases hmk : m' = k
                  · subst hmk; exact HPair.out
                  · exact HAll2.out m' (by omega), HB4.out⟩
          · obtain rfl : j = i := by omega
            have HA1 := hid (show apB p ps j = true from by
              rw [HAp.out, HPo.out, Bool.true_and]
              exact rall_yes HAll2.out)
            go_wp2
            go_roundg (n - (j + 1))
            case measure => have := HG.out; omega
            case rel => exact ⟨j + 1, by omega, rfl, by go_num, fun m' hm' => by
              by_cases hmk : m' = j
              · subst hmk; exact HA1.out
              · exact HAll.out m' (by omega), HB2.out⟩
    · obtain rfl : i = n := by omega
      have HY := hid (show apartB p ps = true from rall_yes (fun m hm => HAll.out m (by omega)))
      go_wp2
      go_ret
      exact ⟨by rw [HY.out]; rfl, HB.out⟩

end Go.Proofs.Ytkhkcgoblibnpaa
