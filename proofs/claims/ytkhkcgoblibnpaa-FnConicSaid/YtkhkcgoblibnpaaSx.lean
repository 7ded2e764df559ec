/-
  Contracts: six points that are drawn.
-/
import Derived.Test.YtkhkcgoblibnpaaGn
import Derived.Test.YtkhkcgoblibnpaaDp
import Derived.Test.YtkhkcgoblibnpaaDr
import Derived.Maps.AppendAt
namespace Go.Proofs.Ytkhkcgoblibnpaa
open Go.RowKit
set_option linter.unusedVariables false
set_option linter.unusedSimpArgs false

theorem step_append_pts {ops : Array Oper} {o : Oper} {a : Act} {K : Act → World → Prop} {Q : Exit → Act → World → Prop} {E : Prop} {w : World} (s x : Operand) (hgd : o.guard = none)
    (ho : o.op = .call { callee := .builtin .append, args := #[s, x], argTypes := #[23, 23] }) (base : Nat) (v : Value) (ps qs : List P3) (ad : Addr) (m c : Nat)
    (hs : a.eval s = v) (hx : a.eval x = .slice (some ad) m c) (hown : OP w base v ps) (hm : m = qs.length) (h0 : 0 < m) (hc : ∀ j u, (pcells qs)[j]? = some u → w.cell? (ad.add j) = some u) (hn : ps.length + m < 1000000) (hb : base ≤ w.heap.size)
    (h : ∀ g cap w', OP w' base (.slice (some ⟨g, 0, none⟩) (ps.length + m) cap) (ps ++ qs) → w.grownBy w' v.ownBlock → (v.ownBlock = some g ∨ g = w.heap.size) → K (a.put o.dst (.slice (some ⟨g, 0, none⟩) (ps.length + m) cap)) w') :
    if Region.wanted o (yielded ops a.tmps) = true then Oper.wp Try.prog o a w K Q else E := by
  obtain ⟨i0, hi, hz0, hz1, hz2⟩ := info_parts infoPoint
  refine step_append_lies w hgd s x 23 ho base 35 i0 (.agg #[.int .i64 0, .int .i64 0, .int .i64 0]) 3 24 Try.underlying23 hi hz0 hz1 hz2 rfl (by decide) v _ _ hs hown ad m c (pcells qs) hx (by rw [pcells_length, hm]) hc (pcells_one qs) h0 (by unfold maxLen; omega) (by omega) hb _ rfl ?_
  intro g cap w' h1 h2 h3 _
  refine h g cap w' ?_ h2 h3
  unfold OP
  rw [pcells_append, List.length_append, ← hm]
  exact h1
/-- 'append(out, q, r)'. -/
theorem append_pts {ops : Array Oper} {rest : List Oper} {o : Oper} {a : Act} {Q : Exit → Act → World → Prop} {w : World} (s x : Operand) (hgd : o.guard = none)
    (ho : o.op = .call { callee := .builtin .append, args := #[s, x], argTypes := #[23, 23] }) (base : Nat) (v : Value) (ps qs : List P3) (ad : Addr) (m c : Nat)
    (hs : a.eval s = v) (hx : a.eval x = .slice (some ad) m c) (hown : OP w base v ps) (hm : m = qs.length) (hc : ∀ j u, (pcells qs)[j]? = some u → w.cell? (ad.add j) = some u) (hn : ps.length + m < 1000000) (hb : base ≤ w.heap.size)
    (h : ∀ v' w', OP w' base v' (ps ++ qs) → w.grownBy w' v.ownBlock → wpList Try.prog ops Q rest (a.put o.dst v') w') : wpList Try.prog ops Q (o :: rest) a w := by
  obtain ⟨i0, hi, hz0, hz1, hz2⟩ := info_parts infoPoint
  refine wpList_append_own w hgd s x 23 ho base 35 i0 (.agg #[.int .i64 0, .int .i64 0, .int .i64 0]) 3 24 Try.underlying23 hi hz0 hz1 hz2 rfl (by decide) v _ _ hs hown ad m c (pcells qs) hx (by rw [pcells_length, hm]) hc (pcells_one qs) (by unfold maxLen; omega) (by omega) hb ?_
  intro v' w' h1 h2 _
  refine h v' w' ?_ h2
  unfold OP
  rw [pcells_append, List.length_append, ← hm]
  exact h1
theorem OP.rpc {w : World} {base : Nat} {v : Value} {ps : List P3} (h : OP w base v ps) (hn : ps.length ≤ 4398046511104) : ∃ A c, v = .slice A ps.length c ∧ RP w A ps.length ps ∧ ps.length ≤ c := by
  obtain ⟨A, c, e, hr⟩ := h.rp hn
  refine ⟨A, c, e, hr, ?_⟩
  rcases h.2 with ⟨hv, h1⟩ | ⟨g, cap, cur, hv, _, _, hc, _⟩
  · omega
  · rw [hv] at e; injection e with _ _ e3; omega
def four : List P3 := [(1, 0, 0), (0, 1, 0), (0, 0, 1), (1, 1, 1)]

/-- The cells of a block hold points. -/
def PAt (w : World) (g : Nat) (qs : List P3) : Prop := ∀ j u, (pcells qs)[j]? = some u → w.cell? ⟨g, j, none⟩ = some u
theorem PAt.src {w : World} {g : Nat} {qs : List P3} (h : PAt w g qs) : ∀ j u, (pcells qs)[j]? = some u → w.cell? ((⟨g, 0, none⟩ : Addr).add j) = some u := fun j u hj => by
  rw [Addr.add_lit, Nat.zero_add]; exact h j u hj
theorem PAt.below {w w' : World} {g : Nat} {qs : List P3} (h : PAt w g qs) (hb : Below w.heap.size w w') : PAt w' g qs := fun j u hj => cell_below hb (h j u hj)
theorem PAt.gbn {w w' : World} {g : Nat} {qs : List P3} {row : Option Nat} (h : PAt w g qs) (hg : w.grownBy w' row) (hne : some g ≠ row) : PAt w' g qs := fun j u hj => hg.cell (h j u hj) hne
theorem PAt.new2 (w : World) (a b c a' b' c' : Int) : PAt (w.alloc (.cells #[.int .i64 a, .int .i64 b, .int .i64 c, .int .i64 a', .int .i64 b', .int .i64 c'] 35)) w.heap.size [(a, b, c), (a', b', c')] := fun j u hj => by
  rw [World.cell?_alloc_at _ _ _ _ rfl]; simpa [pcells, pc] using hj

theorem Rd.gbn {w w' : World} {R q : Nat} {cnt : Int} (h : Rd w R cnt) (hR : R < q) (hg : w.grownBy w' (some q)) : Rd w' R cnt := by
  obtain ⟨hlt, b, off, n, c, A, xs, h1, h2, h3, h4, h5, h6, h7⟩ := h
  exact ⟨Nat.lt_of_lt_of_le hlt hg.size, b, off, n, c, A, xs, by rw [hg.block R hlt (fun e => by injection e with e; omega)]; exact h1, h2, h3, h4, h5, h6, fun j hj => hg.cell (h7 j hj) (fun e => absurd (show b = q by simpa using e) (by omega))⟩

set_option maxRecDepth 100000 in
set_option maxHeartbeats 4000000 in
theorem l92Six_ok (R : Nat) (cnt : Int) (w : World) (hr : Rd w R cnt) (h0 : 0 ≤ cnt) (h1 : cnt ≤ 1000) :
    Calls Try.prog 61 #[.pointer (some ⟨R, 0, none⟩)] w fun e w' => ∃ (p : Int) (v : Value) (ps : List P3), e = .returned (.tuple #[.int .i64 p, v]) ∧ (5 ≤ p ∧ p ≤ 31) ∧ OP w' w.heap.size v ps ∧ ps.length = 6 ∧ (∃ cnt' : Int, 0 ≤ cnt' ∧ cnt' ≤ 10000 ∧ Rd w' R cnt') ∧ w.grownBy w' (some R) := by
  have hlt := hr.lt
  go_enter Try.func61, Try.ntmps61
  go_wp2_with fail
  refine (l92Prime_ok R cnt w hr (by omega) (by omega)).mono ?_
  rintro e w1 ⟨p, rfl, p0, p1, hd, hg⟩
  have HP := hid (And.intro p0 p1)
  have hs1 := hg.size
  have O1 := hid (show OP (w1.alloc (.cells #[.int .i64 1, .int .i64 0, .int .i64 0, .int .i64 0, .int .i64 1, .int .i64 0, .int .i64 0, .int .i64 0, .int .i64 1, .int .i64 1, .int .i64 1, .int .i64 1] 35)) w1.heap.size (.slice (some ⟨w1.heap.size, 0, none⟩) 4 4) four from World.ownsRow_lit w1 _ 4 (Nat.le_refl _) (by decide) rfl)
  have D1 := hid (hd.below (below_alloc w1 (.cells #[.int .i64 1, .int .i64 0, .int .i64 0, .int .i64 0, .int .i64 1, .int .i64 0, .int .i64 0, .int .i64 0, .int .i64 1, .int .i64 1, .int .i64 1, .int .i64 1] 35)))
  have G1 := hid (gb_trans hg (gb_below (row := some R) (below_alloc w1 (.cells #[.int .i64 1, .int .i64 0, .int .i64 0, .int .i64 0, .int .i64 1, .int .i64 0, .int .i64 0, .int .i64 0, .int .i64 1, .int .i64 1, .int .i64 1, .int .i64 1] 35))))
  clear hd hg hr
  go_wp2
  obtain ⟨q1, hq1⟩ : ∃ q1, q1 = w1.heap.size := ⟨_, rfl⟩
  have HQ := hid (show w.heap.size ≤ q1 ∧ R < q1 by omega)
  rw [← hq1] at O1 ⊢
  clear hq1 hs1
  generalize w1.alloc (.cells #[.int .i64 1, .int .i64 0, .int .i64 0, .int .i64 0, .int .i64 1, .int .i64 0, .int .i64 0, .int .i64 0, .int .i64 1, .int .i64 1, .int .i64 1, .int .i64 1] 35) = W at *
  have HW0 := hid (show q1 < W.heap.size from (World.ownsRow.lt O1.out q1 rfl).2)
  go_loopg [6] 12 (fun g t wr => ∃ (k : Nat) (ct : Int), k ≤ 12 ∧ g = 12 - k ∧ t = .int .i64 k ∧ (0 ≤ ct ∧ ct ≤ 2000 + 4 * k) ∧ Rd wr R ct ∧ OP wr q1 (.slice (some ⟨q1, 0, none⟩) 4 4) four ∧ w.grownBy wr (some R) ∧ W.heap.size ≤ wr.heap.size)
  case atStart => exact ⟨0, cnt + 1, by omega, by omega, rfl, by omega, D1.out, O1.out, G1.out, Nat.le_refl _⟩
  case round =>
    obtain ⟨k, ct, hk, hgk, rfl, hct, hd, ho, hg, hsz⟩ := hrel
    have HGk := hid hgk
    have HCt := hid hct
    have D2 := hid hd
    have O2 := hid ho
    have G2 := hid hg
    have Z2 := hid hsz
    clear hgk hct hd ho hg hsz
    by_cases hlt : k < 12
    · have HX := hid (fun (c : Int) (W : World) (h : Rd W R c) (h0 : 0 ≤ c) (h1 : c ≤ 100000) => pick_ok R c (p - 2) W h h0 (by omega) (by omega))
      go_wp2_with fail
      refine (HX.out ct _ D2.out (by have := HCt.out; omega) (by have := HCt.out; omega)).mono ?_
      rintro e w3 ⟨y1, rfl, y10, y11, hd3, g3⟩
      have D3 := hid hd3
      have O3 := hid (O2.out.kept g3 (.inr (by have := HQ.out; simp [Value.ownBlock]; omega)))
      have G3 := hid (gb_trans G2.out g3)
      have Z3 := hid (Nat.le_trans Z2.out g3.size)
      clear hd3 g3
      go_wp2_with fail
      refine (HX.out (ct + 1) _ D3.out (by have := HCt.out; omega) (by have := HCt.out; omega)).mono ?_
      rintro e w4 ⟨z1, rfl, z10, z11, hd4, g4⟩
      have hWa : w4.heap.size = w4.heap.size := rfl
      have D4 := hid (hd4.below (below_alloc w4 (.cells #[.int .i64 1, .int .i64 (2 + y1), .int .i64 (2 + z1)] 35)))
      have O4 := hid ((O3.out.kept g4 (.inr (by have := HQ.out; simp [Value.ownBlock]; omega))).below (below_alloc w4 (.cells #[.int .i64 1, .int .i64 (2 + y1), .int .i64 (2 + z1)] 35)))
      have G4 := hid (gb_trans (gb_trans G3.out g4) (gb_below (row := some R) (below_alloc w4 (.cells #[.int .i64 1, .int .i64 (2 + y1), .int .i64 (2 + z1)] 35))))
      have Z4 := hid (Nat.le_trans Z3.out g4.size)
      have I4 := hid (IBox.new w4 1 (2 + y1) (2 + z1))
      clear hd4 g4 hWa
      obtain ⟨g7, hg7⟩ : ∃ g7, g7 = w4.heap.size := ⟨_, rfl⟩
      have HZ7 := hid (show W.heap.size ≤ g7 by have := Z4.out; omega)
      have I7 := hid (show g7 < (w4.alloc (.cells #[.int .i64 1, .int .i64 (2 + y1), .int .i64 (2 + z1)] 35)).heap.size by rw [hg7]; simp)
      go_wp2_with fail
      rw [← hg7] at I4 ⊢
      clear hg7 Z4
      generalize w4.alloc (.cells #[.int .i64 1, .int .i64 (2 + y1), .int .i64 (2 + z1)] 35) = W4 at *
      refine (HX.out (ct + 1 + 1) _ D4.out (by have := HCt.out; omega) (by have := HCt.out; omega)).mono ?_
      rintro e w5 ⟨y2, rfl, y20, y21, hd5, g5⟩
      have D5 := hid hd5
      have O5 := hid (O4.out.kept g5 (.inr (by have := HQ.out; simp [Value.ownBlock]; omega)))
      have G5 := hid (gb_trans G4.out g5)
      have I5 := hid (I4.out.gb g5 (by have := HQ.out; have := HZ7.out; have := HW0.out; omega))
      have Z5 := hid (Nat.lt_of_lt_of_le I7.out g5.size)
      clear hd5 g5
      go_wp2_with fail
      refine (HX.out (ct + 1 + 1 + 1) _ D5.out (by have := HCt.out; omega) (by have := HCt.out; omega)).mono ?_
      rintro e w6 ⟨z2, rfl, z20, z21, hd6, g6⟩
      have D6 := hid (hd6.below (below_alloc w6 (.cells #[.int .i64 1, .int .i64 (2 + y2), .int .i64 (2 + z2)] 35)))
      have O6 := hid ((O5.out.kept g6 (.inr (by have := HQ.out; simp [Value.ownBlock]; omega))).below (below_alloc w6 (.cells #[.int .i64 1, .int .i64 (2 + y2), .int .i64 (2 + z2)] 35)))
      have G6 := hid (gb_trans (gb_trans G5.out g6) (gb_below (row := some R) (below_alloc w6 (.cells #[.int .i64 1, .int .i64 (2 + y2), .int .i64 (2 + z2)] 35))))
      have I6 := hid ((I5.out.gb g6 (by have := HQ.out; have := HZ7.out; have := HW0.out; omega)).below (below_alloc w6 (.cells #[.int .i64 1, .int .i64 (2 + y2), .int .i64 (2 + z2)] 35)))
      have J6 := hid (IBox.new w6 1 (2 + y2) (2 + z2))
      have Z6 := hid (Nat.lt_of_lt_of_le Z5.out g6.size)
      obtain ⟨g8, hg8⟩ : ∃ g8, g8 = w6.heap.size := ⟨_, rfl⟩
      have J7 := hid (show g8 < (w6.alloc (.cells #[.int .i64 1, .int .i64 (2 + y2), .int .i64 (2 + z2)] 35)).heap.size by rw [hg8]; simp)
      clear hd6 g6
      go_wp2
      rw [← hg8] at J6 Z6 ⊢
      clear hg8
      generalize w6.alloc (.cells #[.int .i64 1, .int .i64 (2 + y2), .int .i64 (2 + z2)] 35) = W6 at *
      obtain ⟨c0, c1, c2⟩ := k3of I6.out
      obtain ⟨d0, d1, d2⟩ := k3of J6.out
      have HZ := hid (show W.heap.size ≤ W6.heap.size by have := HZ7.out; have := Z6.out; have := J7.out; omega)
      have hz7 : g7 < W6.heap.size := by have := Z6.out; have := J7.out; omega
      have hz8 : g8 < W6.heap.size := J7.out
      have P4 := hid (show PAt W6 q1 four from fun j u hj => (World.ownsRow.cellAt O6.out j (List.getElem?_eq_some_iff.1 hj).1).trans hj)
      have BE := hid (below_drewN (below_alloc W6 (.cells #[] 35)) 1)
      have BEC := hid (below_drewN (below_trans (below_alloc W6 (.cells #[] 35)) (below_alloc _ (.cells #[.int .i64 1, .int .i64 (2 + y1), .int .i64 (2 + z1), .int .i64 1, .int .i64 (2 + y2), .int .i64 (2 + z2)] 35))) 1)
      have BCE := hid (below_drewN (below_trans (below_alloc W6 (.cells #[.int .i64 1, .int .i64 (2 + y1), .int .i64 (2 + z1), .int .i64 1, .int .i64 (2 + y2), .int .i64 (2 + z2)] 35)) (below_alloc _ (.cells #[] 35))) 1)
      have OE := hid (show OP (W6.alloc (.cells #[] 35)).drew W6.heap.size (.slice (some ⟨W6.heap.size, 0, none⟩) 0 0) [] from World.ownsRow_lit W6 #[] 0 (Nat.le_refl _) (by decide) rfl)
      have OEC := hid (show OP ((W6.alloc (.cells #[] 35)).alloc (.cells #[.int .i64 1, .int .i64 (2 + y1), .int .i64 (2 + z1), .int .i64 1, .int .i64 (2 + y2), .int .i64 (2 + z2)] 35)).drew W6.heap.size (.slice (some ⟨W6.heap.size, 0, none⟩) 0 0) [] from (show OP (W6.alloc (.cells #[] 35)) W6.heap.size (.slice (some ⟨W6.heap.size, 0, none⟩) 0 0) [] from World.ownsRow_lit W6 #[] 0 (Nat.le_refl _) (by decide) rfl).alloc _)
      have OCE := hid (show OP ((W6.alloc (.cells #[.int .i64 1, .int .i64 (2 + y1), .int .i64 (2 + z1), .int .i64 1, .int .i64 (2 + y2), .int .i64 (2 + z2)] 35)).alloc (.cells #[] 35)).drew W6.heap.size (.slice (some ⟨W6.heap.size + 1, 0, none⟩) 0 0) [] by
        have h : OP ((W6.alloc (.cells #[.int .i64 1, .int .i64 (2 + y1), .int .i64 (2 + z1), .int .i64 1, .int .i64 (2 + y2), .int .i64 (2 + z2)] 35)).alloc (.cells #[] 35)) (W6.alloc (.cells #[.int .i64 1, .int .i64 (2 + y1), .int .i64 (2 + z1), .int .i64 1, .int .i64 (2 + y2), .int .i64 (2 + z2)] 35)).heap.size (.slice (some ⟨(W6.alloc (.cells #[.int .i64 1, .int .i64 (2 + y1), .int .i64 (2 + z1), .int .i64 1, .int .i64 (2 + y2), .int .i64 (2 + z2)] 35)).heap.size, 0, none⟩) 0 0) [] := World.ownsRow_lit (W6.alloc (.cells #[.int .i64 1, .int .i64 (2 + y1), .int .i64 (2 + z1), .int .i64 1, .int .i64 (2 + y2), .int .i64 (2 + z2)] 35)) #[] 0 (Nat.le_refl _) (by decide) rfl
        rw [show (W6.alloc (.cells #[.int .i64 1, .int .i64 (2 + y1), .int .i64 (2 + z1), .int .i64 1, .int .i64 (2 + y2), .int .i64 (2 + z2)] 35)).heap.size = W6.heap.size + 1 by simp] at h
        exact OP.mono h (by omega))
      have CEC := hid (show PAt ((W6.alloc (.cells #[] 35)).alloc (.cells #[.int .i64 1, .int .i64 (2 + y1), .int .i64 (2 + z1), .int .i64 1, .int .i64 (2 + y2), .int .i64 (2 + z2)] 35)).drew (W6.heap.size + 1) [(1, 2 + y1, 2 + z1), (1, 2 + y2, 2 + z2)] by
        have h := PAt.new2 (W6.alloc (.cells #[] 35)) 1 (2 + y1) (2 + z1) 1 (2 + y2) (2 + z2)
        rw [show (W6.alloc (.cells #[] 35)).heap.size = W6.heap.size + 1 by simp] at h
        exact h)
      have CCE := hid (show PAt ((W6.alloc (.cells #[.int .i64 1, .int .i64 (2 + y1), .int .i64 (2 + z1), .int .i64 1, .int .i64 (2 + y2), .int .i64 (2 + z2)] 35)).alloc (.cells #[] 35)).drew W6.heap.size [(1, 2 + y1, 2 + z1), (1, 2 + y2, 2 + z2)] from (PAt.new2 W6 1 (2 + y1) (2 + z1) 1 (2 + y2) (2 + z2)).below (below_drewN (below_alloc _ _) 1))
      go_cut [9] (fun v9 wx => ∃ (gb capb : Nat) (six : List P3), v9 = .slice (some ⟨gb, 0, none⟩) 6 capb ∧ OP wx W6.heap.size (.slice (some ⟨gb, 0, none⟩) 6 capb) six ∧ six.length = 6 ∧ Below W6.heap.size W6 wx)
      case first =>
        go_region_law (first
          | (refine step_append_pts _ _ rfl rfl W6.heap.size (.slice (some ⟨W6.heap.size, 0, none⟩) 0 0) [] four ⟨q1, 0, none⟩ 4 4 rfl rfl OE.out rfl (by decide) (P4.out.below BE.out).src (by decide) BE.out.size ?_; intro ga ca w7 ho hg _; have O1 := hid ho; have B1 := hid (BE.out.grown hg BE.out.size (fun q hq => own_base OE.out q hq)); have X1 := hid (I6.out.below B1.out); have Y1 := hid (J6.out.below B1.out); clear ho hg; obtain ⟨e0, e1, e2⟩ := k3of X1.out; obtain ⟨f0, f1, f2⟩ := k3of Y1.out)
          | (refine step_append_pts _ _ rfl rfl W6.heap.size (.slice (some ⟨W6.heap.size, 0, none⟩) 0 0) [] four ⟨q1, 0, none⟩ 4 4 rfl rfl OEC.out rfl (by decide) (P4.out.below BEC.out).src (by decide) BEC.out.size ?_; intro ga ca w7 ho hg _; have O1 := hid ho; have B1 := hid (BEC.out.grown hg BEC.out.size (fun q hq => own_base OEC.out q hq)); have C1 := hid (CEC.out.gbn hg (by simp [Value.ownBlock])); clear ho hg)
          | (refine step_append_pts _ _ rfl rfl W6.heap.size (.slice (some ⟨W6.heap.size + 1, 0, none⟩) 0 0) [] four ⟨q1, 0, none⟩ 4 4 rfl rfl OCE.out rfl (by decide) (P4.out.below BCE.out).src (by decide) BCE.out.size ?_; intro ga ca w7 ho hg _; have O1 := hid ho; have B1 := hid (BCE.out.grown hg BCE.out.size (fun q hq => own_base OCE.out q hq)); have C1 := hid (CCE.out.gbn hg (by simp [Value.ownBlock])); clear ho hg)
          | (refine step_append_pts _ _ rfl rfl W6.heap.size _ ([] ++ four) [(1, 2 + y1, 2 + z1), (1, 2 + y2, 2 + z2)] ⟨w7.heap.size, 0, none⟩ 2 2 rfl rfl (O1.out.alloc _) rfl (by decide) (PAt.new2 w7 1 (2 + y1) (2 + z1) 1 (2 + y2) (2 + z2)).src (by decide) (size_alloc B1.out.size _) ?_; intro gb cb w8 ho hg _; have O2 := hid ho; have B2 := hid ((B1.out.alloc B1.out.size _).grown hg (size_alloc B1.out.size _) (fun q hq => own_base O1.out q hq)); clear ho hg)
          | (refine step_append_pts _ _ rfl rfl W6.heap.size _ ([] ++ four) [(1, 2 + y1, 2 + z1), (1, 2 + y2, 2 + z2)] _ 2 2 rfl rfl O1.out rfl (by decide) C1.out.src (by decide) B1.out.size ?_; intro gb cb w8 ho hg _; have O2 := hid ho; have B2 := hid (B1.out.grown hg B1.out.size (fun q hq => own_base O1.out q hq)); clear ho hg))
        all_goals
          go_wp2
          go_meet
          exact ⟨gb, cb, _, rfl, O2.out, rfl, B2.out⟩
      case rest =>
      obtain ⟨gb, capb, six, rfl, ob, hs6, hb⟩ := hcut
      have OB6 := hid ob
      have BB := hid hb
      clear ob hb
      obtain ⟨A6', c6', e6, r6⟩ := OB6.out.rp (by omega)
      injection e6 with e61 e62 e63
      subst e61
      rw [hs6] at r6
      have HG := hid (specPointGeneral_ok p _ 6 capb six _ r6)
      clear r6 e62 e63
      have D8 := hid (D6.out.below BB.out)
      have O8 := hid (O6.out.below BB.out)
      have G8 := hid (gb_trans G6.out (gb_below (row := some R) BB.out))
      have Z8 := hid (Nat.le_trans HZ.out BB.out.size)
      have hw6 := G6.out.size
      clear c0 c1 c2 d0 d1 d2 OE OEC OCE CEC CCE BE BEC BCE P4
      generalize generalB p six = b at *
      go_wp2_with fail
      refine HG.out.mono ?_
      rintro e w9 ⟨rfl, b9⟩
      have D9 := hid (D8.out.below b9)
      have O9 := hid (O8.out.below b9)
      have G9 := hid (gb_trans G8.out (gb_below (row := some R) b9))
      have Z9 := hid (Nat.le_trans Z8.out b9.size)
      have S9 := hid ((OB6.out.below b9).mono hw6)
      clear b9 HG
      cases b
      · go_wp2
        go_roundg (12 - (k + 1))
        case measure => have := HGk.out; omega
        case rel => exact ⟨k + 1, ct + 1 + 1 + 1 + 1, by omega, rfl, by go_num, by have := HCt.out; omega, D9.out, O9.out, G9.out, Z9.out⟩
      · go_wp2
        go_ret2
        exact ⟨p, _, six, rfl, HP.out, S9.out, hs6, ⟨ct + 1 + 1 + 1 + 1, by have := HCt.out; omega, by have := HCt.out; omega, D9.out⟩, G9.out⟩
    · go_wp2_with fail
      refine (l92Point_ok R ct p _ D2.out (by have := HCt.out; omega) (by have := HCt.out; omega) HP.out.1 HP.out.2).mono ?_
      rintro e w3 ⟨⟨a0, a1, a2⟩, rfl, ⟨c3, hc30, hc31, hd3⟩, g3⟩
      have D3 := hid hd3
      have O3 := hid (O2.out.kept g3 (.inr (by have := HQ.out; simp [Value.ownBlock]; omega)))
      have G3 := hid (gb_trans G2.out g3)
      have Z3 := hid (Nat.le_trans Z2.out g3.size)
      rw [show ptVal (a0, a1, a2) = .agg #[.int .i64 a0, .int .i64 a1, .int .i64 a2] from rfl]
      clear hd3 g3
      go_wp2_with fail
      refine (l92Point_ok R c3 p _ D3.out (by have := HCt.out; omega) (by have := HCt.out; omega) HP.out.1 HP.out.2).mono ?_
      rintro e w4 ⟨⟨b0, b1, b2⟩, rfl, ⟨c4, hc40, hc41, hd4⟩, g4⟩
      have D4 := hid hd4
      have O4 := hid (O3.out.kept g4 (.inr (by have := HQ.out; simp [Value.ownBlock]; omega)))
      have G4 := hid (gb_trans G3.out g4)
      have Z4 := hid (show q1 ≤ w4.heap.size from Nat.le_trans (Nat.le_of_lt HW0.out) (Nat.le_trans Z3.out g4.size))
      rw [show ptVal (b0, b1, b2) = .agg #[.int .i64 b0, .int .i64 b1, .int .i64 b2] from rfl]
      clear hd4 g4
      have HV5 := hid (show (Value.slice (some ⟨q1, 0, none⟩) 4 4).ownBlock = some q1 from rfl)
      generalize hv5 : Value.slice (some ⟨q1, 0, none⟩) 4 4 = v5 at *
      clear hv5
      go_wp2_with (at_builtin; refine append_pts _ _ rfl rfl q1 _ four [(a0, a1, a2), (b0, b1, b2)] ⟨w4.heap.size, 0, none⟩ 2 2 rfl rfl (O4.out.alloc _) rfl (PAt.new2 w4 a0 a1 a2 b0 b1 b2).src (by decide) (size_alloc Z4.out _) ?_; intro v6 w6 hown hgrow; have O6 := hid hown; have G6 := hid (show World.grownBy _ w6 v5.ownBlock from hgrow); clear hown hgrow)
      have hg6 := G6.out
      rw [HV5.out] at hg6
      have D6 := hid ((D4.out.below (below_alloc w4 _)).gbn HQ.out.2 hg6)
      have GG := hid (gb_append G4.out (OP.mono O4.out HQ.out.1) G6.out)
      clear hg6
      go_ret2
      exact ⟨p, v6, _, rfl, HP.out, OP.mono O6.out HQ.out.1, rfl, ⟨c4, by have := HCt.out; omega, by have := HCt.out; omega, D6.out⟩, GG.out⟩

end Go.Proofs.Ytkhkcgoblibnpaa
