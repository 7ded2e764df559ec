/-
  Contract: the draw of five points.
-/
import Derived.Test.YtkhkcgoblibnpaaSx
import Derived.Test.YtkhkcgoblibnpaaPA
namespace Go.Proofs.Ytkhkcgoblibnpaa
open Go.RowKit
set_option linter.unusedVariables false
set_option linter.unusedSimpArgs false

/-- Cells at an address hold points. -/
def PSrc (w : World) (ad : Addr) (qs : List P3) : Prop := ∀ j u, (pcells qs)[j]? = some u → w.cell? (ad.add j) = some u
theorem PSrc.below {w w' : World} {ad : Addr} {qs : List P3} (h : PSrc w ad qs) (hb : Below w.heap.size w w') : PSrc w' ad qs := fun j u hj => cell_below hb (h j u hj)
theorem pcells_take_at {ps : List P3} (k : Nat) {j : Nat} {u : Value} (h : (pcells (ps.take k))[j]? = some u) : (pcells ps)[j]? = some u := by
  conv => lhs; rw [← List.take_append_drop k ps]
  rw [pcells_append, List.getElem?_append_left (List.getElem?_eq_some_iff.1 h).1]
  exact h
theorem pcells_drop_at {ps : List P3} (k : Nat) (hk : k ≤ ps.length) {j : Nat} {u : Value} (h : (pcells (ps.drop k))[j]? = some u) : (pcells ps)[k * 3 + j]? = some u := by
  conv => lhs; rw [← List.take_append_drop k ps]
  have hl : (pcells (ps.take k)).length = k * 3 := by rw [pcells_length, List.length_take, Nat.min_eq_left hk]
  rw [pcells_append, List.getElem?_append_right (by omega), hl, Nat.add_sub_cancel_left]
  exact h
theorem OP.takeSrc {w : World} {base g n cap : Nat} {ps : List P3} (h : OP w base (.slice (some ⟨g, 0, none⟩) n cap) ps) (hn : n = ps.length) (k : Nat) : PSrc w ⟨g, 0, none⟩ (ps.take k) := fun j u hj => by
  subst hn
  rw [Addr.add_lit, Nat.zero_add, World.ownsRow.cellAt h _ (by have := (List.getElem?_eq_some_iff.1 (pcells_take_at k hj)).1; rwa [pcells_length] at this)]
  exact pcells_take_at k hj
theorem OP.dropSrc {w : World} {base g n cap : Nat} {ps : List P3} (h : OP w base (.slice (some ⟨g, 0, none⟩) n cap) ps) (hn : n = ps.length) (k : Nat) (hk : k ≤ n) (hc : n ≤ cap) :
    ∃ ad : Addr, (if cap = k then some ⟨g, 0, none⟩ else some ⟨g, k * 3, none⟩ : Option Addr) = some ad ∧ ad.block = g ∧ PSrc w ad (ps.drop k) := by
  subst hn
  by_cases e : cap = k
  · refine ⟨⟨g, 0, none⟩, if_pos e, rfl, fun j u hj => ?_⟩
    rw [show ps.drop k = [] from List.drop_eq_nil_of_le (by omega)] at hj
    simp [pcells] at hj
  · refine ⟨_, if_neg e, rfl, fun j u hj => ?_⟩
    rw [Addr.add_lit, World.ownsRow.cellAt h _ (by have := (List.getElem?_eq_some_iff.1 (pcells_drop_at k hk hj)).1; rwa [pcells_length] at this)]
    exact pcells_drop_at k hk hj
/-- 'append(out, qs...)' at a step of a region that draws its order, of any number of points. -/
theorem step_append_any {ops : Array Oper} {o : Oper} {a : Act} {K : Act → World → Prop} {Q : Exit → Act → World → Prop} {E : Prop} {w : World} (s x : Operand) (hgd : o.guard = none)
    (ho : o.op = .call { callee := .builtin .append, args := #[s, x], argTypes := #[23, 23] }) (base : Nat) (v : Value) (ps qs : List P3) (ad : Addr) (m c : Nat)
    (hs : a.eval s = v) (hx : a.eval x = .slice (some ad) m c) (hown : OP w base v ps) (hv : v ≠ .slice none 0 0) (hm : qs.length = m) (hc : PSrc w ad qs) (hn : ps.length + m < 1000000) (hb : base ≤ w.heap.size)
    (h : ∀ v' w', OP w' base v' (ps ++ qs) → w.grownBy w' v.ownBlock → v' ≠ .slice none 0 0 → K (a.put o.dst v') w') :
    if Region.wanted o (yielded ops a.tmps) = true then Oper.wp Try.prog o a w K Q else E := by
  have hw : Region.wanted o (yielded ops a.tmps) = true := by simp [Region.wanted, hgd]
  rw [if_pos hw]
  obtain ⟨i0, hi, hz0, hz1, hz2⟩ := info_parts infoPoint
  refine wp_append_own w s x 23 ho base 35 i0 (.agg #[.int .i64 0, .int .i64 0, .int .i64 0]) 3 24 Try.underlying23 hi hz0 hz1 hz2 rfl (by decide) v _ _ hs hown ad m c (pcells qs) hx (by rw [pcells_length, hm]) hc (pcells_one qs) (by unfold maxLen; omega) (by omega) hb ?_
  intro v' w' h1 h2 h3
  refine h v' w' ?_ h2 (fun e => hv (h3.1 e).1)
  unfold OP
  rw [pcells_append, List.length_append, hm]
  exact h1

set_option maxRecDepth 100000 in
set_option maxHeartbeats 4000000 in
theorem DrawPointConic_ok (A : Option Addr) (n c : Nat) (xs : List Int) (w : World) (hr : RB w A n c xs) :
    Calls Try.prog 35 #[.slice A n c] w fun e w' => ∃ (p : Int) (A' : Option Addr) (c' : Nat) (ps : List P3), e = .returned (.tuple #[.int .i64 p, .slice A' 5 c']) ∧ (5 ≤ p ∧ p ≤ 31) ∧ RP w' A' 5 ps ∧ 5 ≤ c' ∧ Below w.heap.size w w' := by
  go_enter Try.func35, Try.ntmps35
  go_wp2_with fail
  refine (l6Open_ok A n c xs w hr).mono ?_
  rintro e w1 ⟨R, rfl, hR, hd, hb⟩
  have HR := hid hR
  have HB := hid hb
  have hRs := hd.lt
  clear hR hb
  go_wp2_with fail
  refine (l92Six_ok R 0 w1 hd (by omega) (by omega)).mono ?_
  rintro e w2 ⟨p, v, ps, rfl, hp, ho, hl, ⟨ct, hc0, hc1, hd2⟩, hg⟩
  obtain ⟨g, cap, rfl, hbg, hglt, _⟩ := ho.shape (by omega)
  obtain ⟨A', c', e1, _, hcap⟩ := ho.rpc (by omega)
  injection e1 with e2 e3 e4
  subst e4
  clear e2 e3
  rw [hl] at ho hcap ⊢
  have HP := hid hp
  have O2 := hid ho
  have D2 := hid hd2
  have G2 := hid hg
  have HC := hid (And.intro hc0 hc1)
  clear hd hp ho hd2 hg hc0 hc1
  have hRg : R < g := by omega
  go_wp2_with fail
  refine (pick_ok R ct 6 w2 D2.out HC.out.1 (by have := HC.out.2; omega) (by omega)).mono ?_
  rintro e w3 ⟨y, rfl, y0, y1, hd3, hg3⟩
  obtain ⟨k, rfl⟩ : ∃ k : Nat, y = k := ⟨y.toNat, by omega⟩
  have hk : k ≤ 5 := by omega
  have O3 := hid (O2.out.kept hg3 (.inr (by simp [Value.ownBlock]; omega)))
  have D3 := hid hd3
  have G3 := hid (gb_trans G2.out hg3)
  clear hd3 hg3 y0 y1 hglt hbg
  go_wp2
  obtain ⟨m, hm⟩ : ∃ m : Nat, m = k + 1 := ⟨_, rfl⟩
  have hwr : IntKind.i64.wrap ((k : Int) + 1) = (m : Int) := by rw [IntWalk.i64_in _ (by omega)]; omega
  obtain ⟨ad, had, hab, hsrc⟩ := O3.out.dropSrc hl.symm m (by omega) hcap
  have HAd := hid had
  have HSrc := hid hsrc
  have HTake := hid (O3.out.takeSrc hl.symm k)
  have hlt := hid (show (ps.take k).length = k by rw [List.length_take]; omega)
  have hld := hid (show (ps.drop m).length = 6 - m by rw [List.length_drop]; omega)
  clear had hsrc
  have hkc : k ≤ cap := by omega
  have hkc1 : m ≤ cap := by omega
  have hk1 : m ≤ 6 := by omega
  have hk2 : (m : Int) ≤ 6 := by omega
  have HM := hid hm
  clear hm
  have hRw : R < w3.heap.size := D3.out.lt
  have BE := hid (below_drewN (below_alloc w3 (.cells #[] 35)) 1)
  have OE := hid (show OP (w3.alloc (.cells #[] 35)).drew w3.heap.size (.slice (some ⟨w3.heap.size, 0, none⟩) 0 0) [] from World.ownsRow_lit w3 #[] 0 (Nat.le_refl _) (by decide) rfl)
  go_cut [8] (fun s8 wx => ∃ (gb capb : Nat) (five : List P3), s8 = .slice (some ⟨gb, 0, none⟩) 5 capb ∧ 5 ≤ capb ∧ OP wx w3.heap.size (.slice (some ⟨gb, 0, none⟩) 5 capb) five ∧ five.length = 5 ∧ w3.heap.size ≤ gb ∧ Below w3.heap.size w3 wx)
  case first =>
    go_region_law (first
      | (refine step_append_any _ _ rfl rfl w3.heap.size (.slice (some ⟨w3.heap.size, 0, none⟩) 0 0) [] (ps.take k) ⟨g, 0, none⟩ k cap rfl rfl OE.out (by simp) hlt.out (HTake.out.below BE.out) (by simp; omega) BE.out.size ?_; intro v1 w7 ho hg hne; have N1 := hid hne; have O1 := hid ho; have B1 := hid (BE.out.grown hg BE.out.size (fun q hq => own_base OE.out q hq)); clear ho hg hne)
      | (refine step_append_any _ _ rfl rfl w3.heap.size _ _ (ps.drop m) ad (6 - m) (cap - m) rfl (by simp only [Act.eval, Act.put, HAd.out]; rfl) O1.out N1.out hld.out (HSrc.out.below B1.out) (by have := hlt.out; have := HM.out; simp; omega) B1.out.size ?_; intro v2 w8 ho hg hne; have N2 := hid hne; have O2 := hid ho; have B2 := hid (B1.out.grown hg B1.out.size (fun q hq => own_base O1.out q hq)); clear ho hg hne))
    all_goals
      (try simp only [HAd.out])
      have h5 : (([] ++ ps.take k) ++ ps.drop m).length = 5 := by
        have := hlt.out; have := hld.out; have := HM.out
        simp only [List.nil_append, List.length_append]; omega
      obtain ⟨gb, capb, hv2, hgb, _, _⟩ := O2.out.shape (by omega)
      obtain ⟨_, _, hv3, _, h5c⟩ := O2.out.rpc (by omega)
      have O5 := O2.out
      rw [h5] at hv2 hv3 h5c
      subst hv2
      injection hv3 with ha5 _ hv5
      subst ha5 hv5
      have H5 := hid (And.intro h5 (And.intro O5 h5c))
      clear h5 O5 h5c
      go_wp2
      go_meet
      exact ⟨gb, _, _, rfl, H5.out.2.2, H5.out.2.1, H5.out.1, hgb, B2.out⟩
  case rest =>
  obtain ⟨gb, capb, five, rfl, hcb, of, hf5, hgb, hbf⟩ := hcut
  have O4 := hid of
  have B4 := hid hbf
  have D4 := hid (D3.out.below hbf)
  have G4 := hid (gb_trans G3.out (gb_below (row := some R) hbf))
  clear of hbf
  have HX := hid (fun W (h : Rd W R (ct + 1)) => pick_ok R (ct + 1) 12 W h (by have := HC.out; omega) (by have := HC.out; omega) (by omega))
  go_wp2_with fail
  refine (HX.out _ D4.out).mono ?_
  rintro e w5 ⟨y, rfl, y0, y1, hd5, hg5⟩
  have O5 := hid (O4.out.kept hg5 (.inr (by simp [Value.ownBlock]; omega)))
  have G5 := hid (gb_trans G4.out hg5)
  clear hd5 hg5 y0 y1
  by_cases hy : y = 0
  · subst hy
    have R5 := O5.out.rp' hf5 (by omega)
    obtain ⟨a0, a1, a2⟩ := R5.at3 (show 1 < 5 by omega)
    obtain ⟨b0, b1, b2⟩ := R5.at3 (show 0 < 5 by omega)
    have b0 : w5.cell? ⟨gb, 0, none⟩ = some (.int .i64 (five.getD 0 default).1) := by simpa using b0
    have b1 : w5.cell? ⟨gb, 1, none⟩ = some (.int .i64 (five.getD 0 default).2.1) := by simpa using b1
    have b2 : w5.cell? ⟨gb, 2, none⟩ = some (.int .i64 (five.getD 0 default).2.2) := by simpa using b2
    generalize five.getD 0 default = q' at *
    have hw : w5.ownsRow w3.heap.size 35 3 (.slice (some ⟨gb, 0, none⟩) 5 capb) 5 (pcells five) := by
      have := O5.out
      unfold OP at this
      rwa [hf5] at this
    have HSet := hid (pcells_set five 0 (five.getD 1 default) (by omega))
    generalize five.getD 1 default = q at *
    obtain ⟨x, y, z⟩ := q
    have a0 : w5.cell? ⟨gb, 3, none⟩ = some (.int .i64 x) := by simpa using a0
    have a1 : w5.cell? ⟨gb, 4, none⟩ = some (.int .i64 y) := by simpa using a1
    have a2 : w5.cell? ⟨gb, 5, none⟩ = some (.int .i64 z) := by simpa using a2
    have s1 := World.ownsRow.stored hw 0 (.int .i64 x)
    have s2 := World.ownsRow.stored s1.1 1 (.int .i64 y)
    have s3 := World.ownsRow.stored s2.1 2 (.int .i64 z)
    have f0 := World.ownsRow.frozenAt hw 0
    have f1 := World.ownsRow.frozenAt hw 1
    have f2 := World.ownsRow.frozenAt hw 2
    have H3 := hid s3.1
    have BB := hid (show Below w.heap.size w w5 from gb_open HB.out HR.out G5.out)
    have hwb : w.heap.size ≤ gb := by have := HB.out.size; have := HR.out; omega
    clear s1 s2 s3 hw
    go_wp2
    go_ret2
    refine ⟨p, some ⟨gb, 0, none⟩, capb, five.set 0 (x, y, z), rfl, HP.out, ?_, hcb, below_put BB.out hwb _ _ _⟩
    have h := H3.out
    have hs : (((pcells five).set 0 (.int .i64 x)).set 1 (.int .i64 y)).set 2 (.int .i64 z) = pcells (five.set 0 (x, y, z)) := HSet.out
    rw [hs] at h
    refine OP.rp' (base := w3.heap.size) (c := capb) ?_ (by rw [List.length_set, hf5]) (by omega)
    unfold OP
    rw [List.length_set, hf5]
    exact h
  · have hyb : (y == 0) = false := by simpa using hy
    have BB := hid (show Below w.heap.size w w5 from gb_open HB.out HR.out G5.out)
    go_wp2
    go_ret2
    exact ⟨p, some ⟨gb, 0, none⟩, capb, five, rfl, HP.out, O5.out.rp' hf5 (by omega), hcb, BB.out⟩

end Go.Proofs.Ytkhkcgoblibnpaa
