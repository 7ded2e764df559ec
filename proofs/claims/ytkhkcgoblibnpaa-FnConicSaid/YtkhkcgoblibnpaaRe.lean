/-
  The contract of impl.reduced: reduced rows.
-/
import Derived.Test.YtkhkcgoblibnpaaRf
import Derived.Deep.LoopGhost
namespace Go.Proofs.Ytkhkcgoblibnpaa
open Go.RowKit
set_option linter.unusedVariables false
set_option linter.unusedSimpArgs false

/-- A list of rows that is only read. -/
def RRI (w : World) (A : Option Addr) (n : Nat) (rows : List (List Int)) : Prop :=
  rows.length = n ∧ n ≤ 1000 ∧ ∃ b off, (n = 0 ∨ A = some ⟨b, off, none⟩) ∧ ∀ j, j < n → ∃ (Ar : Option Addr) (cr : Nat), w.cell? ⟨b, off + j, none⟩ = some (.slice Ar (rows.getD j []).length cr) ∧ RI w Ar (rows.getD j []).length (rows.getD j [])
theorem RRI.below {w w' : World} {A : Option Addr} {n : Nat} {rows : List (List Int)} (h : RRI w A n rows) (hb : Below w.heap.size w w') : RRI w' A n rows := by
  obtain ⟨h1, h2, b, off, h3, h4⟩ := h
  refine ⟨h1, h2, b, off, h3, fun j hj => ?_⟩
  obtain ⟨Ar, cr, h5, h6⟩ := h4 j hj
  exact ⟨Ar, cr, cell_below hb h5, h6.below hb⟩
/-- A box of one number. -/
def NB (w : World) (k : Nat) (c : Int) : Prop := w.heap[k]? = some (.cells #[.int .i64 c] 3 (0, 0))
theorem NB.cell {w : World} {k : Nat} {c : Int} (h : NB w k c) : w.cell? ⟨k, 0, none⟩ = some (.int .i64 c) := by rw [cell_of_row w k 0 _ _ _ h]; rfl
theorem NB.frozen {w : World} {k : Nat} {c : Int} (h : NB w k c) : w.frozen? ⟨k, 0, none⟩ = false := frozen_of_row w k 0 _ _ h
theorem NB.lt {w : World} {k : Nat} {c : Int} (h : NB w k c) : k < w.heap.size := (Array.getElem?_eq_some_iff.1 h).1
theorem NB.new (w : World) (c : Int) : NB (w.alloc (.cells #[.int .i64 c] 3)) w.heap.size c := heap_alloc_new w _
theorem NB.newAt (w : World) (k : Nat) (hk : k = w.heap.size) (c : Int) : NB (w.alloc (.cells #[.int .i64 c] 3)) k c := by subst hk; exact heap_alloc_new w _
theorem NB.below {w w' : World} {k : Nat} {c : Int} (h : NB w k c) (hb : Below w.heap.size w w') : NB w' k c := by unfold NB; rw [hb.block k h.lt]; exact h
theorem NB.gb {w w' : World} {k : Nat} {c : Int} {row : Option Nat} (h : NB w k c) (hg : w.grownBy w' row) (hne : some k ≠ row) : NB w' k c := by unfold NB; rw [hg.block k h.lt hne]; exact h
theorem NB.set {w : World} {k : Nat} {c : Int} (h : NB w k c) (v : Int) : NB (w.setCell ⟨k, 0, none⟩ (.int .i64 v)) k v ∧ w.grownBy (w.setCell ⟨k, 0, none⟩ (.int .i64 v)) (some k) :=
  ⟨by unfold NB; rw [heap_setCell_same w k 0 _ _ _ h]; rfl, ⟨rfl, rfl, rfl, by simp, fun i hi hr => heap_setCell_other w ⟨k, 0, none⟩ i _ (fun e => hr (by simp [e]))⟩⟩
/-- An outer list and a box of a number are two blocks. -/
theorem RwO.nb {w : World} {base k : Nat} {v : Value} {rs : List Rw} {c : Int} (h : RwO w base v rs) (hb : NB w k c) : v.ownBlock = none ∨ v.ownBlock ≠ some k := by
  rcases h.2 with ⟨rfl, _⟩ | ⟨g, cap, cur, rfl, _, hg, _⟩
  · exact .inl rfl
  · refine .inr fun he => ?_
    simp [Value.ownBlock] at he
    subst he
    unfold NB at hb
    rw [hg] at hb
    simp at hb
theorem RwO.same {w : World} {base : Nat} {v : Value} {rs rs' : List Rw} (h : RwO w base v rs) (he : rs'.map rwV = rs.map rwV) : RwO w base v rs' := by
  unfold RwO
  have hl : rs'.length = rs.length := by have := congrArg List.length he; simpa using this
  rw [he, hl]
  exact h
/-- A new row beside others. -/
theorem RwIn.add {w : World} {base b2 : Nat} {rs : List Rw} {r : Rw} (h : RwIn w base rs) (ho : OI w b2 (rwV r) r.xs) (hb : base ≤ b2) (hlt : ∀ q ∈ rs, q.g < b2) : RwIn w base (rs ++ [r]) := by
  have hr := World.ownsRow.lt ho r.g rfl
  refine ⟨fun q hq => ?_, ?_⟩
  · rcases List.mem_append.1 hq with hq | hq
    · exact h.own q hq
    · simp at hq; subst hq; exact OI.mono ho hb
  · rw [List.map_append, List.nodup_append]
    refine ⟨h.nd, by simp, fun a ha b hb' => ?_⟩
    obtain ⟨q, hq, rfl⟩ := List.mem_map.1 ha
    simp at hb'
    subst hb'
    have := hlt q hq
    omega
theorem oi_rw {w : World} {base : Nat} {v : Value} {xs : List Int} (h : OI w base v xs) (h0 : 0 < xs.length) : ∃ r : Rw, v = rwV r ∧ r.xs = xs ∧ OI w base (rwV r) r.xs := by
  obtain ⟨g, cap, rfl, _⟩ := h.shape h0
  exact ⟨⟨g, cap, xs⟩, rfl, rfl, h⟩

theorem OR_mono {w : World} {base base' : Nat} {v : Value} {rs : List Rw} (h : RwO w base v rs) (hb : base' ≤ base) : RwO w base' v rs :=
  ⟨h.1, h.2.imp id fun ⟨g, cap, cur, h1, h2, h3⟩ => ⟨g, cap, cur, h1, Nat.le_trans hb h2, h3⟩⟩
theorem RwO.drewN {w : World} {base : Nat} {v : Value} {rs : List Rw} (h : RwO w base v rs) (m : Nat) : RwO (w.drewN m) base v rs := h
theorem RwIn.drewN {w : World} {base : Nat} {rs : List Rw} (h : RwIn w base rs) (m : Nat) : RwIn (w.drewN m) base rs := ⟨h.own, h.nd⟩
theorem RwO.drew {w : World} {base : Nat} {v : Value} {rs : List Rw} (h : RwO w base v rs) : RwO w.drew base v rs := h
theorem RwIn.drew {w : World} {base : Nat} {rs : List Rw} (h : RwIn w base rs) : RwIn w.drew base rs := ⟨h.own, h.nd⟩
theorem NB.drew {w : World} {k : Nat} {c : Int} (h : NB w k c) : NB w.drew k c := h
theorem NB.drewN {w : World} {k : Nat} {c : Int} (h : NB w k c) (m : Nat) : NB (w.drewN m) k c := h

theorem erase_perm {α : Type} (l : List α) (k : Nat) (h : k < l.length) : (l[k] :: l.eraseIdx k).Perm l := by
  rw [List.eraseIdx_eq_take_drop_succ]
  have e : l = l.take k ++ l[k] :: l.drop (k + 1) := by rw [← List.drop_eq_getElem_cons h, List.take_append_drop]
  exact List.perm_middle.symm.trans (List.Perm.of_eq e.symm)

/-- 'append(rows, others...)'. -/
theorem append_rows {ops : Array Oper} {rest : List Oper} {o : Oper} {a : Act} {Q : Exit → Act → World → Prop} {w : World} (s x : Operand) (hgd : o.guard = none)
    (ho : o.op = .call { callee := .builtin .append, args := #[s, x], argTypes := #[26, 26] }) (base : Nat) (v : Value) (rs qs : List Rw) (ad : Addr) (m c : Nat)
    (hs : a.eval s = v) (hx : a.eval x = .slice (some ad) m c) (hown : RwO w base v rs) (hm : m = qs.length) (hc : ∀ j u, (qs.map rwV)[j]? = some u → w.cell? (ad.add j) = some u) (hn : rs.length + qs.length < 1000000) (hb : base ≤ w.heap.size)
    (h : ∀ v' w', RwO w' base v' (rs ++ qs) → w.grownBy w' v.ownBlock → wpList Try.prog ops Q rest (a.put o.dst v') w') : wpList Try.prog ops Q (o :: rest) a w := by
  obtain ⟨i0, hi, hz0, hz1, hz2⟩ := info_parts infoRow
  refine wpList_append_own w hgd s x 26 ho base 32 i0 (.slice none 0 0) 1 24 Try.underlying26 hi hz0 hz1 hz2 rfl (by decide) v _ _ hs hown ad m c (qs.map rwV) hx (by simp [hm]) hc ?_ (by unfold maxLen; omega) (by omega) hb ?_
  · intro u hu
    obtain ⟨q, _, rfl⟩ := List.mem_map.1 hu
    rfl
  · intro v' w' h1 h2 _
    refine h v' w' ?_ h2
    unfold RwO
    rw [List.length_append, List.map_append, ← hm]
    exact h1
theorem RwO.src {w : World} {base g m c : Nat} {qs : List Rw} (h : RwO w base (.slice (some ⟨g, 0, none⟩) m c) qs) (hm : m = qs.length) : ∀ j u, (qs.map rwV)[j]? = some u → w.cell? ((⟨g, 0, none⟩ : Addr).add j) = some u := by
  intro j u hu
  have hj := (List.getElem?_eq_some_iff.1 hu).1
  simp at hj
  rw [Addr.add_lit, Nat.zero_add]
  subst hm
  rw [World.ownsRow.cellAt h j (by omega)]
  exact hu

theorem mod_ok2 (n p : Int) (w : World) (hp : 1 ≤ p) (hp2 : p ≤ 31) (hn : -1000000000000 ≤ n) (hn2 : n ≤ 1000000000000) :
    Calls Try.prog 72 #[.int .i64 n, .int .i64 p] w fun e w' => e = .returned (.int .i64 (n % p)) ∧ w' = w :=
  (mod_ok n p w hp hp2 hn hn2).mono fun _ _ ⟨h1, h2⟩ => ⟨h1, h2.symm⟩

set_option maxRecDepth 100000 in
set_option maxHeartbeats 8000000 in
theorem reduced_ok (p : Int) (A : Option Addr) (n cap wd : Nat) (rows : List (List Int)) (w : World) (hp : 2 ≤ p) (hp2 : p ≤ 31) (hwd : 1 ≤ wd) (hwd2 : wd ≤ 100) (hr : RRI w A n rows) (hw : ∀ r ∈ rows, r.length = wd) (hx : ∀ r ∈ rows, ∀ x ∈ r, -1000000000000 ≤ x ∧ x ≤ 1000000000000) :
    Calls Try.prog 88 #[.int .i64 p, .slice A n cap] w fun e w' => ∃ (v : Value) (rs : List Rw), e = .returned v ∧ RwO w' w.heap.size v rs ∧ RwIn w' w.heap.size rs ∧ rs.map (·.xs) = redP p wd rows ∧ Below w.heap.size w w' := by
  obtain ⟨hl, hn, b, off, hA, hc⟩ := hr
  have HC := hid hc
  have HX := hid hx
  have HWd := hid hw
  have HL := hid hl
  clear hc hx hw hl
  go_enter Try.func88, Try.ntmps88
  go_wp2
  go_loopg [5, 24] n (fun gk v t wr => ∃ (k : Nat) (L : List Rw), k ≤ n ∧ gk = n - k ∧ t = .int .i64 k ∧ RwO wr w.heap.size v L ∧ RwIn wr w.heap.size L ∧ L.map (·.xs) = (rows.take k).map (modL p) ∧ Below w.heap.size w wr)
  case atStart => exact ⟨0, [], by omega, by omega, rfl, World.ownsRow_lit w #[] 0 (Nat.le_refl _) (by decide) rfl, ⟨fun _ h => (by cases h), by simp⟩, rfl, below_alloc _ _⟩
  case round =>
    obtain ⟨k, L, hk, hgk, rfl, hO, hI, hM, hB⟩ := hrel
    obtain ⟨wo, rfl⟩ : ∃ wo : World, wo = wr := ⟨_, rfl⟩
    have HO := hid hO
    have HI := hid hI
    have HM := hid hM
    have HB := hid hB
    have HGk := hid hgk
    clear hO hI hM hB hgk
    by_cases hlt : k < n
    · obtain rfl : A = some ⟨b, off, none⟩ := by rcases hA with h | h; omega; exact h
      obtain ⟨Ar, cr, hrow, hri⟩ := HC.out k hlt
      have hk2 : k < rows.length := by have := HL.out; omega
      have hmem : rows.getD k [] ∈ rows := by rw [List.getD_eq_getElem?_getD, List.getElem?_eq_getElem hk2]; exact List.getElem_mem _
      have hlen := HWd.out _ hmem
      have HXr := hid (HX.out _ hmem)
      have HT := hid (show rows.take (k + 1) = rows.take k ++ [rows.getD k []] by rw [List.take_succ_eq_append_getElem hk2, List.getD_eq_getElem?_getD, List.getElem?_eq_getElem hk2]; rfl)
      have hLl : L.length = k := by have := congrArg List.length HM.out; simp at this; omega
      have HLl := hid hLl
      generalize rows.getD k [] = row at *
      rw [hlen] at hrow hri
      obtain ⟨_, _, bi, oi, hAr, hci⟩ := hri
      obtain rfl : Ar = some ⟨bi, oi, none⟩ := by rcases hAr with h | h; omega; exact h
      have HCi := hid hci
      have HLen := hid hlen
      have hrw := cell_below HB.out hrow
      clear hci hAr hmem hk2 hLl hlen hrow
      go_wp2
      go_loopg [8, 31] wd (fun gi v t wi => ∃ i : Nat, i ≤ wd ∧ gi = wd - i ∧ t = .int .i64 i ∧ OI wi wo.heap.size v (modTo p row i) ∧ Below wo.heap.size wo wi)
      case atStart => exact ⟨0, by omega, by omega, rfl, World.ownsRow_lit wo #[] 0 (Nat.le_refl _) (by decide) rfl, below_alloc _ _⟩
      case round =>
        obtain ⟨i, hi, hgi, rfl, ho2, hb2⟩ := hrel
        have HO2 := hid ho2
        have HB2 := hid hb2
        have HGi := hid hgi
        clear ho2 hb2 hgi
        by_cases hit : i < wd
        · have hcx := cell_below HB2.out (cell_below HB.out (HCi.out i hit))
          have HTi := hid (modTo_succ p row i (by have := HLen.out; omega))
          have hxb := HXr.out (row.getD i 0) (by rw [getD_lt (by have := HLen.out; omega)]; exact List.getElem_mem _)
          have HLn := hid (show (modTo p row i).length < 17592186044416 by rw [modTo_length p row i (by have := HLen.out; omega)]; omega)
          generalize row.getD i 0 = x at *
          have HMod := hid (fun W => mod_ok x p W (by omega) hp2 hxb.1 hxb.2)
          clear hxb
          go_wp2_with (first | (go_at_call 72; refine (HMod.out _).mono ?_; rintro e w' ⟨rfl, rfl⟩) | (at_builtin; refine append_int _ _ rfl rfl wo.heap.size _ _ (x % p) ⟨wr.heap.size, 0, none⟩ rfl rfl (HO2.out.alloc _) (World.cell?_alloc_at _ _ _ _ rfl) HLn.out (size_alloc HB2.out.size _) ?_; intro v' w1 hown hgrow; have HO3 := hid hown; have HG3 := hid hgrow; clear hown hgrow))
          go_roundg (wd - (i + 1))
          case measure => have := HGi.out; omega
          case rel => exact ⟨i + 1, by omega, rfl, by go_num, by rw [HTi.out]; exact HO3.out, below_append HB2.out HB2.out.size HO2.out HG3.out⟩
        · obtain rfl : wd = i := by omega
          have HA := hid (show modTo p row wd = modL p row by rw [← HLen.out]; exact modTo_all p row)
          obtain ⟨r, hv, hrx, hrow⟩ := oi_rw HO2.out (by rw [modTo_length p row wd (by have := HLen.out; omega)]; omega)
          subst hv
          have HRx := hid (hrx.trans HA.out)
          have HRow := hid hrow
          have HOw := hid (HO.out.below HB2.out)
          have HIw := hid ((HI.out.below HB2.out).add hrow HB.out.size (fun q hq => (HI.out.ge hq).2))
          have HLl2 := hid (show L.length < 1000000 by have := HLl.out; omega)
          have HBw := hid (below_trans HB.out HB2.out)
          clear hrow hrx
          have hV : ∃ V, rwV r = V := ⟨_, rfl⟩
          obtain ⟨V, hV⟩ := hV
          have HV := hid hV
          rw [hV]
          obtain ⟨Av, nv, cv, rfl⟩ : ∃ A n c, V = .slice A n c := ⟨_, _, _, hV.symm⟩
          clear hV
          go_wp2_with (at_builtin; refine append_row _ _ rfl rfl w.heap.size _ L r ⟨wr.heap.size, 0, none⟩ rfl rfl (HOw.out.alloc _) (by rw [HV.out]; exact World.cell?_alloc_at _ _ _ _ rfl) HLl2.out (size_alloc HBw.out.size _) ?_; intro v' w1 hown hgrow; have HO3 := hid hown; have HG3 := hid hgrow; clear hown hgrow)
          go_roundg (n - (k + 1))
          case measure => have := HGk.out; omega
          case rel => exact ⟨k + 1, L ++ [r], by omega, rfl, by go_num, HO3.out, (HIw.out.alloc _).outer (HOw.out.alloc _) HG3.out, by rw [HT.out, List.map_append, List.map_append, HM.out]; show _ ++ [r.xs] = _ ++ [modL p row]; rw [HRx.out], below_append HBw.out HBw.out.size HOw.out HG3.out⟩
    · obtain rfl : n = k := by omega
      have hNL : L.length = n := by have := congrArg List.length HM.out; simp at this; have := HL.out; omega
      have HNL := hid hNL
      have HMm := hid (show L.map (·.xs) = rows.map (modL p) by rw [HM.out, List.take_of_length_le (by have := HL.out; omega)])
      have HPr := hid (show ∀ r ∈ L, r.xs.length = wd ∧ ∀ x ∈ r.xs, 0 ≤ x ∧ x < p from fun r hr => by
        have h1 : r.xs ∈ rows.map (modL p) := by rw [← HMm.out]; exact List.mem_map.2 ⟨r, hr, rfl⟩
        obtain ⟨row, hrow, he⟩ := List.mem_map.1 h1
        rw [← he]
        exact ⟨by rw [modL_length, HWd.out row hrow], modL_rng (by omega) row⟩)
      have hbl : ∀ k, u5.ownBlock = some k → k < wo.heap.size := fun k hk => (World.ownsRow.lt HO.out k hk).2
      have HBl := hid hbl
      have HLow := hid (show ∀ r ∈ L, r.g < wo.heap.size from fun r hr => (HI.out.ge hr).2)
      clear hNL hbl HM HC HX HWd HL
      go_wp2
      have HRo := hid (show RwO ((wo.alloc (.cells #[] 32)).alloc (.cells #[.int .i64 0] 3)) wo.heap.size (.slice (some ⟨wo.heap.size, 0, none⟩) 0 0) [] from World.ownsRow.alloc (World.ownsRow_lit wo #[] 0 (Nat.le_refl _) (by decide) rfl) _)
      have HNb := hid (NB.newAt (wo.alloc (.cells #[] 32)) (wo.heap.size + 1) (by simp) 0)
      have HBm := hid (below_trans (below_alloc wo (.cells #[] 32)) (below_alloc _ (.cells #[.int .i64 0] 3)))
      go_loopg [5, 11, 12] wd (fun gk vl vo pc wr => ∃ (c : Nat) (M O : List Rw) (gb : Nat), c ≤ wd ∧ gk = wd - c ∧ pc = .pointer (some ⟨gb, 0, none⟩) ∧ NB wr gb c ∧ wo.heap.size ≤ gb ∧ RwO wr w.heap.size vl M ∧ (∀ k, vl.ownBlock = some k → k < wo.heap.size) ∧ RwO wr wo.heap.size vo O ∧ (∃ go co, vo = .slice (some ⟨go, 0, none⟩) O.length co) ∧ RwIn wr w.heap.size (M ++ O) ∧ (∀ r ∈ M ++ O, r.g < wo.heap.size ∧ r.xs.length = wd ∧ ∀ x ∈ r.xs, 0 ≤ x ∧ x < p) ∧ M.length + O.length ≤ 1000 ∧ redF p (wd - c) c (M.map (·.xs)) (O.map (·.xs)) = redP p wd rows ∧ Below w.heap.size w wr)
      case atStart => exact ⟨0, L, [], wo.heap.size + 1, by omega, by omega, rfl, HNb.out, by omega, HO.out.below HBm.out, HBl.out, HRo.out, ⟨_, _, rfl⟩, by rw [List.append_nil]; exact HI.out.below HBm.out, by rw [List.append_nil]; exact fun r hr => ⟨HLow.out r hr, HPr.out r hr⟩, by simp; have := HNL.out; omega, by rw [HMm.out]; rfl, below_trans HB.out HBm.out⟩
      case round =>
        obtain ⟨c, M, O, gb, hcw, hgk, rfl, hNb, hgb, hRl, hll, hRo, ⟨go, co, hvo⟩, hRi, hPr, hsz, hred, hBw⟩ := hrel
        subst hvo
        obtain ⟨wm, rfl⟩ : ∃ wm : World, wm = wr := ⟨_, rfl⟩
        have INb := hid hNb
        have IRl := hid hRl
        have Ill := hid hll
        have IRo := hid hRo
        have IRi := hid hRi
        have IPr := hid hPr
        have IRed := hid hred
        have IBw := hid hBw
        have IGk := hid hgk
        have hbc := hNb.cell
        clear hNb hRl hll hRo hRi hPr hred hBw hgk HRo HNb HBm
        by_cases hM0 : M.length = 0
        · obtain ⟨Al, capl, hvl, _⟩ := IRl.out.form
          rw [hM0] at hvl
          subst hvl
          have HF := hid (show redP p wd rows = O.map (·.xs) by rw [← IRed.out]; exact redF_nil (by simpa using hM0))
          clear hM0
          go_wp2
          go_quiet (fail)
          go_wp2
          go_ret
          exact ⟨_, O, rfl, OR_mono (IRo.out.drewN _) (HB.out.size), (IRi.out.sub (List.sublist_append_right _ _)).drewN _, HF.out.symm, below_drewN IBw.out _⟩
        · obtain ⟨gl, capl, hvl, _, hgl, hcapl, hmax, hfl, hcl⟩ := IRl.out.shape (by omega)
          subst hvl
          have c0 := hcl 0 (by omega)
          obtain ⟨hg0, hl0, _⟩ := IPr.out M[0] (by simp)
          rw [show rwV M[0] = .slice (some ⟨M[0].g, 0, none⟩) wd M[0].cap by unfold rwV; rw [hl0]] at c0
          generalize M[0].g = g0 at *
          generalize M[0].cap = cap0 at *
          have hM1 : decide (0 < M.length) = true := by simpa using (show 0 < M.length by omega)
          have HCl := hid hcl
          clear hcl hl0 hg0
          by_cases hct : c < wd
          · have hMs : M.length < 1000000 := by omega
            have HW := hid (show ∀ r ∈ M, c < r.xs.length ∧ r.xs.length ≤ 1000000 from fun r hr => by
              have := (IPr.out r (by simp [hr])).2.1
              omega)
            have hMp : 0 < M.length := by omega
            go_wp2
            go_quiet (fail)
            have JNb := hid (INb.out.drewN nq)
            have JRl := hid (IRl.out.drewN nq)
            have JRo := hid (IRo.out.drewN nq)
            have JRi := hid (IRi.out.drewN nq)
            have JBw := hid (below_drewN IBw.out nq)
            clear INb IRl IRo IRi IBw HCl c0 hbc hfl hgl
            generalize wm.drewN nq = wq at *
            go_wp2_with fail
            refine (IndexFuncR_ok _ _ (colP c) w.heap.size gl M.length capl M wq JRl.out rfl hMp hMs (reduced1_ok c gb w.heap.size M wq (JRi.out.sub (List.sublist_append_left _ _)) JNb.out.cell HW.out)).mono ?_
            rintro e w1 ⟨rfl, hw1⟩
            subst hw1
            rcases idxL_range (colP c) (M.map (·.xs)) 0 with hid1 | ⟨k, hk, hid1, hcol⟩
            · rw [hid1]
              have HN1 := hid (show redF p (wd - (c + 1)) (c + 1) (M.map (·.xs)) (O.map (·.xs)) = redP p wd rows from by
                have h := IRed.out
                rw [show wd - c = (wd - (c + 1)) + 1 by omega, redF_none (by simpa using hM0) hid1] at h
                exact h)
              have hbc := JNb.out.cell
              have KNb := hid (NB.new wq (c + 1))
              have KB := hid (below_alloc wq (.cells #[.int .i64 ((c : Int) + 1)] 3))
              have hq : wo.heap.size ≤ wq.heap.size := Nat.le_of_lt (Nat.lt_of_le_of_lt hgb JNb.out.lt)
              clear hid1
              go_wp2
              go_roundg (wd - (c + 1))
              case measure => have := IGk.out; omega
              case rel => exact ⟨c + 1, M, O, wq.heap.size, by omega, rfl, rfl, by exact KNb.out, hq, JRl.out.below KB.out, Ill.out, JRo.out.below KB.out, ⟨_, _, rfl⟩, JRi.out.below KB.out, IPr.out, hsz, HN1.out, below_trans JBw.out KB.out⟩
            · rw [Nat.zero_add] at hid1
              rw [hid1]
              have hkM : k < M.length := by simpa using hk
              obtain ⟨_, _, hvv, _, _, _, _, _, hcl⟩ := JRl.out.shape hMp
              simp only [Value.slice.injEq, Option.some.injEq, Addr.mk.injEq, and_true, true_and] at hvv
              obtain ⟨e1, e2⟩ := hvv
              subst e1 e2
              have hck := hcl k hkM
              obtain ⟨E, hE⟩ : ∃ E, E = M.eraseIdx k := ⟨_, rfl⟩
              obtain ⟨hd, hhd⟩ : ∃ hd, hd = M[k] := ⟨_, rfl⟩
              have hperm : (hd :: E).Perm M := by rw [hE, hhd]; exact erase_perm M k hkM
              have HPm := hid (show (E ++ O ++ [hd]).Perm (M ++ O) from by
                have h1 : (E ++ O ++ [hd]).Perm ([hd] ++ (E ++ O)) := List.perm_append_comm
                exact h1.trans ((hperm.append_right O)))
              have HEl := hid (show E.length = M.length - 1 by rw [hE, List.length_eraseIdx, if_pos hkM])
              have HEx := hid (show E.map (·.xs) = (M.map (·.xs)).eraseIdx k by
                rw [hE]
                apply List.ext_getElem?
                intro i
                rw [List.getElem?_map, List.getElem?_eraseIdx, List.getElem?_eraseIdx, List.getElem?_map, List.getElem?_map]
                split <;> rfl)
              have HHx := hid (show (M.map (·.xs)).getD k [] = hd.xs by rw [List.getD_eq_getElem?_getD, List.getElem?_map, List.getElem?_eq_getElem hkM, hhd]; rfl)
              have HHm := hid (show hd ∈ M by rw [hhd]; exact List.getElem_mem _)
              obtain ⟨hlo, hln, hrng⟩ := IPr.out hd (by simp [HHm.out])
              have HRg := hid hrng
              have HLn := hid hln
              rw [← hhd] at hck
              have HDel := hid (DeleteR_ok w.heap.size gl capl k M.length M wq JRl.out rfl hkM)
              rw [← hE] at HDel
              have hgl2 : gl < wo.heap.size := Ill.out gl rfl
              have HIdx := hid hid1
              have JRiP := hid (JRi.out.perm HPm.out)
              have hkk : (0 : Int) ≤ (k : Int) := by omega
              have hvh : rwV hd = .slice (some ⟨hd.g, 0, none⟩) wd hd.cap := by unfold rwV; rw [hln]
              rw [hvh] at hck
              have HVh := hid hvh
              clear hid1 hcl hE hhd hperm hrng hln hk hcol hvh
              generalize hmm : M.length - 1 = m at *
              have Hmm := hid hmm
              clear hmm
              go_wp2_with fail
              refine (HDel.out).mono ?_
              rintro e w2 ⟨rfl, hRl2, hg2⟩
              have KRl := hid hRl2
              have KRi := hid (JRiP.out.outer JRl.out hg2)
              have KRo := hid (show RwO w2 wo.heap.size (.slice (some ⟨go, 0, none⟩) O.length co) O from World.ownsRow.kept JRo.out hg2 (.inr (by have := World.ownsRow.lt JRo.out go rfl; simp [Value.ownBlock]; omega)))
              have KNb := hid (JNb.out.gb hg2 (by simp; omega))
              have KBw := hid (Below.grown JBw.out hg2 JBw.out.size (fun q hq => by cases hq; exact (World.ownsRow.lt JRl.out gl rfl).1))
              have hbc := KNb.out.cell
              have hri := KRi.out.ri (r := hd) (by simp) (by rw [HLn.out]; omega)
              rw [HLn.out] at hri
              obtain ⟨_, _, hb1, ho1, hA1, hc1⟩ := hri
              have hA2 : (some ⟨hd.g, 0, none⟩ : Option Addr) = some ⟨hb1, ho1, none⟩ := by rcases hA1 with h | h; omega; exact h
              injection hA2 with hA2
              injection hA2 with e1 e2
              subst e1 e2
              have hcc := hc1 c hct
              rw [Nat.zero_add] at hcc
              have hx1 := HRg.out (hd.xs.getD c 0) (by rw [getD_lt (by have := HLn.out; omega)]; exact List.getElem_mem _)
              have HHd := hid (show scaleL p (invM p (hd.xs.getD c 0)) hd.xs = scaleL p (invM p (hd.xs.getD c 0)) hd.xs from rfl)
              clear hRl2 hg2 hA1 hc1 hck JRl JRo JRi JRiP JNb JBw HDel
              generalize hxc : hd.xs.getD c 0 = xc at *
              have HXc := hid hxc
              have HInv := hid (fun W => inverse_ok xc p W hp hp2 hx1.1 (by omega))
              have hib := @powM_bd p xc hp (p - 2).toNat
              have HIb := hid (show 0 ≤ invM p xc ∧ invM p xc < p from hib)
              clear hxc hib hx1
              go_wp2_with fail
              refine (HInv.out _).mono ?_
              rintro e w3 ⟨rfl, hw3⟩
              subst hw3
              generalize hbe : invM p xc = by1 at *
              have HBe := hid hbe
              clear hbe
              have hby := HIb.out
              have hby0 := hby.1
              have hby1 := hby.2
              clear hby HIb hbc hcc
              have HF4 := hid (show ∀ i, i < wd → 0 ≤ hd.xs.getD i 0 ∧ hd.xs.getD i 0 < p from fun i hi => HRg.out _ (by rw [getD_lt (by have := HLn.out; omega)]; exact List.getElem_mem _))
              go_wp2
              go_loopg [83] wd (fun g4 t wr => ∃ i : Nat, i ≤ wd ∧ g4 = wd - i ∧ t = .int .i64 i ∧ RwIn wr w.heap.size (E ++ O ++ [{ hd with xs := updTo (fun j => hd.xs.getD j 0 * by1 % p) hd.xs i }]) ∧ RwO wr w.heap.size (.slice (some ⟨gl, 0, none⟩) m capl) E ∧ RwO wr wo.heap.size (.slice (some ⟨go, 0, none⟩) O.length co) O ∧ NB wr gb c ∧ Below w.heap.size w wr)
              case atStart => exact ⟨0, by omega, by omega, rfl, by rw [updTo_zero]; exact KRi.out, KRl.out, KRo.out, KNb.out, KBw.out⟩
              case round =>
                obtain ⟨i, hi, hgi, rfl, hRi4, hRl4, hRo4, hNb4, hBw4⟩ := hrel
                have IGi := hid hgi
                have LRi := hid hRi4
                have LRl := hid hRl4
                have LRo := hid hRo4
                have LNb := hid hNb4
                have LBw := hid hBw4
                clear hgi hRi4 hRl4 hRo4 hNb4 hBw4
                by_cases hit : i < wd
                · have hri := LRi.out.ri (r := { hd with xs := updTo (fun j => hd.xs.getD j 0 * by1 % p) hd.xs i }) (by simp) (by simp only [updTo_length]; rw [HLn.out]; omega)
                  simp only [updTo_length] at hri
                  rw [HLn.out] at hri
                  obtain ⟨_, _, hb1, ho1, hA1, hc1⟩ := hri
                  have hA2 : (some ⟨hd.g, 0, none⟩ : Option Addr) = some ⟨hb1, ho1, none⟩ := by rcases hA1 with h | h; omega; exact h
                  injection hA2 with hA2
                  injection hA2 with e1 e2
                  subst e1 e2
                  have hcc := hc1 i hit
                  rw [Nat.zero_add, updTo_get _ _ _ _ (by have := HLn.out; omega), if_neg (by omega)] at hcc
                  have hfz := LRi.out.frozen (r := { hd with xs := updTo (fun j => hd.xs.getD j 0 * by1 % p) hd.xs i }) (by simp) i
                  have hfz2 : wr.frozen? ⟨hd.g, i, none⟩ = false := hfz
                  have hx2 := HF4.out i hit
                  have hst := LRi.out.store (pre := E ++ O) (r := { hd with xs := updTo (fun j => hd.xs.getD j 0 * by1 % p) hd.xs i }) (post := []) i (hd.xs.getD i 0 * by1 % p)
                  have HU := hid (updTo_set (fun j => hd.xs.getD j 0 * by1 % p) hd.xs i (by have := HLn.out; omega))
                  have hgo := LRi.out.own _ (show { hd with xs := updTo (fun j => hd.xs.getD j 0 * by1 % p) hd.xs i } ∈ E ++ O ++ [{ hd with xs := updTo (fun j => hd.xs.getD j 0 * by1 % p) hd.xs i }] by simp)
                  have HGo := hid hgo
                  have HSt := hid hst
                  have mb := mul_bd hx2.1 hby0 (show hd.xs.getD i 0 ≤ 31 by omega) (show by1 ≤ 31 by omega)
                  have mb0 := mb.1
                  have mb1 := mb.2
                  clear hst hgo hfz hc1 hA1 hx2 mb
                  generalize hxi : hd.xs.getD i 0 = xi at *
                  have HXi := hid hxi
                  clear hxi
                  go_wp2
                  go_roundg (wd - (i + 1))
                  case measure => have := IGi.out; omega
                  case rel =>
                    refine ⟨i + 1, by omega, rfl, by go_num, ?_, RwO.row LRl.out HGo.out HSt.out.2, RwO.row LRo.out HGo.out HSt.out.2, LNb.out.gb HSt.out.2 (by simp; omega), Below.grown LBw.out HSt.out.2 LBw.out.size (fun q hq => by cases hq; exact (World.ownsRow.lt HGo.out hd.g rfl).1)⟩
                    have h := HSt.out.1
                    rw [← HU.out]
                    exact h
                · obtain rfl : wd = i := by omega
                  have HHead := hid (show updTo (fun j => hd.xs.getD j 0 * by1 % p) hd.xs wd = scaleL p by1 hd.xs by rw [← HLn.out]; exact updTo_scale p by1 hd.xs)
                  rw [HHead.out] at LRi
                  obtain ⟨h1, hh1⟩ : ∃ h1 : Rw, h1 = { hd with xs := scaleL p by1 hd.xs } := ⟨_, rfl⟩
                  have HH1 := hid hh1
                  rw [← hh1] at LRi
                  have hg1 : h1.g = hd.g := by rw [hh1]
                  have HL1 := hid (show h1.xs.length = wd by rw [hh1]; exact (scaleL_length _ _ _).trans HLn.out)
                  have HR1 := hid (show ∀ x ∈ h1.xs, 0 ≤ x ∧ x < p by rw [hh1]; exact scaleL_rng (by omega) hd.xs)
                  have hvh : .slice (some ⟨hd.g, 0, none⟩) wd hd.cap = rwV h1 := by unfold rwV; rw [HL1.out, hh1]
                  have HVh1 := hid hvh
                  clear hh1 hvh
                  obtain ⟨R, hR⟩ : ∃ R, R = E ++ O := ⟨_, rfl⟩
                  rw [← hR] at LRi
                  have HR := hid hR
                  have HPrR := hid (show ∀ r ∈ R, r.g < wo.heap.size ∧ r.xs.length = wd ∧ ∀ x ∈ r.xs, 0 ≤ x ∧ x < p from fun r hr => IPr.out r ((HPm.out.mem_iff).1 (by rw [← hR]; simp [hr])))
                  have HRl := hid (show R.length = m + O.length by rw [hR, List.length_append, HEl.out])
                  have HmE := hid (show m = E.length from HEl.out.symm)
                  have hRs : m + O.length ≤ 1000 := by have := Hmm.out; have := HEl.out; omega
                  clear hR
                  have hB5 := hid (below_alloc wr (.cells #[] 32))
                  have MRi := hid (LRi.out.below hB5.out)
                  have MRl := hid (LRl.out.below hB5.out)
                  have MRo := hid (LRo.out.below hB5.out)
                  have MTmp := hid (show RwO (wr.alloc (.cells #[] 32)) wr.heap.size (.slice (some ⟨wr.heap.size, 0, none⟩) 0 0) [] from World.ownsRow_lit wr #[] 0 (Nat.le_refl _) (by decide) rfl)
                  have hs5 : wr.heap.size ≤ (wr.alloc (.cells #[] 32)).heap.size := hB5.out.size
                  have HS5 := hid hs5
                  have Hlt0 := hid (show ([] : List Rw).length + E.length < 1000000 by simp; have := HmE.out; omega)
                  clear hs5
                  have Hlt1 := hid (show E.length + O.length < 1000000 by have := HmE.out; omega)
                  go_wp2_with (at_builtin; first
                    | (refine append_rows _ _ rfl rfl wr.heap.size _ [] E ⟨gl, 0, none⟩ m capl rfl rfl MTmp.out HmE.out (MRl.out.src HmE.out) Hlt0.out HS5.out ?_; intro v5 w5 hown hgrow; have NTmp := hid (show RwO w5 wr.heap.size v5 E from hown); have NB5 := hid (Below.grown hB5.out hgrow HS5.out (own_base MTmp.out)); have NRo := hid (LRo.out.below NB5.out); have NS5 := hid NB5.out.size; clear hown hgrow)
                    | (refine append_rows _ _ rfl rfl wr.heap.size _ E O ⟨go, 0, none⟩ O.length co rfl rfl NTmp.out rfl (NRo.out.src rfl) Hlt1.out NS5.out ?_; intro v6 w6 hown hgrow; rw [← HR.out] at hown; have PB6 := hid (Below.grown NB5.out hgrow NS5.out (own_base NTmp.out)); obtain ⟨At, ct, rfl, hAt⟩ := RwO.form hown; have PTmp := hid hown; have PAt := hid hAt; clear hown hgrow hAt))
                  have PRi := hid (LRi.out.below PB6.out)
                  have PRl := hid (LRl.out.below PB6.out)
                  have PRo := hid (LRo.out.below PB6.out)
                  have PNb := hid (LNb.out.below PB6.out)
                  have PBw := hid (below_trans LBw.out PB6.out)
                  have hRlen : R.length ≤ 1000 := by have := HRl.out; omega
                  clear hB5 MRi MRl MRo MTmp HS5 NTmp NB5 NRo NS5 LRi LRl LRo LNb LBw KRi KRl KRo KNb KBw PB6
                  go_loopg [104] R.length (fun g5 t wr => ∃ i : Nat, i ≤ R.length ∧ g5 = R.length - i ∧ t = .int .i64 i ∧ RwIn wr w.heap.size ((R.take i).map (fun r => { r with xs := elimL p c h1.xs r.xs }) ++ R.drop i ++ [h1]) ∧ (∃ Bt, RwO wr Bt (.slice At R.length ct) R) ∧ RwO wr w.heap.size (.slice (some ⟨gl, 0, none⟩) m capl) E ∧ RwO wr wo.heap.size (.slice (some ⟨go, 0, none⟩) O.length co) O ∧ NB wr gb c ∧ Below w.heap.size w wr)
                  case atStart => exact ⟨0, by omega, by omega, rfl, PRi.out, ⟨_, PTmp.out⟩, PRl.out, PRo.out, PNb.out, PBw.out⟩
                  case round =>
                    obtain ⟨i, hi5, hgi5, rfl, hRi5, ⟨Bt, hT5⟩, hRl5, hRo5, hNb5, hBw5⟩ := hrel
                    obtain ⟨wp, rfl⟩ : ∃ wp : World, wp = wr := ⟨_, rfl⟩
                    have QGi := hid hgi5
                    have QRi := hid hRi5
                    have QT := hid hT5
                    have QRl := hid hRl5
                    have QRo := hid hRo5
                    have QNb := hid hNb5
                    have QBw := hid hBw5
                    clear hgi5 hRi5 hT5 hRl5 hRo5 hNb5 hBw5
                    by_cases hit5 : i < R.length
                    · obtain ⟨gt, ct', hv5, _, _, _, _, _, hcl5⟩ := QT.out.shape (by omega)
                      simp only [Value.slice.injEq, Option.some.injEq, true_and] at hv5
                      obtain ⟨e1, e2⟩ := hv5
                      subst e1 e2
                      have hck5 := hcl5 i hit5
                      obtain ⟨r, hr⟩ : ∃ r, r = R[i] := ⟨_, rfl⟩
                      have hrm : r ∈ R := by rw [hr]; exact List.getElem_mem _
                      have HDr := hid (show R.drop i = r :: R.drop (i + 1) by rw [hr]; exact List.drop_eq_getElem_cons hit5)
                      have HTk := hid (show R.take (i + 1) = R.take i ++ [r] by rw [hr]; exact List.take_succ_eq_append_getElem hit5)
                      rw [← hr] at hck5
                      obtain ⟨hrlo, hrln, hrrg⟩ := HPrR.out r hrm
                      have HRln := hid hrln
                      have HRrg := hid hrrg
                      obtain ⟨pre, hpre⟩ : ∃ pre, pre = (R.take i).map (fun r => ({ r with xs := elimL p c h1.xs r.xs } : Rw)) := ⟨_, rfl⟩
                      obtain ⟨post, hpost⟩ : ∃ post, post = R.drop (i + 1) ++ [h1] := ⟨_, rfl⟩
                      rw [HDr.out, ← hpre, List.append_assoc, List.cons_append, ← hpost] at QRi
                      have HPre := hid hpre
                      have HPost := hid hpost
                      have hrw : rwV r = .slice (some ⟨r.g, 0, none⟩) wd r.cap := by unfold rwV; rw [hrln]
                      rw [hrw] at hck5
                      have HRw := hid hrw
                      have hri := QRi.out.ri (r := r) (by simp) (by omega)
                      rw [hrln] at hri
                      obtain ⟨_, _, hb1, ho1, hA1, hc1⟩ := hri
                      have hA2 : (some ⟨r.g, 0, none⟩ : Option Addr) = some ⟨hb1, ho1, none⟩ := by rcases hA1 with h | h; omega; exact h
                      injection hA2 with hA2
                      injection hA2 with e1 e2
                      subst e1 e2
                      have hcc := hc1 c hct
                      rw [Nat.zero_add] at hcc
                      have hbc := QNb.out.cell
                      have htm := HRrg.out (r.xs.getD c 0) (by rw [getD_lt (by omega)]; exact List.getElem_mem _)
                      have htm0 := htm.1
                      have htm1 := htm.2
                      generalize htmx : r.xs.getD c 0 = tm at *
                      have HTm := hid htmx
                      have HFr := hid (show ∀ i, i < wd → 0 ≤ r.xs.getD i 0 ∧ r.xs.getD i 0 < p from fun i hi => HRrg.out _ (by rw [getD_lt (by have := HRln.out; omega)]; exact List.getElem_mem _))
                      have HFh := hid (show ∀ i, i < wd → 0 ≤ h1.xs.getD i 0 ∧ h1.xs.getD i 0 < p from fun i hi => HR1.out _ (by rw [getD_lt (by have := HL1.out; omega)]; exact List.getElem_mem _))
                      clear hcl5 hr hpre hpost hrln hrrg hrw hA1 hc1 htm htmx
                      go_wp2
                      go_loopg [114] wd (fun g6 t wr => ∃ j : Nat, j ≤ wd ∧ g6 = wd - j ∧ t = .int .i64 j ∧ RwIn wr w.heap.size (pre ++ { r with xs := updTo (fun j => (r.xs.getD j 0 - tm * h1.xs.getD j 0) % p) r.xs j } :: post) ∧ (∃ Bt, RwO wr Bt (.slice (some ⟨gt, 0, none⟩) R.length ct) R) ∧ RwO wr w.heap.size (.slice (some ⟨gl, 0, none⟩) m capl) E ∧ RwO wr wo.heap.size (.slice (some ⟨go, 0, none⟩) O.length co) O ∧ NB wr gb c ∧ Below w.heap.size w wr)
                      case atStart => exact ⟨0, by omega, by omega, rfl, by rw [updTo_zero]; exact QRi.out, ⟨_, QT.out⟩, QRl.out, QRo.out, QNb.out, QBw.out⟩
                      case round =>
                        obtain ⟨j, hj6, hgj6, rfl, hRi6, ⟨Bt6, hT6⟩, hRl6, hRo6, hNb6, hBw6⟩ := hrel
                        have SGi := hid hgj6
                        have SRi := hid hRi6
                        have ST := hid hT6
                        have SRl := hid hRl6
                        have SRo := hid hRo6
                        have SNb := hid hNb6
                        have SBw := hid hBw6
                        clear hgj6 hRi6 hT6 hRl6 hRo6 hNb6 hBw6 hck5 hcc hbc
                        by_cases hjt : j < wd
                        · have hri := SRi.out.ri (r := { r with xs := updTo (fun j => (r.xs.getD j 0 - tm * h1.xs.getD j 0) % p) r.xs j }) (by simp) (by simp only [updTo_length]; rw [HRln.out]; omega)
                          simp only [updTo_length] at hri
                          rw [HRln.out] at hri
                          obtain ⟨_, _, hb1, ho1, hA1, hc1⟩ := hri
                          have hA2 : (some ⟨r.g, 0, none⟩ : Option Addr) = some ⟨hb1, ho1, none⟩ := by rcases hA1 with h | h; omega; exact h
                          injection hA2 with hA2
                          injection hA2 with e1 e2
                          subst e1 e2
                          have hcc := hc1 j hjt
                          rw [Nat.zero_add, updTo_get _ _ _ _ (by have := HRln.out; omega), if_neg (by omega)] at hcc
                          have hri2 := SRi.out.ri (r := h1) (by rw [HPost.out]; simp) (by rw [HL1.out]; omega)
                          rw [HL1.out, hg1] at hri2
                          obtain ⟨_, _, hb2, ho2, hA3, hc3⟩ := hri2
                          have hA4 : (some ⟨hd.g, 0, none⟩ : Option Addr) = some ⟨hb2, ho2, none⟩ := by rcases hA3 with h | h; omega; exact h
                          injection hA4 with hA4
                          injection hA4 with e3 e4
                          subst e3 e4
                          have hch := hc3 j hjt
                          rw [Nat.zero_add] at hch
                          have hfz : wr.frozen? ⟨r.g, j, none⟩ = false := SRi.out.frozen (r := { r with xs := updTo (fun j => (r.xs.getD j 0 - tm * h1.xs.getD j 0) % p) r.xs j }) (by simp) j
                          have hx2 := HFr.out j hjt
                          have hh2 := HFh.out j hjt
                          have HU := hid (updTo_set (fun j => (r.xs.getD j 0 - tm * h1.xs.getD j 0) % p) r.xs j (by have := HRln.out; omega))
                          have HGo := hid (SRi.out.own { r with xs := updTo (fun j => (r.xs.getD j 0 - tm * h1.xs.getD j 0) % p) r.xs j } (by simp))
                          have HSt := hid (SRi.out.store (pre := pre) (r := { r with xs := updTo (fun j => (r.xs.getD j 0 - tm * h1.xs.getD j 0) % p) r.xs j }) (post := post) j ((r.xs.getD j 0 - tm * h1.xs.getD j 0) % p))
                          have mb := mul_bd htm0 hh2.1 (show tm ≤ 31 by omega) (show h1.xs.getD j 0 ≤ 31 by omega)
                          have wr1 : IntKind.i64.wrap (tm * h1.xs.getD j 0) = tm * h1.xs.getD j 0 := IntWalk.i64_in _ (by omega)
                          have wr2 : IntKind.i64.wrap (r.xs.getD j 0 - tm * h1.xs.getD j 0) = r.xs.getD j 0 - tm * h1.xs.getD j 0 := IntWalk.i64_in _ (by omega)
                          have HMd := hid (fun W => mod_ok2 (r.xs.getD j 0 - tm * h1.xs.getD j 0) p W (by omega) hp2 (by omega) (by omega))
                          clear hc1 hA1 hx2 mb hc3 hA3 hh2
                          generalize hxj : r.xs.getD j 0 = xj at *
                          generalize hhj : h1.xs.getD j 0 = hj at *
                          have HXj := hid hxj
                          have HHj := hid hhj
                          clear hxj hhj
                          go_wp2
                          refine wp_region_still_tail 16 (by kernel_rfl) (by kernel_rfl) ?_
                          simp only [List.take_succ_cons, List.take_zero, List.drop_succ_cons, List.drop_zero]
                          repeat (first | still_step | (refine wpStill_step (fun K hK => ?_); go_simp; refine ⟨_, (by with_reducible exact HMd.out _), hK _ ?_⟩; clear hK K))
                          refine wpStill_nil ?_
                          change wpList _ _ _ _ _ (World.drew _)
                          go_wp2
                          go_roundg (wd - (j + 1))
                          case measure => have := SGi.out; omega
                          case rel =>
                            refine ⟨j + 1, by omega, rfl, by go_num, ?_, ⟨_, (RwO.row ST.out HGo.out HSt.out.2).drew⟩, (RwO.row SRl.out HGo.out HSt.out.2).drew, (RwO.row SRo.out HGo.out HSt.out.2).drew, (SNb.out.gb HSt.out.2 (by simp; omega)).drew, (Below.grown SBw.out HSt.out.2 SBw.out.size (fun q hq => by cases hq; exact (World.ownsRow.lt HGo.out r.g rfl).1)).drew⟩
                            have h := HSt.out.1
                            rw [← HU.out]
                            exact h.drew
                        · obtain rfl : wd = j := by omega
                          have HEl2 := hid (show updTo (fun j => (r.xs.getD j 0 - tm * h1.xs.getD j 0) % p) r.xs wd = elimL p c h1.xs r.xs from by
                            have h := updTo_elim p c h1.xs r.xs (by rw [HL1.out, HRln.out])
                            rw [HRln.out, HTm.out] at h
                            exact h)
                          rw [HEl2.out] at SRi
                          go_wp2
                          go_roundg (R.length - (i + 1))
                          case measure => have := QGi.out; omega
                          case rel =>
                            refine ⟨i + 1, by omega, rfl, by go_num, ?_, ⟨_, ST.out⟩, SRl.out, SRo.out, SNb.out, SBw.out⟩
                            have h := SRi.out
                            rw [HTk.out, List.map_append, ← HPre.out, List.append_assoc, List.append_assoc, ← HPost.out]
                            exact h
                    · obtain rfl : i = R.length := by omega
                      rw [List.take_length, List.drop_length, List.append_nil] at QRi
                      obtain ⟨e, he⟩ : ∃ e : Rw → Rw, e = fun r => { r with xs := elimL p c h1.xs r.xs } := ⟨_, rfl⟩
                      rw [← he] at QRi
                      have hev : ∀ r ∈ R, rwV (e r) = rwV r := by
                        intro r hr
                        rw [he]
                        unfold rwV
                        simp only
                        rw [elimL_length p c h1.xs r.xs (by rw [HL1.out, (HPrR.out r hr).2.1])]
                      have HVE := hid (show (E.map e).map rwV = E.map rwV by
                        rw [List.map_map]
                        exact List.map_congr_left fun r hr => hev r (by rw [HR.out]; simp [hr]))
                      have HVO := hid (show (O.map e).map rwV = O.map rwV by
                        rw [List.map_map]
                        exact List.map_congr_left fun r hr => hev r (by rw [HR.out]; simp [hr]))
                      have HXE := hid (show (E.map e).map (·.xs) = (E.map (·.xs)).map (elimL p c h1.xs) by rw [List.map_map, List.map_map, he]; rfl)
                      have HXO := hid (show (O.map e).map (·.xs) = (O.map (·.xs)).map (elimL p c h1.xs) by rw [List.map_map, List.map_map, he]; rfl)
                      have HPe := hid (show ∀ r ∈ R, (e r).g < wo.heap.size ∧ (e r).xs.length = wd ∧ ∀ x ∈ (e r).xs, 0 ≤ x ∧ x < p from fun r hr => by
                        obtain ⟨q1, q2, q3⟩ := HPrR.out r hr
                        rw [he]
                        exact ⟨q1, (elimL_length p c h1.xs r.xs (by rw [HL1.out, q2])).trans q2, elimL_rng (by omega) _ _⟩)
                      have TRo := hid (RwO.same QRo.out HVO.out)
                      have TRl := hid (RwO.same QRl.out HVE.out)
                      have HOl := hid (show (O.map e).length < 1000000 by rw [List.length_map]; omega)
                      have hogo : wo.heap.size ≤ go := (World.ownsRow.lt QRo.out go rfl).1
                      have hbc := QNb.out.cell
                      have HSp := hid (show wo.heap.size ≤ wp.heap.size from Nat.le_trans hogo (Nat.le_of_lt (World.ownsRow.lt QRo.out go rfl).2))
                      have hgbgo : gb ≠ go := by
                        rcases QRo.out.nb QNb.out with h | h
                        · simp [Value.ownBlock] at h
                        · simp [Value.ownBlock] at h
                          exact fun e => h e.symm
                      have hwwo : w.heap.size ≤ wo.heap.size := HB.out.size
                      have hglgo : gl ≠ go := by omega
                      have hwgo : w.heap.size ≤ go := by omega
                      have HRedN := hid (show redF p (wd - (c + 1)) (c + 1) ((E.map e).map (·.xs)) ((O.map e ++ [h1]).map (·.xs)) = redP p wd rows from by
                        have h := IRed.out
                        rw [show wd - c = (wd - (c + 1)) + 1 by omega, redF_some (by simpa using hM0) HIdx.out HHx.out (head := h1.xs) (by rw [HXc.out, HBe.out, HH1.out])] at h
                        rw [HXE.out, List.map_append, HXO.out, HEx.out]
                        exact h)
                      clear he hev
                      go_wp2_with (at_builtin; refine append_row _ _ rfl rfl wo.heap.size _ (O.map e) h1 ⟨wp.heap.size, 0, none⟩ rfl rfl (TRo.out.alloc _) (by rw [← HVh1.out]; exact World.cell?_alloc_at _ _ _ _ rfl) HOl.out (size_alloc HSp.out _) ?_; intro v' w7 hown hgrow; have UNb := hid (NB.gb (QNb.out.below (below_alloc wp _)) hgrow (fun e => hgbgo (Option.some.inj e))); have UBw := hid (Below.grown (QBw.out.alloc QBw.out.size _) hgrow (size_alloc QBw.out.size _) (fun q hq => (Option.some.inj hq) ▸ hwgo)); have URl := hid (show RwO w7 w.heap.size (.slice (some ⟨gl, 0, none⟩) m capl) (E.map e) from World.ownsRow.kept (World.ownsRow.alloc TRl.out _) hgrow (.inr (fun e => hglgo (Option.some.inj e)))); have URi := hid (RwIn.outer (QRi.out.alloc _) (World.ownsRow.alloc TRo.out _) hgrow); obtain ⟨go', co', rfl, hgo', hgo2, _⟩ := RwO.shape hown (by simp); have URo := hid hown; have hub := UNb.out.cell; have UHg := hid hgo2; clear hown hgrow hgo2)
                      have VNb := hid (NB.new w7 (c + 1))
                      have VB := hid (below_alloc w7 (.cells #[.int .i64 ((c : Int) + 1)] 3))
                      have hq : wo.heap.size ≤ w7.heap.size := Nat.le_of_lt (Nat.lt_of_le_of_lt hgo' UHg.out)
                      have hl2 : (O.map e ++ [h1]).length = O.length + 1 := by simp
                      have hRoN := URo.out.below VB.out
                      rw [hl2] at hRoN
                      go_roundg (wd - (c + 1))
                      case measure => have := IGk.out; omega
                      case rel =>
                        refine ⟨c + 1, E.map e, O.map e ++ [h1], w7.heap.size, by omega, rfl, rfl, by exact VNb.out, hq, URl.out.below VB.out, Ill.out, hRoN, ⟨go', co', by rw [hl2]⟩, ?_, ?_, ?_, HRedN.out, below_trans UBw.out VB.out⟩
                        · have h := URi.out.below VB.out
                          rw [HR.out, List.map_append, List.append_assoc] at h
                          exact h
                        · intro r hr
                          rcases List.mem_append.1 hr with hr | hr
                          · obtain ⟨q, hq1, rfl⟩ := List.mem_map.1 hr
                            exact HPe.out q (by rw [HR.out]; simp [hq1])
                          · rcases List.mem_append.1 hr with hr | hr
                            · obtain ⟨q, hq1, rfl⟩ := List.mem_map.1 hr
                              exact HPe.out q (by rw [HR.out]; simp [hq1])
                            · simp at hr
                              subst hr
                              exact ⟨by rw [hg1]; exact hlo, HL1.out, HR1.out⟩
                        · simp
                          have h1 := HEl.out
                          have h2 := Hmm.out
                          omega
          · obtain rfl : wd = c := by omega
            have HF := hid (show redP p wd rows = O.map (·.xs) by rw [← IRed.out, Nat.sub_self]; rfl)
            go_wp2
            go_quiet (fail)
            go_wp2
            go_ret
            exact ⟨_, O, rfl, OR_mono (IRo.out.drewN _) (HB.out.size), (IRi.out.sub (List.sublist_append_right _ _)).drewN _, HF.out.symm, below_drewN IBw.out _⟩

end Go.Proofs.Ytkhkcgoblibnpaa
