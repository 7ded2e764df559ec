/-
  The contract of the reference's l4Null.
-/
import Derived.Test.YtkhkcgoblibnpaaSq
import Derived.StillTailTactics
namespace Go.Proofs.Ytkhkcgoblibnpaa
open Go.RowKit
set_option linter.unusedVariables false
set_option linter.unusedSimpArgs false

theorem mod_same {p : Int} (hp : 1 ≤ p) {wd : Nat} {rows : List (List Int)} (h : ∀ r ∈ rows, Rg p wd r) : rows.map (modL p) = rows := by
  have e : ∀ r ∈ rows, modL p r = r := fun r hr => by
    have h1 := (h r hr).2
    unfold modL
    have : r.map (· % p) = r.map id := List.map_congr_left fun x hx => by
      have := h1 x hx
      exact Int.emod_eq_of_lt this.1 this.2
    rw [this, List.map_id]
  have : rows.map (modL p) = rows.map id := List.map_congr_left e
  rw [this, List.map_id]
theorem nlRows_rg {p : Int} (hp : 7 ≤ p) (wd : Nat) (base : List (List Int)) (hs : List Nat) (c : Nat) : ∀ r ∈ nlRows p wd base hs c, Rg p wd r := fun r hr => by
  obtain ⟨q, _, rfl⟩ := List.mem_map.1 hr
  exact ⟨nlTo_len _ _ _ _ _ _, nlTo_rng hp _ _ _ _ _⟩
/-- How many heads lie before a column. -/
def hdCnt (hs : List Nat) (c : Nat) : Nat := (hs.filter (fun h => decide (h < c))).length
theorem hd_at {hs : List Nat} (hm : ∀ i j, i < j → j < hs.length → hs.getD i 0 < hs.getD j 0) (c : Nat) : ∃ k, k ≤ hs.length ∧ (∀ i, i < hs.length → (hs.getD i 0 < c ↔ i < k)) := by
  induction hs with
  | nil => exact ⟨0, by simp, fun i hi => by simp at hi⟩
  | cons h hs ih =>
    have hm' : ∀ i j, i < j → j < hs.length → hs.getD i 0 < hs.getD j 0 := fun i j hij hj => by
      have := hm (i + 1) (j + 1) (by omega) (by simpa using hj)
      simpa using this
    obtain ⟨k, hk, hki⟩ := ih hm'
    by_cases hc : h < c
    · refine ⟨k + 1, by simpa using hk, fun i hi => ?_⟩
      cases i with
      | zero => simp [hc]
      | succ i =>
        have := hki i (by simpa using hi)
        simp only [List.getD_cons_succ]
        omega
    · refine ⟨0, by omega, fun i hi => ?_⟩
      cases i with
      | zero => simp [hc]
      | succ i =>
        have := hm 0 (i + 1) (by omega) hi
        simp only [List.getD_cons_zero, List.getD_cons_succ] at this ⊢
        omega

set_option maxRecDepth 100000 in
set_option maxHeartbeats 8000000 in
theorem l4Null_ok (p : Int) (A : Option Addr) (n cap wd : Nat) (rows : List (List Int)) (w : World) (hp : isPrimeB p = true) (hwd : 1 ≤ wd) (hwd2 : wd ≤ 100) (hr : RRI w A n rows) (hw : ∀ r ∈ rows, Rg p wd r) (hn : n ≤ 100) :
    Calls Try.prog 68 #[.int .i64 p, .slice A n cap, .int .i64 wd] w fun e w' => ∃ (v : Value) (rs : List Rw), e = .returned v ∧ RwO w' w.heap.size v rs ∧ RwS w' w.heap.size rs ∧ rs.map (·.xs) = solP p wd rows ∧ Below w.heap.size w w' := by
  have hpb := isPrimeB_bd hp
  have hp1 : 1 ≤ p := by omega
  have hp31 : p ≤ 31 := hpb.2
  have hwl : ∀ r ∈ rows, r.length = wd := fun r hr => (hw r hr).1
  have HP := hid hp
  have HRed := hid (l4Reduce_ok p A n cap wd rows w hp hwd hwd2 hr hw hn)
  obtain ⟨left', hI⟩ := RedI.done hp hwl
  have e1 : (redH p wd 0 rows [] []).1 = redP p wd rows := by rw [redP_fst, mod_same hp1 hw]
  have e2 : (redH p wd 0 rows [] []).2 = hdsP p wd rows := by rw [hdsP, mod_same hp1 hw]
  rw [e1, e2] at HRed
  have HSol := hid (show solP p wd rows = redP p wd (nlRows p wd (redP p wd rows) (hdsP p wd rows) wd) from rfl)
  clear e1 e2
  generalize redP p wd rows = base at *
  generalize hdsP p wd rows = hs at *
  have HI := hid hI
  have hbl := redH_len hI (Nat.le_refl _)
  have HHl := hid hI.hl
  have HHm := hid hI.hm
  have HHi := hid hI.hi
  clear hr hw hwl hI
  have HMod := hid (fun (x : Int) (h0 : 0 ≤ x) (h1 : x < p) W => l4Mod_ok (-x) p W hp1 hp31 (by omega) (by omega))
  go_enter Try.func68, Try.ntmps68
  go_wp2_with fail
  refine HRed.out.mono ?_
  rintro e w1 ⟨vb, vh, rb, rfl, hO, hS, hM, hV, hB⟩
  have hml : rb.length = base.length := by rw [← hM, List.length_map]
  have HRx := hid (show ∀ i, i < rb.length → (rb.getD i default).xs = base.getD i [] from fun i hi => by
    rw [← hM]
    simp [List.getD_eq_getElem?_getD, List.getElem?_map, List.getElem?_eq_getElem hi])
  have HO := hid hO
  have HIn := hid hS
  have HB := hid hB
  have HMl := hid hml
  obtain ⟨Ab, cb, hvb, _⟩ := hO.form
  subst hvb
  obtain ⟨A8, c8, hv8, hr8⟩ := hV.ri (by simp [hsV]; have := HHl.out; omega)
  have hl8 : (hsV hs).length = base.length := by simp [hsV]; exact HHl.out
  rw [hl8] at hv8 hr8
  subst hv8
  have HR8 := hid hr8
  rw [hml]
  clear hO hS hB hM HRed hV hr8 hl8
  go_wp2
  go_loopg [9, 10, 11] wd (fun gk v s t wr => ∃ (c0 k0 : Nat) (rs : List Rw), c0 ≤ wd ∧ gk = wd - c0 ∧ t = .int .i64 c0 ∧ s = .int .i64 k0 ∧ k0 ≤ base.length ∧ (∀ i, i < hs.length → (hs.getD i 0 < c0 ↔ i < k0)) ∧ RwO wr w1.heap.size v rs ∧ RwS wr w1.heap.size rs ∧ rs.map (·.xs) = nlRows p wd base hs c0 ∧ Below w1.heap.size w1 wr)
  case atStart => exact ⟨0, 0, [], by omega, by omega, rfl, rfl, by omega, fun i hi => by omega, World.ownsRow_lit w1 #[] 0 (Nat.le_refl _) (by decide) rfl, fun r hr => (by cases hr), rfl, below_alloc _ _⟩
  case round =>
    obtain ⟨c0, k0, rs, hc0, hgk, rfl, rfl, hk0, hki, hO2, hS2, hM2, hB2⟩ := hrel
    obtain ⟨w3, hw3⟩ : ∃ w3 : World, w3 = wr := ⟨_, rfl⟩
    subst hw3
    have HGk := hid hgk
    have HKi := hid hki
    have O3 := hid hO2
    have S3 := hid hS2
    have M3 := hid hM2
    have B3 := hid hB2
    clear hgk hki hO2 hS2 hM2 hB2
    by_cases hct : c0 < wd
    · obtain ⟨_, _, b8, o8, hA8, hc8⟩ := HR8.out.below B3.out
      have HC8 := hid hc8
      clear hc8
      by_cases hyes : k0 < base.length ∧ hs.getD k0 0 = c0
      · obtain ⟨hkl, heq⟩ := hyes
        obtain rfl : A8 = some ⟨b8, o8, none⟩ := by rcases hA8 with h | h; omega; exact h
        have hkh : k0 < hs.length := by have := HHl.out; omega
        have hh := HC8.out k0 hkl
        rw [hsV_get hs hkh] at hh
        have hkl64 : k0 ≤ 100 := by omega
        have HYes := hid (nlRows_yes (p := p) (wd := wd) (base := base) (hs := hs) (c := c0) (by
          rw [List.contains_iff_mem, ← heq]
          exact getD_mem hkh))
        have HKn := hid (show ∀ i, i < hs.length → (hs.getD i 0 < c0 + 1 ↔ i < k0 + 1) from fun i hi => by
          have h1 := HKi.out i hi
          rcases Nat.lt_trichotomy i k0 with h | h | h
          · constructor
            · intro _; omega
            · intro _; have := h1.2 h; omega
          · subst h; rw [heq]; omega
          · have := HHm.out k0 i h hi
            omega)
        rw [heq] at hh
        clear heq hA8
        go_wp2
        go_roundg (wd - (c0 + 1))
        case measure => have := HGk.out; omega
        case rel => exact ⟨c0 + 1, k0 + 1, rs, by omega, rfl, by go_num, by go_num, by omega, HKn.out, O3.out, S3.out, by rw [HYes.out]; exact M3.out, B3.out⟩
      · have HNc := hid (show hs.contains c0 = false from by
          cases hcc : hs.contains c0
          · rfl
          · exfalso
            have hm : c0 ∈ hs := by simpa using hcc
            obtain ⟨i, hi, he⟩ := List.getElem_of_mem hm
            have he' : hs.getD i 0 = c0 := by simp [List.getD_eq_getElem?_getD, List.getElem?_eq_getElem hi, he]
            have h1 := HKi.out i hi
            have h2 := HHl.out
            rcases Nat.lt_trichotomy i k0 with h | h | h
            · have := h1.2 h; omega
            · subst h; exact hyes ⟨by omega, he'⟩
            · have := HHm.out k0 i h hi
              have h3 := HKi.out k0 (by omega)
              omega)
        have HKn := hid (show ∀ i, i < hs.length → (hs.getD i 0 < c0 + 1 ↔ i < k0) from fun i hi => by
          have h1 := HKi.out i hi
          constructor
          · intro h
            by_cases he : hs.getD i 0 = c0
            · exfalso
              have hm : hs.contains c0 = true := by rw [List.contains_iff_mem, ← he]; exact getD_mem hi
              rw [HNc.out] at hm
              cases hm
            · exact h1.1 (by omega)
          · intro h; have := h1.2 h; omega)
        have HNo := hid (nlRows_no (p := p) (wd := wd) (base := base) HNc.out)
        have hcase : (k0 < base.length ∧ A8 = some ⟨b8, o8, none⟩ ∧ ∃ z : Int, w3.cell? ⟨b8, o8 + k0, none⟩ = some (.int .i64 z) ∧ (z == (c0 : Int)) = false) ∨ ¬ k0 < base.length := by
          by_cases hkl : k0 < base.length
          · left
            have hkh : k0 < hs.length := by have := HHl.out; omega
            have hh := HC8.out k0 hkl
            rw [hsV_get hs hkh] at hh
            refine ⟨hkl, by rcases hA8 with h | h; omega; exact h, _, hh, ?_⟩
            have hne : hs.getD k0 0 ≠ c0 := fun e => hyes ⟨hkl, e⟩
            rw [beq_eq_false_iff_ne]
            intro e
            exact hne (by omega)
          · exact .inr hkl
        have hwz : wd ≤ 17592186044416 := by omega
        have hkl64 : k0 ≤ 100 := by omega
        have HA8 := hid hA8
        clear hyes hA8
        rcases hcase with ⟨hkl, rfl, zz, hh, hcz⟩ | hkl
        all_goals
          go_wp2_with (at_make; refine make_int _ _ rfl rfl w3.heap.size wd rfl rfl hwz (Nat.le_refl _) ?_; intro w4 hown hgrow; have O4 := hid hown; have G4 := hid hgrow; clear hown hgrow; have s4 := O4.out.store' (by simp) c0 1; have S4 := hid s4.1; have T4 := hid s4.2; have f4 := O4.out.frozen' (by simp) c0; obtain ⟨_, _, hsl4, _, _, hc4⟩ := O4.out.shape (by simp; omega); injection hsl4 with a1 a2 a3; injection a1 with a1; injection a1 with a1; subst a1; have k4 := hc4 c0 (by simpa using hct); clear s4 hc4 a2 a3)
          have B4 := hid (show Below w3.heap.size w3 w4 from (Below.refl _ w3).grown G4.out (Nat.le_refl _) (fun k hk => by cases hk))
          have B5 := hid (B4.out.grown T4.out B4.out.size (fun k hk => by cases hk; exact Nat.le_refl _))
          have S5 := hid (show OI (w4.setCell ⟨w3.heap.size, c0, none⟩ (.int .i64 1)) w3.heap.size (.slice (some ⟨w3.heap.size, 0, none⟩) wd wd) (nlTo p wd base hs c0 0) from S4.out)
          generalize w4.setCell ⟨w3.heap.size, c0, none⟩ (.int .i64 1) = w5 at *
          clear S4 T4 f4 k4 O4 G4 B4
          go_wp2
          go_loopg [13] base.length (fun gk t wq => ∃ i : Nat, i ≤ base.length ∧ gk = base.length - i ∧ t = .int .i64 i ∧ OI wq w3.heap.size (.slice (some ⟨w3.heap.size, 0, none⟩) wd wd) (nlTo p wd base hs c0 i) ∧ Below w3.heap.size w3 wq)
          case atStart => exact ⟨0, by omega, by omega, rfl, S5.out, B5.out⟩
          case round =>
            obtain ⟨i, hi, hgi, rfl, hO6, hB6⟩ := hrel
            have HGi := hid hgi
            have O6 := hid hO6
            have B6 := hid hB6
            clear hgi hO6 hB6
            by_cases hit : i < base.length
            · have hir : i < rb.length := by omega
              have hb16 := below_trans B3.out B6.out
              obtain ⟨gb, cb', hsl, _, _, _, _, _, hcell⟩ := (HO.out.below hb16).shape (by omega)
              injection hsl with e1 e2 e3
              subst e1
              have hck := hcell i hir
              have hmem : rb[i] ∈ rb := List.getElem_mem _
              have hxs : rb[i].xs = base.getD i [] := by
                have := HRx.out i hir
                rwa [List.getD_eq_getElem?_getD, List.getElem?_eq_getElem hir] at this
              have hrg := HI.out.og _ (getD_mem (d := []) hit)
              have hri := (HIn.out.below hb16).ri hmem (by rw [hxs, hrg.1]; omega)
              rw [hxs, hrg.1] at hri
              have hrv : rwV rb[i] = .slice (some ⟨rb[i].g, 0, none⟩) wd rb[i].cap := by rw [rwV, hxs, hrg.1]
              rw [hrv] at hck
              obtain ⟨_, _, b1, o1, hA1, hc1⟩ := hri
              have hA1' : (some ⟨rb[i].g, 0, none⟩ : Option Addr) = some ⟨b1, o1, none⟩ := by
                rcases hA1 with h | h
                · omega
                · exact h
              injection hA1' with q
              injection q with q1 q2
              subst q1 q2
              have hx := hc1 c0 hct
              rw [Nat.zero_add] at hx
              have hxr := hrg.get hct
              have hih : i < hs.length := by have := HHl.out; omega
              have hA8'' := HA8.out
              obtain ⟨_, _, b9, o9, hA9, hc9⟩ := HR8.out.below (below_trans B3.out B6.out)
              rcases hA9 with hA9 | hA9
              · omega
              first | subst hA9 | (injection hA9 with hA9; injection hA9 with z1 z2; subst z1 z2)
              have hhd := hc9 i hit
              rw [hsV_get hs hih] at hhd
              have hhw := HHi.out i hih
              have HMd := hid (HMod.out _ hxr.1 hxr.2)
              have hnw : IntKind.i64.wrap (-(base.getD i []).getD c0 0) = -(base.getD i []).getD c0 0 := IntWalk.i64_in _ (by omega)
              have HNl := hid (show nlTo p wd base hs c0 (i + 1) = (nlTo p wd base hs c0 i).set (hs.getD i 0) (-(base.getD i []).getD c0 0 % p) from rfl)
              have st := O6.out.store' (nlTo_len _ _ _ _ _ _) (hs.getD i 0) (-(base.getD i []).getD c0 0 % p)
              rw [← HNl.out] at st
              have hfz := O6.out.frozen' (nlTo_len _ _ _ _ _ _) (hs.getD i 0)
              obtain ⟨_, _, hsl6, _, _, hc6⟩ := O6.out.shape (by rw [nlTo_len]; omega)
              injection hsl6 with d1 d2 d3
              injection d1 with d1
              injection d1 with d1
              subst d1
              have hold := hc6 (hs.getD i 0) (by rw [nlTo_len]; exact hhw)
              have S6 := hid st.1
              have B7 := hid (B6.out.grown st.2 B6.out.size (fun k hk => by cases hk; exact Nat.le_refl _))
              clear hcell hc1 hA1 hc9 hc6 st hrv hxs hmem hb16 e2 e3 d2 d3 hxr HNl hrg hA8''
              generalize rb[i].g = g at *
              generalize rb[i].cap = cc at *
              generalize (nlTo p wd base hs c0 i).getD (hs.getD i 0) 0 = ov at *
              generalize hs.getD i 0 = h1 at *
              generalize (base.getD i []).getD c0 0 = x at *
              go_wp2
              refine wp_region_still_tail 15 (by kernel_rfl) (by kernel_rfl) ?_
              simp only [List.take_succ_cons, List.take_zero, List.drop_succ_cons, List.drop_zero]
              repeat (first | still_step | (refine wpStill_step (fun K hK => ?_); go_simp; refine ⟨_, (by with_reducible exact HMd.out _), hK _ ?_⟩; clear hK K))
              refine wpStill_nil ?_
              change wpList _ _ _ _ _ (World.drew _)
              go_wp2
              go_roundg (base.length - (i + 1))
              case measure => have := HGi.out; omega
              case rel => exact ⟨i + 1, by omega, rfl, by go_num, drewOI S6.out, drewBelow B7.out⟩
            · obtain rfl : i = base.length := by omega
              have HRow := hid (show nlTo p wd base hs c0 base.length = nlRow p wd base hs c0 from rfl)
              obtain ⟨r1, hr1, hr1x, hr1o⟩ := oi_rw O6.out (by rw [nlTo_len]; omega)
              have HR1 := hid hr1
              have O7 := hid hr1o
              have X7 := hid hr1x
              have I7 := hid (show RwS wr w1.heap.size (rs ++ [r1]) from by
                intro r hr
                rcases List.mem_append.1 hr with hr | hr
                · exact (S3.out.below B6.out) r hr
                · obtain rfl : r = r1 := by simpa using hr
                  exact hr1o.mono B3.out.size)
              have R7 := hid (O3.out.below B6.out)
              have HLn := hid (show rs.length < 1000000 by
                have h1 := congrArg List.length M3.out
                rw [List.length_map] at h1
                have := nlRows_len_le p wd base hs c0
                omega)
              have HW7 := hid (show w1.heap.size ≤ wr.heap.size from Nat.le_trans B3.out.size B6.out.size)
              clear hr1 hr1x hr1o
              go_wp2_with (at_builtin; refine append_row _ _ rfl rfl w1.heap.size _ rs r1 ⟨wr.heap.size, 0, none⟩ rfl rfl (R7.out.alloc _) (by rw [← HR1.out]; exact World.cell?_alloc_at _ _ _ _ rfl) HLn.out (size_alloc HW7.out _) ?_; intro v' w8 hown hgrow; have O8 := hid hown; have G8 := hid hgrow; clear hown hgrow)
              go_roundg (wd - (c0 + 1))
              case measure => have := HGk.out; omega
              case rel =>
                refine ⟨c0 + 1, k0, rs ++ [r1], by omega, rfl, by go_num, rfl, hk0, HKn.out, O8.out, RwS.outer (RwS.below I7.out (below_alloc _ _)) (R7.out.alloc _) G8.out, ?_, below_append (below_trans B3.out B6.out) HW7.out R7.out G8.out⟩
                rw [List.map_append, M3.out, HNo.out, ← HRow.out, ← X7.out]
                rfl
    · obtain rfl : c0 = wd := by omega
      have hrl : rs.length ≤ c0 := by
        have h1 := congrArg List.length M3.out
        rw [List.length_map] at h1
        have := nlRows_len_le p c0 base hs c0
        omega
      have hrx : ∀ r ∈ rs, Rg p c0 r.xs := fun r hr => nlRows_rg (by omega) _ _ _ _ _ (by rw [← M3.out]; exact List.mem_map.2 ⟨r, hr, rfl⟩)
      obtain ⟨A9, c9, rfl, hr9⟩ := RRI_ofS O3.out S3.out (by omega) (fun r hr => by rw [(hrx r hr).1]; omega)
      have hrg9 : ∀ r ∈ rs.map (·.xs), Rg p c0 r := fun r hr => by
        obtain ⟨q, hq, rfl⟩ := List.mem_map.1 hr
        exact hrx q hq
      have HR2 := hid (l4Reduce_ok p A9 rs.length c9 c0 _ w3 HP.out hwd hwd2 hr9 hrg9 (by omega))
      have e1 : (redH p c0 0 (rs.map (·.xs)) [] []).1 = solP p c0 rows := by rw [HSol.out, ← M3.out, redP_fst, mod_same hp1 hrg9]
      rw [e1] at HR2
      clear hr9 hrx hrg9 e1
      go_wp2_with fail
      refine HR2.out.mono ?_
      rintro e w9 ⟨v9, vh9, r9, rfl, hO9, hS9, hM9, _, hB9⟩
      have hsz : w.heap.size ≤ w3.heap.size := Nat.le_trans HB.out.size B3.out.size
      have O9 := hid (OR_mono hO9 hsz)
      have S9 := hid (hS9.mono hsz)
      have M9 := hid hM9
      have B9 := hid (below_trans (below_trans HB.out B3.out) hB9)
      clear hO9 hS9 hM9 hB9
      go_wp2
      go_ret
      exact ⟨v9, r9, rfl, O9.out, S9.out, M9.out, B9.out⟩

end Go.Proofs.Ytkhkcgoblibnpaa
