/-
  The contract of impl.solutions.
-/
import Derived.Test.YtkhkcgoblibnpaaNu
import Derived.Test.YtkhkcgoblibnpaaRe
import Derived.Test.YtkhkcgoblibnpaaMi
import Derived.StillTailTactics
namespace Go.Proofs.Ytkhkcgoblibnpaa
open Go.RowKit
set_option linter.unusedVariables false
set_option linter.unusedSimpArgs false

/-- An outer list and its rows, read. -/
theorem RRI_of {w : World} {base b2 : Nat} {v : Value} {rs : List Rw} (h : RwO w base v rs) (hi : RwIn w b2 rs) (hn : rs.length ≤ 1000) (hl : ∀ r ∈ rs, r.xs.length ≤ 1000000) : ∃ A c, v = .slice A rs.length c ∧ RRI w A rs.length (rs.map (·.xs)) := by
  by_cases h0 : 0 < rs.length
  · obtain ⟨g, cap, hv, _, _, _, _, _, hc⟩ := h.shape h0
    refine ⟨_, cap, hv, by simp, hn, g, 0, .inr rfl, fun j hj => ?_⟩
    have e : (rs.map (·.xs)).getD j [] = rs[j].xs := by rw [List.getD_eq_getElem?_getD, List.getElem?_map, List.getElem?_eq_getElem hj]; rfl
    have hm : rs[j] ∈ rs := List.getElem_mem _
    refine ⟨some ⟨rs[j].g, 0, none⟩, rs[j].cap, ?_, ?_⟩
    · rw [Nat.zero_add, hc j hj, e]; rfl
    · rw [e]; exact hi.ri hm (by have := hl _ hm; omega)
  · obtain ⟨A, cap, hv, _⟩ := h.form
    exact ⟨A, cap, hv, by simp, hn, 0, 0, .inl (by omega), fun j hj => by omega⟩

theorem Index1_ok (A : Option Addr) (n c : Nat) (xs : List Int) (v : Int) (w : World) (hr : RI w A n xs) :
    Calls Try.prog 89 #[.slice A n c, .int .i64 v] w fun e w' => e = .returned (.int .i64 (idx1 v xs 0)) ∧ w = w' := by
  obtain ⟨hl, hn, b, off, hA, hc⟩ := hr
  have HC := hid hc
  have HL := hid hl
  clear hc hl
  go_enter Try.func89, Try.ntmps89
  go_wp2
  go_loop [8] (fun t => ∃ k : Nat, k ≤ n ∧ t = .int .i64 k ∧ idx1 v xs 0 = idx1 v (xs.drop k) k) (fun t => n - (intOf t).toNat)
  case atStart => exact ⟨0, by omega, rfl, rfl⟩
  case round =>
    obtain ⟨k, hk, rfl, hf⟩ := hrel
    have HF := hid hf
    clear hf
    by_cases hlt : k < n
    · obtain rfl : A = some ⟨b, off, none⟩ := by rcases hA with h | h; omega; exact h
      have hcx := HC.out k hlt
      have HD := hid (show xs.drop k = xs.getD k 0 :: xs.drop (k + 1) by rw [List.drop_eq_getElem_cons (by have := HL.out; omega), getD_lt (by have := HL.out; omega)])
      clear hA
      generalize xs.getD k 0 = y at *
      cases hq : (v == y)
      · have HQ := hid hq
        go_wp2
        go_round
        case rel => exact ⟨k + 1, by omega, by go_num, by rw [HF.out, HD.out, idx1, HQ.out]; rfl⟩
        case measure => simp [intOf]; omega
      · have HQ := hid hq
        go_wp2
        go_ret
        exact ⟨by rw [HF.out, HD.out, idx1, HQ.out]; rfl, rfl⟩
    · have HD := hid (show xs.drop k = [] from List.drop_eq_nil_of_le (by have := HL.out; omega))
      go_wp2
      go_ret
      exact ⟨by rw [HF.out, HD.out]; rfl, rfl⟩

def hsV (hs : List Nat) : List Int := hs.map Int.ofNat
theorem hsV_get (hs : List Nat) {k : Nat} (h : k < hs.length) : (hsV hs).getD k 0 = ((hs.getD k 0 : Nat) : Int) := by
  simp [hsV, List.getD_eq_getElem?_getD, List.getElem?_map, List.getElem?_eq_getElem h]
theorem hsV_any (hs : List Nat) (c : Nat) : ((hsV hs).any fun y => (c : Int) == y) = hs.contains c := by
  rw [Bool.eq_iff_iff]
  simp [hsV]
  constructor
  · rintro ⟨x, hx, e⟩
    have : c = x := by omega
    exact this ▸ hx
  · intro h
    exact ⟨c, h, rfl⟩
theorem hsV_take_succ (hs : List Nat) {k : Nat} (h : k < hs.length) : hsV (hs.take k) ++ [((hs.getD k 0 : Nat) : Int)] = hsV (hs.take (k + 1)) := by
  rw [List.take_succ_eq_append_getElem h, hsV, hsV, List.map_append]
  simp [List.getD_eq_getElem?_getD, List.getElem?_eq_getElem h]
theorem nlRows_len_le (p : Int) (wd : Nat) (base : List (List Int)) (hs : List Nat) (c : Nat) : (nlRows p wd base hs c).length ≤ c := by
  rw [nlRows, List.length_map, freeTo]
  have := List.length_filter_le (fun c => !hs.contains c) (List.range c)
  rwa [List.length_range] at this

set_option maxRecDepth 100000 in
set_option maxHeartbeats 8000000 in
theorem solutions_ok (p : Int) (A : Option Addr) (n cap wd : Nat) (rows : List (List Int)) (w : World) (hp : isPrimeB p = true) (hwd : 1 ≤ wd) (hwd2 : wd ≤ 100) (hr : RRI w A n rows) (hw : ∀ r ∈ rows, r.length = wd) (hx : ∀ r ∈ rows, ∀ x ∈ r, -1000000000000 ≤ x ∧ x ≤ 1000000000000) (hn : n ≤ 100) :
    Calls Try.prog 65 #[.int .i64 p, .slice A n cap, .int .i64 wd] w fun e w' => ∃ (v : Value) (rs : List Rw), e = .returned v ∧ RwO w' w.heap.size v rs ∧ RwIn w' w.heap.size rs ∧ rs.map (·.xs) = solP p wd rows ∧ Below w.heap.size w w' := by
  have hpb := isPrimeB_bd hp
  have HRed := hid (reduced_ok p A n cap wd rows w (by omega) (by omega) hwd hwd2 hr hw hx)
  obtain ⟨left', hI⟩ := RedI.done hp hw
  have HSol := hid (show solP p wd rows = redP p wd (nlRows p wd (redP p wd rows) (hdsP p wd rows) wd) from rfl)
  generalize redP p wd rows = base at *
  generalize hdsP p wd rows = hs at *
  have HI := hid hI
  have hbl : base.length ≤ wd := by
    have h1 := hI.hl
    have key : ∀ i, i < hs.length → i ≤ hs.getD i 0 := fun i => by
      induction i with
      | zero => intro _; omega
      | succ i ih =>
        intro hi
        have := ih (by omega)
        have := hI.hm i (i + 1) (by omega) hi
        omega
    rw [← h1]
    by_cases h0 : hs.length = 0
    · omega
    · have := key (hs.length - 1) (by omega)
      have := hI.hi (hs.length - 1) (by omega)
      omega
  have hhl := hI.hl
  have HHl := hid hI.hl
  clear hr hw hx hI hhl
  have HMod := hid (fun (x : Int) (h0 : 0 ≤ x) (h1 : x < p) W => mod_ok2 (-x) p W (by omega) (by omega) (by omega) (by omega))
  have hp1 : 1 ≤ p := by omega
  have hp31 : p ≤ 31 := hpb.2
  go_enter Try.func65, Try.ntmps65
  go_wp2_with fail
  refine HRed.out.mono ?_
  rintro e w1 ⟨vb, rb, rfl, hO, hIn, hM, hB⟩
  have hml : rb.length = base.length := by rw [← hM, List.length_map]
  have hrx : ∀ i, i < rb.length → (rb.getD i default).xs = base.getD i [] := fun i hi => by
    rw [← hM]
    simp [List.getD_eq_getElem?_getD, List.getElem?_map, List.getElem?_eq_getElem hi]
  have HRx := hid hrx
  have HO := hid hO
  have HIn := hid hIn
  have HB := hid hB
  have HMl := hid hml
  obtain ⟨Ab, cb, hvb, _⟩ := hO.form
  subst hvb
  rw [hml]
  clear hO hIn hB hrx hM HRed
  go_wp2
  go_loopg [8, 22] base.length (fun gk v t wr => ∃ k : Nat, k ≤ base.length ∧ gk = base.length - k ∧ t = .int .i64 k ∧ OI wr w1.heap.size v (hsV (hs.take k)) ∧ Below w1.heap.size w1 wr)
  case atStart => exact ⟨0, by omega, by omega, rfl, by rw [List.take_zero]; exact World.ownsRow_lit w1 #[] 0 (Nat.le_refl _) (by decide) rfl, below_alloc _ _⟩
  case round =>
    obtain ⟨k, hk, hgk, rfl, ho, hb⟩ := hrel
    have HGk := hid hgk
    have HV := hid ho
    have HB1 := hid hb
    clear hgk ho hb
    by_cases hlt : k < base.length
    · have hkr : k < rb.length := by omega
      obtain ⟨gb, cb', hsl, _, _, _, _, _, hcell⟩ := (HO.out.below HB1.out).shape (by omega)
      injection hsl with e1 e2 e3
      subst e1
      have hck := hcell k hkr
      have hmem : rb[k] ∈ rb := List.getElem_mem _
      have hxs : rb[k].xs = base.getD k [] := by
        have := HRx.out k hkr
        rwa [List.getD_eq_getElem?_getD, List.getElem?_eq_getElem hkr] at this
      have hri := (HIn.out.below HB1.out).ri hmem (by rw [hxs, (HI.out.og _ (getD_mem hlt)).1]; omega)
      rw [hxs] at hri
      have hlen := (HI.out.og _ (getD_mem (d := []) hlt)).1
      rw [hlen] at hri
      have hrv : rwV rb[k] = .slice (some ⟨rb[k].g, 0, none⟩) wd rb[k].cap := by rw [rwV, hxs, hlen]
      rw [hrv] at hck
      have HRi := hid hri
      have HIx := hid (Index1_ok (some ⟨rb[k].g, 0, none⟩) wd rb[k].cap (base.getD k []) 1 _ hri)
      rw [head_idx HI.out hlt (by omega)] at HIx
      have HSu := hid (hsV_take_succ hs (show k < hs.length by have := HHl.out; omega))
      have HLn := hid (show (hsV (hs.take k)).length < 17592186044416 by simp [hsV]; omega)
      generalize rb[k].g = g at *
      generalize rb[k].cap = cc at *
      generalize hs.getD k 0 = h1 at *
      clear hcell hri hrv hxs hmem hlen e2 e3
      go_wp2_with fail
      refine HIx.out.mono ?_
      rintro e w' ⟨rfl, rfl⟩
      go_wp2_with (at_builtin; refine append_int _ _ rfl rfl w1.heap.size _ _ (h1 : Int) ⟨wr.heap.size, 0, none⟩ rfl rfl (HV.out.alloc _) (World.cell?_alloc_at _ _ _ _ rfl) HLn.out (size_alloc HB1.out.size _) ?_; intro v' w4 hown hgrow; have HO4 := hid hown; have HG4 := hid hgrow; clear hown hgrow)
      go_roundg (base.length - (k + 1))
      case measure => have := HGk.out; omega
      case rel => exact ⟨k + 1, by omega, rfl, by go_num, by rw [← HSu.out]; exact HO4.out, below_append HB1.out HB1.out.size HV.out HG4.out⟩
    · obtain rfl : k = base.length := by omega
      have HV2 := hid (show OI wr w1.heap.size u8 (hsV hs) from by have h := HV.out; rwa [List.take_of_length_le (by have := HHl.out; omega)] at h)
      obtain ⟨A8, c8, hv8, hr8⟩ := HV2.out.ri (by simp [hsV]; have := HHl.out; omega)
      have hl8 : (hsV hs).length = base.length := by simp [hsV]; exact HHl.out
      rw [hl8] at hv8 hr8
      subst hv8
      obtain ⟨w2, hw2⟩ : ∃ w2 : World, w2 = wr := ⟨_, rfl⟩
      subst hw2
      have HR8 := hid hr8
      have HB2 := hid HB1.out
      clear HV HV2 HB1 hr8 hl8 HGk hk hlt
      go_wp2
      go_loopg [11, 34] wd (fun gk v t wr => ∃ (c0 : Nat) (rs : List Rw), c0 ≤ wd ∧ gk = wd - c0 ∧ t = .int .i64 c0 ∧ RwO wr w2.heap.size v rs ∧ RwIn wr w2.heap.size rs ∧ rs.map (·.xs) = nlRows p wd base hs c0 ∧ Below w2.heap.size w2 wr)
      case atStart => exact ⟨0, [], by omega, by omega, rfl, World.ownsRow_lit w2 #[] 0 (Nat.le_refl _) (by decide) rfl, ⟨fun _ h => (by cases h), by simp⟩, rfl, below_alloc _ _⟩
      case round =>
        obtain ⟨c0, rs, hc0, hgk, rfl, hO2, hI2, hM2, hB2⟩ := hrel
        obtain ⟨w3, hw3⟩ : ∃ w3 : World, w3 = wr := ⟨_, rfl⟩
        subst hw3
        have HGk := hid hgk
        have O3 := hid hO2
        have I3 := hid hI2
        have M3 := hid hM2
        have B3 := hid hB2
        clear hgk hO2 hI2 hM2 hB2
        by_cases hct : c0 < wd
        · have HCo := hid (Contains_ok (c0 : Int) A8 base.length c8 (hsV hs) w3 (HR8.out.below B3.out))
          rw [hsV_any] at HCo
          cases hcon : hs.contains c0
          · rw [hcon] at HCo
            have HNo := hid (nlRows_no (p := p) (wd := wd) (base := base) hcon)
            have HCn := hid hcon
            clear hcon
            have hwz : wd ≤ 17592186044416 := by omega
            go_wp2_with fail
            refine HCo.out.mono ?_
            rintro e w' ⟨rfl, rfl⟩
            go_wp2_with (at_make; refine make_int _ _ rfl rfl w3.heap.size wd rfl rfl hwz (Nat.le_refl _) ?_; intro w4 hown hgrow; have O4 := hid hown; have G4 := hid hgrow; clear hown hgrow; have s4 := O4.out.store' (by simp) c0 1; have S4 := hid s4.1; have T4 := hid s4.2; have f4 := O4.out.frozen' (by simp) c0; obtain ⟨_, _, hsl4, _, _, hc4⟩ := O4.out.shape (by simp; omega); injection hsl4 with a1 a2 a3; injection a1 with a1; injection a1 with a1; subst a1; have k4 := hc4 c0 (by simpa using hct); clear s4 hc4 a2 a3)
            have B4 := hid (show Below w3.heap.size w3 w4 from (Below.refl _ w3).grown G4.out (Nat.le_refl _) (fun k hk => by cases hk))
            have B5 := hid (B4.out.grown T4.out B4.out.size (fun k hk => by cases hk; exact Nat.le_refl _))
            have S5 := hid (show OI (w4.setCell ⟨w3.heap.size, c0, none⟩ (.int .i64 1)) w3.heap.size (.slice (some ⟨w3.heap.size, 0, none⟩) wd wd) (nlTo p wd base hs c0 0) from S4.out)
            generalize w4.setCell ⟨w3.heap.size, c0, none⟩ (.int .i64 1) = w5 at *
            clear S4 T4 f4 k4 O4 G4 B4
            go_wp2
            go_loopg [47] base.length (fun gk t wq => ∃ i : Nat, i ≤ base.length ∧ gk = base.length - i ∧ t = .int .i64 i ∧ OI wq w3.heap.size (.slice (some ⟨w3.heap.size, 0, none⟩) wd wd) (nlTo p wd base hs c0 i) ∧ Below w3.heap.size w3 wq)
            case atStart => exact ⟨0, by omega, by omega, rfl, S5.out, B5.out⟩
            case round =>
              obtain ⟨i, hi, hgi, rfl, hO6, hB6⟩ := hrel
              have HGi := hid hgi
              have O6 := hid hO6
              have B6 := hid hB6
              clear hgi hO6 hB6
              by_cases hit : i < base.length
              · have hir : i < rb.length := by omega
                have hb16 := below_trans (below_trans HB2.out B3.out) B6.out
                obtain ⟨gb, cb', hsl, _, _, _, _, _, hcell⟩ := (HO.out.below hb16).shape (by omega)
                injection hsl with e1 e2 e3
                subst e1
                have hck := hcell i hir
                have hmem : rb[i] ∈ rb := List.getElem_mem _
                have hxs : rb[i].xs = base.getD i [] := by
                  have := HRx.out i hir
                  rwa [List.getD_eq_getElem?_getD, List.getElem?_eq_getElem hir] at this
                have hrg := HI.out.og _ (getD_mem (d := []) hit)
                have hri := (HIn.out.below hb16).ri hmem (by rw [hxs, hrg.1]; omega)
                rw [hxs, hrg.1] at hri
                have hrv : rwV rb[i] = .slice (some ⟨rb[i].g, 0, none⟩) wd rb[i].cap := by rw [rwV, hxs, hrg.1]
                rw [hrv] at hck
                obtain ⟨_, _, b1, o1, hA1, hc1⟩ := hri
                have hA1' : (some ⟨rb[i].g, 0, none⟩ : Option Addr) = some ⟨b1, o1, none⟩ := by
                  rcases hA1 with h | h
                  · omega
                  · exact h
                injection hA1' with q
                injection q with q1 q2
                subst q1 q2
                have hx := hc1 c0 hct
                rw [Nat.zero_add] at hx
                have hxr := hrg.get hct
                have hih : i < hs.length := by have := HHl.out; omega
                obtain ⟨_, _, b8, o8, hA8, hc8⟩ := HR8.out.below (below_trans B3.out B6.out)
                have hA8' : A8 = some ⟨b8, o8, none⟩ := by
                  rcases hA8 with h | h
                  · omega
                  · exact h
                subst hA8'
                have hh := hc8 i hit
                rw [hsV_get hs hih] at hh
                have hhw := HI.out.hi i hih
                have HMd := hid (HMod.out _ hxr.1 hxr.2)
                have hnw : IntKind.i64.wrap (-(base.getD i []).getD c0 0) = -(base.getD i []).getD c0 0 := IntWalk.i64_in _ (by omega)
                have HNl := hid (show nlTo p wd base hs c0 (i + 1) = (nlTo p wd base hs c0 i).set (hs.getD i 0) (-(base.getD i []).getD c0 0 % p) from rfl)
                have st := O6.out.store' (nlTo_len _ _ _ _ _ _) (hs.getD i 0) (-(base.getD i []).getD c0 0 % p)
                rw [← HNl.out] at st
                have hfz := O6.out.frozen' (nlTo_len _ _ _ _ _ _) (hs.getD i 0)
                obtain ⟨_, _, hsl6, _, _, hc6⟩ := O6.out.shape (by rw [nlTo_len]; omega)
                injection hsl6 with d1 d2 d3
                injection d1 with d1
                injection d1 with d1
                subst d1
                have hold := hc6 (hs.getD i 0) (by rw [nlTo_len]; exact hhw)
                have S6 := hid st.1
                have B7 := hid (B6.out.grown st.2 B6.out.size (fun k hk => by cases hk; exact Nat.le_refl _))
                clear hcell hc1 hA1 hc8 hA8 hc6 st hrv hxs hmem hb16 e2 e3 d2 d3 hxr HNl hrg
                generalize rb[i].g = g at *
                generalize rb[i].cap = cc at *
                generalize (nlTo p wd base hs c0 i).getD (hs.getD i 0) 0 = ov at *
                generalize hs.getD i 0 = h1 at *
                generalize (base.getD i []).getD c0 0 = x at *
                go_wp2
                refine wp_region_still_tail 12 (by kernel_rfl) (by kernel_rfl) ?_
                simp only [List.take_succ_cons, List.take_zero, List.drop_succ_cons, List.drop_zero]
                repeat (first | still_step | (refine wpStill_step (fun K hK => ?_); go_simp; refine ⟨_, (by with_reducible exact HMd.out _), hK _ ?_⟩; clear hK K))
                refine wpStill_nil ?_
                change wpList _ _ _ _ _ (World.drew _)
                go_wp2
                go_roundg (base.length - (i + 1))
                case measure => have := HGi.out; omega
                case rel => exact ⟨i + 1, by omega, rfl, by go_num, drewOI S6.out, drewBelow B7.out⟩
              · obtain rfl : i = base.length := by omega
                have HRow := hid (show nlTo p wd base hs c0 base.length = nlRow p wd base hs c0 from rfl)
                obtain ⟨r1, hr1, hr1x, hr1o⟩ := oi_rw O6.out (by rw [nlTo_len]; omega)
                have HR1 := hid hr1
                have O7 := hid hr1o
                have X7 := hid hr1x
                have I7 := hid ((I3.out.below B6.out).add hr1o B3.out.size (fun q hq => (I3.out.ge hq).2))
                have R7 := hid (O3.out.below B6.out)
                have HLn := hid (show rs.length < 1000000 by
                  have h1 := congrArg List.length M3.out
                  rw [List.length_map] at h1
                  have := nlRows_len_le p wd base hs c0
                  omega)
                have HW7 := hid (show w2.heap.size ≤ wr.heap.size from Nat.le_trans B3.out.size B6.out.size)
                clear hr1 hr1x hr1o
                go_wp2_with (at_builtin; refine append_row _ _ rfl rfl w2.heap.size _ rs r1 ⟨wr.heap.size, 0, none⟩ rfl rfl (R7.out.alloc _) (by rw [← HR1.out]; exact World.cell?_alloc_at _ _ _ _ rfl) HLn.out (size_alloc HW7.out _) ?_; intro v' w8 hown hgrow; have O8 := hid hown; have G8 := hid hgrow; clear hown hgrow)
                go_roundg (wd - (c0 + 1))
                case measure => have := HGk.out; omega
                case rel =>
                  refine ⟨c0 + 1, rs ++ [r1], by omega, rfl, by go_num, O8.out, (I7.out.alloc _).outer (R7.out.alloc _) G8.out, ?_, below_append (below_trans B3.out B6.out) HW7.out R7.out G8.out⟩
                  rw [List.map_append, M3.out, HNo.out, ← HRow.out, ← X7.out]
                  rfl
          · rw [hcon] at HCo
            have HYes := hid (nlRows_yes (p := p) (wd := wd) (base := base) hcon)
            clear hcon
            go_wp2_with fail
            refine HCo.out.mono ?_
            rintro e w' ⟨rfl, rfl⟩
            go_wp2
            go_roundg (wd - (c0 + 1))
            case measure => have := HGk.out; omega
            case rel => exact ⟨c0 + 1, rs, by omega, rfl, by go_num, O3.out, I3.out, by rw [HYes.out]; exact M3.out, B3.out⟩
        · obtain rfl : c0 = wd := by omega
          have hrl : rs.length ≤ c0 := by
            have h1 := congrArg List.length M3.out
            rw [List.length_map] at h1
            have := nlRows_len_le p c0 base hs c0
            omega
          have hrx : ∀ r ∈ rs, r.xs.length = c0 ∧ ∀ x ∈ r.xs, 0 ≤ x ∧ x < p := fun r hr => by
            have : r.xs ∈ nlRows p c0 base hs c0 := by rw [← M3.out]; exact List.mem_map.2 ⟨r, hr, rfl⟩
            obtain ⟨q, _, hq⟩ := List.mem_map.1 this
            rw [← hq]
            exact ⟨nlTo_len _ _ _ _ _ _, nlTo_rng (by omega) _ _ _ _ _⟩
          obtain ⟨A9, c9, rfl, hr9⟩ := RRI_of O3.out I3.out (by omega) (fun r hr => by rw [(hrx r hr).1]; omega)
          have HR2 := hid (reduced_ok p A9 rs.length c9 c0 _ w3 (by omega) (by omega) hwd hwd2 hr9 (fun r hr => by
            obtain ⟨q, hq, rfl⟩ := List.mem_map.1 hr
            exact (hrx q hq).1) (fun r hr x hx => by
            obtain ⟨q, hq, rfl⟩ := List.mem_map.1 hr
            have := (hrx q hq).2 x hx
            omega))
          rw [M3.out, ← HSol.out] at HR2
          clear hr9 hrx
          go_wp2_with fail
          refine HR2.out.mono ?_
          rintro e w9 ⟨v9, r9, rfl, hO9, hI9, hM9, hB9⟩
          have hsz : w.heap.size ≤ w3.heap.size := Nat.le_trans HB.out.size (Nat.le_trans HB2.out.size B3.out.size)
          have O9 := hid (OR_mono hO9 hsz)
          have I9 := hid (show RwIn w9 w.heap.size r9 from ⟨fun r hr => OI.mono (hI9.own r hr) hsz, hI9.nd⟩)
          have M9 := hid hM9
          have B9 := hid (below_trans (below_trans (below_trans HB.out HB2.out) B3.out) hB9)
          clear hO9 hI9 hM9 hB9
          go_wp2
          go_ret
          exact ⟨v9, r9, rfl, O9.out, I9.out, M9.out, B9.out⟩

end Go.Proofs.Ytkhkcgoblibnpaa
