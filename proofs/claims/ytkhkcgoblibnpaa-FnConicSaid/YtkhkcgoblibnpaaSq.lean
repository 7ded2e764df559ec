/-
  The contract of the reference's l4Reduce.
-/
import Derived.Test.YtkhkcgoblibnpaaSr
import Derived.Deep.RegionWith
import Derived.Deep.DeepCutAuto
namespace Go.Proofs.Ytkhkcgoblibnpaa
open Go.RowKit
set_option linter.unusedVariables false
set_option linter.unusedSimpArgs false

theorem RwO.rri {w : World} {base : Nat} {v : Value} {rs : List Rw} {A : Option Addr} {n c : Nat} (h : RwO w base v rs) (hv : v = .slice A n c) : n = rs.length := by
  obtain ⟨A', c', e, _⟩ := h.form
  rw [hv] at e
  injection e
theorem Rg.le31 {p : Int} {wd : Nat} {r : List Int} (h : Rg p wd r) (hp : p ≤ 31) : ∀ i, i < wd → 0 ≤ r.getD i 0 ∧ r.getD i 0 ≤ 31 := fun i hi => by have := h.get hi; omega
theorem Rg.mem1000 {p : Int} {wd : Nat} {r : List Int} (h : Rg p wd r) (hp : p ≤ 31) : ∀ x ∈ r, 0 ≤ x ∧ x ≤ 1000 := fun x hx => by have := h.2 x hx; omega
theorem append_nil_len {α : Type} {xs : List α} (n : Nat) (h : xs.length ≤ n) : xs.drop n = [] := List.drop_eq_nil_of_le h
theorem redH_len {p : Int} {wd c : Nat} {left out : List (List Int)} {hs : List Nat} (h : RedI p wd c left out hs) (hc : c ≤ wd) : out.length ≤ wd := by
  have h1 := h.hl
  have key : ∀ i, i < hs.length → i ≤ hs.getD i 0 := fun i => by
    induction i with
    | zero => intro _; omega
    | succ i ih =>
      intro hi
      have := ih (by omega)
      have := h.hm i (i + 1) (by omega) hi
      omega
  by_cases h0 : hs.length = 0
  · omega
  · have := key (hs.length - 1) (by omega)
    have := h.hi (hs.length - 1) (by omega)
    omega

set_option maxRecDepth 100000 in
set_option maxHeartbeats 16000000 in
theorem l4Reduce_ok (p : Int) (A : Option Addr) (n cap wd : Nat) (rows : List (List Int)) (w : World) (hp : isPrimeB p = true) (hwd : 1 ≤ wd) (hwd2 : wd ≤ 100) (hr : RRI w A n rows) (hw : ∀ r ∈ rows, Rg p wd r) (hn : n ≤ 100) :
    Calls Try.prog 92 #[.int .i64 p, .slice A n cap, .int .i64 wd] w fun e w' => ∃ (v vh : Value) (rs : List Rw), e = .returned (.tuple #[v, vh]) ∧ RwO w' w.heap.size v rs ∧ RwS w' w.heap.size rs ∧ rs.map (·.xs) = (redH p wd 0 rows [] []).1 ∧ OI w' w.heap.size vh (hsV (redH p wd 0 rows [] []).2) ∧ Below w.heap.size w w' := by
  have hpb := isPrimeB_bd hp
  have hp1 : 1 ≤ p := by omega
  have hp31 : p ≤ 31 := hpb.2
  have HP := hid hp
  have HRs := hid hr
  have hst : RedI p wd 0 rows [] [] := ⟨hw, fun r hr => (by cases hr), fun r _ j hj => by omega, rfl, fun i hi => (by cases hi), fun i j _ hj => (by cases hj), fun i hi => (by cases hi), fun i k hi => (by cases hi)⟩
  have HSt := hid hst
  have hnl := hr.1
  have B0 := hid (below_trans (below_alloc w (.cells #[] 32)) (below_alloc _ (.cells #[] 3)))
  have O0 := hid (show RwO ((w.alloc (.cells #[] 32)).alloc (.cells #[] 3)) w.heap.size (.slice (some ⟨w.heap.size, 0, none⟩) 0 0) [] from RwO.alloc (show RwO (w.alloc (.cells #[] 32)) w.heap.size (.slice (some ⟨w.heap.size, 0, none⟩) 0 0) [] from World.ownsRow_lit w #[] 0 (Nat.le_refl _) (by decide) rfl) _)
  have V0 := hid (show OI ((w.alloc (.cells #[] 32)).alloc (.cells #[] 3)) w.heap.size (.slice (some ⟨w.heap.size + 1, 0, none⟩) 0 0) [] from by
    have := World.ownsRow_lit (e := 3) (size := 1) (base := w.heap.size) (w.alloc (.cells #[] 32)) #[] 0 (by simp) (by decide) rfl
    simpa [OI] using this)
  clear hr hw hst hp
  generalize hres : redH p wd 0 rows [] [] = res at *
  have HRes := hid hres
  clear hres
  go_enter Try.func92, Try.ntmps92
  go_wp2
  go_loopg [1, 8, 9, 10] wd (fun gk v1 v8 v9 t wr => ∃ (c0 : Nat) (A1 : Option Addr) (n1 c1 : Nat) (left out : List (List Int)) (hs : List Nat) (rs : List Rw), c0 ≤ wd ∧ gk = wd - c0 ∧ t = .int .i64 c0 ∧ v1 = .slice A1 n1 c1 ∧ n1 ≤ 100 ∧ RRI wr A1 n1 left ∧ RwO wr w.heap.size v8 rs ∧ RwS wr w.heap.size rs ∧ rs.map (·.xs) = out ∧ OI wr w.heap.size v9 (hsV hs) ∧ RedI p wd c0 left out hs ∧ redH p (wd - c0) c0 left out hs = res ∧ Below w.heap.size w wr)
  case atStart => exact ⟨0, A, n, cap, rows, [], [], [], by omega, by omega, rfl, rfl, hn, HRs.out.below B0.out, O0.out, fun r hr => (by cases hr), rfl, V0.out, HSt.out, HRes.out, B0.out⟩
  case round =>
    obtain ⟨c0, A1, n1, c1, left, out, hs, rs, hc0, hgk, rfl, rfl, hn1, hL, hO, hS, hM, hV, hI, hR, hB⟩ := hrel
    obtain ⟨w3, hw3⟩ : ∃ w3 : World, w3 = wr := ⟨_, rfl⟩
    subst hw3
    have HGk := hid hgk
    have L3 := hid hL
    have O3 := hid hO
    have S3 := hid hS
    have M3 := hid hM
    have V3 := hid hV
    have I3 := hid hI
    have R3 := hid hR
    have B3 := hid hB
    have hll := hL.1
    clear hgk hL hO hS hM hV hI hR hB
    by_cases hct : c0 < wd
    · obtain ⟨_, _, b1, o1, hA1, hcl1⟩ := L3.out
      have HCl := hid hcl1
      clear hcl1
      have HLl := hid hll
      clear hll
      go_wp2
      go_loopg [11, 12] n1 (fun g2 a t wq => ∃ i : Nat, i ≤ n1 ∧ g2 = n1 - i ∧ t = .int .i64 i ∧ wq = w3 ∧ ((a = .int .i64 (-1) ∧ idxL (colP c0) left 0 = idxL (colP c0) (left.drop i) i) ∨ (∃ k : Nat, a = .int .i64 k ∧ k < n1 ∧ idxL (colP c0) left 0 = k)))
      case atStart => exact ⟨0, by omega, by omega, rfl, rfl, .inl ⟨rfl, rfl⟩⟩
      case round =>
        obtain ⟨i, hi, hg2, rfl, rfl, hcase⟩ := hrel
        have HG2 := hid hg2
        clear hg2
        rcases hcase with ⟨rfl, hidx⟩ | ⟨k, rfl, hkn, hidx⟩
        · have HIdx := hid hidx
          clear hidx
          by_cases hit : i < n1
          · obtain rfl : A1 = some ⟨b1, o1, none⟩ := by rcases hA1 with h | h; omega; exact h
            have hil : i < left.length := by have := HLl.out; omega
            obtain ⟨Ar, cr, hrow, hri⟩ := HCl.out i hit
            have hrg := I3.out.lg _ (getD_mem (d := []) hil)
            rw [hrg.1] at hrow hri
            obtain ⟨_, _, br, orr, hAr, hcr⟩ := hri
            obtain rfl : Ar = some ⟨br, orr, none⟩ := by rcases hAr with h | h; omega; exact h
            have hx := hcr c0 hct
            have HY := hid (fun (h : (left.getD i []).getD c0 0 ≠ 0) => @idxL_yes (colP c0) left i hil (by simpa [colP] using h))
            have HN := hid (fun (h : (left.getD i []).getD c0 0 = 0) => @idxL_no (colP c0) left i hil (by simpa [colP] using h))
            generalize (left.getD i []).getD c0 0 = x at *
            clear hAr hcr hrg hA1
            cases hq : (x == 0)
            · have hq2 : (x != 0) = true := by simpa using hq
              have HQ := hid (show x ≠ 0 by simpa using hq)
              go_wp2
              go_roundg (n1 - (i + 1))
              case measure => have := HG2.out; omega
              case rel => exact ⟨i + 1, by omega, rfl, by go_num, rfl, .inr ⟨i, rfl, hit, by rw [HIdx.out, HY.out HQ.out]⟩⟩
            · have hq2 : (x != 0) = false := by simpa using hq
              have HQ := hid (show x = 0 by simpa using hq)
              go_wp2
              go_roundg (n1 - (i + 1))
              case measure => have := HG2.out; omega
              case rel => exact ⟨i + 1, by omega, rfl, by go_num, rfl, .inl ⟨rfl, by rw [HIdx.out, HN.out HQ.out]⟩⟩
          · have HNone := hid (show idxL (colP c0) left 0 = -1 by rw [HIdx.out, List.drop_eq_nil_of_le (by have := HLl.out; omega)]; rfl)
            obtain ⟨m, hm⟩ : ∃ m, wd - c0 = m + 1 := ⟨wd - c0 - 1, by omega⟩
            have HM := hid hm
            clear hm
            go_wp2
            go_roundg (wd - (c0 + 1))
            case measure => have := HGk.out; omega
            case rel => exact ⟨c0 + 1, A1, n1, c1, left, out, hs, rs, by omega, rfl, by go_num, rfl, hn1, L3.out, O3.out, S3.out, M3.out, V3.out, I3.out.skip HNone.out, by
              have h := R3.out
              rw [HM.out, redH_none HNone.out] at h
              rwa [show wd - (c0 + 1) = m by have := HM.out; omega], B3.out⟩
        · have HIdx := hid hidx
          have hkl : k < left.length := by have := HLl.out; omega
          have hkz : ¬ ((k : Int) < 0) := by omega
          obtain ⟨row, hrowe⟩ : ∃ row, left.getD k [] = row := ⟨_, rfl⟩
          obtain ⟨head, hheade⟩ : ∃ head, scaleL p (invM p (row.getD c0 0)) row = head := ⟨_, rfl⟩
          have hstep := I3.out.step HP.out hct HIdx.out hkl hrowe hheade
          have HStep := hid hstep.1
          have HRow := hid hstep.2.1
          have HHd := hid hstep.2.2.2.2.2.2.1
          have HRg := hid hstep.2.2.2.2.2.2.2
          have HRr := hid hrowe
          have HHe := hid hheade
          clear hidx hstep hrowe hheade
          rcases Nat.lt_or_ge i n1 with hin | hin
          all_goals
            obtain rfl : A1 = some ⟨b1, o1, none⟩ := by rcases hA1 with h | h; omega; exact h
            obtain ⟨Ark, crk, hrowk, hrik⟩ := HCl.out k hkn
            rw [HRr.out, HRg.out.1] at hrowk hrik
            have HRik := hid hrik
            have HRow4 := hid (fun W h => l4Row_ok p Ark wd crk row W hp1 hp31 h (HRg.out.mem1000 hp31))
            rw [HRow.out] at HRow4
            have hsz3 : w.heap.size ≤ wr.heap.size := B3.out.size
            obtain ⟨w3', hw3'⟩ : ∃ w3' : World, w3' = wr := ⟨_, rfl⟩
            subst hw3'
            clear hA1 hrik
            go_wp2_with fail
            refine (HRow4.out _ HRik.out).mono ?_
            rintro e w4 ⟨v13, rfl, ho4, b4⟩
            obtain ⟨g13, c13, rfl, hg13, _, _⟩ := ho4.shape (by rw [HHd.out.1]; omega)
            have H4 := hid ho4
            have B4 := hid b4
            rw [HHd.out.1]
            clear ho4 b4 hrowk HRow4 HRik
            have h13 := H4.out
            rw [HHd.out.1] at h13
            have H13 := hid h13
            have RI13 := hid (show RI w4 (some ⟨g13, 0, none⟩) wd head from by
              obtain ⟨A', c', e, hr⟩ := h13.ri (by rw [HHd.out.1]; omega)
              injection e with e1 e2 e3
              rw [← e1, HHd.out.1] at hr
              exact hr)
            clear h13 H4
            go_wp2
            go_loopg [14, 15] n1 (fun g2 v14 t wq => ∃ (i : Nat) (rr : List Rw), i ≤ n1 ∧ g2 = n1 - i ∧ t = .int .i64 i ∧ RwO wq w4.heap.size v14 rr ∧ RwS wq w4.heap.size rr ∧ rr.map (·.xs) = ((left.take i).eraseIdx k).map (elimL p c0 head) ∧ Below w4.heap.size w4 wq)
            case atStart => exact ⟨0, [], by omega, by omega, rfl, World.ownsRow_lit w4 #[] 0 (Nat.le_refl _) (by decide) rfl, fun r hr => (by cases hr), by simp, below_alloc _ _⟩
            case round =>
              obtain ⟨i, rr, hi, hg2, rfl, hO5, hS5, hM5, hB5⟩ := hrel
              have HG5 := hid hg2
              have O5 := hid hO5
              have S5 := hid hS5
              have M5 := hid hM5
              have B5 := hid hB5
              clear hg2 hO5 hS5 hM5 hB5
              by_cases hit : i < n1
              · have hil : i < left.length := by have := HLl.out; omega
                by_cases hik : i = k
                · have HEq := hid (show ((left.take (i + 1)).eraseIdx k).map (elimL p c0 head) = ((left.take i).eraseIdx k).map (elimL p c0 head) by rw [hik, eraseTo_at left hkl])
                  have hne : ((i : Int) != (k : Int)) = false := by simp; omega
                  clear hik
                  go_wp2
                  go_roundg (n1 - (i + 1))
                  case measure => have := HG5.out; omega
                  case rel => exact ⟨i + 1, rr, by omega, rfl, by go_num, O5.out, S5.out, by rw [HEq.out]; exact M5.out, B5.out⟩
                · have hne : ((i : Int) != (k : Int)) = true := by simp; omega
                  obtain ⟨Ar, cr, hrow, hri⟩ := HCl.out i hit
                  have hrg := I3.out.lg _ (getD_mem (d := []) hil)
                  rw [hrg.1] at hrow hri
                  obtain ⟨_, _, br, orr, hAr, hcr⟩ := hri
                  obtain rfl : Ar = some ⟨br, orr, none⟩ := by rcases hAr with h | h; omega; exact h
                  have hb45 := below_trans B4.out B5.out
                  have f0 := cell_below hb45 hrow
                  have f1 := cell_below hb45 (hcr c0 hct)
                  have HRi5 := hid (show RI wr (some ⟨br, orr, none⟩) wd (left.getD i []) from ⟨hrg.1, by omega, br, orr, .inr rfl, fun j hj => cell_below hb45 (hcr j hj)⟩)
                  have HHr5 := hid (RI13.out.below B5.out)
                  have hx := hrg.get hct
                  have HLe := hid (fun W h1 h2 => l4Less_ok p ((left.getD i []).getD c0 0) (some ⟨br, orr, none⟩) (some ⟨g13, 0, none⟩) wd cr c13 (left.getD i []) head W hp1 hp31 h1 h2 hwd2 hx.1 (by omega) (hrg.le31 hp31) (HHd.out.le31 hp31))
                  rw [lessTo_elim p c0 _ _ hrg.1 HHd.out.1] at HLe
                  have hel : (elimL p c0 head (left.getD i [])).length = wd := by rw [elimL_length _ _ _ _ (by rw [HHd.out.1, hrg.1]), hrg.1]
                  have HEl := hid hel
                  have HNx := hid (show ((left.take (i + 1)).eraseIdx k).map (elimL p c0 head) = ((left.take i).eraseIdx k).map (elimL p c0 head) ++ [elimL p c0 head (left.getD i [])] by rw [eraseTo_next left [] hil hik, List.map_append]; rfl)
                  have HLn := hid (show rr.length < 1000000 by
                    have h1 := congrArg List.length M5.out
                    rw [List.length_map, List.length_map] at h1
                    have h2 : ((left.take i).eraseIdx k).length ≤ i := by have h3 := List.length_eraseIdx_le (left.take i) k; rw [List.length_take] at h3; omega
                    omega)
                  have HBb := hid (show b1 < w4.heap.size ∧ br < w4.heap.size from ⟨Nat.lt_of_lt_of_le (World.block_lt_of_cell? _ _ hrow) B4.out.size, Nat.lt_of_lt_of_le (World.block_lt_of_cell? _ _ (hcr c0 hct)) B4.out.size⟩)
                  clear hAr hcr hrg hb45 hrow hel hik
                  generalize (left.getD i []).getD c0 0 = x at *
                  generalize elimL p c0 head (left.getD i []) = el at *
                  generalize left.getD i [] = li at *
                  go_wp2
                  go_region_held_law (fun w' => w'.cell? ⟨b1, o1 + i, none⟩ = some (.slice (some ⟨br, orr, none⟩) wd cr) ∧ w'.cell? ⟨br, orr + c0, none⟩ = some (.int .i64 x)) (first | with_reducible exact ⟨l0, l1⟩ | with_reducible exact ⟨k0, k1⟩ | go_keep)
                    (first
                      | (go_at_call 102; refine (HLe.out _ (HRi5.out.drewN 1) (HHr5.out.drewN 1)).mono ?_; rintro e w5 ⟨v5, rfl, ho5, b5⟩; obtain ⟨g5, c5, rfl, _, _, _⟩ := ho5.shape (by rw [HEl.out]; omega); rw [HEl.out]; have H5 := hid ho5; have B6 := hid (below_trans B5.out.drew b5); have O6 := hid ((RwO.drewN O5.out 1).below b5); have S6 := hid ((RwS.drewN S5.out 1).below b5); have k0 := cell_below b5 f0; have k1 := cell_below b5 f1; have HZ := hid b5.size; clear ho5 b5)
                      | (refine step_append_row _ _ rfl rfl w4.heap.size _ rr ⟨g5, c5, el⟩ ⟨w5.heap.size, 0, none⟩ rfl rfl (O6.out.alloc _) (by rw [rwV, HEl.out]; exact World.cell?_alloc_at _ _ _ _ rfl) HLn.out (size_alloc B6.out.size _) ?_; intro g cap w6 hown hgrow; have O7 := hid hown; have G7 := hid hgrow; have l0 := hgrow.cell (cell_below (below_alloc w5 _) k0) (fun e => by have h1 : w4.heap.size ≤ b1 := own_base O6.out _ e.symm; have h2 := HBb.out.1; omega); have l1 := hgrow.cell (cell_below (below_alloc w5 _) k1) (fun e => by have h1 : w4.heap.size ≤ br := own_base O6.out _ e.symm; have h2 := HBb.out.2; omega); clear hown hgrow))
                  go_wp2
                  go_roundg (n1 - (i + 1))
                  case measure => have := HG5.out; omega
                  case rel =>
                    refine ⟨i + 1, rr ++ [⟨g5, c5, el⟩], by omega, rfl, by go_num, O7.out, ?_, by rw [List.map_append, M5.out, HNx.out]; rfl, below_append B6.out B6.out.size O6.out G7.out⟩
                    refine RwS.outer (RwS.below (w := w5) ?_ (below_alloc _ _)) (RwO.alloc O6.out _) G7.out
                    intro r hr
                    rcases List.mem_append.1 hr with hr | hr
                    · exact S6.out r hr
                    · obtain rfl : r = ⟨g5, c5, el⟩ := by simpa using hr
                      have h := H5.out
                      rw [show rwV ⟨g5, c5, el⟩ = .slice (some ⟨g5, 0, none⟩) el.length c5 from rfl]
                      exact h.mono B5.out.size
              · obtain rfl : i = n1 := by omega
                have HM5 := hid (show rr.map (·.xs) = (left.eraseIdx k).map (elimL p c0 head) by have h := M5.out; rwa [List.take_of_length_le (by have := HLl.out; omega)] at h)
                have hrrl : rr.length ≤ 100 := by
                  have h1 := congrArg List.length HM5.out
                  rw [List.length_map, List.length_map] at h1
                  have h2 := List.length_eraseIdx_le left k
                  have := HLl.out
                  omega
                obtain ⟨A14, c14, hv14, _⟩ := O5.out.form
                subst hv14
                obtain ⟨A8, c8, hv8, hA8⟩ := O3.out.form
                subst hv8
                obtain ⟨w5, hw5⟩ : ∃ w5 : World, w5 = wr := ⟨_, rfl⟩
                subst hw5
                have hm8 : rs.length = out.length := by rw [← M3.out, List.length_map]
                have HB35 := hid (below_trans B4.out B5.out)
                have P5 := hid (O3.out.below HB35.out)
                have T5 := hid (S3.out.below HB35.out)
                have Q5 := hid (V3.out.below HB35.out)
                have H5 := hid (H13.out.below B5.out)
                have HW5 := hid (below_trans B3.out HB35.out)
                have HZ5 := hid HB35.out.size
                have HL8 := hid (fun q (hq : (Value.slice A8 rs.length c8).ownBlock = some q) => O3.out.lt' hq)
                have HL9 := hid (fun q (hq : u9.ownBlock = some q) => V3.out.lt' hq)
                have HZ4 := hid B4.out.size
                have HM8 := hid hm8
                have hmw : rs.length ≤ wd := by have := redH_len I3.out (by omega); omega
                clear hm8 HG5 HG2 hi hit
                go_wp2
                go_loopg [16] rs.length (fun g2 t wq => ∃ (i : Nat) (N : List Rw), i ≤ rs.length ∧ g2 = rs.length - i ∧ t = .int .i64 i ∧ N.length = i ∧ RwS wq w3'.heap.size N ∧ N.map (·.xs) = (out.take i).map (elimL p c0 head) ∧ RwS wq w.heap.size rs ∧ RwO wq w.heap.size (.slice A8 rs.length c8) (N ++ rs.drop i) ∧ RwO wq w4.heap.size (.slice A14 rr.length c14) rr ∧ RwS wq w4.heap.size rr ∧ OI wq w3'.heap.size (.slice (some ⟨g13, 0, none⟩) wd c13) head ∧ OI wq w.heap.size u9 (hsV hs) ∧ Below w.heap.size w wq ∧ w4.heap.size ≤ wq.heap.size)
                case atStart => exact ⟨0, [], by omega, by omega, rfl, rfl, fun r hr => (by cases hr), by simp, T5.out, P5.out, O5.out, S5.out, H5.out, Q5.out, HW5.out, B5.out.size⟩
                case round =>
                  obtain ⟨i, N, hi, hg2, rfl, hNl, hN, hNm, hRS, hRO, hRR, hRR2, h13, hv9, hBB, hZZ⟩ := hrel
                  have HG6 := hid hg2
                  have HNl := hid hNl
                  have N6 := hid hN
                  have NM6 := hid hNm
                  have S6 := hid hRS
                  have O6 := hid hRO
                  have RO6 := hid hRR
                  have RS6 := hid hRR2
                  have H6 := hid h13
                  have V6 := hid hv9
                  have B6 := hid hBB
                  have Z6 := hid hZZ
                  clear hg2 hNl hN hNm hRS hRO hRR hRR2 h13 hv9 hBB hZZ
                  by_cases hit : i < rs.length
                  · have hlen6 : (N ++ rs.drop i).length = rs.length := by have := HNl.out; simp; omega
                    obtain ⟨g8, cc8, hsl, hg8, hg8l, _, _, hf8, hcell8⟩ := O6.out.shape (by rw [hlen6]; omega)
                    rw [hlen6] at hsl
                    injection hsl with e1 e2 e3
                    subst e1
                    have hco := hcell8 i (by rw [hlen6]; exact hit)
                    have hidx : (N ++ rs.drop i)[i]'(by rw [hlen6]; exact hit) = rs[i] := by
                      rw [List.getElem_append_right (by have := HNl.out; omega)]
                      simp only [List.getElem_drop]
                      congr 1
                      have := HNl.out; omega
                    rw [hidx] at hco
                    have hmem : rs[i] ∈ rs := List.getElem_mem _
                    have hio : i < out.length := by have := HM8.out; omega
                    have hxs : rs[i].xs = out.getD i [] := by
                      rw [← M3.out]
                      simp [List.getD_eq_getElem?_getD, List.getElem?_map, List.getElem?_eq_getElem hit]
                    have hrg := I3.out.og _ (getD_mem (d := []) hio)
                    have hri := S6.out.ri hmem (by rw [hxs, hrg.1]; omega)
                    rw [hxs, hrg.1] at hri
                    have hrv : rwV rs[i] = .slice (some ⟨rs[i].g, 0, none⟩) wd rs[i].cap := by rw [rwV, hxs, hrg.1]
                    rw [hrv] at hco
                    have HRi6 := hid hri
                    obtain ⟨_, _, br, orr, hAr, hcr⟩ := hri
                    have hAr' : (some ⟨rs[i].g, 0, none⟩ : Option Addr) = some ⟨br, orr, none⟩ := by
                      rcases hAr with h | h
                      · omega
                      · exact h
                    injection hAr' with q
                    injection q with q1 q2
                    subst q1 q2
                    have hx1 := hcr c0 hct
                    rw [Nat.zero_add] at hx1
                    have hx := hrg.get hct
                    have HHr6 := hid (show RI wr (some ⟨g13, 0, none⟩) wd head from by
                      obtain ⟨A', c', e, hr⟩ := H6.out.ri (by rw [HHd.out.1]; omega)
                      injection e with e1 e2 e3
                      rw [← e1, HHd.out.1] at hr
                      exact hr)
                    have HLe := hid (fun W (h1 : RI W (some ⟨rs[i].g, 0, none⟩) wd (out.getD i [])) (h2 : RI W (some ⟨g13, 0, none⟩) wd head) => l4Less_ok p ((out.getD i []).getD c0 0) (some ⟨rs[i].g, 0, none⟩) (some ⟨g13, 0, none⟩) wd rs[i].cap c13 (out.getD i []) head W hp1 hp31 h1 h2 hwd2 hx.1 (by omega) (hrg.le31 hp31) (HHd.out.le31 hp31))
                    rw [lessTo_elim p c0 _ _ hrg.1 HHd.out.1] at HLe
                    have hel : (elimL p c0 head (out.getD i [])).length = wd := by rw [elimL_length _ _ _ _ (by rw [HHd.out.1, hrg.1]), hrg.1]
                    have HEl := hid hel
                    have HNx := hid (show (out.take (i + 1)).map (elimL p c0 head) = (out.take i).map (elimL p c0 head) ++ [elimL p c0 head (out.getD i [])] by
                      rw [List.take_succ_eq_append_getElem hio, List.map_append]
                      simp [List.getD_eq_getElem?_getD, List.getElem?_eq_getElem hio])
                    have HDr := hid (show ∀ r : Rw, (N ++ rs.drop i).set i r = (N ++ [r]) ++ rs.drop (i + 1) from fun r => by
                      rw [List.set_append, if_neg (by have := HNl.out; omega), List.drop_eq_getElem_cons hit]
                      have : i - N.length = 0 := by have := HNl.out; omega
                      rw [this, List.set_cons_zero]
                      simp)
                    have H8lt := hid (HL8.out g8 rfl)
                    have HLn6 := hid hlen6
                    have hf8i := hf8 i
                    clear hcell8 hidx hmem hxs hrv hAr hcr hrg hel hlen6 e2 e3 hf8
                    generalize (out.getD i []).getD c0 0 = x at *
                    generalize elimL p c0 head (out.getD i []) = el at *
                    generalize out.getD i [] = li at *
                    generalize rs[i].g = gr at *
                    generalize rs[i].cap = cr at *
                    go_wp2
                    go_region_with (first
                      | (go_at_call 102; refine (HLe.out _ (HRi6.out.drewN 1) (HHr6.out.drewN 1)).mono ?_; rintro e w7 ⟨v7, rfl, ho7, b7⟩; obtain ⟨g7, c7, rfl, hg7, _, _⟩ := ho7.shape (by rw [HEl.out]; omega); rw [HEl.out]; have E7 := hid ho7; have B7 := hid b7; have kc := cell_below b7 hco; have kf : w7.frozen? ⟨g8, i, none⟩ = false := (b7.frozen (by simpa using hg8l)).trans hf8i; clear ho7 b7))
                    all_goals
                      have O7 := hid ((RwO.drewN O6.out 1).below B7.out)
                      have st := O7.out.store HLn6.out i ⟨g7, c7, el⟩
                      rw [show rwV ⟨g7, c7, el⟩ = .slice (some ⟨g7, 0, none⟩) wd c7 by rw [rwV, HEl.out], HDr.out] at st
                      have O8 := hid st.1
                      have G8 := hid st.2
                      have N7 := hid ((RwS.drewN N6.out 1).below B7.out)
                      have S7 := hid ((RwS.drewN S6.out 1).below B7.out)
                      have RO7 := hid ((RwO.drewN RO6.out 1).below B7.out)
                      have RS7 := hid ((RwS.drewN RS6.out 1).below B7.out)
                      have H7 := hid ((show OI (wr.drewN 1) _ _ _ from H6.out).below B7.out)
                      have V7 := hid ((show OI (wr.drewN 1) _ _ _ from V6.out).below B7.out)
                      have BB7 := hid (below_trans (below_drewN B6.out 1) B7.out)
                      have Z7 := hid (Nat.le_trans Z6.out B7.out.size)
                      have E7' := hid (show OI w7 w3'.heap.size (rwV ⟨g7, c7, el⟩) el from by
                        have h := E7.out
                        rw [show rwV ⟨g7, c7, el⟩ = .slice (some ⟨g7, 0, none⟩) el.length c7 from rfl]
                        exact h.mono (Nat.le_trans HZ4.out Z6.out))
                      clear st kc kf hco hx1 hx
                      go_wp2
                      go_roundg (rs.length - (i + 1))
                      case measure => have := HG6.out; omega
                      case rel =>
                        refine ⟨i + 1, N ++ [⟨g7, c7, el⟩], by omega, rfl, by go_num, by have := HNl.out; simp; omega, ?_, by rw [List.map_append, NM6.out, HNx.out]; rfl, S7.out.outer O7.out G8.out, O8.out, RO7.out.hi (fun q hq => by cases hq; exact Nat.lt_of_lt_of_le H8lt.out HZ4.out) G8.out, RS7.out.outer O7.out G8.out, H7.out.kept G8.out (own_ne O7.out H7.out (by decide)), V7.out.kept G8.out (own_ne O7.out V7.out (by decide)), BB7.out.grown G8.out BB7.out.size (fun q hq => by cases hq; exact hg8), Nat.le_trans Z7.out G8.out.size⟩
                        refine RwS.outer (w := w7) ?_ O7.out G8.out
                        intro r hr
                        rcases List.mem_append.1 hr with hr | hr
                        · exact N7.out r hr
                        · obtain rfl : r = ⟨g7, c7, el⟩ := by simpa using hr
                          exact E7'.out
                  · obtain rfl : i = rs.length := by omega
                    have O7 := hid (show RwO wr w.heap.size (.slice A8 rs.length c8) N from by have h := O6.out; rwa [List.drop_length, List.append_nil] at h)
                    have NM7 := hid (show N.map (·.xs) = out.map (elimL p c0 head) by have h := NM6.out; rwa [List.take_of_length_le (by have := HM8.out; omega)] at h)
                    have HLn7 := hid (show N.length < 1000000 by have := HNl.out; omega)
                    have HLn8 := hid (show (hsV hs).length < 17592186044416 by have h1 := I3.out.hl; have h2 := HM8.out; simp [hsV]; omega)
                    have HR13 := hid (show rwV ⟨g13, c13, head⟩ = .slice (some ⟨g13, 0, none⟩) wd c13 by rw [rwV, HHd.out.1])
                    have HZw := hid (show w.heap.size ≤ wr.heap.size from B6.out.size)
                    have HL9' := hid (fun q (hq : u9.ownBlock = some q) => (HL9.out q hq : q < w3'.heap.size))
                    obtain ⟨w8, hw8⟩ : ∃ w8 : World, w8 = wr := ⟨_, rfl⟩
                    subst hw8
                    clear O6 NM6 HG6 hi hit
                    go_upto_region 25 with (fail)
                    generalize hv8 : Value.slice A8 rs.length c8 = v8 at *
                    have HV8 := hid hv8
                    clear hv8
                    go_wp2_with (at_builtin; first
                      | (refine append_row _ _ rfl rfl w.heap.size _ N ⟨g13, c13, head⟩ ⟨w8.heap.size, 0, none⟩ rfl rfl (O7.out.alloc _) (by rw [HR13.out]; exact World.cell?_alloc_at _ _ _ _ rfl) HLn7.out (size_alloc HZw.out _) ?_; intro va wa hown hgrow; have Oa := hid hown; have Ga := hid (show World.grownBy _ wa v8.ownBlock from hgrow); have Va := hid ((V6.out.alloc (.cells #[.slice (some ⟨g13, 0, none⟩) wd c13] 32)).kept Ga.out (own_ne O7.out V6.out (by decide))); clear hown hgrow)
                      | (refine append_int _ _ rfl rfl w.heap.size _ _ (c0 : Int) ⟨wa.heap.size, 0, none⟩ rfl rfl (Va.out.alloc _) (World.cell?_alloc_at _ _ _ _ rfl) HLn8.out (size_alloc (Nat.le_trans HZw.out (Nat.le_trans (by simp) Ga.out.size)) _) ?_; intro vb wb hown hgrow; have Vb := hid hown; have Gb := hid (show World.grownBy _ wb u9.ownBlock from hgrow); clear hown hgrow))
                    have hsa : w8.heap.size ≤ wa.heap.size := Nat.le_trans (by simp) Ga.out.size
                    have hN13 : RwS w8 w3'.heap.size (N ++ [⟨g13, c13, head⟩]) := by
                      intro r hr
                      rcases List.mem_append.1 hr with hr | hr
                      · exact N6.out r hr
                      · obtain rfl : r = ⟨g13, c13, head⟩ := by simpa using hr
                        rw [HR13.out]
                        exact H6.out
                    have Na := (hN13.below (below_alloc w8 (.cells #[.slice (some ⟨g13, 0, none⟩) wd c13] 32))).outer (O7.out.alloc _) Ga.out
                    have Nb := (Na.below (below_alloc wa (.cells #[.int .i64 (c0 : Int)] 3))).hi HL9'.out Gb.out
                    have hlt8 : ∀ q, v8.ownBlock = some q → q < w4.heap.size := fun q hq => Nat.lt_of_lt_of_le (HL8.out q hq) HZ4.out
                    have ROa := ((RO6.out.alloc (.cells #[.slice (some ⟨g13, 0, none⟩) wd c13] 32))).hi hlt8 Ga.out
                    have hlt9 : ∀ q, u9.ownBlock = some q → q < w4.heap.size := fun q hq => Nat.lt_of_lt_of_le (HL9'.out q hq) HZ4.out
                    have ROb := (ROa.alloc (.cells #[.int .i64 (c0 : Int)] 3)).hi hlt9 Gb.out
                    have RSa := (RS6.out.below (below_alloc w8 (.cells #[.slice (some ⟨g13, 0, none⟩) wd c13] 32))).outer (O7.out.alloc _) Ga.out
                    have RSb := (RSa.below (below_alloc wa (.cells #[.int .i64 (c0 : Int)] 3))).hi hlt9 Gb.out
                    have Ob := World.ownsRow.kept (RwO.alloc Oa.out (.cells #[.int .i64 (c0 : Int)] 3)) Gb.out (own_ne Va.out Oa.out (by decide))
                    have Bb := below_append (below_append B6.out B6.out.size O7.out Ga.out) (Nat.le_trans HZw.out hsa) Va.out Gb.out
                    have hls : ∀ r ∈ rr, r.xs.length ≤ 1000000 := fun r hr => by
                      have h1 : r.xs ∈ (left.eraseIdx k).map (elimL p c0 head) := by rw [← HM5.out]; exact List.mem_map.2 ⟨r, hr, rfl⟩
                      obtain ⟨q, hq, hqe⟩ := List.mem_map.1 h1
                      rw [← hqe, elimL_length _ _ _ _ (by rw [HHd.out.1, (I3.out.lg q (List.mem_of_mem_eraseIdx hq)).1]), (I3.out.lg q (List.mem_of_mem_eraseIdx hq)).1]
                      omega
                    obtain ⟨A14', c14', e14, hrri⟩ := RRI_ofS ROb RSb (by omega) hls
                    injection e14 with e1 e2 e3
                    subst e1
                    rw [HM5.out] at hrri
                    have HRRI := hid hrri
                    have NB := hid (Nb.mono hsz3)
                    have OB := hid (show RwO wb w.heap.size va (N ++ [(⟨g13, c13, head⟩ : Rw)]) from Ob)
                    have BB := hid Bb
                    have HVs := hid (show hsV hs ++ [(c0 : Int)] = hsV (hs ++ [c0]) by simp [hsV])
                    obtain ⟨m, hm⟩ : ∃ m, wd - c0 = m + 1 := ⟨wd - c0 - 1, by omega⟩
                    have HMm := hid hm
                    clear hm hrri Nb Na ROa ROb RSa RSb Ob Bb hN13 hls e2 e3
                    go_roundg (wd - (c0 + 1))
                    case measure => have := HGk.out; omega
                    case rel => exact ⟨c0 + 1, A14, rr.length, c14, _, _, hs ++ [c0], N ++ [⟨g13, c13, head⟩], by omega, rfl, by go_num, rfl, hrrl, HRRI.out, OB.out, NB.out, by rw [List.map_append, NM7.out]; rfl, by rw [← HVs.out]; exact Vb.out, HStep.out, by
                      have h := R3.out
                      rw [HMm.out, redH_some HIdx.out HRr.out HHe.out] at h
                      rwa [show wd - (c0 + 1) = m by have := HMm.out; omega], BB.out⟩
    · obtain rfl : c0 = wd := by omega
      have HE := hid (show redH p (c0 - c0) c0 left out hs = (out, hs) by rw [Nat.sub_self]; rfl)
      have HE2 := hid (show res = (out, hs) by rw [← R3.out, HE.out])
      go_wp2
      go_ret2
      exact ⟨_, _, rs, rfl, O3.out, S3.out, by rw [HE2.out]; exact M3.out, by rw [HE2.out]; exact V3.out, B3.out⟩

end Go.Proofs.Ytkhkcgoblibnpaa
