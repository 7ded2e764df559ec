/-
  Contracts: the word that moves back, of both sides.
-/
import Derived.Test.YtcffaeepanhpfaaWd
import Derived.Test.YtcffaeepanhpfaaS5
namespace Go.Proofs.Ytcffaeepanhpfaa
open Go.RowKit
set_option linter.unusedVariables false
set_option linter.unusedSimpArgs false

theorem OI.ri2 {w : World} {base : Nat} {v : Value} {xs : List Int} (h : OI w base v xs) (hn : xs.length ≤ 17592186044416) : ∃ A c, v = .slice A xs.length c ∧ (A = none → c = 0) ∧ RI w A xs.length xs := by
  obtain ⟨A, c, e, hr⟩ := h.ri hn
  refine ⟨A, c, e, fun hA => ?_, hr⟩
  subst hA
  rcases h.2 with ⟨hv, _⟩ | ⟨g, cap, cur, hv, _⟩
  · rw [e] at hv; injection hv
  · rw [e] at hv; injection hv with h1; cases h1
def wbV (xs : List Int) : List Int := if wordB xs then xs.reverse else []
theorem OI_none (w : World) (base : Nat) : OI w base (.slice none 0 0) [] := ⟨rfl, .inl ⟨rfl, rfl⟩⟩

set_option maxRecDepth 100000 in
theorem Reverse_any (base : Nat) (v : Value) (xs : List Int) (w : World) (h : OI w base v xs) (hs : xs.length ≤ 1000000) :
    Calls Try.prog 36 #[v] w fun e w' => e = .returned (.tuple #[]) ∧ OI w' base v xs.reverse ∧ w.grownBy w' v.ownBlock := by
  have h0 := h
  rcases h.2 with ⟨hv, hx⟩ | ⟨g, cap, cur, hv, _⟩
  · subst hv
    obtain rfl : xs = [] := by simpa using hx
    go_enter Try.func36, Try.ntmps36
    go_wp2
    go_loopg [2, 3] 0 (fun _ s2 s3 wr => s2 = .int .i64 0 ∧ s3 = .int .i64 (-1) ∧ wr = w)
    case atStart => exact ⟨rfl, rfl, rfl⟩
    case round =>
      obtain ⟨rfl, rfl, rfl⟩ := hrel
      go_wp2
      go_end0
      exact ⟨rfl, h0, World.grownBy.refl _ _⟩
  · subst hv
    exact Reverse_ok base g _ cap xs w h0 rfl hs

set_option maxRecDepth 100000 in
set_option maxHeartbeats 2000000 in
theorem implWordBack_ok (base : Nat) (v0 : Value) (xs : List Int) (w : World) (h : OI w base v0 xs) (hs : xs.length ≤ 100000) :
    Calls Try.prog 17 #[v0] w fun e w' => ∃ v, e = .returned (.tuple #[v, .bool (wordB xs)]) ∧ OI w' w.heap.size v (wbV xs) ∧ Below w.heap.size w w' := by
  obtain ⟨A, c, rfl, hA, hr⟩ := h.ri2 (by omega)
  have HR := hid hr
  have HA := hid hA
  have HW := hid (show wbV xs = if wordB xs then xs.reverse else [] from rfl)
  have HC := hid (fun W (k : RI W A xs.length xs) => isWord_ok A xs.length c xs W k)
  have HLn := hid (show ([] : List Int).length + xs.length < 1000000 by simp; omega)
  clear h hr hA
  cases hwd : wordB xs
  · have HF := hid (show wbV xs = [] by rw [HW.out, hwd]; rfl)
    rw [hwd] at HC
    clear hwd HW
    go_enter Try.func17, Try.ntmps17
    go_wp2_with fail
    refine (HC.out _ HR.out).mono ?_
    rintro e w1 ⟨rfl, hw⟩
    subst hw
    go_wp2
    go_ret2
    exact ⟨_, rfl, by rw [HF.out]; exact OI_none _ _, Below.refl _ _⟩
  · have HF := hid (show wbV xs = xs.reverse by rw [HW.out, hwd]; rfl)
    rw [hwd] at HC
    clear hwd HW
    go_enter Try.func17, Try.ntmps17
    go_wp2_with fail
    refine (HC.out _ HR.out).mono ?_
    rintro e w1 ⟨rfl, hw⟩
    subst hw
    have HO := hid (show OI (w.alloc (.cells #[] 3)) w.heap.size (.slice (some ⟨w.heap.size, 0, none⟩) 0 0) [] from World.ownsRow_lit w #[] 0 (Nat.le_refl _) (by decide) rfl)
    go_wp2_with (at_builtin; refine append_ints _ _ rfl rfl w.heap.size _ [] xs A _ c rfl rfl HO.out (HR.out.alloc _) HA.out HLn.out (size_alloc (Nat.le_refl _) _) ?_; intro v' w2 hown hgrow; have HO2 := hid hown; have HG2 := hid hgrow; clear hown hgrow)
    have B2 := hid ((below_alloc w (.cells #[] 3)).grown HG2.out (by simp) (fun k hk => by cases hk; exact Nat.le_refl _))
    rw [List.nil_append] at HO2
    refine (Reverse_any w.heap.size v' xs _ HO2.out (by omega)).mono ?_
    rintro e w3 ⟨rfl, ho3, hg3⟩
    have HO3 := hid ho3
    have B3 := hid (B2.out.grown hg3 B2.out.size (fun k hk => own_base HO2.out k hk))
    clear ho3 hg3
    go_wp2
    go_ret2
    exact ⟨_, rfl, by rw [HF.out]; exact HO3.out, B3.out⟩

set_option maxRecDepth 100000 in
set_option maxHeartbeats 2000000 in
theorem specWordBack_ok (base : Nat) (v0 : Value) (xs : List Int) (w : World) (h : OI w base v0 xs) (hs : xs.length ≤ 100000) :
    Calls Try.prog 18 #[v0] w fun e w' => ∃ v, e = .returned (.tuple #[v, .bool (wordB xs)]) ∧ OI w' w.heap.size v (wbV xs) ∧ Below w.heap.size w w' := by
  obtain ⟨A, c, rfl, hA, hr⟩ := h.ri2 (by omega)
  have HW := hid (show wbV xs = if wordB xs then xs.reverse else [] from rfl)
  have HR0 := hid (hr.alloc (.cells #[] 3))
  have HC := hid (fun W (k : RI W A xs.length xs) => l3Word_ok A xs.length c xs W k)
  have HO := hid (show OI (w.alloc (.cells #[] 3)) w.heap.size (.slice (some ⟨w.heap.size, 0, none⟩) 0 0) [] from World.ownsRow_lit w #[] 0 (Nat.le_refl _) (by decide) rfl)
  obtain ⟨_, _, bk, off, hAb, hcl⟩ := hr
  have HCl := hid hcl
  clear h hA hcl
  cases hwd : wordB xs
  · have HF := hid (show wbV xs = [] by rw [HW.out, hwd]; rfl)
    rw [hwd] at HC
    clear hwd HW
    go_enter Try.func18, Try.ntmps18
    go_wp2_with fail
    refine (HC.out _ HR0.out).mono ?_
    rintro e w1 ⟨rfl, hw⟩
    subst hw
    go_wp2
    go_ret2
    exact ⟨_, rfl, by rw [HF.out]; exact HO.out, below_alloc _ _⟩
  · have HF := hid (show wbV xs = xs.reverse by rw [HW.out, hwd]; rfl)
    rw [hwd] at HC
    clear hwd HW
    go_enter Try.func18, Try.ntmps18
    go_wp2_with fail
    refine (HC.out _ HR0.out).mono ?_
    rintro e w1 ⟨rfl, hw⟩
    subst hw
    go_wp2
    go_loopg [4, 5] xs.length (fun gk v t wr => ∃ i : Nat, i ≤ xs.length ∧ gk = i ∧ t = .int .i64 ((i : Int) - 1) ∧ OI wr w.heap.size v (xs.drop i).reverse ∧ Below w.heap.size w wr)
    case atStart => exact ⟨xs.length, Nat.le_refl _, rfl, rfl, by rw [List.drop_length]; exact HO.out, below_alloc _ _⟩
    case round =>
      obtain ⟨i, hi, hgk, rfl, ho, hb⟩ := hrel
      have HGk := hid hgk
      clear hgk
      have HO1 := hid ho
      have HB1 := hid hb
      clear ho hb
      by_cases h0 : i = 0
      · subst h0
        go_wp2
        go_ret2
        exact ⟨_, rfl, by rw [HF.out]; exact HO1.out, HB1.out⟩
      · obtain ⟨j, rfl⟩ : ∃ j, i = j + 1 := ⟨i - 1, by omega⟩
        obtain rfl : A = some ⟨bk, off, none⟩ := by rcases hAb with h | h; omega; exact h
        have hcx : wr.cell? ⟨bk, off + j, none⟩ = some (.int .i64 (xs.getD j 0)) := cell_below HB1.out (HCl.out j (by omega))
        have HE := hid (show (xs.drop (j + 1)).reverse ++ [xs.getD j 0] = (xs.drop j).reverse by rw [List.drop_eq_getElem_cons (show j < xs.length by omega), List.reverse_cons, getD_lt (by omega)])
        have HLn := hid (show ((xs.drop (j + 1)).reverse).length < 17592186044416 by simp; omega)
        have hjz : ((j + 1 : Nat) : Int) - 1 = (j : Int) := by omega
        rw [hjz]
        generalize xs.getD j 0 = y at *
        clear hAb hjz
        go_wp2_with (at_builtin; refine append_int _ _ rfl rfl w.heap.size _ _ y ⟨wr.heap.size, 0, none⟩ rfl rfl (HO1.out.alloc _) (World.cell?_alloc_at _ _ _ _ rfl) HLn.out (size_alloc HB1.out.size _) ?_; intro v' w3 hown hgrow; have HO3 := hid hown; have HG3 := hid hgrow; clear hown hgrow)
        go_roundg j
        case measure => have := HGk.out; omega
        case rel => exact ⟨j, by omega, rfl, by go_num, by rw [← HE.out]; exact HO3.out, below_append HB1.out HB1.out.size HO1.out HG3.out⟩

end Go.Proofs.Ytcffaeepanhpfaa
