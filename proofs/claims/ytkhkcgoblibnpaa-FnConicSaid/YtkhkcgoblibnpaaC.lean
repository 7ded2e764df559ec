/-
  Contracts: the reference's functions on rows and points.
-/
import Derived.Test.YtkhkcgoblibnpaaB
import Derived.Deep.QuietTactic
import Derived.BigQuiet
namespace Go.Proofs.Ytkhkcgoblibnpaa
open Go.RowKit
set_option linter.unusedVariables false
set_option linter.unusedSimpArgs false

theorem infoInt : (Try.prog.info? 3).map (fun i => (i.zero, i.size, i.bytes)) = some (some (.int .i64 0), 1, 8) := by kernel_rfl

/-- A slice of integers that the call made: it lies in a block of its own. -/
def OI (w : World) (base : Nat) (v : Value) (xs : List Int) : Prop := w.ownsRow base 3 1 v xs.length (xs.map (Value.int .i64))

theorem OI.alloc {w : World} {base : Nat} {v : Value} {xs : List Int} (h : OI w base v xs) (o : Obj) : OI (w.alloc o) base v xs := World.ownsRow.alloc h o

/-- What a row of the call's own is, and how it reads. -/
theorem OI.shape {w : World} {base : Nat} {v : Value} {xs : List Int} (h : OI w base v xs) (h0 : 0 < xs.length) :
    ∃ g cap, v = .slice (some ⟨g, 0, none⟩) xs.length cap ∧ base ≤ g ∧ g < w.heap.size ∧ ∀ j, j < xs.length → w.cell? ⟨g, j, none⟩ = some (.int .i64 (xs.getD j 0)) := by
  have hlt := World.ownsRow.lt h
  rcases h.2 with ⟨_, h1⟩ | ⟨g, cap, cur, hv, hb, _⟩
  · omega
  · subst hv
    refine ⟨g, cap, rfl, hb, (hlt g rfl).2, fun j hj => ?_⟩
    rw [World.ownsRow.cellAt h j (by omega)]
    simp [List.getD_eq_getElem?_getD, List.getElem?_eq_getElem hj]

theorem OI.ri {w : World} {base : Nat} {v : Value} {xs : List Int} (h : OI w base v xs) (hn : xs.length ≤ 17592186044416) : ∃ A c, v = .slice A xs.length c ∧ RI w A xs.length xs := by
  by_cases h0 : 0 < xs.length
  · obtain ⟨g, cap, rfl, _, _, hc⟩ := h.shape h0
    exact ⟨_, cap, rfl, rfl, hn, g, 0, .inr rfl, fun j hj => by rw [Nat.zero_add]; exact hc j hj⟩
  · have hz : xs.length = 0 := by omega
    rcases h.2 with ⟨hv, _⟩ | ⟨g, cap, cur, hv, _⟩
    · exact ⟨none, 0, by rw [hz]; exact hv, rfl, hn, 0, 0, .inl hz, fun j hj => by omega⟩
    · exact ⟨_, cap, hv, rfl, hn, 0, 0, .inl hz, fun j hj => by omega⟩

/-- 'append(out, y)'. -/
theorem append_int {ops : Array Oper} {rest : List Oper} {o : Oper} {a : Act} {Q : Exit → Act → World → Prop} {w : World} (s x : Operand) (hgd : o.guard = none)
    (ho : o.op = .call { callee := .builtin .append, args := #[s, x], argTypes := #[32, 32] }) (base : Nat) (v : Value) (xs : List Int) (y : Int) (ad : Addr)
    (hs : a.eval s = v) (hx : a.eval x = .slice (some ad) 1 1) (hown : OI w base v xs) (hc : w.cell? ad = some (.int .i64 y)) (hn : xs.length < 17592186044416) (hb : base ≤ w.heap.size)
    (h : ∀ v' w', OI w' base v' (xs ++ [y]) → w.grownBy w' v.ownBlock → wpList Try.prog ops Q rest (a.put o.dst v') w') : wpList Try.prog ops Q (o :: rest) a w := by
  obtain ⟨i0, hi, hz0, hz1, hz2⟩ := info_parts infoInt
  refine wpList_append_own w hgd s x 32 ho base 3 i0 (.int .i64 0) 1 8 Try.underlying32 hi hz0 hz1 hz2 rfl (by decide) v _ _ hs hown ad 1 1 [.int .i64 y] hx rfl ?_ ?_ (by unfold maxLen; omega) (by omega) hb ?_
  · intro j u hj
    match j, hj with
    | 0, hj => simp at hj; subst hj; simpa [Addr.add] using hc
  · intro u hu; simp at hu; subst hu; rfl
  · intro v' w' h1 h2 _
    refine h v' w' ?_ h2
    unfold OI
    simpa using h1

theorem l4Turned_ok (p n : Int) (w : World) (hp : 1 ≤ p) (hp2 : p ≤ 31) (hn : 0 ≤ n) (hn2 : n ≤ 1000) :
    Calls Try.prog 79 #[.int .i64 p, .int .i64 n] w fun e w' => e = .returned (.int .i64 (turned p n)) ∧ w = w' := by
  go_enter Try.func79, Try.ntmps79
  go_wp2
  go_loop [5] (fun t => ∃ k : Int, 1 ≤ k ∧ k ≤ p ∧ t = .int .i64 k ∧ turned p n = turnedF p n (p - k).toNat k) (fun t => (p - intOf t).toNat)
  case atStart => exact ⟨1, by omega, by omega, rfl, rfl⟩
  case round =>
    obtain ⟨k, h1, h2, rfl, he⟩ := hrel
    have H := hid he
    clear he
    by_cases hlt : k < p
    · have hm := mul_bd (show 0 ≤ k by omega) hn (show k ≤ 31 by omega) hn2
      have hm1 := hm.1
      have hm2 := hm.2
      clear hm
      obtain ⟨f, hf⟩ : ∃ f : Nat, (p - k).toNat = f + 1 := ⟨(p - k).toNat - 1, by omega⟩
      have HF := hid hf
      clear hf
      cases ht : (k * n % p == 1)
      · have HT := hid ht
        go_wp2
        go_round
        case rel => exact ⟨k + 1, by omega, by omega, rfl, by rw [H.out, HF.out, turnedF, HT.out]; simp only [Bool.false_eq_true, if_false]; congr 1; have := HF.out; omega⟩
        case measure => simp [intOf]; omega
      · have HT := hid ht
        go_wp2
        go_ret
        exact ⟨by rw [H.out, HF.out, turnedF, HT.out]; rfl, rfl⟩
    · have hz : (p - k).toNat = 0 := by omega
      have HZ := hid hz
      clear hz
      go_wp2
      go_ret
      exact ⟨by rw [H.out, HZ.out]; rfl, rfl⟩

theorem l4Row_ok (p : Int) (A : Option Addr) (n c : Nat) (row : List Int) (w : World) (hp : 1 ≤ p) (hp2 : p ≤ 31) (hr : RI w A n row) (hx : ∀ x ∈ row, 0 ≤ x ∧ x ≤ 1000) :
    Calls Try.prog 50 #[.int .i64 p, .slice A n c] w fun e w' => ∃ v, e = .returned v ∧ OI w' w.heap.size v (rowS p row) ∧ Below w.heap.size w w' := by
  obtain ⟨hl, hn, b, off, hA, hc⟩ := hr
  have HC := hid hc
  have HX := hid hx
  clear hc hx
  go_enter Try.func50, Try.ntmps50
  go_wp2
  go_loopw [5, 6, 7] (fun v t i wr => ∃ k : Nat, k ≤ n ∧ i = .int .i64 k ∧ t = .int .i64 (rowN p row k) ∧ OI wr w.heap.size v (rowTo p row k) ∧ Below w.heap.size w wr) (fun _ _ i _ => n - (intOf i).toNat)
  case atStart => exact ⟨0, by omega, rfl, rfl, World.ownsRow_lit w #[] 0 (Nat.le_refl _) (by decide) rfl, below_alloc _ _⟩
  case round =>
    obtain ⟨k, hk, rfl, rfl, hown, hb⟩ := hrel
    have HO := hid hown
    have HB := hid hb
    clear hown hb
    have hr1 := (rowN_range p row hp k).1
    have hr2 := (rowN_range p row hp k).2
    by_cases hlt : k < n
    · obtain rfl : A = some ⟨b, off, none⟩ := by rcases hA with h | h; omega; exact h
      have hcx : wr.cell? ⟨b, off + k, none⟩ = some (.int .i64 (row.getD k 0)) := cell_below HB.out (HC.out k hlt)
      have hxx : 0 ≤ row.getD k 0 ∧ row.getD k 0 ≤ 1000 := HX.out _ (by rw [getD_lt (by omega)]; exact List.getElem_mem _)
      have hx1 := hxx.1
      have hx2 := hxx.2
      have hs1 := (rowN_range p row hp (k + 1)).1
      have hs2 := (rowN_range p row hp (k + 1)).2
      have HS := hid (show rowN p row (k + 1) = if rowN p row k == 0 then turned p (row.getD k 0) else rowN p row k from rfl)
      have HT := hid (rowTo_succ p row k)
      have HL := hid (show (rowTo p row k).length < 17592186044416 by rw [rowTo_length]; omega)
      generalize row.getD k 0 = y at *
      generalize hg : rowN p row k = m at *
      generalize hg1 : rowN p row (k + 1) = m1 at *
      have hmm := mul_bd hx1 hs1 hx2 (show m1 ≤ 31 by omega)
      have hm1 := hmm.1
      have hm2 := hmm.2
      clear hxx hmm hg hA hl
      have HG1 := hid hg1
      clear hg1
      cases hq : (m == 0)
      · have HQ := hid hq
        obtain rfl : m1 = m := by rw [HS.out, HQ.out]; rfl
        go_wp2_with (at_builtin; refine append_int _ _ rfl rfl w.heap.size _ _ _ ⟨wr.heap.size, 0, none⟩ rfl rfl (HO.out.alloc _) (World.cell?_alloc_at _ _ _ _ rfl) HL.out (size_alloc HB.out.size _) ?_; intro v' w1 hown hgrow; have HO1 := hid hown; have HG := hid hgrow; clear hown hgrow)
        go_roundw
        case rel => exact ⟨k + 1, by omega, by go_num, by rw [HG1.out], by rw [HT.out]; exact HO1.out, below_append HB.out HB.out.size HO.out HG.out⟩
        case measure => simp [intOf]; omega
      · have HQ := hid hq
        have HM := hid (show m1 = turned p y by rw [HS.out, HQ.out]; rfl)
        go_wp2_with (first | (go_at_call 79; refine (l4Turned_ok p y wr hp hp2 hx1 hx2).mono ?_; rintro e w' ⟨rfl, rfl⟩; rw [← HM.out]) | (at_builtin; refine append_int _ _ rfl rfl w.heap.size _ _ _ ⟨wr.heap.size, 0, none⟩ rfl rfl (HO.out.alloc _) (World.cell?_alloc_at _ _ _ _ rfl) HL.out (size_alloc HB.out.size _) ?_; intro v' w1 hown hgrow; have HO1 := hid hown; have HG := hid hgrow; clear hown hgrow))
        go_roundw
        case rel => exact ⟨k + 1, by omega, by go_num, by rw [HG1.out], by rw [HT.out]; exact HO1.out, below_append HB.out HB.out.size HO.out HG.out⟩
        case measure => simp [intOf]; omega
    · obtain rfl : k = n := by omega
      go_wp2
      go_ret
      exact ⟨_, rfl, by unfold rowS; rw [hl]; exact HO.out, HB.out⟩

theorem l4Zero_ok (A : Option Addr) (n c : Nat) (xs : List Int) (w : World) (hr : RI w A n xs) :
    Calls Try.prog 49 #[.slice A n c] w fun e w' => e = .returned (.bool (zeroB xs)) ∧ w = w' := by
  obtain ⟨hl, hn, b, off, hA, hc⟩ := hr
  have HC := hid hc
  clear hc
  go_enter Try.func49, Try.ntmps49
  go_wp2
  go_loop [3] (fun t => ∃ k : Nat, k ≤ n ∧ t = .int .i64 k ∧ zeroB xs = zeroB (xs.drop k)) (fun t => n - (intOf t).toNat)
  case atStart => exact ⟨0, by omega, rfl, rfl⟩
  case round =>
    obtain ⟨k, hk, rfl, hf⟩ := hrel
    have HF := hid hf
    clear hf
    by_cases hlt : k < n
    · obtain rfl : A = some ⟨b, off, none⟩ := by rcases hA with h | h; omega; exact h
      have hcx := HC.out k hlt
      have HY := hid (@zeroB_drop_yes xs k (by omega))
      have HN := hid (@zeroB_drop_no xs k (by omega))
      generalize hy : xs.getD k 0 = y at *
      clear hy
      cases hq : (y == 0)
      · have HQ := hid hq
        have hq2 : (y != 0) = true := by simpa using hq
        go_wp2
        go_ret
        exact ⟨by rw [HF.out, HY.out HQ.out]; rfl, rfl⟩
      · have HQ := hid hq
        have hq2 : (y != 0) = false := by simpa using hq
        clear hq
        go_wp2
        go_round
        case rel => exact ⟨k + 1, by omega, by go_num, by rw [HF.out, HN.out HQ.out]⟩
        case measure => simp [intOf]; omega
    · go_wp2
      go_ret
      exact ⟨by rw [HF.out, List.drop_eq_nil_of_le (by omega)]; rfl, rfl⟩

theorem l4Is_ok (p x y z : Int) (w : World) (hp : 1 ≤ p) (hp2 : p ≤ 31) :
    Calls Try.prog 77 #[.int .i64 p, .agg #[.int .i64 x, .int .i64 y, .int .i64 z]] w fun e w' => e = .returned (.bool (l4IsB p x y z)) ∧ Below w.heap.size w w' := by
  have hbx := RI_box3 w x y z 35
  have HR := hid hbx
  obtain ⟨_, _, b, off, hA, hc⟩ := hbx
  have e0 : w.heap.size = b ∧ 0 = off := by simpa using hA
  obtain ⟨rfl, rfl⟩ := e0
  have HC := hid hc
  clear hc hA
  go_enter Try.func77, Try.ntmps77
  go_wp2
  go_loop [5] (fun t => ∃ k : Nat, k ≤ 3 ∧ t = .int .i64 k ∧ [x, y, z].all (inP p) = ([x, y, z].drop k).all (inP p)) (fun t => 3 - (intOf t).toNat)
  case atStart => exact ⟨0, by omega, rfl, rfl⟩
  case round =>
    obtain ⟨k, hk, rfl, hf⟩ := hrel
    have HF := hid hf
    clear hf
    by_cases hlt : k < 3
    · have hcx := HC.out k hlt
      rw [Nat.zero_add] at hcx
      have HY := hid (@all_drop_yes (inP p) [x, y, z] k (by simpa using hlt))
      have HN := hid (@all_drop_no (inP p) [x, y, z] k (by simpa using hlt))
      generalize hy : [x, y, z].getD k 0 = u at *
      clear hy
      have HIn := hid (l6In_ok u 0 (p - 1) (w.alloc (.cells #[.int .i64 x, .int .i64 y, .int .i64 z] 35)))
      cases hq : inP p u
      · have HQ := hid hq
        clear hq
        go_wp2_with (go_at_call 96; refine (HIn.out).mono ?_; rintro e w' ⟨rfl, rfl⟩; rw [show inB u 0 (p - 1) = false from HQ.out])
        go_ret
        exact ⟨by rw [l4IsB, HF.out, HN.out HQ.out]; rfl, below_alloc _ _⟩
      · have HQ := hid hq
        clear hq
        go_wp2_with (go_at_call 96; refine (HIn.out).mono ?_; rintro e w' ⟨rfl, rfl⟩; rw [show inB u 0 (p - 1) = true from HQ.out])
        go_round
        case rel => exact ⟨k + 1, by omega, by go_num, by rw [HF.out, HY.out HQ.out]⟩
        case measure => simp [intOf]; omega
    · have HB := hid (show l4IsB p x y z = l4TailB p x y z by rw [l4IsB, HF.out, List.drop_eq_nil_of_le (by simp; omega)]; rfl)
      have hall : [x, y, z].all (inP p) = true := by rw [HF.out, List.drop_eq_nil_of_le (by simp; omega)]; rfl
      have HX := hid (all_inP_bd hall)
      have HT := hid (show l4TailB p x y z = (((!zeroB (rowS p [x, y, z]) && ((rowS p [x, y, z]).getD 0 0 == x)) && ((rowS p [x, y, z]).getD 1 0 == y)) && ((rowS p [x, y, z]).getD 2 0 == z)) from rfl)
      have HW := hid (l4Row_ok p _ 3 3 [x, y, z] _ hp hp2 HR.out (fun q hq => by have := HX.out q hq; omega))
      have hlen : (rowS p [x, y, z]).length = 3 := rowS_length p [x, y, z]
      generalize rowS p [x, y, z] = row at *
      have HL := hid hlen
      clear hall hlen HC HF
      go_wp2_with (go_at_call 50; refine (HW.out).mono ?_; rintro e w1 ⟨v, rfl, hown, hb⟩; have HO := hid hown; have HBl := hid hb; clear hown hb)
      have hlt3 : 0 < row.length := by have := HL.out; omega
      obtain ⟨g, cap, hv, hg, hglt, hcell⟩ := HO.out.shape hlt3
      rw [HL.out] at hv
      subst hv
      have c0 := hcell 0 (by have := HL.out; omega)
      have c1 := hcell 1 (by have := HL.out; omega)
      have c2 := hcell 2 (by have := HL.out; omega)
      have b0 : w1.cell? ⟨w.heap.size, 0, none⟩ = some (.int .i64 x) := cell_below HBl.out (World.cell?_alloc_at _ _ _ _ rfl)
      have b1 : w1.cell? ⟨w.heap.size, 1, none⟩ = some (.int .i64 y) := cell_below HBl.out (World.cell?_alloc_at _ _ _ _ rfl)
      have b2 : w1.cell? ⟨w.heap.size, 2, none⟩ = some (.int .i64 z) := cell_below HBl.out (World.cell?_alloc_at _ _ _ _ rfl)
      have HRI := hid (show RI w1 (some ⟨g, 0, none⟩) 3 row from ⟨HL.out, by omega, g, 0, .inr rfl, fun j hj => by rw [Nat.zero_add]; exact hcell j (by have := HL.out; omega)⟩)
      clear hcell hlt3 HW
      generalize row.getD 0 0 = r0 at *
      generalize row.getD 1 0 = r1 at *
      generalize row.getD 2 0 = r2 at *
      have HZ := hid (fun W hW => l4Zero_ok (some ⟨g, 0, none⟩) 3 cap row W hW)
      cases hz : zeroB row
      · rw [hz] at HZ HT
        cases hq0 : (r0 == x)
        · have HQ0 := hid hq0
          go_quiet ((go_at_call 49; exact quiet_same (HZ.out _ (HRI.out.drewN _))))
          go_wp2
          go_ret
          exact ⟨by rw [HB.out, HT.out, HQ0.out]; rfl, below_drewN (below_alloc_then HBl.out) _⟩
        · cases hq1 : (r1 == y)
          · have HQ0 := hid hq0
            have HQ1 := hid hq1
            go_quiet ((go_at_call 49; exact quiet_same (HZ.out _ (HRI.out.drewN _))))
            go_wp2
            go_ret
            exact ⟨by rw [HB.out, HT.out, HQ0.out, HQ1.out]; rfl, below_drewN (below_alloc_then HBl.out) _⟩
          · have HQ0 := hid hq0
            have HQ1 := hid hq1
            go_quiet ((go_at_call 49; exact quiet_same (HZ.out _ (HRI.out.drewN _))))
            go_wp2
            go_ret
            exact ⟨by rw [HB.out, HT.out, HQ0.out, HQ1.out]; rfl, below_drewN (below_alloc_then HBl.out) _⟩
      · rw [hz] at HZ HT
        go_quiet ((go_at_call 49; exact quiet_same (HZ.out _ (HRI.out.drewN _))))
        go_wp2
        go_ret
        exact ⟨by rw [HB.out, HT.out]; rfl, below_drewN (below_alloc_then HBl.out) _⟩



theorem specPointIn_ok (p x y z : Int) (w : World) :
    Calls Try.prog 47 #[.int .i64 p, .agg #[.int .i64 x, .int .i64 y, .int .i64 z]] w fun e w' => e = .returned (.bool (specPointB p x y z)) ∧ Below w.heap.size w w' := by
  cases hz : isPrimeB p
  · have HZ := hid hz
    clear hz
    go_enter Try.func47, Try.ntmps47
    go_wp2_with (go_at_call 76; refine (specPrimeIn_ok p _).mono ?_; rintro e w' ⟨rfl, rfl⟩; rw [HZ.out])
    go_ret
    exact ⟨by rw [specPointB, HZ.out]; rfl, below_alloc _ _⟩
  · have HZ := hid hz
    have hbd := isPrimeB_bd hz
    clear hz
    go_enter Try.func47, Try.ntmps47
    go_wp2_with (first | (go_at_call 76; refine (specPrimeIn_ok p _).mono ?_; rintro e w' ⟨rfl, rfl⟩; rw [HZ.out]) | (go_at_call 77; refine (l4Is_ok p x y z _ (by omega) (by omega)).mono ?_; rintro e w1 ⟨rfl, hb⟩))
    go_ret
    exact ⟨by rw [specPointB, HZ.out]; rfl, below_alloc_then hb⟩

end Go.Proofs.Ytkhkcgoblibnpaa
