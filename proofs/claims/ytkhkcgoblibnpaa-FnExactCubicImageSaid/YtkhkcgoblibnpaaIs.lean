/-
  Contracts: the image of a point under cubics, of the reference.
-/
import Derived.Test.YtkhkcgoblibnpaaIm
import Derived.Maps.AppendAt
namespace Go.Proofs.Ytkhkcgoblibnpaa
open Go.RowKit
set_option linter.unusedVariables false
set_option linter.unusedSimpArgs false

/-- 'append(xs, x)', and where the outcome lies. -/
theorem append_int_at {ops : Array Oper} {rest : List Oper} {o : Oper} {a : Act} {Q : Exit → Act → World → Prop} {w : World} (s x : Operand) (hgd : o.guard = none)
    (ho : o.op = .call { callee := .builtin .append, args := #[s, x], argTypes := #[32, 32] }) (base : Nat) (v : Value) (xs : List Int) (y : Int) (ad : Addr)
    (hs : a.eval s = v) (hx : a.eval x = .slice (some ad) 1 1) (hown : OI w base v xs) (hc : w.cell? ad = some (.int .i64 y)) (hn : xs.length < 17592186044416) (hb : base ≤ w.heap.size)
    (h : ∀ v' w', OI w' base v' (xs ++ [y]) → w.grownBy w' v.ownBlock → (v'.ownBlock = v.ownBlock ∨ v'.ownBlock = some w.heap.size) → wpList Try.prog ops Q rest (a.put o.dst v') w') : wpList Try.prog ops Q (o :: rest) a w := by
  obtain ⟨i0, hi, hz0, hz1, hz2⟩ := info_parts infoInt
  refine wpList_append_own_at w hgd s x 32 ho base 3 i0 (.int .i64 0) 1 8 Try.underlying32 hi hz0 hz1 hz2 rfl (by decide) v _ _ hs hown ad 1 1 [.int .i64 y] hx rfl ?_ ?_ (by unfold maxLen; omega) (by omega) hb ?_
  · intro j u hj
    match j, hj with
    | 0, hj => simp at hj; subst hj; simpa [Addr.add] using hc
  · intro u hu; simp at hu; subst hu; rfl
  · intro v' w' h1 h2 _ h4
    refine h v' w' ?_ h2 h4
    unfold OI
    simpa using h1

theorem OI.get10 {w : World} {b n c : Nat} {A : Option Addr} {xs : List Int} (h : OI w b (.slice A n c) xs) (hn : xs.length = n) : n ≤ 17592186044416 → RI w A n xs := fun h2 => by
  obtain ⟨A', c', e, hr⟩ := h.ri (by omega)
  injection e with e1 e2 e3
  subst e1
  rw [hn] at hr
  exact hr
set_option maxRecDepth 100000 in
set_option maxHeartbeats 4000000 in
theorem l5Image_ok (p : Int) (A : Option Addr) (n c : Nat) (rows : List (List Int)) (x y z : Int) (w : World) (hp : 2 ≤ p) (hp2 : p ≤ 31) (hr : RRI w A n rows) (hw : ∀ r ∈ rows, Rg p 10 r) (hn2 : n ≤ 100)
    (hx : 0 ≤ x ∧ x ≤ 31) (hy : 0 ≤ y ∧ y ≤ 31) (hz : 0 ≤ z ∧ z ≤ 31) :
    Calls Try.prog 48 #[.int .i64 p, .slice A n c, .agg #[.int .i64 x, .int .i64 y, .int .i64 z]] w fun e w' => ∃ v, e = .returned v ∧ OI w' w.heap.size v (imR p rows (x, y, z)) ∧ Below w.heap.size w w' := by
  have HB0 := hid (below_alloc w (.cells #[.int .i64 x, .int .i64 y, .int .i64 z] 35))
  have HR := hid (hr.below HB0.out)
  have HSz := hid (show (w.alloc (.cells #[.int .i64 x, .int .i64 y, .int .i64 z] 35)).heap.size = w.heap.size + 1 by simp)
  have hl := hr.1
  have HW := hid hw
  have HX := hid hx
  have HY := hid hy
  have HZ := hid hz
  have c0 : ((w.alloc (.cells #[.int .i64 x, .int .i64 y, .int .i64 z] 35)).alloc (.cells #[] 3)).cell? ⟨w.heap.size, 0, none⟩ = some (.int .i64 x) := cell_below (below_alloc _ _) (by rw [World.cell?_alloc_at _ _ _ _ rfl]; rfl)
  have c1 : ((w.alloc (.cells #[.int .i64 x, .int .i64 y, .int .i64 z] 35)).alloc (.cells #[] 3)).cell? ⟨w.heap.size, 1, none⟩ = some (.int .i64 y) := cell_below (below_alloc _ _) (by rw [World.cell?_alloc_at _ _ _ _ rfl]; rfl)
  have c2 : ((w.alloc (.cells #[.int .i64 x, .int .i64 y, .int .i64 z] 35)).alloc (.cells #[] 3)).cell? ⟨w.heap.size, 2, none⟩ = some (.int .i64 z) := cell_below (below_alloc _ _) (by rw [World.cell?_alloc_at _ _ _ _ rfl]; rfl)
  clear hr hw hx hy hz
  go_enter Try.func48, Try.ntmps48
  go_wp2_with fail
  rw [← HSz.out]
  generalize w.alloc (.cells #[.int .i64 x, .int .i64 y, .int .i64 z] 35) = W at *
  refine (l5Products_ok p x y z _ hp hp2 HX.out HY.out HZ.out).mono ?_
  rintro e w1 ⟨v1, rfl, o1, b1⟩
  obtain ⟨A1, c1', rfl, r1⟩ := o1.ri (by rw [prodTo_length]; omega)
  rw [prodTo_length] at r1 ⊢
  have R1 := hid o1
  have N1 := hid (show ∀ k, (Value.slice A1 10 c1').ownBlock = some k → some k ≠ some W.heap.size from fun k hk e => by
    have := own_base o1 k (by rw [prodTo_length]; exact hk)
    injection e with e
    simp at this; omega)
  rw [prodTo_length] at R1
  have hb1 := b1
  have B1 := hid (below_trans (below_alloc _ _) b1)
  have O1 := hid (OI.below (show OI (W.alloc (.cells #[] 3)) W.heap.size (.slice (some ⟨W.heap.size, 0, none⟩) 0 0) [] from World.ownsRow_lit W #[] 0 (Nat.le_refl _) (by decide) rfl) b1)
  clear o1 b1 r1 c0 c1 c2 hb1
  go_wp2
  go_loopg [7, 9] n (fun g v t wr => ∃ k : Nat, k ≤ n ∧ g = n - k ∧ t = .int .i64 k ∧ OI wr W.heap.size v (imR p (rows.take k) (x, y, z)) ∧ OI wr W.heap.size (.slice A1 10 c1') (prodTo p x y z 10) ∧ (∀ k, (Value.slice A1 10 c1').ownBlock = some k → some k ≠ v.ownBlock) ∧ Below W.heap.size W wr)
  case atStart => exact ⟨0, by omega, by omega, rfl, O1.out, OI.mono R1.out (by simp), N1.out, B1.out⟩
  case round =>
    obtain ⟨k, hk, hg, rfl, hO, hR, hN, hB⟩ := hrel
    have HG := hid hg
    have O2 := hid hO
    have R2 := hid hR
    have N2 := hid hN
    have B2 := hid hB
    clear hg hO hR hN hB
    by_cases hlt : k < n
    · obtain ⟨_, _, ba, oa, hA, hca⟩ := HR.out
      obtain rfl : A = some ⟨ba, oa, none⟩ := by rcases hA with h | h; omega; exact h
      obtain ⟨Ar, cr, ce, re⟩ := hca k hlt
      have hs := HW.out _ (getD_mem (d := []) (show k < rows.length by omega))
      have HT := hid (imR_take p rows (x, y, z) (show k < rows.length by omega))
      have HLn := hid (show (imR p (rows.take k) (x, y, z)).length < 17592186044416 by rw [imR_len, List.length_take]; omega)
      rw [hs.1] at ce re
      have ce' := cell_below B2.out ce
      have RE := hid (re.below B2.out)
      have HS := hid hs.2
      generalize rows.getD k [] = s at *
      clear ce re hs hca hA
      go_wp2_with fail
      refine (l5Dot_ok p Ar 10 cr s A1 c1' (prodTo p x y z 10) _ RE.out (R2.out.get10 (by rw [prodTo_length]) (by omega)) (by omega) (by omega) (by omega) (fun u hu => (show 0 ≤ u ∧ u ≤ 31 by have := HS.out u hu; omega)) ?_).mono ?_
      · intro u hu
        simp only [prodTo, List.mem_map, List.mem_range] at hu
        obtain ⟨i, _, rfl⟩ := hu
        have h := rem_rng' (p := p) (n := powP p x (exN i).1 * powP p y (exN i).2.1 % p * powP p z (exN i).2.2) (by omega)
        rw [prodI]
        omega
      · rintro e w4 ⟨rfl, b4⟩
        have O4 := hid (O2.out.below b4)
        have R4 := hid (R2.out.below b4)
        have B4 := hid (below_trans B2.out b4)
        have HT' := hid (show imR p (rows.take (k + 1)) (x, y, z) = imR p (rows.take k) (x, y, z) ++ [dotP p s (prodTo p x y z 10) 10] by rw [HT.out, dotP_eq, dot_prod p x y z hp]; rfl)
        have hm := dotP_bd p (by omega) s (prodTo p x y z 10) 10
        generalize dotP p s (prodTo p x y z 10) 10 = d at *
        clear HT b4 ce'
        go_wp2_with (at_builtin; refine append_int_at _ _ rfl rfl W.heap.size _ _ _ ⟨w4.heap.size, 0, none⟩ rfl rfl (O4.out.alloc _) (World.cell?_alloc_at _ _ _ _ rfl) HLn.out (size_alloc B4.out.size _) ?_; intro v' w5 hown hgrow hat; have HA := hid hat; have HO1 := hid hown; have HGr := hid hgrow; clear hown hgrow hat)
        have hlt1 : ∀ k, (Value.slice A1 10 c1').ownBlock = some k → k < w4.heap.size := fun k hk => R4.out.lt' hk
        have R5 := hid (show OI w5 W.heap.size (.slice A1 10 c1') (prodTo p x y z 10) from (R4.out.alloc _).kept HGr.out (by
          cases hb : (Value.slice A1 10 c1').ownBlock with
          | none => exact .inl rfl
          | some k => exact .inr (N2.out k hb)))
        have N5 := hid (show ∀ k, (Value.slice A1 10 c1').ownBlock = some k → some k ≠ v'.ownBlock from fun k hk => by
          rcases HA.out with h | h
          · rw [h]; exact N2.out k hk
          · rw [h]; intro e; injection e with e; have := hlt1 k hk; simp at e; omega)
        go_roundg (n - (k + 1))
        case measure => have := HG.out; omega
        case rel => exact ⟨k + 1, by omega, rfl, by go_num, by rw [HT'.out]; exact HO1.out, R5.out, N5.out, below_append B4.out B4.out.size O4.out HGr.out⟩
    · have HM := hid (show imR p (rows.take k) (x, y, z) = imR p rows (x, y, z) by rw [List.take_of_length_le (by omega)])
      have O3 := hid (OI.mono O2.out HB0.out.size)
      have B3 := hid (below_trans HB0.out B2.out)
      go_wp2
      go_ret
      exact ⟨_, rfl, by rw [← HM.out]; exact O3.out, B3.out⟩

end Go.Proofs.Ytkhkcgoblibnpaa
