/-
  Contracts: the reference's reduced rows.
-/
import Derived.Test.YtkhkcgoblibnpaaSo
import Derived.Test.YtkhkcgoblibnpaaPo
import Derived.Deep.RegionHeldLaw
namespace Go.Proofs.Ytkhkcgoblibnpaa
open Go.RowKit
set_option linter.unusedVariables false
set_option linter.unusedSimpArgs false

/-- The first k numbers of a row less a multiple of another one. -/
def lessTo (p n : Int) (xs ys : List Int) (k : Nat) : List Int := (List.range k).map fun i => (xs.getD i 0 - n * ys.getD i 0) % p
theorem lessTo_succ (p n : Int) (xs ys : List Int) (k : Nat) : lessTo p n xs ys (k + 1) = lessTo p n xs ys k ++ [(xs.getD k 0 - n * ys.getD k 0) % p] := by simp [lessTo, List.range_succ]
theorem lessTo_len (p n : Int) (xs ys : List Int) (k : Nat) : (lessTo p n xs ys k).length = k := by simp [lessTo]
theorem lessTo_elim (p : Int) (c : Nat) (xs ys : List Int) {wd : Nat} (hx : xs.length = wd) (hy : ys.length = wd) : lessTo p (xs.getD c 0) xs ys wd = elimL p c ys xs := by
  refine ext_getD (by rw [lessTo_len, elimL_length _ _ _ _ (by omega), hx]) fun j hj => ?_
  rw [lessTo_len] at hj
  rw [elimL_get _ _ _ _ (by omega) (by omega)]
  simp [lessTo, List.getD_eq_getElem?_getD, List.getElem?_map, List.getElem?_range hj]

set_option maxRecDepth 100000 in
set_option maxHeartbeats 8000000 in
theorem l4Less_ok (p n : Int) (Aa Ab : Option Addr) (wd ca cb : Nat) (xs ys : List Int) (w : World) (hp : 1 ≤ p) (hp2 : p ≤ 31) (ha : RI w Aa wd xs) (hb : RI w Ab wd ys) (hwd : wd ≤ 100) (hn0 : 0 ≤ n) (hn1 : n ≤ 31) (hx : ∀ i, i < wd → 0 ≤ xs.getD i 0 ∧ xs.getD i 0 ≤ 31) (hy : ∀ i, i < wd → 0 ≤ ys.getD i 0 ∧ ys.getD i 0 ≤ 31) :
    Calls Try.prog 102 #[.int .i64 p, .slice Aa wd ca, .int .i64 n, .slice Ab wd cb] w fun e w' => ∃ v, e = .returned v ∧ OI w' w.heap.size v (lessTo p n xs ys wd) ∧ Below w.heap.size w w' := by
  obtain ⟨_, _, ba, oa, hAa, hca⟩ := ha
  obtain ⟨_, _, bb, ob, hAb, hcb⟩ := hb
  have HCa := hid hca
  have HCb := hid hcb
  have HX := hid hx
  have HY := hid hy
  clear hca hcb hx hy
  go_enter Try.func102, Try.ntmps102
  go_wp2
  go_loopg [9, 10] wd (fun gk v t wr => ∃ k : Nat, k ≤ wd ∧ gk = wd - k ∧ t = .int .i64 k ∧ OI wr w.heap.size v (lessTo p n xs ys k) ∧ Below w.heap.size w wr)
  case atStart => exact ⟨0, by omega, by omega, rfl, World.ownsRow_lit w #[] 0 (Nat.le_refl _) (by decide) rfl, below_alloc _ _⟩
  case round =>
    obtain ⟨k, hk, hgk, rfl, ho, hb⟩ := hrel
    have HGk := hid hgk
    have HO := hid ho
    have HB := hid hb
    clear hgk ho hb
    by_cases hlt : k < wd
    · obtain rfl : Aa = some ⟨ba, oa, none⟩ := by rcases hAa with h | h; omega; exact h
      obtain rfl : Ab = some ⟨bb, ob, none⟩ := by rcases hAb with h | h; omega; exact h
      have hba := World.block_lt_of_cell? w _ (HCa.out k hlt)
      have hbb := World.block_lt_of_cell? w _ (HCb.out k hlt)
      have HBa := hid (show ba < w.heap.size from hba)
      have HBb := hid (show bb < w.heap.size from hbb)
      have f0 := cell_below HB.out (HCa.out k hlt)
      have f1 := cell_below HB.out (HCb.out k hlt)
      have hx := HX.out k hlt
      have hy := HY.out k hlt
      have HSu := hid (lessTo_succ p n xs ys k)
      have HLn := hid (show (lessTo p n xs ys k).length < 17592186044416 by rw [lessTo_len]; omega)
      have mb := mul_bd hn0 hy.1 hn1 hy.2
      generalize xs.getD k 0 = x at *
      generalize ys.getD k 0 = y at *
      have wr1 : IntKind.i64.wrap (n * y) = n * y := IntWalk.i64_in _ (by omega)
      have wr2 : IntKind.i64.wrap (x - n * y) = x - n * y := IntWalk.i64_in _ (by omega)
      have HMd := hid (fun W => l4Mod_ok (x - n * y) p W hp hp2 (by omega) (by omega))
      clear hba hbb hAa hAb mb hx hy
      go_wp2
      go_region_held_law (fun w' => w'.cell? ⟨ba, oa + k, none⟩ = some (.int .i64 x) ∧ w'.cell? ⟨bb, ob + k, none⟩ = some (.int .i64 y)) (first | exact ⟨k0, k1⟩ | go_keep)
        (first
          | (go_at_call 93; (with_reducible refine (HMd.out _).mono ?_); rintro e w' ⟨rfl, rfl⟩)
          | (refine step_append_int _ _ rfl rfl w.heap.size _ _ _ ⟨wr.heap.size, 0, none⟩ rfl rfl ((drewOI HO.out).alloc _) (World.cell?_alloc_at _ _ _ _ rfl) HLn.out (by have := HB.out.size; simp; omega) ?_; intro g cap w2 hown hgrow; have HO2 := hid hown; have HG := hid hgrow; have k0 := hgrow.cell (cell_below (below_alloc wr.drew _) f0) (fun e => by have h1 : w.heap.size ≤ ba := own_base HO.out _ e.symm; have h2 := HBa.out; omega); have k1 := hgrow.cell (cell_below (below_alloc wr.drew _) f1) (fun e => by have h1 : w.heap.size ≤ bb := own_base HO.out _ e.symm; have h2 := HBb.out; omega); clear hown hgrow))
      go_wp2
      go_roundg (wd - (k + 1))
      case measure => have := HGk.out; omega
      case rel => exact ⟨k + 1, by omega, rfl, by go_num, by rw [HSu.out]; exact HO2.out, below_append (drewBelow HB.out) HB.out.size (drewOI HO.out) HG.out⟩
    · obtain rfl : k = wd := by omega
      go_wp2
      go_ret
      exact ⟨_, rfl, HO.out, HB.out⟩

/-- Rows of the call's own. -/
def RwS (w : World) (base : Nat) (rs : List Rw) : Prop := ∀ r ∈ rs, OI w base (rwV r) r.xs
theorem RwS.below {w w' : World} {base : Nat} {rs : List Rw} (h : RwS w base rs) (hb : Below w.heap.size w w') : RwS w' base rs := fun r hr => (h r hr).below hb
theorem RwS.drewN {w : World} {base : Nat} {rs : List Rw} (h : RwS w base rs) (m : Nat) : RwS (w.drewN m) base rs := h
theorem RwS.mono {w : World} {base base' : Nat} {rs : List Rw} (h : RwS w base rs) (hb : base' ≤ base) : RwS w base' rs := fun r hr => (h r hr).mono hb
/-- What is written into an outer list leaves the rows alone. -/
theorem RwS.outer {w w' : World} {base b : Nat} {rs : List Rw} {v : Value} {n : Nat} {xs : List Value} (h : RwS w base rs) (ho : w.ownsRow b 32 1 v n xs) (hg : w.grownBy w' v.ownBlock) : RwS w' base rs := fun r hr => (h r hr).kept hg (own_ne ho (h r hr) (by decide))
/-- Rows that lie above a list of numbers that grows. -/
theorem RwS.hi {w w' : World} {b : Nat} {row : Option Nat} {rs : List Rw} (h : RwS w b rs) (hu : ∀ k, row = some k → k < b) (hg : w.grownBy w' row) : RwS w' b rs := fun r hr => by
  refine (h r hr).kept hg (.inr ?_)
  rw [rwV_block]
  intro e
  have h1 := own_base (h r hr) r.g rfl
  have h2 := hu r.g e.symm
  omega
theorem RwO.hi {w w' : World} {b : Nat} {row : Option Nat} {v : Value} {rs : List Rw} (h : RwO w b v rs) (hu : ∀ k, row = some k → k < b) (hg : w.grownBy w' row) : RwO w' b v rs := by
  refine World.ownsRow.kept h hg ?_
  cases hb : v.ownBlock with
  | none => exact .inl rfl
  | some k => right; intro e; have := own_base h k hb; have := hu k e.symm; omega
theorem RwO.lt' {w : World} {base : Nat} {v : Value} {rs : List Rw} (h : RwO w base v rs) {k : Nat} (hk : v.ownBlock = some k) : k < w.heap.size := by
  have hlt := World.ownsRow.lt h
  rcases h.2 with ⟨hv, _⟩ | ⟨g, cap, cur, hv, _⟩
  · subst hv; simp [Value.ownBlock] at hk
  · have h2 := (hlt g (by rw [hv]; rfl)).2
    subst hv
    have : g = k := by simpa [Value.ownBlock] using hk
    omega
/-- A row stored into an outer list. -/
theorem RwO.store {w : World} {base g n c : Nat} {rs : List Rw} (h : RwO w base (.slice (some ⟨g, 0, none⟩) n c) rs) (hn : rs.length = n) (k : Nat) (r : Rw) :
    RwO (w.setCell ⟨g, k, none⟩ (rwV r)) base (.slice (some ⟨g, 0, none⟩) n c) (rs.set k r) ∧ w.grownBy (w.setCell ⟨g, k, none⟩ (rwV r)) (some g) := by
  have h' : w.ownsRow base 32 1 (.slice (some ⟨g, 0, none⟩) n c) n (rs.map rwV) := by unfold RwO at h; rwa [hn] at h
  obtain ⟨h1, h2⟩ := World.ownsRow.stored h' k (rwV r)
  refine ⟨?_, h2⟩
  unfold RwO
  rw [List.length_set, hn]
  rw [← List.map_set] at h1
  exact h1
theorem RwS.ri {w : World} {base : Nat} {rs : List Rw} (h : RwS w base rs) {r : Rw} (hr : r ∈ rs) (hn : r.xs.length ≤ 17592186044416) : RI w (some ⟨r.g, 0, none⟩) r.xs.length r.xs := by
  by_cases h0 : 0 < r.xs.length
  · obtain ⟨g, cap, hv, _, _, hc⟩ := (h r hr).shape h0
    simp only [rwV, Value.slice.injEq, Option.some.injEq, Addr.mk.injEq] at hv
    refine ⟨rfl, hn, r.g, 0, .inr rfl, fun j hj => ?_⟩
    rw [Nat.zero_add, hv.1.1]
    exact hc j hj
  · exact ⟨rfl, hn, 0, 0, .inl (by omega), fun j hj => by omega⟩
theorem RRI_ofS {w : World} {base b2 : Nat} {v : Value} {rs : List Rw} (h : RwO w base v rs) (hi : RwS w b2 rs) (hn : rs.length ≤ 1000) (hl : ∀ r ∈ rs, r.xs.length ≤ 1000000) : ∃ A c, v = .slice A rs.length c ∧ RRI w A rs.length (rs.map (·.xs)) := by
  by_cases h0 : 0 < rs.length
  · obtain ⟨g, cap, hv, _, _, _, _, _, hc⟩ := h.shape h0
    refine ⟨_, cap, hv, by simp, hn, g, 0, .inr rfl, fun j hj => ?_⟩
    have e : (rs.map (·.xs)).getD j [] = rs[j].xs := by rw [List.getD_eq_getElem?_getD, List.getElem?_map, List.getElem?_eq_getElem hj]; rfl
    have hm : rs[j] ∈ rs := List.getElem_mem _
    refine ⟨some ⟨rs[j].g, 0, none⟩, rs[j].cap, ?_, ?_⟩
    · rw [Nat.zero_add, hc j hj, e]; rfl
    · rw [e]; exact hi.ri hm (by have := hl _ hm; omega)
  · obtain ⟨A, cap, hv, _⟩ := h.form
    exact ⟨A, cap, hv, by simp, hn, 0, 0, .inl (by omega), fun j hj => by omega⟩
/-- 'append(rows, row)' at a step of a region that draws its order. -/
theorem step_append_row {ops : Array Oper} {o : Oper} {a : Act} {K : Act → World → Prop} {Q : Exit → Act → World → Prop} {E : Prop} {w : World} (s x : Operand) (hgd : o.guard = none)
    (ho : o.op = .call { callee := .builtin .append, args := #[s, x], argTypes := #[26, 26] }) (base : Nat) (v : Value) (rs : List Rw) (r : Rw) (ad : Addr)
    (hs : a.eval s = v) (hx : a.eval x = .slice (some ad) 1 1) (hown : RwO w base v rs) (hc : w.cell? ad = some (rwV r)) (hn : rs.length < 1000000) (hb : base ≤ w.heap.size)
    (h : ∀ g cap w', RwO w' base (.slice (some ⟨g, 0, none⟩) (rs.length + 1) cap) (rs ++ [r]) → w.grownBy w' v.ownBlock → K (a.put o.dst (.slice (some ⟨g, 0, none⟩) (rs.length + 1) cap)) w') :
    if Region.wanted o (yielded ops a.tmps) = true then Oper.wp Try.prog o a w K Q else E := by
  obtain ⟨i0, hi, hz0, hz1, hz2⟩ := info_parts infoRow
  refine step_append_lies w hgd s x 26 ho base 32 i0 (.slice none 0 0) 1 24 Try.underlying26 hi hz0 hz1 hz2 rfl (by decide) v _ _ hs hown ad 1 1 [rwV r] hx rfl ?_ ?_ (by decide) (by unfold maxLen; omega) (by omega) hb _ rfl ?_
  · intro j u hj
    match j, hj with
    | 0, hj => simp at hj; subst hj; simpa [Addr.add] using hc
  · intro u hu; simp at hu; subst hu; rfl
  · intro g cap w' h1 h2 _ _
    refine h g cap w' ?_ h2
    unfold RwO
    simpa using h1
theorem eraseTo_at {α : Type} (xs : List α) {k : Nat} (h : k < xs.length) : (xs.take (k + 1)).eraseIdx k = (xs.take k).eraseIdx k := by
  rw [List.eraseIdx_eq_take_drop_succ, List.take_take, Nat.min_eq_left (Nat.le_succ k), List.drop_eq_nil_of_le (by simp; omega), List.append_nil, List.eraseIdx_of_length_le (by simp; omega)]
theorem eraseTo_next {α : Type} (xs : List α) (d : α) {k i : Nat} (h : i < xs.length) (hne : i ≠ k) : (xs.take (i + 1)).eraseIdx k = (xs.take i).eraseIdx k ++ [xs.getD i d] := by
  have e : xs.getD i d = xs[i] := by simp [List.getD_eq_getElem?_getD, List.getElem?_eq_getElem h]
  rw [List.take_succ_eq_append_getElem h, e]
  by_cases hk : k < i
  · rw [List.eraseIdx_append_of_lt_length (by simp; omega)]
  · rw [List.eraseIdx_of_length_le (by simp; omega), List.eraseIdx_of_length_le (by simp; omega)]

end Go.Proofs.Ytkhkcgoblibnpaa
