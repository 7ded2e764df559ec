/-
  Contracts: a class put into a sorted list.
-/
import Derived.Test.YtcffaeepanhpfaaLs
import Derived.Deep.AppendLies
import Derived.Deep.RegionLaw
namespace Go.Proofs.Ytcffaeepanhpfaa
open Go.RowKit
set_option linter.unusedVariables false
set_option linter.unusedSimpArgs false

theorem putC_cut (a : List Int) : ∀ (cs : List (List Int)) (k : Nat), k ≤ cs.length → (∀ j, j < k → lessC (cs.getD j []) a = true) → (k = cs.length ∨ lessC (cs.getD k []) a = false) → putC a cs = cs.take k ++ [a] ++ cs.drop k
  | [], k, hk, _, _ => by
    obtain rfl : k = 0 := by simpa using hk
    rfl
  | c :: cs, 0, _, _, h => by
    rw [putC]
    rcases h with h | h
    · simp at h
    · rw [show lessC c a = false from h]; rfl
  | c :: cs, k + 1, hk, h1, h2 => by
    rw [putC, if_pos (show lessC c a = true from h1 0 (by omega)), putC_cut a cs k (by simpa using hk) (fun j hj => h1 (j + 1) (by omega)) (by rcases h2 with h | h; exact .inl (by simpa using h); exact .inr h)]
    rfl

/-- The cells of a list of classes, one after another. -/
def CCat (w : World) (ad : Addr) (ds : List (List Int)) : Prop := ∀ j i, j < ds.length → i < 7 → w.cell? (ad.add (j * 7 + i)) = some (.int .i64 ((ds.getD j []).getD i 0))
theorem CCat.below {w w' : World} {ad : Addr} {ds : List (List Int)} (h : CCat w ad ds) (hb : Below w.heap.size w w') : CCat w' ad ds := fun j i hj hi => cell_below hb (h j i hj hi)
theorem CCat.one {w : World} {g : Nat} {y0 y1 y2 y3 y4 y5 y6 : Int} (hc : CB w 38 g y0 y1 y2 y3 y4 y5 y6) : CCat w ⟨g, 0, none⟩ [[y0, y1, y2, y3, y4, y5, y6]] := by
  obtain ⟨x0, x1, x2, x3, x4, x5, x6⟩ := hc.seven
  intro j i hj hi
  obtain rfl : j = 0 := by simpa using hj
  rw [Addr.add_lit]
  match i, hi with
  | 0, _ => exact x0
  | 1, _ => exact x1
  | 2, _ => exact x2
  | 3, _ => exact x3
  | 4, _ => exact x4
  | 5, _ => exact x5
  | 6, _ => exact x6
theorem RC.take {w : World} {b n : Nat} {cs : List (List Int)} (h : RC w (some ⟨b, 0, none⟩) n cs) (k : Nat) (hk : k ≤ n) : CCat w ⟨b, 0, none⟩ (cs.take k) := by
  obtain ⟨h1, _, _, b', h4, h5⟩ := h
  intro j i hj hi
  rw [List.length_take] at hj
  obtain rfl : b = b' := by
    rcases h4 with h | h
    · omega
    · injection h with h; injection h
  have e : (cs.take k).getD j [] = cs.getD j [] := by simp [List.getD_eq_getElem?_getD, List.getElem?_take, show j < k by omega]
  rw [Addr.add_lit, Nat.zero_add, h5 j i (by omega) hi, e]
theorem RC.drop {w : World} {b n : Nat} {cs : List (List Int)} (h : RC w (some ⟨b, 0, none⟩) n cs) (k : Nat) : CCat w ⟨b, k * 7, none⟩ (cs.drop k) := by
  obtain ⟨h1, _, _, b', h4, h5⟩ := h
  intro j i hj hi
  rw [List.length_drop] at hj
  obtain rfl : b = b' := by
    rcases h4 with h | h
    · omega
    · injection h with h; injection h
  have e : (cs.drop k).getD j [] = cs.getD (k + j) [] := by simp [List.getD_eq_getElem?_getD, List.getElem?_drop]
  rw [Addr.add_lit, show k * 7 + (j * 7 + i) = (k + j) * 7 + i by omega, h5 (k + j) i (by omega) hi, e]

/-- 'append(out, ds...)' at a step of a region that draws its order. -/
theorem step_append_cls {ops : Array Oper} {o : Oper} {a : Act} {K : Act → World → Prop} {Q : Exit → Act → World → Prop} {E : Prop} {w : World} (s x : Operand) (hgd : o.guard = none)
    (ho : o.op = .call { callee := .builtin .append, args := #[s, x], argTypes := #[47, 47] }) (base : Nat) (v : Value) (cs ds : List (List Int)) (ad : Addr) (m c : Nat)
    (hs : a.eval s = v) (hx : a.eval x = .slice (some ad) m c) (hown : OC w base v cs) (hv : v ≠ .slice none 0 0) (hc : CCat w ad ds) (hl : ds.length = m) (h7 : ∀ d ∈ ds, d.length = 7) (hn : cs.length + m ≤ 100000) (hb : base ≤ w.heap.size)
    (h : ∀ v' w', OC w' base v' (cs ++ ds) → w.grownBy w' v.ownBlock → v' ≠ .slice none 0 0 → K (a.put o.dst v') w') :
    if Region.wanted o (yielded ops a.tmps) = true then Oper.wp Try.prog o a w K Q else E := by
  have hw : Region.wanted o (yielded ops a.tmps) = true := by simp [Region.wanted, hgd]
  rw [if_pos hw]
  obtain ⟨i0, hi, hz0, hz1, hz2⟩ := info_parts infoCls
  obtain ⟨v', w', hrun, r1, r2, r3⟩ := run_append_own (P := Try.prog) w base 47 o.type 38 i0 (.agg #[.int .i64 0, .int .i64 0, .int .i64 0, .int .i64 0, .int .i64 0, .int .i64 0, .int .i64 0]) 7 56 Try.underlying47 hi hz0 hz1 hz2 rfl (by decide) v cs.length (ccells cs) hown.2 ad m c (ccells ds)
    (by rw [ccells_length ds h7, hl]) (fun j u hj => by
      have hlt : j < ds.length * 7 := by
        have := (List.getElem?_eq_some_iff.1 hj).1
        rwa [ccells_length ds h7] at this
      have e : j = j / 7 * 7 + j % 7 := by omega
      rw [e, ccells_get ds h7 (j / 7) (j % 7) (by omega) (by omega)] at hj
      rw [e, hc (j / 7) (j % 7) (by omega) (by omega)]
      exact hj) (ccells_one ds) (by unfold maxLen; omega) (by omega) hb
  unfold Oper.wp
  simp [execOp, ho, resolve, invoke, builtin, hs, hx, hrun, Result.andThen]
  refine h v' w' ⟨fun d hd => ?_, ?_⟩ r2 ?_
  · rcases List.mem_append.1 hd with hd | hd
    · exact hown.1 d hd
    · exact h7 d hd
  · rw [ccells_append, List.length_append, hl]; exact r1
  · intro e; exact hv (r3.1 e).1

end Go.Proofs.Ytcffaeepanhpfaa
