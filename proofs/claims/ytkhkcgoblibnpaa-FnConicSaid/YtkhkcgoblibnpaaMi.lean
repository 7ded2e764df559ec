/-
  Contracts: marks in lists of numbers.
-/
import Derived.Test.YtkhkcgoblibnpaaD
import Derived.Deep.LoopGhost
namespace Go.Proofs.Ytkhkcgoblibnpaa
open Go.RowKit
set_option linter.unusedVariables false
set_option linter.unusedSimpArgs false

/-- The numbers from k on, n of them. -/
def marksI (k : Int) (n : Nat) : List Int := (List.range n).map (fun i : Nat => k + (i : Int))
theorem marksI_len (k : Int) (n : Nat) : (marksI k n).length = n := by simp [marksI]
theorem marksI_get (k : Int) {n i : Nat} (h : i < n) : (marksI k n).getD i 0 = k + (i : Int) := by
  simp [marksI, List.getD_eq_getElem?_getD, List.getElem?_map, List.getElem?_range h]
def markedI (k : Int) (xs : List Int) (i : Nat) : List Int := marksI k i ++ xs.drop i
theorem markedI_len (k : Int) (xs : List Int) {i : Nat} (h : i ≤ xs.length) : (markedI k xs i).length = xs.length := by simp [markedI, marksI]; omega
theorem markedI_set (k : Int) (xs : List Int) {i : Nat} (h : i < xs.length) : (markedI k xs i).set i (k + (i : Int)) = markedI k xs (i + 1) := by
  rw [markedI, List.set_append, if_neg (by rw [marksI_len]; omega), marksI_len, Nat.sub_self, List.drop_eq_getElem_cons h, List.set_cons_zero, markedI]
  unfold marksI
  rw [List.range_succ, List.map_append, List.append_assoc]
  rfl
theorem markedI_all (k : Int) (xs : List Int) : markedI k xs xs.length = marksI k xs.length := by rw [markedI, List.drop_length, List.append_nil]
/-- A stored element of a row of the call's own. -/
theorem OI.store' {w : World} {base g n c : Nat} {xs : List Int} (h : OI w base (.slice (some ⟨g, 0, none⟩) n c) xs) (hn : xs.length = n) (k : Nat) (y : Int) :
    OI (w.setCell ⟨g, k, none⟩ (.int .i64 y)) base (.slice (some ⟨g, 0, none⟩) n c) (xs.set k y) ∧ w.grownBy (w.setCell ⟨g, k, none⟩ (.int .i64 y)) (some g) := by
  have h' : w.ownsRow base 3 1 (.slice (some ⟨g, 0, none⟩) n c) n (xs.map (Value.int .i64)) := by unfold OI at h; rwa [hn] at h
  obtain ⟨h1, h2⟩ := World.ownsRow.stored h' k (.int .i64 y)
  refine ⟨?_, h2⟩
  unfold OI
  rw [List.length_set, hn]
  rw [← List.map_set] at h1
  exact h1
theorem OI.frozen' {w : World} {base g n c : Nat} {xs : List Int} (h : OI w base (.slice (some ⟨g, 0, none⟩) n c) xs) (hn : xs.length = n) (k : Nat) : w.frozen? ⟨g, k, none⟩ = false := by
  unfold OI at h
  rw [hn] at h
  exact World.ownsRow.frozenAt h k
theorem gbi_trans {w w1 w2 : World} {row : Option Nat} (h : w.grownBy w1 row) (k : w1.grownBy w2 row) : w.grownBy w2 row :=
  ⟨k.os.trans h.os, k.tape.trans h.tape, k.output.trans h.output, Nat.le_trans h.size k.size, fun i hi hr => (k.block i (Nat.lt_of_lt_of_le hi h.size) hr).trans (h.block i hi hr)⟩
/-- The block of a row of the call's own lies in the world. -/
theorem OI.lt' {w : World} {base : Nat} {v : Value} {xs : List Int} (h : OI w base v xs) {k : Nat} (hk : v.ownBlock = some k) : k < w.heap.size := by
  have hlt := World.ownsRow.lt h
  rcases h.2 with ⟨hv, _⟩ | ⟨g, cap, cur, hv, _⟩
  · subst hv; simp [Value.ownBlock] at hk
  · have h2 := (hlt g (by rw [hv]; rfl)).2
    subst hv
    have : g = k := by simpa [Value.ownBlock] using hk
    omega
/-- A row that lies below another one that is written into, and one that lies above it. -/
theorem OI.keepLo {w w' : World} {b bu : Nat} {v u : Value} {xs us : List Int} (h : OI w b v xs) (hu : OI w bu u us) (hv : ∀ k, v.ownBlock = some k → k < bu) (hg : w.grownBy w' u.ownBlock) : OI w' b v xs := by
  refine h.kept hg ?_
  cases hb : v.ownBlock with
  | none => exact .inl rfl
  | some k => right; intro e; have := own_base hu k e.symm; have := hv k hb; omega
theorem OI.keepHi {w w' : World} {b : Nat} {v u : Value} {xs : List Int} (h : OI w b v xs) (hu : ∀ k, u.ownBlock = some k → k < b) (hg : w.grownBy w' u.ownBlock) : OI w' b v xs := by
  refine h.kept hg ?_
  cases hb : v.ownBlock with
  | none => exact .inl rfl
  | some k => right; intro e; have := own_base h k hb; have := hu k e.symm; omega

set_option maxRecDepth 100000 in
set_option maxHeartbeats 2000000 in
theorem markIntS_ok (base : Nat) (v : Value) (xs : List Int) (k : Int) (w : World) (h : OI w base v xs) (hn : xs.length ≤ 2000000) (hk : 0 ≤ k) (hk2 : k ≤ 10000000) :
    Calls Try.prog 26 #[v, .int .i64 k] w fun e w' => e = .returned (.int .i64 (k + (xs.length : Int))) ∧ OI w' base v (marksI k xs.length) ∧ w.grownBy w' v.ownBlock := by
  obtain ⟨A, c, rfl, _⟩ := h.ri (by omega)
  have HOw := hid h
  clear h
  go_enter Try.func26, Try.ntmps26
  go_wp2
  go_loopg [1, 5] xs.length (fun gk u t wr => ∃ i : Nat, i ≤ xs.length ∧ gk = xs.length - i ∧ t = .int .i64 i ∧ u = .int .i64 (k + i) ∧ OI wr base (.slice A xs.length c) (markedI k xs i) ∧ w.grownBy wr (Value.slice A xs.length c).ownBlock)
  case atStart => exact ⟨0, by omega, rfl, rfl, by go_num, by rw [show markedI k xs 0 = xs by simp [markedI, marksI]]; exact HOw.out, World.grownBy.refl _ _⟩
  case round =>
    obtain ⟨i, hi, hgk, rfl, rfl, ho, hg⟩ := hrel
    have HO := hid ho
    have HG := hid hg
    have HGk := hid hgk
    clear ho hg hgk
    by_cases hlt : i < xs.length
    · have hml := markedI_len k xs hi
      obtain ⟨g, cap, hsl, _, hgw, hcell⟩ := HO.out.shape (by omega)
      injection hsl with e1 e2 e3
      subst e1
      have ci := hcell i (by omega)
      have fi := HO.out.frozen' hml i
      have s1 := HO.out.store' hml i (k + (i : Int))
      rw [markedI_set k xs hlt] at s1
      have S1 := hid s1.1
      have G1 := hid (gbi_trans HG.out s1.2)
      clear s1 hcell e2 e3 hml
      generalize (markedI k xs i).getD i 0 = y at *
      generalize xs.length = n at *
      go_wp2
      go_roundg (n - (i + 1))
      case measure => have := HGk.out; omega
      case rel => exact ⟨i + 1, by omega, rfl, by go_num, by go_num, S1.out, G1.out⟩
    · have hin : i = xs.length := by omega
      have HE := hid (show markedI k xs i = marksI k xs.length by rw [hin]; exact markedI_all k xs)
      subst hin
      go_wp2
      go_ret
      exact ⟨rfl, by rw [← HE.out]; exact HO.out, HG.out⟩

set_option maxRecDepth 100000 in
set_option maxHeartbeats 2000000 in
theorem heldIntS_ok (A : Option Addr) (n c : Nat) (k : Int) (w : World) (hr : RI w A n (marksI k n)) (hn : n ≤ 2000000) (hk : 0 ≤ k) (hk2 : k ≤ 10000000) :
    Calls Try.prog 27 #[.slice A n c, .int .i64 k] w fun e w' => e = .returned (.int .i64 (k + n)) ∧ w = w' := by
  obtain ⟨_, _, b, off, hA, hc⟩ := hr
  have HC := hid hc
  clear hc
  go_enter Try.func27, Try.ntmps27
  go_wp2
  go_loop [1, 5] (fun u t => ∃ i : Nat, i ≤ n ∧ t = .int .i64 i ∧ u = .int .i64 (k + i)) (fun _ t => n - (intOf t).toNat)
  case atStart => exact ⟨0, by omega, rfl, by go_num⟩
  case round =>
    obtain ⟨i, hi, rfl, rfl⟩ := hrel
    by_cases hlt : i < n
    · obtain rfl : A = some ⟨b, off, none⟩ := by rcases hA with h | h; omega; exact h
      have c0 := HC.out i hlt
      rw [marksI_get k hlt] at c0
      have hq : (k + (i : Int) != k + (i : Int)) = false := by simp
      clear hA
      go_wp2
      go_round
      case rel => exact ⟨i + 1, by omega, by go_num, by go_num⟩
      case measure => simp [intOf]; omega
    · obtain rfl : i = n := by omega
      go_wp2
      go_ret
      exact ⟨rfl, rfl⟩

end Go.Proofs.Ytkhkcgoblibnpaa
