/-
  Contracts: marks in lists of rows.
-/
import Derived.Test.YtkhkcgoblibnpaaTp
import Derived.Test.YtkhkcgoblibnpaaNa
namespace Go.Proofs.Ytkhkcgoblibnpaa
open Go.RowKit
set_option linter.unusedVariables false
set_option linter.unusedSimpArgs false

/-- n rows of ten marks, from k on. -/
def mksR (k : Int) (n : Nat) : List (List Int) := (List.range n).map (fun i : Nat => marksI (k + 10 * (i : Int)) 10)
theorem mksR_len (k : Int) (n : Nat) : (mksR k n).length = n := by simp [mksR]
theorem mksR_get (k : Int) {n i : Nat} (h : i < n) : (mksR k n).getD i [] = marksI (k + 10 * (i : Int)) 10 := by
  simp [mksR, List.getD_eq_getElem?_getD, List.getElem?_map, List.getElem?_range h]
theorem mksR_succ (k : Int) (n : Nat) : mksR k (n + 1) = mksR k n ++ [marksI (k + 10 * (n : Int)) 10] := by
  unfold mksR
  rw [List.range_succ, List.map_append]; rfl
/-- Other numbers in a row. -/
theorem RwIn.repl {w w' : World} {base : Nat} {pre post : List Rw} {r : Rw} {ys : List Int} (h : RwIn w base (pre ++ r :: post)) (ho : OI w' base (rwV r) ys) (hy : ys.length = r.xs.length) (hg : w.grownBy w' (rwV r).ownBlock) : RwIn w' base (pre ++ { r with xs := ys } :: post) := by
  rw [rwV_block] at hg
  refine ⟨fun q hq => ?_, ?_⟩
  · have hnd := h.nd
    simp only [List.map_append, List.map_cons, List.nodup_append, List.nodup_cons] at hnd
    rcases List.mem_append.1 hq with hq | hq
    · refine (h.own q (by simp [hq])).kept hg (.inr ?_)
      rw [rwV_block]
      intro e
      injection e with e
      exact hnd.2.2 q.g (List.mem_map.2 ⟨q, hq, rfl⟩) r.g (by simp) e
    · rcases List.mem_cons.1 hq with rfl | hq
      · have := ho
        unfold rwV at this ⊢
        rw [hy]
        exact this
      · refine (h.own q (by simp [hq])).kept hg (.inr ?_)
        rw [rwV_block]
        intro e
        injection e with e
        exact hnd.2.1.1 (List.mem_map.2 ⟨q, hq, e⟩)
  · have := h.nd
    simpa using this

set_option maxRecDepth 100000 in
set_option maxHeartbeats 2000000 in
theorem markIntSS_ok (base : Nat) (v : Value) (rs : List Rw) (k : Int) (w : World) (hO : RwO w base v rs) (hS : RwIn w base rs) (hl : ∀ r ∈ rs, r.xs.length = 10) (hn : rs.length ≤ 1000) (hk : 0 ≤ k) (hk2 : k ≤ 1000000) (hbs : base ≤ w.heap.size) :
    Calls Try.prog 20 #[v, .int .i64 k] w fun e w' => e = .returned (.int .i64 (k + 10 * (rs.length : Int))) ∧ (∃ A c, v = .slice A rs.length c ∧ RRI w' A rs.length (mksR k rs.length)) ∧ Below base w w' := by
  obtain ⟨A, c, rfl, _⟩ := hO.form
  have HO0 := hid hO
  have HS0 := hid hS
  have HL := hid hl
  clear hO hS hl
  go_enter Try.func20, Try.ntmps20
  go_wp2
  go_loopg [1, 5] rs.length (fun gk u t wr => ∃ i : Nat, i ≤ rs.length ∧ gk = rs.length - i ∧ t = .int .i64 i ∧ u = .int .i64 (k + 10 * i) ∧ ∃ pre : List Rw, pre.length = i ∧ RwIn wr base (pre ++ rs.drop i) ∧ (pre ++ rs.drop i).map rwV = rs.map rwV ∧ pre.map (·.xs) = mksR k i ∧ RwO wr base (.slice A rs.length c) rs ∧ Below base w wr)
  case atStart => exact ⟨0, by omega, rfl, rfl, by go_num, [], rfl, by simpa using HS0.out, by simp, rfl, HO0.out, Below.refl _ _⟩
  case round =>
    obtain ⟨i, hi, hgk, rfl, rfl, pre, hp1, hp2, hp3, hp4, ho, hb⟩ := hrel
    have HGk := hid hgk
    have P1 := hid hp1
    have P2 := hid hp2
    have P3' := hid hp3
    have P4 := hid hp4
    have O1 := hid ho
    have B1 := hid hb
    clear hgk hp1 hp2 hp3 hp4 ho hb
    by_cases hlt : i < rs.length
    · have hd : rs.drop i = rs[i] :: rs.drop (i + 1) := List.drop_eq_getElem_cons hlt
      obtain ⟨g, cap, hsl, _, _, _, _, _, hcell⟩ := O1.out.shape (by omega)
      injection hsl with e1 e2 e3
      subst e1
      have ci := hcell i hlt
      obtain ⟨r, hr⟩ : ∃ r, rs[i] = r := ⟨_, rfl⟩
      have hxl : r.xs.length = 10 := by rw [← hr]; exact HL.out _ (List.getElem_mem _)
      rw [hr] at ci hd
      have hS1 := P2.out
      rw [hd] at hS1
      have HM := hid (markIntS_ok base (rwV r) r.xs (k + 10 * i) wr (hS1.own r (by simp)) (by omega) (by omega) (by omega))
      rw [hxl] at HM
      obtain ⟨V, hV⟩ : ∃ V, rwV r = V := ⟨_, rfl⟩
      rw [hV] at ci HM
      have HD := hid hd
      have HS1 := hid hS1
      have HX := hid hxl
      have HV := hid hV
      clear hd hS1 hxl hV hr hcell e2 e3
      go_wp2_with fail
      refine HM.out.mono ?_
      rintro e w1 ⟨rfl, o1, g1⟩
      have hml := marksI_len (k + 10 * i) 10
      have hS2 : RwIn w1 base (pre ++ { r with xs := marksI (k + 10 * i) 10 } :: rs.drop (i + 1)) := HS1.out.repl (by rw [HV.out]; exact o1) (by rw [hml, HX.out]) (by rw [HV.out]; exact g1)
      have N1 := hid (show (pre ++ [{ r with xs := marksI (k + 10 * i) 10 }]).length = i + 1 by simp [P1.out])
      have N2 := hid (show RwIn w1 base ((pre ++ [{ r with xs := marksI (k + 10 * i) 10 }]) ++ rs.drop (i + 1)) by simpa using hS2)
      have N3 := hid (show ((pre ++ [{ r with xs := marksI (k + 10 * i) 10 }]) ++ rs.drop (i + 1)).map rwV = rs.map rwV by
        rw [← P3'.out, HD.out]
        simp only [List.map_append, List.map_cons, List.append_assoc, List.map_nil, List.nil_append, List.cons_append]
        rw [show rwV { r with xs := marksI (k + 10 * i) 10 } = rwV r by unfold rwV; rw [hml, HX.out]])
      have N4 := hid (show List.map (fun q : Rw => q.xs) (pre ++ [{ r with xs := marksI (k + 10 * i) 10 }]) = mksR k (i + 1) by
        rw [mksR_succ, ← P4.out]; simp)
      have HSr := HS1.out.own r (by simp)
      rw [HV.out] at HSr
      have N5 := hid (O1.out.row HSr g1)
      have N6 := hid (B1.out.grown g1 (Nat.le_trans hbs B1.out.size) (own_base HSr))
      clear o1 g1 hS2 HSr
      generalize pre ++ [{ r with xs := marksI (k + 10 * i) 10 }] = pre' at *
      generalize rs.length = n at *
      go_wp2
      go_roundg (n - (i + 1))
      case measure => have := HGk.out; omega
      case rel => exact ⟨i + 1, by omega, rfl, by go_num, by go_num, pre', N1.out, N2.out, N3.out, N4.out, N5.out, N6.out⟩
    · have hin : i = rs.length := by omega
      have hd : pre ++ rs.drop i = pre := by rw [hin, List.drop_length, List.append_nil]
      have hR : ∃ A' c', Value.slice A rs.length c = .slice A' rs.length c' ∧ RRI wr A' rs.length (mksR k rs.length) := by
        have h2 := P2.out
        have h3 := P3'.out
        rw [hd] at h2 h3
        have ho : RwO wr base (.slice A rs.length c) pre := by
          have := O1.out
          unfold RwO at this ⊢
          rw [h3, P1.out, hin]; exact this
        obtain ⟨A', c', e, hr⟩ := RRI_of ho h2 (by rw [P1.out]; omega) (fun q hq => by
          have : q.xs ∈ mksR k i := by rw [← P4.out]; exact List.mem_map.2 ⟨q, hq, rfl⟩
          obtain ⟨j, _, hj⟩ := List.mem_map.1 this
          rw [← hj, marksI_len]; omega)
        rw [P4.out, P1.out, hin] at hr
        exact ⟨A, c, rfl, by injection e with e1 e2 e3; rw [e1]; exact hr⟩
      have HR := hid hR
      clear hR hd
      subst hin
      go_wp2
      go_ret
      exact ⟨rfl, HR.out, B1.out⟩

set_option maxRecDepth 100000 in
set_option maxHeartbeats 2000000 in
theorem heldIntSS_ok (A : Option Addr) (n c : Nat) (k : Int) (w : World) (hr : RRI w A n (mksR k n)) (hk : 0 ≤ k) (hk2 : k ≤ 1000000) :
    Calls Try.prog 21 #[.slice A n c, .int .i64 k] w fun e w' => e = .returned (.int .i64 (k + 10 * n)) ∧ w = w' := by
  obtain ⟨_, hn, b, off, hA, hc⟩ := hr
  have HC := hid hc
  clear hc
  go_enter Try.func21, Try.ntmps21
  go_wp2
  go_loopg [1, 5] n (fun gk u t wr => ∃ i : Nat, i ≤ n ∧ gk = n - i ∧ t = .int .i64 i ∧ u = .int .i64 (k + 10 * i) ∧ wr = w)
  case atStart => exact ⟨0, by omega, rfl, rfl, by go_num, rfl⟩
  case round =>
    obtain ⟨i, hi, hgk, rfl, rfl, rfl⟩ := hrel
    have HGk := hid hgk
    clear hgk
    by_cases hlt : i < n
    · obtain rfl : A = some ⟨b, off, none⟩ := by rcases hA with h | h; omega; exact h
      obtain ⟨Ar, cr, c0, r0⟩ := HC.out i hlt
      rw [mksR_get k hlt, marksI_len] at c0 r0
      have HH := hid (heldIntS_ok Ar 10 cr (k + 10 * i) _ r0 (by omega) (by omega) (by omega))
      clear hA r0
      go_wp2_with fail
      refine HH.out.mono ?_
      rintro e w1 ⟨rfl, rfl⟩
      have hq : ¬ k + 10 * (i : Int) + ((10 : Nat) : Int) < 0 := by omega
      go_wp2
      go_roundg (n - (i + 1))
      case measure => have := HGk.out; omega
      case rel => exact ⟨i + 1, by omega, rfl, by go_num, by go_num, rfl⟩
    · obtain rfl : i = n := by omega
      go_wp2
      go_ret
      exact ⟨rfl, rfl⟩

end Go.Proofs.Ytkhkcgoblibnpaa
