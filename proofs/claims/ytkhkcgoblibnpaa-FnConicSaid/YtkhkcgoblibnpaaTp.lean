/-
  Contracts: the laws' own helpers on lists of points and on lists of rows.
-/
import Derived.Test.YtkhkcgoblibnpaaSg
import Derived.Test.YtkhkcgoblibnpaaMk
import Derived.Test.YtkhkcgoblibnpaaF
import Derived.Test.YtkhkcgoblibnpaaMi
import Derived.Test.YtkhkcgoblibnpaaExt
namespace Go.Proofs.Ytkhkcgoblibnpaa
open Go.RowKit
set_option linter.unusedVariables false
set_option linter.unusedSimpArgs false

theorem made3 (n : Nat) : (madeCells #[Value.int .i64 0, .int .i64 0, .int .i64 0] (n * 3)).toList = pcells (List.replicate n (0, 0, 0)) := by
  have h1 : pcells (List.replicate n (0, 0, 0)) = List.replicate (n * 3) (Value.int .i64 0) := by
    induction n with
    | zero => rfl
    | succ n ih =>
      rw [List.replicate_succ, show pcells (((0, 0, 0) : P3) :: List.replicate n (0, 0, 0)) = pc (0, 0, 0) ++ pcells (List.replicate n (0, 0, 0)) from rfl, ih, show (n + 1) * 3 = 3 + n * 3 by omega, ← List.replicate_append_replicate]
      rfl
  rw [h1]
  apply List.ext_getElem (by simp [madeCells])
  intro i h2 h3
  have : i % 3 = 0 ∨ i % 3 = 1 ∨ i % 3 = 2 := by omega
  simp only [madeCells, Array.getElem_toList, Array.getElem_map, Array.getElem_range, List.getElem_replicate]
  rcases this with h | h | h <;> simp [h]

theorem make_pts {ops : Array Oper} {rest : List Oper} {o : Oper} {a : Act} {Q : Exit → Act → World → Prop} {w : World} (l c : Operand) (hg : o.guard = none)
    (hop : o.op = Op.makeSlice 23 l c) (base n : Nat) (hl : a.eval l = .int .i64 n) (hc : a.eval c = .int .i64 n) (hn : n ≤ 10000000) (hb : base ≤ w.heap.size)
    (h : ∀ w', OP w' base (.slice (some ⟨w.heap.size, 0, none⟩) n n) (List.replicate n (0, 0, 0)) → w.grownBy w' none → wpList Try.prog ops Q rest (a.put o.dst (.slice (some ⟨w.heap.size, 0, none⟩) n n)) w') : wpList Try.prog ops Q (o :: rest) a w := by
  obtain ⟨i0, hi, hz0, hz1, hz2⟩ := info_parts infoPoint
  refine wpList_make_full w hg l c 23 hop base 35 i0 _ 3 Try.underlying23 hi hz0 hz1 .i64 .i64 n n n hl hc rfl rfl (by rw [hz2]; omega) (by unfold maxLen; omega) hb ?_
  intro w' h1 h2
  refine h w' ?_ h2
  unfold OP
  rw [List.length_replicate, ← made3]
  exact h1

set_option maxRecDepth 100000 in
set_option maxHeartbeats 4000000 in
theorem toPointS_ok (A : Option Addr) (n c : Nat) (ps : List P3) (w : World) (hr : RP w A n ps) (hn : n ≤ 1048576) :
    Calls Try.prog 16 #[.slice A n c] w fun e w' => e = .returned (.slice (some ⟨w.heap.size, 0, none⟩) n n) ∧ OP w' w.heap.size (.slice (some ⟨w.heap.size, 0, none⟩) n n) ps ∧ Below w.heap.size w w' := by
  have HR := hid hr
  have hl := hr.1
  clear hr
  go_enter Try.func16, Try.ntmps16
  go_wp2_with (at_make; refine make_pts _ _ rfl rfl w.heap.size n rfl rfl (by omega) (Nat.le_refl _) ?_; intro w1 hown hgrow; have HO := hid hown; have HG := hid hgrow; clear hown hgrow)
  go_loopg [4] n (fun g t wr => ∃ k : Nat, k ≤ n ∧ g = n - k ∧ t = .int .i64 k ∧ OP wr w.heap.size (.slice (some ⟨w.heap.size, 0, none⟩) n n) (ps.take k ++ List.replicate (n - k) (0, 0, 0)) ∧ Below w.heap.size w wr)
  case atStart => exact ⟨0, by omega, by omega, rfl, by simpa using HO.out, (Below.refl _ _).grown HG.out (Nat.le_refl _) (fun k hk => by cases hk)⟩
  case round =>
    obtain ⟨k, hk, hg, rfl, ho, hb⟩ := hrel
    have HG1 := hid hg
    have O1 := hid ho
    have B1 := hid hb
    clear hg ho hb
    by_cases hlt : k < n
    · obtain ⟨b, off, rfl⟩ := HR.out.addr (by omega)
      obtain ⟨a0, a1, a2⟩ := (HR.out.below B1.out).at3 hlt
      have hlen : (ps.take k ++ List.replicate (n - k) ((0, 0, 0) : P3)).length = n := by simp; omega
      have HT := hid (fun W => toPoint_ok (ps.getD k default).1 (ps.getD k default).2.1 (ps.getD k default).2.2 W)
      have HNx := hid (show (ps.take k ++ List.replicate (n - k) ((0, 0, 0) : P3)).set k (ps.getD k default) = ps.take (k + 1) ++ List.replicate (n - (k + 1)) (0, 0, 0) from by
        have h1 : (ps.take k).length = k := by simp; omega
        rw [List.set_append, if_neg (by omega), h1, Nat.sub_self, show n - k = (n - (k + 1)) + 1 by omega, List.replicate_succ, List.set_cons_zero, List.take_succ_eq_append_getElem (by omega), List.append_assoc]
        simp [List.getD_eq_getElem?_getD, List.getElem?_eq_getElem (show k < ps.length by omega)])
      have HLen := hid hlen
      obtain ⟨q, hq⟩ : ∃ q, ps.getD k default = q := ⟨_, rfl⟩
      rw [hq] at HT HNx a0 a1 a2
      clear hq hlen
      obtain ⟨x, y, z⟩ := q
      have a0 : wr.cell? ⟨b, off + k * 3, none⟩ = some (.int .i64 x) := a0
      have a1 : wr.cell? ⟨b, off + k * 3 + 1, none⟩ = some (.int .i64 y) := a1
      have a2 : wr.cell? ⟨b, off + k * 3 + 2, none⟩ = some (.int .i64 z) := a2
      have HT : Hid (∀ W, Calls Try.prog 23 #[.agg #[.int .i64 x, .int .i64 y, .int .i64 z]] W fun e w' => e = .returned (.agg #[.int .i64 x, .int .i64 y, .int .i64 z]) ∧ Below W.heap.size W w') := HT
      go_wp2_with fail
      refine (HT.out _).mono ?_
      rintro e w2 ⟨rfl, b2⟩
      have O2 := hid (O1.out.below b2)
      have B2 := hid (below_trans B1.out b2)
      have hw : w2.ownsRow w.heap.size 35 3 (.slice (some ⟨w.heap.size, 0, none⟩) n n) n (pcells (ps.take k ++ List.replicate (n - k) (0, 0, 0))) := by
        have h := O2.out
        unfold OP at h
        rwa [HLen.out] at h
      have s1 := World.ownsRow.stored hw (k * 3) (.int .i64 x)
      have s2 := World.ownsRow.stored s1.1 (k * 3 + 1) (.int .i64 y)
      have s3 := World.ownsRow.stored s2.1 (k * 3 + 2) (.int .i64 z)
      have f0 := World.ownsRow.frozenAt hw (k * 3)
      have f1 := World.ownsRow.frozenAt hw (k * 3 + 1)
      have f2 := World.ownsRow.frozenAt hw (k * 3 + 2)
      have hlp : (pcells (ps.take k ++ List.replicate (n - k) ((0, 0, 0) : P3))).length = n * 3 := by rw [pcells_length, HLen.out]
      obtain ⟨v0, hv0⟩ : ∃ v, w2.cell? ⟨w.heap.size, k * 3, none⟩ = some v := ⟨_, (World.ownsRow.cellAt hw (k * 3) (by omega)).trans (List.getElem?_eq_getElem (by omega))⟩
      obtain ⟨v1, hv1⟩ : ∃ v, w2.cell? ⟨w.heap.size, k * 3 + 1, none⟩ = some v := ⟨_, (World.ownsRow.cellAt hw (k * 3 + 1) (by omega)).trans (List.getElem?_eq_getElem (by omega))⟩
      obtain ⟨v2, hv2⟩ : ∃ v, w2.cell? ⟨w.heap.size, k * 3 + 2, none⟩ = some v := ⟨_, (World.ownsRow.cellAt hw (k * 3 + 2) (by omega)).trans (List.getElem?_eq_getElem (by omega))⟩
      have hset : (((pcells (ps.take k ++ List.replicate (n - k) ((0, 0, 0) : P3))).set (k * 3) (.int .i64 x)).set (k * 3 + 1) (.int .i64 y)).set (k * 3 + 2) (.int .i64 z) = pcells ((ps.take k ++ List.replicate (n - k) ((0, 0, 0) : P3)).set k (x, y, z)) := pcells_set _ k (x, y, z) (by rw [HLen.out]; exact hlt)
      rw [HNx.out] at hset
      have hs3 := s3.1
      rw [hset] at hs3
      have HlN := hid (show (ps.take (k + 1) ++ List.replicate (n - (k + 1)) ((0, 0, 0) : P3)).length = n by simp; omega)
      have S3 := hid hs3
      have G3 := hid (gb3 (gb3 s1.2 s2.2) s3.2)
      clear s1 s2 s3 hs3 hset hw b2 a0 a1 a2 hlp
      go_wp2
      go_roundg (n - (k + 1))
      case measure => have := HG1.out; omega
      case rel =>
        refine ⟨k + 1, by omega, rfl, by go_num, ?_, B2.out.grown G3.out B2.out.size (fun q hq => by cases hq; exact Nat.le_refl _)⟩
        unfold OP
        rw [HlN.out]
        exact S3.out
    · obtain rfl : k = n := by omega
      have O2 := hid (show OP wr w.heap.size (.slice (some ⟨w.heap.size, 0, none⟩) k k) ps from by
        have h := O1.out
        rwa [List.take_of_length_le (by omega), Nat.sub_self, List.replicate_zero, List.append_nil] at h)
      go_wp2
      go_ret
      exact ⟨rfl, O2.out, B1.out⟩

theorem szPointS_ok (A : Option Addr) (n c : Nat) (w : World) (hn : n ≤ 9223372036854775807) :
    Calls Try.prog 15 #[.slice A n c, .int .i64 1048576] w fun e w' => e = .returned (.int .i64 (if (1048576 : Int) - n < 0 then -1 else 1048576 - n)) ∧ w = w' := by
  by_cases h : (1048576 : Int) - n < 0
  · have HI := hid (show (if (1048576 : Int) - n < 0 then (-1 : Int) else 1048576 - n) = -1 from if_pos h)
    rw [HI.out]
    go_enter Try.func15, Try.ntmps15
    go_wp2
    go_ret
    exact ⟨rfl, rfl⟩
  · have HI := hid (show (if (1048576 : Int) - n < 0 then (-1 : Int) else 1048576 - n) = 1048576 - n from if_neg h)
    rw [HI.out]
    go_enter Try.func15, Try.ntmps15
    go_wp2
    go_ret
    exact ⟨rfl, rfl⟩

theorem sameInts_ok (A : Option Addr) (n c : Nat) (xs : List Int) (A' : Option Addr) (n' c' : Nat) (ys : List Int) (w : World) (hr : RI w A n xs) (hr' : RI w A' n' ys) :
    Calls Try.prog 36 #[.slice A n c, .slice A' n' c'] w fun e w' => e = .returned (.bool (xs == ys)) ∧ Below w.heap.size w w' := by
  obtain ⟨hl, hn, b, off, hA, hc⟩ := hr
  obtain ⟨hl', hn', b', off', hA', hc'⟩ := hr'
  have HC := hid hc
  have HC' := hid hc'
  clear hc hc'
  by_cases hnn : n = n'
  · subst hnn
    go_enter Try.func36, Try.ntmps36
    go_wp2
    go_loopw [5] (fun t wr => ∃ k : Nat, k ≤ n ∧ t = .int .i64 k ∧ (xs == ys) = (xs.drop k == ys.drop k) ∧ ∃ m, wr = w.drewN m) (fun t _ => n - (intOf t).toNat)
    case atStart => exact ⟨0, by omega, rfl, rfl, 0, rfl⟩
    case round =>
      obtain ⟨k, hk, rfl, hf, m, rfl⟩ := hrel
      have HF := hid hf
      clear hf
      by_cases hlt : k < n
      · obtain rfl : A = some ⟨b, off, none⟩ := by rcases hA with h | h; omega; exact h
        obtain rfl : A' = some ⟨b', off', none⟩ := by rcases hA' with h | h; omega; exact h
        have hcx := HC.out k hlt
        have hcx' := HC'.out k hlt
        have HE := hid (@drop_eq_cons xs ys k (by omega) (by omega))
        generalize xs.getD k 0 = x at *
        generalize ys.getD k 0 = y at *
        clear hA hA'
        cases hq : (x == y)
        · have HQ := hid hq
          have hq2 : (x != y) = true := by simpa using hq
          clear hq
          go_wp2
          go_quiet (fail)
          go_wp2
          go_ret
          exact ⟨by rw [HF.out, HE.out, HQ.out]; rfl, below_drewN (below_drewN (Below.refl _ _) _) _⟩
        · have HQ := hid hq
          have hq2 : (x != y) = false := by simpa using hq
          clear hq
          go_wp2
          go_quiet (fail)
          go_wp2
          go_roundw
          case rel => exact ⟨k + 1, by omega, by go_num, by rw [HF.out, HE.out, HQ.out]; rfl, _, rfl⟩
          case measure => simp [intOf]; omega
      · obtain rfl : k = n := by omega
        have HE := hid (show (xs == ys) = true by rw [HF.out, List.drop_eq_nil_of_le (by omega), List.drop_eq_nil_of_le (by omega)]; rfl)
        go_wp2
        go_ret
        exact ⟨by rw [HE.out]; rfl, below_drewN (Below.refl _ _) _⟩
  · have HE := hid (show (xs == ys) = false by simp; intro h; subst h; omega)
    have hne : ((n : Int) != (n' : Int)) = true := by simp; omega
    go_enter Try.func36, Try.ntmps36
    go_wp2
    go_ret
    exact ⟨by rw [HE.out]; rfl, Below.refl _ _⟩

/-- The same lists of rows. -/
theorem eqIntSS_ok (A B : Option Addr) (n c d : Nat) (rows : List (List Int)) (w : World) (hr : RRI w A n rows) (hs : RRI w B n rows) :
    Calls Try.prog 17 #[.slice A n c, .slice B n d] w fun e w' => e = .returned (.bool true) ∧ Below w.heap.size w w' := by
  obtain ⟨hl, hn, ba, oa, hA, hca⟩ := hr
  obtain ⟨_, _, bb, ob, hB, hcb⟩ := hs
  have HCa := hid hca
  have HCb := hid hcb
  clear hca hcb
  go_enter Try.func17, Try.ntmps17
  go_wp2
  go_loopg [5] n (fun g t wr => ∃ k : Nat, k ≤ n ∧ g = n - k ∧ t = .int .i64 k ∧ Below w.heap.size w wr)
  case atStart => exact ⟨0, by omega, by omega, rfl, Below.refl _ _⟩
  case round =>
    obtain ⟨k, hk, hg, rfl, hb⟩ := hrel
    have HG := hid hg
    have HB1 := hid hb
    clear hg hb
    by_cases hlt : k < n
    · obtain rfl : A = some ⟨ba, oa, none⟩ := by rcases hA with h | h; omega; exact h
      obtain rfl : B = some ⟨bb, ob, none⟩ := by rcases hB with h | h; omega; exact h
      obtain ⟨Ar, cr, c1, r1⟩ := HCa.out k hlt
      obtain ⟨Br, dr, c2, r2⟩ := HCb.out k hlt
      have f1 := ext_cell (cell_below HB1.out c1)
      have f2 := ext_cell (cell_below HB1.out c2)
      have HE := hid (fun (e : Ext wr) => eqIntS_ok Ar _ cr (rows.getD k []) Br _ dr (rows.getD k []) e.at_ ((r1.below HB1.out).below e.below) ((r2.below HB1.out).below e.below))
      rw [beq_self_eq_true] at HE
      clear hA hB c1 c2 r1 r2
      generalize (rows.getD k []).length = m at *
      go_wp2
      refine wp_region_ext (by kernel_rfl) (by kernel_rfl) ?_
      repeat (go_big_quiet_step ((go_at_call 25; exact ext_call (HE.out _))))
      refine wpQuiet_nil ?_
      rintro w5 ⟨⟨w6, b6⟩, hw⟩
      have hw' : w5 = w6 := hw
      clear hw
      subst hw'
      have B6 := hid (below_trans HB1.out b6)
      clear b6 f1 f2
      go_wp2
      go_roundg (n - (k + 1))
      case measure => have := HG.out; omega
      case rel => exact ⟨k + 1, by omega, rfl, by go_num, B6.out⟩
    · obtain rfl : k = n := by omega
      go_wp2
      go_ret
      exact ⟨rfl, HB1.out⟩

/-- The same lists of rows. -/
theorem sameRows_ok (A B : Option Addr) (n c d : Nat) (rows : List (List Int)) (w : World) (hr : RRI w A n rows) (hs : RRI w B n rows) :
    Calls Try.prog 13 #[.slice A n c, .slice B n d] w fun e w' => e = .returned (.bool true) ∧ Below w.heap.size w w' := by
  obtain ⟨hl, hn, ba, oa, hA, hca⟩ := hr
  obtain ⟨_, _, bb, ob, hB, hcb⟩ := hs
  have HCa := hid hca
  have HCb := hid hcb
  clear hca hcb
  go_enter Try.func13, Try.ntmps13
  go_wp2
  go_loopg [5] n (fun g t wr => ∃ k : Nat, k ≤ n ∧ g = n - k ∧ t = .int .i64 k ∧ Below w.heap.size w wr)
  case atStart => exact ⟨0, by omega, by omega, rfl, Below.refl _ _⟩
  case round =>
    obtain ⟨k, hk, hg, rfl, hb⟩ := hrel
    have HG := hid hg
    have HB1 := hid hb
    clear hg hb
    by_cases hlt : k < n
    · obtain rfl : A = some ⟨ba, oa, none⟩ := by rcases hA with h | h; omega; exact h
      obtain rfl : B = some ⟨bb, ob, none⟩ := by rcases hB with h | h; omega; exact h
      obtain ⟨Ar, cr, c1, r1⟩ := HCa.out k hlt
      obtain ⟨Br, dr, c2, r2⟩ := HCb.out k hlt
      have f1 := ext_cell (cell_below HB1.out c1)
      have f2 := ext_cell (cell_below HB1.out c2)
      have HE := hid (fun (e : Ext wr) => sameInts_ok Ar _ cr (rows.getD k []) Br _ dr (rows.getD k []) e.at_ ((r1.below HB1.out).below e.below) ((r2.below HB1.out).below e.below))
      rw [beq_self_eq_true] at HE
      clear hA hB c1 c2 r1 r2
      generalize (rows.getD k []).length = m at *
      go_wp2
      refine wp_region_ext (by kernel_rfl) (by kernel_rfl) ?_
      repeat (go_big_quiet_step ((go_at_call 36; exact ext_call (HE.out _))))
      refine wpQuiet_nil ?_
      rintro w5 ⟨⟨w6, b6⟩, hw⟩
      have hw' : w5 = w6 := hw
      clear hw
      subst hw'
      have B6 := hid (below_trans HB1.out b6)
      clear b6 f1 f2
      go_wp2
      go_roundg (n - (k + 1))
      case measure => have := HG.out; omega
      case rel => exact ⟨k + 1, by omega, rfl, by go_num, B6.out⟩
    · obtain rfl : k = n := by omega
      go_wp2
      go_ret
      exact ⟨rfl, HB1.out⟩

end Go.Proofs.Ytkhkcgoblibnpaa
