/-
  Contracts: the draws of six points.
-/
import Derived.Test.YtkhkcgoblibnpaaSx
namespace Go.Proofs.Ytkhkcgoblibnpaa
open Go.RowKit
set_option linter.unusedVariables false
set_option linter.unusedSimpArgs false

set_option maxRecDepth 100000 in
theorem l92Given_ok (A : Option Addr) (n c : Nat) (xs : List Int) (w : World) (hr : RB w A n c xs) :
    Calls Try.prog 38 #[.slice A n c] w fun e w' => ∃ (p : Int) (A' : Option Addr) (c' : Nat) (ps : List P3), e = .returned (.tuple #[.int .i64 p, .slice A' 6 c']) ∧ (5 ≤ p ∧ p ≤ 31) ∧ RP w' A' 6 ps ∧ 6 ≤ c' ∧ Below w.heap.size w w' := by
  go_enter Try.func38, Try.ntmps38
  go_wp2_with fail
  refine (l6Open_ok A n c xs w hr).mono ?_
  rintro e w1 ⟨R, rfl, hR, hd, hb⟩
  have HR := hid hR
  have HB := hid hb
  clear hR hb
  go_wp2_with fail
  refine (l92Six_ok R 0 w1 hd (by omega) (by omega)).mono ?_
  rintro e w2 ⟨p, v, ps, rfl, hp, ho, hl, _, hg⟩
  obtain ⟨A', c', rfl, hri, hc⟩ := ho.rpc (by omega)
  rw [hl] at hri hc ⊢
  have HRI := hid hri
  have HC := hid hc
  have HP := hid hp
  have HG := hid hg
  clear hg hd hri ho hp hc
  go_wp2
  go_ret2
  exact ⟨p, A', c', ps, rfl, HP.out, HRI.out, HC.out, gb_open HB.out HR.out HG.out⟩

theorem DrawCubicBase_ok (A : Option Addr) (n c : Nat) (xs : List Int) (w : World) (hr : RB w A n c xs) :
    Calls Try.prog 10 #[.slice A n c] w fun e w' => ∃ (p : Int) (A' : Option Addr) (c' : Nat) (ps : List P3), e = .returned (.tuple #[.int .i64 p, .slice A' 6 c']) ∧ (5 ≤ p ∧ p ≤ 31) ∧ RP w' A' 6 ps ∧ 6 ≤ c' ∧ Below w.heap.size w w' := by
  go_enter Try.func10, Try.ntmps10
  go_wp2_with fail
  refine (l92Given_ok A n c xs w hr).mono ?_
  rintro e w1 ⟨p, A', c', ps, rfl, hp, h1, h2, hb⟩
  have H := hid (And.intro hp (And.intro h1 (And.intro h2 hb)))
  clear hp h1 h2 hb
  go_wp2
  go_ret2
  exact ⟨p, A', c', ps, rfl, H.out.1, H.out.2.1, H.out.2.2.1, H.out.2.2.2⟩

theorem DrawPointGeneral_ok (A : Option Addr) (n c : Nat) (xs : List Int) (w : World) (hr : RB w A n c xs) :
    Calls Try.prog 32 #[.slice A n c] w fun e w' => ∃ (p : Int) (A' : Option Addr) (c' : Nat) (ps : List P3), e = .returned (.tuple #[.int .i64 p, .slice A' 6 c']) ∧ (5 ≤ p ∧ p ≤ 31) ∧ RP w' A' 6 ps ∧ 6 ≤ c' ∧ Below w.heap.size w w' := by
  go_enter Try.func32, Try.ntmps32
  go_wp2_with fail
  refine (l92Given_ok A n c xs w hr).mono ?_
  rintro e w1 ⟨p, A', c', ps, rfl, hp, h1, h2, hb⟩
  have H := hid (And.intro hp (And.intro h1 (And.intro h2 hb)))
  clear hp h1 h2 hb
  go_wp2
  go_ret2
  exact ⟨p, A', c', ps, rfl, H.out.1, H.out.2.1, H.out.2.2.1, H.out.2.2.2⟩

end Go.Proofs.Ytkhkcgoblibnpaa
