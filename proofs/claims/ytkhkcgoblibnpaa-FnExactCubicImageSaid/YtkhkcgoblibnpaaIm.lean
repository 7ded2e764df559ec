/-
  Contracts: the image of a point under cubics, of the program.
-/
import Derived.Test.YtkhkcgoblibnpaaCn
import Derived.Test.YtkhkcgoblibnpaaCv
import Derived.Test.YtkhkcgoblibnpaaMn
namespace Go.Proofs.Ytkhkcgoblibnpaa
open Go.RowKit
set_option linter.unusedVariables false
set_option linter.unusedSimpArgs false

/-- The values of cubics at a point. -/
def imR (p : Int) (rows : List (List Int)) (a : P3) : List Int := rows.map (fun s => dotTo s (cuI a) 10 % p)
def imV (p : Int) (rows : List (List Int)) (a : P3) : List Int := if zeroB (imR p rows a) then [] else rowS p (imR p rows a)
theorem imR_len (p : Int) (rows : List (List Int)) (a : P3) : (imR p rows a).length = rows.length := List.length_map _
theorem imR_mod (p : Int) (rows : List (List Int)) (a : P3) : modL p (imR p rows a) = imR p rows a := by
  unfold modL imR
  rw [List.map_map]
  exact List.map_congr_left fun x _ => Int.emod_emod_of_dvd _ (Int.dvd_refl p)
theorem imR_bd {p : Int} (hp : 1 ≤ p) (rows : List (List Int)) (a : P3) : ∀ x ∈ imR p rows a, 0 ≤ x ∧ x < p := fun x hx => by
  obtain ⟨s, _, rfl⟩ := List.mem_map.1 hx
  exact emod_rng hp _
theorem imR_take (p : Int) (rows : List (List Int)) (a : P3) {k : Nat} (h : k < rows.length) : imR p (rows.take (k + 1)) a = imR p (rows.take k) a ++ [dotTo (rows.getD k []) (cuI a) 10 % p] := by
  unfold imR
  exact map_take_succ' (fun s => dotTo s (cuI a) 10 % p) rows [] h

set_option maxRecDepth 100000 in
set_option maxHeartbeats 4000000 in
theorem imageOf_ok (p : Int) (A : Option Addr) (n c : Nat) (rows : List (List Int)) (x y z : Int) (w : World) (hp : isPrimeB p = true) (hr : RRI w A n rows) (hw : ∀ r ∈ rows, Rg p 10 r) (hn : 1 ≤ n) (hn2 : n ≤ 100)
    (hx : 0 ≤ x ∧ x ≤ 31) (hy : 0 ≤ y ∧ y ≤ 31) (hz : 0 ≤ z ∧ z ≤ 31) :
    Calls Try.prog 53 #[.int .i64 p, .slice A n c, .agg #[.int .i64 x, .int .i64 y, .int .i64 z]] w fun e w' => ∃ v, e = .returned v ∧ OI w' w.heap.size v (imV p rows (x, y, z)) ∧ Below w.heap.size w w' := by
  have hb := isPrimeB_bd hp
  have HB0 := hid (below_alloc w (.cells #[.int .i64 x, .int .i64 y, .int .i64 z] 35))
  have HR := hid (hr.below HB0.out)
  have HSz := hid (show (w.alloc (.cells #[.int .i64 x, .int .i64 y, .int .i64 z] 35)).heap.size = w.heap.size + 1 by simp)
  have hl := hr.1
  have HW := hid hw
  have HP := hid hp
  have HX := hid hx
  have HY := hid hy
  have HZ := hid hz
  have c0 : (w.alloc (.cells #[.int .i64 x, .int .i64 y, .int .i64 z] 35)).cell? ⟨w.heap.size, 0, none⟩ = some (.int .i64 x) := by rw [World.cell?_alloc_at _ _ _ _ rfl]; rfl
  have c1 : (w.alloc (.cells #[.int .i64 x, .int .i64 y, .int .i64 z] 35)).cell? ⟨w.heap.size, 1, none⟩ = some (.int .i64 y) := by rw [World.cell?_alloc_at _ _ _ _ rfl]; rfl
  have c2 : (w.alloc (.cells #[.int .i64 x, .int .i64 y, .int .i64 z] 35)).cell? ⟨w.heap.size, 2, none⟩ = some (.int .i64 z) := by rw [World.cell?_alloc_at _ _ _ _ rfl]; rfl
  have HC := hid (And.intro c0 (And.intro c1 c2))
  clear hr hw c0 c1 c2 hx hy hz hp
  go_enter Try.func53, Try.ntmps53
  go_wp2
  rw [← HSz.out]
  generalize w.alloc (.cells #[.int .i64 x, .int .i64 y, .int .i64 z] 35) = W at *
  go_loopg [7, 13] n (fun g v t wr => ∃ k : Nat, k ≤ n ∧ g = n - k ∧ t = .int .i64 k ∧ OI wr W.heap.size v (imR p (rows.take k) (x, y, z)) ∧ Below W.heap.size W wr)
  case atStart => exact ⟨0, by omega, by omega, rfl, World.ownsRow_lit W #[] 0 (Nat.le_refl _) (by decide) rfl, below_alloc _ _⟩
  case round =>
    obtain ⟨k, hk, hg, rfl, hO, hB⟩ := hrel
    have HG := hid hg
    have O1 := hid hO
    have B1 := hid hB
    clear hg hO hB
    by_cases hlt : k < n
    · obtain ⟨_, _, ba, oa, hA, hca⟩ := HR.out
      obtain rfl : A = some ⟨ba, oa, none⟩ := by rcases hA with h | h; omega; exact h
      obtain ⟨Ar, cr, ce, re⟩ := hca k hlt
      have hs := HW.out _ (getD_mem (d := []) (show k < rows.length by omega))
      have HT := hid (imR_take p rows (x, y, z) (show k < rows.length by omega))
      have HLn := hid (show (imR p (rows.take k) (x, y, z)).length < 17592186044416 by rw [imR_len, List.length_take]; omega)
      rw [hs.1] at ce re
      have ce' := cell_below B1.out ce
      have RE := hid (re.below B1.out)
      have HS := hid hs.2
      generalize rows.getD k [] = s at *
      have d0 := cell_below B1.out HC.out.1
      have d1 := cell_below B1.out HC.out.2.1
      have d2 := cell_below B1.out HC.out.2.2
      clear ce re hs hca hA
      go_wp2_with fail
      refine (cubes_ok x y z _ HX.out HY.out HZ.out).mono ?_
      rintro e w3 ⟨v3, rfl, o3, b3⟩
      obtain ⟨A3, c3, rfl, r3⟩ := o3.ri (by rw [cubesTo_length]; omega)
      have O3 := hid (O1.out.below b3)
      have B3 := hid (below_trans B1.out b3)
      have RE3 := hid (RE.out.below b3)
      rw [cubesTo_length] at r3 ⊢
      have R3 := hid r3
      clear b3 r3 o3 d0 d1 d2 ce'
      go_wp2_with fail
      refine (dot_ok p Ar 10 cr s A3 c3 (cubesTo x y z 10) _ RE3.out R3.out (by omega) (by omega) (by omega) ?_).mono ?_
      · intro i hi
        have h1 := getD_bd (by omega) (fun u hu => (show 0 ≤ u ∧ u ≤ 31 by have := HS.out u hu; omega)) i
        have h2 := cubes31 HX.out HY.out HZ.out i hi
        rw [cubesTo_get _ _ _ _ _ hi]
        have h3 := mul_bd h1.1 h2.1 h1.2 h2.2
        omega
      · rintro e w4 ⟨rfl, rfl⟩
        have hm := emod_rng (show 1 ≤ p by omega) (dotTo s (cubesTo x y z 10) 10)
        have HT' := hid (show imR p (rows.take (k + 1)) (x, y, z) = imR p (rows.take k) (x, y, z) ++ [dotTo s (cubesTo x y z 10) 10 % p] from HT.out)
        generalize dotTo s (cubesTo x y z 10) 10 % p = d at *
        clear HT
        go_wp2_with (at_builtin; refine append_int _ _ rfl rfl W.heap.size _ _ _ ⟨w3.heap.size, 0, none⟩ rfl rfl (O3.out.alloc _) (World.cell?_alloc_at _ _ _ _ rfl) HLn.out (size_alloc B3.out.size _) ?_; intro v' w1 hown hgrow; have HO1 := hid hown; have HGr := hid hgrow; clear hown hgrow)
        go_roundg (n - (k + 1))
        case measure => have := HG.out; omega
        case rel => exact ⟨k + 1, by omega, rfl, by go_num, by rw [HT'.out]; exact HO1.out, below_append B3.out B3.out.size O3.out HGr.out⟩
    · have hkn : k = n := by omega
      have HM := hid (show imR p (rows.take k) (x, y, z) = imR p rows (x, y, z) by rw [List.take_of_length_le (by omega)])
      have hO := O1.out
      rw [HM.out] at hO
      have hlen := imR_len p rows (x, y, z)
      have hbd := imR_bd (show 1 ≤ p by omega) rows (x, y, z)
      have hmd := imR_mod p rows (x, y, z)
      have HV := hid (show imV p rows (x, y, z) = if zeroB (imR p rows (x, y, z)) then [] else rowS p (imR p rows (x, y, z)) from rfl)
      clear HM O1
      generalize imR p rows (x, y, z) = R at *
      obtain ⟨AR, cR, rfl, rr⟩ := hO.ri (by omega)
      rw [show R.length = n by omega] at rr
      have RR := hid rr
      have HBd := hid (fun u hu => (show -1000000000000 ≤ u ∧ u ≤ 1000000000000 by have := hbd u hu; omega))
      have HSW := hid B1.out.size
      cases hz : zeroB R
      · have HZ1 := hid (show zeroB (modL p R) = false by rw [hmd]; exact hz)
        have HV1 := hid (show imV p rows (x, y, z) = rowS p R by rw [HV.out, hz]; rfl)
        have HMd := hid hmd
        have HLR := hid (show R.length = n by omega)
        clear hO rr hbd hz hmd
        go_wp2_with fail
        with_reducible refine (monic_one p AR n cR R _ HP.out RR.out (by have := HLR.out; omega) (by have := HLR.out; omega) HBd.out HZ1.out).mono ?_
        rintro e w5 ⟨g, cap, rfl, o5, b5⟩
        rw [HMd.out] at o5
        have O5 := hid (OI.mono o5 (Nat.le_trans HB0.out.size HSW.out))
        have B5 := hid (below_trans HB0.out (below_trans B1.out b5))
        clear o5 b5
        go_wp2
        go_ret
        exact ⟨_, rfl, by rw [HV1.out]; exact O5.out, B5.out⟩
      · have HZ1 := hid (show zeroB (modL p R) = true by rw [hmd]; exact hz)
        have HV1 := hid (show imV p rows (x, y, z) = [] by rw [HV.out, hz]; rfl)
        have HLR := hid (show R.length = n by omega)
        clear hO rr hbd hz hmd
        go_wp2_with fail
        refine (monic_zero p AR n cR R _ HP.out RR.out (by have := HLR.out; omega) (by have := HLR.out; omega) HBd.out HZ1.out).mono ?_
        rintro e w5 ⟨rfl, b5⟩
        have B5 := hid (below_trans HB0.out (below_trans B1.out b5))
        clear b5
        go_wp2
        go_ret
        exact ⟨_, rfl, by rw [HV1.out]; exact ⟨rfl, .inl ⟨rfl, rfl⟩⟩, B5.out⟩

end Go.Proofs.Ytkhkcgoblibnpaa
