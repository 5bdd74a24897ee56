/- The walk of the law FnExactPairingOf. -/
import Derived.Test.YtfeobejmkmhjhaaVec
import Derived.Test.YtfeobejmkmhjhaaInRows
namespace Go.Proofs.Ytfeobejmkmhjhaa
set_option linter.unusedSimpArgs false
set_option linter.unusedVariables false
open Go.RowKit

set_option maxHeartbeats 400000 in
theorem walk_FnExactPairingOf (a0 : Option Addr) (n0 c0 : Nat) (z0 : List Int) (a1 : Option Addr) (n1 c1 : Nat) (z1 : List Int) (w : World) (w0 : InRow .i64 w a0 n0 c0 z0) (w1 : InRow .i64 w a1 n1 c1 z1) :
    Calls Try.prog 12 #[.slice a0 n0 c0, .slice a1 n1 c1] w fun e w' => e = .returned (.bool true) ∧ Below w.heap.size w w' := by
  obtain ⟨hr, hnc, hcm, _⟩ := w0
  obtain ⟨hr', hnc', hcm', _⟩ := w1
  unfold maxLen at hcm hcm'
  by_cases h : n0 ≤ 1048576
  · by_cases h' : n1 ≤ 1048576
    · have hzz : eqL z0 z0 = true := eqL_true.2 rfl
      have hzz' : eqL z1 z1 = true := eqL_true.2 rfl
      go_enter Try.func12, Try.ntmps12
      go_wp2_with fail
      refine (c_toIntS _ _ _ _ _ hr h).mono ?_
      rintro e w1 ⟨rfl, ho1, hb1⟩
      go_wp2_with fail
      refine (c_toIntS _ _ _ _ _ (hr'.below hb1) h').mono ?_
      rintro e w2 ⟨rfl, ho2, hb2⟩
      have bel2 := hb1.trans (hb2.mono hb1.size)
      have ho12 := ho1.below hb2
      go_wp2_with fail
      refine (c_spec_PairingOf _ _ _ _ _ _ _ _ _ ho12.row ho2.row h h').mono ?_
      rintro e w' ⟨rfl, q1, rfl⟩
      have bel1 := below_drewN bel2 q1
      have r1 := hr.below bel1
      clear ho1 hb1 ho12 ho2 hb2 bel2
      go_wp2_with fail
      refine (c_toIntS _ _ _ _ _ r1 h).mono ?_
      rintro e w3 ⟨rfl, ho3, hb3⟩
      have bel3 := bel1.trans (hb3.mono bel1.size)
      clear bel1 hb3 r1
      go_wp2_with fail
      refine (c_toIntS _ _ _ _ _ (hr'.below bel3) h').mono ?_
      rintro e w4 ⟨rfl, ho4, hb4⟩
      have bel4 := bel3.trans (hb4.mono bel3.size)
      have ho34 := ho3.below hb4
      clear bel3 hb4 ho3
      go_wp2_with fail
      refine (c_impl_PairingOf _ _ _ _ _ _ _ _ _ ho34.row ho4.row h h').mono ?_
      rintro e w' ⟨rfl, q2, rfl⟩
      have bel5 := below_drewN bel4 q2
      go_wp2_with fail
      refine (c_toIntS _ _ _ _ _ (hr.below bel5) h).mono ?_
      rintro e w5 ⟨rfl, ho5, hb5⟩
      have bel6 := bel5.trans (hb5.mono bel5.size)
      have ho35 := (ho34.drewN q2).below hb5
      have ho45 := (ho4.drewN q2).below hb5
      clear hb5 bel5 ho34 ho4 bel4
      go_wp2_with fail
      refine (c_eqIntS _ _ _ _ _ _ _ _ _ ho35.row ho5.row h h).mono ?_
      rintro e w' ⟨rfl, q3, rfl⟩
      have bel7 := below_drewN bel6 q3
      go_wp2_with fail
      refine (c_toIntS _ _ _ _ _ (hr'.below bel7) h').mono ?_
      rintro e w6 ⟨rfl, ho6, hb6⟩
      have bel8 := bel7.trans (hb6.mono bel7.size)
      have ho46 := (ho45.drewN q3).below hb6
      go_wp2_with fail
      refine (c_eqIntS _ _ _ _ _ _ _ _ _ ho46.row ho6.row h' h').mono ?_
      rintro e w' ⟨rfl, q4, rfl⟩
      go_wp2
      go_ret
      exact ⟨rfl, below_drewN bel8 _⟩
    · go_enter Try.func12, Try.ntmps12
      go_wp2
      go_ret
      exact ⟨rfl, Below.refl _ _⟩
  · go_enter Try.func12, Try.ntmps12
    go_wp2
    go_ret
    exact ⟨rfl, Below.refl _ _⟩
end Go.Proofs.Ytfeobejmkmhjhaa
