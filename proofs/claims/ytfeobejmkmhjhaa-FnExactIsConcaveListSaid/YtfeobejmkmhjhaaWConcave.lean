/- The walk of the law FnExactIsConcaveList. -/
import Derived.Test.YtfeobejmkmhjhaaConcave
import Derived.Test.YtfeobejmkmhjhaaInRows
namespace Go.Proofs.Ytfeobejmkmhjhaa
set_option linter.unusedSimpArgs false
set_option linter.unusedVariables false
open Go.RowKit

set_option maxHeartbeats 400000 in
theorem walk_FnExactIsConcaveList (a0 : Option Addr) (n0 c0 : Nat) (z0 : List Int) (w : World) (w0 : InRow .i64 w a0 n0 c0 z0) :
    Calls Try.prog 11 #[.slice a0 n0 c0] w fun e w' => e = .returned (.bool true) ∧ Below w.heap.size w w' := by
  obtain ⟨hr, hnc, hcm, _⟩ := w0
  unfold maxLen at hcm
  by_cases h : n0 ≤ 1048576
  · have hzz : eqL z0 z0 = true := eqL_true.2 rfl
    go_enter Try.func11, Try.ntmps11
    go_wp2_with fail
    refine (c_toIntS _ _ _ _ _ hr h).mono ?_
    rintro e w1 ⟨rfl, ho1, hb1⟩
    go_wp2_with fail
    refine (c_spec_IsConcaveList _ _ _ _ _ ho1.row h).mono ?_
    rintro e w' ⟨rfl, q1, rfl⟩
    have bel1 := below_drewN hb1 q1
    have r1 := hr.below bel1
    clear ho1 hb1
    go_wp2_with fail
    refine (c_toIntS _ _ _ _ _ r1 h).mono ?_
    rintro e w2 ⟨rfl, ho2, hb2⟩
    have bel2 := bel1.trans (hb2.mono bel1.size)
    clear bel1 hb2 r1
    go_wp2_with fail
    refine (c_impl_IsConcaveList _ _ _ _ _ ho2.row h).mono ?_
    rintro e w' ⟨rfl, q2, rfl⟩
    have r2 := hr.below (below_drewN bel2 q2)
    go_wp2_with fail
    refine (c_toIntS _ _ _ _ _ r2 h).mono ?_
    rintro e w3 ⟨rfl, ho3, hb3⟩
    have bel3 := (below_drewN bel2 q2).trans (hb3.mono (below_drewN bel2 q2).size)
    have ho23 := (ho2.drewN q2).below hb3
    go_wp2_with fail
    refine (c_eqIntS _ _ _ _ _ _ _ _ _ ho23.row ho3.row h h).mono ?_
    rintro e w' ⟨rfl, q3, rfl⟩
    go_wp2
    go_ret
    exact ⟨rfl, below_drewN bel3 _⟩
  · go_enter Try.func11, Try.ntmps11
    go_wp2
    go_ret
    exact ⟨rfl, Below.refl _ _⟩
end Go.Proofs.Ytfeobejmkmhjhaa
