/- The walk of the law FnExactIndicatorOf. -/
import Derived.Test.YtfeobejmkmhjhaaIndic
namespace Go.Proofs.Ytfeobejmkmhjhaa
set_option linter.unusedSimpArgs false
set_option linter.unusedVariables false
open Go.RowKit

theorem indR_len (n s : Int) : (indR n s).length ≤ 5 := by
  unfold indR
  split
  · rename_i h
    simp only [indOk, Bool.and_eq_true] at h
    have := inB_true.1 h.1
    rw [indic_length]; omega
  · simp
set_option maxHeartbeats 400000 in
theorem walk_FnExactIndicatorOf (a0 a1 : Int) (w : World) (w0 : (Lit.int .i64 a0).wf = true) (w1 : (Lit.int .i64 a1).wf = true) :
    Calls Try.prog 13 #[.int .i64 a0, .int .i64 a1] w fun e w' => e = .returned (.bool true) ∧ Below w.heap.size w w' := by
  clear w0 w1
  have hlen := indR_len a0 a1
  have hee : eqL (indR a0 a1) (indR a0 a1) = true := eqL_true.2 rfl
  obtain ⟨ok, hok⟩ : ∃ ok, ok = indOk a0 a1 := ⟨_, rfl⟩
  have c1 := fun w => c_spec_IndicatorOf a0 a1 w
  have c2 := fun w => c_impl_IndicatorOf a0 a1 w
  rw [← hok] at c1 c2
  have hbo : (ok != ok) = false := by simp
  have C1 := Lib.hid c1
  have C2 := Lib.hid c2
  clear hok c1 c2
  go_enter Try.func13, Try.ntmps13
  go_wp2_with fail
  refine (C1.out _).mono ?_
  rintro e w1 ⟨aw, cw, rfl, hw1, hb1⟩
  go_wp2_with fail
  refine (C2.out _).mono ?_
  rintro e w2 ⟨ag, cg, rfl, hg2, hb2⟩
  have hw2 := hw1.below hb2
  have bel2 := hb1.trans (hb2.mono hb1.size)
  have s12 := hb1.size
  have hne := hw1.ne_ hg2 (Nat.le_refl _)
  clear hw1 hb1 hb2
  go_wp2_with fail
  refine (c_eqIntS _ _ _ _ _ _ _ _ _ hg2.row hw2.row (by omega) (by omega)).mono ?_
  rintro e w' ⟨rfl, q1, rfl⟩
  go_wp2_with fail
  refine (c_markIntS _ _ _ _ _ _ _ (hg2.drewN q1) (by omega) (by omega) (by omega)).mono ?_
  rintro e w3 ⟨rfl, hg3, hgr⟩
  have hw3 := (hw2.drewN q1).grown hgr hne
  have bel3 : Below w.heap.size w w3 := below_grown (below_drewN bel2 q1) (hg2.drewN q1) hgr s12 (below_drewN bel2 q1).size
  clear hgr hg2 hw2 bel2
  go_wp2_with fail
  refine (c_heldIntS _ _ _ _ _ hg3.row (by omega) (by omega) (by omega)).mono ?_
  rintro e w' ⟨rfl, q2, rfl⟩
  go_wp2_with fail
  refine (C2.out _).mono ?_
  rintro e w4 ⟨ah, ch, rfl, hh4, hb4⟩
  have hw4 := (hw3.drewN q2).below hb4
  have hg4 := (hg3.drewN q2).below hb4
  have bel4 := (below_drewN bel3 q2).trans (hb4.mono (below_drewN bel3 q2).size)
  clear hw3 hg3 bel3 hb4
  go_wp2_with fail
  refine (c_eqIntS _ _ _ _ _ _ _ _ _ hh4.row hw4.row (by omega) (by omega)).mono ?_
  rintro e w' ⟨rfl, q3, rfl⟩
  go_wp2_with fail
  refine (c_heldIntS _ _ _ _ _ (hg4.drewN q3).row (by omega) (by omega) (by omega)).mono ?_
  rintro e w' ⟨rfl, q4, rfl⟩
  go_wp2
  go_ret
  exact ⟨rfl, below_drewN bel4 _⟩
end Go.Proofs.Ytfeobejmkmhjhaa
