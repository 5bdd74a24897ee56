/- The walk of the law FnExactConvolveFunctions. -/
import Derived.Test.YtijdamjfijkfjaaFar
import Derived.Test.YtijdamjfijkfjaaConv
import Derived.Test.YtijdamjfijkfjaaInRows
namespace Go.Proofs.Ytijdamjfijkfjaa
set_option linter.unusedSimpArgs false
set_option linter.unusedVariables false
open Go.RowKit

set_option maxHeartbeats 8000000 in
theorem walk_FnExactConvolveFunctions (e0 : Int) (a0 : Option Addr) (n0 c0 : Nat) (z0 : List Int) (e1 : Int) (a1 : Option Addr) (n1 c1 : Nat) (z1 : List Int) (w : World) (u0 : (Lit.int .i64 e0).wf = true) (w0 : InRow .i64 w a0 n0 c0 z0) (u1 : (Lit.int .i64 e1).wf = true) (w1 : InRow .i64 w a1 n1 c1 z1) :
    Calls Try.prog 12 #[.agg #[.int .i64 e0, .slice a0 n0 c0], .agg #[.int .i64 e1, .slice a1 n1 c1]] w fun e w' => e = .returned (.bool true) ∧ Below w.heap.size w w' := by
  obtain ⟨hr0, hnc0, hcm0, _⟩ := w0
  have hm0 : n0 ≤ maxLen := Nat.le_trans hnc0 hcm0
  obtain ⟨hr1, hnc1, hcm1, _⟩ := w1
  have hm1 : n1 ≤ maxLen := Nat.le_trans hnc1 hcm1
  by_cases h0 : n0 ≤ 1048576
  · skip
    by_cases h1 : n0 + n1 ≤ 1048576
    · skip
      have bel := Below.refl w.heap.size w
      have f0 := FBox.new w 24 e0 a0 n0 c0
      replace bel := bel.alloc bel.size (.cells #[.int .i64 e0, .slice a0 n0 c0] 24)
      have f1 := FBox.new (w.alloc (.cells #[.int .i64 e0, .slice a0 n0 c0] 24)) 24 e1 a1 n1 c1
      rw [World.size_alloc] at f1
      replace f0 := f0.alloc (.cells #[.int .i64 e1, .slice a1 n1 c1] 24)
      replace bel := bel.alloc bel.size (.cells #[.int .i64 e1, .slice a1 n1 c1] 24)
      have kf00 := f0.c0
      have kf01 := f0.c1
      have kf10 := f1.c0
      have kf11 := f1.c1
      have hz0 : eqL z0 z0 = true := eqL_true.2 rfl
      have hz1 : eqL z1 z1 = true := eqL_true.2 rfl
      go_enter Try.func12, Try.ntmps12
      go_wp2_with fail
      refine (c_szFunction_ok _ _ _ _ _ _ (by omega) (by omega) hm0 (by omega)).mono ?_
      rintro e w1' ⟨rfl, hb⟩
      replace bel := bel.trans (hb.mono bel.size)
      have SZ1 := Lib.hid hb.size
      replace f0 := f0.below hb
      replace kf00 := f0.c0
      replace kf01 := f0.c1
      replace f1 := f1.below hb
      replace kf10 := f1.c0
      replace kf11 := f1.c1
      clear hb
      go_wp2_with fail
      refine (c_szFunction_ok _ _ _ _ _ _ (by omega) (by omega) hm1 (by omega)).mono ?_
      rintro e w2' ⟨rfl, hb⟩
      replace bel := bel.trans (hb.mono bel.size)
      have SZ2 := Lib.hid hb.size
      replace f0 := f0.below hb
      replace kf00 := f0.c0
      replace kf01 := f0.c1
      replace f1 := f1.below hb
      replace kf10 := f1.c0
      replace kf11 := f1.c1
      clear hb
      go_wp2_with fail
      replace f0 := f0.drew
      replace f1 := f1.drew
      replace bel := bel.drew
      have nzf0d := Nat.ne_of_lt f0.lt
      have nzf1d := Nat.ne_of_lt f1.lt
      go_region_held3 (fun w' => w'.cell? ⟨w.heap.size, 0, none⟩ = some (.int .i64 e0) ∧ w'.cell? ⟨w.heap.size, 1, none⟩ = some (.slice a0 n0 c0) ∧ w'.cell? ⟨w.heap.size + 1, 0, none⟩ = some (.int .i64 e1) ∧ w'.cell? ⟨w.heap.size + 1, 1, none⟩ = some (.slice a1 n1 c1)) (go_keep)
        (first
          | (go_at_call_of 17 a0; (first | (refine (c_toFunction _ _ _ _ _ _ (hr0.below bel) (by omega)).mono ?_) | (have fw := FBox.new w2'.drew 26 0 none 0 0; have hzb := bel.size; (try simp only [World.size_drew] at fw); (try simp only [World.size_drew] at hzb); have hzf0 := Nat.ne_of_lt f0.lt; have hyf0 := (Nat.ne_of_lt f0.lt).symm; (try simp only [World.size_drew] at hzf0); (try simp only [World.size_drew] at hyf0); replace f0 := f0.alloc (.cells #[.int .i64 0, .slice none 0 0] 26); replace kf00 := f0.c0; replace kf01 := f0.c1; have hzf1 := Nat.ne_of_lt f1.lt; have hyf1 := (Nat.ne_of_lt f1.lt).symm; (try simp only [World.size_drew] at hzf1); (try simp only [World.size_drew] at hyf1); replace f1 := f1.alloc (.cells #[.int .i64 0, .slice none 0 0] 26); replace kf10 := f1.c0; replace kf11 := f1.c1; replace bel := bel.alloc bel.size (.cells #[.int .i64 0, .slice none 0 0] 26); refine (c_toFunction _ _ _ _ _ _ (hr0.below bel) (by omega)).mono ?_)); rintro e w3' ⟨gs0, rfl, hos0, hb⟩; have hb0 := hb; skip; replace bel := bel.trans (hb.mono bel.size); have SZ3 := Lib.hid hb.size; replace f0 := f0.below hb; replace kf00 := f0.c0; replace kf01 := f0.c1; replace f1 := f1.below hb; replace kf10 := f1.c0; replace kf11 := f1.c1; (try replace fw := fw.below hb0); clear hb0; have rgs0 := Lib.hid hos0.range; have nzf0q0 := Nat.ne_of_lt f0.lt; have nzf1q0 := Nat.ne_of_lt f1.lt; clear hb)
          | (go_at_call_of 17 a1; (first | (refine (c_toFunction _ _ _ _ _ _ (hr1.below bel) (by omega)).mono ?_) | (have fw := FBox.new w3' 26 0 none 0 0; have hzb := bel.size; have hzf0 := Nat.ne_of_lt f0.lt; have hyf0 := (Nat.ne_of_lt f0.lt).symm; replace f0 := f0.alloc (.cells #[.int .i64 0, .slice none 0 0] 26); replace kf00 := f0.c0; replace kf01 := f0.c1; have hzf1 := Nat.ne_of_lt f1.lt; have hyf1 := (Nat.ne_of_lt f1.lt).symm; replace f1 := f1.alloc (.cells #[.int .i64 0, .slice none 0 0] 26); replace kf10 := f1.c0; replace kf11 := f1.c1; have hzhos0 := hos0.range; replace hos0 := hos0.alloc (.cells #[.int .i64 0, .slice none 0 0] 26); replace bel := bel.alloc bel.size (.cells #[.int .i64 0, .slice none 0 0] 26); refine (c_toFunction _ _ _ _ _ _ (hr1.below bel) (by omega)).mono ?_)); rintro e w4' ⟨gs1, rfl, hos1, hb⟩; have hb0 := hb; skip; replace bel := bel.trans (hb.mono bel.size); have SZ4 := Lib.hid hb.size; replace f0 := f0.below hb; replace kf00 := f0.c0; replace kf01 := f0.c1; replace f1 := f1.below hb; replace kf10 := f1.c0; replace kf11 := f1.c1; replace hos0 := hos0.below hb; (try replace fw := fw.below hb0); clear hb0; have rgs1 := Lib.hid hos1.range; have nzf0q1 := Nat.ne_of_lt f0.lt; have nzf1q1 := Nat.ne_of_lt f1.lt; clear hb)
          | (go_at_call 42; (first | ((try have hzw := fw.lt); refine (c_spec_ConvolveFunctions _ _ _ _ _ _ _ _ _ _ _ hos0.row (by omega) hos1.row (by omega)).mono ?_) | (have fw := FBox.new w4' 26 0 none 0 0; have hzb := bel.size; have hzf0 := Nat.ne_of_lt f0.lt; have hyf0 := (Nat.ne_of_lt f0.lt).symm; replace f0 := f0.alloc (.cells #[.int .i64 0, .slice none 0 0] 26); replace kf00 := f0.c0; replace kf01 := f0.c1; have hzf1 := Nat.ne_of_lt f1.lt; have hyf1 := (Nat.ne_of_lt f1.lt).symm; replace f1 := f1.alloc (.cells #[.int .i64 0, .slice none 0 0] 26); replace kf10 := f1.c0; replace kf11 := f1.c1; have hzhos0 := hos0.range; replace hos0 := hos0.alloc (.cells #[.int .i64 0, .slice none 0 0] 26); have hzhos1 := hos1.range; replace hos1 := hos1.alloc (.cells #[.int .i64 0, .slice none 0 0] 26); replace bel := bel.alloc bel.size (.cells #[.int .i64 0, .slice none 0 0] 26); have hzw := fw.lt; refine (c_spec_ConvolveFunctions _ _ _ _ _ _ _ _ _ _ _ hos0.row (by omega) hos1.row (by omega)).mono ?_)); rintro e w5' ⟨aw, cw, rfl, how, hlw, hb⟩; have hb0 := hb; replace bel := bel.trans (hb.mono bel.size); have SZ5 := Lib.hid hb.size; replace f0 := f0.below hb; replace kf00 := f0.c0; replace kf01 := f0.c1; replace f1 := f1.below hb; replace kf10 := f1.c0; replace kf11 := f1.c1; replace hos0 := hos0.below hb; replace hos1 := hos1.below hb; (try (replace fw := fw.below hb0; have kz0 := fw.c0; have kz1 := fw.c1; have kzf := fw.free)); clear hb hb0; have nzf0r := Nat.ne_of_lt f0.lt; have nzf1r := Nat.ne_of_lt f1.lt; have rgw := Lib.hid how.range))
      all_goals
        clear hos0 rgs0
        clear hos1 rgs1
        first
          | (replace fw := fw.set2 (gN (alikeB e0 z0 e1 z1) e0 (tabOf e0 (convV z0 z1))) aw (gL (alikeB e0 z0 e1 z1) e0 (tabOf e0 (convV z0 z1))).length cw; replace f0 := f0.far2 hzf0 (.int .i64 (gN (alikeB e0 z0 e1 z1) e0 (tabOf e0 (convV z0 z1)))) (.slice aw (gL (alikeB e0 z0 e1 z1) e0 (tabOf e0 (convV z0 z1))).length cw); replace f1 := f1.far2 hzf1 (.int .i64 (gN (alikeB e0 z0 e1 z1) e0 (tabOf e0 (convV z0 z1)))) (.slice aw (gL (alikeB e0 z0 e1 z1) e0 (tabOf e0 (convV z0 z1))).length cw); replace how := own_set2 how hzw (.int .i64 (gN (alikeB e0 z0 e1 z1) e0 (tabOf e0 (convV z0 z1)))) (.slice aw (gL (alikeB e0 z0 e1 z1) e0 (tabOf e0 (convV z0 z1))).length cw); replace bel := below_set2 bel hzb (.int .i64 (gN (alikeB e0 z0 e1 z1) e0 (tabOf e0 (convV z0 z1)))) (.slice aw (gL (alikeB e0 z0 e1 z1) e0 (tabOf e0 (convV z0 z1))).length cw))
          | (replace f0 := f0.alloc (.cells #[.int .i64 (gN (alikeB e0 z0 e1 z1) e0 (tabOf e0 (convV z0 z1))), .slice aw (gL (alikeB e0 z0 e1 z1) e0 (tabOf e0 (convV z0 z1))).length cw] 26); replace f1 := f1.alloc (.cells #[.int .i64 (gN (alikeB e0 z0 e1 z1) e0 (tabOf e0 (convV z0 z1))), .slice aw (gL (alikeB e0 z0 e1 z1) e0 (tabOf e0 (convV z0 z1))).length cw] 26); have fw := FBox.new w5' 26 (gN (alikeB e0 z0 e1 z1) e0 (tabOf e0 (convV z0 z1))) aw (gL (alikeB e0 z0 e1 z1) e0 (tabOf e0 (convV z0 z1))).length cw; replace how := how.alloc (.cells #[.int .i64 (gN (alikeB e0 z0 e1 z1) e0 (tabOf e0 (convV z0 z1))), .slice aw (gL (alikeB e0 z0 e1 z1) e0 (tabOf e0 (convV z0 z1))).length cw] 26); replace bel := bel.alloc bel.size (.cells #[.int .i64 (gN (alikeB e0 z0 e1 z1) e0 (tabOf e0 (convV z0 z1))), .slice aw (gL (alikeB e0 z0 e1 z1) e0 (tabOf e0 (convV z0 z1))).length cw] 26))
        replace kf00 := f0.c0
        replace kf01 := f0.c1
        replace kf10 := f1.c0
        replace kf11 := f1.c1
        have kfw0 := fw.c0
        have kfw1 := fw.c1
        go_wp2_with fail
        refine (c_toFunction _ _ _ _ _ _ (hr0.below bel) (by omega)).mono ?_
        rintro e w6' ⟨gx0, rfl, hox0, hb⟩
        replace bel := bel.trans (hb.mono bel.size)
        have SZ6 := Lib.hid hb.size
        replace f0 := f0.below hb
        replace kf00 := f0.c0
        replace kf01 := f0.c1
        replace f1 := f1.below hb
        replace kf10 := f1.c0
        replace kf11 := f1.c1
        replace fw := fw.below hb
        replace kfw0 := fw.c0
        replace kfw1 := fw.c1
        replace how := how.below hb
        clear hb
        have rgx0 := Lib.hid hox0.range
        replace f0 := f0.alloc (.cells #[.int .i64 e0, .slice (some ⟨gx0, 0, none⟩) n0 n0] 26)
        replace f1 := f1.alloc (.cells #[.int .i64 e0, .slice (some ⟨gx0, 0, none⟩) n0 n0] 26)
        replace fw := fw.alloc (.cells #[.int .i64 e0, .slice (some ⟨gx0, 0, none⟩) n0 n0] 26)
        have fx0 := FBox.new w6' 26 e0 (some ⟨gx0, 0, none⟩) n0 n0
        replace kf00 := f0.c0
        replace kf01 := f0.c1
        replace kf10 := f1.c0
        replace kf11 := f1.c1
        replace kfw0 := fw.c0
        replace kfw1 := fw.c1
        replace how := how.alloc (.cells #[.int .i64 e0, .slice (some ⟨gx0, 0, none⟩) n0 n0] 26)
        replace hox0 := hox0.alloc (.cells #[.int .i64 e0, .slice (some ⟨gx0, 0, none⟩) n0 n0] 26)
        replace bel := bel.alloc bel.size (.cells #[.int .i64 e0, .slice (some ⟨gx0, 0, none⟩) n0 n0] 26)
        go_wp2_with fail
        refine (c_toFunction _ _ _ _ _ _ (hr1.below bel) (by omega)).mono ?_
        rintro e w7' ⟨gx1, rfl, hox1, hb⟩
        replace bel := bel.trans (hb.mono bel.size)
        have SZ7 := Lib.hid hb.size
        replace f0 := f0.below hb
        replace kf00 := f0.c0
        replace kf01 := f0.c1
        replace f1 := f1.below hb
        replace kf10 := f1.c0
        replace kf11 := f1.c1
        replace fw := fw.below hb
        replace kfw0 := fw.c0
        replace kfw1 := fw.c1
        replace fx0 := fx0.below hb
        have kfx00 := fx0.c0
        have kfx01 := fx0.c1
        replace how := how.below hb
        replace hox0 := hox0.below hb
        clear hb
        have rgx1 := Lib.hid hox1.range
        replace f0 := f0.alloc (.cells #[.int .i64 e1, .slice (some ⟨gx1, 0, none⟩) n1 n1] 26)
        replace f1 := f1.alloc (.cells #[.int .i64 e1, .slice (some ⟨gx1, 0, none⟩) n1 n1] 26)
        replace fw := fw.alloc (.cells #[.int .i64 e1, .slice (some ⟨gx1, 0, none⟩) n1 n1] 26)
        replace fx0 := fx0.alloc (.cells #[.int .i64 e1, .slice (some ⟨gx1, 0, none⟩) n1 n1] 26)
        have fx1 := FBox.new w7' 26 e1 (some ⟨gx1, 0, none⟩) n1 n1
        replace kf00 := f0.c0
        replace kf01 := f0.c1
        replace kf10 := f1.c0
        replace kf11 := f1.c1
        replace kfw0 := fw.c0
        replace kfw1 := fw.c1
        replace kfx00 := fx0.c0
        replace kfx01 := fx0.c1
        replace how := how.alloc (.cells #[.int .i64 e1, .slice (some ⟨gx1, 0, none⟩) n1 n1] 26)
        replace hox0 := hox0.alloc (.cells #[.int .i64 e1, .slice (some ⟨gx1, 0, none⟩) n1 n1] 26)
        replace hox1 := hox1.alloc (.cells #[.int .i64 e1, .slice (some ⟨gx1, 0, none⟩) n1 n1] 26)
        replace bel := bel.alloc bel.size (.cells #[.int .i64 e1, .slice (some ⟨gx1, 0, none⟩) n1 n1] 26)
        go_wp2_with fail
        refine (c_impl_ConvolveFunctions _ _ _ _ _ _ _ _ _ _ _ hox0.row (by omega) hox1.row (by omega)).mono ?_
        rintro e w8' ⟨ag, cg, rfl, hog, hlg, hb⟩
        replace bel := bel.trans (hb.mono bel.size)
        have SZ8 := Lib.hid hb.size
        replace f0 := f0.below hb
        replace kf00 := f0.c0
        replace kf01 := f0.c1
        replace f1 := f1.below hb
        replace kf10 := f1.c0
        replace kf11 := f1.c1
        replace fw := fw.below hb
        replace kfw0 := fw.c0
        replace kfw1 := fw.c1
        replace fx0 := fx0.below hb
        replace kfx00 := fx0.c0
        replace kfx01 := fx0.c1
        replace fx1 := fx1.below hb
        have kfx10 := fx1.c0
        have kfx11 := fx1.c1
        replace how := how.below hb
        replace hox0 := hox0.below hb
        replace hox1 := hox1.below hb
        clear hb
        have rgg := Lib.hid hog.range
        replace f0 := f0.alloc (.cells #[.int .i64 (gN (alikeB e0 z0 e1 z1) e0 (tabOf e0 (convV z0 z1))), .slice ag (gL (alikeB e0 z0 e1 z1) e0 (tabOf e0 (convV z0 z1))).length cg] 26)
        replace f1 := f1.alloc (.cells #[.int .i64 (gN (alikeB e0 z0 e1 z1) e0 (tabOf e0 (convV z0 z1))), .slice ag (gL (alikeB e0 z0 e1 z1) e0 (tabOf e0 (convV z0 z1))).length cg] 26)
        replace fw := fw.alloc (.cells #[.int .i64 (gN (alikeB e0 z0 e1 z1) e0 (tabOf e0 (convV z0 z1))), .slice ag (gL (alikeB e0 z0 e1 z1) e0 (tabOf e0 (convV z0 z1))).length cg] 26)
        replace fx0 := fx0.alloc (.cells #[.int .i64 (gN (alikeB e0 z0 e1 z1) e0 (tabOf e0 (convV z0 z1))), .slice ag (gL (alikeB e0 z0 e1 z1) e0 (tabOf e0 (convV z0 z1))).length cg] 26)
        replace fx1 := fx1.alloc (.cells #[.int .i64 (gN (alikeB e0 z0 e1 z1) e0 (tabOf e0 (convV z0 z1))), .slice ag (gL (alikeB e0 z0 e1 z1) e0 (tabOf e0 (convV z0 z1))).length cg] 26)
        have fg := FBox.new w8' 26 ((gN (alikeB e0 z0 e1 z1) e0 (tabOf e0 (convV z0 z1)))) ag (gL (alikeB e0 z0 e1 z1) e0 (tabOf e0 (convV z0 z1))).length cg
        replace kf00 := f0.c0
        replace kf01 := f0.c1
        replace kf10 := f1.c0
        replace kf11 := f1.c1
        replace kfw0 := fw.c0
        replace kfw1 := fw.c1
        replace kfx00 := fx0.c0
        replace kfx01 := fx0.c1
        replace kfx10 := fx1.c0
        replace kfx11 := fx1.c1
        replace how := how.alloc (.cells #[.int .i64 (gN (alikeB e0 z0 e1 z1) e0 (tabOf e0 (convV z0 z1))), .slice ag (gL (alikeB e0 z0 e1 z1) e0 (tabOf e0 (convV z0 z1))).length cg] 26)
        replace hox0 := hox0.alloc (.cells #[.int .i64 (gN (alikeB e0 z0 e1 z1) e0 (tabOf e0 (convV z0 z1))), .slice ag (gL (alikeB e0 z0 e1 z1) e0 (tabOf e0 (convV z0 z1))).length cg] 26)
        replace hox1 := hox1.alloc (.cells #[.int .i64 (gN (alikeB e0 z0 e1 z1) e0 (tabOf e0 (convV z0 z1))), .slice ag (gL (alikeB e0 z0 e1 z1) e0 (tabOf e0 (convV z0 z1))).length cg] 26)
        replace hog := hog.alloc (.cells #[.int .i64 (gN (alikeB e0 z0 e1 z1) e0 (tabOf e0 (convV z0 z1))), .slice ag (gL (alikeB e0 z0 e1 z1) e0 (tabOf e0 (convV z0 z1))).length cg] 26)
        replace bel := bel.alloc bel.size (.cells #[.int .i64 (gN (alikeB e0 z0 e1 z1) e0 (tabOf e0 (convV z0 z1))), .slice ag (gL (alikeB e0 z0 e1 z1) e0 (tabOf e0 (convV z0 z1))).length cg] 26)
        go_wp2_with fail
        refine (c_eqFunction_same _ _ _ _ _ _ _ _ _ hog.row how.row hlg hlw).mono ?_
        rintro e w9' ⟨rfl, hb⟩
        replace bel := bel.trans (hb.mono bel.size)
        have SZ9 := Lib.hid hb.size
        replace f0 := f0.below hb
        replace kf00 := f0.c0
        replace kf01 := f0.c1
        replace f1 := f1.below hb
        replace kf10 := f1.c0
        replace kf11 := f1.c1
        replace fw := fw.below hb
        replace kfw0 := fw.c0
        replace kfw1 := fw.c1
        replace fx0 := fx0.below hb
        replace kfx00 := fx0.c0
        replace kfx01 := fx0.c1
        replace fx1 := fx1.below hb
        replace kfx10 := fx1.c0
        replace kfx11 := fx1.c1
        replace fg := fg.below hb
        have kfg0 := fg.c0
        have kfg1 := fg.c1
        replace how := how.below hb
        replace hox0 := hox0.below hb
        replace hox1 := hox1.below hb
        replace hog := hog.below hb
        clear hb
        go_wp2_with fail
        replace f0 := f0.drew
        replace f1 := f1.drew
        replace fw := fw.drew
        replace fx0 := fx0.drew
        replace fx1 := fx1.drew
        replace fg := fg.drew
        replace how := how.drew
        replace hox0 := hox0.drew
        replace hox1 := hox1.drew
        replace hog := hog.drew
        replace bel := bel.drew
        go_region_held3 (fun w' => w'.cell? ⟨w.heap.size, 0, none⟩ = some (.int .i64 e0) ∧ w'.cell? ⟨w.heap.size, 1, none⟩ = some (.slice a0 n0 c0) ∧ w'.cell? ⟨w6'.heap.size, 0, none⟩ = some (.int .i64 e0) ∧ w'.cell? ⟨w6'.heap.size, 1, none⟩ = some (.slice (some ⟨gx0, 0, none⟩) n0 n0)) (go_keep)
          (first
            | (go_at_call 17; refine (c_toFunction _ _ _ _ _ _ (hr0.below bel) (by omega)).mono ?_; rintro e w10' ⟨gt0, rfl, hot0, hb⟩; replace bel := bel.trans (hb.mono bel.size); have SZ10 := Lib.hid hb.size; replace f0 := f0.below hb; replace kf00 := f0.c0; replace kf01 := f0.c1; replace f1 := f1.below hb; replace kf10 := f1.c0; replace kf11 := f1.c1; replace fw := fw.below hb; replace kfw0 := fw.c0; replace kfw1 := fw.c1; replace fx0 := fx0.below hb; replace kfx00 := fx0.c0; replace kfx01 := fx0.c1; replace fx1 := fx1.below hb; replace kfx10 := fx1.c0; replace kfx11 := fx1.c1; replace fg := fg.below hb; replace kfg0 := fg.c0; replace kfg1 := fg.c1; replace how := how.below hb; replace hox0 := hox0.below hb; replace hox1 := hox1.below hb; replace hog := hog.below hb; clear hb)
            | (go_at_call 19; refine (c_eqFunction_same _ _ _ _ _ _ _ _ _ hox0.row hot0.row (by omega) (by omega)).mono ?_; rintro e w11' ⟨rfl, hb⟩; replace bel := bel.trans (hb.mono bel.size); have SZ11 := Lib.hid hb.size; replace f0 := f0.below hb; replace kf00 := f0.c0; replace kf01 := f0.c1; replace f1 := f1.below hb; replace kf10 := f1.c0; replace kf11 := f1.c1; replace fw := fw.below hb; replace kfw0 := fw.c0; replace kfw1 := fw.c1; replace fx0 := fx0.below hb; replace kfx00 := fx0.c0; replace kfx01 := fx0.c1; replace fx1 := fx1.below hb; replace kfx10 := fx1.c0; replace kfx11 := fx1.c1; replace fg := fg.below hb; replace kfg0 := fg.c0; replace kfg1 := fg.c1; replace how := how.below hb; replace hox0 := hox0.below hb; replace hox1 := hox1.below hb; replace hog := hog.below hb; replace hot0 := hot0.below hb; clear hb))
        clear hot0
        go_wp2_with fail
        replace f0 := f0.drew
        replace f1 := f1.drew
        replace fw := fw.drew
        replace fx0 := fx0.drew
        replace fx1 := fx1.drew
        replace fg := fg.drew
        replace how := how.drew
        replace hox0 := hox0.drew
        replace hox1 := hox1.drew
        replace hog := hog.drew
        replace bel := bel.drew
        go_region_held3 (fun w' => w'.cell? ⟨w.heap.size + 1, 0, none⟩ = some (.int .i64 e1) ∧ w'.cell? ⟨w.heap.size + 1, 1, none⟩ = some (.slice a1 n1 c1) ∧ w'.cell? ⟨w7'.heap.size, 0, none⟩ = some (.int .i64 e1) ∧ w'.cell? ⟨w7'.heap.size, 1, none⟩ = some (.slice (some ⟨gx1, 0, none⟩) n1 n1)) (go_keep)
          (first
            | (go_at_call 17; refine (c_toFunction _ _ _ _ _ _ (hr1.below bel) (by omega)).mono ?_; rintro e w12' ⟨gt1, rfl, hot1, hb⟩; replace bel := bel.trans (hb.mono bel.size); have SZ12 := Lib.hid hb.size; replace f0 := f0.below hb; replace kf00 := f0.c0; replace kf01 := f0.c1; replace f1 := f1.below hb; replace kf10 := f1.c0; replace kf11 := f1.c1; replace fw := fw.below hb; replace kfw0 := fw.c0; replace kfw1 := fw.c1; replace fx0 := fx0.below hb; replace kfx00 := fx0.c0; replace kfx01 := fx0.c1; replace fx1 := fx1.below hb; replace kfx10 := fx1.c0; replace kfx11 := fx1.c1; replace fg := fg.below hb; replace kfg0 := fg.c0; replace kfg1 := fg.c1; replace how := how.below hb; replace hox0 := hox0.below hb; replace hox1 := hox1.below hb; replace hog := hog.below hb; clear hb)
            | (go_at_call 19; refine (c_eqFunction_same _ _ _ _ _ _ _ _ _ hox1.row hot1.row (by omega) (by omega)).mono ?_; rintro e w13' ⟨rfl, hb⟩; replace bel := bel.trans (hb.mono bel.size); have SZ13 := Lib.hid hb.size; replace f0 := f0.below hb; replace kf00 := f0.c0; replace kf01 := f0.c1; replace f1 := f1.below hb; replace kf10 := f1.c0; replace kf11 := f1.c1; replace fw := fw.below hb; replace kfw0 := fw.c0; replace kfw1 := fw.c1; replace fx0 := fx0.below hb; replace kfx00 := fx0.c0; replace kfx01 := fx0.c1; replace fx1 := fx1.below hb; replace kfx10 := fx1.c0; replace kfx11 := fx1.c1; replace fg := fg.below hb; replace kfg0 := fg.c0; replace kfg1 := fg.c1; replace how := how.below hb; replace hox0 := hox0.below hb; replace hox1 := hox1.below hb; replace hog := hog.below hb; replace hot1 := hot1.below hb; clear hb))
        clear hot1
        go_wp2_with fail
        refine (c_markFunction _ _ _ _ _ _ _ _ hox0 (by omega) (by omega) (by omega)).mono ?_
        rintro e w14' ⟨rfl, hkx0, hg⟩
        have SZ14 := Lib.hid hg.size
        replace f0 := f0.grown hg (row_apart rgx0.out (by have s0 := SZ1.out; have s1 := SZ2.out; have s2 := SZ3.out; have s3 := SZ4.out; have s4 := SZ5.out; have s5 := SZ6.out; have s6 := SZ7.out; have s7 := SZ8.out; have s8 := SZ9.out; have s9 := SZ10.out; have s10 := SZ11.out; have s11 := SZ12.out; have s12 := SZ13.out; first | omega | (simp only [World.size_alloc, World.size_drew, World.size_setCell] at *; omega)))
        replace kf00 := f0.c0
        replace kf01 := f0.c1
        replace f1 := f1.grown hg (row_apart rgx0.out (by have s0 := SZ1.out; have s1 := SZ2.out; have s2 := SZ3.out; have s3 := SZ4.out; have s4 := SZ5.out; have s5 := SZ6.out; have s6 := SZ7.out; have s7 := SZ8.out; have s8 := SZ9.out; have s9 := SZ10.out; have s10 := SZ11.out; have s11 := SZ12.out; have s12 := SZ13.out; first | omega | (simp only [World.size_alloc, World.size_drew, World.size_setCell] at *; omega)))
        replace kf10 := f1.c0
        replace kf11 := f1.c1
        replace fw := fw.grown hg (row_apart rgx0.out (by have s0 := SZ1.out; have s1 := SZ2.out; have s2 := SZ3.out; have s3 := SZ4.out; have s4 := SZ5.out; have s5 := SZ6.out; have s6 := SZ7.out; have s7 := SZ8.out; have s8 := SZ9.out; have s9 := SZ10.out; have s10 := SZ11.out; have s11 := SZ12.out; have s12 := SZ13.out; first | omega | (simp only [World.size_alloc, World.size_drew, World.size_setCell] at *; omega)))
        replace kfw0 := fw.c0
        replace kfw1 := fw.c1
        replace fx0 := fx0.grown hg (row_apart rgx0.out (by have s0 := SZ1.out; have s1 := SZ2.out; have s2 := SZ3.out; have s3 := SZ4.out; have s4 := SZ5.out; have s5 := SZ6.out; have s6 := SZ7.out; have s7 := SZ8.out; have s8 := SZ9.out; have s9 := SZ10.out; have s10 := SZ11.out; have s11 := SZ12.out; have s12 := SZ13.out; first | omega | (simp only [World.size_alloc, World.size_drew, World.size_setCell] at *; omega)))
        replace kfx00 := fx0.c0
        replace kfx01 := fx0.c1
        replace fx1 := fx1.grown hg (row_apart rgx0.out (by have s0 := SZ1.out; have s1 := SZ2.out; have s2 := SZ3.out; have s3 := SZ4.out; have s4 := SZ5.out; have s5 := SZ6.out; have s6 := SZ7.out; have s7 := SZ8.out; have s8 := SZ9.out; have s9 := SZ10.out; have s10 := SZ11.out; have s11 := SZ12.out; have s12 := SZ13.out; first | omega | (simp only [World.size_alloc, World.size_drew, World.size_setCell] at *; omega)))
        replace kfx10 := fx1.c0
        replace kfx11 := fx1.c1
        replace fg := fg.grown hg (row_apart rgx0.out (by have s0 := SZ1.out; have s1 := SZ2.out; have s2 := SZ3.out; have s3 := SZ4.out; have s4 := SZ5.out; have s5 := SZ6.out; have s6 := SZ7.out; have s7 := SZ8.out; have s8 := SZ9.out; have s9 := SZ10.out; have s10 := SZ11.out; have s11 := SZ12.out; have s12 := SZ13.out; first | omega | (simp only [World.size_alloc, World.size_drew, World.size_setCell] at *; omega)))
        replace kfg0 := fg.c0
        replace kfg1 := fg.c1
        replace how := how.grown hg (own_apart rgx0.out rgw.out (by have s0 := SZ1.out; have s1 := SZ2.out; have s2 := SZ3.out; have s3 := SZ4.out; have s4 := SZ5.out; have s5 := SZ6.out; have s6 := SZ7.out; have s7 := SZ8.out; have s8 := SZ9.out; have s9 := SZ10.out; have s10 := SZ11.out; have s11 := SZ12.out; have s12 := SZ13.out; first | omega | (simp only [World.size_alloc, World.size_drew, World.size_setCell] at *; omega)))
        replace hox1 := hox1.grown hg (own_apart rgx0.out rgx1.out (by have s0 := SZ1.out; have s1 := SZ2.out; have s2 := SZ3.out; have s3 := SZ4.out; have s4 := SZ5.out; have s5 := SZ6.out; have s6 := SZ7.out; have s7 := SZ8.out; have s8 := SZ9.out; have s9 := SZ10.out; have s10 := SZ11.out; have s11 := SZ12.out; have s12 := SZ13.out; first | omega | (simp only [World.size_alloc, World.size_drew, World.size_setCell] at *; omega)))
        replace hog := hog.grown hg (own_apart rgx0.out rgg.out (by have s0 := SZ1.out; have s1 := SZ2.out; have s2 := SZ3.out; have s3 := SZ4.out; have s4 := SZ5.out; have s5 := SZ6.out; have s6 := SZ7.out; have s7 := SZ8.out; have s8 := SZ9.out; have s9 := SZ10.out; have s10 := SZ11.out; have s11 := SZ12.out; have s12 := SZ13.out; first | omega | (simp only [World.size_alloc, World.size_drew, World.size_setCell] at *; omega)))
        replace bel := below_grown bel hox0 hg (by have s0 := SZ1.out; have s1 := SZ2.out; have s2 := SZ3.out; have s3 := SZ4.out; have s4 := SZ5.out; have s5 := SZ6.out; have s6 := SZ7.out; have s7 := SZ8.out; have s8 := SZ9.out; have s9 := SZ10.out; have s10 := SZ11.out; have s11 := SZ12.out; have s12 := SZ13.out; first | omega | (simp only [World.size_alloc, World.size_drew, World.size_setCell] at *; omega)) bel.size
        clear hg hox0
        go_wp2_with fail
        refine (c_markFunction _ _ _ _ _ _ _ _ hox1 (by omega) (by omega) (by omega)).mono ?_
        rintro e w15' ⟨rfl, hkx1, hg⟩
        have SZ15 := Lib.hid hg.size
        replace f0 := f0.grown hg (row_apart rgx1.out (by have s0 := SZ1.out; have s1 := SZ2.out; have s2 := SZ3.out; have s3 := SZ4.out; have s4 := SZ5.out; have s5 := SZ6.out; have s6 := SZ7.out; have s7 := SZ8.out; have s8 := SZ9.out; have s9 := SZ10.out; have s10 := SZ11.out; have s11 := SZ12.out; have s12 := SZ13.out; have s13 := SZ14.out; first | omega | (simp only [World.size_alloc, World.size_drew, World.size_setCell] at *; omega)))
        replace kf00 := f0.c0
        replace kf01 := f0.c1
        replace f1 := f1.grown hg (row_apart rgx1.out (by have s0 := SZ1.out; have s1 := SZ2.out; have s2 := SZ3.out; have s3 := SZ4.out; have s4 := SZ5.out; have s5 := SZ6.out; have s6 := SZ7.out; have s7 := SZ8.out; have s8 := SZ9.out; have s9 := SZ10.out; have s10 := SZ11.out; have s11 := SZ12.out; have s12 := SZ13.out; have s13 := SZ14.out; first | omega | (simp only [World.size_alloc, World.size_drew, World.size_setCell] at *; omega)))
        replace kf10 := f1.c0
        replace kf11 := f1.c1
        replace fw := fw.grown hg (row_apart rgx1.out (by have s0 := SZ1.out; have s1 := SZ2.out; have s2 := SZ3.out; have s3 := SZ4.out; have s4 := SZ5.out; have s5 := SZ6.out; have s6 := SZ7.out; have s7 := SZ8.out; have s8 := SZ9.out; have s9 := SZ10.out; have s10 := SZ11.out; have s11 := SZ12.out; have s12 := SZ13.out; have s13 := SZ14.out; first | omega | (simp only [World.size_alloc, World.size_drew, World.size_setCell] at *; omega)))
        replace kfw0 := fw.c0
        replace kfw1 := fw.c1
        replace fx0 := fx0.grown hg (row_apart rgx1.out (by have s0 := SZ1.out; have s1 := SZ2.out; have s2 := SZ3.out; have s3 := SZ4.out; have s4 := SZ5.out; have s5 := SZ6.out; have s6 := SZ7.out; have s7 := SZ8.out; have s8 := SZ9.out; have s9 := SZ10.out; have s10 := SZ11.out; have s11 := SZ12.out; have s12 := SZ13.out; have s13 := SZ14.out; first | omega | (simp only [World.size_alloc, World.size_drew, World.size_setCell] at *; omega)))
        replace kfx00 := fx0.c0
        replace kfx01 := fx0.c1
        replace fx1 := fx1.grown hg (row_apart rgx1.out (by have s0 := SZ1.out; have s1 := SZ2.out; have s2 := SZ3.out; have s3 := SZ4.out; have s4 := SZ5.out; have s5 := SZ6.out; have s6 := SZ7.out; have s7 := SZ8.out; have s8 := SZ9.out; have s9 := SZ10.out; have s10 := SZ11.out; have s11 := SZ12.out; have s12 := SZ13.out; have s13 := SZ14.out; first | omega | (simp only [World.size_alloc, World.size_drew, World.size_setCell] at *; omega)))
        replace kfx10 := fx1.c0
        replace kfx11 := fx1.c1
        replace fg := fg.grown hg (row_apart rgx1.out (by have s0 := SZ1.out; have s1 := SZ2.out; have s2 := SZ3.out; have s3 := SZ4.out; have s4 := SZ5.out; have s5 := SZ6.out; have s6 := SZ7.out; have s7 := SZ8.out; have s8 := SZ9.out; have s9 := SZ10.out; have s10 := SZ11.out; have s11 := SZ12.out; have s12 := SZ13.out; have s13 := SZ14.out; first | omega | (simp only [World.size_alloc, World.size_drew, World.size_setCell] at *; omega)))
        replace kfg0 := fg.c0
        replace kfg1 := fg.c1
        replace how := how.grown hg (own_apart rgx1.out rgw.out (by have s0 := SZ1.out; have s1 := SZ2.out; have s2 := SZ3.out; have s3 := SZ4.out; have s4 := SZ5.out; have s5 := SZ6.out; have s6 := SZ7.out; have s7 := SZ8.out; have s8 := SZ9.out; have s9 := SZ10.out; have s10 := SZ11.out; have s11 := SZ12.out; have s12 := SZ13.out; have s13 := SZ14.out; first | omega | (simp only [World.size_alloc, World.size_drew, World.size_setCell] at *; omega)))
        replace hog := hog.grown hg (own_apart rgx1.out rgg.out (by have s0 := SZ1.out; have s1 := SZ2.out; have s2 := SZ3.out; have s3 := SZ4.out; have s4 := SZ5.out; have s5 := SZ6.out; have s6 := SZ7.out; have s7 := SZ8.out; have s8 := SZ9.out; have s9 := SZ10.out; have s10 := SZ11.out; have s11 := SZ12.out; have s12 := SZ13.out; have s13 := SZ14.out; first | omega | (simp only [World.size_alloc, World.size_drew, World.size_setCell] at *; omega)))
        replace bel := below_grown bel hox1 hg (by have s0 := SZ1.out; have s1 := SZ2.out; have s2 := SZ3.out; have s3 := SZ4.out; have s4 := SZ5.out; have s5 := SZ6.out; have s6 := SZ7.out; have s7 := SZ8.out; have s8 := SZ9.out; have s9 := SZ10.out; have s10 := SZ11.out; have s11 := SZ12.out; have s12 := SZ13.out; have s13 := SZ14.out; first | omega | (simp only [World.size_alloc, World.size_drew, World.size_setCell] at *; omega)) bel.size
        clear hg hox1
        clear hkx0 rgx0
        clear fx0 kfx00 kfx01
        clear hkx1 rgx1
        clear fx1 kfx10 kfx11
        go_wp2_with fail
        refine (c_eqFunction_same _ _ _ _ _ _ _ _ _ hog.row how.row hlg hlw).mono ?_
        rintro e w16' ⟨rfl, hb⟩
        replace bel := bel.trans (hb.mono bel.size)
        have SZ16 := Lib.hid hb.size
        replace f0 := f0.below hb
        replace kf00 := f0.c0
        replace kf01 := f0.c1
        replace f1 := f1.below hb
        replace kf10 := f1.c0
        replace kf11 := f1.c1
        replace fw := fw.below hb
        replace kfw0 := fw.c0
        replace kfw1 := fw.c1
        replace fg := fg.below hb
        replace kfg0 := fg.c0
        replace kfg1 := fg.c1
        replace how := how.below hb
        replace hog := hog.below hb
        clear hb
        go_wp2_with fail
        refine (c_markFunction _ _ _ _ _ _ _ _ hog (by omega) (by omega) (by omega)).mono ?_
        rintro e w17' ⟨rfl, hkg, hg⟩
        have SZ17 := Lib.hid hg.size
        replace f0 := f0.grown hg (row_apart rgg.out (by have s0 := SZ1.out; have s1 := SZ2.out; have s2 := SZ3.out; have s3 := SZ4.out; have s4 := SZ5.out; have s5 := SZ6.out; have s6 := SZ7.out; have s7 := SZ8.out; have s8 := SZ9.out; have s9 := SZ10.out; have s10 := SZ11.out; have s11 := SZ12.out; have s12 := SZ13.out; have s13 := SZ14.out; have s14 := SZ15.out; have s15 := SZ16.out; first | omega | (simp only [World.size_alloc, World.size_drew, World.size_setCell] at *; omega)))
        replace kf00 := f0.c0
        replace kf01 := f0.c1
        replace f1 := f1.grown hg (row_apart rgg.out (by have s0 := SZ1.out; have s1 := SZ2.out; have s2 := SZ3.out; have s3 := SZ4.out; have s4 := SZ5.out; have s5 := SZ6.out; have s6 := SZ7.out; have s7 := SZ8.out; have s8 := SZ9.out; have s9 := SZ10.out; have s10 := SZ11.out; have s11 := SZ12.out; have s12 := SZ13.out; have s13 := SZ14.out; have s14 := SZ15.out; have s15 := SZ16.out; first | omega | (simp only [World.size_alloc, World.size_drew, World.size_setCell] at *; omega)))
        replace kf10 := f1.c0
        replace kf11 := f1.c1
        replace fw := fw.grown hg (row_apart rgg.out (by have s0 := SZ1.out; have s1 := SZ2.out; have s2 := SZ3.out; have s3 := SZ4.out; have s4 := SZ5.out; have s5 := SZ6.out; have s6 := SZ7.out; have s7 := SZ8.out; have s8 := SZ9.out; have s9 := SZ10.out; have s10 := SZ11.out; have s11 := SZ12.out; have s12 := SZ13.out; have s13 := SZ14.out; have s14 := SZ15.out; have s15 := SZ16.out; first | omega | (simp only [World.size_alloc, World.size_drew, World.size_setCell] at *; omega)))
        replace kfw0 := fw.c0
        replace kfw1 := fw.c1
        replace fg := fg.grown hg (row_apart rgg.out (by have s0 := SZ1.out; have s1 := SZ2.out; have s2 := SZ3.out; have s3 := SZ4.out; have s4 := SZ5.out; have s5 := SZ6.out; have s6 := SZ7.out; have s7 := SZ8.out; have s8 := SZ9.out; have s9 := SZ10.out; have s10 := SZ11.out; have s11 := SZ12.out; have s12 := SZ13.out; have s13 := SZ14.out; have s14 := SZ15.out; have s15 := SZ16.out; first | omega | (simp only [World.size_alloc, World.size_drew, World.size_setCell] at *; omega)))
        replace kfg0 := fg.c0
        replace kfg1 := fg.c1
        replace how := how.grown hg (own_apart rgg.out rgw.out (by have s0 := SZ1.out; have s1 := SZ2.out; have s2 := SZ3.out; have s3 := SZ4.out; have s4 := SZ5.out; have s5 := SZ6.out; have s6 := SZ7.out; have s7 := SZ8.out; have s8 := SZ9.out; have s9 := SZ10.out; have s10 := SZ11.out; have s11 := SZ12.out; have s12 := SZ13.out; have s13 := SZ14.out; have s14 := SZ15.out; have s15 := SZ16.out; first | omega | (simp only [World.size_alloc, World.size_drew, World.size_setCell] at *; omega)))
        replace bel := below_grown bel hog hg (by have s0 := SZ1.out; have s1 := SZ2.out; have s2 := SZ3.out; have s3 := SZ4.out; have s4 := SZ5.out; have s5 := SZ6.out; have s6 := SZ7.out; have s7 := SZ8.out; have s8 := SZ9.out; have s9 := SZ10.out; have s10 := SZ11.out; have s11 := SZ12.out; have s12 := SZ13.out; have s13 := SZ14.out; have s14 := SZ15.out; have s15 := SZ16.out; first | omega | (simp only [World.size_alloc, World.size_drew, World.size_setCell] at *; omega)) bel.size
        clear hg hog
        go_wp2_with fail
        refine (c_heldFunction _ _ _ _ _ _ hkg.row hlg (by omega) (by omega)).mono ?_
        rintro e w18' ⟨rfl, hb⟩
        replace bel := bel.trans (hb.mono bel.size)
        have SZ18 := Lib.hid hb.size
        replace f0 := f0.below hb
        replace kf00 := f0.c0
        replace kf01 := f0.c1
        replace f1 := f1.below hb
        replace kf10 := f1.c0
        replace kf11 := f1.c1
        replace fw := fw.below hb
        replace kfw0 := fw.c0
        replace kfw1 := fw.c1
        replace fg := fg.below hb
        replace kfg0 := fg.c0
        replace kfg1 := fg.c1
        replace how := how.below hb
        replace hkg := hkg.below hb
        clear hb
        go_wp2_with fail
        replace f0 := f0.drew
        replace f1 := f1.drew
        replace fw := fw.drew
        replace fg := fg.drew
        replace how := how.drew
        replace hkg := hkg.drew
        replace bel := bel.drew
        have nzf0d := Nat.ne_of_lt f0.lt
        have nzf1d := Nat.ne_of_lt f1.lt
        have nzfwd := Nat.ne_of_lt fw.lt
        have nzfgd := Nat.ne_of_lt fg.lt
        go_region_held3 (fun w' => w'.cell? ⟨w.heap.size, 0, none⟩ = some (.int .i64 e0) ∧ w'.cell? ⟨w.heap.size, 1, none⟩ = some (.slice a0 n0 c0) ∧ w'.cell? ⟨w.heap.size + 1, 0, none⟩ = some (.int .i64 e1) ∧ w'.cell? ⟨w.heap.size + 1, 1, none⟩ = some (.slice a1 n1 c1)) (go_keep)
          (first
            | (go_at_call_of 17 a0; (first | (refine (c_toFunction _ _ _ _ _ _ (hr0.below bel) (by omega)).mono ?_) | (have fh := FBox.new w18'.drew 26 0 none 0 0; have hzb := bel.size; (try simp only [World.size_drew] at fh); (try simp only [World.size_drew] at hzb); have hzf0 := Nat.ne_of_lt f0.lt; have hyf0 := (Nat.ne_of_lt f0.lt).symm; (try simp only [World.size_drew] at hzf0); (try simp only [World.size_drew] at hyf0); replace f0 := f0.alloc (.cells #[.int .i64 0, .slice none 0 0] 26); replace kf00 := f0.c0; replace kf01 := f0.c1; have hzf1 := Nat.ne_of_lt f1.lt; have hyf1 := (Nat.ne_of_lt f1.lt).symm; (try simp only [World.size_drew] at hzf1); (try simp only [World.size_drew] at hyf1); replace f1 := f1.alloc (.cells #[.int .i64 0, .slice none 0 0] 26); replace kf10 := f1.c0; replace kf11 := f1.c1; have hzfw := Nat.ne_of_lt fw.lt; have hyfw := (Nat.ne_of_lt fw.lt).symm; (try simp only [World.size_drew] at hzfw); (try simp only [World.size_drew] at hyfw); replace fw := fw.alloc (.cells #[.int .i64 0, .slice none 0 0] 26); replace kfw0 := fw.c0; replace kfw1 := fw.c1; have hzfg := Nat.ne_of_lt fg.lt; have hyfg := (Nat.ne_of_lt fg.lt).symm; (try simp only [World.size_drew] at hzfg); (try simp only [World.size_drew] at hyfg); replace fg := fg.alloc (.cells #[.int .i64 0, .slice none 0 0] 26); replace kfg0 := fg.c0; replace kfg1 := fg.c1; have hzhow := how.range; (try simp only [World.size_drew] at hzhow); replace how := how.alloc (.cells #[.int .i64 0, .slice none 0 0] 26); have hzhkg := hkg.range; (try simp only [World.size_drew] at hzhkg); replace hkg := hkg.alloc (.cells #[.int .i64 0, .slice none 0 0] 26); replace bel := bel.alloc bel.size (.cells #[.int .i64 0, .slice none 0 0] 26); refine (c_toFunction _ _ _ _ _ _ (hr0.below bel) (by omega)).mono ?_)); rintro e w19' ⟨gq0, rfl, hoq0, hb⟩; have hb0 := hb; skip; replace bel := bel.trans (hb.mono bel.size); have SZ19 := Lib.hid hb.size; replace f0 := f0.below hb; replace kf00 := f0.c0; replace kf01 := f0.c1; replace f1 := f1.below hb; replace kf10 := f1.c0; replace kf11 := f1.c1; replace fw := fw.below hb; replace kfw0 := fw.c0; replace kfw1 := fw.c1; replace fg := fg.below hb; replace kfg0 := fg.c0; replace kfg1 := fg.c1; replace how := how.below hb; replace hkg := hkg.below hb; (try replace fh := fh.below hb0); clear hb0; have rgq0 := Lib.hid hoq0.range; have nzf0q0 := Nat.ne_of_lt f0.lt; have nzf1q0 := Nat.ne_of_lt f1.lt; have nzfwq0 := Nat.ne_of_lt fw.lt; have nzfgq0 := Nat.ne_of_lt fg.lt; clear hb)
            | (go_at_call_of 17 a1; (first | (refine (c_toFunction _ _ _ _ _ _ (hr1.below bel) (by omega)).mono ?_) | (have fh := FBox.new w19' 26 0 none 0 0; have hzb := bel.size; have hzf0 := Nat.ne_of_lt f0.lt; have hyf0 := (Nat.ne_of_lt f0.lt).symm; replace f0 := f0.alloc (.cells #[.int .i64 0, .slice none 0 0] 26); replace kf00 := f0.c0; replace kf01 := f0.c1; have hzf1 := Nat.ne_of_lt f1.lt; have hyf1 := (Nat.ne_of_lt f1.lt).symm; replace f1 := f1.alloc (.cells #[.int .i64 0, .slice none 0 0] 26); replace kf10 := f1.c0; replace kf11 := f1.c1; have hzfw := Nat.ne_of_lt fw.lt; have hyfw := (Nat.ne_of_lt fw.lt).symm; replace fw := fw.alloc (.cells #[.int .i64 0, .slice none 0 0] 26); replace kfw0 := fw.c0; replace kfw1 := fw.c1; have hzfg := Nat.ne_of_lt fg.lt; have hyfg := (Nat.ne_of_lt fg.lt).symm; replace fg := fg.alloc (.cells #[.int .i64 0, .slice none 0 0] 26); replace kfg0 := fg.c0; replace kfg1 := fg.c1; have hzhow := how.range; replace how := how.alloc (.cells #[.int .i64 0, .slice none 0 0] 26); have hzhkg := hkg.range; replace hkg := hkg.alloc (.cells #[.int .i64 0, .slice none 0 0] 26); have hzhoq0 := hoq0.range; replace hoq0 := hoq0.alloc (.cells #[.int .i64 0, .slice none 0 0] 26); replace bel := bel.alloc bel.size (.cells #[.int .i64 0, .slice none 0 0] 26); refine (c_toFunction _ _ _ _ _ _ (hr1.below bel) (by omega)).mono ?_)); rintro e w20' ⟨gq1, rfl, hoq1, hb⟩; have hb0 := hb; skip; replace bel := bel.trans (hb.mono bel.size); have SZ20 := Lib.hid hb.size; replace f0 := f0.below hb; replace kf00 := f0.c0; replace kf01 := f0.c1; replace f1 := f1.below hb; replace kf10 := f1.c0; replace kf11 := f1.c1; replace fw := fw.below hb; replace kfw0 := fw.c0; replace kfw1 := fw.c1; replace fg := fg.below hb; replace kfg0 := fg.c0; replace kfg1 := fg.c1; replace how := how.below hb; replace hkg := hkg.below hb; replace hoq0 := hoq0.below hb; (try replace fh := fh.below hb0); clear hb0; have rgq1 := Lib.hid hoq1.range; have nzf0q1 := Nat.ne_of_lt f0.lt; have nzf1q1 := Nat.ne_of_lt f1.lt; have nzfwq1 := Nat.ne_of_lt fw.lt; have nzfgq1 := Nat.ne_of_lt fg.lt; clear hb)
            | (go_at_call 43; (first | ((try have hzw := fh.lt); refine (c_impl_ConvolveFunctions _ _ _ _ _ _ _ _ _ _ _ hoq0.row (by omega) hoq1.row (by omega)).mono ?_) | (have fh := FBox.new w20' 26 0 none 0 0; have hzb := bel.size; have hzf0 := Nat.ne_of_lt f0.lt; have hyf0 := (Nat.ne_of_lt f0.lt).symm; replace f0 := f0.alloc (.cells #[.int .i64 0, .slice none 0 0] 26); replace kf00 := f0.c0; replace kf01 := f0.c1; have hzf1 := Nat.ne_of_lt f1.lt; have hyf1 := (Nat.ne_of_lt f1.lt).symm; replace f1 := f1.alloc (.cells #[.int .i64 0, .slice none 0 0] 26); replace kf10 := f1.c0; replace kf11 := f1.c1; have hzfw := Nat.ne_of_lt fw.lt; have hyfw := (Nat.ne_of_lt fw.lt).symm; replace fw := fw.alloc (.cells #[.int .i64 0, .slice none 0 0] 26); replace kfw0 := fw.c0; replace kfw1 := fw.c1; have hzfg := Nat.ne_of_lt fg.lt; have hyfg := (Nat.ne_of_lt fg.lt).symm; replace fg := fg.alloc (.cells #[.int .i64 0, .slice none 0 0] 26); replace kfg0 := fg.c0; replace kfg1 := fg.c1; have hzhow := how.range; replace how := how.alloc (.cells #[.int .i64 0, .slice none 0 0] 26); have hzhkg := hkg.range; replace hkg := hkg.alloc (.cells #[.int .i64 0, .slice none 0 0] 26); have hzhoq0 := hoq0.range; replace hoq0 := hoq0.alloc (.cells #[.int .i64 0, .slice none 0 0] 26); have hzhoq1 := hoq1.range; replace hoq1 := hoq1.alloc (.cells #[.int .i64 0, .slice none 0 0] 26); replace bel := bel.alloc bel.size (.cells #[.int .i64 0, .slice none 0 0] 26); have hzw := fh.lt; refine (c_impl_ConvolveFunctions _ _ _ _ _ _ _ _ _ _ _ hoq0.row (by omega) hoq1.row (by omega)).mono ?_)); rintro e w21' ⟨ah, ch, rfl, hoh, hlh, hb⟩; have hb0 := hb; replace bel := bel.trans (hb.mono bel.size); have SZ21 := Lib.hid hb.size; replace f0 := f0.below hb; replace kf00 := f0.c0; replace kf01 := f0.c1; replace f1 := f1.below hb; replace kf10 := f1.c0; replace kf11 := f1.c1; replace fw := fw.below hb; replace kfw0 := fw.c0; replace kfw1 := fw.c1; replace fg := fg.below hb; replace kfg0 := fg.c0; replace kfg1 := fg.c1; replace how := how.below hb; replace hkg := hkg.below hb; replace hoq0 := hoq0.below hb; replace hoq1 := hoq1.below hb; (try (replace fh := fh.below hb0; have kz0 := fh.c0; have kz1 := fh.c1; have kzf := fh.free)); clear hb hb0; have nzf0r := Nat.ne_of_lt f0.lt; have nzf1r := Nat.ne_of_lt f1.lt; have nzfwr := Nat.ne_of_lt fw.lt; have nzfgr := Nat.ne_of_lt fg.lt; have rgh := Lib.hid hoh.range))
        all_goals
          clear hoq0 rgq0
          clear hoq1 rgq1
          first
            | (replace fh := fh.set2 (gN (alikeB e0 z0 e1 z1) e0 (tabOf e0 (convV z0 z1))) ah (gL (alikeB e0 z0 e1 z1) e0 (tabOf e0 (convV z0 z1))).length ch; replace f0 := f0.far2 hzf0 (.int .i64 (gN (alikeB e0 z0 e1 z1) e0 (tabOf e0 (convV z0 z1)))) (.slice ah (gL (alikeB e0 z0 e1 z1) e0 (tabOf e0 (convV z0 z1))).length ch); replace f1 := f1.far2 hzf1 (.int .i64 (gN (alikeB e0 z0 e1 z1) e0 (tabOf e0 (convV z0 z1)))) (.slice ah (gL (alikeB e0 z0 e1 z1) e0 (tabOf e0 (convV z0 z1))).length ch); replace fw := fw.far2 hzfw (.int .i64 (gN (alikeB e0 z0 e1 z1) e0 (tabOf e0 (convV z0 z1)))) (.slice ah (gL (alikeB e0 z0 e1 z1) e0 (tabOf e0 (convV z0 z1))).length ch); replace fg := fg.far2 hzfg (.int .i64 (gN (alikeB e0 z0 e1 z1) e0 (tabOf e0 (convV z0 z1)))) (.slice ah (gL (alikeB e0 z0 e1 z1) e0 (tabOf e0 (convV z0 z1))).length ch); replace hoh := own_set2 hoh hzw (.int .i64 (gN (alikeB e0 z0 e1 z1) e0 (tabOf e0 (convV z0 z1)))) (.slice ah (gL (alikeB e0 z0 e1 z1) e0 (tabOf e0 (convV z0 z1))).length ch); replace how := own_far2 how hzhow (.int .i64 (gN (alikeB e0 z0 e1 z1) e0 (tabOf e0 (convV z0 z1)))) (.slice ah (gL (alikeB e0 z0 e1 z1) e0 (tabOf e0 (convV z0 z1))).length ch); replace hkg := own_far2 hkg hzhkg (.int .i64 (gN (alikeB e0 z0 e1 z1) e0 (tabOf e0 (convV z0 z1)))) (.slice ah (gL (alikeB e0 z0 e1 z1) e0 (tabOf e0 (convV z0 z1))).length ch); replace bel := below_set2 bel hzb (.int .i64 (gN (alikeB e0 z0 e1 z1) e0 (tabOf e0 (convV z0 z1)))) (.slice ah (gL (alikeB e0 z0 e1 z1) e0 (tabOf e0 (convV z0 z1))).length ch))
            | (replace f0 := f0.alloc (.cells #[.int .i64 (gN (alikeB e0 z0 e1 z1) e0 (tabOf e0 (convV z0 z1))), .slice ah (gL (alikeB e0 z0 e1 z1) e0 (tabOf e0 (convV z0 z1))).length ch] 26); replace f1 := f1.alloc (.cells #[.int .i64 (gN (alikeB e0 z0 e1 z1) e0 (tabOf e0 (convV z0 z1))), .slice ah (gL (alikeB e0 z0 e1 z1) e0 (tabOf e0 (convV z0 z1))).length ch] 26); replace fw := fw.alloc (.cells #[.int .i64 (gN (alikeB e0 z0 e1 z1) e0 (tabOf e0 (convV z0 z1))), .slice ah (gL (alikeB e0 z0 e1 z1) e0 (tabOf e0 (convV z0 z1))).length ch] 26); replace fg := fg.alloc (.cells #[.int .i64 (gN (alikeB e0 z0 e1 z1) e0 (tabOf e0 (convV z0 z1))), .slice ah (gL (alikeB e0 z0 e1 z1) e0 (tabOf e0 (convV z0 z1))).length ch] 26); have fh := FBox.new w21' 26 (gN (alikeB e0 z0 e1 z1) e0 (tabOf e0 (convV z0 z1))) ah (gL (alikeB e0 z0 e1 z1) e0 (tabOf e0 (convV z0 z1))).length ch; replace how := how.alloc (.cells #[.int .i64 (gN (alikeB e0 z0 e1 z1) e0 (tabOf e0 (convV z0 z1))), .slice ah (gL (alikeB e0 z0 e1 z1) e0 (tabOf e0 (convV z0 z1))).length ch] 26); replace hkg := hkg.alloc (.cells #[.int .i64 (gN (alikeB e0 z0 e1 z1) e0 (tabOf e0 (convV z0 z1))), .slice ah (gL (alikeB e0 z0 e1 z1) e0 (tabOf e0 (convV z0 z1))).length ch] 26); replace hoh := hoh.alloc (.cells #[.int .i64 (gN (alikeB e0 z0 e1 z1) e0 (tabOf e0 (convV z0 z1))), .slice ah (gL (alikeB e0 z0 e1 z1) e0 (tabOf e0 (convV z0 z1))).length ch] 26); replace bel := bel.alloc bel.size (.cells #[.int .i64 (gN (alikeB e0 z0 e1 z1) e0 (tabOf e0 (convV z0 z1))), .slice ah (gL (alikeB e0 z0 e1 z1) e0 (tabOf e0 (convV z0 z1))).length ch] 26))
          replace kf00 := f0.c0
          replace kf01 := f0.c1
          replace kf10 := f1.c0
          replace kf11 := f1.c1
          replace kfw0 := fw.c0
          replace kfw1 := fw.c1
          replace kfg0 := fg.c0
          replace kfg1 := fg.c1
          have kfh0 := fh.c0
          have kfh1 := fh.c1
          go_wp2_with fail
          refine (c_eqFunction_same _ _ _ _ _ _ _ _ _ hoh.row how.row hlh hlw).mono ?_
          rintro e w22' ⟨rfl, hb⟩
          replace bel := bel.trans (hb.mono bel.size)
          have SZ22 := Lib.hid hb.size
          replace f0 := f0.below hb
          replace kf00 := f0.c0
          replace kf01 := f0.c1
          replace f1 := f1.below hb
          replace kf10 := f1.c0
          replace kf11 := f1.c1
          replace fw := fw.below hb
          replace kfw0 := fw.c0
          replace kfw1 := fw.c1
          replace fg := fg.below hb
          replace kfg0 := fg.c0
          replace kfg1 := fg.c1
          replace fh := fh.below hb
          replace kfh0 := fh.c0
          replace kfh1 := fh.c1
          replace how := how.below hb
          replace hkg := hkg.below hb
          replace hoh := hoh.below hb
          clear hb
          go_wp2_with fail
          refine (c_heldFunction _ _ _ _ _ _ hkg.row hlg (by omega) (by omega)).mono ?_
          rintro e w23' ⟨rfl, hb⟩
          replace bel := bel.trans (hb.mono bel.size)
          have SZ23 := Lib.hid hb.size
          replace f0 := f0.below hb
          replace kf00 := f0.c0
          replace kf01 := f0.c1
          replace f1 := f1.below hb
          replace kf10 := f1.c0
          replace kf11 := f1.c1
          replace fw := fw.below hb
          replace kfw0 := fw.c0
          replace kfw1 := fw.c1
          replace fg := fg.below hb
          replace kfg0 := fg.c0
          replace kfg1 := fg.c1
          replace fh := fh.below hb
          replace kfh0 := fh.c0
          replace kfh1 := fh.c1
          replace how := how.below hb
          replace hkg := hkg.below hb
          replace hoh := hoh.below hb
          clear hb
          go_wp2
          go_ret
          exact ⟨rfl, by first | exact bel | exact bel.drew | exact below_drewN bel _⟩
    · have bel := Below.refl w.heap.size w
      have f0 := FBox.new w 24 e0 a0 n0 c0
      replace bel := bel.alloc bel.size (.cells #[.int .i64 e0, .slice a0 n0 c0] 24)
      have f1 := FBox.new (w.alloc (.cells #[.int .i64 e0, .slice a0 n0 c0] 24)) 24 e1 a1 n1 c1
      rw [World.size_alloc] at f1
      replace f0 := f0.alloc (.cells #[.int .i64 e1, .slice a1 n1 c1] 24)
      replace bel := bel.alloc bel.size (.cells #[.int .i64 e1, .slice a1 n1 c1] 24)
      go_enter Try.func12, Try.ntmps12
      go_wp2_with fail
      refine (c_szFunction_ok _ _ _ _ _ _ (by omega) (by omega) hm0 (by omega)).mono ?_
      rintro e v0' ⟨rfl, hb⟩
      replace bel := bel.trans (hb.mono bel.size)
      replace f0 := f0.below hb
      have kf00 := f0.c0
      have kf01 := f0.c1
      replace f1 := f1.below hb
      have kf10 := f1.c0
      have kf11 := f1.c1
      clear hb
      go_wp2_with fail
      refine (c_szFunction_no _ _ _ _ _ _ (by omega) (by omega) hm1 (by omega)).mono ?_
      rintro e v1' ⟨rfl, hb⟩
      replace bel := bel.trans (hb.mono bel.size)
      replace f0 := f0.below hb
      have kf00 := f0.c0
      have kf01 := f0.c1
      replace f1 := f1.below hb
      have kf10 := f1.c0
      have kf11 := f1.c1
      clear hb
      go_wp2
      go_ret
      exact ⟨rfl, bel⟩
  · have bel := Below.refl w.heap.size w
    have f0 := FBox.new w 24 e0 a0 n0 c0
    replace bel := bel.alloc bel.size (.cells #[.int .i64 e0, .slice a0 n0 c0] 24)
    have f1 := FBox.new (w.alloc (.cells #[.int .i64 e0, .slice a0 n0 c0] 24)) 24 e1 a1 n1 c1
    rw [World.size_alloc] at f1
    replace f0 := f0.alloc (.cells #[.int .i64 e1, .slice a1 n1 c1] 24)
    replace bel := bel.alloc bel.size (.cells #[.int .i64 e1, .slice a1 n1 c1] 24)
    go_enter Try.func12, Try.ntmps12
    go_wp2_with fail
    refine (c_szFunction_no _ _ _ _ _ _ (by omega) (by omega) hm0 (by omega)).mono ?_
    rintro e v0' ⟨rfl, hb⟩
    replace bel := bel.trans (hb.mono bel.size)
    replace f0 := f0.below hb
    have kf00 := f0.c0
    have kf01 := f0.c1
    replace f1 := f1.below hb
    have kf10 := f1.c0
    have kf11 := f1.c1
    clear hb
    go_wp2
    go_ret
    exact ⟨rfl, bel⟩
end Go.Proofs.Ytijdamjfijkfjaa
