/- The walk of the law FnExactReduceFunction. -/
import Derived.Test.YthiokplkimdojaaReduce
import Derived.Test.YthiokplkimdojaaInRows
namespace Go.Proofs.Ythiokplkimdojaa
set_option linter.unusedSimpArgs false
set_option linter.unusedVariables false
open Go.RowKit

set_option maxHeartbeats 1000000 in
theorem walk_FnExactReduceFunction (e0 : Int) (a0 : Option Addr) (n0 c0 : Nat) (z0 : List Int) (a1 : Option Addr) (n1 c1 : Nat) (z1 : List Int) (w : World) (u0 : (Lit.int .i64 e0).wf = true) (w0 : InRow .i64 w a0 n0 c0 z0) (w1 : InRow .i64 w a1 n1 c1 z1) :
    Calls Try.prog 12 #[.agg #[.int .i64 e0, .slice a0 n0 c0], .slice a1 n1 c1] w fun e w' => e = .returned (.bool true) ∧ Below w.heap.size w w' := by
  obtain ⟨hr0, hnc0, hcm0, _⟩ := w0
  have hm0 : n0 ≤ maxLen := Nat.le_trans hnc0 hcm0
  obtain ⟨hr1, hnc1, hcm1, _⟩ := w1
  have hm1 : n1 ≤ maxLen := Nat.le_trans hnc1 hcm1
  by_cases h1 : n1 ≤ 1048576
  · skip
    by_cases h0 : n0 ≤ 1048576
    · skip
      have bel := Below.refl w.heap.size w
      have f0 := FBox.new w 24 e0 a0 n0 c0
      replace bel := bel.alloc bel.size (.cells #[.int .i64 e0, .slice a0 n0 c0] 24)
      have kf00 := f0.c0
      have kf01 := f0.c1
      have hz0 : eqL z0 z0 = true := eqL_true.2 rfl
      have hz1 : eqL z1 z1 = true := eqL_true.2 rfl
      go_enter Try.func12, Try.ntmps12
      go_wp2_with fail
      refine (c_szFunction_ok _ _ _ _ _ _ (by omega) (by omega) hm0 (by omega)).mono ?_
      rintro e w1' ⟨rfl, hb⟩
      replace bel := bel.trans (hb.mono bel.size)
      have SZ1 := Lib.hid hb.size
      replace f0 := f0.below hb
      replace kf00 := f0.c0
      replace kf01 := f0.c1
      clear hb
      go_wp2_with fail
      refine (c_toFunction _ _ _ _ _ _ (hr0.below bel) (by omega)).mono ?_
      rintro e w2' ⟨gs0, rfl, hos0, hb⟩
      replace bel := bel.trans (hb.mono bel.size)
      have SZ2 := Lib.hid hb.size
      replace f0 := f0.below hb
      replace kf00 := f0.c0
      replace kf01 := f0.c1
      clear hb
      have rgs0 := Lib.hid hos0.range
      go_wp2_with fail
      refine (c_toIntS _ _ _ _ _ (hr1.below bel) (by omega)).mono ?_
      rintro e w3' ⟨rfl, hos1, hb⟩
      replace bel := bel.trans (hb.mono bel.size)
      have SZ3 := Lib.hid hb.size
      replace f0 := f0.below hb
      replace kf00 := f0.c0
      replace kf01 := f0.c1
      replace hos0 := hos0.below hb
      clear hb
      (try simp only [World.size_alloc, World.size_setCell] at hos1)
      have rgs1 := Lib.hid hos1.range
      go_wp2_with fail
      refine (c_spec_ReduceFunction _ _ _ _ _ _ _ _ _ _ hos0.row (by omega) hos1.row (by omega)).mono ?_
      rintro e w4' ⟨aw, cw, rfl, how, hlw, hb⟩
      replace bel := bel.trans (hb.mono bel.size)
      have SZ4 := Lib.hid hb.size
      replace f0 := f0.below hb
      replace kf00 := f0.c0
      replace kf01 := f0.c1
      replace hos0 := hos0.below hb
      replace hos1 := hos1.below hb
      clear hb
      have rgw := Lib.hid how.range
      clear hos0 rgs0
      clear hos1 rgs1
      replace f0 := f0.alloc (.cells #[.int .i64 (gN (redT e0 z0 z1) e0 (tabOf e0 (convV z0 (rL z1)))), .slice aw (gL (redT e0 z0 z1) e0 (tabOf e0 (convV z0 (rL z1)))).length cw] 27)
      have fw := FBox.new w4' 27 ((gN (redT e0 z0 z1) e0 (tabOf e0 (convV z0 (rL z1))))) aw (gL (redT e0 z0 z1) e0 (tabOf e0 (convV z0 (rL z1)))).length cw
      replace kf00 := f0.c0
      replace kf01 := f0.c1
      replace how := how.alloc (.cells #[.int .i64 (gN (redT e0 z0 z1) e0 (tabOf e0 (convV z0 (rL z1)))), .slice aw (gL (redT e0 z0 z1) e0 (tabOf e0 (convV z0 (rL z1)))).length cw] 27)
      replace bel := bel.alloc bel.size (.cells #[.int .i64 (gN (redT e0 z0 z1) e0 (tabOf e0 (convV z0 (rL z1)))), .slice aw (gL (redT e0 z0 z1) e0 (tabOf e0 (convV z0 (rL z1)))).length cw] 27)
      go_wp2_with fail
      refine (c_toFunction _ _ _ _ _ _ (hr0.below bel) (by omega)).mono ?_
      rintro e w5' ⟨gx0, rfl, hox0, hb⟩
      replace bel := bel.trans (hb.mono bel.size)
      have SZ5 := Lib.hid hb.size
      replace f0 := f0.below hb
      replace kf00 := f0.c0
      replace kf01 := f0.c1
      replace fw := fw.below hb
      have kfw0 := fw.c0
      have kfw1 := fw.c1
      replace how := how.below hb
      clear hb
      have rgx0 := Lib.hid hox0.range
      replace f0 := f0.alloc (.cells #[.int .i64 e0, .slice (some ⟨gx0, 0, none⟩) n0 n0] 27)
      replace fw := fw.alloc (.cells #[.int .i64 e0, .slice (some ⟨gx0, 0, none⟩) n0 n0] 27)
      have fx0 := FBox.new w5' 27 e0 (some ⟨gx0, 0, none⟩) n0 n0
      replace kf00 := f0.c0
      replace kf01 := f0.c1
      replace kfw0 := fw.c0
      replace kfw1 := fw.c1
      replace how := how.alloc (.cells #[.int .i64 e0, .slice (some ⟨gx0, 0, none⟩) n0 n0] 27)
      replace hox0 := hox0.alloc (.cells #[.int .i64 e0, .slice (some ⟨gx0, 0, none⟩) n0 n0] 27)
      replace bel := bel.alloc bel.size (.cells #[.int .i64 e0, .slice (some ⟨gx0, 0, none⟩) n0 n0] 27)
      go_wp2_with fail
      refine (c_toIntS _ _ _ _ _ (hr1.below bel) (by omega)).mono ?_
      rintro e w6' ⟨rfl, hox1, hb⟩
      replace bel := bel.trans (hb.mono bel.size)
      have SZ6 := Lib.hid hb.size
      replace f0 := f0.below hb
      replace kf00 := f0.c0
      replace kf01 := f0.c1
      replace fw := fw.below hb
      replace kfw0 := fw.c0
      replace kfw1 := fw.c1
      replace fx0 := fx0.below hb
      have kfx00 := fx0.c0
      have kfx01 := fx0.c1
      replace how := how.below hb
      replace hox0 := hox0.below hb
      clear hb
      (try simp only [World.size_alloc, World.size_setCell] at hox1)
      have rgx1 := Lib.hid hox1.range
      go_wp2_with fail
      refine (c_impl_ReduceFunction _ _ _ _ _ _ _ _ _ _ hox0.row (by omega) hox1.row (by omega)).mono ?_
      rintro e w7' ⟨ag, cg, rfl, hog, hlg, hb⟩
      replace bel := bel.trans (hb.mono bel.size)
      have SZ7 := Lib.hid hb.size
      replace f0 := f0.below hb
      replace kf00 := f0.c0
      replace kf01 := f0.c1
      replace fw := fw.below hb
      replace kfw0 := fw.c0
      replace kfw1 := fw.c1
      replace fx0 := fx0.below hb
      replace kfx00 := fx0.c0
      replace kfx01 := fx0.c1
      replace how := how.below hb
      replace hox0 := hox0.below hb
      replace hox1 := hox1.below hb
      clear hb
      have rgg := Lib.hid hog.range
      replace f0 := f0.alloc (.cells #[.int .i64 (gN (redT e0 z0 z1) e0 (tabOf e0 (convV z0 (rL z1)))), .slice ag (gL (redT e0 z0 z1) e0 (tabOf e0 (convV z0 (rL z1)))).length cg] 27)
      replace fw := fw.alloc (.cells #[.int .i64 (gN (redT e0 z0 z1) e0 (tabOf e0 (convV z0 (rL z1)))), .slice ag (gL (redT e0 z0 z1) e0 (tabOf e0 (convV z0 (rL z1)))).length cg] 27)
      replace fx0 := fx0.alloc (.cells #[.int .i64 (gN (redT e0 z0 z1) e0 (tabOf e0 (convV z0 (rL z1)))), .slice ag (gL (redT e0 z0 z1) e0 (tabOf e0 (convV z0 (rL z1)))).length cg] 27)
      have fg := FBox.new w7' 27 ((gN (redT e0 z0 z1) e0 (tabOf e0 (convV z0 (rL z1))))) ag (gL (redT e0 z0 z1) e0 (tabOf e0 (convV z0 (rL z1)))).length cg
      replace kf00 := f0.c0
      replace kf01 := f0.c1
      replace kfw0 := fw.c0
      replace kfw1 := fw.c1
      replace kfx00 := fx0.c0
      replace kfx01 := fx0.c1
      replace how := how.alloc (.cells #[.int .i64 (gN (redT e0 z0 z1) e0 (tabOf e0 (convV z0 (rL z1)))), .slice ag (gL (redT e0 z0 z1) e0 (tabOf e0 (convV z0 (rL z1)))).length cg] 27)
      replace hox0 := hox0.alloc (.cells #[.int .i64 (gN (redT e0 z0 z1) e0 (tabOf e0 (convV z0 (rL z1)))), .slice ag (gL (redT e0 z0 z1) e0 (tabOf e0 (convV z0 (rL z1)))).length cg] 27)
      replace hox1 := hox1.alloc (.cells #[.int .i64 (gN (redT e0 z0 z1) e0 (tabOf e0 (convV z0 (rL z1)))), .slice ag (gL (redT e0 z0 z1) e0 (tabOf e0 (convV z0 (rL z1)))).length cg] 27)
      replace hog := hog.alloc (.cells #[.int .i64 (gN (redT e0 z0 z1) e0 (tabOf e0 (convV z0 (rL z1)))), .slice ag (gL (redT e0 z0 z1) e0 (tabOf e0 (convV z0 (rL z1)))).length cg] 27)
      replace bel := bel.alloc bel.size (.cells #[.int .i64 (gN (redT e0 z0 z1) e0 (tabOf e0 (convV z0 (rL z1)))), .slice ag (gL (redT e0 z0 z1) e0 (tabOf e0 (convV z0 (rL z1)))).length cg] 27)
      go_wp2_with fail
      refine (c_eqFunction_same _ _ _ _ _ _ _ _ _ hog.row how.row hlg hlw).mono ?_
      rintro e w8' ⟨rfl, hb⟩
      replace bel := bel.trans (hb.mono bel.size)
      have SZ8 := Lib.hid hb.size
      replace f0 := f0.below hb
      replace kf00 := f0.c0
      replace kf01 := f0.c1
      replace fw := fw.below hb
      replace kfw0 := fw.c0
      replace kfw1 := fw.c1
      replace fx0 := fx0.below hb
      replace kfx00 := fx0.c0
      replace kfx01 := fx0.c1
      replace fg := fg.below hb
      have kfg0 := fg.c0
      have kfg1 := fg.c1
      replace how := how.below hb
      replace hox0 := hox0.below hb
      replace hox1 := hox1.below hb
      replace hog := hog.below hb
      clear hb
      go_wp2_with fail
      replace f0 := f0.drew
      replace fw := fw.drew
      replace fx0 := fx0.drew
      replace fg := fg.drew
      replace how := how.drew
      replace hox0 := hox0.drew
      replace hox1 := hox1.drew
      replace hog := hog.drew
      replace bel := bel.drew
      go_region_held3 (fun w' => w'.cell? ⟨w.heap.size, 0, none⟩ = some (.int .i64 e0) ∧ w'.cell? ⟨w.heap.size, 1, none⟩ = some (.slice a0 n0 c0) ∧ w'.cell? ⟨w5'.heap.size, 0, none⟩ = some (.int .i64 e0) ∧ w'.cell? ⟨w5'.heap.size, 1, none⟩ = some (.slice (some ⟨gx0, 0, none⟩) n0 n0)) (go_keep)
        (first
          | (go_at_call 16; refine (c_toFunction _ _ _ _ _ _ (hr0.below bel) (by omega)).mono ?_; rintro e w9' ⟨gt0, rfl, hot0, hb⟩; replace bel := bel.trans (hb.mono bel.size); have SZ9 := Lib.hid hb.size; replace f0 := f0.below hb; replace kf00 := f0.c0; replace kf01 := f0.c1; replace fw := fw.below hb; replace kfw0 := fw.c0; replace kfw1 := fw.c1; replace fx0 := fx0.below hb; replace kfx00 := fx0.c0; replace kfx01 := fx0.c1; replace fg := fg.below hb; replace kfg0 := fg.c0; replace kfg1 := fg.c1; replace how := how.below hb; replace hox0 := hox0.below hb; replace hox1 := hox1.below hb; replace hog := hog.below hb; clear hb)
          | (go_at_call 18; refine (c_eqFunction_same _ _ _ _ _ _ _ _ _ hox0.row hot0.row (by omega) (by omega)).mono ?_; rintro e w10' ⟨rfl, hb⟩; replace bel := bel.trans (hb.mono bel.size); have SZ10 := Lib.hid hb.size; replace f0 := f0.below hb; replace kf00 := f0.c0; replace kf01 := f0.c1; replace fw := fw.below hb; replace kfw0 := fw.c0; replace kfw1 := fw.c1; replace fx0 := fx0.below hb; replace kfx00 := fx0.c0; replace kfx01 := fx0.c1; replace fg := fg.below hb; replace kfg0 := fg.c0; replace kfg1 := fg.c1; replace how := how.below hb; replace hox0 := hox0.below hb; replace hox1 := hox1.below hb; replace hog := hog.below hb; replace hot0 := hot0.below hb; clear hb))
      clear hot0
      go_wp2_with fail
      refine (c_toIntS _ _ _ _ _ (hr1.below bel) (by omega)).mono ?_
      rintro e w11' ⟨rfl, hot1, hb⟩
      replace bel := bel.trans (hb.mono bel.size)
      have SZ11 := Lib.hid hb.size
      replace f0 := f0.below hb
      replace kf00 := f0.c0
      replace kf01 := f0.c1
      replace fw := fw.below hb
      replace kfw0 := fw.c0
      replace kfw1 := fw.c1
      replace fx0 := fx0.below hb
      replace kfx00 := fx0.c0
      replace kfx01 := fx0.c1
      replace fg := fg.below hb
      replace kfg0 := fg.c0
      replace kfg1 := fg.c1
      replace how := how.below hb
      replace hox0 := hox0.below hb
      replace hox1 := hox1.below hb
      replace hog := hog.below hb
      clear hb
      (try simp only [World.size_alloc, World.size_setCell] at hot1)
      have rgt1 := Lib.hid hot1.range
      go_wp2_with fail
      refine (below_of (c_eqIntS_same _ _ _ _ _ _ _ _ hox1.row hot1.row (by omega) (by omega))).mono ?_
      rintro e w12' ⟨rfl, hb⟩
      replace bel := bel.trans (hb.mono bel.size)
      have SZ12 := Lib.hid hb.size
      replace f0 := f0.below hb
      replace kf00 := f0.c0
      replace kf01 := f0.c1
      replace fw := fw.below hb
      replace kfw0 := fw.c0
      replace kfw1 := fw.c1
      replace fx0 := fx0.below hb
      replace kfx00 := fx0.c0
      replace kfx01 := fx0.c1
      replace fg := fg.below hb
      replace kfg0 := fg.c0
      replace kfg1 := fg.c1
      replace how := how.below hb
      replace hox0 := hox0.below hb
      replace hox1 := hox1.below hb
      replace hog := hog.below hb
      replace hot1 := hot1.below hb
      clear hb
      clear hot1 rgt1
      go_wp2_with fail
      refine (c_markFunction _ _ _ _ _ _ _ _ hox0 (by omega) (by omega) (by omega)).mono ?_
      rintro e w13' ⟨rfl, hkx0, hg⟩
      have SZ13 := Lib.hid hg.size
      replace f0 := f0.grown hg (row_apart rgx0.out (by have s0 := SZ1.out; have s1 := SZ2.out; have s2 := SZ3.out; have s3 := SZ4.out; have s4 := SZ5.out; have s5 := SZ6.out; have s6 := SZ7.out; have s7 := SZ8.out; have s8 := SZ9.out; have s9 := SZ10.out; have s10 := SZ11.out; have s11 := SZ12.out; first | omega | (simp only [World.size_alloc, World.size_drew, World.size_setCell] at *; omega)))
      replace kf00 := f0.c0
      replace kf01 := f0.c1
      replace fw := fw.grown hg (row_apart rgx0.out (by have s0 := SZ1.out; have s1 := SZ2.out; have s2 := SZ3.out; have s3 := SZ4.out; have s4 := SZ5.out; have s5 := SZ6.out; have s6 := SZ7.out; have s7 := SZ8.out; have s8 := SZ9.out; have s9 := SZ10.out; have s10 := SZ11.out; have s11 := SZ12.out; first | omega | (simp only [World.size_alloc, World.size_drew, World.size_setCell] at *; omega)))
      replace kfw0 := fw.c0
      replace kfw1 := fw.c1
      replace fx0 := fx0.grown hg (row_apart rgx0.out (by have s0 := SZ1.out; have s1 := SZ2.out; have s2 := SZ3.out; have s3 := SZ4.out; have s4 := SZ5.out; have s5 := SZ6.out; have s6 := SZ7.out; have s7 := SZ8.out; have s8 := SZ9.out; have s9 := SZ10.out; have s10 := SZ11.out; have s11 := SZ12.out; first | omega | (simp only [World.size_alloc, World.size_drew, World.size_setCell] at *; omega)))
      replace kfx00 := fx0.c0
      replace kfx01 := fx0.c1
      replace fg := fg.grown hg (row_apart rgx0.out (by have s0 := SZ1.out; have s1 := SZ2.out; have s2 := SZ3.out; have s3 := SZ4.out; have s4 := SZ5.out; have s5 := SZ6.out; have s6 := SZ7.out; have s7 := SZ8.out; have s8 := SZ9.out; have s9 := SZ10.out; have s10 := SZ11.out; have s11 := SZ12.out; first | omega | (simp only [World.size_alloc, World.size_drew, World.size_setCell] at *; omega)))
      replace kfg0 := fg.c0
      replace kfg1 := fg.c1
      replace how := how.grown hg (own_apart rgx0.out rgw.out (by have s0 := SZ1.out; have s1 := SZ2.out; have s2 := SZ3.out; have s3 := SZ4.out; have s4 := SZ5.out; have s5 := SZ6.out; have s6 := SZ7.out; have s7 := SZ8.out; have s8 := SZ9.out; have s9 := SZ10.out; have s10 := SZ11.out; have s11 := SZ12.out; first | omega | (simp only [World.size_alloc, World.size_drew, World.size_setCell] at *; omega)))
      replace hox1 := hox1.grown hg (own_apart rgx0.out rgx1.out (by have s0 := SZ1.out; have s1 := SZ2.out; have s2 := SZ3.out; have s3 := SZ4.out; have s4 := SZ5.out; have s5 := SZ6.out; have s6 := SZ7.out; have s7 := SZ8.out; have s8 := SZ9.out; have s9 := SZ10.out; have s10 := SZ11.out; have s11 := SZ12.out; first | omega | (simp only [World.size_alloc, World.size_drew, World.size_setCell] at *; omega)))
      replace hog := hog.grown hg (own_apart rgx0.out rgg.out (by have s0 := SZ1.out; have s1 := SZ2.out; have s2 := SZ3.out; have s3 := SZ4.out; have s4 := SZ5.out; have s5 := SZ6.out; have s6 := SZ7.out; have s7 := SZ8.out; have s8 := SZ9.out; have s9 := SZ10.out; have s10 := SZ11.out; have s11 := SZ12.out; first | omega | (simp only [World.size_alloc, World.size_drew, World.size_setCell] at *; omega)))
      replace bel := below_grown bel hox0 hg (by have s0 := SZ1.out; have s1 := SZ2.out; have s2 := SZ3.out; have s3 := SZ4.out; have s4 := SZ5.out; have s5 := SZ6.out; have s6 := SZ7.out; have s7 := SZ8.out; have s8 := SZ9.out; have s9 := SZ10.out; have s10 := SZ11.out; have s11 := SZ12.out; first | omega | (simp only [World.size_alloc, World.size_drew, World.size_setCell] at *; omega)) bel.size
      clear hg hox0
      go_wp2_with fail
      refine (c_markIntS _ _ _ _ _ _ _ hox1 (by omega) (by omega) (by omega)).mono ?_
      rintro e w14' ⟨rfl, hkx1, hg⟩
      have SZ14 := Lib.hid hg.size
      replace f0 := f0.grown hg (row_apart rgx1.out (by have s0 := SZ1.out; have s1 := SZ2.out; have s2 := SZ3.out; have s3 := SZ4.out; have s4 := SZ5.out; have s5 := SZ6.out; have s6 := SZ7.out; have s7 := SZ8.out; have s8 := SZ9.out; have s9 := SZ10.out; have s10 := SZ11.out; have s11 := SZ12.out; have s12 := SZ13.out; first | omega | (simp only [World.size_alloc, World.size_drew, World.size_setCell] at *; omega)))
      replace kf00 := f0.c0
      replace kf01 := f0.c1
      replace fw := fw.grown hg (row_apart rgx1.out (by have s0 := SZ1.out; have s1 := SZ2.out; have s2 := SZ3.out; have s3 := SZ4.out; have s4 := SZ5.out; have s5 := SZ6.out; have s6 := SZ7.out; have s7 := SZ8.out; have s8 := SZ9.out; have s9 := SZ10.out; have s10 := SZ11.out; have s11 := SZ12.out; have s12 := SZ13.out; first | omega | (simp only [World.size_alloc, World.size_drew, World.size_setCell] at *; omega)))
      replace kfw0 := fw.c0
      replace kfw1 := fw.c1
      replace fx0 := fx0.grown hg (row_apart rgx1.out (by have s0 := SZ1.out; have s1 := SZ2.out; have s2 := SZ3.out; have s3 := SZ4.out; have s4 := SZ5.out; have s5 := SZ6.out; have s6 := SZ7.out; have s7 := SZ8.out; have s8 := SZ9.out; have s9 := SZ10.out; have s10 := SZ11.out; have s11 := SZ12.out; have s12 := SZ13.out; first | omega | (simp only [World.size_alloc, World.size_drew, World.size_setCell] at *; omega)))
      replace kfx00 := fx0.c0
      replace kfx01 := fx0.c1
      replace fg := fg.grown hg (row_apart rgx1.out (by have s0 := SZ1.out; have s1 := SZ2.out; have s2 := SZ3.out; have s3 := SZ4.out; have s4 := SZ5.out; have s5 := SZ6.out; have s6 := SZ7.out; have s7 := SZ8.out; have s8 := SZ9.out; have s9 := SZ10.out; have s10 := SZ11.out; have s11 := SZ12.out; have s12 := SZ13.out; first | omega | (simp only [World.size_alloc, World.size_drew, World.size_setCell] at *; omega)))
      replace kfg0 := fg.c0
      replace kfg1 := fg.c1
      replace how := how.grown hg (own_apart rgx1.out rgw.out (by have s0 := SZ1.out; have s1 := SZ2.out; have s2 := SZ3.out; have s3 := SZ4.out; have s4 := SZ5.out; have s5 := SZ6.out; have s6 := SZ7.out; have s7 := SZ8.out; have s8 := SZ9.out; have s9 := SZ10.out; have s10 := SZ11.out; have s11 := SZ12.out; have s12 := SZ13.out; first | omega | (simp only [World.size_alloc, World.size_drew, World.size_setCell] at *; omega)))
      replace hog := hog.grown hg (own_apart rgx1.out rgg.out (by have s0 := SZ1.out; have s1 := SZ2.out; have s2 := SZ3.out; have s3 := SZ4.out; have s4 := SZ5.out; have s5 := SZ6.out; have s6 := SZ7.out; have s7 := SZ8.out; have s8 := SZ9.out; have s9 := SZ10.out; have s10 := SZ11.out; have s11 := SZ12.out; have s12 := SZ13.out; first | omega | (simp only [World.size_alloc, World.size_drew, World.size_setCell] at *; omega)))
      replace bel := below_grown bel hox1 hg (by have s0 := SZ1.out; have s1 := SZ2.out; have s2 := SZ3.out; have s3 := SZ4.out; have s4 := SZ5.out; have s5 := SZ6.out; have s6 := SZ7.out; have s7 := SZ8.out; have s8 := SZ9.out; have s9 := SZ10.out; have s10 := SZ11.out; have s11 := SZ12.out; have s12 := SZ13.out; first | omega | (simp only [World.size_alloc, World.size_drew, World.size_setCell] at *; omega)) bel.size
      clear hg hox1
      clear hkx0 rgx0
      clear fx0 kfx00 kfx01
      clear hkx1 rgx1
      go_wp2_with fail
      refine (c_eqFunction_same _ _ _ _ _ _ _ _ _ hog.row how.row hlg hlw).mono ?_
      rintro e w15' ⟨rfl, hb⟩
      replace bel := bel.trans (hb.mono bel.size)
      have SZ15 := Lib.hid hb.size
      replace f0 := f0.below hb
      replace kf00 := f0.c0
      replace kf01 := f0.c1
      replace fw := fw.below hb
      replace kfw0 := fw.c0
      replace kfw1 := fw.c1
      replace fg := fg.below hb
      replace kfg0 := fg.c0
      replace kfg1 := fg.c1
      replace how := how.below hb
      replace hog := hog.below hb
      clear hb
      go_wp2_with fail
      refine (c_markFunction _ _ _ _ _ _ _ _ hog (by omega) (by omega) (by omega)).mono ?_
      rintro e w16' ⟨rfl, hkg, hg⟩
      have SZ16 := Lib.hid hg.size
      replace f0 := f0.grown hg (row_apart rgg.out (by have s0 := SZ1.out; have s1 := SZ2.out; have s2 := SZ3.out; have s3 := SZ4.out; have s4 := SZ5.out; have s5 := SZ6.out; have s6 := SZ7.out; have s7 := SZ8.out; have s8 := SZ9.out; have s9 := SZ10.out; have s10 := SZ11.out; have s11 := SZ12.out; have s12 := SZ13.out; have s13 := SZ14.out; have s14 := SZ15.out; first | omega | (simp only [World.size_alloc, World.size_drew, World.size_setCell] at *; omega)))
      replace kf00 := f0.c0
      replace kf01 := f0.c1
      replace fw := fw.grown hg (row_apart rgg.out (by have s0 := SZ1.out; have s1 := SZ2.out; have s2 := SZ3.out; have s3 := SZ4.out; have s4 := SZ5.out; have s5 := SZ6.out; have s6 := SZ7.out; have s7 := SZ8.out; have s8 := SZ9.out; have s9 := SZ10.out; have s10 := SZ11.out; have s11 := SZ12.out; have s12 := SZ13.out; have s13 := SZ14.out; have s14 := SZ15.out; first | omega | (simp only [World.size_alloc, World.size_drew, World.size_setCell] at *; omega)))
      replace kfw0 := fw.c0
      replace kfw1 := fw.c1
      replace fg := fg.grown hg (row_apart rgg.out (by have s0 := SZ1.out; have s1 := SZ2.out; have s2 := SZ3.out; have s3 := SZ4.out; have s4 := SZ5.out; have s5 := SZ6.out; have s6 := SZ7.out; have s7 := SZ8.out; have s8 := SZ9.out; have s9 := SZ10.out; have s10 := SZ11.out; have s11 := SZ12.out; have s12 := SZ13.out; have s13 := SZ14.out; have s14 := SZ15.out; first | omega | (simp only [World.size_alloc, World.size_drew, World.size_setCell] at *; omega)))
      replace kfg0 := fg.c0
      replace kfg1 := fg.c1
      replace how := how.grown hg (own_apart rgg.out rgw.out (by have s0 := SZ1.out; have s1 := SZ2.out; have s2 := SZ3.out; have s3 := SZ4.out; have s4 := SZ5.out; have s5 := SZ6.out; have s6 := SZ7.out; have s7 := SZ8.out; have s8 := SZ9.out; have s9 := SZ10.out; have s10 := SZ11.out; have s11 := SZ12.out; have s12 := SZ13.out; have s13 := SZ14.out; have s14 := SZ15.out; first | omega | (simp only [World.size_alloc, World.size_drew, World.size_setCell] at *; omega)))
      replace bel := below_grown bel hog hg (by have s0 := SZ1.out; have s1 := SZ2.out; have s2 := SZ3.out; have s3 := SZ4.out; have s4 := SZ5.out; have s5 := SZ6.out; have s6 := SZ7.out; have s7 := SZ8.out; have s8 := SZ9.out; have s9 := SZ10.out; have s10 := SZ11.out; have s11 := SZ12.out; have s12 := SZ13.out; have s13 := SZ14.out; have s14 := SZ15.out; first | omega | (simp only [World.size_alloc, World.size_drew, World.size_setCell] at *; omega)) bel.size
      clear hg hog
      go_wp2_with fail
      refine (c_heldFunction _ _ _ _ _ _ hkg.row hlg (by omega) (by omega)).mono ?_
      rintro e w17' ⟨rfl, hb⟩
      replace bel := bel.trans (hb.mono bel.size)
      have SZ17 := Lib.hid hb.size
      replace f0 := f0.below hb
      replace kf00 := f0.c0
      replace kf01 := f0.c1
      replace fw := fw.below hb
      replace kfw0 := fw.c0
      replace kfw1 := fw.c1
      replace fg := fg.below hb
      replace kfg0 := fg.c0
      replace kfg1 := fg.c1
      replace how := how.below hb
      replace hkg := hkg.below hb
      clear hb
      go_wp2_with fail
      refine (c_toFunction _ _ _ _ _ _ (hr0.below bel) (by omega)).mono ?_
      rintro e w18' ⟨gq0, rfl, hoq0, hb⟩
      replace bel := bel.trans (hb.mono bel.size)
      have SZ18 := Lib.hid hb.size
      replace f0 := f0.below hb
      replace kf00 := f0.c0
      replace kf01 := f0.c1
      replace fw := fw.below hb
      replace kfw0 := fw.c0
      replace kfw1 := fw.c1
      replace fg := fg.below hb
      replace kfg0 := fg.c0
      replace kfg1 := fg.c1
      replace how := how.below hb
      replace hkg := hkg.below hb
      clear hb
      have rgq0 := Lib.hid hoq0.range
      go_wp2_with fail
      refine (c_toIntS _ _ _ _ _ (hr1.below bel) (by omega)).mono ?_
      rintro e w19' ⟨rfl, hoq1, hb⟩
      replace bel := bel.trans (hb.mono bel.size)
      have SZ19 := Lib.hid hb.size
      replace f0 := f0.below hb
      replace kf00 := f0.c0
      replace kf01 := f0.c1
      replace fw := fw.below hb
      replace kfw0 := fw.c0
      replace kfw1 := fw.c1
      replace fg := fg.below hb
      replace kfg0 := fg.c0
      replace kfg1 := fg.c1
      replace how := how.below hb
      replace hkg := hkg.below hb
      replace hoq0 := hoq0.below hb
      clear hb
      (try simp only [World.size_alloc, World.size_setCell] at hoq1)
      have rgq1 := Lib.hid hoq1.range
      go_wp2_with fail
      refine (c_impl_ReduceFunction _ _ _ _ _ _ _ _ _ _ hoq0.row (by omega) hoq1.row (by omega)).mono ?_
      rintro e w20' ⟨ah, ch, rfl, hoh, hlh, hb⟩
      replace bel := bel.trans (hb.mono bel.size)
      have SZ20 := Lib.hid hb.size
      replace f0 := f0.below hb
      replace kf00 := f0.c0
      replace kf01 := f0.c1
      replace fw := fw.below hb
      replace kfw0 := fw.c0
      replace kfw1 := fw.c1
      replace fg := fg.below hb
      replace kfg0 := fg.c0
      replace kfg1 := fg.c1
      replace how := how.below hb
      replace hkg := hkg.below hb
      replace hoq0 := hoq0.below hb
      replace hoq1 := hoq1.below hb
      clear hb
      have rgh := Lib.hid hoh.range
      clear hoq0 rgq0
      clear hoq1 rgq1
      replace f0 := f0.alloc (.cells #[.int .i64 (gN (redT e0 z0 z1) e0 (tabOf e0 (convV z0 (rL z1)))), .slice ah (gL (redT e0 z0 z1) e0 (tabOf e0 (convV z0 (rL z1)))).length ch] 27)
      replace fw := fw.alloc (.cells #[.int .i64 (gN (redT e0 z0 z1) e0 (tabOf e0 (convV z0 (rL z1)))), .slice ah (gL (redT e0 z0 z1) e0 (tabOf e0 (convV z0 (rL z1)))).length ch] 27)
      replace fg := fg.alloc (.cells #[.int .i64 (gN (redT e0 z0 z1) e0 (tabOf e0 (convV z0 (rL z1)))), .slice ah (gL (redT e0 z0 z1) e0 (tabOf e0 (convV z0 (rL z1)))).length ch] 27)
      have fh := FBox.new w20' 27 ((gN (redT e0 z0 z1) e0 (tabOf e0 (convV z0 (rL z1))))) ah (gL (redT e0 z0 z1) e0 (tabOf e0 (convV z0 (rL z1)))).length ch
      replace kf00 := f0.c0
      replace kf01 := f0.c1
      replace kfw0 := fw.c0
      replace kfw1 := fw.c1
      replace kfg0 := fg.c0
      replace kfg1 := fg.c1
      replace how := how.alloc (.cells #[.int .i64 (gN (redT e0 z0 z1) e0 (tabOf e0 (convV z0 (rL z1)))), .slice ah (gL (redT e0 z0 z1) e0 (tabOf e0 (convV z0 (rL z1)))).length ch] 27)
      replace hkg := hkg.alloc (.cells #[.int .i64 (gN (redT e0 z0 z1) e0 (tabOf e0 (convV z0 (rL z1)))), .slice ah (gL (redT e0 z0 z1) e0 (tabOf e0 (convV z0 (rL z1)))).length ch] 27)
      replace hoh := hoh.alloc (.cells #[.int .i64 (gN (redT e0 z0 z1) e0 (tabOf e0 (convV z0 (rL z1)))), .slice ah (gL (redT e0 z0 z1) e0 (tabOf e0 (convV z0 (rL z1)))).length ch] 27)
      replace bel := bel.alloc bel.size (.cells #[.int .i64 (gN (redT e0 z0 z1) e0 (tabOf e0 (convV z0 (rL z1)))), .slice ah (gL (redT e0 z0 z1) e0 (tabOf e0 (convV z0 (rL z1)))).length ch] 27)
      go_wp2_with fail
      refine (c_eqFunction_same _ _ _ _ _ _ _ _ _ hoh.row how.row hlh hlw).mono ?_
      rintro e w21' ⟨rfl, hb⟩
      replace bel := bel.trans (hb.mono bel.size)
      have SZ21 := Lib.hid hb.size
      replace f0 := f0.below hb
      replace kf00 := f0.c0
      replace kf01 := f0.c1
      replace fw := fw.below hb
      replace kfw0 := fw.c0
      replace kfw1 := fw.c1
      replace fg := fg.below hb
      replace kfg0 := fg.c0
      replace kfg1 := fg.c1
      replace fh := fh.below hb
      have kfh0 := fh.c0
      have kfh1 := fh.c1
      replace how := how.below hb
      replace hkg := hkg.below hb
      replace hoh := hoh.below hb
      clear hb
      go_wp2_with fail
      refine (c_heldFunction _ _ _ _ _ _ hkg.row hlg (by omega) (by omega)).mono ?_
      rintro e w22' ⟨rfl, hb⟩
      replace bel := bel.trans (hb.mono bel.size)
      have SZ22 := Lib.hid hb.size
      replace f0 := f0.below hb
      replace kf00 := f0.c0
      replace kf01 := f0.c1
      replace fw := fw.below hb
      replace kfw0 := fw.c0
      replace kfw1 := fw.c1
      replace fg := fg.below hb
      replace kfg0 := fg.c0
      replace kfg1 := fg.c1
      replace fh := fh.below hb
      replace kfh0 := fh.c0
      replace kfh1 := fh.c1
      replace how := how.below hb
      replace hkg := hkg.below hb
      replace hoh := hoh.below hb
      clear hb
      go_wp2
      go_ret
      exact ⟨rfl, by first | exact bel | exact bel.drew | exact below_drewN bel _⟩
    · have bel := Below.refl w.heap.size w
      have f0 := FBox.new w 24 e0 a0 n0 c0
      replace bel := bel.alloc bel.size (.cells #[.int .i64 e0, .slice a0 n0 c0] 24)
      go_enter Try.func12, Try.ntmps12
      go_wp2_with fail
      refine (c_szFunction_no _ _ _ _ _ _ (by omega) (by omega) hm0 (by omega)).mono ?_
      rintro e v0' ⟨rfl, hb⟩
      replace bel := bel.trans (hb.mono bel.size)
      replace f0 := f0.below hb
      have kf00 := f0.c0
      have kf01 := f0.c1
      clear hb
      go_wp2
      go_ret
      exact ⟨rfl, bel⟩
  · have bel := Below.refl w.heap.size w
    have f0 := FBox.new w 24 e0 a0 n0 c0
    replace bel := bel.alloc bel.size (.cells #[.int .i64 e0, .slice a0 n0 c0] 24)
    go_enter Try.func12, Try.ntmps12
    go_wp2
    go_ret
    exact ⟨rfl, bel⟩
end Go.Proofs.Ythiokplkimdojaa
