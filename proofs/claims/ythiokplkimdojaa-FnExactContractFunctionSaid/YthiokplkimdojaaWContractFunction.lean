/- The walk of the law FnExactContractFunction. -/
import Derived.Test.YthiokplkimdojaaContract
import Derived.Test.YthiokplkimdojaaInRows
namespace Go.Proofs.Ythiokplkimdojaa
set_option linter.unusedSimpArgs false
set_option linter.unusedVariables false
open Go.RowKit

set_option maxHeartbeats 1000000 in
theorem walk_FnExactContractFunction (e0 : Int) (a0 : Option Addr) (n0 c0 : Nat) (z0 : List Int) (a1 : Int) (w : World) (u0 : (Lit.int .i64 e0).wf = true) (w0 : InRow .i64 w a0 n0 c0 z0) (w1 : (Lit.int .i64 a1).wf = true) :
    Calls Try.prog 7 #[.agg #[.int .i64 e0, .slice a0 n0 c0], .int .i64 a1] w fun e w' => e = .returned (.bool true) ∧ Below w.heap.size w w' := by
  obtain ⟨hr0, hnc0, hcm0, _⟩ := w0
  have hm0 : n0 ≤ maxLen := Nat.le_trans hnc0 hcm0
  by_cases h0 : n0 ≤ 1048576
  · skip
    have bel := Below.refl w.heap.size w
    have f0 := FBox.new w 24 e0 a0 n0 c0
    replace bel := bel.alloc bel.size (.cells #[.int .i64 e0, .slice a0 n0 c0] 24)
    have kf00 := f0.c0
    have kf01 := f0.c1
    have hz0 : eqL z0 z0 = true := eqL_true.2 rfl
    go_enter Try.func7, Try.ntmps7
    go_wp2_with fail
    refine (c_szFunction_ok _ _ _ _ _ _ (by omega) (by omega) hm0 (by omega)).mono ?_
    rintro e w1' ⟨rfl, hb⟩
    replace bel := bel.trans (hb.mono bel.size)
    have SZ1 := Lib.hid hb.size
    replace f0 := f0.below hb
    replace kf00 := f0.c0
    replace kf01 := f0.c1
    clear hb
    go_wp2_with fail
    refine (c_toFunction _ _ _ _ _ _ (hr0.below bel) (by omega)).mono ?_
    rintro e w2' ⟨gs0, rfl, hos0, hb⟩
    replace bel := bel.trans (hb.mono bel.size)
    have SZ2 := Lib.hid hb.size
    replace f0 := f0.below hb
    replace kf00 := f0.c0
    replace kf01 := f0.c1
    clear hb
    have rgs0 := Lib.hid hos0.range
    go_wp2_with fail
    refine (c_spec_ContractFunction _ _ _ _ _ _ _ hos0.row (by omega)).mono ?_
    rintro e w3' ⟨aw, cw, rfl, how, hlw, hb⟩
    replace bel := bel.trans (hb.mono bel.size)
    have SZ3 := Lib.hid hb.size
    replace f0 := f0.below hb
    replace kf00 := f0.c0
    replace kf01 := f0.c1
    replace hos0 := hos0.below hb
    clear hb
    have rgw := Lib.hid how.range
    clear hos0 rgs0
    replace f0 := f0.alloc (.cells #[.int .i64 (gN (in5 e0 z0 a1) ((sizeN (restN e0 a1) : Int)) (tabOf ((sizeN (restN e0 a1) : Int)) (conV z0 a1.toNat (restN e0 a1)))), .slice aw (gL (in5 e0 z0 a1) ((sizeN (restN e0 a1) : Int)) (tabOf ((sizeN (restN e0 a1) : Int)) (conV z0 a1.toNat (restN e0 a1)))).length cw] 27)
    have fw := FBox.new w3' 27 ((gN (in5 e0 z0 a1) ((sizeN (restN e0 a1) : Int)) (tabOf ((sizeN (restN e0 a1) : Int)) (conV z0 a1.toNat (restN e0 a1))))) aw (gL (in5 e0 z0 a1) ((sizeN (restN e0 a1) : Int)) (tabOf ((sizeN (restN e0 a1) : Int)) (conV z0 a1.toNat (restN e0 a1)))).length cw
    replace kf00 := f0.c0
    replace kf01 := f0.c1
    replace how := how.alloc (.cells #[.int .i64 (gN (in5 e0 z0 a1) ((sizeN (restN e0 a1) : Int)) (tabOf ((sizeN (restN e0 a1) : Int)) (conV z0 a1.toNat (restN e0 a1)))), .slice aw (gL (in5 e0 z0 a1) ((sizeN (restN e0 a1) : Int)) (tabOf ((sizeN (restN e0 a1) : Int)) (conV z0 a1.toNat (restN e0 a1)))).length cw] 27)
    replace bel := bel.alloc bel.size (.cells #[.int .i64 (gN (in5 e0 z0 a1) ((sizeN (restN e0 a1) : Int)) (tabOf ((sizeN (restN e0 a1) : Int)) (conV z0 a1.toNat (restN e0 a1)))), .slice aw (gL (in5 e0 z0 a1) ((sizeN (restN e0 a1) : Int)) (tabOf ((sizeN (restN e0 a1) : Int)) (conV z0 a1.toNat (restN e0 a1)))).length cw] 27)
    go_wp2_with fail
    refine (c_toFunction _ _ _ _ _ _ (hr0.below bel) (by omega)).mono ?_
    rintro e w4' ⟨gx0, rfl, hox0, hb⟩
    replace bel := bel.trans (hb.mono bel.size)
    have SZ4 := Lib.hid hb.size
    replace f0 := f0.below hb
    replace kf00 := f0.c0
    replace kf01 := f0.c1
    replace fw := fw.below hb
    have kfw0 := fw.c0
    have kfw1 := fw.c1
    replace how := how.below hb
    clear hb
    have rgx0 := Lib.hid hox0.range
    replace f0 := f0.alloc (.cells #[.int .i64 e0, .slice (some ⟨gx0, 0, none⟩) n0 n0] 27)
    replace fw := fw.alloc (.cells #[.int .i64 e0, .slice (some ⟨gx0, 0, none⟩) n0 n0] 27)
    have fx0 := FBox.new w4' 27 e0 (some ⟨gx0, 0, none⟩) n0 n0
    replace kf00 := f0.c0
    replace kf01 := f0.c1
    replace kfw0 := fw.c0
    replace kfw1 := fw.c1
    replace how := how.alloc (.cells #[.int .i64 e0, .slice (some ⟨gx0, 0, none⟩) n0 n0] 27)
    replace hox0 := hox0.alloc (.cells #[.int .i64 e0, .slice (some ⟨gx0, 0, none⟩) n0 n0] 27)
    replace bel := bel.alloc bel.size (.cells #[.int .i64 e0, .slice (some ⟨gx0, 0, none⟩) n0 n0] 27)
    go_wp2_with fail
    refine (c_impl_ContractFunction _ _ _ _ _ _ _ hox0.row (by omega)).mono ?_
    rintro e w5' ⟨ag, cg, rfl, hog, hlg, hb⟩
    replace bel := bel.trans (hb.mono bel.size)
    have SZ5 := Lib.hid hb.size
    replace f0 := f0.below hb
    replace kf00 := f0.c0
    replace kf01 := f0.c1
    replace fw := fw.below hb
    replace kfw0 := fw.c0
    replace kfw1 := fw.c1
    replace fx0 := fx0.below hb
    have kfx00 := fx0.c0
    have kfx01 := fx0.c1
    replace how := how.below hb
    replace hox0 := hox0.below hb
    clear hb
    have rgg := Lib.hid hog.range
    replace f0 := f0.alloc (.cells #[.int .i64 (gN (in5 e0 z0 a1) ((sizeN (restN e0 a1) : Int)) (tabOf ((sizeN (restN e0 a1) : Int)) (conV z0 a1.toNat (restN e0 a1)))), .slice ag (gL (in5 e0 z0 a1) ((sizeN (restN e0 a1) : Int)) (tabOf ((sizeN (restN e0 a1) : Int)) (conV z0 a1.toNat (restN e0 a1)))).length cg] 27)
    replace fw := fw.alloc (.cells #[.int .i64 (gN (in5 e0 z0 a1) ((sizeN (restN e0 a1) : Int)) (tabOf ((sizeN (restN e0 a1) : Int)) (conV z0 a1.toNat (restN e0 a1)))), .slice ag (gL (in5 e0 z0 a1) ((sizeN (restN e0 a1) : Int)) (tabOf ((sizeN (restN e0 a1) : Int)) (conV z0 a1.toNat (restN e0 a1)))).length cg] 27)
    replace fx0 := fx0.alloc (.cells #[.int .i64 (gN (in5 e0 z0 a1) ((sizeN (restN e0 a1) : Int)) (tabOf ((sizeN (restN e0 a1) : Int)) (conV z0 a1.toNat (restN e0 a1)))), .slice ag (gL (in5 e0 z0 a1) ((sizeN (restN e0 a1) : Int)) (tabOf ((sizeN (restN e0 a1) : Int)) (conV z0 a1.toNat (restN e0 a1)))).length cg] 27)
    have fg := FBox.new w5' 27 ((gN (in5 e0 z0 a1) ((sizeN (restN e0 a1) : Int)) (tabOf ((sizeN (restN e0 a1) : Int)) (conV z0 a1.toNat (restN e0 a1))))) ag (gL (in5 e0 z0 a1) ((sizeN (restN e0 a1) : Int)) (tabOf ((sizeN (restN e0 a1) : Int)) (conV z0 a1.toNat (restN e0 a1)))).length cg
    replace kf00 := f0.c0
    replace kf01 := f0.c1
    replace kfw0 := fw.c0
    replace kfw1 := fw.c1
    replace kfx00 := fx0.c0
    replace kfx01 := fx0.c1
    replace how := how.alloc (.cells #[.int .i64 (gN (in5 e0 z0 a1) ((sizeN (restN e0 a1) : Int)) (tabOf ((sizeN (restN e0 a1) : Int)) (conV z0 a1.toNat (restN e0 a1)))), .slice ag (gL (in5 e0 z0 a1) ((sizeN (restN e0 a1) : Int)) (tabOf ((sizeN (restN e0 a1) : Int)) (conV z0 a1.toNat (restN e0 a1)))).length cg] 27)
    replace hox0 := hox0.alloc (.cells #[.int .i64 (gN (in5 e0 z0 a1) ((sizeN (restN e0 a1) : Int)) (tabOf ((sizeN (restN e0 a1) : Int)) (conV z0 a1.toNat (restN e0 a1)))), .slice ag (gL (in5 e0 z0 a1) ((sizeN (restN e0 a1) : Int)) (tabOf ((sizeN (restN e0 a1) : Int)) (conV z0 a1.toNat (restN e0 a1)))).length cg] 27)
    replace hog := hog.alloc (.cells #[.int .i64 (gN (in5 e0 z0 a1) ((sizeN (restN e0 a1) : Int)) (tabOf ((sizeN (restN e0 a1) : Int)) (conV z0 a1.toNat (restN e0 a1)))), .slice ag (gL (in5 e0 z0 a1) ((sizeN (restN e0 a1) : Int)) (tabOf ((sizeN (restN e0 a1) : Int)) (conV z0 a1.toNat (restN e0 a1)))).length cg] 27)
    replace bel := bel.alloc bel.size (.cells #[.int .i64 (gN (in5 e0 z0 a1) ((sizeN (restN e0 a1) : Int)) (tabOf ((sizeN (restN e0 a1) : Int)) (conV z0 a1.toNat (restN e0 a1)))), .slice ag (gL (in5 e0 z0 a1) ((sizeN (restN e0 a1) : Int)) (tabOf ((sizeN (restN e0 a1) : Int)) (conV z0 a1.toNat (restN e0 a1)))).length cg] 27)
    go_wp2_with fail
    refine (c_eqFunction_same _ _ _ _ _ _ _ _ _ hog.row how.row hlg hlw).mono ?_
    rintro e w6' ⟨rfl, hb⟩
    replace bel := bel.trans (hb.mono bel.size)
    have SZ6 := Lib.hid hb.size
    replace f0 := f0.below hb
    replace kf00 := f0.c0
    replace kf01 := f0.c1
    replace fw := fw.below hb
    replace kfw0 := fw.c0
    replace kfw1 := fw.c1
    replace fx0 := fx0.below hb
    replace kfx00 := fx0.c0
    replace kfx01 := fx0.c1
    replace fg := fg.below hb
    have kfg0 := fg.c0
    have kfg1 := fg.c1
    replace how := how.below hb
    replace hox0 := hox0.below hb
    replace hog := hog.below hb
    clear hb
    go_wp2_with fail
    replace f0 := f0.drew
    replace fw := fw.drew
    replace fx0 := fx0.drew
    replace fg := fg.drew
    replace how := how.drew
    replace hox0 := hox0.drew
    replace hog := hog.drew
    replace bel := bel.drew
    go_region_held3 (fun w' => w'.cell? ⟨w.heap.size, 0, none⟩ = some (.int .i64 e0) ∧ w'.cell? ⟨w.heap.size, 1, none⟩ = some (.slice a0 n0 c0) ∧ w'.cell? ⟨w4'.heap.size, 0, none⟩ = some (.int .i64 e0) ∧ w'.cell? ⟨w4'.heap.size, 1, none⟩ = some (.slice (some ⟨gx0, 0, none⟩) n0 n0)) (go_keep)
      (first
        | (go_at_call 16; refine (c_toFunction _ _ _ _ _ _ (hr0.below bel) (by omega)).mono ?_; rintro e w7' ⟨gt0, rfl, hot0, hb⟩; replace bel := bel.trans (hb.mono bel.size); have SZ7 := Lib.hid hb.size; replace f0 := f0.below hb; replace kf00 := f0.c0; replace kf01 := f0.c1; replace fw := fw.below hb; replace kfw0 := fw.c0; replace kfw1 := fw.c1; replace fx0 := fx0.below hb; replace kfx00 := fx0.c0; replace kfx01 := fx0.c1; replace fg := fg.below hb; replace kfg0 := fg.c0; replace kfg1 := fg.c1; replace how := how.below hb; replace hox0 := hox0.below hb; replace hog := hog.below hb; clear hb)
        | (go_at_call 18; refine (c_eqFunction_same _ _ _ _ _ _ _ _ _ hox0.row hot0.row (by omega) (by omega)).mono ?_; rintro e w8' ⟨rfl, hb⟩; replace bel := bel.trans (hb.mono bel.size); have SZ8 := Lib.hid hb.size; replace f0 := f0.below hb; replace kf00 := f0.c0; replace kf01 := f0.c1; replace fw := fw.below hb; replace kfw0 := fw.c0; replace kfw1 := fw.c1; replace fx0 := fx0.below hb; replace kfx00 := fx0.c0; replace kfx01 := fx0.c1; replace fg := fg.below hb; replace kfg0 := fg.c0; replace kfg1 := fg.c1; replace how := how.below hb; replace hox0 := hox0.below hb; replace hog := hog.below hb; replace hot0 := hot0.below hb; clear hb))
    clear hot0
    go_wp2_with fail
    refine (c_markFunction _ _ _ _ _ _ _ _ hox0 (by omega) (by omega) (by omega)).mono ?_
    rintro e w9' ⟨rfl, hkx0, hg⟩
    have SZ9 := Lib.hid hg.size
    replace f0 := f0.grown hg (row_apart rgx0.out (by have s0 := SZ1.out; have s1 := SZ2.out; have s2 := SZ3.out; have s3 := SZ4.out; have s4 := SZ5.out; have s5 := SZ6.out; have s6 := SZ7.out; have s7 := SZ8.out; first | omega | (simp only [World.size_alloc, World.size_drew, World.size_setCell] at *; omega)))
    replace kf00 := f0.c0
    replace kf01 := f0.c1
    replace fw := fw.grown hg (row_apart rgx0.out (by have s0 := SZ1.out; have s1 := SZ2.out; have s2 := SZ3.out; have s3 := SZ4.out; have s4 := SZ5.out; have s5 := SZ6.out; have s6 := SZ7.out; have s7 := SZ8.out; first | omega | (simp only [World.size_alloc, World.size_drew, World.size_setCell] at *; omega)))
    replace kfw0 := fw.c0
    replace kfw1 := fw.c1
    replace fx0 := fx0.grown hg (row_apart rgx0.out (by have s0 := SZ1.out; have s1 := SZ2.out; have s2 := SZ3.out; have s3 := SZ4.out; have s4 := SZ5.out; have s5 := SZ6.out; have s6 := SZ7.out; have s7 := SZ8.out; first | omega | (simp only [World.size_alloc, World.size_drew, World.size_setCell] at *; omega)))
    replace kfx00 := fx0.c0
    replace kfx01 := fx0.c1
    replace fg := fg.grown hg (row_apart rgx0.out (by have s0 := SZ1.out; have s1 := SZ2.out; have s2 := SZ3.out; have s3 := SZ4.out; have s4 := SZ5.out; have s5 := SZ6.out; have s6 := SZ7.out; have s7 := SZ8.out; first | omega | (simp only [World.size_alloc, World.size_drew, World.size_setCell] at *; omega)))
    replace kfg0 := fg.c0
    replace kfg1 := fg.c1
    replace how := how.grown hg (own_apart rgx0.out rgw.out (by have s0 := SZ1.out; have s1 := SZ2.out; have s2 := SZ3.out; have s3 := SZ4.out; have s4 := SZ5.out; have s5 := SZ6.out; have s6 := SZ7.out; have s7 := SZ8.out; first | omega | (simp only [World.size_alloc, World.size_drew, World.size_setCell] at *; omega)))
    replace hog := hog.grown hg (own_apart rgx0.out rgg.out (by have s0 := SZ1.out; have s1 := SZ2.out; have s2 := SZ3.out; have s3 := SZ4.out; have s4 := SZ5.out; have s5 := SZ6.out; have s6 := SZ7.out; have s7 := SZ8.out; first | omega | (simp only [World.size_alloc, World.size_drew, World.size_setCell] at *; omega)))
    replace bel := below_grown bel hox0 hg (by have s0 := SZ1.out; have s1 := SZ2.out; have s2 := SZ3.out; have s3 := SZ4.out; have s4 := SZ5.out; have s5 := SZ6.out; have s6 := SZ7.out; have s7 := SZ8.out; first | omega | (simp only [World.size_alloc, World.size_drew, World.size_setCell] at *; omega)) bel.size
    clear hg hox0
    clear hkx0 rgx0
    clear fx0 kfx00 kfx01
    go_wp2_with fail
    refine (c_eqFunction_same _ _ _ _ _ _ _ _ _ hog.row how.row hlg hlw).mono ?_
    rintro e w10' ⟨rfl, hb⟩
    replace bel := bel.trans (hb.mono bel.size)
    have SZ10 := Lib.hid hb.size
    replace f0 := f0.below hb
    replace kf00 := f0.c0
    replace kf01 := f0.c1
    replace fw := fw.below hb
    replace kfw0 := fw.c0
    replace kfw1 := fw.c1
    replace fg := fg.below hb
    replace kfg0 := fg.c0
    replace kfg1 := fg.c1
    replace how := how.below hb
    replace hog := hog.below hb
    clear hb
    go_wp2_with fail
    refine (c_markFunction _ _ _ _ _ _ _ _ hog (by omega) (by omega) (by omega)).mono ?_
    rintro e w11' ⟨rfl, hkg, hg⟩
    have SZ11 := Lib.hid hg.size
    replace f0 := f0.grown hg (row_apart rgg.out (by have s0 := SZ1.out; have s1 := SZ2.out; have s2 := SZ3.out; have s3 := SZ4.out; have s4 := SZ5.out; have s5 := SZ6.out; have s6 := SZ7.out; have s7 := SZ8.out; have s8 := SZ9.out; have s9 := SZ10.out; first | omega | (simp only [World.size_alloc, World.size_drew, World.size_setCell] at *; omega)))
    replace kf00 := f0.c0
    replace kf01 := f0.c1
    replace fw := fw.grown hg (row_apart rgg.out (by have s0 := SZ1.out; have s1 := SZ2.out; have s2 := SZ3.out; have s3 := SZ4.out; have s4 := SZ5.out; have s5 := SZ6.out; have s6 := SZ7.out; have s7 := SZ8.out; have s8 := SZ9.out; have s9 := SZ10.out; first | omega | (simp only [World.size_alloc, World.size_drew, World.size_setCell] at *; omega)))
    replace kfw0 := fw.c0
    replace kfw1 := fw.c1
    replace fg := fg.grown hg (row_apart rgg.out (by have s0 := SZ1.out; have s1 := SZ2.out; have s2 := SZ3.out; have s3 := SZ4.out; have s4 := SZ5.out; have s5 := SZ6.out; have s6 := SZ7.out; have s7 := SZ8.out; have s8 := SZ9.out; have s9 := SZ10.out; first | omega | (simp only [World.size_alloc, World.size_drew, World.size_setCell] at *; omega)))
    replace kfg0 := fg.c0
    replace kfg1 := fg.c1
    replace how := how.grown hg (own_apart rgg.out rgw.out (by have s0 := SZ1.out; have s1 := SZ2.out; have s2 := SZ3.out; have s3 := SZ4.out; have s4 := SZ5.out; have s5 := SZ6.out; have s6 := SZ7.out; have s7 := SZ8.out; have s8 := SZ9.out; have s9 := SZ10.out; first | omega | (simp only [World.size_alloc, World.size_drew, World.size_setCell] at *; omega)))
    replace bel := below_grown bel hog hg (by have s0 := SZ1.out; have s1 := SZ2.out; have s2 := SZ3.out; have s3 := SZ4.out; have s4 := SZ5.out; have s5 := SZ6.out; have s6 := SZ7.out; have s7 := SZ8.out; have s8 := SZ9.out; have s9 := SZ10.out; first | omega | (simp only [World.size_alloc, World.size_drew, World.size_setCell] at *; omega)) bel.size
    clear hg hog
    go_wp2_with fail
    refine (c_heldFunction _ _ _ _ _ _ hkg.row hlg (by omega) (by omega)).mono ?_
    rintro e w12' ⟨rfl, hb⟩
    replace bel := bel.trans (hb.mono bel.size)
    have SZ12 := Lib.hid hb.size
    replace f0 := f0.below hb
    replace kf00 := f0.c0
    replace kf01 := f0.c1
    replace fw := fw.below hb
    replace kfw0 := fw.c0
    replace kfw1 := fw.c1
    replace fg := fg.below hb
    replace kfg0 := fg.c0
    replace kfg1 := fg.c1
    replace how := how.below hb
    replace hkg := hkg.below hb
    clear hb
    go_wp2_with fail
    refine (c_toFunction _ _ _ _ _ _ (hr0.below bel) (by omega)).mono ?_
    rintro e w13' ⟨gq0, rfl, hoq0, hb⟩
    replace bel := bel.trans (hb.mono bel.size)
    have SZ13 := Lib.hid hb.size
    replace f0 := f0.below hb
    replace kf00 := f0.c0
    replace kf01 := f0.c1
    replace fw := fw.below hb
    replace kfw0 := fw.c0
    replace kfw1 := fw.c1
    replace fg := fg.below hb
    replace kfg0 := fg.c0
    replace kfg1 := fg.c1
    replace how := how.below hb
    replace hkg := hkg.below hb
    clear hb
    have rgq0 := Lib.hid hoq0.range
    go_wp2_with fail
    refine (c_impl_ContractFunction _ _ _ _ _ _ _ hoq0.row (by omega)).mono ?_
    rintro e w14' ⟨ah, ch, rfl, hoh, hlh, hb⟩
    replace bel := bel.trans (hb.mono bel.size)
    have SZ14 := Lib.hid hb.size
    replace f0 := f0.below hb
    replace kf00 := f0.c0
    replace kf01 := f0.c1
    replace fw := fw.below hb
    replace kfw0 := fw.c0
    replace kfw1 := fw.c1
    replace fg := fg.below hb
    replace kfg0 := fg.c0
    replace kfg1 := fg.c1
    replace how := how.below hb
    replace hkg := hkg.below hb
    replace hoq0 := hoq0.below hb
    clear hb
    have rgh := Lib.hid hoh.range
    clear hoq0 rgq0
    replace f0 := f0.alloc (.cells #[.int .i64 (gN (in5 e0 z0 a1) ((sizeN (restN e0 a1) : Int)) (tabOf ((sizeN (restN e0 a1) : Int)) (conV z0 a1.toNat (restN e0 a1)))), .slice ah (gL (in5 e0 z0 a1) ((sizeN (restN e0 a1) : Int)) (tabOf ((sizeN (restN e0 a1) : Int)) (conV z0 a1.toNat (restN e0 a1)))).length ch] 27)
    replace fw := fw.alloc (.cells #[.int .i64 (gN (in5 e0 z0 a1) ((sizeN (restN e0 a1) : Int)) (tabOf ((sizeN (restN e0 a1) : Int)) (conV z0 a1.toNat (restN e0 a1)))), .slice ah (gL (in5 e0 z0 a1) ((sizeN (restN e0 a1) : Int)) (tabOf ((sizeN (restN e0 a1) : Int)) (conV z0 a1.toNat (restN e0 a1)))).length ch] 27)
    replace fg := fg.alloc (.cells #[.int .i64 (gN (in5 e0 z0 a1) ((sizeN (restN e0 a1) : Int)) (tabOf ((sizeN (restN e0 a1) : Int)) (conV z0 a1.toNat (restN e0 a1)))), .slice ah (gL (in5 e0 z0 a1) ((sizeN (restN e0 a1) : Int)) (tabOf ((sizeN (restN e0 a1) : Int)) (conV z0 a1.toNat (restN e0 a1)))).length ch] 27)
    have fh := FBox.new w14' 27 ((gN (in5 e0 z0 a1) ((sizeN (restN e0 a1) : Int)) (tabOf ((sizeN (restN e0 a1) : Int)) (conV z0 a1.toNat (restN e0 a1))))) ah (gL (in5 e0 z0 a1) ((sizeN (restN e0 a1) : Int)) (tabOf ((sizeN (restN e0 a1) : Int)) (conV z0 a1.toNat (restN e0 a1)))).length ch
    replace kf00 := f0.c0
    replace kf01 := f0.c1
    replace kfw0 := fw.c0
    replace kfw1 := fw.c1
    replace kfg0 := fg.c0
    replace kfg1 := fg.c1
    replace how := how.alloc (.cells #[.int .i64 (gN (in5 e0 z0 a1) ((sizeN (restN e0 a1) : Int)) (tabOf ((sizeN (restN e0 a1) : Int)) (conV z0 a1.toNat (restN e0 a1)))), .slice ah (gL (in5 e0 z0 a1) ((sizeN (restN e0 a1) : Int)) (tabOf ((sizeN (restN e0 a1) : Int)) (conV z0 a1.toNat (restN e0 a1)))).length ch] 27)
    replace hkg := hkg.alloc (.cells #[.int .i64 (gN (in5 e0 z0 a1) ((sizeN (restN e0 a1) : Int)) (tabOf ((sizeN (restN e0 a1) : Int)) (conV z0 a1.toNat (restN e0 a1)))), .slice ah (gL (in5 e0 z0 a1) ((sizeN (restN e0 a1) : Int)) (tabOf ((sizeN (restN e0 a1) : Int)) (conV z0 a1.toNat (restN e0 a1)))).length ch] 27)
    replace hoh := hoh.alloc (.cells #[.int .i64 (gN (in5 e0 z0 a1) ((sizeN (restN e0 a1) : Int)) (tabOf ((sizeN (restN e0 a1) : Int)) (conV z0 a1.toNat (restN e0 a1)))), .slice ah (gL (in5 e0 z0 a1) ((sizeN (restN e0 a1) : Int)) (tabOf ((sizeN (restN e0 a1) : Int)) (conV z0 a1.toNat (restN e0 a1)))).length ch] 27)
    replace bel := bel.alloc bel.size (.cells #[.int .i64 (gN (in5 e0 z0 a1) ((sizeN (restN e0 a1) : Int)) (tabOf ((sizeN (restN e0 a1) : Int)) (conV z0 a1.toNat (restN e0 a1)))), .slice ah (gL (in5 e0 z0 a1) ((sizeN (restN e0 a1) : Int)) (tabOf ((sizeN (restN e0 a1) : Int)) (conV z0 a1.toNat (restN e0 a1)))).length ch] 27)
    go_wp2_with fail
    refine (c_eqFunction_same _ _ _ _ _ _ _ _ _ hoh.row how.row hlh hlw).mono ?_
    rintro e w15' ⟨rfl, hb⟩
    replace bel := bel.trans (hb.mono bel.size)
    have SZ15 := Lib.hid hb.size
    replace f0 := f0.below hb
    replace kf00 := f0.c0
    replace kf01 := f0.c1
    replace fw := fw.below hb
    replace kfw0 := fw.c0
    replace kfw1 := fw.c1
    replace fg := fg.below hb
    replace kfg0 := fg.c0
    replace kfg1 := fg.c1
    replace fh := fh.below hb
    have kfh0 := fh.c0
    have kfh1 := fh.c1
    replace how := how.below hb
    replace hkg := hkg.below hb
    replace hoh := hoh.below hb
    clear hb
    go_wp2_with fail
    refine (c_heldFunction _ _ _ _ _ _ hkg.row hlg (by omega) (by omega)).mono ?_
    rintro e w16' ⟨rfl, hb⟩
    replace bel := bel.trans (hb.mono bel.size)
    have SZ16 := Lib.hid hb.size
    replace f0 := f0.below hb
    replace kf00 := f0.c0
    replace kf01 := f0.c1
    replace fw := fw.below hb
    replace kfw0 := fw.c0
    replace kfw1 := fw.c1
    replace fg := fg.below hb
    replace kfg0 := fg.c0
    replace kfg1 := fg.c1
    replace fh := fh.below hb
    replace kfh0 := fh.c0
    replace kfh1 := fh.c1
    replace how := how.below hb
    replace hkg := hkg.below hb
    replace hoh := hoh.below hb
    clear hb
    go_wp2
    go_ret
    exact ⟨rfl, by first | exact bel | exact bel.drew | exact below_drewN bel _⟩
  · have bel := Below.refl w.heap.size w
    have f0 := FBox.new w 24 e0 a0 n0 c0
    replace bel := bel.alloc bel.size (.cells #[.int .i64 e0, .slice a0 n0 c0] 24)
    go_enter Try.func7, Try.ntmps7
    go_wp2_with fail
    refine (c_szFunction_no _ _ _ _ _ _ (by omega) (by omega) hm0 (by omega)).mono ?_
    rintro e v0' ⟨rfl, hb⟩
    replace bel := bel.trans (hb.mono bel.size)
    replace f0 := f0.below hb
    have kf00 := f0.c0
    have kf01 := f0.c1
    clear hb
    go_wp2
    go_ret
    exact ⟨rfl, bel⟩
end Go.Proofs.Ythiokplkimdojaa
