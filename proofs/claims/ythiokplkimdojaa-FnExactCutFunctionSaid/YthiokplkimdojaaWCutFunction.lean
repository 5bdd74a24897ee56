/- The walk of the law FnExactCutFunction. -/
import Derived.Test.YthiokplkimdojaaFlat2
import Derived.Test.YthiokplkimdojaaCutP
import Derived.Test.YthiokplkimdojaaInRows
namespace Go.Proofs.Ythiokplkimdojaa
set_option linter.unusedSimpArgs false
set_option linter.unusedVariables false
open Go.RowKit

set_option maxHeartbeats 1000000 in
theorem walk_FnExactCutFunction (a0 : Int) (a1 : Option Addr) (n1 c1 : Nat) (z1 : List Int) (w : World) (w0 : (Lit.int .i64 a0).wf = true) (w1 : InRows 3 w a1 n1 c1 z1) :
    Calls Try.prog 10 #[.int .i64 a0, .slice a1 n1 c1] w fun e w' => e = .returned (.bool true) ∧ Below w.heap.size w w' := by
  obtain ⟨hr1, hnc1, hcm1⟩ := w1
  have hm1 : n1 ≤ maxLen := Nat.le_trans hnc1 hcm1
  by_cases h1 : n1 ≤ 1048576
  · skip
    have bel := Below.refl w.heap.size w
    go_enter Try.func10, Try.ntmps10
    go_wp2_with fail
    refine (c_szEdgeS_ok _ _ _ _ _ (by omega) (by omega) hm1 (by omega)).mono ?_
    rintro e w1' ⟨rfl, hb⟩
    replace bel := bel.trans (hb.mono bel.size)
    have SZ1 := Lib.hid hb.size
    clear hb
    go_wp2_with fail
    refine (c_toEdgeS _ _ _ _ _ (hr1.below bel) (by omega)).mono ?_
    rintro e w2' ⟨rfl, hos1, hb⟩
    replace bel := bel.trans (hb.mono bel.size)
    have SZ2 := Lib.hid hb.size
    clear hb
    (try simp only [World.size_alloc, World.size_setCell] at hos1)
    have rgs1 := Lib.hid hos1.range
    go_wp2_with fail
    refine (c_spec_CutFunction _ _ _ _ _ _ hos1.row (by omega)).mono ?_
    rintro e w3' ⟨aw, cw, rfl, how, hlw, hb⟩
    replace bel := bel.trans (hb.mono bel.size)
    have SZ3 := Lib.hid hb.size
    replace hos1 := hos1.below hb
    clear hb
    have rgw := Lib.hid how.range
    clear hos1 rgs1
    have fw := FBox.new w3' 27 ((gN (edgT a0 n1 z1) a0 (tabOf a0 (fun s => edgTo cntCut z1 s n1)))) aw (gL (edgT a0 n1 z1) a0 (tabOf a0 (fun s => edgTo cntCut z1 s n1))).length cw
    replace how := how.alloc (.cells #[.int .i64 (gN (edgT a0 n1 z1) a0 (tabOf a0 (fun s => edgTo cntCut z1 s n1))), .slice aw (gL (edgT a0 n1 z1) a0 (tabOf a0 (fun s => edgTo cntCut z1 s n1))).length cw] 27)
    replace bel := bel.alloc bel.size (.cells #[.int .i64 (gN (edgT a0 n1 z1) a0 (tabOf a0 (fun s => edgTo cntCut z1 s n1))), .slice aw (gL (edgT a0 n1 z1) a0 (tabOf a0 (fun s => edgTo cntCut z1 s n1))).length cw] 27)
    go_wp2_with fail
    refine (c_toEdgeS _ _ _ _ _ (hr1.below bel) (by omega)).mono ?_
    rintro e w4' ⟨rfl, hox1, hb⟩
    replace bel := bel.trans (hb.mono bel.size)
    have SZ4 := Lib.hid hb.size
    replace fw := fw.below hb
    have kfw0 := fw.c0
    have kfw1 := fw.c1
    replace how := how.below hb
    clear hb
    (try simp only [World.size_alloc, World.size_setCell] at hox1)
    have rgx1 := Lib.hid hox1.range
    go_wp2_with fail
    refine (c_impl_CutFunction _ _ _ _ _ _ hox1.row (by omega)).mono ?_
    rintro e w5' ⟨ag, cg, rfl, hog, hlg, hb⟩
    replace bel := bel.trans (hb.mono bel.size)
    have SZ5 := Lib.hid hb.size
    replace fw := fw.below hb
    replace kfw0 := fw.c0
    replace kfw1 := fw.c1
    replace how := how.below hb
    replace hox1 := hox1.below hb
    clear hb
    have rgg := Lib.hid hog.range
    replace fw := fw.alloc (.cells #[.int .i64 (gN (edgT a0 n1 z1) a0 (tabOf a0 (fun s => edgTo cntCut z1 s n1))), .slice ag (gL (edgT a0 n1 z1) a0 (tabOf a0 (fun s => edgTo cntCut z1 s n1))).length cg] 27)
    have fg := FBox.new w5' 27 ((gN (edgT a0 n1 z1) a0 (tabOf a0 (fun s => edgTo cntCut z1 s n1)))) ag (gL (edgT a0 n1 z1) a0 (tabOf a0 (fun s => edgTo cntCut z1 s n1))).length cg
    replace kfw0 := fw.c0
    replace kfw1 := fw.c1
    replace how := how.alloc (.cells #[.int .i64 (gN (edgT a0 n1 z1) a0 (tabOf a0 (fun s => edgTo cntCut z1 s n1))), .slice ag (gL (edgT a0 n1 z1) a0 (tabOf a0 (fun s => edgTo cntCut z1 s n1))).length cg] 27)
    replace hox1 := hox1.alloc (.cells #[.int .i64 (gN (edgT a0 n1 z1) a0 (tabOf a0 (fun s => edgTo cntCut z1 s n1))), .slice ag (gL (edgT a0 n1 z1) a0 (tabOf a0 (fun s => edgTo cntCut z1 s n1))).length cg] 27)
    replace hog := hog.alloc (.cells #[.int .i64 (gN (edgT a0 n1 z1) a0 (tabOf a0 (fun s => edgTo cntCut z1 s n1))), .slice ag (gL (edgT a0 n1 z1) a0 (tabOf a0 (fun s => edgTo cntCut z1 s n1))).length cg] 27)
    replace bel := bel.alloc bel.size (.cells #[.int .i64 (gN (edgT a0 n1 z1) a0 (tabOf a0 (fun s => edgTo cntCut z1 s n1))), .slice ag (gL (edgT a0 n1 z1) a0 (tabOf a0 (fun s => edgTo cntCut z1 s n1))).length cg] 27)
    go_wp2_with fail
    refine (c_eqFunction_same _ _ _ _ _ _ _ _ _ hog.row how.row hlg hlw).mono ?_
    rintro e w6' ⟨rfl, hb⟩
    replace bel := bel.trans (hb.mono bel.size)
    have SZ6 := Lib.hid hb.size
    replace fw := fw.below hb
    replace kfw0 := fw.c0
    replace kfw1 := fw.c1
    replace fg := fg.below hb
    have kfg0 := fg.c0
    have kfg1 := fg.c1
    replace how := how.below hb
    replace hox1 := hox1.below hb
    replace hog := hog.below hb
    clear hb
    go_wp2_with fail
    refine (c_toEdgeS _ _ _ _ _ (hr1.below bel) (by omega)).mono ?_
    rintro e w7' ⟨rfl, hot1, hb⟩
    replace bel := bel.trans (hb.mono bel.size)
    have SZ7 := Lib.hid hb.size
    replace fw := fw.below hb
    replace kfw0 := fw.c0
    replace kfw1 := fw.c1
    replace fg := fg.below hb
    replace kfg0 := fg.c0
    replace kfg1 := fg.c1
    replace how := how.below hb
    replace hox1 := hox1.below hb
    replace hog := hog.below hb
    clear hb
    (try simp only [World.size_alloc, World.size_setCell] at hot1)
    have rgt1 := Lib.hid hot1.range
    go_wp2_with fail
    refine (c_eqEdgeS_same _ _ _ _ _ _ _ hox1.row hot1.row (by omega)).mono ?_
    rintro e w8' ⟨rfl, hb⟩
    replace bel := bel.trans (hb.mono bel.size)
    have SZ8 := Lib.hid hb.size
    replace fw := fw.below hb
    replace kfw0 := fw.c0
    replace kfw1 := fw.c1
    replace fg := fg.below hb
    replace kfg0 := fg.c0
    replace kfg1 := fg.c1
    replace how := how.below hb
    replace hox1 := hox1.below hb
    replace hog := hog.below hb
    replace hot1 := hot1.below hb
    clear hb
    clear hot1 rgt1
    go_wp2_with fail
    refine (c_markEdgeS _ _ _ _ _ _ hox1 (by omega) (by omega) (by omega)).mono ?_
    rintro e w9' ⟨rfl, ⟨_, hkx1⟩, hg⟩
    have hkz : ¬ ((1 : Int) + 3 * (n1 : Int) < 0) := by omega
    have SZ9 := Lib.hid hg.size
    replace fw := fw.grown hg (row_apart rgx1.out (by have s0 := SZ1.out; have s1 := SZ2.out; have s2 := SZ3.out; have s3 := SZ4.out; have s4 := SZ5.out; have s5 := SZ6.out; have s6 := SZ7.out; have s7 := SZ8.out; first | omega | (simp only [World.size_alloc, World.size_drew, World.size_setCell] at *; omega)))
    replace kfw0 := fw.c0
    replace kfw1 := fw.c1
    replace fg := fg.grown hg (row_apart rgx1.out (by have s0 := SZ1.out; have s1 := SZ2.out; have s2 := SZ3.out; have s3 := SZ4.out; have s4 := SZ5.out; have s5 := SZ6.out; have s6 := SZ7.out; have s7 := SZ8.out; first | omega | (simp only [World.size_alloc, World.size_drew, World.size_setCell] at *; omega)))
    replace kfg0 := fg.c0
    replace kfg1 := fg.c1
    replace how := how.grown hg (own_apart rgx1.out rgw.out (by have s0 := SZ1.out; have s1 := SZ2.out; have s2 := SZ3.out; have s3 := SZ4.out; have s4 := SZ5.out; have s5 := SZ6.out; have s6 := SZ7.out; have s7 := SZ8.out; first | omega | (simp only [World.size_alloc, World.size_drew, World.size_setCell] at *; omega)))
    replace hog := hog.grown hg (own_apart rgx1.out rgg.out (by have s0 := SZ1.out; have s1 := SZ2.out; have s2 := SZ3.out; have s3 := SZ4.out; have s4 := SZ5.out; have s5 := SZ6.out; have s6 := SZ7.out; have s7 := SZ8.out; first | omega | (simp only [World.size_alloc, World.size_drew, World.size_setCell] at *; omega)))
    replace bel := below_grownF bel hox1 hg (by have s0 := SZ1.out; have s1 := SZ2.out; have s2 := SZ3.out; have s3 := SZ4.out; have s4 := SZ5.out; have s5 := SZ6.out; have s6 := SZ7.out; have s7 := SZ8.out; first | omega | (simp only [World.size_alloc, World.size_drew, World.size_setCell] at *; omega)) bel.size
    clear hg hox1
    clear hkx1 rgx1
    go_wp2_with fail
    refine (c_eqFunction_same _ _ _ _ _ _ _ _ _ hog.row how.row hlg hlw).mono ?_
    rintro e w10' ⟨rfl, hb⟩
    replace bel := bel.trans (hb.mono bel.size)
    have SZ10 := Lib.hid hb.size
    replace fw := fw.below hb
    replace kfw0 := fw.c0
    replace kfw1 := fw.c1
    replace fg := fg.below hb
    replace kfg0 := fg.c0
    replace kfg1 := fg.c1
    replace how := how.below hb
    replace hog := hog.below hb
    clear hb
    go_wp2_with fail
    refine (c_markFunction _ _ _ _ _ _ _ _ hog (by omega) (by omega) (by omega)).mono ?_
    rintro e w11' ⟨rfl, hkg, hg⟩
    have SZ11 := Lib.hid hg.size
    replace fw := fw.grown hg (row_apart rgg.out (by have s0 := SZ1.out; have s1 := SZ2.out; have s2 := SZ3.out; have s3 := SZ4.out; have s4 := SZ5.out; have s5 := SZ6.out; have s6 := SZ7.out; have s7 := SZ8.out; have s8 := SZ9.out; have s9 := SZ10.out; first | omega | (simp only [World.size_alloc, World.size_drew, World.size_setCell] at *; omega)))
    replace kfw0 := fw.c0
    replace kfw1 := fw.c1
    replace fg := fg.grown hg (row_apart rgg.out (by have s0 := SZ1.out; have s1 := SZ2.out; have s2 := SZ3.out; have s3 := SZ4.out; have s4 := SZ5.out; have s5 := SZ6.out; have s6 := SZ7.out; have s7 := SZ8.out; have s8 := SZ9.out; have s9 := SZ10.out; first | omega | (simp only [World.size_alloc, World.size_drew, World.size_setCell] at *; omega)))
    replace kfg0 := fg.c0
    replace kfg1 := fg.c1
    replace how := how.grown hg (own_apart rgg.out rgw.out (by have s0 := SZ1.out; have s1 := SZ2.out; have s2 := SZ3.out; have s3 := SZ4.out; have s4 := SZ5.out; have s5 := SZ6.out; have s6 := SZ7.out; have s7 := SZ8.out; have s8 := SZ9.out; have s9 := SZ10.out; first | omega | (simp only [World.size_alloc, World.size_drew, World.size_setCell] at *; omega)))
    replace bel := below_grown bel hog hg (by have s0 := SZ1.out; have s1 := SZ2.out; have s2 := SZ3.out; have s3 := SZ4.out; have s4 := SZ5.out; have s5 := SZ6.out; have s6 := SZ7.out; have s7 := SZ8.out; have s8 := SZ9.out; have s9 := SZ10.out; first | omega | (simp only [World.size_alloc, World.size_drew, World.size_setCell] at *; omega)) bel.size
    clear hg hog
    go_wp2_with fail
    refine (c_heldFunction _ _ _ _ _ _ hkg.row hlg (by omega) (by omega)).mono ?_
    rintro e w12' ⟨rfl, hb⟩
    replace bel := bel.trans (hb.mono bel.size)
    have SZ12 := Lib.hid hb.size
    replace fw := fw.below hb
    replace kfw0 := fw.c0
    replace kfw1 := fw.c1
    replace fg := fg.below hb
    replace kfg0 := fg.c0
    replace kfg1 := fg.c1
    replace how := how.below hb
    replace hkg := hkg.below hb
    clear hb
    go_wp2_with fail
    refine (c_toEdgeS _ _ _ _ _ (hr1.below bel) (by omega)).mono ?_
    rintro e w13' ⟨rfl, hoq1, hb⟩
    replace bel := bel.trans (hb.mono bel.size)
    have SZ13 := Lib.hid hb.size
    replace fw := fw.below hb
    replace kfw0 := fw.c0
    replace kfw1 := fw.c1
    replace fg := fg.below hb
    replace kfg0 := fg.c0
    replace kfg1 := fg.c1
    replace how := how.below hb
    replace hkg := hkg.below hb
    clear hb
    (try simp only [World.size_alloc, World.size_setCell] at hoq1)
    have rgq1 := Lib.hid hoq1.range
    go_wp2_with fail
    refine (c_impl_CutFunction _ _ _ _ _ _ hoq1.row (by omega)).mono ?_
    rintro e w14' ⟨ah, ch, rfl, hoh, hlh, hb⟩
    replace bel := bel.trans (hb.mono bel.size)
    have SZ14 := Lib.hid hb.size
    replace fw := fw.below hb
    replace kfw0 := fw.c0
    replace kfw1 := fw.c1
    replace fg := fg.below hb
    replace kfg0 := fg.c0
    replace kfg1 := fg.c1
    replace how := how.below hb
    replace hkg := hkg.below hb
    replace hoq1 := hoq1.below hb
    clear hb
    have rgh := Lib.hid hoh.range
    clear hoq1 rgq1
    replace fw := fw.alloc (.cells #[.int .i64 (gN (edgT a0 n1 z1) a0 (tabOf a0 (fun s => edgTo cntCut z1 s n1))), .slice ah (gL (edgT a0 n1 z1) a0 (tabOf a0 (fun s => edgTo cntCut z1 s n1))).length ch] 27)
    replace fg := fg.alloc (.cells #[.int .i64 (gN (edgT a0 n1 z1) a0 (tabOf a0 (fun s => edgTo cntCut z1 s n1))), .slice ah (gL (edgT a0 n1 z1) a0 (tabOf a0 (fun s => edgTo cntCut z1 s n1))).length ch] 27)
    have fh := FBox.new w14' 27 ((gN (edgT a0 n1 z1) a0 (tabOf a0 (fun s => edgTo cntCut z1 s n1)))) ah (gL (edgT a0 n1 z1) a0 (tabOf a0 (fun s => edgTo cntCut z1 s n1))).length ch
    replace kfw0 := fw.c0
    replace kfw1 := fw.c1
    replace kfg0 := fg.c0
    replace kfg1 := fg.c1
    replace how := how.alloc (.cells #[.int .i64 (gN (edgT a0 n1 z1) a0 (tabOf a0 (fun s => edgTo cntCut z1 s n1))), .slice ah (gL (edgT a0 n1 z1) a0 (tabOf a0 (fun s => edgTo cntCut z1 s n1))).length ch] 27)
    replace hkg := hkg.alloc (.cells #[.int .i64 (gN (edgT a0 n1 z1) a0 (tabOf a0 (fun s => edgTo cntCut z1 s n1))), .slice ah (gL (edgT a0 n1 z1) a0 (tabOf a0 (fun s => edgTo cntCut z1 s n1))).length ch] 27)
    replace hoh := hoh.alloc (.cells #[.int .i64 (gN (edgT a0 n1 z1) a0 (tabOf a0 (fun s => edgTo cntCut z1 s n1))), .slice ah (gL (edgT a0 n1 z1) a0 (tabOf a0 (fun s => edgTo cntCut z1 s n1))).length ch] 27)
    replace bel := bel.alloc bel.size (.cells #[.int .i64 (gN (edgT a0 n1 z1) a0 (tabOf a0 (fun s => edgTo cntCut z1 s n1))), .slice ah (gL (edgT a0 n1 z1) a0 (tabOf a0 (fun s => edgTo cntCut z1 s n1))).length ch] 27)
    go_wp2_with fail
    refine (c_eqFunction_same _ _ _ _ _ _ _ _ _ hoh.row how.row hlh hlw).mono ?_
    rintro e w15' ⟨rfl, hb⟩
    replace bel := bel.trans (hb.mono bel.size)
    have SZ15 := Lib.hid hb.size
    replace fw := fw.below hb
    replace kfw0 := fw.c0
    replace kfw1 := fw.c1
    replace fg := fg.below hb
    replace kfg0 := fg.c0
    replace kfg1 := fg.c1
    replace fh := fh.below hb
    have kfh0 := fh.c0
    have kfh1 := fh.c1
    replace how := how.below hb
    replace hkg := hkg.below hb
    replace hoh := hoh.below hb
    clear hb
    go_wp2_with fail
    refine (c_heldFunction _ _ _ _ _ _ hkg.row hlg (by omega) (by omega)).mono ?_
    rintro e w16' ⟨rfl, hb⟩
    replace bel := bel.trans (hb.mono bel.size)
    have SZ16 := Lib.hid hb.size
    replace fw := fw.below hb
    replace kfw0 := fw.c0
    replace kfw1 := fw.c1
    replace fg := fg.below hb
    replace kfg0 := fg.c0
    replace kfg1 := fg.c1
    replace fh := fh.below hb
    replace kfh0 := fh.c0
    replace kfh1 := fh.c1
    replace how := how.below hb
    replace hkg := hkg.below hb
    replace hoh := hoh.below hb
    clear hb
    go_wp2
    go_ret
    exact ⟨rfl, by first | exact bel | exact bel.drew | exact below_drewN bel _⟩
  · have bel := Below.refl w.heap.size w
    go_enter Try.func10, Try.ntmps10
    go_wp2_with fail
    refine (c_szEdgeS_no _ _ _ _ _ (by omega) (by omega) hm1 (by omega)).mono ?_
    rintro e v1' ⟨rfl, hb⟩
    replace bel := bel.trans (hb.mono bel.size)
    clear hb
    go_wp2
    go_ret
    exact ⟨rfl, bel⟩
end Go.Proofs.Ythiokplkimdojaa
