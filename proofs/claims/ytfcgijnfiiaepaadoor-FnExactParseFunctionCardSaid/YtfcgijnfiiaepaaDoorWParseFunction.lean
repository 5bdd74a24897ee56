/- The walk of the law FnExactParseFunction. -/
import Derived.Test.YtfcgijnfiiaepaaDoorPfI
namespace Go.Proofs.YtfcgijnfiiaepaaDoor
set_option linter.unusedSimpArgs false
set_option linter.unusedVariables false
open Go.RowKit

set_option maxHeartbeats 1000000 in
theorem walk_FnExactParseFunction (a0 : ByteArray) (w : World) (w0 : a0.size ≤ maxLen) (htab : Go.Lib.TabIs Tryd.prog w "internal/strconv.uint64pow10" .u64 Go.Lib.pow10Tab) (hmax : MaxB w.heap.size w) :
    Calls Tryd.prog 3 #[.string a0] w fun e w' => e = .returned (.bool true) ∧ Below w.heap.size w w' := by
  unfold maxLen at w0
  have HT := Lib.hid (TabB.of htab)
  have HM := Lib.hid hmax
  clear htab hmax
  by_cases h0 : a0.size ≤ 1048576
  · skip
    have bel := Below.refl w.heap.size w
    go_enter Tryd.func3, Tryd.ntmps3
    go_wp2_with fail
    refine (c_spec_ParseFunction _ _ (by omega)).mono ?_
    rintro e w1' ⟨aw, cw, rfl, how, hlw, hb⟩
    replace bel := bel.trans (hb.mono bel.size)
    have SZ1 := Lib.hid hb.size
    clear hb
    have rgw := Lib.hid how.range
    have fw := FBox.new w1' 24 ((pfN a0)) aw (pfL a0).length cw
    replace how := how.alloc (.cells #[.int .i64 (pfN a0), .slice aw (pfL a0).length cw] 24)
    replace bel := bel.alloc bel.size (.cells #[.int .i64 (pfN a0), .slice aw (pfL a0).length cw] 24)
    go_wp2_with fail
    refine (c_impl_ParseFunction _ _ w.heap.size bel.size (by omega) (HT.out.on bel) (HM.out.on bel)).mono ?_
    rintro e w2' ⟨ag, cg, rfl, hog, hlg, hb⟩
    replace bel := bel.trans (hb.mono bel.size)
    have SZ2 := Lib.hid hb.size
    replace fw := fw.below hb
    have kfw0 := fw.c0
    have kfw1 := fw.c1
    replace how := how.below hb
    clear hb
    have rgg := Lib.hid hog.range
    replace fw := fw.alloc (.cells #[.int .i64 (pfN a0), .slice ag (pfL a0).length cg] 24)
    have fg := FBox.new w2' 24 ((pfN a0)) ag (pfL a0).length cg
    replace kfw0 := fw.c0
    replace kfw1 := fw.c1
    replace how := how.alloc (.cells #[.int .i64 (pfN a0), .slice ag (pfL a0).length cg] 24)
    replace hog := hog.alloc (.cells #[.int .i64 (pfN a0), .slice ag (pfL a0).length cg] 24)
    replace bel := bel.alloc bel.size (.cells #[.int .i64 (pfN a0), .slice ag (pfL a0).length cg] 24)
    go_wp2_with fail
    refine (c_eqFunction_same _ _ _ _ _ _ _ _ _ hog.row how.row hlg hlw).mono ?_
    rintro e w3' ⟨rfl, hb⟩
    replace bel := bel.trans (hb.mono bel.size)
    have SZ3 := Lib.hid hb.size
    replace fw := fw.below hb
    replace kfw0 := fw.c0
    replace kfw1 := fw.c1
    replace fg := fg.below hb
    have kfg0 := fg.c0
    have kfg1 := fg.c1
    replace how := how.below hb
    replace hog := hog.below hb
    clear hb
    go_wp2_with fail
    refine (c_markFunction _ _ _ _ _ _ _ _ hog (by omega) (by omega) (by omega)).mono ?_
    rintro e w4' ⟨rfl, hkg, hg⟩
    have SZ4 := Lib.hid hg.size
    replace fw := fw.grown hg (row_apart rgg.out (by have s0 := SZ1.out; have s1 := SZ2.out; have s2 := SZ3.out; first | omega | (simp only [World.size_alloc, World.size_drew, World.size_setCell] at *; omega)))
    replace kfw0 := fw.c0
    replace kfw1 := fw.c1
    replace fg := fg.grown hg (row_apart rgg.out (by have s0 := SZ1.out; have s1 := SZ2.out; have s2 := SZ3.out; first | omega | (simp only [World.size_alloc, World.size_drew, World.size_setCell] at *; omega)))
    replace kfg0 := fg.c0
    replace kfg1 := fg.c1
    replace how := how.grown hg (own_apart rgg.out rgw.out (by have s0 := SZ1.out; have s1 := SZ2.out; have s2 := SZ3.out; first | omega | (simp only [World.size_alloc, World.size_drew, World.size_setCell] at *; omega)))
    replace bel := below_grown bel hog hg (by have s0 := SZ1.out; have s1 := SZ2.out; have s2 := SZ3.out; first | omega | (simp only [World.size_alloc, World.size_drew, World.size_setCell] at *; omega)) bel.size
    clear hg hog
    go_wp2_with fail
    refine (c_heldFunction _ _ _ _ _ _ hkg.row hlg (by omega) (by omega)).mono ?_
    rintro e w5' ⟨rfl, hb⟩
    replace bel := bel.trans (hb.mono bel.size)
    have SZ5 := Lib.hid hb.size
    replace fw := fw.below hb
    replace kfw0 := fw.c0
    replace kfw1 := fw.c1
    replace fg := fg.below hb
    replace kfg0 := fg.c0
    replace kfg1 := fg.c1
    replace how := how.below hb
    replace hkg := hkg.below hb
    clear hb
    go_wp2_with fail
    refine (c_impl_ParseFunction _ _ w.heap.size bel.size (by omega) (HT.out.on bel) (HM.out.on bel)).mono ?_
    rintro e w6' ⟨ah, ch, rfl, hoh, hlh, hb⟩
    replace bel := bel.trans (hb.mono bel.size)
    have SZ6 := Lib.hid hb.size
    replace fw := fw.below hb
    replace kfw0 := fw.c0
    replace kfw1 := fw.c1
    replace fg := fg.below hb
    replace kfg0 := fg.c0
    replace kfg1 := fg.c1
    replace how := how.below hb
    replace hkg := hkg.below hb
    clear hb
    have rgh := Lib.hid hoh.range
    replace fw := fw.alloc (.cells #[.int .i64 (pfN a0), .slice ah (pfL a0).length ch] 24)
    replace fg := fg.alloc (.cells #[.int .i64 (pfN a0), .slice ah (pfL a0).length ch] 24)
    have fh := FBox.new w6' 24 ((pfN a0)) ah (pfL a0).length ch
    replace kfw0 := fw.c0
    replace kfw1 := fw.c1
    replace kfg0 := fg.c0
    replace kfg1 := fg.c1
    replace how := how.alloc (.cells #[.int .i64 (pfN a0), .slice ah (pfL a0).length ch] 24)
    replace hkg := hkg.alloc (.cells #[.int .i64 (pfN a0), .slice ah (pfL a0).length ch] 24)
    replace hoh := hoh.alloc (.cells #[.int .i64 (pfN a0), .slice ah (pfL a0).length ch] 24)
    replace bel := bel.alloc bel.size (.cells #[.int .i64 (pfN a0), .slice ah (pfL a0).length ch] 24)
    go_wp2_with fail
    refine (c_eqFunction_same _ _ _ _ _ _ _ _ _ hoh.row how.row hlh hlw).mono ?_
    rintro e w7' ⟨rfl, hb⟩
    replace bel := bel.trans (hb.mono bel.size)
    have SZ7 := Lib.hid hb.size
    replace fw := fw.below hb
    replace kfw0 := fw.c0
    replace kfw1 := fw.c1
    replace fg := fg.below hb
    replace kfg0 := fg.c0
    replace kfg1 := fg.c1
    replace fh := fh.below hb
    have kfh0 := fh.c0
    have kfh1 := fh.c1
    replace how := how.below hb
    replace hkg := hkg.below hb
    replace hoh := hoh.below hb
    clear hb
    go_wp2_with fail
    refine (c_heldFunction _ _ _ _ _ _ hkg.row hlg (by omega) (by omega)).mono ?_
    rintro e w8' ⟨rfl, hb⟩
    replace bel := bel.trans (hb.mono bel.size)
    have SZ8 := Lib.hid hb.size
    replace fw := fw.below hb
    replace kfw0 := fw.c0
    replace kfw1 := fw.c1
    replace fg := fg.below hb
    replace kfg0 := fg.c0
    replace kfg1 := fg.c1
    replace fh := fh.below hb
    replace kfh0 := fh.c0
    replace kfh1 := fh.c1
    replace how := how.below hb
    replace hkg := hkg.below hb
    replace hoh := hoh.below hb
    clear hb
    go_wp2
    go_ret
    exact ⟨rfl, by first | exact bel | exact bel.drew | exact below_drewN bel _⟩
  · have bel := Below.refl w.heap.size w
    go_enter Tryd.func3, Tryd.ntmps3
    go_wp2
    go_ret
    exact ⟨rfl, bel⟩
end Go.Proofs.YtfcgijnfiiaepaaDoor
