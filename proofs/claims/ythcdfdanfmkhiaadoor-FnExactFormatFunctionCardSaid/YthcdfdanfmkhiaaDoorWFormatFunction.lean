/- The walk of the law FnExactFormatFunction. -/
import Derived.Test.YthcdfdanfmkhiaaDoorFmtF
import Derived.Test.YthcdfdanfmkhiaaDoorInRows
namespace Go.Proofs.YthcdfdanfmkhiaaDoor
set_option linter.unusedSimpArgs false
set_option linter.unusedVariables false
open Go.RowKit

set_option maxHeartbeats 1000000 in
theorem walk_FnExactFormatFunction (e0 : Int) (a0 : Option Addr) (n0 c0 : Nat) (z0 : List Int) (w : World) (u0 : (Lit.int .i64 e0).wf = true) (w0 : InRow .i64 w a0 n0 c0 z0) (htab : Go.Lib.TabIs Tryd.prog w "internal/strconv.uint64pow10" .u64 Go.Lib.pow10Tab) :
    Calls Tryd.prog 4 #[.agg #[.int .i64 e0, .slice a0 n0 c0]] w fun e w' => e = .returned (.bool true) ∧ Below w.heap.size w w' := by
  have HT := Lib.hid (TabB.of htab)
  clear htab
  obtain ⟨hr0, hnc0, hcm0, _⟩ := w0
  have hm0 : n0 ≤ maxLen := Nat.le_trans hnc0 hcm0
  by_cases h0 : n0 ≤ 1048576
  · skip
    have bel := Below.refl w.heap.size w
    have f0 := FBox.new w 27 e0 a0 n0 c0
    replace bel := bel.alloc bel.size (.cells #[.int .i64 e0, .slice a0 n0 c0] 27)
    have kf00 := f0.c0
    have kf01 := f0.c1
    have hz0 : eqL z0 z0 = true := eqL_true.2 rfl
    go_enter Tryd.func4, Tryd.ntmps4
    go_wp2_with fail
    refine (c_szFunction_ok _ _ _ _ _ _ (by omega) (by omega) hm0 (by omega)).mono ?_
    rintro e w1' ⟨rfl, hb⟩
    replace bel := bel.trans (hb.mono bel.size)
    have SZ1 := Lib.hid hb.size
    replace f0 := f0.below hb
    replace kf00 := f0.c0
    replace kf01 := f0.c1
    clear hb
    go_wp2_with fail
    refine (c_toFunction _ _ _ _ _ _ (hr0.below bel) (by omega)).mono ?_
    rintro e w2' ⟨gs0, rfl, hos0, hb⟩
    replace bel := bel.trans (hb.mono bel.size)
    have SZ2 := Lib.hid hb.size
    replace f0 := f0.below hb
    replace kf00 := f0.c0
    replace kf01 := f0.c1
    clear hb
    have rgs0 := Lib.hid hos0.range
    go_wp2_with fail
    refine (c_spec_FormatFunction _ _ _ _ _ _ hos0.row (by omega)).mono ?_
    rintro e w3' ⟨rfl, hb⟩
    replace bel := bel.trans (hb.mono bel.size)
    have SZ3 := Lib.hid hb.size
    replace f0 := f0.below hb
    replace kf00 := f0.c0
    replace kf01 := f0.c1
    replace hos0 := hos0.below hb
    clear hb
    clear hos0 rgs0
    go_wp2_with fail
    refine (c_toFunction _ _ _ _ _ _ (hr0.below bel) (by omega)).mono ?_
    rintro e w4' ⟨gx0, rfl, hox0, hb⟩
    replace bel := bel.trans (hb.mono bel.size)
    have SZ4 := Lib.hid hb.size
    replace f0 := f0.below hb
    replace kf00 := f0.c0
    replace kf01 := f0.c1
    clear hb
    have rgx0 := Lib.hid hox0.range
    replace f0 := f0.alloc (.cells #[.int .i64 e0, .slice (some ⟨gx0, 0, none⟩) n0 n0] 30)
    have fx0 := FBox.new w4' 30 e0 (some ⟨gx0, 0, none⟩) n0 n0
    replace kf00 := f0.c0
    replace kf01 := f0.c1
    replace hox0 := hox0.alloc (.cells #[.int .i64 e0, .slice (some ⟨gx0, 0, none⟩) n0 n0] 30)
    replace bel := bel.alloc bel.size (.cells #[.int .i64 e0, .slice (some ⟨gx0, 0, none⟩) n0 n0] 30)
    go_wp2_with fail
    refine (c_impl_FormatFunction _ _ _ _ _ _ w.heap.size bel.size (HT.out.on bel) hox0.row (by omega)).mono ?_
    rintro e w5' ⟨rfl, hb⟩
    replace bel := bel.trans (hb.mono bel.size)
    have SZ5 := Lib.hid hb.size
    replace f0 := f0.below hb
    replace kf00 := f0.c0
    replace kf01 := f0.c1
    replace fx0 := fx0.below hb
    have kfx00 := fx0.c0
    have kfx01 := fx0.c1
    replace hox0 := hox0.below hb
    clear hb
    go_wp2_with fail
    replace f0 := f0.drew
    replace fx0 := fx0.drew
    replace hox0 := hox0.drew
    replace bel := bel.drew
    go_region_held3 (fun w' => w'.cell? ⟨w.heap.size, 0, none⟩ = some (.int .i64 e0) ∧ w'.cell? ⟨w.heap.size, 1, none⟩ = some (.slice a0 n0 c0) ∧ w'.cell? ⟨w4'.heap.size, 0, none⟩ = some (.int .i64 e0) ∧ w'.cell? ⟨w4'.heap.size, 1, none⟩ = some (.slice (some ⟨gx0, 0, none⟩) n0 n0)) (go_keep)
      (first
        | (go_at_call 10; refine (c_toFunction _ _ _ _ _ _ (hr0.below bel) (by omega)).mono ?_; rintro e w6' ⟨gt0, rfl, hot0, hb⟩; replace bel := bel.trans (hb.mono bel.size); have SZ6 := Lib.hid hb.size; replace f0 := f0.below hb; replace kf00 := f0.c0; replace kf01 := f0.c1; replace fx0 := fx0.below hb; replace kfx00 := fx0.c0; replace kfx01 := fx0.c1; replace hox0 := hox0.below hb; clear hb)
        | (go_at_call 12; refine (c_eqFunction_same _ _ _ _ _ _ _ _ _ hox0.row hot0.row (by omega) (by omega)).mono ?_; rintro e w7' ⟨rfl, hb⟩; replace bel := bel.trans (hb.mono bel.size); have SZ7 := Lib.hid hb.size; replace f0 := f0.below hb; replace kf00 := f0.c0; replace kf01 := f0.c1; replace fx0 := fx0.below hb; replace kfx00 := fx0.c0; replace kfx01 := fx0.c1; replace hox0 := hox0.below hb; replace hot0 := hot0.below hb; clear hb))
    clear hot0
    go_wp2
    go_ret
    exact ⟨rfl, by first | exact bel | exact bel.drew | exact below_drewN bel _⟩
  · have bel := Below.refl w.heap.size w
    have f0 := FBox.new w 27 e0 a0 n0 c0
    replace bel := bel.alloc bel.size (.cells #[.int .i64 e0, .slice a0 n0 c0] 27)
    go_enter Tryd.func4, Tryd.ntmps4
    go_wp2_with fail
    refine (c_szFunction_no _ _ _ _ _ _ (by omega) (by omega) hm0 (by omega)).mono ?_
    rintro e v0' ⟨rfl, hb⟩
    replace bel := bel.trans (hb.mono bel.size)
    replace f0 := f0.below hb
    have kf00 := f0.c0
    have kf01 := f0.c1
    clear hb
    go_wp2
    go_ret
    exact ⟨rfl, bel⟩
end Go.Proofs.YthcdfdanfmkhiaaDoor
