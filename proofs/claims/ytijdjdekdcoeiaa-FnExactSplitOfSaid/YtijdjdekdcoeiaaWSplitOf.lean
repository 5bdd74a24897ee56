/- The walk of the law FnExactSplitOf. -/
import Derived.Test.YtijdjdekdcoeiaaSplit2
import Derived.Test.YtijdjdekdcoeiaaInRows
namespace Go.Proofs.Ytijdjdekdcoeiaa
set_option linter.unusedSimpArgs false
set_option linter.unusedVariables false
open Go.RowKit

set_option maxHeartbeats 1000000 in
theorem walk_FnExactSplitOf (e0 : Int) (a0 : Option Addr) (n0 c0 : Nat) (z0 : List Int) (e1 : Int) (a1 : Option Addr) (n1 c1 : Nat) (z1 : List Int) (a2 : Int) (w : World) (u0 : (Lit.int .i64 e0).wf = true) (w0 : InRow .i64 w a0 n0 c0 z0) (u1 : (Lit.int .i64 e1).wf = true) (w1 : InRow .i64 w a1 n1 c1 z1) (w2 : (Lit.int .i64 a2).wf = true) :
    Calls Try.prog 10 #[.agg #[.int .i64 e0, .slice a0 n0 c0], .agg #[.int .i64 e1, .slice a1 n1 c1], .int .i64 a2] w fun e w' => e = .returned (.bool true) ∧ Below w.heap.size w w' := by
  obtain ⟨hr0, hnc0, hcm0, _⟩ := w0
  have hm0 : n0 ≤ maxLen := Nat.le_trans hnc0 hcm0
  obtain ⟨hr1, hnc1, hcm1, _⟩ := w1
  have hm1 : n1 ≤ maxLen := Nat.le_trans hnc1 hcm1
  by_cases h0 : n0 ≤ 1048576
  · skip
    by_cases h1 : n0 + n1 ≤ 1048576
    · skip
      have bel := Below.refl w.heap.size w
      have f0 := FBox.new w 24 e0 a0 n0 c0
      replace bel := bel.alloc bel.size (.cells #[.int .i64 e0, .slice a0 n0 c0] 24)
      have f1 := FBox.new (w.alloc (.cells #[.int .i64 e0, .slice a0 n0 c0] 24)) 24 e1 a1 n1 c1
      rw [World.size_alloc] at f1
      replace f0 := f0.alloc (.cells #[.int .i64 e1, .slice a1 n1 c1] 24)
      replace bel := bel.alloc bel.size (.cells #[.int .i64 e1, .slice a1 n1 c1] 24)
      have kf00 := f0.c0
      have kf01 := f0.c1
      have kf10 := f1.c0
      have kf11 := f1.c1
      have hz0 : eqL z0 z0 = true := eqL_true.2 rfl
      have hz1 : eqL z1 z1 = true := eqL_true.2 rfl
      go_enter Try.func10, Try.ntmps10
      go_wp2_with fail
      refine (c_szFunction_ok _ _ _ _ _ _ (by omega) (by omega) hm0 (by omega)).mono ?_
      rintro e w1' ⟨rfl, hb⟩
      replace bel := bel.trans (hb.mono bel.size)
      have SZ1 := Lib.hid hb.size
      replace f0 := f0.below hb
      replace kf00 := f0.c0
      replace kf01 := f0.c1
      replace f1 := f1.below hb
      replace kf10 := f1.c0
      replace kf11 := f1.c1
      clear hb
      go_wp2_with fail
      refine (c_szFunction_ok _ _ _ _ _ _ (by omega) (by omega) hm1 (by omega)).mono ?_
      rintro e w2' ⟨rfl, hb⟩
      replace bel := bel.trans (hb.mono bel.size)
      have SZ2 := Lib.hid hb.size
      replace f0 := f0.below hb
      replace kf00 := f0.c0
      replace kf01 := f0.c1
      replace f1 := f1.below hb
      replace kf10 := f1.c0
      replace kf11 := f1.c1
      clear hb
      go_wp2_with fail
      replace f0 := f0.drew
      replace f1 := f1.drew
      replace bel := bel.drew
      go_region_held3 (fun w' => w'.cell? ⟨w.heap.size, 0, none⟩ = some (.int .i64 e0) ∧ w'.cell? ⟨w.heap.size, 1, none⟩ = some (.slice a0 n0 c0) ∧ w'.cell? ⟨w.heap.size + 1, 0, none⟩ = some (.int .i64 e1) ∧ w'.cell? ⟨w.heap.size + 1, 1, none⟩ = some (.slice a1 n1 c1)) (go_keep)
        (first
          | (go_at_call_of 15 a0; refine (c_toFunction _ _ _ _ _ _ (hr0.below bel) (by omega)).mono ?_; rintro e w3' ⟨gs0, rfl, hos0, hb⟩; replace bel := bel.trans (hb.mono bel.size); have SZ3 := Lib.hid hb.size; replace f0 := f0.below hb; replace kf00 := f0.c0; replace kf01 := f0.c1; replace f1 := f1.below hb; replace kf10 := f1.c0; replace kf11 := f1.c1; clear hb; have rgs0 := Lib.hid hos0.range)
          | (go_at_call_of 15 a1; refine (c_toFunction _ _ _ _ _ _ (hr1.below bel) (by omega)).mono ?_; rintro e w4' ⟨gs1, rfl, hos1, hb⟩; replace bel := bel.trans (hb.mono bel.size); have SZ4 := Lib.hid hb.size; replace f0 := f0.below hb; replace kf00 := f0.c0; replace kf01 := f0.c1; replace f1 := f1.below hb; replace kf10 := f1.c0; replace kf11 := f1.c1; replace hos0 := hos0.below hb; clear hb; have rgs1 := Lib.hid hos1.range)
          | (go_at_call 34; refine (c_spec_SplitOf _ _ _ _ _ _ _ _ _ _ _ _ hos0.row (by omega) hos1.row (by omega)).mono ?_; rintro e w5' ⟨rfl, hb⟩; replace bel := bel.trans (hb.mono bel.size); have SZ5 := Lib.hid hb.size; replace f0 := f0.below hb; replace kf00 := f0.c0; replace kf01 := f0.c1; replace f1 := f1.below hb; replace kf10 := f1.c0; replace kf11 := f1.c1; replace hos0 := hos0.below hb; replace hos1 := hos1.below hb; clear hb))
      clear hos0 rgs0
      clear hos1 rgs1
      go_wp2_with fail
      refine (c_toFunction _ _ _ _ _ _ (hr0.below bel) (by omega)).mono ?_
      rintro e w6' ⟨gx0, rfl, hox0, hb⟩
      replace bel := bel.trans (hb.mono bel.size)
      have SZ6 := Lib.hid hb.size
      replace f0 := f0.below hb
      replace kf00 := f0.c0
      replace kf01 := f0.c1
      replace f1 := f1.below hb
      replace kf10 := f1.c0
      replace kf11 := f1.c1
      clear hb
      have rgx0 := Lib.hid hox0.range
      replace f0 := f0.alloc (.cells #[.int .i64 e0, .slice (some ⟨gx0, 0, none⟩) n0 n0] 27)
      replace f1 := f1.alloc (.cells #[.int .i64 e0, .slice (some ⟨gx0, 0, none⟩) n0 n0] 27)
      have fx0 := FBox.new w6' 27 e0 (some ⟨gx0, 0, none⟩) n0 n0
      replace kf00 := f0.c0
      replace kf01 := f0.c1
      replace kf10 := f1.c0
      replace kf11 := f1.c1
      replace hox0 := hox0.alloc (.cells #[.int .i64 e0, .slice (some ⟨gx0, 0, none⟩) n0 n0] 27)
      replace bel := bel.alloc bel.size (.cells #[.int .i64 e0, .slice (some ⟨gx0, 0, none⟩) n0 n0] 27)
      go_wp2_with fail
      refine (c_toFunction _ _ _ _ _ _ (hr1.below bel) (by omega)).mono ?_
      rintro e w7' ⟨gx1, rfl, hox1, hb⟩
      replace bel := bel.trans (hb.mono bel.size)
      have SZ7 := Lib.hid hb.size
      replace f0 := f0.below hb
      replace kf00 := f0.c0
      replace kf01 := f0.c1
      replace f1 := f1.below hb
      replace kf10 := f1.c0
      replace kf11 := f1.c1
      replace fx0 := fx0.below hb
      have kfx00 := fx0.c0
      have kfx01 := fx0.c1
      replace hox0 := hox0.below hb
      clear hb
      have rgx1 := Lib.hid hox1.range
      replace f0 := f0.alloc (.cells #[.int .i64 e1, .slice (some ⟨gx1, 0, none⟩) n1 n1] 27)
      replace f1 := f1.alloc (.cells #[.int .i64 e1, .slice (some ⟨gx1, 0, none⟩) n1 n1] 27)
      replace fx0 := fx0.alloc (.cells #[.int .i64 e1, .slice (some ⟨gx1, 0, none⟩) n1 n1] 27)
      have fx1 := FBox.new w7' 27 e1 (some ⟨gx1, 0, none⟩) n1 n1
      replace kf00 := f0.c0
      replace kf01 := f0.c1
      replace kf10 := f1.c0
      replace kf11 := f1.c1
      replace kfx00 := fx0.c0
      replace kfx01 := fx0.c1
      replace hox0 := hox0.alloc (.cells #[.int .i64 e1, .slice (some ⟨gx1, 0, none⟩) n1 n1] 27)
      replace hox1 := hox1.alloc (.cells #[.int .i64 e1, .slice (some ⟨gx1, 0, none⟩) n1 n1] 27)
      replace bel := bel.alloc bel.size (.cells #[.int .i64 e1, .slice (some ⟨gx1, 0, none⟩) n1 n1] 27)
      go_wp2_with fail
      refine (c_impl_SplitOf _ _ _ _ _ _ _ _ _ _ _ _ hox0.row (by omega) hox1.row (by omega)).mono ?_
      rintro e w8' ⟨rfl, hb⟩
      replace bel := bel.trans (hb.mono bel.size)
      have SZ8 := Lib.hid hb.size
      replace f0 := f0.below hb
      replace kf00 := f0.c0
      replace kf01 := f0.c1
      replace f1 := f1.below hb
      replace kf10 := f1.c0
      replace kf11 := f1.c1
      replace fx0 := fx0.below hb
      replace kfx00 := fx0.c0
      replace kfx01 := fx0.c1
      replace fx1 := fx1.below hb
      have kfx10 := fx1.c0
      have kfx11 := fx1.c1
      replace hox0 := hox0.below hb
      replace hox1 := hox1.below hb
      clear hb
      go_wp2_with fail
      replace f0 := f0.drew
      replace f1 := f1.drew
      replace fx0 := fx0.drew
      replace fx1 := fx1.drew
      replace hox0 := hox0.drew
      replace hox1 := hox1.drew
      replace bel := bel.drew
      go_region_held3 (fun w' => w'.cell? ⟨w.heap.size, 0, none⟩ = some (.int .i64 e0) ∧ w'.cell? ⟨w.heap.size, 1, none⟩ = some (.slice a0 n0 c0) ∧ w'.cell? ⟨w6'.heap.size, 0, none⟩ = some (.int .i64 e0) ∧ w'.cell? ⟨w6'.heap.size, 1, none⟩ = some (.slice (some ⟨gx0, 0, none⟩) n0 n0)) (go_keep)
        (first
          | (go_at_call 15; refine (c_toFunction _ _ _ _ _ _ (hr0.below bel) (by omega)).mono ?_; rintro e w9' ⟨gt0, rfl, hot0, hb⟩; replace bel := bel.trans (hb.mono bel.size); have SZ9 := Lib.hid hb.size; replace f0 := f0.below hb; replace kf00 := f0.c0; replace kf01 := f0.c1; replace f1 := f1.below hb; replace kf10 := f1.c0; replace kf11 := f1.c1; replace fx0 := fx0.below hb; replace kfx00 := fx0.c0; replace kfx01 := fx0.c1; replace fx1 := fx1.below hb; replace kfx10 := fx1.c0; replace kfx11 := fx1.c1; replace hox0 := hox0.below hb; replace hox1 := hox1.below hb; clear hb)
          | (go_at_call 17; refine (c_eqFunction_same _ _ _ _ _ _ _ _ _ hox0.row hot0.row (by omega) (by omega)).mono ?_; rintro e w10' ⟨rfl, hb⟩; replace bel := bel.trans (hb.mono bel.size); have SZ10 := Lib.hid hb.size; replace f0 := f0.below hb; replace kf00 := f0.c0; replace kf01 := f0.c1; replace f1 := f1.below hb; replace kf10 := f1.c0; replace kf11 := f1.c1; replace fx0 := fx0.below hb; replace kfx00 := fx0.c0; replace kfx01 := fx0.c1; replace fx1 := fx1.below hb; replace kfx10 := fx1.c0; replace kfx11 := fx1.c1; replace hox0 := hox0.below hb; replace hox1 := hox1.below hb; replace hot0 := hot0.below hb; clear hb))
      clear hot0
      go_wp2_with fail
      replace f0 := f0.drew
      replace f1 := f1.drew
      replace fx0 := fx0.drew
      replace fx1 := fx1.drew
      replace hox0 := hox0.drew
      replace hox1 := hox1.drew
      replace bel := bel.drew
      go_region_held3 (fun w' => w'.cell? ⟨w.heap.size + 1, 0, none⟩ = some (.int .i64 e1) ∧ w'.cell? ⟨w.heap.size + 1, 1, none⟩ = some (.slice a1 n1 c1) ∧ w'.cell? ⟨w7'.heap.size, 0, none⟩ = some (.int .i64 e1) ∧ w'.cell? ⟨w7'.heap.size, 1, none⟩ = some (.slice (some ⟨gx1, 0, none⟩) n1 n1)) (go_keep)
        (first
          | (go_at_call 15; refine (c_toFunction _ _ _ _ _ _ (hr1.below bel) (by omega)).mono ?_; rintro e w11' ⟨gt1, rfl, hot1, hb⟩; replace bel := bel.trans (hb.mono bel.size); have SZ11 := Lib.hid hb.size; replace f0 := f0.below hb; replace kf00 := f0.c0; replace kf01 := f0.c1; replace f1 := f1.below hb; replace kf10 := f1.c0; replace kf11 := f1.c1; replace fx0 := fx0.below hb; replace kfx00 := fx0.c0; replace kfx01 := fx0.c1; replace fx1 := fx1.below hb; replace kfx10 := fx1.c0; replace kfx11 := fx1.c1; replace hox0 := hox0.below hb; replace hox1 := hox1.below hb; clear hb)
          | (go_at_call 17; refine (c_eqFunction_same _ _ _ _ _ _ _ _ _ hox1.row hot1.row (by omega) (by omega)).mono ?_; rintro e w12' ⟨rfl, hb⟩; replace bel := bel.trans (hb.mono bel.size); have SZ12 := Lib.hid hb.size; replace f0 := f0.below hb; replace kf00 := f0.c0; replace kf01 := f0.c1; replace f1 := f1.below hb; replace kf10 := f1.c0; replace kf11 := f1.c1; replace fx0 := fx0.below hb; replace kfx00 := fx0.c0; replace kfx01 := fx0.c1; replace fx1 := fx1.below hb; replace kfx10 := fx1.c0; replace kfx11 := fx1.c1; replace hox0 := hox0.below hb; replace hox1 := hox1.below hb; replace hot1 := hot1.below hb; clear hb))
      clear hot1
      go_wp2
      go_ret
      exact ⟨rfl, by first | exact bel | exact bel.drew | exact below_drewN bel _⟩
    · have bel := Below.refl w.heap.size w
      have f0 := FBox.new w 24 e0 a0 n0 c0
      replace bel := bel.alloc bel.size (.cells #[.int .i64 e0, .slice a0 n0 c0] 24)
      have f1 := FBox.new (w.alloc (.cells #[.int .i64 e0, .slice a0 n0 c0] 24)) 24 e1 a1 n1 c1
      rw [World.size_alloc] at f1
      replace f0 := f0.alloc (.cells #[.int .i64 e1, .slice a1 n1 c1] 24)
      replace bel := bel.alloc bel.size (.cells #[.int .i64 e1, .slice a1 n1 c1] 24)
      go_enter Try.func10, Try.ntmps10
      go_wp2_with fail
      refine (c_szFunction_ok _ _ _ _ _ _ (by omega) (by omega) hm0 (by omega)).mono ?_
      rintro e v0' ⟨rfl, hb⟩
      replace bel := bel.trans (hb.mono bel.size)
      replace f0 := f0.below hb
      have kf00 := f0.c0
      have kf01 := f0.c1
      replace f1 := f1.below hb
      have kf10 := f1.c0
      have kf11 := f1.c1
      clear hb
      go_wp2_with fail
      refine (c_szFunction_no _ _ _ _ _ _ (by omega) (by omega) hm1 (by omega)).mono ?_
      rintro e v1' ⟨rfl, hb⟩
      replace bel := bel.trans (hb.mono bel.size)
      replace f0 := f0.below hb
      have kf00 := f0.c0
      have kf01 := f0.c1
      replace f1 := f1.below hb
      have kf10 := f1.c0
      have kf11 := f1.c1
      clear hb
      go_wp2
      go_ret
      exact ⟨rfl, bel⟩
  · have bel := Below.refl w.heap.size w
    have f0 := FBox.new w 24 e0 a0 n0 c0
    replace bel := bel.alloc bel.size (.cells #[.int .i64 e0, .slice a0 n0 c0] 24)
    have f1 := FBox.new (w.alloc (.cells #[.int .i64 e0, .slice a0 n0 c0] 24)) 24 e1 a1 n1 c1
    rw [World.size_alloc] at f1
    replace f0 := f0.alloc (.cells #[.int .i64 e1, .slice a1 n1 c1] 24)
    replace bel := bel.alloc bel.size (.cells #[.int .i64 e1, .slice a1 n1 c1] 24)
    go_enter Try.func10, Try.ntmps10
    go_wp2_with fail
    refine (c_szFunction_no _ _ _ _ _ _ (by omega) (by omega) hm0 (by omega)).mono ?_
    rintro e v0' ⟨rfl, hb⟩
    replace bel := bel.trans (hb.mono bel.size)
    replace f0 := f0.below hb
    have kf00 := f0.c0
    have kf01 := f0.c1
    replace f1 := f1.below hb
    have kf10 := f1.c0
    have kf11 := f1.c1
    clear hb
    go_wp2
    go_ret
    exact ⟨rfl, bel⟩
end Go.Proofs.Ytijdjdekdcoeiaa
