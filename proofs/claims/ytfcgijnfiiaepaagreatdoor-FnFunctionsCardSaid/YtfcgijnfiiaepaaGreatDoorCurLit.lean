/- Contracts of spec's draws of functions of sets, with numbers and lists beside them, off the bytes. -/
import Derived.Test.YtfcgijnfiiaepaaGreatDoorCurTwo
namespace Go.Proofs.YtfcgijnfiiaepaaGreatDoor
set_option linter.unusedSimpArgs false
set_option linter.unusedVariables false
open Go.RowKit

set_option maxRecDepth 40000 in
set_option maxHeartbeats 4000000 in
theorem c_DrawScaleFunction (a : Option Addr) (n c : Nat) (z : List Int) (w : World) (h : Row .u8 w a n z) (hn : n ≤ 1048576) :
    Calls Tryz.prog 20 #[.slice a n c] w (DrFI 3 w) := by
  have bel := Below.refl w.heap.size w
  have r1 := FBox.new w 26 0 none 0 0
  replace bel := bel.alloc bel.size (.cells #[.int .i64 0, .slice none 0 0] 26)
  go_enter Tryz.func20, Tryz.ntmps20
  go_wp2_with fail
  refine (c_l2Set _ _ _ _ _ (h.below bel) hn).mono ?_
  rintro e w1 ⟨m1, a1, c1, z1, x2, hf1, rfl, ho1, hb⟩
  replace r1 := r1.below hb
  replace bel := bel.trans (hb.mono bel.size)
  have hs1 : w.heap.size + 1 ≤ w1.heap.size := by have := hb.size; simpa using this
  have hzho1 := ho1.range
  (try simp only [World.size_alloc] at hzho1)
  replace ho1 := ho1.base (base' := w.heap.size) (by first | omega | (simp only [World.size_alloc]; omega))
  have v1 := FBox.new w1 26 m1 a1 z1.length c1
  replace r1 := r1.alloc (.cells #[.int .i64 m1, .slice a1 z1.length c1] 26)
  replace ho1 := ho1.alloc (.cells #[.int .i64 m1, .slice a1 z1.length c1] 26)
  replace bel := bel.alloc bel.size (.cells #[.int .i64 m1, .slice a1 z1.length c1] 26)
  have n11 : w1.heap.size ≠ w.heap.size := by omega
  have n11' : w.heap.size ≠ w1.heap.size := by omega
  have k10 := v1.c0
  have k11 := v1.c1
  have p10 := r1.c0
  have p11 := r1.c1
  have p1f := r1.free
  obtain ⟨x, hx⟩ : ∃ x, x = (n : Int) % 7 := ⟨_, rfl⟩
  have q1 : Int.tmod (n : Int) 7 = x := by rw [Int.tmod_eq_emod_of_nonneg (by omega)]; exact hx.symm
  have q2 : (n : Int) % 7 = x := hx.symm
  have q5 : (0 : Int) ≤ x := by omega
  have q6 : x < 7 := by omega
  clear hx
  rcases (show x = 0 ∨ x = 1 ∨ x = 2 ∨ x = 3 ∨ x = 4 ∨ x = 5 ∨ x = 6 by omega) with rfl | rfl | rfl | rfl | rfl | rfl | rfl
  · have r1L := r1.alloc (.cells #[.int .i64 0, .int .i64 1, .int .i64 2, .int .i64 (-1), .int .i64 1000, .int .i64 1001, .int .i64 3] 3)
    have pL0 := r1L.c0
    have pL1 := r1L.c1
    have pLf := r1L.free
    have r1B := (r1.set2 m1 a1 z1.length c1).alloc (.cells #[.int .i64 0, .int .i64 1, .int .i64 2, .int .i64 (-1), .int .i64 1000, .int .i64 1001, .int .i64 3] 3)
    have pB0 := r1B.c0
    have pB1 := r1B.c1
    have hoB := OwnI.drew (OwnI.alloc (own_setr ho1 (w.heap.size) hzho1 (by omega) (.int .i64 m1) (.slice a1 z1.length c1)) (.cells #[.int .i64 0, .int .i64 1, .int .i64 2, .int .i64 (-1), .int .i64 1000, .int .i64 1001, .int .i64 3] 3))
    have belB := Below.drew ((below_set2 bel (show w.heap.size ≤ w.heap.size by omega) (.int .i64 m1) (.slice a1 z1.length c1)).alloc (below_set2 bel (show w.heap.size ≤ w.heap.size by omega) (.int .i64 m1) (.slice a1 z1.length c1)).size (.cells #[.int .i64 0, .int .i64 1, .int .i64 2, .int .i64 (-1), .int .i64 1000, .int .i64 1001, .int .i64 3] 3))
    replace ho1 := ho1.alloc (.cells #[.int .i64 0, .int .i64 1, .int .i64 2, .int .i64 (-1), .int .i64 1000, .int .i64 1001, .int .i64 3] 3)
    replace bel := bel.alloc bel.size (.cells #[.int .i64 0, .int .i64 1, .int .i64 2, .int .i64 (-1), .int .i64 1000, .int .i64 1001, .int .i64 3] 3)
    have hoA := OwnI.drew (own_setr ho1 (w.heap.size) hzho1 (by omega) (.int .i64 m1) (.slice a1 z1.length c1))
    have belA := Below.drew (below_set2 bel (show w.heap.size ≤ w.heap.size by omega) (.int .i64 m1) (.slice a1 z1.length c1))
    go_wp2_with fail
    go_region_law (first | fail)
    all_goals
      go_wp2_with fail
      refine bodyPost_ret (v := .tuple #[.agg #[.int .i64 m1, .slice a1 z1.length c1], .int .i64 0]) (by simp [results, Tryz.results20, go_sem, p10, p11, p1f, pL0, pL1, pLf, pB0, pB1]) rfl ?_
      unfold DrFI
      first | with_reducible exact ⟨m1, a1, c1, z1, _, hf1, rfl, hoA, belA⟩ | with_reducible exact ⟨m1, a1, c1, z1, _, hf1, rfl, hoB, belB⟩
  · have r1L := r1.alloc (.cells #[.int .i64 0, .int .i64 1, .int .i64 2, .int .i64 (-1), .int .i64 1000, .int .i64 1001, .int .i64 3] 3)
    have pL0 := r1L.c0
    have pL1 := r1L.c1
    have pLf := r1L.free
    have r1B := (r1.set2 m1 a1 z1.length c1).alloc (.cells #[.int .i64 0, .int .i64 1, .int .i64 2, .int .i64 (-1), .int .i64 1000, .int .i64 1001, .int .i64 3] 3)
    have pB0 := r1B.c0
    have pB1 := r1B.c1
    have hoB := OwnI.drew (OwnI.alloc (own_setr ho1 (w.heap.size) hzho1 (by omega) (.int .i64 m1) (.slice a1 z1.length c1)) (.cells #[.int .i64 0, .int .i64 1, .int .i64 2, .int .i64 (-1), .int .i64 1000, .int .i64 1001, .int .i64 3] 3))
    have belB := Below.drew ((below_set2 bel (show w.heap.size ≤ w.heap.size by omega) (.int .i64 m1) (.slice a1 z1.length c1)).alloc (below_set2 bel (show w.heap.size ≤ w.heap.size by omega) (.int .i64 m1) (.slice a1 z1.length c1)).size (.cells #[.int .i64 0, .int .i64 1, .int .i64 2, .int .i64 (-1), .int .i64 1000, .int .i64 1001, .int .i64 3] 3))
    replace ho1 := ho1.alloc (.cells #[.int .i64 0, .int .i64 1, .int .i64 2, .int .i64 (-1), .int .i64 1000, .int .i64 1001, .int .i64 3] 3)
    replace bel := bel.alloc bel.size (.cells #[.int .i64 0, .int .i64 1, .int .i64 2, .int .i64 (-1), .int .i64 1000, .int .i64 1001, .int .i64 3] 3)
    have hoA := OwnI.drew (own_setr ho1 (w.heap.size) hzho1 (by omega) (.int .i64 m1) (.slice a1 z1.length c1))
    have belA := Below.drew (below_set2 bel (show w.heap.size ≤ w.heap.size by omega) (.int .i64 m1) (.slice a1 z1.length c1))
    go_wp2_with fail
    go_region_law (first | fail)
    all_goals
      go_wp2_with fail
      refine bodyPost_ret (v := .tuple #[.agg #[.int .i64 m1, .slice a1 z1.length c1], .int .i64 1]) (by simp [results, Tryz.results20, go_sem, p10, p11, p1f, pL0, pL1, pLf, pB0, pB1]) rfl ?_
      unfold DrFI
      first | with_reducible exact ⟨m1, a1, c1, z1, _, hf1, rfl, hoA, belA⟩ | with_reducible exact ⟨m1, a1, c1, z1, _, hf1, rfl, hoB, belB⟩
  · have r1L := r1.alloc (.cells #[.int .i64 0, .int .i64 1, .int .i64 2, .int .i64 (-1), .int .i64 1000, .int .i64 1001, .int .i64 3] 3)
    have pL0 := r1L.c0
    have pL1 := r1L.c1
    have pLf := r1L.free
    have r1B := (r1.set2 m1 a1 z1.length c1).alloc (.cells #[.int .i64 0, .int .i64 1, .int .i64 2, .int .i64 (-1), .int .i64 1000, .int .i64 1001, .int .i64 3] 3)
    have pB0 := r1B.c0
    have pB1 := r1B.c1
    have hoB := OwnI.drew (OwnI.alloc (own_setr ho1 (w.heap.size) hzho1 (by omega) (.int .i64 m1) (.slice a1 z1.length c1)) (.cells #[.int .i64 0, .int .i64 1, .int .i64 2, .int .i64 (-1), .int .i64 1000, .int .i64 1001, .int .i64 3] 3))
    have belB := Below.drew ((below_set2 bel (show w.heap.size ≤ w.heap.size by omega) (.int .i64 m1) (.slice a1 z1.length c1)).alloc (below_set2 bel (show w.heap.size ≤ w.heap.size by omega) (.int .i64 m1) (.slice a1 z1.length c1)).size (.cells #[.int .i64 0, .int .i64 1, .int .i64 2, .int .i64 (-1), .int .i64 1000, .int .i64 1001, .int .i64 3] 3))
    replace ho1 := ho1.alloc (.cells #[.int .i64 0, .int .i64 1, .int .i64 2, .int .i64 (-1), .int .i64 1000, .int .i64 1001, .int .i64 3] 3)
    replace bel := bel.alloc bel.size (.cells #[.int .i64 0, .int .i64 1, .int .i64 2, .int .i64 (-1), .int .i64 1000, .int .i64 1001, .int .i64 3] 3)
    have hoA := OwnI.drew (own_setr ho1 (w.heap.size) hzho1 (by omega) (.int .i64 m1) (.slice a1 z1.length c1))
    have belA := Below.drew (below_set2 bel (show w.heap.size ≤ w.heap.size by omega) (.int .i64 m1) (.slice a1 z1.length c1))
    go_wp2_with fail
    go_region_law (first | fail)
    all_goals
      go_wp2_with fail
      refine bodyPost_ret (v := .tuple #[.agg #[.int .i64 m1, .slice a1 z1.length c1], .int .i64 2]) (by simp [results, Tryz.results20, go_sem, p10, p11, p1f, pL0, pL1, pLf, pB0, pB1]) rfl ?_
      unfold DrFI
      first | with_reducible exact ⟨m1, a1, c1, z1, _, hf1, rfl, hoA, belA⟩ | with_reducible exact ⟨m1, a1, c1, z1, _, hf1, rfl, hoB, belB⟩
  · have r1L := r1.alloc (.cells #[.int .i64 0, .int .i64 1, .int .i64 2, .int .i64 (-1), .int .i64 1000, .int .i64 1001, .int .i64 3] 3)
    have pL0 := r1L.c0
    have pL1 := r1L.c1
    have pLf := r1L.free
    have r1B := (r1.set2 m1 a1 z1.length c1).alloc (.cells #[.int .i64 0, .int .i64 1, .int .i64 2, .int .i64 (-1), .int .i64 1000, .int .i64 1001, .int .i64 3] 3)
    have pB0 := r1B.c0
    have pB1 := r1B.c1
    have hoB := OwnI.drew (OwnI.alloc (own_setr ho1 (w.heap.size) hzho1 (by omega) (.int .i64 m1) (.slice a1 z1.length c1)) (.cells #[.int .i64 0, .int .i64 1, .int .i64 2, .int .i64 (-1), .int .i64 1000, .int .i64 1001, .int .i64 3] 3))
    have belB := Below.drew ((below_set2 bel (show w.heap.size ≤ w.heap.size by omega) (.int .i64 m1) (.slice a1 z1.length c1)).alloc (below_set2 bel (show w.heap.size ≤ w.heap.size by omega) (.int .i64 m1) (.slice a1 z1.length c1)).size (.cells #[.int .i64 0, .int .i64 1, .int .i64 2, .int .i64 (-1), .int .i64 1000, .int .i64 1001, .int .i64 3] 3))
    replace ho1 := ho1.alloc (.cells #[.int .i64 0, .int .i64 1, .int .i64 2, .int .i64 (-1), .int .i64 1000, .int .i64 1001, .int .i64 3] 3)
    replace bel := bel.alloc bel.size (.cells #[.int .i64 0, .int .i64 1, .int .i64 2, .int .i64 (-1), .int .i64 1000, .int .i64 1001, .int .i64 3] 3)
    have hoA := OwnI.drew (own_setr ho1 (w.heap.size) hzho1 (by omega) (.int .i64 m1) (.slice a1 z1.length c1))
    have belA := Below.drew (below_set2 bel (show w.heap.size ≤ w.heap.size by omega) (.int .i64 m1) (.slice a1 z1.length c1))
    go_wp2_with fail
    go_region_law (first | fail)
    all_goals
      go_wp2_with fail
      refine bodyPost_ret (v := .tuple #[.agg #[.int .i64 m1, .slice a1 z1.length c1], .int .i64 (-1)]) (by simp [results, Tryz.results20, go_sem, p10, p11, p1f, pL0, pL1, pLf, pB0, pB1]) rfl ?_
      unfold DrFI
      first | with_reducible exact ⟨m1, a1, c1, z1, _, hf1, rfl, hoA, belA⟩ | with_reducible exact ⟨m1, a1, c1, z1, _, hf1, rfl, hoB, belB⟩
  · have r1L := r1.alloc (.cells #[.int .i64 0, .int .i64 1, .int .i64 2, .int .i64 (-1), .int .i64 1000, .int .i64 1001, .int .i64 3] 3)
    have pL0 := r1L.c0
    have pL1 := r1L.c1
    have pLf := r1L.free
    have r1B := (r1.set2 m1 a1 z1.length c1).alloc (.cells #[.int .i64 0, .int .i64 1, .int .i64 2, .int .i64 (-1), .int .i64 1000, .int .i64 1001, .int .i64 3] 3)
    have pB0 := r1B.c0
    have pB1 := r1B.c1
    have hoB := OwnI.drew (OwnI.alloc (own_setr ho1 (w.heap.size) hzho1 (by omega) (.int .i64 m1) (.slice a1 z1.length c1)) (.cells #[.int .i64 0, .int .i64 1, .int .i64 2, .int .i64 (-1), .int .i64 1000, .int .i64 1001, .int .i64 3] 3))
    have belB := Below.drew ((below_set2 bel (show w.heap.size ≤ w.heap.size by omega) (.int .i64 m1) (.slice a1 z1.length c1)).alloc (below_set2 bel (show w.heap.size ≤ w.heap.size by omega) (.int .i64 m1) (.slice a1 z1.length c1)).size (.cells #[.int .i64 0, .int .i64 1, .int .i64 2, .int .i64 (-1), .int .i64 1000, .int .i64 1001, .int .i64 3] 3))
    replace ho1 := ho1.alloc (.cells #[.int .i64 0, .int .i64 1, .int .i64 2, .int .i64 (-1), .int .i64 1000, .int .i64 1001, .int .i64 3] 3)
    replace bel := bel.alloc bel.size (.cells #[.int .i64 0, .int .i64 1, .int .i64 2, .int .i64 (-1), .int .i64 1000, .int .i64 1001, .int .i64 3] 3)
    have hoA := OwnI.drew (own_setr ho1 (w.heap.size) hzho1 (by omega) (.int .i64 m1) (.slice a1 z1.length c1))
    have belA := Below.drew (below_set2 bel (show w.heap.size ≤ w.heap.size by omega) (.int .i64 m1) (.slice a1 z1.length c1))
    go_wp2_with fail
    go_region_law (first | fail)
    all_goals
      go_wp2_with fail
      refine bodyPost_ret (v := .tuple #[.agg #[.int .i64 m1, .slice a1 z1.length c1], .int .i64 1000]) (by simp [results, Tryz.results20, go_sem, p10, p11, p1f, pL0, pL1, pLf, pB0, pB1]) rfl ?_
      unfold DrFI
      first | with_reducible exact ⟨m1, a1, c1, z1, _, hf1, rfl, hoA, belA⟩ | with_reducible exact ⟨m1, a1, c1, z1, _, hf1, rfl, hoB, belB⟩
  · have r1L := r1.alloc (.cells #[.int .i64 0, .int .i64 1, .int .i64 2, .int .i64 (-1), .int .i64 1000, .int .i64 1001, .int .i64 3] 3)
    have pL0 := r1L.c0
    have pL1 := r1L.c1
    have pLf := r1L.free
    have r1B := (r1.set2 m1 a1 z1.length c1).alloc (.cells #[.int .i64 0, .int .i64 1, .int .i64 2, .int .i64 (-1), .int .i64 1000, .int .i64 1001, .int .i64 3] 3)
    have pB0 := r1B.c0
    have pB1 := r1B.c1
    have hoB := OwnI.drew (OwnI.alloc (own_setr ho1 (w.heap.size) hzho1 (by omega) (.int .i64 m1) (.slice a1 z1.length c1)) (.cells #[.int .i64 0, .int .i64 1, .int .i64 2, .int .i64 (-1), .int .i64 1000, .int .i64 1001, .int .i64 3] 3))
    have belB := Below.drew ((below_set2 bel (show w.heap.size ≤ w.heap.size by omega) (.int .i64 m1) (.slice a1 z1.length c1)).alloc (below_set2 bel (show w.heap.size ≤ w.heap.size by omega) (.int .i64 m1) (.slice a1 z1.length c1)).size (.cells #[.int .i64 0, .int .i64 1, .int .i64 2, .int .i64 (-1), .int .i64 1000, .int .i64 1001, .int .i64 3] 3))
    replace ho1 := ho1.alloc (.cells #[.int .i64 0, .int .i64 1, .int .i64 2, .int .i64 (-1), .int .i64 1000, .int .i64 1001, .int .i64 3] 3)
    replace bel := bel.alloc bel.size (.cells #[.int .i64 0, .int .i64 1, .int .i64 2, .int .i64 (-1), .int .i64 1000, .int .i64 1001, .int .i64 3] 3)
    have hoA := OwnI.drew (own_setr ho1 (w.heap.size) hzho1 (by omega) (.int .i64 m1) (.slice a1 z1.length c1))
    have belA := Below.drew (below_set2 bel (show w.heap.size ≤ w.heap.size by omega) (.int .i64 m1) (.slice a1 z1.length c1))
    go_wp2_with fail
    go_region_law (first | fail)
    all_goals
      go_wp2_with fail
      refine bodyPost_ret (v := .tuple #[.agg #[.int .i64 m1, .slice a1 z1.length c1], .int .i64 1001]) (by simp [results, Tryz.results20, go_sem, p10, p11, p1f, pL0, pL1, pLf, pB0, pB1]) rfl ?_
      unfold DrFI
      first | with_reducible exact ⟨m1, a1, c1, z1, _, hf1, rfl, hoA, belA⟩ | with_reducible exact ⟨m1, a1, c1, z1, _, hf1, rfl, hoB, belB⟩
  · have r1L := r1.alloc (.cells #[.int .i64 0, .int .i64 1, .int .i64 2, .int .i64 (-1), .int .i64 1000, .int .i64 1001, .int .i64 3] 3)
    have pL0 := r1L.c0
    have pL1 := r1L.c1
    have pLf := r1L.free
    have r1B := (r1.set2 m1 a1 z1.length c1).alloc (.cells #[.int .i64 0, .int .i64 1, .int .i64 2, .int .i64 (-1), .int .i64 1000, .int .i64 1001, .int .i64 3] 3)
    have pB0 := r1B.c0
    have pB1 := r1B.c1
    have hoB := OwnI.drew (OwnI.alloc (own_setr ho1 (w.heap.size) hzho1 (by omega) (.int .i64 m1) (.slice a1 z1.length c1)) (.cells #[.int .i64 0, .int .i64 1, .int .i64 2, .int .i64 (-1), .int .i64 1000, .int .i64 1001, .int .i64 3] 3))
    have belB := Below.drew ((below_set2 bel (show w.heap.size ≤ w.heap.size by omega) (.int .i64 m1) (.slice a1 z1.length c1)).alloc (below_set2 bel (show w.heap.size ≤ w.heap.size by omega) (.int .i64 m1) (.slice a1 z1.length c1)).size (.cells #[.int .i64 0, .int .i64 1, .int .i64 2, .int .i64 (-1), .int .i64 1000, .int .i64 1001, .int .i64 3] 3))
    replace ho1 := ho1.alloc (.cells #[.int .i64 0, .int .i64 1, .int .i64 2, .int .i64 (-1), .int .i64 1000, .int .i64 1001, .int .i64 3] 3)
    replace bel := bel.alloc bel.size (.cells #[.int .i64 0, .int .i64 1, .int .i64 2, .int .i64 (-1), .int .i64 1000, .int .i64 1001, .int .i64 3] 3)
    have hoA := OwnI.drew (own_setr ho1 (w.heap.size) hzho1 (by omega) (.int .i64 m1) (.slice a1 z1.length c1))
    have belA := Below.drew (below_set2 bel (show w.heap.size ≤ w.heap.size by omega) (.int .i64 m1) (.slice a1 z1.length c1))
    go_wp2_with fail
    go_region_law (first | fail)
    all_goals
      go_wp2_with fail
      refine bodyPost_ret (v := .tuple #[.agg #[.int .i64 m1, .slice a1 z1.length c1], .int .i64 3]) (by simp [results, Tryz.results20, go_sem, p10, p11, p1f, pL0, pL1, pLf, pB0, pB1]) rfl ?_
      unfold DrFI
      first | with_reducible exact ⟨m1, a1, c1, z1, _, hf1, rfl, hoA, belA⟩ | with_reducible exact ⟨m1, a1, c1, z1, _, hf1, rfl, hoB, belB⟩
end Go.Proofs.YtfcgijnfiiaepaaGreatDoor
