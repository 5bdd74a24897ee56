/- Contracts of spec's l5Poly and of the draws over it. -/
import Derived.Test.YtfcgijnfiiaepaaCurTwo
namespace Go.Proofs.Ytfcgijnfiiaepaa
set_option linter.unusedSimpArgs false
set_option linter.unusedVariables false
open Go.RowKit

set_option maxRecDepth 40000 in
set_option maxHeartbeats 4000000 in
theorem c_l5Poly (g : Nat) (w : World) (f : Cur 75 w g) :
    Calls Try.prog 58 #[.pointer (some ⟨g, 0, none⟩)] w (RetAny 75 3 g w) := by
  have hgs := f.lt
  have fr := FBox.new w 26 0 none 0 0
  go_enter Try.func58, Try.ntmps58
  go_wp2_with fail
  refine (c_l1Below g _ _ (f.alloc _) (by decide) (by decide)).mono ?_
  rintro e w1 ⟨n0, rfl, hn0, hn1, f1, hg1⟩
  obtain ⟨n, rfl⟩ := Int.eq_ofNat_of_zero_le hn0
  have hn5 : n ≤ 4 := by omega
  clear hn0 hn1 f
  replace fr := fr.cur hg1 (by omega)
  have hg := grownBy_trans (grownBy_alloc w (.cells #[.int .i64 0, .slice none 0 0] 26) (some g)) hg1
  have f := f1
  clear f1 hg1
  obtain ⟨p, hp⟩ : ∃ p, p = 2 ^ n := ⟨_, rfl⟩
  have hp32 : p ≤ 32 := by rw [hp]; exact Nat.le_trans (Nat.pow_le_pow_right (by decide : 0 < 2) hn5) (by decide)
  have hp0 : 0 < p := by rw [hp]; exact Nat.pow_pos (by decide)
  have HSH := Lib.hid (shl_facts n p hp (by omega))
  have HP := Lib.hid hp
  clear hp
  go_wp2_with fail
  refine (c_l1Below g _ _ f (by decide) (by decide)).mono ?_
  rintro e w2 ⟨x, rfl, hx0, hx1, f2, hg2⟩
  clear f
  have f := f2
  clear f2
  replace fr := fr.cur hg2 (by omega)
  replace hg := grownBy_trans hg hg2
  clear hg2
  have hx : x = 0 ∨ x = 1 ∨ 2 ≤ x := by omega
  clear hx0 hx1
  rcases hx with rfl | rfl | hx
  · go_wp2_with fail
    refine (c_l2Any g _ f).mono ?_
    rintro e w3 ⟨m, a8, c8, zs, hm, hl1, hl2, rfl, hv, f3, hg3⟩
    replace hv := hv.base (base' := w.heap.size + 1) (by have := fr.lt; omega)
    clear f
    have f := f3
    clear f3
    replace fr := fr.cur hg3 (by omega)
    replace hg := grownBy_trans hg hg3
    clear hg3
    have kr0 := fr.c0
    have kr1 := fr.c1
    have krf := fr.free
    have hlt2 := fr.lt
    go_wp2_with fail
    refine bodyPost_ret (v := .agg #[.int .i64 m, .slice a8 zs.length c8]) (by simp [results, Try.results58, go_sem, kr0, kr1, krf]) rfl ?_

    exact ⟨m, a8, c8, zs, hm, hl1, hl2, rfl, (own_set2 hv (Nat.lt_succ_self _) _ _).base (Nat.le_succ _), cur_far2 f hgs _ _, grownBy_far2 hg _ (Nat.le_refl _) _ _⟩
  · have hwn : IntKind.i64.wrap ((n : Int) + 1) = (n : Int) + 1 := IntWalk.i64_in _ (by omega)
    go_wp2_with fail
    refine (c_l1Below g _ _ f (by omega) (by omega)).mono ?_
    rintro e w3 ⟨top, rfl, ht0, ht1, f3, hg3⟩
    clear hwn f ht0 ht1
    have f := f3
    clear f3
    replace fr := fr.cur hg3 (by omega)
    replace hg := grownBy_trans hg hg3
    clear hg3
    have hB1 : w.heap.size + 1 ≤ w3.heap.size := by have := fr.lt; omega
    have hv := OwnI.lit w3 (w.heap.size + 1) 3 .i64 [] hB1 (by decide)
    replace f := f.alloc (.cells #[] 3)
    replace fr := fr.alloc (.cells #[] 3)
    replace hg := grownBy_trans hg (grownBy_alloc w3 (.cells #[] 3) (some g))
    clear hB1
    go_wp2_with fail
    go_loopw [5, 6] (fun v sv wr => ∃ (s : Nat) (zs : List Int), sv = .int .i64 (s : Int) ∧ s ≤ p ∧ zs.length = s ∧ OwnI wr (w.heap.size + 1) 3 .i64 v zs ∧ FBox wr w.heap.size 26 0 none 0 0 ∧ Cur 75 wr g ∧ w.grownBy wr (some g)) (fun _ sv _ => p - (intOf sv).toNat)
    case atStart => exact ⟨0, [], rfl, Nat.zero_le _, rfl, hv, fr, f, hg⟩
    case round =>
      clear hv fr f hg
      obtain ⟨s, zs, rfl, hsp, hzl, hv, fr, f, hg⟩ := hrel
      have HZ := Lib.hid hzl
      have hz33 : zs.length ≤ 32 := by omega
      clear hzl
      by_cases hlt : s < p
      · have hlz : (s : Int) < (p : Int) := by omega
        have hs32 : s < 32 := by omega
        have hBB : w.heap.size + 1 ≤ wr.heap.size := by have := fr.lt; omega
        rcases (show top ≤ (sizeN s : Int) ∨ (sizeN s : Int) < top by omega) with hmn | hmn
        · obtain ⟨q1, q2, q3⟩ := HSH.out
          go_wp2_with fail
          clear q1 q2 q3
          refine (c_l2Size s _ hs32).mono ?_
          rintro e w4 ⟨rfl, rfl⟩
          go_wp2_with (at_builtin; refine wpList_appAt EI (base := w.heap.size + 1) (v := u5) (xs := zs) (us := [top]) (g := wr.heap.size) (n := 1) (c := 1) rfl (.tmp 28) (.tmp 33) rfl ?_ ?_ rfl rfl rfl ?_ ?_ ?_; (exact hv.alloc _); (exact heap_alloc_new wr _); (show _ + 1 ≤ _; omega); (exact le_alloc hBB _); intro v6 w6 hv6 hgrow hloc)
          have hR := fun j hj => (hv.range j hj).1
          have f6 := (f.alloc (.cells #[.int .i64 (top)] 3)).grown hgrow (fun i hi => by have := hR i hi; omega)
          have fr6 := (fr.alloc (.cells #[.int .i64 (top)] 3)).row hgrow hR (Nat.lt_succ_self _)
          have hg6 := grownBy_own (grownBy_trans hg (grownBy_alloc wr (.cells #[.int .i64 (top)] 3) (some g))) hgrow (fun j hj => by have := hR j hj; omega)
          go_roundw
          case rel => first | exact ⟨s + 1, _, by go_num, by omega, by simp [HZ.out], hv6, fr6, f6, hg6⟩ | ((repeat apply Exists.intro); exact ⟨⟨s + 1, _, by go_num, by omega, by simp [HZ.out], hv6, fr6, f6, hg6⟩, rfl⟩)
          case measure => simp [intOf]; omega
        · obtain ⟨q1, q2, q3⟩ := HSH.out
          go_wp2_with fail
          clear q1 q2 q3
          refine (c_l2Size s _ hs32).mono ?_
          rintro e w4 ⟨rfl, rfl⟩
          go_wp2_with (at_builtin; refine wpList_appAt EI (base := w.heap.size + 1) (v := u5) (xs := zs) (us := [(sizeN s : Int)]) (g := wr.heap.size) (n := 1) (c := 1) rfl (.tmp 28) (.tmp 33) rfl ?_ ?_ rfl rfl rfl ?_ ?_ ?_; (exact hv.alloc _); (exact heap_alloc_new wr _); (show _ + 1 ≤ _; omega); (exact le_alloc hBB _); intro v6 w6 hv6 hgrow hloc)
          have hR := fun j hj => (hv.range j hj).1
          have f6 := (f.alloc (.cells #[.int .i64 ((sizeN s : Int))] 3)).grown hgrow (fun i hi => by have := hR i hi; omega)
          have fr6 := (fr.alloc (.cells #[.int .i64 ((sizeN s : Int))] 3)).row hgrow hR (Nat.lt_succ_self _)
          have hg6 := grownBy_own (grownBy_trans hg (grownBy_alloc wr (.cells #[.int .i64 ((sizeN s : Int))] 3) (some g))) hgrow (fun j hj => by have := hR j hj; omega)
          go_roundw
          case rel => first | exact ⟨s + 1, _, by go_num, by omega, by simp [HZ.out], hv6, fr6, f6, hg6⟩ | ((repeat apply Exists.intro); exact ⟨⟨s + 1, _, by go_num, by omega, by simp [HZ.out], hv6, fr6, f6, hg6⟩, rfl⟩)
          case measure => simp [intOf]; omega
      · obtain rfl : p = s := by omega
        obtain ⟨a8, c8, rfl, _⟩ := hv.form
        rw [HZ.out] at hv
        rw [HZ.out]
        obtain ⟨q1, q2, q3⟩ := HSH.out
        have kr0 := fr.c0
        have kr1 := fr.c1
        have krf := fr.free
        have hlt2 := fr.lt
        go_wp2_with fail
        refine bodyPost_ret (v := .agg #[.int .i64 (n : Int), .slice a8 p c8]) (by simp [results, Try.results58, go_sem, kr0, kr1, krf]) rfl ?_

        refine ⟨n, a8, c8, zs, ⟨by omega, by omega⟩, by rw [HZ.out]; exact hp0, by rw [HZ.out]; exact hp32, by rw [HZ.out], ?_, cur_far2 f hgs _ _, grownBy_far2 hg _ (Nat.le_refl _) _ _⟩
        rw [HZ.out]
        exact (own_set2 hv (Nat.lt_succ_self _) _ _).base (Nat.le_succ _)
  · have hx0 : (x == 0) = false := by rw [beq_eq_false_iff_ne]; omega
    have hx1 : (x == 1) = false := by rw [beq_eq_false_iff_ne]; omega
    clear hx
    go_wp2_with fail
    refine (c_l2Cover g n _ f (by omega)).mono ?_
    rintro e w3 ⟨a8, c8, zs, hzl, rfl, hv, f3, hg3⟩
    rw [← HP.out] at hzl hv ⊢
    have HZ := Lib.hid hzl
    replace hv := hv.base (base' := w.heap.size + 1) (by have := fr.lt; omega)
    clear hx0 hx1 f hzl
    have f := f3
    clear f3
    replace fr := fr.cur hg3 (by omega)
    replace hg := grownBy_trans hg hg3
    clear hg3
    have kr0 := fr.c0
    have kr1 := fr.c1
    have krf := fr.free
    have hlt2 := fr.lt
    go_wp2_with fail
    refine bodyPost_ret (v := .agg #[.int .i64 (n : Int), .slice a8 p c8]) (by simp [results, Try.results58, go_sem, kr0, kr1, krf]) rfl ?_

    refine ⟨n, a8, c8, zs, ⟨by omega, by omega⟩, by rw [HZ.out]; exact hp0, by rw [HZ.out]; exact hp32, by rw [HZ.out], ?_, cur_far2 f hgs _ _, grownBy_far2 hg _ (Nat.le_refl _) _ _⟩
    rw [HZ.out]
    exact (own_set2 hv (Nat.lt_succ_self _) _ _).base (Nat.le_succ _)
set_option maxRecDepth 40000 in
set_option maxHeartbeats 2000000 in
theorem c_l5Both (a : Option Addr) (n c : Nat) (z : List Int) (w : World) (h : Row .u8 w a n z) (hn : n ≤ 1048576) :
    Calls Try.prog 51 #[.slice a n c] w (DrFI 3 w) := by
  have bel := Below.refl w.heap.size w
  have r1 := FBox.new w 26 0 none 0 0
  replace bel := bel.alloc bel.size (.cells #[.int .i64 0, .slice none 0 0] 26)
  go_enter Try.func51, Try.ntmps51
  go_wp2_with fail
  refine (c_l1New _ _ _ _ _ (h.below bel) hn).mono ?_
  rintro e w1 ⟨g, rfl, hg, f, hb⟩
  (try simp only [World.size_alloc] at hg)
  replace r1 := r1.below hb
  have nr1 : g ≠ w.heap.size := by omega
  replace bel := bel.trans (hb.mono bel.size)
  have hgB : w.heap.size ≤ g := by omega
  have lg1 := f.lt
  clear hb
  go_wp2_with fail
  refine (c_l5Poly g _ f).mono ?_
  rintro e w2 ⟨m1, a1, c1, z1, hf1, hl1, hu1, rfl, ho1, f2, hg2⟩
  have hF1 : Fine m1 z1 := ⟨hf1, hl1, hu1⟩
  clear hf1 hl1 hu1
  (try simp only [World.size_alloc] at ho1)
  replace r1 := r1.cur hg2 nr1
  replace bel := below_cur bel hg2 hgB bel.size
  clear f
  have f := f2
  clear hg2 f2
  have := f.lt
  have og1 : g < w1.heap.size := by omega
  have LR1 := Lib.hid r1.lt
  have v1 := FBox.new w2 26 m1 a1 z1.length c1
  have nv1 : g ≠ w2.heap.size := by have := f.lt; omega
  have lv1 := f.lt
  replace r1 := r1.alloc (.cells #[.int .i64 m1, .slice a1 z1.length c1] 26)
  replace ho1 := ho1.alloc (.cells #[.int .i64 m1, .slice a1 z1.length c1] 26)
  replace f := f.alloc (.cells #[.int .i64 m1, .slice a1 z1.length c1] 26)
  replace bel := bel.alloc bel.size (.cells #[.int .i64 m1, .slice a1 z1.length c1] 26)
  skip
  have l1 := r1.lt
  skip
  replace r1 := r1.drew
  replace v1 := v1.drew
  replace ho1 := ho1.drew
  replace f := f.drew
  replace bel := bel.drew
  have k10 := v1.c0
  have k11 := v1.c1
  have p10 := r1.c0
  have p11 := r1.c1
  have p1f := r1.free
  have l12 : w.heap.size < w2.heap.size := LR1.out
  have n11 : w2.heap.size ≠ w.heap.size := by omega
  have n11' : w.heap.size ≠ w2.heap.size := by omega
  go_wp2_with fail
  go_region_held3 (fun w' => w'.cell? ⟨w2.heap.size, 0, none⟩ = some (.int .i64 m1) ∧ w'.cell? ⟨w2.heap.size, 1, none⟩ = some (.slice a1 z1.length c1)) (go_keep)
    (first | (go_at_call 77; refine (c_l1Below g _ _ f (by decide) (by decide)).mono ?_; rintro e w3 ⟨x, rfl, hx0, hx1, f2, hg2⟩; replace r1 := r1.cur hg2 nr1; replace v1 := v1.cur hg2 nv1; replace ho1 := ho1.cur hg2 og1; replace bel := below_cur bel hg2 hgB bel.size; clear f; have f := f2; clear hg2 f2; have := f.lt; have hwx : IntKind.i64.wrap (x - 1) = x - 1 := IntWalk.i64_in _ (by omega); clear hx0 hx1; replace k10 := v1.c0; replace k11 := v1.c1; replace p10 := r1.c0; replace p11 := r1.c1; replace p1f := r1.free))
  all_goals
    go_wp2_with fail
    refine bodyPost_ret (v := .tuple #[.agg #[.int .i64 m1, .slice a1 z1.length c1], .int .i64 (x - 1)]) (by simp [results, Try.results51, go_sem, p10, p11, p1f]) rfl ?_
    exact ⟨m1, a1, c1, z1, _, hF1, rfl, (own_setr ho1 (w.heap.size) ho1.range (by (try simp only [World.size_alloc, World.size_drew, World.size_setCell]); omega) _ _).base (base' := w.heap.size) (by omega), (below_set2 bel (show w.heap.size ≤ w.heap.size by omega) _ _)⟩
set_option maxRecDepth 40000 in
set_option maxHeartbeats 1000000 in
theorem c_DrawClosureOf (a : Option Addr) (n c : Nat) (z : List Int) (w : World) (h : Row .u8 w a n z) (hn : n ≤ 1048576) :
    Calls Try.prog 6 #[.slice a n c] w (DrFI 3 w) := by
  have bel := Below.refl w.heap.size w
  have r1 := FBox.new w 26 0 none 0 0
  replace bel := bel.alloc bel.size (.cells #[.int .i64 0, .slice none 0 0] 26)
  go_enter Try.func6, Try.ntmps6
  go_wp2_with fail
  refine (c_l5Both _ _ _ _ _ (h.below bel) hn).mono ?_
  rintro e w1 ⟨m1, a1, c1, z1, x2, hf1, rfl, ho1, hb⟩
  replace r1 := r1.below hb
  replace bel := bel.trans (hb.mono bel.size)
  have hs1 : w.heap.size + 1 ≤ w1.heap.size := by have := hb.size; simpa using this
  have hzho1 := ho1.range
  (try simp only [World.size_alloc] at hzho1)
  replace ho1 := ho1.base (base' := w.heap.size) (by first | omega | (simp only [World.size_alloc]; omega))
  have v1 := FBox.new w1 26 m1 a1 z1.length c1
  replace r1 := r1.alloc (.cells #[.int .i64 m1, .slice a1 z1.length c1] 26)
  replace ho1 := ho1.alloc (.cells #[.int .i64 m1, .slice a1 z1.length c1] 26)
  replace bel := bel.alloc bel.size (.cells #[.int .i64 m1, .slice a1 z1.length c1] 26)
  have n11 : w1.heap.size ≠ w.heap.size := by omega
  have n11' : w.heap.size ≠ w1.heap.size := by omega
  have k10 := v1.c0
  have k11 := v1.c1
  have p10 := r1.c0
  have p11 := r1.c1
  have p1f := r1.free
  all_goals
    go_wp2_with fail
    refine bodyPost_ret (v := .tuple #[.agg #[.int .i64 m1, .slice a1 z1.length c1], .int .i64 x2]) (by simp [results, Try.results6, go_sem, p10, p11, p1f]) rfl ?_
    exact ⟨m1, a1, c1, z1, _, hf1, rfl, (own_setr ho1 (w.heap.size) hzho1 (by omega) _ _), (below_set2 bel (show w.heap.size ≤ w.heap.size by omega) _ _)⟩
set_option maxRecDepth 40000 in
set_option maxHeartbeats 1000000 in
theorem c_DrawIsFlat (a : Option Addr) (n c : Nat) (z : List Int) (w : World) (h : Row .u8 w a n z) (hn : n ≤ 1048576) :
    Calls Try.prog 31 #[.slice a n c] w (DrFI 3 w) := by
  have bel := Below.refl w.heap.size w
  have r1 := FBox.new w 26 0 none 0 0
  replace bel := bel.alloc bel.size (.cells #[.int .i64 0, .slice none 0 0] 26)
  go_enter Try.func31, Try.ntmps31
  go_wp2_with fail
  refine (c_l5Both _ _ _ _ _ (h.below bel) hn).mono ?_
  rintro e w1 ⟨m1, a1, c1, z1, x2, hf1, rfl, ho1, hb⟩
  replace r1 := r1.below hb
  replace bel := bel.trans (hb.mono bel.size)
  have hs1 : w.heap.size + 1 ≤ w1.heap.size := by have := hb.size; simpa using this
  have hzho1 := ho1.range
  (try simp only [World.size_alloc] at hzho1)
  replace ho1 := ho1.base (base' := w.heap.size) (by first | omega | (simp only [World.size_alloc]; omega))
  have v1 := FBox.new w1 26 m1 a1 z1.length c1
  replace r1 := r1.alloc (.cells #[.int .i64 m1, .slice a1 z1.length c1] 26)
  replace ho1 := ho1.alloc (.cells #[.int .i64 m1, .slice a1 z1.length c1] 26)
  replace bel := bel.alloc bel.size (.cells #[.int .i64 m1, .slice a1 z1.length c1] 26)
  have n11 : w1.heap.size ≠ w.heap.size := by omega
  have n11' : w.heap.size ≠ w1.heap.size := by omega
  have k10 := v1.c0
  have k11 := v1.c1
  have p10 := r1.c0
  have p11 := r1.c1
  have p1f := r1.free
  all_goals
    go_wp2_with fail
    refine bodyPost_ret (v := .tuple #[.agg #[.int .i64 m1, .slice a1 z1.length c1], .int .i64 x2]) (by simp [results, Try.results31, go_sem, p10, p11, p1f]) rfl ?_
    exact ⟨m1, a1, c1, z1, _, hf1, rfl, (own_setr ho1 (w.heap.size) hzho1 (by omega) _ _), (below_set2 bel (show w.heap.size ≤ w.heap.size by omega) _ _)⟩
set_option maxRecDepth 40000 in
set_option maxHeartbeats 1000000 in
theorem c_DrawFlatsOf (a : Option Addr) (n c : Nat) (z : List Int) (w : World) (h : Row .u8 w a n z) (hn : n ≤ 1048576) :
    Calls Try.prog 11 #[.slice a n c] w (DrF 3 w) := by
  have bel := Below.refl w.heap.size w
  have r1 := FBox.new w 26 0 none 0 0
  replace bel := bel.alloc bel.size (.cells #[.int .i64 0, .slice none 0 0] 26)
  go_enter Try.func11, Try.ntmps11
  go_wp2_with fail
  refine (c_l1New _ _ _ _ _ (h.below bel) hn).mono ?_
  rintro e w1 ⟨g, rfl, hg, f, hb⟩
  (try simp only [World.size_alloc] at hg)
  replace r1 := r1.below hb
  have nr1 : g ≠ w.heap.size := by omega
  replace bel := bel.trans (hb.mono bel.size)
  have hgB : w.heap.size ≤ g := by omega
  have lg1 := f.lt
  clear hb
  go_wp2_with fail
  refine (c_l5Poly g _ f).mono ?_
  rintro e w2 ⟨m1, a1, c1, z1, hf1, hl1, hu1, rfl, ho1, f2, hg2⟩
  have hF1 : Fine m1 z1 := ⟨hf1, hl1, hu1⟩
  clear hf1 hl1 hu1
  (try simp only [World.size_alloc] at ho1)
  replace r1 := r1.cur hg2 nr1
  replace bel := below_cur bel hg2 hgB bel.size
  clear f
  have f := f2
  clear hg2 f2
  have := f.lt
  have og1 : g < w1.heap.size := by omega
  have l1 := r1.lt
  have p10 := r1.c0
  have p11 := r1.c1
  have p1f := r1.free
  go_wp2_with fail
  refine bodyPost_ret (v := .agg #[.int .i64 m1, .slice a1 z1.length c1]) (by simp [results, Try.results11, go_sem, p10, p11, p1f]) rfl ?_
  exact ⟨m1, a1, c1, z1, hF1, rfl, (own_setr ho1 (w.heap.size) ho1.range (by (try simp only [World.size_alloc, World.size_drew, World.size_setCell]); omega) _ _).base (base' := w.heap.size) (by omega), (below_set2 bel (show w.heap.size ≤ w.heap.size by omega) _ _)⟩
end Go.Proofs.Ytfcgijnfiiaepaa
