/- Contracts of spec's draws of two numbers, of two functions that may be one, of a function's text. -/
import Derived.Test.YtfcgijnfiiaepaaGreatDoorCurTwo
import Derived.Test.YtfcgijnfiiaepaaGreatDoorCurStr
import Derived.Test.YtfcgijnfiiaepaaGreatDoorFmtF
import Derived.Test.YtfcgijnfiiaepaaGreatDoorLawF
namespace Go.Proofs.YtfcgijnfiiaepaaGreatDoor
set_option linter.unusedSimpArgs false
set_option linter.unusedVariables false
open Go.RowKit

def DrS (w : World) (e : Ending) (w' : World) : Prop := ∃ s : ByteArray, e = .returned (.string s) ∧ s.size ≤ 1000 ∧ Below w.heap.size w w'
set_option maxRecDepth 40000 in
set_option maxHeartbeats 1000000 in
theorem c_DrawElementsOf (a : Option Addr) (n c : Nat) (z : List Int) (w : World) (h : Row .u8 w a n z) (hn : n ≤ 1048576) :
    Calls Tryz.prog 29 #[.slice a n c] w (DrII 3 w) := by
  go_enter Tryz.func29, Tryz.ntmps29
  go_wp2_with fail
  refine (c_l1New _ _ _ _ _ h hn).mono ?_
  rintro e w1 ⟨g, rfl, hg, f, hb⟩
  go_wp2_with fail
  refine (c_l1Below g _ _ f (by decide) (by decide)).mono ?_
  rintro e w2 ⟨x, rfl, hx0, hx1, f2, hg2⟩
  have bel := below_cur hb hg2 hg hb.size
  have hwx : IntKind.i64.wrap (x - 1) = x - 1 := IntWalk.i64_in _ (by omega)
  clear hx0 hx1 f hb
  go_wp2_with fail
  refine (c_l1Below g _ _ f2 (by decide) (by decide)).mono ?_
  rintro e w3 ⟨y, rfl, hy0, hy1, f3, hg3⟩
  have bel3 := below_cur bel hg3 hg bel.size
  have hwy : IntKind.i64.wrap (y - 1) = y - 1 := IntWalk.i64_in _ (by omega)
  clear hy0 hy1
  go_wp2_with fail
  refine bodyPost_ret (v := .tuple #[.int .i64 (x - 1), .int .i64 (y - 1)]) (by simp [results, Tryz.results29, go_sem]) rfl ?_
  exact ⟨_, _, rfl, bel3⟩
set_option maxRecDepth 40000 in
set_option maxHeartbeats 2000000 in
theorem c_DrawEqualFunctions (a : Option Addr) (n c : Nat) (z : List Int) (w : World) (h : Row .u8 w a n z) (hn : n ≤ 1048576) :
    Calls Tryz.prog 28 #[.slice a n c] w (DrFF 3 w) := by
  have bel := Below.refl w.heap.size w
  have r1 := FBox.new w 26 0 none 0 0
  replace bel := bel.alloc bel.size (.cells #[.int .i64 0, .slice none 0 0] 26)
  have r2 := FBox.new (w.alloc (.cells #[.int .i64 0, .slice none 0 0] 26)) 26 0 none 0 0
  rw [World.size_alloc] at r2
  replace r1 := r1.alloc (.cells #[.int .i64 0, .slice none 0 0] 26)
  replace bel := bel.alloc bel.size (.cells #[.int .i64 0, .slice none 0 0] 26)
  go_enter Tryz.func28, Tryz.ntmps28
  go_wp2_with fail
  refine (c_l1New _ _ _ _ _ (h.below bel) hn).mono ?_
  rintro e w1 ⟨g, rfl, hg, f, hb⟩
  (try simp only [World.size_alloc] at hg)
  replace r1 := r1.below hb
  have nr1 : g ≠ w.heap.size := by omega
  replace r2 := r2.below hb
  have nr2 : g ≠ w.heap.size + 1 := by omega
  replace bel := bel.trans (hb.mono bel.size)
  have hgB : w.heap.size ≤ g := by omega
  have lg1 := f.lt
  clear hb
  go_wp2_with fail
  refine (c_l2Any g _ f).mono ?_
  rintro e w2 ⟨m1, a1, c1, z1, hf1, hl1, hu1, rfl, ho1, f2, hg2⟩
  have hF1 : Fine m1 z1 := ⟨hf1, hl1, hu1⟩
  clear hf1 hl1 hu1
  (try simp only [World.size_alloc] at ho1)
  replace r1 := r1.cur hg2 nr1
  replace r2 := r2.cur hg2 nr2
  replace bel := below_cur bel hg2 hgB bel.size
  clear f
  have f := f2
  clear hg2 f2
  have := f.lt
  have og1 : g < w1.heap.size := by omega
  have LR1 := Lib.hid r1.lt
  have LR2 := Lib.hid r2.lt
  have v1 := FBox.new w2 26 m1 a1 z1.length c1
  have nv1 : g ≠ w2.heap.size := by have := f.lt; omega
  have lv1 := f.lt
  replace r1 := r1.alloc (.cells #[.int .i64 m1, .slice a1 z1.length c1] 26)
  replace r2 := r2.alloc (.cells #[.int .i64 m1, .slice a1 z1.length c1] 26)
  replace ho1 := ho1.alloc (.cells #[.int .i64 m1, .slice a1 z1.length c1] 26)
  replace f := f.alloc (.cells #[.int .i64 m1, .slice a1 z1.length c1] 26)
  replace bel := bel.alloc bel.size (.cells #[.int .i64 m1, .slice a1 z1.length c1] 26)
  have l12 : w.heap.size < w2.heap.size := LR1.out
  have l22 : w.heap.size + 1 < w2.heap.size := LR2.out
  have n11 : w2.heap.size ≠ w.heap.size := by omega
  have n11' : w.heap.size ≠ w2.heap.size := by omega
  have n12 : w2.heap.size ≠ w.heap.size + 1 := by omega
  have n12' : w.heap.size + 1 ≠ w2.heap.size := by omega
  go_wp2_with fail
  refine (c_l1Once g _ _ f (by decide) (by decide)).mono ?_
  rintro e w3 ⟨b, rfl, f2, hg2⟩
  replace r1 := r1.cur hg2 nr1
  replace r2 := r2.cur hg2 nr2
  replace v1 := v1.cur hg2 nv1
  replace ho1 := ho1.cur hg2 og1
  replace bel := below_cur bel hg2 hgB bel.size
  clear f
  have f := f2
  clear hg2 f2
  have := f.lt
  cases b with
  | true =>
    have k10 := v1.c0
    have k11 := v1.c1
    have p10 := r1.c0
    have p11 := r1.c1
    have p1f := r1.free
    have p20 := r2.c0
    have p21 := r2.c1
    have p2f := r2.free
    have l1 := r1.lt
    have l2 := r2.lt
    go_wp2_with fail
    go_region_held3 (fun w' => w'.cell? ⟨w2.heap.size, 0, none⟩ = some (.int .i64 m1) ∧ w'.cell? ⟨w2.heap.size, 1, none⟩ = some (.slice a1 z1.length c1)) (go_keep) (first | fail)
    all_goals
      go_wp2_with fail
      refine bodyPost_ret (v := .tuple #[.agg #[.int .i64 m1, .slice a1 z1.length c1], .agg #[.int .i64 m1, .slice a1 z1.length c1]]) (by simp [results, Tryz.results28, go_sem, p10, p11, p1f, p20, p21, p2f]) rfl ?_
      exact ⟨m1, a1, c1, z1, m1, a1, c1, z1, hF1, hF1, rfl, OwnI.drew ((own_setr (own_setr ho1 (w.heap.size) ho1.range (by (try simp only [World.size_alloc, World.size_drew, World.size_setCell]); omega) _ _) (w.heap.size + 1) ho1.range (by (try simp only [World.size_alloc, World.size_drew, World.size_setCell]); omega) _ _).base (base' := w.heap.size) (by omega)), OwnI.drew ((own_setr (own_setr ho1 (w.heap.size) ho1.range (by (try simp only [World.size_alloc, World.size_drew, World.size_setCell]); omega) _ _) (w.heap.size + 1) ho1.range (by (try simp only [World.size_alloc, World.size_drew, World.size_setCell]); omega) _ _).base (base' := w.heap.size) (by omega)), Below.drew ((below_set2 (below_set2 bel (show w.heap.size ≤ w.heap.size by omega) _ _) (show w.heap.size ≤ w.heap.size + 1 by omega) _ _))⟩
  | false =>
    have lw3 : w.heap.size + 1 < w3.heap.size := r2.lt
    replace r1 := r1.drew
    replace r2 := r2.drew
    replace v1 := v1.drew
    replace ho1 := ho1.drew
    replace bel := bel.drew
    replace f := f.drew
    have k10 := v1.c0
    have k11 := v1.c1
    have p10 := r1.c0
    have p11 := r1.c1
    have p1f := r1.free
    have p20 := r2.c0
    have p21 := r2.c1
    have p2f := r2.free
    have l1 := r1.lt
    have l2 := r2.lt
    go_wp2_with fail
    go_region_held3 (fun w' => w'.cell? ⟨w2.heap.size, 0, none⟩ = some (.int .i64 m1) ∧ w'.cell? ⟨w2.heap.size, 1, none⟩ = some (.slice a1 z1.length c1)) (go_keep)
      (first | (go_at_call 59; refine (c_l2Any g _ f).mono ?_; rintro e w4 ⟨m2, a2, c2, z2, hf2, hl2, hu2, rfl, ho2, f2, hg2⟩; have hF2 : Fine m2 z2 := ⟨hf2, hl2, hu2⟩; clear hf2 hl2 hu2; (try simp only [World.size_alloc, World.size_drew] at ho2); have HO2 := Lib.hid ho2.range; replace r1 := r1.cur hg2 nr1; replace r2 := r2.cur hg2 nr2; replace v1 := v1.cur hg2 nv1; replace ho1 := ho1.cur hg2 og1; replace bel := below_cur bel hg2 hgB bel.size; clear f; have f := f2; clear hg2 f2; have := f.lt; replace k10 := v1.c0; replace k11 := v1.c1; replace p10 := r1.c0; replace p11 := r1.c1; replace p1f := r1.free; replace p20 := r2.c0; replace p21 := r2.c1; replace p2f := r2.free))
    all_goals
      go_wp2_with fail
      refine bodyPost_ret (v := .tuple #[.agg #[.int .i64 m1, .slice a1 z1.length c1], .agg #[.int .i64 m2, .slice a2 z2.length c2]]) (by simp [results, Tryz.results28, go_sem, p10, p11, p1f, p20, p21, p2f]) rfl ?_
      exact ⟨m1, a1, c1, z1, m2, a2, c2, z2, hF1, hF2, rfl, (own_setr (own_setr ho1 (w.heap.size) ho1.range (by (try simp only [World.size_alloc, World.size_drew, World.size_setCell]); omega) _ _) (w.heap.size + 1) ho1.range (by (try simp only [World.size_alloc, World.size_drew, World.size_setCell]); omega) _ _).base (base' := w.heap.size) (by omega), (own_setr (own_setr ho2 (w.heap.size) ho2.range (by (try simp only [World.size_alloc, World.size_drew, World.size_setCell]); omega) _ _) (w.heap.size + 1) ho2.range (by (try simp only [World.size_alloc, World.size_drew, World.size_setCell]); omega) _ _).base (base' := w.heap.size) (by omega), (below_set2 (below_set2 bel (show w.heap.size ≤ w.heap.size by omega) _ _) (show w.heap.size ≤ w.heap.size + 1 by omega) _ _)⟩
set_option maxRecDepth 40000 in
set_option maxHeartbeats 1000000 in
theorem c_DrawParseFunction (a : Option Addr) (n c : Nat) (z : List Int) (w : World) (h : Row .u8 w a n z) (hn : n ≤ 1048576) :
    Calls Tryz.prog 26 #[.slice a n c] w (DrS w) := by
  go_enter Tryz.func26, Tryz.ntmps26
  go_wp2_with fail
  refine (c_l1New _ _ _ _ _ h hn).mono ?_
  rintro e w1 ⟨g, rfl, hg, f, hb⟩
  go_wp2_with fail
  refine (c_l2Any g _ f).mono ?_
  rintro e w2 ⟨m, a2, c2, zs, hm, hl1, hl2, rfl, ho, f2, hg2⟩
  have bel := below_cur hb hg2 hg hb.size
  have hsm := fmt_small m zs hl2
  clear hb f
  go_wp2_with fail
  refine (c_spec_FormatFunction _ _ _ _ _ _ ho.row (by omega)).mono ?_
  obtain ⟨s, hs⟩ : ∃ s, s = fmtFn m zs := ⟨_, rfl⟩
  rw [← hs] at hsm ⊢
  rintro e w3 ⟨rfl, hb3⟩
  have f3 := f2.below hb3
  replace bel := bel.trans (hb3.mono bel.size)
  clear hs hb3 f2 ho
  go_wp2_with fail
  refine (c_l1Once g _ _ f3 (by decide) (by decide)).mono ?_
  rintro e w4 ⟨b, rfl, f4, hg4⟩
  replace bel := below_cur bel hg4 hg bel.size
  clear f3
  cases b with
  | false =>
    go_wp2
    go_ret
    exact ⟨s, rfl, by omega, bel⟩
  | true =>
    go_wp2_with fail
    refine (c_l1Spoil g s _ f4 (by omega)).mono ?_
    rintro e w5 ⟨t, rfl, ht, f5, hg5⟩
    replace bel := below_cur bel hg5 hg bel.size
    go_wp2
    go_ret
    exact ⟨t, rfl, by omega, bel⟩
end Go.Proofs.YtfcgijnfiiaepaaGreatDoor
