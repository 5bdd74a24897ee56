/- Contracts of spec's l2Any. -/
import Derived.Test.YtfcgijnfiiaepaaGreatDoorCurDraw
namespace Go.Proofs.YtfcgijnfiiaepaaGreatDoor
set_option linter.unusedSimpArgs false
set_option linter.unusedVariables false
open Go.RowKit

theorem pow_pos_le {n : Nat} (h : n ≤ 5) : 1 ≤ 2 ^ n ∧ 2 ^ n ≤ 32 := ⟨Nat.pow_pos (by decide), Nat.le_trans (Nat.pow_le_pow_right (by decide : 0 < 2) h) (by decide)⟩
set_option maxRecDepth 40000 in
set_option maxHeartbeats 2000000 in
theorem c_l2Any (g : Nat) (w : World) (f : Cur 85 w g) :
    Calls Tryz.prog 59 #[.pointer (some ⟨g, 0, none⟩)] w (RetAny 85 3 g w) := by
  have hgs := f.lt
  have fr := FBox.new w 26 0 none 0 0
  go_enter Tryz.func59, Tryz.ntmps59
  go_wp2_with fail
  refine (c_l2Draw g 4 _ (f.alloc _) (by decide)).mono ?_
  rintro e w1 ⟨n, a, c, xs, hn, hl, rfl, ho, f1, hg1⟩
  have hlen := pow_pos_le (show n ≤ 5 by omega)
  rw [← hl] at hlen
  clear hl f
  replace fr := fr.cur hg1 (by omega)
  have hg := grownBy_trans (grownBy_alloc w (.cells #[.int .i64 0, .slice none 0 0] 26) (some g)) hg1
  have hlt1 := fr.lt
  have HOR := Lib.hid ho.range
  have fv := FBox.new w1 26 (n : Int) a xs.length c
  replace fr := fr.alloc (.cells #[.int .i64 (n : Int), .slice a xs.length c] 26)
  replace ho := (ho.base (base' := w.heap.size + 1) (by simp)).alloc (.cells #[.int .i64 (n : Int), .slice a xs.length c] 26)
  have f := f1.alloc (.cells #[.int .i64 (n : Int), .slice a xs.length c] 26)
  replace hg := grownBy_trans hg (grownBy_alloc w1 (.cells #[.int .i64 (n : Int), .slice a xs.length c] 26) (some g))
  clear f1 hg1
  go_wp2_with fail
  refine (c_l1Below g _ _ f (by decide) (by decide)).mono ?_
  rintro e w2 ⟨x, rfl, hx0, hx1, f2, hg2⟩
  clear f
  have f := f2
  clear f2
  replace ho := ho.cur hg2 (by omega)
  replace fr := fr.cur hg2 (by omega)
  replace fv := fv.cur hg2 (by omega)
  replace hg := grownBy_trans hg hg2
  clear hg2
  have hx : x = 0 ∨ x = 1 ∨ 2 ≤ x := by omega
  clear hx0 hx1
  rcases hx with rfl | rfl | hx
  · have hin : ∀ y ∈ [(-1 : Int), 6, 5, 0, 9223372036854775807], -9223372036854775808 ≤ y ∧ y ≤ 9223372036854775807 := by decide
    have hlit := OwnI.lit w2 w2.heap.size 3 .i64 [(-1 : Int), 6, 5, 0, 9223372036854775807] (Nat.le_refl _) (by decide)
    have HIN := Lib.hid hin
    clear hin
    go_wp2_with fail
    refine (c_l1PickInt g _ _ _ _ _ (f.alloc _) hlit.row (fun ad e => by cases e; have := f.lt; show w2.heap.size ≠ g; omega) (by decide) (by decide)).mono ?_
    rintro e w3 ⟨y, hy, rfl, f3, hg3⟩
    have hyb := HIN.out y hy
    have HYB := Lib.hid hyb
    clear hy HIN hlit hyb f
    replace ho := (ho.alloc (.cells #[.int .i64 (-1), .int .i64 6, .int .i64 5, .int .i64 0, .int .i64 9223372036854775807] 3)).cur hg3 (by omega)
    replace fr := (fr.alloc (.cells #[.int .i64 (-1), .int .i64 6, .int .i64 5, .int .i64 0, .int .i64 9223372036854775807] 3)).cur hg3 (by omega)
    replace fv := (fv.alloc (.cells #[.int .i64 (-1), .int .i64 6, .int .i64 5, .int .i64 0, .int .i64 9223372036854775807] 3)).cur hg3 (by omega)
    replace hg := grownBy_trans hg (grownBy_trans (grownBy_alloc w2 _ (some g)) hg3)
    clear hg3
    have kv0 := fv.c0
    have kv1 := fv.c1
    have kvf := fv.free
    have hsz3 : w1.heap.size < w3.heap.size := fv.lt
    have nz1 : w1.heap.size ≠ w.heap.size := by omega
    have nz2 : w.heap.size ≠ w1.heap.size := by omega
    have hrange : ∀ j, (Value.slice a xs.length c).ownBlock = some j → w.heap.size ≤ j ∧ j < w1.heap.size := fun j h => ⟨by have := (HOR.out j h).1; simp at this; omega, (HOR.out j h).2⟩
    have ho2 := ho.setFar ⟨w1.heap.size, 0, none⟩ (.int .i64 y) (.inr (row_apart hrange (.inr (Nat.le_refl _))))
    have f2 := f3.grown (grownBy_set w3 ⟨w1.heap.size, 0, none⟩ (.int .i64 y)) (fun j e => by have e2 : w1.heap.size = j := Option.some.inj e; omega)
    have hg2 := grownBy_own hg (grownBy_set w3 ⟨w1.heap.size, 0, none⟩ (.int .i64 y)) (fun j e => by have e2 : w1.heap.size = j := Option.some.inj e; omega)
    have kr0 := fr.c0
    have kr1 := fr.c1
    have krf := fr.free
    have hlt3 := fr.lt
    have HRG := Lib.hid hrange
    clear hrange
    go_wp2_with fail
    refine bodyPost_ret (v := .agg #[.int .i64 y, .slice a xs.length c]) (by simp [results, Tryz.results59, go_sem, kr0, kr1, krf, kv0, kv1, kvf, nz1, nz2]) rfl ?_
    exact ⟨y, a, c, xs, HYB.out, hlen.1, hlen.2, rfl, (own_set2 ho2 (Nat.lt_succ_self _) _ _).base (Nat.le_succ _), cur_far2 f2 hgs _ _, grownBy_far2 hg2 _ (Nat.le_refl _) _ _⟩
  · have hlit0 := OwnI.lit w2.drew w2.heap.size 3 .i64 [(1 : Int), -1, 1001, -9223372036854775808, 1000] (Nat.le_refl _) (by decide)
    have HLIT := Lib.hid hlit0
    clear hlit0
    have kv1 := fv.c1
    have hlt2 := fv.lt
    have fd := f.drew
    have hod := ho.drew
    have frd := fr.drew
    have fvd := fv.drew
    have hgd := grownBy_drew hg
    obtain ⟨b, off, rfl, hblt, hcell⟩ := ho.row.at_ (by omega)
    obtain ⟨rfl, hsp, hbb, hbl⟩ := ho.off
    have hb1 : b < w1.heap.size := (HOR.out b rfl).2
    simp only at hbb hbl
    have hi0 : (0 : Int) < (xs.length : Int) := by omega
    have hi1 : 0 < xs.length := by omega
    have nz1 : w1.heap.size ≠ b := by omega
    have nz2 : b ≠ w1.heap.size := by omega
    clear hcell ho f fr fv hg hsp
    go_wp2_with fail
    go_region_held3 (fun w' => w'.cell? ⟨w1.heap.size, 1, none⟩ = some (.slice (some ⟨b, 0, none⟩) xs.length c)) (go_keep)
      (first
        | (go_at_call 80; refine (c_l1PickInt g _ _ _ _ _ (fd.alloc _) HLIT.out.row (fun ad e => by cases e; have := fd.lt; show w2.heap.size ≠ g; simp at this; omega) (by decide) (by decide)).mono ?_; rintro e w3 ⟨y, hy, rfl, f3, hg3⟩; have fv3 := (fvd.alloc (.cells #[.int .i64 1, .int .i64 (-1), .int .i64 1001, .int .i64 (-9223372036854775808), .int .i64 1000] 3)).cur hg3 (by omega); have kv13 := fv3.c1; have ho3 := (hod.alloc (.cells #[.int .i64 1, .int .i64 (-1), .int .i64 1001, .int .i64 (-9223372036854775808), .int .i64 1000] 3)).cur hg3 (by omega); have hfr3 := ho3.free 0; have kc3 := ho3.cell (j := 0) hi1))
    all_goals
      clear kc3 hfr3 kv13 kv1 HLIT
      have nz3 : w.heap.size ≠ b := by omega
      have fv4 := fv3.setFar ⟨b, 0, none⟩ (.int .i64 y) nz1
      have fr4 := ((frd.alloc (.cells #[.int .i64 1, .int .i64 (-1), .int .i64 1001, .int .i64 (-9223372036854775808), .int .i64 1000] 3)).cur hg3 (by omega)).setFar ⟨b, 0, none⟩ (.int .i64 y) nz3
      have ho4 := ho3.set 0 y
      have f4 := f3.grown (grownBy_set w3 ⟨b, 0, none⟩ (.int .i64 y)) (fun j e => by have e2 : b = j := Option.some.inj e; omega)
      have hg4 := grownBy_own (grownBy_trans hgd (grownBy_trans (grownBy_alloc _ (.cells #[.int .i64 1, .int .i64 (-1), .int .i64 1001, .int .i64 (-9223372036854775808), .int .i64 1000] 3) (some g)) hg3)) (grownBy_set w3 ⟨b, 0, none⟩ (.int .i64 y)) (fun j e => by have e2 : b = j := Option.some.inj e; omega)
      have kv0 := fv4.c0
      have kv1 := fv4.c1
      have kr0 := fr4.c0
      have kr1 := fr4.c1
      have krf := fr4.free
      have hlt4 := fr4.lt
      generalize w3.setCell ⟨b, 0, none⟩ (.int .i64 y) = w5 at *
      go_wp2_with fail
      refine bodyPost_ret (v := .agg #[.int .i64 (n : Int), .slice (some ⟨b, 0, none⟩) xs.length c]) (by simp [results, Tryz.results59, go_sem, kr0, kr1, krf]) rfl ?_
      exact ⟨n, some ⟨b, 0, none⟩, c, xs.set 0 y, ⟨by omega, by omega⟩, by simpa using hlen.1, by simpa using hlen.2, by rw [List.length_set], by rw [List.length_set]; exact (own_set2 ho4 (Nat.lt_succ_self _) _ _).base (Nat.le_succ _), cur_far2 f4 hgs _ _, grownBy_far2 hg4 _ (Nat.le_refl _) _ _⟩
  · have hx0 : (x == 0) = false := by rw [beq_eq_false_iff_ne]; omega
    have hx1 : (x == 1) = false := by rw [beq_eq_false_iff_ne]; omega
    clear hx
    have kv0 := fv.c0
    have kv1 := fv.c1
    have kr0 := fr.c0
    have kr1 := fr.c1
    have krf := fr.free
    have hlt2 := fr.lt
    go_wp2_with fail
    refine bodyPost_ret (v := .agg #[.int .i64 (n : Int), .slice a xs.length c]) (by simp [results, Tryz.results59, go_sem, kr0, kr1, krf]) rfl ?_
    exact ⟨n, a, c, xs, ⟨by omega, by omega⟩, hlen.1, hlen.2, rfl, (own_set2 ho (Nat.lt_succ_self _) _ _).base (Nat.le_succ _), cur_far2 f hgs _ _, grownBy_far2 hg _ (Nat.le_refl _) _ _⟩
end Go.Proofs.YtfcgijnfiiaepaaGreatDoor
