/- Contracts of areAlike and of l6Fit: two functions of sets on the same number of elements. -/
import Derived.Test.YtfcgijnfiiaepaaGreatDoorMade
namespace Go.Proofs.YtfcgijnfiiaepaaGreatDoor
set_option linter.unusedSimpArgs false
set_option linter.unusedVariables false
open Go.RowKit

/-- Two functions on the same number of elements. -/
def alikeB (n : Int) (xs : List Int) (m : Int) (ys : List Int) : Bool := isFun n xs && isFun m ys && decide (n = m)
theorem alike_true {n m : Int} {xs ys : List Int} (h : alikeB n xs m ys = true) : isFun n xs = true ∧ isFun m ys = true ∧ n = m := by
  simp only [alikeB, Bool.and_eq_true, decide_eq_true_eq] at h
  exact ⟨h.1.1, h.1.2, h.2⟩
set_option maxRecDepth 20000 in
set_option maxHeartbeats 400000 in
theorem c_areAlike (e0 : Int) (a : Option Addr) (n c : Nat) (xs : List Int) (e1 : Int) (b : Option Addr) (m d : Nat) (ys : List Int) (w : World) (h : Row .i64 w a n xs) (hn : n ≤ 1048576) (h' : Row .i64 w b m ys) (hm : m ≤ 1048576) :
    Calls Tryz.prog 38 #[.agg #[.int .i64 e0, .slice a n c], .agg #[.int .i64 e1, .slice b m d]] w fun e w' => e = .returned (.bool (alikeB e0 xs e1 ys)) ∧ Below w.heap.size w w' := by
  have bel := ((Below.refl w.heap.size w).alloc (Nat.le_refl _) (.cells #[.int .i64 e0, .slice a n c] 26)).alloc (by simp) (.cells #[.int .i64 e1, .slice b m d] 26)
  have f0 := (FBox.new w 26 e0 a n c).alloc (.cells #[.int .i64 e1, .slice b m d] 26)
  have f1 := FBox.new (w.alloc (.cells #[.int .i64 e0, .slice a n c] 26)) 26 e1 b m d
  rw [World.size_alloc] at f1
  cases hf : isFun e0 xs with
  | false =>
    have hr : alikeB e0 xs e1 ys = false := by simp [alikeB, hf]
    rw [hr]
    clear hr
    go_enter Tryz.func38, Tryz.ntmps38
    go_wp2_with fail
    refine (c_impl_IsFunction _ _ _ _ _ _ ((h.alloc _).alloc _) hn).mono ?_
    rw [hf]
    rintro e w1 ⟨rfl, hb1⟩
    go_wp2
    go_ret
    exact ⟨rfl, bel.trans (hb1.mono bel.size)⟩
  | true =>
    cases hg : isFun e1 ys with
    | false =>
      have hr : alikeB e0 xs e1 ys = false := by simp [alikeB, hg]
      rw [hr]
      clear hr
      go_enter Tryz.func38, Tryz.ntmps38
      go_wp2_with fail
      refine (c_impl_IsFunction _ _ _ _ _ _ ((h.alloc _).alloc _) hn).mono ?_
      rw [hf]
      rintro e w1 ⟨rfl, hb1⟩
      replace bel := bel.trans (hb1.mono bel.size)
      replace f1 := f1.below hb1
      have k10 := f1.c0
      have k11 := f1.c1
      go_wp2_with fail
      refine (c_impl_IsFunction _ _ _ _ _ _ (h'.below bel) hm).mono ?_
      rw [hg]
      rintro e w2 ⟨rfl, hb2⟩
      go_wp2
      go_ret
      exact ⟨rfl, bel.trans (hb2.mono bel.size)⟩
    | true =>
      have hr : alikeB e0 xs e1 ys = (e0 == e1) := by rw [alikeB, hf, hg, Bool.eq_iff_iff]; simp
      rw [hr]
      clear hr
      go_enter Tryz.func38, Tryz.ntmps38
      go_wp2_with fail
      refine (c_impl_IsFunction _ _ _ _ _ _ ((h.alloc _).alloc _) hn).mono ?_
      rw [hf]
      rintro e w1 ⟨rfl, hb1⟩
      replace bel := bel.trans (hb1.mono bel.size)
      replace f0 := f0.below hb1
      replace f1 := f1.below hb1
      have k10 := f1.c0
      have k11 := f1.c1
      go_wp2_with fail
      refine (c_impl_IsFunction _ _ _ _ _ _ (h'.below bel) hm).mono ?_
      rw [hg]
      rintro e w2 ⟨rfl, hb2⟩
      have k10 := (f1.below hb2).c0
      have k00 := (f0.below hb2).c0
      go_wp2
      go_ret
      exact ⟨rfl, bel.trans (hb2.mono bel.size)⟩
end Go.Proofs.YtfcgijnfiiaepaaGreatDoor
