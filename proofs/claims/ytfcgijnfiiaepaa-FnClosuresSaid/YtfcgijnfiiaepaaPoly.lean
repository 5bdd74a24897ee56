/- Contracts of IsPolymatroid, both packages. -/
import Derived.Test.YtfcgijnfiiaepaaMono
import Derived.Test.YtfcgijnfiiaepaaViol2
namespace Go.Proofs.Ytfcgijnfiiaepaa
set_option linter.unusedSimpArgs false
set_option linter.unusedVariables false
open Go.RowKit

/-- What IsPolymatroid returns. -/
def polyB (n : Int) (xs : List Int) : Bool := groundB n xs && incB n xs && subB n xs
set_option maxHeartbeats 400000 in
theorem c_spec_IsPolymatroid (e0 : Int) (a : Option Addr) (n c : Nat) (xs : List Int) (w : World) (h : Row .i64 w a n xs) (hn : n ≤ 1048576) :
    Calls Try.prog 50 #[.agg #[.int .i64 e0, .slice a n c]] w fun e w' => e = .returned (.bool (polyB e0 xs)) ∧ Below w.heap.size w w' := by
  have bel := (Below.refl w.heap.size w).alloc (Nat.le_refl _) (.cells #[.int .i64 e0, .slice a n c] 26)
  have f := FBox.new w 26 e0 a n c
  cases h1 : groundB e0 xs with
  | false =>
    have hr : polyB e0 xs = false := by simp [polyB, h1]
    rw [hr]
    clear hr
    go_enter Try.func50, Try.ntmps50
    go_wp2_with fail
    refine (c_spec_IsGrounded _ _ _ _ _ _ (h.alloc _) hn).mono ?_
    rw [h1]
    rintro e w1 ⟨rfl, hb1⟩
    go_wp2
    go_ret
    exact ⟨rfl, bel.trans (hb1.mono bel.size)⟩
  | true =>
    cases h2 : incB e0 xs with
    | false =>
      have hr : polyB e0 xs = false := by simp [polyB, h2]
      rw [hr]
      clear hr
      go_enter Try.func50, Try.ntmps50
      go_wp2_with fail
      refine (c_spec_IsGrounded _ _ _ _ _ _ (h.alloc _) hn).mono ?_
      rw [h1]
      rintro e w1 ⟨rfl, hb1⟩
      replace bel := bel.trans (hb1.mono bel.size)
      replace f := f.below hb1
      have k0 := f.c0
      have k1 := f.c1
      go_wp2_with fail
      refine (c_spec_IsIncreasing _ _ _ _ _ _ (h.below bel) hn).mono ?_
      rw [h2]
      rintro e w2 ⟨rfl, hb2⟩
      go_wp2
      go_ret
      exact ⟨rfl, bel.trans (hb2.mono bel.size)⟩
    | true =>
      have hr : polyB e0 xs = subB e0 xs := by simp [polyB, h1, h2]
      rw [hr]
      clear hr
      go_enter Try.func50, Try.ntmps50
      go_wp2_with fail
      refine (c_spec_IsGrounded _ _ _ _ _ _ (h.alloc _) hn).mono ?_
      rw [h1]
      rintro e w1 ⟨rfl, hb1⟩
      replace bel := bel.trans (hb1.mono bel.size)
      replace f := f.below hb1
      have k0 := f.c0
      have k1 := f.c1
      go_wp2_with fail
      refine (c_spec_IsIncreasing _ _ _ _ _ _ (h.below bel) hn).mono ?_
      rw [h2]
      rintro e w2 ⟨rfl, hb2⟩
      replace bel := bel.trans (hb2.mono bel.size)
      replace f := f.below hb2
      have k0 := f.c0
      have k1 := f.c1
      go_wp2_with fail
      refine (c_spec_IsSubmodular _ _ _ _ _ _ (h.below bel) hn).mono ?_
      rintro e w3 ⟨rfl, hb3⟩
      go_wp2
      go_ret
      exact ⟨rfl, bel.trans (hb3.mono bel.size)⟩
set_option maxHeartbeats 400000 in
theorem c_impl_IsPolymatroid (e0 : Int) (a : Option Addr) (n c : Nat) (xs : List Int) (w : World) (h : Row .i64 w a n xs) (hn : n ≤ 1048576) :
    Calls Try.prog 52 #[.agg #[.int .i64 e0, .slice a n c]] w fun e w' => e = .returned (.bool (polyB e0 xs)) ∧ Below w.heap.size w w' := by
  have bel := (Below.refl w.heap.size w).alloc (Nat.le_refl _) (.cells #[.int .i64 e0, .slice a n c] 26)
  have f := FBox.new w 26 e0 a n c
  cases h1 : groundB e0 xs with
  | false =>
    have hr : polyB e0 xs = false := by simp [polyB, h1]
    rw [hr]
    clear hr
    go_enter Try.func52, Try.ntmps52
    go_wp2_with fail
    refine (c_impl_IsGrounded _ _ _ _ _ _ (h.alloc _) hn).mono ?_
    rw [h1]
    rintro e w1 ⟨rfl, hb1⟩
    go_wp2
    go_ret
    exact ⟨rfl, bel.trans (hb1.mono bel.size)⟩
  | true =>
    cases h2 : incB e0 xs with
    | false =>
      have hr : polyB e0 xs = false := by simp [polyB, h2]
      rw [hr]
      clear hr
      go_enter Try.func52, Try.ntmps52
      go_wp2_with fail
      refine (c_impl_IsGrounded _ _ _ _ _ _ (h.alloc _) hn).mono ?_
      rw [h1]
      rintro e w1 ⟨rfl, hb1⟩
      replace bel := bel.trans (hb1.mono bel.size)
      replace f := f.below hb1
      have k0 := f.c0
      have k1 := f.c1
      go_wp2_with fail
      refine (c_impl_IsIncreasing _ _ _ _ _ _ (h.below bel) hn).mono ?_
      rw [h2]
      rintro e w2 ⟨rfl, hb2⟩
      go_wp2
      go_ret
      exact ⟨rfl, bel.trans (hb2.mono bel.size)⟩
    | true =>
      have hr : polyB e0 xs = subB e0 xs := by simp [polyB, h1, h2]
      rw [hr]
      clear hr
      go_enter Try.func52, Try.ntmps52
      go_wp2_with fail
      refine (c_impl_IsGrounded _ _ _ _ _ _ (h.alloc _) hn).mono ?_
      rw [h1]
      rintro e w1 ⟨rfl, hb1⟩
      replace bel := bel.trans (hb1.mono bel.size)
      replace f := f.below hb1
      have k0 := f.c0
      have k1 := f.c1
      go_wp2_with fail
      refine (c_impl_IsIncreasing _ _ _ _ _ _ (h.below bel) hn).mono ?_
      rw [h2]
      rintro e w2 ⟨rfl, hb2⟩
      replace bel := bel.trans (hb2.mono bel.size)
      replace f := f.below hb2
      have k0 := f.c0
      have k1 := f.c1
      go_wp2_with fail
      refine (c_impl_IsSubmodular _ _ _ _ _ _ (h.below bel) hn).mono ?_
      rintro e w3 ⟨rfl, hb3⟩
      go_wp2
      go_ret
      exact ⟨rfl, bel.trans (hb3.mono bel.size)⟩
end Go.Proofs.Ytfcgijnfiiaepaa
