/- Contract of l5In: is it a function, and a set of it? -/
import Derived.Test.YtfcgijnfiiaepaaFun2
namespace Go.Proofs.Ytfcgijnfiiaepaa
set_option linter.unusedSimpArgs false
set_option linter.unusedVariables false
open Go.RowKit

def in5 (n : Int) (xs : List Int) (s : Int) : Bool := isFun n xs && isSet n s
set_option maxHeartbeats 400000 in
theorem c_l5In (e0 : Int) (a : Option Addr) (n c : Nat) (xs : List Int) (s : Int) (w : World) (h : Row .i64 w a n xs) (hn : n ≤ 1048576) :
    Calls Try.prog 55 #[.agg #[.int .i64 e0, .slice a n c], .int .i64 s] w fun e w' => e = .returned (.bool (in5 e0 xs s)) ∧ Below w.heap.size w w' := by
  have bel := (Below.refl w.heap.size w).alloc (Nat.le_refl _) (.cells #[.int .i64 e0, .slice a n c] 26)
  have f := FBox.new w 26 e0 a n c
  cases hf : isFun e0 xs with
  | false =>
    have hr : in5 e0 xs s = false := by simp [in5, hf]
    rw [hr]
    clear hr
    go_enter Try.func55, Try.ntmps55
    go_wp2_with fail
    refine (c_spec_IsFunction _ _ _ _ _ _ (h.alloc _) hn).mono ?_
    rw [hf]
    rintro e w1 ⟨rfl, hb1⟩
    go_wp2
    go_ret
    exact ⟨rfl, bel.trans (hb1.mono bel.size)⟩
  | true =>
    have hq := (isFun_true hf).1
    have hr : in5 e0 xs s = isSet e0 s := by simp [in5, hf]
    rw [hr]
    clear hr
    go_enter Try.func55, Try.ntmps55
    go_wp2_with fail
    refine (c_spec_IsFunction _ _ _ _ _ _ (h.alloc _) hn).mono ?_
    rw [hf]
    rintro e w1 ⟨rfl, hb1⟩
    replace bel := bel.trans (hb1.mono bel.size)
    have k0 := (f.below hb1).c0
    go_wp2_with fail
    refine (c_l2Full _ _ (by omega) (by omega)).mono ?_
    rintro e w' ⟨rfl, rfl⟩
    go_wp2_with fail
    refine (c_l1In _ _ _ _).mono ?_
    rintro e w' ⟨rfl, rfl⟩
    rw [inB_full]
    go_wp2
    go_ret
    exact ⟨rfl, bel⟩
end Go.Proofs.Ytfcgijnfiiaepaa
