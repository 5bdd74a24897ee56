/- Contracts of the functions on vectors and lists of numbers. -/
import Derived.Test.YtfcgijnfiiaepaaGreatDoorSmall
import Derived.Test.YtfcgijnfiiaepaaGreatDoorKit
import Derived.Test.YtfcgijnfiiaepaaGreatDoorInts
namespace Go.Proofs.YtfcgijnfiiaepaaGreatDoor
set_option linter.unusedSimpArgs false
set_option linter.unusedVariables false
open Go.RowKit

/-- Every number is from lo to hi. -/
def allIn (xs : List Int) (lo hi : Int) : Bool := xs.all fun n => inB n lo hi
theorem allIn_of {xs : List Int} {lo hi : Int} (h : ∀ j, j < xs.length → inB (xs.getD j 0) lo hi = true) : allIn xs lo hi = true := by
  simp only [allIn, List.all_eq_true]
  intro x hx
  obtain ⟨j, hj, rfl⟩ := List.mem_iff_getElem.1 hx
  have := h j hj
  simpa [List.getD, List.getElem?_eq_getElem hj] using this
theorem allIn_getD {xs : List Int} {lo hi : Int} (h : allIn xs lo hi = true) (j : Nat) (hj : j < xs.length) : lo ≤ xs.getD j 0 ∧ xs.getD j 0 ≤ hi := by
  simp only [allIn, List.all_eq_true] at h
  have := inB_true.1 (h _ (List.getElem_mem hj))
  simpa [List.getD, List.getElem?_eq_getElem hj] using this
theorem allIn_false_of {xs : List Int} {lo hi : Int} (j : Nat) (hj : j < xs.length) (h : inB (xs.getD j 0) lo hi = false) : allIn xs lo hi = false := by
  cases hq : allIn xs lo hi with
  | false => rfl
  | true => have := inB_true.2 (allIn_getD hq j hj); rw [this] at h; cases h

set_option maxRecDepth 20000 in
set_option maxHeartbeats 400000 in
theorem c_areWithin (a : Option Addr) (n c : Nat) (xs : List Int) (lo hi : Int) (w : World) (h : Row .i64 w a n xs) (hn : n ≤ 1048576) :
    Calls Tryz.prog 51 #[.slice a n c, .int .i64 lo, .int .i64 hi] w fun e w' => e = .returned (.bool (allIn xs lo hi)) ∧ ∃ q, w' = w.drewN q := by
  obtain ⟨hl, hrow⟩ := h
  subst hl
  go_enter Tryz.func51, Tryz.ntmps51
  go_wp2_with fail
  go_loopw [11] (fun i wr => ∃ k : Nat, i = .int .i64 k ∧ k ≤ xs.length ∧ (∀ j, j < k → inB (xs.getD j 0) lo hi = true) ∧ ∃ q, wr = w.drewN q) (fun i _ => xs.length - (intOf i).toNat)
  case atStart => exact ⟨0, rfl, Nat.zero_le _, fun j hj => by omega, 0, rfl⟩
  case round =>
    obtain ⟨k, rfl, hk, hall, q, rfl⟩ := hrel
    have HA := Lib.hid hall; clear hall
    by_cases hlt : k < xs.length
    · obtain ⟨b, off, rfl, hblt, hc⟩ := hrow (by omega)
      have g1 := hc k hlt
      obtain ⟨x, hx⟩ : ∃ x, x = xs.getD k 0 := ⟨_, rfl⟩
      rw [← hx] at g1
      clear hc hrow
      cases hin : inB x lo hi with
      | true =>
        have HX := Lib.hid hx; clear hx
        go_wp2_with (go_at_call 50; refine (c_within _ _ _ _).mono ?_; rintro e w' ⟨rfl, rfl⟩)
        go_roundw
        case rel =>
          refine ⟨k + 1, by go_num, by omega, fun j hj => ?_, by first | exact ⟨_, rfl⟩ | exact drewN_ex _ _ _⟩
          rcases Nat.lt_or_eq_of_le (Nat.le_of_lt_succ hj) with h | rfl
          · exact HA.out j h
          · rw [← HX.out]; exact hin
        case measure => simp [intOf]; omega
      | false =>
        have hf := allIn_false_of (xs := xs) k hlt (by rw [← hx]; exact hin)
        have HF := Lib.hid hf; clear hf hx
        go_wp2_with (go_at_call 50; refine (c_within _ _ _ _).mono ?_; rintro e w' ⟨rfl, rfl⟩)
        go_ret
        exact ⟨ret_bool HF.out.symm, by first | exact ⟨_, rfl⟩ | exact drewN_ex _ _ _⟩
    · have hf : allIn xs lo hi = true := allIn_of (fun j hj => HA.out j (by omega))
      have HF := Lib.hid hf; clear hf
      go_wp2
      go_ret
      exact ⟨ret_bool HF.out.symm, _, rfl⟩
/-- A vector. -/
def vecB (xs : List Int) : Bool := decide (xs.length ≤ 5) && allIn xs (-1000) 1000
def fitB (xs ys : List Int) : Bool := vecB xs && vecB ys && decide (xs.length = ys.length)
/-- The sum of the products of the first k numbers. -/
def dotTo (xs ys : List Int) : Nat → Int
  | 0 => 0
  | k + 1 => dotTo xs ys k + xs.getD k 0 * ys.getD k 0
theorem mul_bd (x y : Int) (h1 : -1000 ≤ x ∧ x ≤ 1000) (h2 : -1000 ≤ y ∧ y ≤ 1000) : -1000000 ≤ x * y ∧ x * y ≤ 1000000 := by
  have ha : x.natAbs ≤ 1000 := by omega
  have hb : y.natAbs ≤ 1000 := by omega
  have hc : (x * y).natAbs ≤ 1000 * 1000 := by rw [Int.natAbs_mul]; exact Nat.mul_le_mul ha hb
  omega
theorem dotTo_bd (xs ys : List Int) (hx : ∀ j, j < xs.length → -1000 ≤ xs.getD j 0 ∧ xs.getD j 0 ≤ 1000) (hy : ∀ j, j < ys.length → -1000 ≤ ys.getD j 0 ∧ ys.getD j 0 ≤ 1000) :
    ∀ k, k ≤ xs.length → k ≤ ys.length → -1000000 * (k : Int) ≤ dotTo xs ys k ∧ dotTo xs ys k ≤ 1000000 * (k : Int)
  | 0, _, _ => by simp [dotTo]
  | k + 1, h1, h2 => by
    have ih := dotTo_bd xs ys hx hy k (by omega) (by omega)
    have hm := mul_bd _ _ (hx k (by omega)) (hy k (by omega))
    simp only [dotTo]
    push_cast
    omega
theorem vecB_true {xs : List Int} (h : vecB xs = true) : xs.length ≤ 5 ∧ ∀ j, j < xs.length → -1000 ≤ xs.getD j 0 ∧ xs.getD j 0 ≤ 1000 := by
  simp only [vecB, Bool.and_eq_true, decide_eq_true_eq] at h
  exact ⟨h.1, fun j hj => allIn_getD h.2 j hj⟩
/-- What PairingOf returns. -/
def pairR (xs ys : List Int) : Int := if fitB xs ys then dotTo xs ys xs.length else 0
end Go.Proofs.YtfcgijnfiiaepaaGreatDoor
