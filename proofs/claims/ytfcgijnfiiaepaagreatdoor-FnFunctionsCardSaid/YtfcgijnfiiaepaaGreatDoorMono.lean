/- Contracts of IsIncreasing, both packages. -/
import Derived.Test.YtfcgijnfiiaepaaGreatDoorFun2
namespace Go.Proofs.YtfcgijnfiiaepaaGreatDoor
set_option linter.unusedSimpArgs false
set_option linter.unusedVariables false
open Go.RowKit

/-- What IsIncreasing returns. -/
def incB (n : Int) (xs : List Int) : Bool := isFun n xs && (List.range xs.length).all fun k => (List.range n.toNat).all fun e => decide (0 ≤ gainL xs k e)
theorem inc_yes {n : Int} {xs : List Int} (h : isFun n xs = true) (hk : ∀ k, k < xs.length → ∀ e : Nat, (e : Int) < n → 0 ≤ gainL xs k e) : incB n xs = true := by
  simp only [incB, h, Bool.true_and, List.all_eq_true, List.mem_range, decide_eq_true_eq]
  exact fun k hk' e he => hk k hk' e (by omega)
theorem inc_no {n : Int} {xs : List Int} {k e : Nat} (hk : k < xs.length) (he : (e : Int) < n) (h : gainL xs k e < 0) : incB n xs = false := by
  cases hq : incB n xs with
  | false => rfl
  | true =>
    simp only [incB, Bool.and_eq_true, List.all_eq_true, List.mem_range, decide_eq_true_eq] at hq
    have := hq.2 k hk e (by omega)
    omega
end Go.Proofs.YtfcgijnfiiaepaaGreatDoor
