/- Sums of weights are modular; no program in sight. -/
import Derived.Test.YtfcgijnfiiaepaaSubL
import Derived.Test.YtfcgijnfiiaepaaWeigh
namespace Go.Proofs.Ytfcgijnfiiaepaa
set_option linter.unusedSimpArgs false
set_option linter.unusedVariables false
open Go.RowKit

/-- Weights of sets add up. -/
theorem weighTo_or (ws : List Int) (A B : Nat) : ∀ k, weighTo ws (A ||| B) k + weighTo ws (A &&& B) k = weighTo ws A k + weighTo ws B k
  | 0 => by simp [weighTo]
  | k + 1 => by
    have ih := weighTo_or ws A B k
    simp only [weighTo, bitB_nat', Nat.testBit_or, Nat.testBit_and]
    cases A.testBit k <;> cases B.testBit k <;> simp <;> omega
theorem SubF.addm {j : Nat} {f m : Nat → Int} (h : SubF j f) (hm : ∀ A B, A < 2 ^ j → B < 2 ^ j → m (A ||| B) + m (A &&& B) = m A + m B) (c : Int) : SubF j (fun s => f s + m s + c) := fun A B hA hB => by
  have := h A B hA hB
  have := hm A B hA hB
  show f (A ||| B) + m (A ||| B) + c + (f (A &&& B) + m (A &&& B) + c) ≤ f A + m A + c + (f B + m B + c)
  omega
end Go.Proofs.Ytfcgijnfiiaepaa
