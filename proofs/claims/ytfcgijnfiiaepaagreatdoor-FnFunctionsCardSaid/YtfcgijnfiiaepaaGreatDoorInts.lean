/- Contracts of the laws' helpers on slices of integers (copy, compare, mark), and of the functions that look at each number. -/
import Derived.Test.YtfcgijnfiiaepaaGreatDoorSmall
import Derived.Test.YtfcgijnfiiaepaaGreatDoorKit
namespace Go.Proofs.YtfcgijnfiiaepaaGreatDoor
set_option linter.unusedSimpArgs false
set_option linter.unusedVariables false
open Go.RowKit

theorem EI : IntElem Tryz.prog 24 3 .i64 8 := ⟨Tryz.underlying24, Tryz.underlying3, by kernel_rfl, by decide⟩

def eqL (xs ys : List Int) : Bool := decide (xs = ys)
theorem eqL_true {xs ys : List Int} : eqL xs ys = true ↔ xs = ys := by simp [eqL]
theorem eqL_of_getD {xs ys : List Int} (hl : xs.length = ys.length) (h : ∀ j, j < xs.length → xs.getD j 0 = ys.getD j 0) : eqL xs ys = true := by
  rw [eqL_true]
  apply List.ext_getElem hl
  intro j h1 h2
  have := h j h1
  simpa [List.getD, List.getElem?_eq_getElem h1, List.getElem?_eq_getElem h2] using this
theorem eqL_false_of {xs ys : List Int} (j : Nat) (h : xs.getD j 0 ≠ ys.getD j 0) : eqL xs ys = false := by
  cases hq : eqL xs ys with
  | false => rfl
  | true => rw [eqL_true] at hq; subst hq; exact absurd rfl h
theorem eqL_false_len {xs ys : List Int} (h : xs.length ≠ ys.length) : eqL xs ys = false := by
  cases hq : eqL xs ys with
  | false => rfl
  | true => rw [eqL_true] at hq; subst hq; exact absurd rfl h

/-- The numbers k, k+1, .. that a marking writes. -/
def marks (k : Int) (n : Nat) : List Int := (List.range n).map fun (j : Nat) => k + (j : Int)
theorem marks_length (k : Int) (n : Nat) : (marks k n).length = n := by simp [marks]
theorem marks_getD (k : Int) (n j : Nat) (h : j < n) : (marks k n).getD j 0 = k + j := by simp [marks, List.getD, h]
/-- A list whose first j numbers have been replaced by marks. -/
def markL (xs : List Int) (k : Int) (j : Nat) : List Int := marks k j ++ xs.drop j
theorem markL_length (xs : List Int) (k : Int) (j : Nat) (h : j ≤ xs.length) : (markL xs k j).length = xs.length := by
  simp [markL, marks_length]; omega
theorem markL_zero (xs : List Int) (k : Int) : markL xs k 0 = xs := by simp [markL, marks]
theorem markL_all (xs : List Int) (k : Int) : markL xs k xs.length = marks k xs.length := by simp [markL]
theorem markL_set (xs : List Int) (k : Int) (j : Nat) (h : j < xs.length) : (markL xs k j).set j (k + j) = markL xs k (j + 1) := by
  unfold markL
  have h2 : ¬ j < (marks k j).length := by rw [marks_length]; omega
  have h3 : j - (marks k j).length = 0 := by rw [marks_length]; omega
  rw [List.set_append, if_neg h2, h3, List.drop_eq_getElem_cons h, List.set_cons_zero]
  simp [marks, List.range_succ]

end Go.Proofs.YtfcgijnfiiaepaaGreatDoor
