/- Contracts of the functions on sets that are numbers. -/
import Derived.Test.YtfcgijnfiiaepaaDoorSmall
import Derived.Test.YtfcgijnfiiaepaaDoorKit
import Derived.Test.YtfcgijnfiiaepaaDoorInts
namespace Go.Proofs.YtfcgijnfiiaepaaDoor
set_option linter.unusedSimpArgs false
set_option linter.unusedVariables false
open Go.RowKit

/-- s is a set of n elements. -/
def isSet (n s : Int) : Bool := decide (0 ≤ s) && decide (s < 2 ^ n.toNat)
theorem isSet_true {n s : Int} : isSet n s = true ↔ 0 ≤ s ∧ s < 2 ^ n.toNat := by simp [isSet]
def bitB (s : Int) (e : Nat) : Bool := decide (s / 2 ^ e % 2 = 1)
theorem and1 (x : Int) (h0 : 0 ≤ x) (h1 : x < 9223372036854775808) : bits .and .i64 x 1 = x % 2 := by
  obtain ⟨a, rfl⟩ := Int.eq_ofNat_of_zero_le h0
  have := i64_and_nat a 1 (by omega) (by omega)
  rw [Nat.and_one_is_mod] at this
  exact this
theorem inB_full (n s : Int) : inB s 0 (2 ^ n.toNat - 1) = isSet n s := by
  rw [Bool.eq_iff_iff, inB_true, isSet_true]; omega
/-- The elements below k of the set s, in ascending order. -/
def elemsTo (s : Int) (k : Nat) : List Int := ((List.range k).filter (bitB s)).map fun (e : Nat) => (e : Int)
def elems (s : Int) : List Int := elemsTo s 10
theorem elemsTo_succ_yes (s : Int) (k : Nat) (h : bitB s k = true) : elemsTo s (k + 1) = elemsTo s k ++ [(k : Int)] := by
  simp [elemsTo, List.range_succ, List.filter_append, List.filter_cons, h]
theorem elemsTo_succ_no (s : Int) (k : Nat) (h : bitB s k = false) : elemsTo s (k + 1) = elemsTo s k := by
  simp [elemsTo, List.range_succ, List.filter_append, List.filter_cons, h]
theorem elemsTo_le (s : Int) (k : Nat) : (elemsTo s k).length ≤ k := by
  unfold elemsTo
  rw [List.length_map]
  exact Nat.le_trans (List.length_filter_le _ _) (by simp)
theorem div_pow_zero (s : Int) (k j : Nat) (hk : k ≤ j) (h : s / 2 ^ k = 0) : s / 2 ^ j = 0 := by
  obtain ⟨d, rfl⟩ := Nat.le.dest hk
  rw [Int.pow_add, ← Int.ediv_ediv_of_nonneg (Int.le_of_lt (Int.pow_pos (by decide))), h, Int.zero_ediv]
theorem elemsTo_stop (s : Int) (k : Nat) (h : s / 2 ^ k = 0) : ∀ d, elemsTo s (k + d) = elemsTo s k
  | 0 => rfl
  | d + 1 => by
    rw [← Nat.add_assoc, elemsTo_succ_no s (k + d) (by simp [bitB, div_pow_zero s k (k + d) (by omega) h]), elemsTo_stop s k h d]
theorem elems_stop (s : Int) (k : Nat) (hk : k ≤ 10) (h : s / 2 ^ k = 0) : elemsTo s k = elems s := by
  obtain ⟨d, hd⟩ := Nat.le.dest hk
  rw [elems, ← hd, elemsTo_stop s k h d]
theorem div_pow_bd (s : Int) (k : Nat) (h0 : 0 ≤ s) (h1 : s < 1024) : 0 ≤ s / 2 ^ k ∧ s / 2 ^ k < 1024 := by
  have hp : (0 : Int) < 2 ^ k := Int.pow_pos (by decide)
  exact ⟨Int.ediv_nonneg h0 (by omega), Int.lt_of_le_of_lt (Int.ediv_le_self _ h0) h1⟩
theorem div_pow_10 (s : Int) (h0 : 0 ≤ s) (h1 : s < 1024) : s / 2 ^ 10 = 0 := Int.ediv_eq_zero_of_lt h0 (by omega)

theorem two_pow_le (n : Nat) (h : n ≤ 10) : (2 : Int) ^ n ≤ 1024 := by
  have : n = 0 ∨ n = 1 ∨ n = 2 ∨ n = 3 ∨ n = 4 ∨ n = 5 ∨ n = 6 ∨ n = 7 ∨ n = 8 ∨ n = 9 ∨ n = 10 := by omega
  rcases this with rfl | rfl | rfl | rfl | rfl | rfl | rfl | rfl | rfl | rfl | rfl <;> decide
/-- What ElementsOf returns. -/
def elementsR (n s : Int) : List Int := if inB n 0 10 && isSet n s then elems s else []
end Go.Proofs.YtfcgijnfiiaepaaDoor
