/- Contracts of the functions that read a function of sets: IsGrounded, ValueOf, GainOf, EqualFunctions. -/
import Derived.Test.YtfcgijnfiiaepaaDoorFun
namespace Go.Proofs.YtfcgijnfiiaepaaDoor
set_option linter.unusedSimpArgs false
set_option linter.unusedVariables false
open Go.RowKit

theorem isFun_pos {n : Int} {xs : List Int} (h : isFun n xs = true) : 0 < xs.length := by
  rw [(isFun_true h).2.1]; exact Nat.pow_pos (by decide)
theorem isFun_le {n : Int} {xs : List Int} (h : isFun n xs = true) : xs.length ≤ 32 := by
  obtain ⟨⟨h0, h1⟩, hl, _⟩ := isFun_true h
  have : n.toNat = 0 ∨ n.toNat = 1 ∨ n.toNat = 2 ∨ n.toNat = 3 ∨ n.toNat = 4 ∨ n.toNat = 5 := by omega
  rcases this with h | h | h | h | h | h <;> rw [h] at hl <;> omega
theorem isSet_lt {n : Int} {xs : List Int} {k : Nat} (hl : xs.length = 2 ^ n.toNat) (h : (k : Int) < 2 ^ n.toNat) : k < xs.length := by
  rw [hl]; exact_mod_cast h
theorem two_pow_lt5 (j : Nat) (h : j < 5) : 2 ^ j ≤ 16 := by
  have : j = 0 ∨ j = 1 ∨ j = 2 ∨ j = 3 ∨ j = 4 := by omega
  rcases this with rfl | rfl | rfl | rfl | rfl <;> decide
theorem or_lt {n : Int} {xs : List Int} {k j : Nat} (h : isFun n xs = true) (hk : k < xs.length) (hj : (j : Int) < n) : k ||| 2 ^ j < xs.length := by
  obtain ⟨⟨h0, h1⟩, hl, _⟩ := isFun_true h
  rw [hl] at hk ⊢
  exact Nat.or_lt_two_pow hk (Nat.pow_lt_pow_right (by decide) (by omega))
/-- A shift of 1 by a small count, in the walk's forms. -/
theorem shl_facts (j p : Nat) (hp : p = 2 ^ j) (hj : j < 60) : IntKind.u64.wrap (j : Int) = j ∧ IntKind.i64.wrap (2 ^ j) = (p : Int) ∧ wrap64 (2 ^ j) = (p : Int) := by
  have hlt : p < 2 ^ 60 := by rw [hp]; exact Nat.pow_lt_pow_right (by decide) hj
  have hc : (2 : Int) ^ j = (p : Int) := by rw [hp]; push_cast; rfl
  have hw : IntKind.i64.wrap (p : Int) = p := IntWalk.i64_in _ (by omega)
  refine ⟨IntWalk.u64_in _ (by omega), ?_, ?_⟩
  · rw [hc, hw]
  · rw [hc]; exact IntWalk.wrap64_in _ (by omega)
/-- What IsGrounded returns. -/
def groundB (n : Int) (xs : List Int) : Bool := isFun n xs && (xs.getD 0 0 == 0)
/-- What ValueOf returns. -/
def valR (n : Int) (xs : List Int) (s : Int) : Int := if isFun n xs && isSet n s then xs.getD s.toNat 0 else -9999
/-- What an element adds to a set. -/
def gainL (xs : List Int) (k e : Nat) : Int := xs.getD (k ||| 2 ^ e) 0 - xs.getD k 0
/-- What GainOf returns. -/
def gainR (n : Int) (xs : List Int) (s e : Int) : Int := if isFun n xs && isSet n s && inB e 0 (n - 1) then gainL xs s.toNat e.toNat else -9999
/-- What EqualFunctions returns. -/
def sameF (n : Int) (xs : List Int) (m : Int) (ys : List Int) : Bool := decide (n = m) && eqL xs ys
end Go.Proofs.YtfcgijnfiiaepaaDoor
