/- Contracts of weightOf and l3Weigh: the sum of the numbers of the elements of a set. -/
import Derived.Test.YtfcgijnfiiaepaaGreatDoorFun2
namespace Go.Proofs.YtfcgijnfiiaepaaGreatDoor
set_option linter.unusedSimpArgs false
set_option linter.unusedVariables false
open Go.RowKit

def weighTo (ws : List Int) (s : Nat) : Nat → Int
  | 0 => 0
  | k + 1 => if bitB (s : Int) k then weighTo ws s k + ws.getD k 0 else weighTo ws s k
def weigh (ws : List Int) (s : Nat) : Int := weighTo ws s ws.length
theorem weighTo_yes {ws : List Int} {s k : Nat} (h : bitB (s : Int) k = true) : weighTo ws s (k + 1) = weighTo ws s k + ws.getD k 0 := by rw [weighTo, if_pos h]
theorem weighTo_no {ws : List Int} {s k : Nat} (h : bitB (s : Int) k = false) : weighTo ws s (k + 1) = weighTo ws s k := by rw [weighTo, if_neg (by simp [h])]
theorem weighTo_bd {ws : List Int} {s : Nat} (hx : ∀ j, j < ws.length → -1000 ≤ ws.getD j 0 ∧ ws.getD j 0 ≤ 1000) : ∀ k : Nat, k ≤ ws.length → -1000 * (k : Int) ≤ weighTo ws s k ∧ weighTo ws s k ≤ 1000 * (k : Int)
  | 0, _ => by simp [weighTo]
  | k + 1, h => by
    have h1 := weighTo_bd (s := s) hx k (by omega)
    have h2 := hx k (by omega)
    rw [weighTo]
    split <;> omega
theorem weigh_bd {ws : List Int} (s : Nat) (h5 : ws.length ≤ 5) (hx : ∀ j, j < ws.length → -1000 ≤ ws.getD j 0 ∧ ws.getD j 0 ≤ 1000) : -5000 ≤ weigh ws s ∧ weigh ws s ≤ 5000 := by
  have := weighTo_bd (s := s) hx ws.length (Nat.le_refl _)
  rw [weigh]
  omega
theorem bit_facts1 (s i : Nat) (hs : s < 4294967296) : bits .and .i64 ((s : Int) / 2 ^ i) 1 = (s : Int) / 2 ^ i % 2 ∧ ((s : Int) / 2 ^ i % 2 == 1) = bitB (s : Int) i := by
  have h0 : (0 : Int) ≤ (s : Int) / 2 ^ i := Int.ediv_nonneg (by omega) (Int.le_of_lt (Int.pow_pos (by decide)))
  have h1 : (s : Int) / 2 ^ i ≤ (s : Int) := Int.ediv_le_self _ (by omega)
  refine ⟨and1 _ h0 (by omega), ?_⟩
  rw [bitB]
  generalize (s : Int) / 2 ^ i = x at *
  rw [Bool.eq_iff_iff]
  simp
end Go.Proofs.YtfcgijnfiiaepaaGreatDoor
