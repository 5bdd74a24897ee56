/- Contracts of sizeOf and l2Size: the number of elements of a set. -/
import Derived.Test.YtfcgijnfiiaepaaGreatDoorBox
namespace Go.Proofs.YtfcgijnfiiaepaaGreatDoor
set_option linter.unusedSimpArgs false
set_option linter.unusedVariables false
open Go.RowKit

def sizeN (s : Nat) : Nat := s % 2 + s / 2 % 2 + s / 4 % 2 + s / 8 % 2 + s / 16 % 2
theorem sizeN_le (s : Nat) : sizeN s ≤ 5 := by unfold sizeN; omega
theorem sizeN_fin : ∀ (k : Fin 6) (s : Fin 32), s.val < 2 ^ k.val → sizeN s.val ≤ k.val := by decide +kernel
theorem sizeN_step {x : Nat} (h : x < 32) : sizeN x = x % 2 + sizeN (x / 2) := by unfold sizeN; omega
theorem c_l2Size (s : Nat) (w : World) (hs : s < 32) :
    Calls Tryz.prog 91 #[.int .i64 s] w fun e w' => e = .returned (.int .i64 (sizeN s)) ∧ w = w' := by
  have h5 := sizeN_le s
  go_enter Tryz.func91, Tryz.ntmps91
  go_wp2_with fail
  go_loopw [3, 4] (fun v i wr => ∃ x k : Nat, i = .int .i64 x ∧ v = .int .i64 k ∧ x ≤ s ∧ k + sizeN x = sizeN s ∧ wr = w) (fun _ i _ => (intOf i).toNat)
  case atStart => exact ⟨s, 0, rfl, rfl, Nat.le_refl _, Nat.zero_add _, rfl⟩
  case round =>
    obtain ⟨x, k, rfl, rfl, hx, hk, rfl⟩ := hrel
    have hand := and1 (x : Int) (by omega) (by omega)
    by_cases h0 : 0 < x
    · have hst := sizeN_step (x := x) (by omega)
      have hi : (0 : Int) < (x : Int) := by omega
      have hkk : k + x % 2 + sizeN (x / 2) = sizeN s := by omega
      have hxx : x / 2 ≤ s := by omega
      have hw : IntKind.i64.wrap ((k : Int) + (x : Int) % 2) = (k : Int) + (x : Int) % 2 := IntWalk.i64_in _ (by omega)
      have HKK := Lib.hid hkk
      clear hst hkk hk
      go_wp2
      go_roundw
      case rel => exact ⟨x / 2, k + x % 2, by first | rfl | (congr 1; omega), by first | rfl | (congr 1; omega), hxx, HKK.out, by first | rfl | trivial⟩
      case measure => simp [intOf]; omega
    · obtain rfl : x = 0 := by omega
      have hkk : k = sizeN s := by have : sizeN 0 = 0 := rfl; omega
      subst hkk
      go_wp2
      go_ret
      exact ⟨rfl, rfl⟩
end Go.Proofs.YtfcgijnfiiaepaaGreatDoor
