/- Contracts of the laws' own sameInts and has. -/
import Derived.Test.YtfcgijnfiiaepaaGreatDoorFun2
namespace Go.Proofs.YtfcgijnfiiaepaaGreatDoor
set_option linter.unusedSimpArgs false
set_option linter.unusedVariables false
open Go.RowKit

set_option maxRecDepth 20000 in
set_option maxHeartbeats 400000 in
theorem c_sameInts (a b : Option Addr) (n m c d : Nat) (xs ys : List Int) (w : World) (hx : Row .i64 w a n xs) (hy : Row .i64 w b m ys) (hn : n ≤ 1048576) (hm : m ≤ 1048576) :
    Calls Tryz.prog 33 #[.slice a n c, .slice b m d] w fun e w' => e = .returned (.bool (eqL xs ys)) ∧ ∃ q, w' = w.drewN q := by
  obtain ⟨hl, hrow⟩ := hx
  obtain ⟨hl', hrow'⟩ := hy
  subst hl hl'
  by_cases hne : xs.length = ys.length
  · have hq : ((xs.length : Int) != (ys.length : Int)) = false := by rw [bne_eq_false_iff_eq]; omega
    have HN := Lib.hid hne; clear hne
    go_enter Tryz.func33, Tryz.ntmps33
    go_wp2
    go_loopw [5] (fun i wr => ∃ k : Nat, i = .int .i64 k ∧ k ≤ xs.length ∧ (∀ j, j < k → xs.getD j 0 = ys.getD j 0) ∧ ∃ q, wr = w.drewN q) (fun i _ => xs.length - (intOf i).toNat)
    case atStart => exact ⟨0, rfl, Nat.zero_le _, fun j hj => by omega, 0, rfl⟩
    case round =>
      obtain ⟨k, rfl, hk, hall, q, rfl⟩ := hrel
      have HA := Lib.hid hall; clear hall
      by_cases hlt : k < xs.length
      · have hlt' : k < ys.length := by have := HN.out; omega
        obtain ⟨b1, off1, rfl, hb1, hc1⟩ := hrow (by omega)
        obtain ⟨b2, off2, rfl, hb2, hc2⟩ := hrow' (by omega)
        have g1 : w.cell? ⟨b1, off1 + k, none⟩ = some (.int .i64 (xs.getD k 0)) := hc1 k hlt
        have g2 : w.cell? ⟨b2, off2 + k, none⟩ = some (.int .i64 (ys.getD k 0)) := hc2 k hlt'
        have hi0 : (0 : Int) ≤ k := by omega
        have hi1 : (k : Int) < (xs.length : Int) := by omega
        have hi2 : (k : Int) < (ys.length : Int) := by omega
        clear hc1 hc2 hrow hrow'
        obtain ⟨x, hx⟩ : ∃ x, x = xs.getD k 0 := ⟨_, rfl⟩
        obtain ⟨y, hy⟩ : ∃ y, y = ys.getD k 0 := ⟨_, rfl⟩
        rw [← hx] at g1
        rw [← hy] at g2
        by_cases heq : x = y
        · have ht : (x != y) = false := by rw [bne_eq_false_iff_eq]; exact heq
          have HE := Lib.hid (hx.symm.trans (heq.trans hy))
          clear hx hy heq
          go_wp2_with fail
          go_quiet (fail)
          go_wp2
          go_roundw
          case rel =>
            refine ⟨k + 1, by go_num, by omega, fun j hj => ?_, by first | exact ⟨_, rfl⟩ | exact drewN_ex _ _ _⟩
            rcases Nat.lt_or_eq_of_le (Nat.le_of_lt_succ hj) with h | rfl
            · exact HA.out j h
            · exact HE.out
          case measure => simp [intOf]; omega
        · have ht : (x != y) = true := by rw [bne_iff_ne]; exact heq
          have hf := eqL_false_of (xs := xs) (ys := ys) k (by rw [← hx, ← hy]; exact heq)
          have HF := Lib.hid hf; clear hf heq hx hy
          go_wp2_with fail
          go_quiet (fail)
          go_wp2
          go_ret
          exact ⟨ret_bool HF.out.symm, drewN_ex _ _ _⟩
      · have hf : eqL xs ys = true := eqL_of_getD HN.out (fun j hj => HA.out j (by omega))
        have HF := Lib.hid hf; clear hf
        go_wp2
        go_ret
        exact ⟨ret_bool HF.out.symm, _, rfl⟩
  · have hq : ((xs.length : Int) != (ys.length : Int)) = true := by rw [bne_iff_ne]; omega
    have hf := eqL_false_len hne
    have HF := Lib.hid hf; clear hf hne
    go_enter Tryz.func33, Tryz.ntmps33
    go_wp2
    go_ret
    exact ⟨ret_bool HF.out.symm, 0, rfl⟩
theorem c_sameInts_self (a b : Option Addr) (n m c d : Nat) (xs : List Int) (w : World) (hx : Row .i64 w a n xs) (hy : Row .i64 w b m xs) (hn : n ≤ 1048576) (hm : m ≤ 1048576) :
    Calls Tryz.prog 33 #[.slice a n c, .slice b m d] w fun e w' => e = .returned (.bool true) ∧ Below w.heap.size w w' := by
  refine (c_sameInts _ _ _ _ _ _ _ _ _ hx hy hn hm).mono ?_
  rintro e w' ⟨rfl, q, rfl⟩
  exact ⟨by rw [eqL_true.2 rfl], below_drewN (Below.refl _ _) _⟩
end Go.Proofs.YtfcgijnfiiaepaaGreatDoor
