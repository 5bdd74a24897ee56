/- Contracts of weightOf and l3Weigh: the sum of the numbers of the elements of a set. -/
import Derived.Test.YtfcgijnfiiaepaaFun2
namespace Go.Proofs.Ytfcgijnfiiaepaa
set_option linter.unusedSimpArgs false
set_option linter.unusedVariables false
open Go.RowKit

def weighTo (ws : List Int) (s : Nat) : Nat → Int
  | 0 => 0
  | k + 1 => if bitB (s : Int) k then weighTo ws s k + ws.getD k 0 else weighTo ws s k
def weigh (ws : List Int) (s : Nat) : Int := weighTo ws s ws.length
theorem weighTo_yes {ws : List Int} {s k : Nat} (h : bitB (s : Int) k = true) : weighTo ws s (k + 1) = weighTo ws s k + ws.getD k 0 := by rw [weighTo, if_pos h]
theorem weighTo_no {ws : List Int} {s k : Nat} (h : bitB (s : Int) k = false) : weighTo ws s (k + 1) = weighTo ws s k := by rw [weighTo, if_neg (by simp [h])]
theorem weighTo_bd {ws : List Int} {s : Nat} (hx : ∀ j, j < ws.length → -1000 ≤ ws.getD j 0 ∧ ws.getD j 0 ≤ 1000) : ∀ k : Nat, k ≤ ws.length → -1000 * (k : Int) ≤ weighTo ws s k ∧ weighTo ws s k ≤ 1000 * (k : Int)
  | 0, _ => by simp [weighTo]
  | k + 1, h => by
    have h1 := weighTo_bd (s := s) hx k (by omega)
    have h2 := hx k (by omega)
    rw [weighTo]
    split <;> omega
theorem weigh_bd {ws : List Int} (s : Nat) (h5 : ws.length ≤ 5) (hx : ∀ j, j < ws.length → -1000 ≤ ws.getD j 0 ∧ ws.getD j 0 ≤ 1000) : -5000 ≤ weigh ws s ∧ weigh ws s ≤ 5000 := by
  have := weighTo_bd (s := s) hx ws.length (Nat.le_refl _)
  rw [weigh]
  omega
theorem bit_facts1 (s i : Nat) (hs : s < 4294967296) : bits .and .i64 ((s : Int) / 2 ^ i) 1 = (s : Int) / 2 ^ i % 2 ∧ ((s : Int) / 2 ^ i % 2 == 1) = bitB (s : Int) i := by
  have h0 : (0 : Int) ≤ (s : Int) / 2 ^ i := Int.ediv_nonneg (by omega) (Int.le_of_lt (Int.pow_pos (by decide)))
  have h1 : (s : Int) / 2 ^ i ≤ (s : Int) := Int.ediv_le_self _ (by omega)
  refine ⟨and1 _ h0 (by omega), ?_⟩
  rw [bitB]
  generalize (s : Int) / 2 ^ i = x at *
  rw [Bool.eq_iff_iff]
  simp
set_option maxHeartbeats 400000 in
theorem c_weightOf (a : Option Addr) (n c : Nat) (xs : List Int) (s : Nat) (w : World) (h : Row .i64 w a n xs) (h5 : n ≤ 5) (hs : s < 32) (hx : ∀ j, j < xs.length → -1000 ≤ xs.getD j 0 ∧ xs.getD j 0 ≤ 1000) :
    Calls Try.prog 82 #[.slice a n c, .int .i64 s] w fun e w' => e = .returned (.int .i64 (weigh xs s)) ∧ w = w' := by
  have hl := h.len
  have HX := Lib.hid hx
  have HBD := Lib.hid (weighTo_bd (s := s) hx)
  have HV := Lib.hid (show weigh xs s = weighTo xs s n by rw [weigh, hl])
  clear hx
  go_enter Try.func82, Try.ntmps82
  go_wp2_with fail
  go_loopw [5, 10] (fun v i wr => ∃ k : Nat, i = .int .i64 k ∧ k ≤ n ∧ v = .int .i64 (weighTo xs s k) ∧ wr = w) (fun _ i _ => n - (intOf i).toNat)
  case atStart => exact ⟨0, rfl, Nat.zero_le _, rfl, rfl⟩
  case round =>
    obtain ⟨k, rfl, hk, rfl, rfl⟩ := hrel
    by_cases hlt : k < n
    · obtain ⟨b, off, rfl, hblt, hc⟩ := h.at_ (by omega)
      have g1 := hc k hlt
      have hb := HBD.out k (by omega)
      have hx1 := HX.out k (by omega)
      obtain ⟨hb1, hb2⟩ := bit_facts1 s k (by omega)
      have hi0 : (0 : Int) ≤ k := by omega
      have hi1 : (k : Int) < (n : Int) := by omega
      obtain ⟨x, hxx⟩ : ∃ x, x = xs.getD k 0 := ⟨_, rfl⟩
      cases hbit : bitB (s : Int) k with
      | true =>
        have hy := weighTo_yes (ws := xs) hbit
        rw [hbit] at hb2
        obtain ⟨m, hm⟩ : ∃ m, m = weighTo xs s k := ⟨_, rfl⟩
        rw [← hxx] at g1 hy hx1
        rw [← hm] at hy hb ⊢
        have HY := Lib.hid hy
        have hw : IntKind.i64.wrap (m + x) = m + x := IntWalk.i64_in _ (by omega)
        clear hy hxx hm hbit hc
        go_wp2
        go_roundw
        case rel => exact ⟨k + 1, by go_num, by omega, by rw [HY.out], by first | rfl | trivial⟩
        case measure => simp [intOf]; omega
      | false =>
        have hy := weighTo_no (ws := xs) hbit
        rw [hbit] at hb2
        have HY := Lib.hid hy
        clear hy hbit
        go_wp2
        go_roundw
        case rel => exact ⟨k + 1, by go_num, by omega, by rw [HY.out], by first | rfl | trivial⟩
        case measure => simp [intOf]; omega
    · obtain rfl : k = n := by omega
      rw [← HV.out]
      go_wp2
      go_ret
      exact ⟨rfl, rfl⟩
set_option maxHeartbeats 400000 in
theorem c_l3Weigh (a : Option Addr) (n c : Nat) (xs : List Int) (s : Nat) (w : World) (h : Row .i64 w a n xs) (h5 : n ≤ 5) (hs : s < 32) (hx : ∀ j, j < xs.length → -1000 ≤ xs.getD j 0 ∧ xs.getD j 0 ≤ 1000) :
    Calls Try.prog 84 #[.slice a n c, .int .i64 s] w fun e w' => e = .returned (.int .i64 (weigh xs s)) ∧ w = w' := by
  have hl := h.len
  have HX := Lib.hid hx
  have HBD := Lib.hid (weighTo_bd (s := s) hx)
  have HV := Lib.hid (show weigh xs s = weighTo xs s n by rw [weigh, hl])
  clear hx
  go_enter Try.func84, Try.ntmps84
  go_wp2_with fail
  go_loopw [5, 6] (fun v i wr => ∃ k : Nat, i = .int .i64 k ∧ k ≤ n ∧ v = .int .i64 (weighTo xs s k) ∧ wr = w) (fun _ i _ => n - (intOf i).toNat)
  case atStart => exact ⟨0, rfl, Nat.zero_le _, rfl, rfl⟩
  case round =>
    obtain ⟨k, rfl, hk, rfl, rfl⟩ := hrel
    by_cases hlt : k < n
    · obtain ⟨b, off, rfl, hblt, hc⟩ := h.at_ (by omega)
      have g1 := hc k hlt
      have hb := HBD.out k (by omega)
      have hx1 := HX.out k (by omega)
      obtain ⟨hb1, hb2⟩ := bit_facts1 s k (by omega)
      have hi0 : (0 : Int) ≤ k := by omega
      have hi1 : (k : Int) < (n : Int) := by omega
      obtain ⟨x, hxx⟩ : ∃ x, x = xs.getD k 0 := ⟨_, rfl⟩
      cases hbit : bitB (s : Int) k with
      | true =>
        have hy := weighTo_yes (ws := xs) hbit
        rw [hbit] at hb2
        obtain ⟨m, hm⟩ : ∃ m, m = weighTo xs s k := ⟨_, rfl⟩
        rw [← hxx] at g1 hy hx1
        rw [← hm] at hy hb ⊢
        have HY := Lib.hid hy
        have hw : IntKind.i64.wrap (m + x) = m + x := IntWalk.i64_in _ (by omega)
        clear hy hxx hm hbit hc
        go_wp2
        go_roundw
        case rel => exact ⟨k + 1, by go_num, by omega, by rw [HY.out], by first | rfl | trivial⟩
        case measure => simp [intOf]; omega
      | false =>
        have hy := weighTo_no (ws := xs) hbit
        rw [hbit] at hb2
        have HY := Lib.hid hy
        clear hy hbit
        go_wp2
        go_roundw
        case rel => exact ⟨k + 1, by go_num, by omega, by rw [HY.out], by first | rfl | trivial⟩
        case measure => simp [intOf]; omega
    · obtain rfl : k = n := by omega
      rw [← HV.out]
      go_wp2
      go_ret
      exact ⟨rfl, rfl⟩
end Go.Proofs.Ytfcgijnfiiaepaa
