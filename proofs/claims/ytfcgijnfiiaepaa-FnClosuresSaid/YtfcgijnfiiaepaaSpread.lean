/- Contracts of spread and l5Spread: the set whose elements are some of a list. -/
import Derived.Test.YtfcgijnfiiaepaaSizeOf
import Derived.Test.YtfcgijnfiiaepaaWeigh
namespace Go.Proofs.Ytfcgijnfiiaepaa
set_option linter.unusedSimpArgs false
set_option linter.unusedVariables false
open Go.RowKit

def sprTo (l : List Int) (x : Nat) : Nat → Nat
  | 0 => 0
  | k + 1 => if bitB (x : Int) k then sprTo l x k ||| 2 ^ (l.getD k 0).toNat else sprTo l x k
theorem sprTo_yes {l : List Int} {x k : Nat} (h : bitB (x : Int) k = true) : sprTo l x (k + 1) = sprTo l x k ||| 2 ^ (l.getD k 0).toNat := by rw [sprTo, if_pos h]
theorem sprTo_no {l : List Int} {x k : Nat} (h : bitB (x : Int) k = false) : sprTo l x (k + 1) = sprTo l x k := by rw [sprTo, if_neg (by simp [h])]
theorem sprTo_lt {l : List Int} (hb : ∀ j, j < l.length → 0 ≤ l.getD j 0 ∧ l.getD j 0 < 5) (x : Nat) : ∀ k, k ≤ l.length → sprTo l x k < 32
  | 0, _ => by simp [sprTo]
  | k + 1, h => by
    have h1 := sprTo_lt hb x k (by omega)
    have h2 := hb k (by omega)
    cases hx : bitB (x : Int) k with
    | true =>
      rw [sprTo_yes hx]
      exact Nat.or_lt_two_pow (n := 5) h1 (Nat.pow_lt_pow_right (by decide) (by omega))
    | false => rw [sprTo_no hx]; exact h1
/-- The part of s that x numbers. -/
def sprR (s x : Nat) : Nat := sprTo (elems (s : Int)) x (elems (s : Int)).length
theorem elems_fin : ∀ s : Fin 32, (elems (s.val : Int)).length = sizeN s.val ∧ ∀ j : Fin 5, j.val < (elems (s.val : Int)).length → 0 ≤ (elems (s.val : Int)).getD j.val 0 ∧ (elems (s.val : Int)).getD j.val 0 < 5 := by decide +kernel
theorem elems_len {s : Nat} (h : s < 32) : (elems (s : Int)).length = sizeN s := (elems_fin ⟨s, h⟩).1
theorem elems_bd {s : Nat} (h : s < 32) : ∀ j, j < (elems (s : Int)).length → 0 ≤ (elems (s : Int)).getD j 0 ∧ (elems (s : Int)).getD j 0 < 5 := fun j hj => by
  have h1 := elems_len h
  have h2 := sizeN_le s
  exact (elems_fin ⟨s, h⟩).2 ⟨j, by omega⟩ hj
theorem spr_fin : ∀ s x : Fin 32, sprR s.val x.val ≤ s.val := by decide +kernel
theorem spr_le {s x : Nat} (hs : s < 32) (hx : x < 32) : sprR s x ≤ s := spr_fin ⟨s, hs⟩ ⟨x, hx⟩
set_option maxHeartbeats 1000000 in
theorem c_spread (a : Option Addr) (n c : Nat) (l : List Int) (x : Nat) (w : World) (h : Row .i64 w a n l) (hx : x < 32) (hl5 : l.length ≤ 5) (hb : ∀ j, j < l.length → 0 ≤ l.getD j 0 ∧ l.getD j 0 < 5) :
    Calls Try.prog 64 #[.slice a n c, .int .i64 x] w fun e w' => e = .returned (.int .i64 (sprTo l x l.length)) ∧ w = w' := by
  have hl := h.len
  subst hl
  have HB := Lib.hid hb
  clear hb
  go_enter Try.func64, Try.ntmps64
  go_wp2_with fail
  go_loopw [5, 10] (fun v i wr => ∃ k : Nat, i = .int .i64 k ∧ k ≤ l.length ∧ v = .int .i64 (sprTo l x k) ∧ wr = w) (fun _ i _ => l.length - (intOf i).toNat)
  case atStart => exact ⟨0, rfl, Nat.zero_le _, rfl, rfl⟩
  case round =>
    obtain ⟨k, rfl, hk, rfl, rfl⟩ := hrel
    by_cases hlt : k < l.length
    · obtain ⟨b3, off3, rfl, _, hc⟩ := h.at_ (by omega)
      have g1 := hc k hlt
      obtain ⟨y0, y5⟩ := HB.out k hlt
      have hql := sprTo_lt HB.out x k hk
      obtain ⟨hb1, hb2⟩ := bit_facts1 x k (by omega)
      have hi0 : (0 : Int) ≤ k := by omega
      have hi1 : (k : Int) < (l.length : Int) := by omega
      have hY := fun h0 => sprTo_yes (l := l) (x := x) (k := k) h0
      have hN := fun h0 => sprTo_no (l := l) (x := x) (k := k) h0
      obtain ⟨z, hz⟩ : ∃ z, z = l.getD k 0 := ⟨_, rfl⟩
      obtain ⟨q, hq⟩ : ∃ q, q = sprTo l x k := ⟨_, rfl⟩
      rw [← hz] at g1 y0 y5 hY
      rw [← hq] at hql hY hN ⊢
      obtain ⟨y, rfl⟩ := Int.eq_ofNat_of_zero_le y0
      rw [Int.toNat_natCast] at hY
      obtain ⟨p, hpp⟩ : ∃ p, p = 2 ^ y := ⟨_, rfl⟩
      have hp5 := two_pow_lt5 y (by omega)
      rw [← hpp] at hp5 hY
      have hor := i64_or_nat q p (by omega) (by omega)
      have hpe : ((2 : Int) ^ y) = (p : Int) := by rw [hpp]; push_cast; rfl
      have HPE := Lib.hid hpe
      have HOR := Lib.hid hor
      have hm : l.length - (k + 1) < l.length - k := by omega
      have hle1 : k + 1 ≤ l.length := by omega
      have hj60 : y < 60 := by omega
      have hku : IntKind.u64.wrap (k : Int) = k := IntWalk.u64_in _ (by omega)
      cases hbit : bitB (x : Int) k with
      | true =>
        rw [hbit] at hb2
        have HY := Lib.hid (hY hbit)
        clear hY hN hbit hz hq hc hpe
        obtain ⟨hz', hs1, hs2⟩ := shl_facts y p hpp hj60
        clear hpp
        go_wp2
        go_roundw
        case rel => exact ⟨k + 1, by go_num, hle1, by rw [HY.out] <;> rw [HPE.out, HOR.out], by first | rfl | trivial⟩
        case measure => simpa [intOf] using hm
      | false =>
        rw [hbit] at hb2
        have HY := Lib.hid (hN hbit)
        clear hY hN hbit hz hq hc hpe
        go_wp2
        go_roundw
        case rel => exact ⟨k + 1, by go_num, hle1, by rw [HY.out], by first | rfl | trivial⟩
        case measure => simpa [intOf] using hm
    · obtain rfl : k = l.length := by omega
      go_wp2
      go_ret
      exact ⟨rfl, rfl⟩
set_option maxHeartbeats 1000000 in
theorem c_l5Spread (s x : Nat) (w : World) (hs : s < 32) (hx : x < 32) :
    Calls Try.prog 66 #[.int .i64 s, .int .i64 x] w fun e w' => e = .returned (.int .i64 (sprR s x)) ∧ Below w.heap.size w w' := by
  have HB := Lib.hid (elems_bd hs)
  have hlen := elems_len hs
  have h5 := sizeN_le s
  have HR := Lib.hid (show sprR s x = sprTo (elems (s : Int)) x (elems (s : Int)).length from rfl)
  have HC := Lib.hid (fun w => c_l2List (s : Int) w (by omega) (by omega))
  obtain ⟨l, hl⟩ : ∃ l, l = elems (s : Int) := ⟨_, rfl⟩
  rw [← hl] at HB hlen HR HC
  rw [HR.out]
  clear hl HR
  go_enter Try.func66, Try.ntmps66
  go_wp2_with fail
  refine (HC.out _).mono ?_
  rintro e w1 ⟨a, c, rfl, ho, hb⟩
  have h := ho.row
  go_wp2_with fail
  go_loopw [6, 7] (fun v i wr => ∃ k : Nat, i = .int .i64 k ∧ k ≤ l.length ∧ v = .int .i64 (sprTo l x k) ∧ wr = w1) (fun _ i _ => l.length - (intOf i).toNat)
  case atStart => exact ⟨0, rfl, Nat.zero_le _, rfl, rfl⟩
  case round =>
    obtain ⟨k, rfl, hk, rfl, rfl⟩ := hrel
    by_cases hlt : k < l.length
    · obtain ⟨b3, off3, rfl, _, hc⟩ := h.at_ (by omega)
      have g1 := hc k hlt
      obtain ⟨y0, y5⟩ := HB.out k hlt
      have hql := sprTo_lt HB.out x k hk
      obtain ⟨hb1, hb2⟩ := bit_facts1 x k (by omega)
      have hi0 : (0 : Int) ≤ k := by omega
      have hi1 : (k : Int) < (l.length : Int) := by omega
      have hY := fun h0 => sprTo_yes (l := l) (x := x) (k := k) h0
      have hN := fun h0 => sprTo_no (l := l) (x := x) (k := k) h0
      obtain ⟨z, hz⟩ : ∃ z, z = l.getD k 0 := ⟨_, rfl⟩
      obtain ⟨q, hq⟩ : ∃ q, q = sprTo l x k := ⟨_, rfl⟩
      rw [← hz] at g1 y0 y5 hY
      rw [← hq] at hql hY hN ⊢
      obtain ⟨y, rfl⟩ := Int.eq_ofNat_of_zero_le y0
      rw [Int.toNat_natCast] at hY
      obtain ⟨p, hpp⟩ : ∃ p, p = 2 ^ y := ⟨_, rfl⟩
      have hp5 := two_pow_lt5 y (by omega)
      rw [← hpp] at hp5 hY
      have hor := i64_or_nat q p (by omega) (by omega)
      have hpe : ((2 : Int) ^ y) = (p : Int) := by rw [hpp]; push_cast; rfl
      have HPE := Lib.hid hpe
      have HOR := Lib.hid hor
      have hm : l.length - (k + 1) < l.length - k := by omega
      have hle1 : k + 1 ≤ l.length := by omega
      have hj60 : y < 60 := by omega
      have hku : IntKind.u64.wrap (k : Int) = k := IntWalk.u64_in _ (by omega)
      cases hbit : bitB (x : Int) k with
      | true =>
        rw [hbit] at hb2
        have HY := Lib.hid (hY hbit)
        clear hY hN hbit hz hq hc hpe
        obtain ⟨hz', hs1, hs2⟩ := shl_facts y p hpp hj60
        clear hpp
        go_wp2
        go_roundw
        case rel => exact ⟨k + 1, by go_num, hle1, by rw [HY.out] <;> rw [HPE.out, HOR.out], by first | rfl | trivial⟩
        case measure => simpa [intOf] using hm
      | false =>
        rw [hbit] at hb2
        have HY := Lib.hid (hN hbit)
        clear hY hN hbit hz hq hc hpe
        go_wp2
        go_roundw
        case rel => exact ⟨k + 1, by go_num, hle1, by rw [HY.out], by first | rfl | trivial⟩
        case measure => simpa [intOf] using hm
    · obtain rfl : k = l.length := by omega
      go_wp2
      go_ret
      exact ⟨rfl, hb⟩
end Go.Proofs.Ytfcgijnfiiaepaa
