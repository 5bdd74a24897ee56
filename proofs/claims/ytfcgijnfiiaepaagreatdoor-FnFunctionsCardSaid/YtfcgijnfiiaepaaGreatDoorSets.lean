/- Contracts of the functions on sets that are numbers. -/
import Derived.Test.YtfcgijnfiiaepaaGreatDoorSmall
import Derived.Test.YtfcgijnfiiaepaaGreatDoorKit
import Derived.Test.YtfcgijnfiiaepaaGreatDoorInts
namespace Go.Proofs.YtfcgijnfiiaepaaGreatDoor
set_option linter.unusedSimpArgs false
set_option linter.unusedVariables false
open Go.RowKit

/-- s is a set of n elements. -/
def isSet (n s : Int) : Bool := decide (0 ≤ s) && decide (s < 2 ^ n.toNat)
theorem isSet_true {n s : Int} : isSet n s = true ↔ 0 ≤ s ∧ s < 2 ^ n.toNat := by simp [isSet]
def bitB (s : Int) (e : Nat) : Bool := decide (s / 2 ^ e % 2 = 1)
theorem and1 (x : Int) (h0 : 0 ≤ x) (h1 : x < 9223372036854775808) : bits .and .i64 x 1 = x % 2 := by
  obtain ⟨a, rfl⟩ := Int.eq_ofNat_of_zero_le h0
  have := i64_and_nat a 1 (by omega) (by omega)
  rw [Nat.and_one_is_mod] at this
  exact this
theorem inB_full (n s : Int) : inB s 0 (2 ^ n.toNat - 1) = isSet n s := by
  rw [Bool.eq_iff_iff, inB_true, isSet_true]; omega
theorem c_isSetOf (n s : Int) (w : World) (h0 : 0 ≤ n) (h1 : n ≤ 10) :
    Calls Tryz.prog 54 #[.int .i64 n, .int .i64 s] w fun e w' => e = .returned (.bool (isSet n s)) ∧ w = w' := by
  have : n = 0 ∨ n = 1 ∨ n = 2 ∨ n = 3 ∨ n = 4 ∨ n = 5 ∨ n = 6 ∨ n = 7 ∨ n = 8 ∨ n = 9 ∨ n = 10 := by omega
  clear h0 h1
  by_cases h0 : 0 ≤ s
  · rcases this with rfl | rfl | rfl | rfl | rfl | rfl | rfl | rfl | rfl | rfl | rfl
    all_goals
      go_enter Tryz.func54, Tryz.ntmps54
      go_wp2
      go_ret
      exact ⟨ret_bool (by simp [isSet, h0]), rfl⟩
  · rcases this with rfl | rfl | rfl | rfl | rfl | rfl | rfl | rfl | rfl | rfl | rfl
    all_goals
      have hf : ∀ n, isSet n s = false := fun n => by simp [isSet, h0]
      rw [hf]
      clear hf
      go_enter Tryz.func54, Tryz.ntmps54
      go_wp2
      go_ret
      exact ⟨rfl, rfl⟩
theorem c_l2Full (n : Int) (w : World) (h0 : 0 ≤ n) (h1 : n ≤ 10) :
    Calls Tryz.prog 57 #[.int .i64 n] w fun e w' => e = .returned (.int .i64 (2 ^ n.toNat - 1)) ∧ w = w' := by
  have : n = 0 ∨ n = 1 ∨ n = 2 ∨ n = 3 ∨ n = 4 ∨ n = 5 ∨ n = 6 ∨ n = 7 ∨ n = 8 ∨ n = 9 ∨ n = 10 := by omega
  clear h0 h1
  rcases this with rfl | rfl | rfl | rfl | rfl | rfl | rfl | rfl | rfl | rfl | rfl
  all_goals
    go_enter Tryz.func57, Tryz.ntmps57
    go_wp2
    go_ret
    exact ⟨ret_int (by decide), rfl⟩
/-- The elements below k of the set s, in ascending order. -/
def elemsTo (s : Int) (k : Nat) : List Int := ((List.range k).filter (bitB s)).map fun (e : Nat) => (e : Int)
def elems (s : Int) : List Int := elemsTo s 10
theorem elemsTo_succ_yes (s : Int) (k : Nat) (h : bitB s k = true) : elemsTo s (k + 1) = elemsTo s k ++ [(k : Int)] := by
  simp [elemsTo, List.range_succ, List.filter_append, List.filter_cons, h]
theorem elemsTo_succ_no (s : Int) (k : Nat) (h : bitB s k = false) : elemsTo s (k + 1) = elemsTo s k := by
  simp [elemsTo, List.range_succ, List.filter_append, List.filter_cons, h]
theorem elemsTo_le (s : Int) (k : Nat) : (elemsTo s k).length ≤ k := by
  unfold elemsTo
  rw [List.length_map]
  exact Nat.le_trans (List.length_filter_le _ _) (by simp)
theorem div_pow_zero (s : Int) (k j : Nat) (hk : k ≤ j) (h : s / 2 ^ k = 0) : s / 2 ^ j = 0 := by
  obtain ⟨d, rfl⟩ := Nat.le.dest hk
  rw [Int.pow_add, ← Int.ediv_ediv_of_nonneg (Int.le_of_lt (Int.pow_pos (by decide))), h, Int.zero_ediv]
theorem elemsTo_stop (s : Int) (k : Nat) (h : s / 2 ^ k = 0) : ∀ d, elemsTo s (k + d) = elemsTo s k
  | 0 => rfl
  | d + 1 => by
    rw [← Nat.add_assoc, elemsTo_succ_no s (k + d) (by simp [bitB, div_pow_zero s k (k + d) (by omega) h]), elemsTo_stop s k h d]
theorem elems_stop (s : Int) (k : Nat) (hk : k ≤ 10) (h : s / 2 ^ k = 0) : elemsTo s k = elems s := by
  obtain ⟨d, hd⟩ := Nat.le.dest hk
  rw [elems, ← hd, elemsTo_stop s k h d]
theorem div_pow_bd (s : Int) (k : Nat) (h0 : 0 ≤ s) (h1 : s < 1024) : 0 ≤ s / 2 ^ k ∧ s / 2 ^ k < 1024 := by
  have hp : (0 : Int) < 2 ^ k := Int.pow_pos (by decide)
  exact ⟨Int.ediv_nonneg h0 (by omega), Int.lt_of_le_of_lt (Int.ediv_le_self _ h0) h1⟩
theorem div_pow_10 (s : Int) (h0 : 0 ≤ s) (h1 : s < 1024) : s / 2 ^ 10 = 0 := Int.ediv_eq_zero_of_lt h0 (by omega)

set_option maxRecDepth 20000 in
set_option maxHeartbeats 400000 in
theorem c_elementsOf (s : Int) (w : World) (h0 : 0 ≤ s) (h1 : s < 1024) :
    Calls Tryz.prog 67 #[.int .i64 s] w (RetOwn 3 .i64 (elems s) w) := by
  have hz := div_pow_10 s h0 h1
  have HZ := Lib.hid hz; clear hz
  go_enter Tryz.func67, Tryz.ntmps67
  go_wp2
  go_loopw [3, 4] (fun v i wr => ∃ k : Nat, i = .int .i64 k ∧ k ≤ 10 ∧ OwnI wr w.heap.size 3 .i64 v (elemsTo s k) ∧ Below w.heap.size w wr) (fun _ i _ => 10 - (intOf i).toNat)
  case atStart => exact ⟨0, rfl, Nat.zero_le _, OwnI.nil _ _ _ _, Below.refl _ _⟩
  case round =>
    obtain ⟨k, rfl, hk, hown, hb⟩ := hrel
    have hB : w.heap.size ≤ wr.heap.size := hb.size
    have hlen := elemsTo_le s k
    have hbd := div_pow_bd s k h0 h1
    by_cases hzero : s / 2 ^ k = 0
    · have ht : (s / 2 ^ k != 0) = false := by simp [hzero]
      have he := elems_stop s k hk hzero
      rw [he] at hown
      clear he hzero
      obtain ⟨a, c, rfl, _⟩ := hown.form
      go_wp2
      go_ret
      exact ⟨a, c, rfl, hown, hb⟩
    · have ht : (s / 2 ^ k != 0) = true := by simp [hzero]
      have hk10 : k < 10 := by
        rcases Nat.lt_or_ge k 10 with h | h
        · exact h
        · obtain rfl : k = 10 := by omega
          exact absurd HZ.out hzero
      have hand := and1 (s / 2 ^ k) hbd.1 (by omega)
      cases hbit : bitB s k with
      | true =>
        have hq : (s / 2 ^ k % 2 == 1) = true := by simpa [bitB] using hbit
        have hs := elemsTo_succ_yes s k hbit
        have HS := Lib.hid hs; clear hs hbit hzero
        go_wp2_with (at_builtin; refine wpList_app EI (base := w.heap.size) (v := u3) (xs := elemsTo s k) (us := [(k : Int)]) (g := wr.heap.size) (n := 1) (c := 1) rfl (.tmp 18) (.tmp 20) rfl ?_ ?_ rfl rfl rfl ?_ ?_ ?_; (exact hown.alloc _); (exact heap_alloc_new wr _); (show _ + 1 ≤ _; omega); (exact le_alloc hB _); intro v' w1 hown1 hgrow)
        have hb1 : Below w.heap.size w w1 := below_grown (hb.alloc hB _) (hown.alloc _) hgrow (Nat.le_refl _) (le_alloc hB _)
        go_roundw
        case rel => exact ⟨k + 1, by go_num, by omega, by rw [HS.out]; exact hown1, hb1⟩
        case measure => simp [intOf]; omega
      | false =>
        have hq : (s / 2 ^ k % 2 == 1) = false := by simpa [bitB] using hbit
        have hs := elemsTo_succ_no s k hbit
        have HS := Lib.hid hs; clear hs hbit hzero
        go_wp2
        go_roundw
        case rel => exact ⟨k + 1, by go_num, by omega, by rw [HS.out]; exact hown, hb⟩
        case measure => simp [intOf]; omega
set_option maxRecDepth 20000 in
set_option maxHeartbeats 400000 in
theorem c_l2List (s : Int) (w : World) (h0 : 0 ≤ s) (h1 : s < 1024) :
    Calls Tryz.prog 68 #[.int .i64 s] w (RetOwn 3 .i64 (elems s) w) := by
  have hz := div_pow_10 s h0 h1
  have HZ := Lib.hid hz; clear hz
  go_enter Tryz.func68, Tryz.ntmps68
  go_wp2
  go_loopw [3, 4, 5] (fun v i x wr => ∃ k : Nat, i = .int .i64 k ∧ x = .int .i64 (s / 2 ^ k) ∧ k ≤ 10 ∧ OwnI wr w.heap.size 3 .i64 v (elemsTo s k) ∧ Below w.heap.size w wr) (fun _ i _ _ => 10 - (intOf i).toNat)
  case atStart => exact ⟨0, rfl, by simp, Nat.zero_le _, World.ownsRow_made w #[] 0 (Nat.le_refl _) (by decide) rfl, (Below.refl _ _).alloc (Nat.le_refl _) _⟩
  case round =>
    obtain ⟨k, rfl, rfl, hk, hown, hb⟩ := hrel
    have hB : w.heap.size ≤ wr.heap.size := hb.size
    have hlen := elemsTo_le s k
    have hbd := div_pow_bd s k h0 h1
    have hnext : s / 2 ^ k / 2 = s / 2 ^ (k + 1) := by
      rw [Int.ediv_ediv_of_nonneg (Int.le_of_lt (Int.pow_pos (by decide))), Int.pow_succ]
    have HNX := Lib.hid hnext; clear hnext
    by_cases hzero : s / 2 ^ k = 0
    · have he := elems_stop s k hk hzero
      rw [he] at hown
      have hle : ¬ (0 < s / 2 ^ k) := by omega
      clear he hzero hbd
      obtain ⟨a, c, rfl, _⟩ := hown.form
      go_wp2
      go_ret
      exact ⟨a, c, rfl, hown, hb⟩
    · have hpos : 0 < s / 2 ^ k := by omega
      have hk10 : k < 10 := by
        rcases Nat.lt_or_ge k 10 with h | h
        · exact h
        · obtain rfl : k = 10 := by omega
          exact absurd HZ.out hzero
      have hand := and1 (s / 2 ^ k) hbd.1 (by omega)
      cases hbit : bitB s k with
      | true =>
        have hq : (s / 2 ^ k % 2 == 1) = true := by simpa [bitB] using hbit
        have hs := elemsTo_succ_yes s k hbit
        have HS := Lib.hid hs; clear hs hbit hzero
        go_wp2_with (at_builtin; refine wpList_app EI (base := w.heap.size) (v := u3) (xs := elemsTo s k) (us := [(k : Int)]) (g := wr.heap.size) (n := 1) (c := 1) rfl (.tmp 15) (.tmp 17) rfl ?_ ?_ rfl rfl rfl ?_ ?_ ?_; (exact hown.alloc _); (exact heap_alloc_new wr _); (show _ + 1 ≤ _; omega); (exact le_alloc hB _); intro v' w1 hown1 hgrow)
        have hb1 : Below w.heap.size w w1 := below_grown (hb.alloc hB _) (hown.alloc _) hgrow (Nat.le_refl _) (le_alloc hB _)
        go_roundw
        case rel => exact ⟨k + 1, by go_num, by rw [HNX.out], by omega, by rw [HS.out]; exact hown1, hb1⟩
        case measure => simp [intOf]; omega
      | false =>
        have hq : (s / 2 ^ k % 2 == 1) = false := by simpa [bitB] using hbit
        have hs := elemsTo_succ_no s k hbit
        have HS := Lib.hid hs; clear hs hbit hzero
        go_wp2
        go_roundw
        case rel => exact ⟨k + 1, by go_num, by rw [HNX.out], by omega, by rw [HS.out]; exact hown, hb⟩
        case measure => simp [intOf]; omega
theorem two_pow_le (n : Nat) (h : n ≤ 10) : (2 : Int) ^ n ≤ 1024 := by
  have : n = 0 ∨ n = 1 ∨ n = 2 ∨ n = 3 ∨ n = 4 ∨ n = 5 ∨ n = 6 ∨ n = 7 ∨ n = 8 ∨ n = 9 ∨ n = 10 := by omega
  rcases this with rfl | rfl | rfl | rfl | rfl | rfl | rfl | rfl | rfl | rfl | rfl <;> decide
/-- What ElementsOf returns. -/
def elementsR (n s : Int) : List Int := if inB n 0 10 && isSet n s then elems s else []
theorem c_impl_ElementsOf (n s : Int) (w : World) :
    Calls Tryz.prog 34 #[.int .i64 n, .int .i64 s] w (RetOwn 3 .i64 (elementsR n s) w) := by
  cases hin : inB n 0 10 with
  | false =>
    have hd : elementsR n s = [] := by simp [elementsR, hin]
    rw [hd]
    clear hd
    go_enter Tryz.func34, Tryz.ntmps34
    go_wp2_with (go_at_call 50; refine (c_within _ _ _ _).mono ?_; rintro e w' ⟨rfl, rfl⟩)
    go_ret
    exact ⟨none, 0, rfl, OwnI.nil _ _ _ _, Below.refl _ _⟩
  | true =>
    have hb := inB_true.1 hin
    cases hset : isSet n s with
    | false =>
      have hd : elementsR n s = [] := by simp [elementsR, hset]
      rw [hd]
      clear hd
      go_enter Tryz.func34, Tryz.ntmps34
      go_wp2_with (first | (go_at_call 50; refine (c_within _ _ _ _).mono ?_; rintro e w' ⟨rfl, rfl⟩) | (go_at_call 54; refine (c_isSetOf _ _ _ hb.1 hb.2).mono ?_; rintro e w' ⟨rfl, rfl⟩))
      go_ret
      exact ⟨none, 0, rfl, OwnI.nil _ _ _ _, Below.refl _ _⟩
    | true =>
      have hs := isSet_true.1 hset
      have hs2 : s < 1024 := Int.lt_of_lt_of_le hs.2 (two_pow_le _ (by omega))
      have hs0 := hs.1
      clear hs
      have hd : elementsR n s = elems s := by simp [elementsR, hin, hset]
      rw [hd]
      clear hd
      go_enter Tryz.func34, Tryz.ntmps34
      go_wp2_with (first | (go_at_call 50; refine (c_within _ _ _ _).mono ?_; rintro e w' ⟨rfl, rfl⟩) | (go_at_call 54; refine (c_isSetOf _ _ _ hb.1 hb.2).mono ?_; rintro e w' ⟨rfl, rfl⟩) | (go_at_call 67; refine (c_elementsOf _ _ hs0 hs2).mono ?_; rintro e w1 ⟨a, c, rfl, hown, hbel⟩))
      go_ret
      exact ⟨a, c, rfl, hown, hbel⟩
theorem c_spec_ElementsOf (n s : Int) (w : World) :
    Calls Tryz.prog 35 #[.int .i64 n, .int .i64 s] w (RetOwn 3 .i64 (elementsR n s) w) := by
  cases hin : inB n 0 10 with
  | false =>
    have hd : elementsR n s = [] := by simp [elementsR, hin]
    rw [hd]
    clear hd
    go_enter Tryz.func35, Tryz.ntmps35
    go_wp2_with (go_at_call 52; refine (c_l1In _ _ _ _).mono ?_; rintro e w' ⟨rfl, rfl⟩)
    go_ret
    exact ⟨_, 0, rfl, World.ownsRow_made w #[] 0 (Nat.le_refl _) (by decide) rfl, (Below.refl _ _).alloc (Nat.le_refl _) _⟩
  | true =>
    have hb := inB_true.1 hin
    have hfull := inB_full n s
    cases hset : isSet n s with
    | false =>
      rw [hset] at hfull
      have hd : elementsR n s = [] := by simp [elementsR, hset]
      rw [hd]
      clear hd
      go_enter Tryz.func35, Tryz.ntmps35
      go_wp2_with (first | (go_at_call 52; refine (c_l1In _ _ _ _).mono ?_; rintro e w' ⟨rfl, rfl⟩) | (go_at_call 57; refine (c_l2Full _ _ hb.1 hb.2).mono ?_; rintro e w' ⟨rfl, rfl⟩))
      go_ret
      exact ⟨_, 0, rfl, World.ownsRow_made w #[] 0 (Nat.le_refl _) (by decide) rfl, (Below.refl _ _).alloc (Nat.le_refl _) _⟩
    | true =>
      rw [hset] at hfull
      have hs := isSet_true.1 hset
      have hs2 : s < 1024 := Int.lt_of_lt_of_le hs.2 (two_pow_le _ (by omega))
      have hs0 := hs.1
      clear hs
      have hd : elementsR n s = elems s := by simp [elementsR, hin, hset]
      rw [hd]
      clear hd
      go_enter Tryz.func35, Tryz.ntmps35
      go_wp2_with (first | (go_at_call 52; refine (c_l1In _ _ _ _).mono ?_; rintro e w' ⟨rfl, rfl⟩) | (go_at_call 57; refine (c_l2Full _ _ hb.1 hb.2).mono ?_; rintro e w' ⟨rfl, rfl⟩) | (go_at_call 68; refine (c_l2List _ _ hs0 hs2).mono ?_; rintro e w1 ⟨a, c, rfl, hown, hbel⟩))
      go_ret
      exact ⟨a, c, rfl, hown, hbel⟩
end Go.Proofs.YtfcgijnfiiaepaaGreatDoor
