/- Contracts of DecodeFixed, EncodeFixed of both packages. -/
import Derived.Test.YtfcgijnfiiaepaaDoorSmall
import Derived.Test.YtfcgijnfiiaepaaDoorKit
import Derived.WalkLawsBesides
namespace Go.Proofs.YtfcgijnfiiaepaaDoor
set_option linter.unusedSimpArgs false
set_option linter.unusedVariables false
open Go.RowKit

theorem i64_or_add8 (n c : Int) (h0 : 0 ≤ n) (h1 : n < 36028797018963968) (h2 : 0 ≤ c) (h3 : c < 256) : bits .or .i64 (n * 256) c = n * 256 + c := by
  obtain ⟨a, rfl⟩ := Int.eq_ofNat_of_zero_le h0
  obtain ⟨b, rfl⟩ := Int.eq_ofNat_of_zero_le h2
  have e : ((a : Int) * 256) = ((a * 256 : Nat) : Int) := by omega
  rw [e, i64_or_nat _ _ (by omega) (by omega)]
  have := Nat.two_pow_add_eq_or_of_lt (i := 8) (b := b) (by omega) a
  have e2 : 2 ^ 8 * a = a * 256 := by omega
  rw [e2] at this
  omega

/-- The number that bytes encode, the first one the greatest. -/
def decF (l : List Int) : Int := l.foldl (fun n b => n * 256 + b) 0
theorem decF_snoc (l : List Int) (b : Int) : decF (l ++ [b]) = decF l * 256 + b := by simp [decF]
theorem decF_take (s : ByteArray) (k : Nat) (h : k < s.size) : decF ((numsOf s).take (k + 1)) = decF ((numsOf s).take k) * 256 + (s[k].toNat : Int) := by
  rw [List.take_succ_eq_append_getElem (by rw [numsOf_length]; exact h), numsOf_getElem s k h, decF_snoc]
theorem decF_bound (s : ByteArray) (k : Nat) : k ≤ s.size → 0 ≤ decF ((numsOf s).take k) ∧ decF ((numsOf s).take k) < 256 ^ k := by
  induction k with
  | zero => intro _; simp [decF]
  | succ k ih =>
    intro h
    have hi := ih (by omega)
    have hc : (s[k].toNat : Int) < 256 := by have := s[k].toNat_lt; omega
    rw [decF_take s k (by omega), Int.pow_succ]
    omega
theorem decF_small (s : ByteArray) (k : Nat) (h : k ≤ s.size) (hk : k ≤ 6) : 0 ≤ decF ((numsOf s).take k) ∧ decF ((numsOf s).take k) < 281474976710656 := by
  have h1 := decF_bound s k h
  have h2 : k = 0 ∨ k = 1 ∨ k = 2 ∨ k = 3 ∨ k = 4 ∨ k = 5 ∨ k = 6 := by omega
  rcases h2 with rfl | rfl | rfl | rfl | rfl | rfl | rfl <;> exact ⟨h1.1, Int.lt_of_lt_of_le h1.2 (by decide)⟩

/-- What DecodeFixed returns. -/
def fixedOk (s : ByteArray) (width : Int) : Bool := inB width 1 7 && decide (width ≤ s.size)
def decFixed (s : ByteArray) (width : Int) : Int := if fixedOk s width then decF ((numsOf s).take width.toNat) else 0

set_option maxHeartbeats 400000 in
theorem c_impl_DecodeFixed (s : ByteArray) (width : Int) (w : World) (hs : s.size ≤ 1048576) :
    Calls Tryd.prog 17 #[.string s, .int .i64 width] w fun e w' => e = .returned (.tuple #[.int .i64 (decFixed s width), .bool (fixedOk s width)]) ∧ w = w' := by
  cases hin : inB width 1 7 with
  | false =>
    have hok : fixedOk s width = false := by simp [fixedOk, hin]
    have hd : decFixed s width = 0 := by simp [decFixed, hok]
    rw [hok, hd]
    clear hok hd
    rcases inB_false.1 hin with h | h
    all_goals
      clear hin
      go_enter Tryd.func17, Tryd.ntmps17
      go_wp2
      go_ret2
      exact ⟨rfl, rfl⟩
  | true =>
    have hb := inB_true.1 hin
    by_cases hl : width ≤ s.size
    · have hok : fixedOk s width = true := by simp [fixedOk, hin, hl]
      have hd : decFixed s width = decF ((numsOf s).take width.toNat) := by simp [decFixed, hok]
      rw [hok, hd]
      clear hok hd hin
      obtain ⟨n, rfl⟩ := Int.eq_ofNat_of_zero_le (show 0 ≤ width by omega)
      rw [Int.toNat_natCast]
      have hn : n ≤ s.size := by omega
      go_enter Tryd.func17, Tryd.ntmps17
      go_wp2
      go_loop [6, 21] (fun v i => ∃ k : Nat, k ≤ n ∧ i = .int .i64 k ∧ v = .int .i64 (decF ((numsOf s).take k))) (fun _ i => n - (intOf i).toNat)
      case atStart => exact ⟨0, Nat.zero_le _, rfl, rfl⟩
      case round =>
        obtain ⟨k, hk, rfl, rfl⟩ := hrel
        by_cases hlt : k < n
        · have hks : k < s.size := by omega
          have hc0 : 0 ≤ ((s[k].toNat : Int)) ∧ (s[k].toNat : Int) ≤ 255 := by have := s[k].toNat_lt; omega
          have hbd := decF_small s k (by omega) (by omega)
          have ht := decF_take s k hks
          have hor := i64_or_add8 _ _ hbd.1 (by omega) hc0.1 (by omega)
          have HT := Lib.hid ht; clear ht
          go_wp2
          go_round
          case rel => exact ⟨k + 1, by omega, by go_num, by rw [HT.out]⟩
          case measure => simp [intOf]; omega
        · obtain rfl : k = n := by omega
          go_wp2
          go_ret2
          exact ⟨rfl, rfl⟩
    · have hok : fixedOk s width = false := by simp [fixedOk, hl]
      have hd : decFixed s width = 0 := by simp [decFixed, hok]
      rw [hok, hd]
      clear hok hd hin
      go_enter Tryd.func17, Tryd.ntmps17
      go_wp2
      go_ret2
      exact ⟨rfl, rfl⟩
/-- The last `width` bytes of n, the most significant one first. -/
def beL (n : Int) (width : Nat) : List Int := (List.range width).map fun i => n / 2 ^ (8 * (width - 1 - i)) % 256
theorem beL_length (n : Int) (width : Nat) : (beL n width).length = width := by simp [beL]
theorem beL_succ (n : Int) (k : Nat) : beL n (k + 1) = (n / 2 ^ (8 * k) % 256) :: beL n k := by
  unfold beL
  rw [List.range_succ_eq_map, List.map_cons, List.map_map]
  congr 1
  apply List.map_congr_left
  intro j hj
  have : j < k := List.mem_range.1 hj
  simp only [Function.comp]
  have e : k + 1 - 1 - (j + 1) = k - 1 - j := by omega
  rw [show Nat.succ j = j + 1 from rfl, e]
theorem beL_getD (n : Int) (width k : Nat) (h : k < width) : (beL n width).getD k 0 = n / 2 ^ (8 * (width - 1 - k)) % 256 := by
  simp [beL, List.getD, h]
/-- What EncodeFixed returns. -/
def encFOk (n width : Int) : Bool := inB width 1 7 && decide (0 ≤ n) && decide (n / 2 ^ (8 * width.toNat) = 0)
def encF (n width : Int) : ByteArray := if encFOk n width then strOfNums (beL n width.toNat) else ⟨#[]⟩
/-- A list being filled from the left. -/
def fillL (xs : List Int) (k : Nat) : List Int := xs.take k ++ List.replicate (xs.length - k) 0
theorem fillL_length (xs : List Int) (k : Nat) (h : k ≤ xs.length) : (fillL xs k).length = xs.length := by
  simp [fillL]; omega
theorem fillL_zero (xs : List Int) : fillL xs 0 = List.replicate xs.length 0 := by simp [fillL]
theorem fillL_all (xs : List Int) : fillL xs xs.length = xs := by simp [fillL]
theorem fillL_set (xs : List Int) (k : Nat) (h : k < xs.length) : (fillL xs k).set k (xs.getD k 0) = fillL xs (k + 1) := by
  unfold fillL
  have e : xs.length - k = (xs.length - (k + 1)) + 1 := by omega
  have h2 : ¬ k < (xs.take k).length := by simp; omega
  have h3 : k - (xs.take k).length = 0 := by simp; omega
  have h4 : xs.getD k 0 = xs[k] := by simp [List.getD, List.getElem?_eq_getElem h]
  rw [e, List.replicate_succ, List.set_append, if_neg h2, h3, List.set_cons_zero, h4, List.take_succ_eq_append_getElem h, List.append_assoc]
  rfl

theorem EBf : IntElem Tryd.prog 30 5 .u8 1 := ⟨Tryd.underlying30, Tryd.underlying5, by kernel_rfl, by decide⟩
set_option maxHeartbeats 400000 in
theorem c_impl_EncodeFixed_ok (n : Int) (width : Nat) (w : World) (hw : 1 ≤ width ∧ width ≤ 7) (h0 : 0 ≤ n) (h1 : n < 9223372036854775808) (hz : (n / 2 ^ (8 * width) != 0) = false) :
    Calls Tryd.prog 16 #[.int .i64 n, .int .i64 width] w fun e w' => e = .returned (.string (strOfNums (beL n width))) ∧ Below w.heap.size w w' := by
  go_enter Tryd.func16, Tryd.ntmps16
  go_wp2_with (at_make; refine wpList_makeN EBf (base := w.heap.size) (n := width) rfl (.tmp 25) (.tmp 25) rfl rfl rfl rfl rfl ?_ ?_ ?_; (omega); (exact Nat.le_refl _); intro w1 hown hgrow)
  go_loopw [29] (fun i wr => ∃ k : Nat, k ≤ width ∧ i = .int .i64 k ∧ OwnI wr w.heap.size 5 .u8 (.slice (some ⟨w.heap.size, 0, none⟩) width width) (fillL (beL n width) k) ∧ Below w.heap.size w wr) (fun i _ => width - (intOf i).toNat)
  case atStart => exact ⟨0, Nat.zero_le _, rfl, by rw [fillL_zero, beL_length]; exact hown, (Below.refl _ _).grown hgrow (Nat.le_refl _) (fun _ h => by cases h)⟩
  case round =>
    clear hown hgrow hz
    obtain ⟨k, hk, rfl, hown, hb⟩ := hrel
    by_cases hlt : k < width
    · have hl : k < (fillL (beL n width) k).length := by rw [fillL_length _ _ (by rw [beL_length]; omega), beL_length]; exact hlt
      have hcell := hown.cell hl
      have hfree := hown.free k
      have hset := hown.set k ((beL n width).getD k 0)
      rw [fillL_set _ _ (by rw [beL_length]; exact hlt), beL_getD n width k hlt] at hset
      have hb1 := hb.setCell (p := ⟨w.heap.size, k, none⟩) (Nat.le_refl _) (.int .u8 (n / 2 ^ (8 * (width - 1 - k)) % 256))
      have HS := Lib.hid hset; clear hset
      have HB := Lib.hid hb1; clear hb1
      clear hown hb hl
      go_wp2
      go_roundw
      case rel => exact ⟨k + 1, by omega, by go_num, HS.out, HB.out⟩
      case measure => simp [intOf]; omega
    · obtain rfl : k = width := by omega
      have e1 : fillL (beL n k) k = beL n k := by
        have := fillL_all (beL n k)
        rwa [beL_length] at this
      rw [e1] at hown
      have hc1 := run_string_own Tryd.underlying30 Tryd.underlying5 hown 9 Tryd.underlying9
      clear e1
      go_wp2
      go_ret
      exact ⟨rfl, hb⟩
theorem c_impl_EncodeFixed (n width : Int) (w : World) (h1 : n < 9223372036854775808) (h2 : -9223372036854775808 ≤ width) (h3 : width < 9223372036854775808) :
    Calls Tryd.prog 16 #[.int .i64 n, .int .i64 width] w fun e w' => e = .returned (.string (encF n width)) ∧ Below w.heap.size w w' := by
  cases hok : encFOk n width with
  | true =>
    have hd : encF n width = strOfNums (beL n width.toNat) := by simp [encF, hok]
    rw [hd]
    simp only [encFOk, Bool.and_eq_true, decide_eq_true_eq] at hok
    have hb := inB_true.1 hok.1.1
    obtain ⟨k, rfl⟩ := Int.eq_ofNat_of_zero_le (show 0 ≤ width by omega)
    rw [Int.toNat_natCast] at hok ⊢
    exact c_impl_EncodeFixed_ok n k w (by omega) hok.1.2 h1 (by simp [hok.2])
  | false =>
    have hd : encF n width = ⟨#[]⟩ := by simp [encF, hok]
    rw [hd]
    clear hd
    by_cases hw : width < 1
    · clear hok
      go_enter Tryd.func16, Tryd.ntmps16
      go_wp2
      go_ret
      exact ⟨rfl, Below.refl _ _⟩
    · by_cases hw7 : 7 < width
      · clear hok
        go_enter Tryd.func16, Tryd.ntmps16
        go_wp2
        go_ret
        exact ⟨rfl, Below.refl _ _⟩
      · by_cases h0 : n < 0
        · clear hok
          go_enter Tryd.func16, Tryd.ntmps16
          go_wp2
          go_ret
          exact ⟨rfl, Below.refl _ _⟩
        · have hin : inB width 1 7 = true := inB_true.2 (by omega)
          obtain ⟨k, rfl⟩ := Int.eq_ofNat_of_zero_le (show 0 ≤ width by omega)
          have hz : (n / 2 ^ (8 * k) != 0) = true := by
            simp only [encFOk, hin, Bool.true_and, Bool.and_eq_false_iff, decide_eq_false_iff_not, Int.toNat_natCast] at hok
            rcases hok with h | h
            · omega
            · simpa using h
          clear hok hin
          go_enter Tryd.func16, Tryd.ntmps16
          go_wp2
          go_ret
          exact ⟨rfl, Below.refl _ _⟩
theorem EBs : IntElem Tryd.prog 30 5 .u8 1 := ⟨Tryd.underlying30, Tryd.underlying5, by kernel_rfl, by decide⟩
set_option maxHeartbeats 400000 in
theorem c_spec_EncodeFixed_in (n : Int) (width : Nat) (w : World) (hw : 1 ≤ width ∧ width ≤ 7) (h0 : 0 ≤ n) (h1 : n < 9223372036854775808) :
    Calls Tryd.prog 18 #[.int .i64 n, .int .i64 width] w fun e w' => e = .returned (.string (if 0 < n / 2 ^ (8 * width) then ⟨#[]⟩ else strOfNums (beL n width))) ∧ Below w.heap.size w w' := by
  have hin : inB (width : Int) 1 7 = true := inB_true.2 (by omega)
  go_enter Tryd.func18, Tryd.ntmps18
  go_wp2_with (go_at_call 36; refine (c_l1In _ _ _ _).mono ?_; rintro e w' ⟨rfl, rfl⟩)
  go_loopw [0, 5, 6] (fun nv sv i wr => ∃ k : Nat, k ≤ width ∧ i = .int .i64 k ∧ nv = .int .i64 (n / 2 ^ (8 * k)) ∧ sv = .string (strOfNums (beL n k)) ∧ Below w.heap.size w wr) (fun _ _ i _ => width - (intOf i).toNat)
  case atStart => exact ⟨0, Nat.zero_le _, rfl, by simp, rfl, Below.refl _ _⟩
  case round =>
    clear hin
    obtain ⟨k, hk, rfl, rfl, rfl, hb⟩ := hrel
    have hB : w.heap.size ≤ wr.heap.size := hb.size
    by_cases hlt : k < width
    · have hp : (0 : Int) < 2 ^ (8 * k) := Int.pow_pos (by decide)
      have hq0 : 0 ≤ n / 2 ^ (8 * k) := Int.ediv_nonneg h0 (by omega)
      have hq1 : n / 2 ^ (8 * k) < 9223372036854775808 := Int.lt_of_le_of_lt (Int.ediv_le_self _ h0) h1
      have hnext : n / 2 ^ (8 * k) / 256 = n / 2 ^ (8 * (k + 1)) := by
        rw [Int.ediv_ediv_of_nonneg (Int.le_of_lt hp), show 8 * (k + 1) = 8 * k + 8 by omega, Int.pow_add]; rfl
      have HN := Lib.hid hnext; clear hnext
      have hlit := OwnI.lit wr w.heap.size 5 .u8 [n / 2 ^ (8 * k) % 256] hB (by simp)
      have hc1 : (convert 30 9 (.slice (some ⟨wr.heap.size, 0, none⟩) 1 1)).run Tryd.prog (wr.alloc (.cells #[.int .u8 (n / 2 ^ (8 * k) % 256)] 5)) = .ok (.string (strOfNums [n / 2 ^ (8 * k) % 256])) (wr.alloc (.cells #[.int .u8 (n / 2 ^ (8 * k) % 256)] 5)) :=
        run_string_own Tryd.underlying30 Tryd.underlying5 hlit 9 Tryd.underlying9
      have hb1 := hb.alloc hB (.cells #[.int .u8 (n / 2 ^ (8 * k) % 256)] 5)
      have hsz : (strOfNums (beL n k)).size = k := by rw [strOfNums_size, beL_length]
      have hsz1 : (strOfNums [n / 2 ^ (8 * k) % 256]).size = 1 := by rw [strOfNums_size]; rfl
      have hadd := run_string_add_sum (P := Tryd.prog) (wr.alloc (.cells #[.int .u8 (n / 2 ^ (8 * k) % 256)] 5)) (strOfNums [n / 2 ^ (8 * k) % 256]) (strOfNums (beL n k)) (by omega)
      have hcat : strOfNums [n / 2 ^ (8 * k) % 256] ++ strOfNums (beL n k) = strOfNums (beL n (k + 1)) := by rw [strOfNums_append, beL_succ]; rfl
      rw [hcat] at hadd
      clear hcat hlit hsz hsz1
      generalize n / 2 ^ (8 * k) = q at *
      have HB := Lib.hid hb1; clear hb1 hb
      go_wp2
      go_roundw
      case rel => exact ⟨k + 1, by omega, by go_num, by rw [HN.out], rfl, HB.out⟩
      case measure => simp [intOf]; omega
    · obtain rfl : k = width := by omega
      by_cases hz : 0 < n / 2 ^ (8 * k)
      · have hpos : (if 0 < n / 2 ^ (8 * k) then (⟨#[]⟩ : ByteArray) else strOfNums (beL n k)) = ⟨#[]⟩ := if_pos hz
        have HP := Lib.hid hpos; clear hpos
        go_wp2
        go_ret
        exact ⟨rfl, hb⟩
      · have hpos : (if 0 < n / 2 ^ (8 * k) then (⟨#[]⟩ : ByteArray) else strOfNums (beL n k)) = strOfNums (beL n k) := if_neg hz
        have HP := Lib.hid hpos; clear hpos
        go_wp2
        go_ret
        exact ⟨rfl, hb⟩
theorem c_spec_EncodeFixed (n width : Int) (w : World) (h1 : n < 9223372036854775808) (h2 : -9223372036854775808 ≤ width) (h3 : width < 9223372036854775808) :
    Calls Tryd.prog 18 #[.int .i64 n, .int .i64 width] w fun e w' => e = .returned (.string (encF n width)) ∧ Below w.heap.size w w' := by
  cases hin : inB width 1 7 with
  | false =>
    have hd : encF n width = ⟨#[]⟩ := by simp [encF, encFOk, hin]
    rw [hd]
    clear hd
    go_enter Tryd.func18, Tryd.ntmps18
    go_wp2_with (go_at_call 36; refine (c_l1In _ _ _ _).mono ?_; rintro e w' ⟨rfl, rfl⟩)
    go_ret
    exact ⟨rfl, Below.refl _ _⟩
  | true =>
    by_cases h0 : n < 0
    · have hd : encF n width = ⟨#[]⟩ := by simp [encF, encFOk, hin]; omega
      rw [hd]
      clear hd
      go_enter Tryd.func18, Tryd.ntmps18
      go_wp2_with (go_at_call 36; refine (c_l1In _ _ _ _).mono ?_; rintro e w' ⟨rfl, rfl⟩)
      go_ret
      exact ⟨rfl, Below.refl _ _⟩
    · have hb := inB_true.1 hin
      obtain ⟨k, rfl⟩ := Int.eq_ofNat_of_zero_le (show 0 ≤ width by omega)
      have hp : (0 : Int) < 2 ^ (8 * k) := Int.pow_pos (by decide)
      have hq0 : 0 ≤ n / 2 ^ (8 * k) := Int.ediv_nonneg (by omega) (by omega)
      have hd : encF n k = if 0 < n / 2 ^ (8 * k) then ⟨#[]⟩ else strOfNums (beL n k) := by
        by_cases hz : 0 < n / 2 ^ (8 * k)
        · rw [if_pos hz]
          have : encFOk n k = false := by simp [encFOk, hin]; omega
          simp [encF, this]
        · rw [if_neg hz]
          have : encFOk n k = true := by simp [encFOk, hin]; omega
          simp [encF, this]
      rw [hd]
      exact c_spec_EncodeFixed_in n k w (by omega) (by omega) h1
end Go.Proofs.YtfcgijnfiiaepaaDoor
