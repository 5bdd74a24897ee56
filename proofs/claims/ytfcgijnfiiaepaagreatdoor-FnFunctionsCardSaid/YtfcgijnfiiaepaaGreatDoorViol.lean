/- Contracts of ViolationOf and IsSubmodular, both packages. -/
import Derived.Test.YtfcgijnfiiaepaaGreatDoorFun2
namespace Go.Proofs.YtfcgijnfiiaepaaGreatDoor
set_option linter.unusedSimpArgs false
set_option linter.unusedVariables false
open Go.RowKit

/-- By how much the two elements add more together. -/
def exc (xs : List Int) (s i k : Nat) : Int := xs.getD (s ||| 2 ^ i ||| 2 ^ k) 0 + xs.getD s 0 - xs.getD (s ||| 2 ^ i) 0 - xs.getD (s ||| 2 ^ k) 0
/-- A set and two elements outside it, as one number: is it a violation? -/
def badC (n : Int) (xs : List Int) (c : Nat) : Bool :=
  decide (c / 8 % 8 < c % 8) && decide (((c % 8 : Nat) : Int) < n) && !bitB ((c / 64 : Nat) : Int) (c / 8 % 8) && !bitB ((c / 64 : Nat) : Int) (c % 8) && decide (0 < exc xs (c / 64) (c / 8 % 8) (c % 8))
def violC (n : Int) (xs : List Int) : Option Nat := if isFun n xs then (List.range (xs.length * 64)).find? (badC n xs) else none
/-- What ViolationOf returns. -/
def violL (n : Int) (xs : List Int) : List Int := match violC n xs with | some c => [((c / 64 : Nat) : Int), ((c / 8 % 8 : Nat) : Int), ((c % 8 : Nat) : Int)] | none => []
def violB (n : Int) (xs : List Int) : Bool := (violC n xs).isSome
/-- What IsSubmodular returns. -/
def subB (n : Int) (xs : List Int) : Bool := isFun n xs && !violB n xs
theorem badC_lt {n : Int} {xs : List Int} {c : Nat} (h : badC n xs c = true) : c / 8 % 8 < c % 8 ∧ ((c % 8 : Nat) : Int) < n := by
  simp only [badC, Bool.and_eq_true, decide_eq_true_eq] at h
  exact ⟨h.1.1.1.1, h.1.1.1.2⟩
theorem badC_eq {n : Int} {xs : List Int} {s i k : Nat} (hi : i < 8) (hk : k < 8) : badC n xs (s * 64 + i * 8 + k) = (decide (i < k) && decide ((k : Int) < n) && !bitB (s : Int) i && !bitB (s : Int) k && decide (0 < exc xs s i k)) := by
  have h1 : (s * 64 + i * 8 + k) / 64 = s := by omega
  have h2 : (s * 64 + i * 8 + k) / 8 % 8 = i := by omega
  have h3 : (s * 64 + i * 8 + k) % 8 = k := by omega
  rw [badC, h1, h2, h3]
theorem viol_notFun {n : Int} {xs : List Int} (h : isFun n xs = false) : violL n xs = [] ∧ violB n xs = false := by simp [violL, violB, violC, h]
theorem viol_some {n : Int} {xs : List Int} {s i k : Nat} (h : isFun n xs = true) (hs : s < xs.length) (hi : i < 8) (hk : k < 8) (hb : badC n xs (s * 64 + i * 8 + k) = true) (hn : ∀ c, c < s * 64 + i * 8 + k → badC n xs c = false) :
    violL n xs = [(s : Int), (i : Int), (k : Int)] ∧ violB n xs = true := by
  have hf : violC n xs = some (s * 64 + i * 8 + k) := by
    rw [violC, if_pos h, List.find?_range_eq_some]
    exact ⟨hb, by rw [List.mem_range]; omega, fun j hj => by simp [hn j hj]⟩
  have h1 : (s * 64 + i * 8 + k) / 64 = s := by omega
  have h2 : (s * 64 + i * 8 + k) / 8 % 8 = i := by omega
  have h3 : (s * 64 + i * 8 + k) % 8 = k := by omega
  simp only [violL, violB, hf, h1, h2, h3]
  exact ⟨trivial, rfl⟩
theorem viol_none {n : Int} {xs : List Int} (hn : ∀ c, c < xs.length * 64 → badC n xs c = false) : violL n xs = [] ∧ violB n xs = false := by
  have hf : violC n xs = none := by
    rw [violC]
    split
    · rw [List.find?_eq_none]
      intro c hc
      rw [List.mem_range] at hc
      simp [hn c hc]
    · rfl
  simp [violL, violB, hf]
/-- How the search goes on. -/
theorem viol_startK {n : Int} {xs : List Int} {s i : Nat} (hi : i < 7) (h : ∀ c, c < s * 64 + i * 8 → badC n xs c = false) : ∀ c, c < s * 64 + i * 8 + (i + 1) → badC n xs c = false := fun c hc => by
  by_cases hlt : c < s * 64 + i * 8
  · exact h c hlt
  · cases hb : badC n xs c with
    | false => rfl
    | true => have := badC_lt hb; omega
theorem viol_nextK {n : Int} {xs : List Int} {c0 : Nat} (h : ∀ c, c < c0 → badC n xs c = false) (hb : badC n xs c0 = false) : ∀ c, c < c0 + 1 → badC n xs c = false := fun c hc => by
  rcases Nat.lt_or_eq_of_le (Nat.le_of_lt_succ hc) with hlt | rfl
  · exact h c hlt
  · exact hb
theorem viol_endK {j : Nat} {xs : List Int} {s i k : Nat} (hi : i < 7) (hk : j ≤ k) (h : ∀ c, c < s * 64 + i * 8 + k → badC (j : Int) xs c = false) : ∀ c, c < s * 64 + (i + 1) * 8 → badC (j : Int) xs c = false := fun c hc => by
  by_cases hlt : c < s * 64 + i * 8 + k
  · exact h c hlt
  · cases hb : badC (j : Int) xs c with
    | false => rfl
    | true => have := badC_lt hb; omega
theorem viol_endI {j : Nat} {xs : List Int} {s i : Nat} (hj : j ≤ i) (h : ∀ c, c < s * 64 + i * 8 → badC (j : Int) xs c = false) : ∀ c, c < (s + 1) * 64 → badC (j : Int) xs c = false := fun c hc => by
  by_cases hlt : c < s * 64 + i * 8
  · exact h c hlt
  · cases hb : badC (j : Int) xs c with
    | false => rfl
    | true => have := badC_lt hb; omega
theorem or_mix (s p q : Nat) : (s ||| p) ||| (s ||| q) = s ||| p ||| q := by
  apply Nat.eq_of_testBit_eq
  intro i
  simp only [Nat.testBit_or]
  cases s.testBit i <;> simp
theorem or_lt3 {n : Int} {xs : List Int} {s i k : Nat} (h : isFun n xs = true) (hs : s < xs.length) (hi : (i : Int) < n) (hk : (k : Int) < n) : s ||| 2 ^ i ||| 2 ^ k < xs.length := or_lt h (or_lt h hs hi) hk
set_option maxRecDepth 20000 in
set_option maxHeartbeats 400000 in
theorem c_l3Bad (e0 : Int) (a : Option Addr) (n c : Nat) (xs : List Int) (s i k : Nat) (w : World) (h : Row .i64 w a n xs) (hf : isFun e0 xs = true) (hs : s < n) (hi : (i : Int) < e0) (hk : (k : Int) < e0) :
    Calls Tryz.prog 69 #[.slice a n c, .int .i64 s, .int .i64 i, .int .i64 k] w fun e w' => e = .returned (.bool (decide (0 < exc xs s i k))) ∧ ∃ q, w' = w.drewN q := by
  have hl := h.len
  have hle := isFun_le hf
  have hq := (isFun_true hf).1
  have hi5 : i < 5 := by omega
  have hk5 : k < 5 := by omega
  obtain ⟨b, off, rfl, hlt, hc⟩ := h.at_ (by omega)
  have hx0 := (isFun_true hf).2.2 s (by omega)
  have g0 := hc s hs
  obtain ⟨p, hp⟩ : ∃ p, p = 2 ^ i := ⟨_, rfl⟩
  obtain ⟨q, hqq⟩ : ∃ q, q = 2 ^ k := ⟨_, rfl⟩
  have hA := or_lt (k := s) (j := i) hf (by omega) hi
  have hB := or_lt (k := s) (j := k) hf (by omega) hk
  have hC := or_lt3 (s := s) (i := i) (k := k) hf (by omega) hi hk
  have hp5 := two_pow_lt5 i hi5
  have hq5 := two_pow_lt5 k hk5
  rw [← hp] at hA hC hp5
  rw [← hqq] at hB hC hq5
  obtain ⟨A, hAe⟩ : ∃ A, A = s ||| p := ⟨_, rfl⟩
  obtain ⟨B, hBe⟩ : ∃ B, B = s ||| q := ⟨_, rfl⟩
  obtain ⟨C, hCe⟩ : ∃ C, C = s ||| p ||| q := ⟨_, rfl⟩
  have o1 := i64_or_nat s p (by omega) (by omega)
  have o2 := i64_or_nat s q (by omega) (by omega)
  rw [← hAe] at hA o1
  rw [← hBe] at hB o2
  rw [← hCe] at hC
  have o3 := i64_or_nat A q (by omega) (by omega)
  rw [hAe, ← hCe, ← hAe] at o3
  have gA := hc A (by omega)
  have gB := hc B (by omega)
  have gC := hc C (by omega)
  have hxA := (isFun_true hf).2.2 A hA
  have hxB := (isFun_true hf).2.2 B hB
  have hxC := (isFun_true hf).2.2 C hC
  have hst : exc xs s i k = xs.getD C 0 + xs.getD s 0 - xs.getD A 0 - xs.getD B 0 := by rw [hCe, hAe, hBe, hp, hqq]; rfl
  have a0 : (0 : Int) ≤ s := by omega
  have a1 : (s : Int) < (n : Int) := by omega
  have a2 : (0 : Int) ≤ i := by omega
  have a3 : (0 : Int) ≤ k := by omega
  have a4 : (0 : Int) ≤ A := by omega
  have a5 : (A : Int) < (n : Int) := by omega
  have a6 : (0 : Int) ≤ B := by omega
  have a7 : (B : Int) < (n : Int) := by omega
  have a8 : (0 : Int) ≤ C := by omega
  have a9 : (C : Int) < (n : Int) := by omega
  obtain ⟨x, hx⟩ : ∃ x, x = xs.getD s 0 := ⟨_, rfl⟩
  obtain ⟨y, hy⟩ : ∃ y, y = xs.getD A 0 := ⟨_, rfl⟩
  obtain ⟨z, hz⟩ : ∃ z, z = xs.getD B 0 := ⟨_, rfl⟩
  obtain ⟨u, hu⟩ : ∃ u, u = xs.getD C 0 := ⟨_, rfl⟩
  rw [← hx] at g0 hx0 hst
  rw [← hy] at gA hxA hst
  rw [← hz] at gB hxB hst
  rw [← hu] at gC hxC hst
  have w1 : IntKind.i64.wrap (y + z) = y + z := IntWalk.i64_in _ (by omega)
  have w2 : IntKind.i64.wrap (u + x) = u + x := IntWalk.i64_in _ (by omega)
  have hd : decide (0 < exc xs s i k) = decide (y + z < u + x) := by rw [hst]; rw [Bool.eq_iff_iff]; simp; omega
  have HD := Lib.hid hd
  obtain ⟨hz1, hs1, hs1'⟩ := shl_facts i p hp (Nat.lt_trans hi5 (by decide))
  obtain ⟨hz2, hs2, hs2'⟩ := shl_facts k q hqq (Nat.lt_trans hk5 (by decide))
  clear hd hst hx hy hz hu hAe hBe hCe hp hqq hc hf hl hp5 hq5 hx0 hxA hxB hxC
  go_enter Tryz.func69, Tryz.ntmps69
  go_wp2_with fail
  go_quiet (fail)
  go_wp2
  go_ret
  exact ⟨ret_bool HD.out.symm, by first | exact ⟨_, rfl⟩ | exact drewN_ex _ _ _⟩
set_option maxRecDepth 20000 in
set_option maxHeartbeats 400000 in
theorem c_excess (e0 : Int) (a : Option Addr) (n c : Nat) (xs : List Int) (s i k : Nat) (w : World) (h : Row .i64 w a n xs) (hf : isFun e0 xs = true) (hs : s < n) (hi : (i : Int) < e0) (hk : (k : Int) < e0) :
    Calls Tryz.prog 72 #[.agg #[.int .i64 e0, .slice a n c], .int .i64 s, .int .i64 i, .int .i64 k] w fun e w' => e = .returned (.int .i64 (exc xs s i k)) ∧ Below w.heap.size w w' := by
  have hbel := (Below.refl w.heap.size w).alloc (Nat.le_refl _) (.cells #[.int .i64 e0, .slice a n c] 26)
  have hl := h.len
  have hle := isFun_le hf
  have hq := (isFun_true hf).1
  have hi5 : i < 5 := by omega
  have hk5 : k < 5 := by omega
  obtain ⟨b, off, rfl, hlt, hc⟩ := h.at_ (by omega)
  have hx0 := (isFun_true hf).2.2 s (by omega)
  have g0 := hc s hs
  obtain ⟨p, hp⟩ : ∃ p, p = 2 ^ i := ⟨_, rfl⟩
  obtain ⟨q, hqq⟩ : ∃ q, q = 2 ^ k := ⟨_, rfl⟩
  have hA := or_lt (k := s) (j := i) hf (by omega) hi
  have hB := or_lt (k := s) (j := k) hf (by omega) hk
  have hC := or_lt3 (s := s) (i := i) (k := k) hf (by omega) hi hk
  have hp5 := two_pow_lt5 i hi5
  have hq5 := two_pow_lt5 k hk5
  rw [← hp] at hA hC hp5
  rw [← hqq] at hB hC hq5
  obtain ⟨A, hAe⟩ : ∃ A, A = s ||| p := ⟨_, rfl⟩
  obtain ⟨B, hBe⟩ : ∃ B, B = s ||| q := ⟨_, rfl⟩
  obtain ⟨C, hCe⟩ : ∃ C, C = s ||| p ||| q := ⟨_, rfl⟩
  have o1 := i64_or_nat s p (by omega) (by omega)
  have o2 := i64_or_nat s q (by omega) (by omega)
  rw [← hAe] at hA o1
  rw [← hBe] at hB o2
  rw [← hCe] at hC
  have o3 := i64_or_nat A B (by omega) (by omega)
  rw [show A ||| B = C by rw [hAe, hBe, hCe, or_mix]] at o3
  have gA := hc A (by omega)
  have gB := hc B (by omega)
  have gC := hc C (by omega)
  have hxA := (isFun_true hf).2.2 A hA
  have hxB := (isFun_true hf).2.2 B hB
  have hxC := (isFun_true hf).2.2 C hC
  have hst : exc xs s i k = xs.getD C 0 + xs.getD s 0 - xs.getD A 0 - xs.getD B 0 := by rw [hCe, hAe, hBe, hp, hqq]; rfl
  have a0 : (0 : Int) ≤ s := by omega
  have a1 : (s : Int) < (n : Int) := by omega
  have a2 : (0 : Int) ≤ i := by omega
  have a3 : (0 : Int) ≤ k := by omega
  have a4 : (0 : Int) ≤ A := by omega
  have a5 : (A : Int) < (n : Int) := by omega
  have a6 : (0 : Int) ≤ B := by omega
  have a7 : (B : Int) < (n : Int) := by omega
  have a8 : (0 : Int) ≤ C := by omega
  have a9 : (C : Int) < (n : Int) := by omega
  obtain ⟨x, hx⟩ : ∃ x, x = xs.getD s 0 := ⟨_, rfl⟩
  obtain ⟨y, hy⟩ : ∃ y, y = xs.getD A 0 := ⟨_, rfl⟩
  obtain ⟨z, hz⟩ : ∃ z, z = xs.getD B 0 := ⟨_, rfl⟩
  obtain ⟨u, hu⟩ : ∃ u, u = xs.getD C 0 := ⟨_, rfl⟩
  rw [← hx] at g0 hx0 hst
  rw [← hy] at gA hxA hst
  rw [← hz] at gB hxB hst
  rw [← hu] at gC hxC hst
  have w1 : IntKind.i64.wrap (u + x) = u + x := IntWalk.i64_in _ (by omega)
  have w2 : IntKind.i64.wrap (u + x - y) = u + x - y := IntWalk.i64_in _ (by omega)
  have w3 : IntKind.i64.wrap (u + x - y - z) = u + x - y - z := IntWalk.i64_in _ (by omega)
  have HD := Lib.hid hst
  obtain ⟨hz1, hs1, hs1'⟩ := shl_facts i p hp (Nat.lt_trans hi5 (by decide))
  obtain ⟨hz2, hs2, hs2'⟩ := shl_facts k q hqq (Nat.lt_trans hk5 (by decide))
  clear hst hx hy hz hu hAe hBe hCe hp hqq hc hf hl hp5 hq5 hx0 hxA hxB hxC
  go_enter Tryz.func72, Tryz.ntmps72
  go_wp2_with fail
  go_quiet (fail)
  go_wp2
  go_ret
  exact ⟨ret_int HD.out.symm, below_drewN hbel _⟩
/-- A slice of integers in memory that the call made, and a bool. -/
def RetIntsB (et : TypeId) (xs : List Int) (b : Bool) (w : World) (e : Ending) (w' : World) : Prop :=
  ∃ a c, e = .returned (.tuple #[.slice a xs.length c, .bool b]) ∧ OwnI w' w.heap.size et .i64 (.slice a xs.length c) xs ∧ xs.length ≤ 1048576 ∧ Below w.heap.size w w'
theorem bit_facts (s i : Nat) (hs : s < 4294967296) : bits .and .i64 ((s : Int) / 2 ^ i) 1 = (s : Int) / 2 ^ i % 2 ∧ ((s : Int) / 2 ^ i % 2 == 0) = !bitB (s : Int) i := by
  have h0 : (0 : Int) ≤ (s : Int) / 2 ^ i := Int.ediv_nonneg (by omega) (Int.le_of_lt (Int.pow_pos (by decide)))
  have h1 : (s : Int) / 2 ^ i ≤ (s : Int) := Int.ediv_le_self _ (by omega)
  refine ⟨and1 _ h0 (by omega), ?_⟩
  rw [bitB]
  generalize (s : Int) / 2 ^ i = x at *
  rw [Bool.eq_iff_iff]
  simp
  omega
set_option maxRecDepth 20000 in
set_option maxHeartbeats 1000000 in
theorem c_spec_ViolationOf (e0 : Int) (a : Option Addr) (n c : Nat) (xs : List Int) (w : World) (h : Row .i64 w a n xs) (hn : n ≤ 1048576) :
    Calls Tryz.prog 43 #[.agg #[.int .i64 e0, .slice a n c]] w (RetIntsB 3 (violL e0 xs) (violB e0 xs) w) := by
  have bel := (Below.refl w.heap.size w).alloc (Nat.le_refl _) (.cells #[.int .i64 e0, .slice a n c] 26)
  have f := FBox.new w 26 e0 a n c
  cases hf : isFun e0 xs with
  | false =>
    obtain ⟨hL, hB⟩ := viol_notFun hf
    rw [hL, hB]
    clear hL hB
    go_enter Tryz.func43, Tryz.ntmps43
    go_wp2_with fail
    refine wp_loop_rounds 1 ?_
    rw [rounds_succ]
    go_wp2_with fail
    refine (c_spec_IsFunction _ _ _ _ _ _ (h.alloc _) hn).mono ?_
    rw [hf]
    rintro e w1 ⟨rfl, hb1⟩
    replace bel := bel.trans (hb1.mono bel.size)
    go_wp2
    go_ret2
    exact ⟨_, 0, rfl, World.ownsRow_made w1 #[] 0 bel.size (by decide) rfl, by simp, bel.alloc bel.size _⟩
  | true =>
    have hl := h.len
    have hle := isFun_le hf
    obtain ⟨⟨q0, q1⟩, _, _⟩ := isFun_true hf
    obtain ⟨j, rfl⟩ := Int.eq_ofNat_of_zero_le q0
    go_enter Tryz.func43, Tryz.ntmps43
    go_wp2_with fail
    go_loopw [4] (fun i wr => ∃ s : Nat, i = .int .i64 s ∧ s ≤ n ∧ (∀ c, c < s * 64 → badC (j : Int) xs c = false) ∧ Below w.heap.size w wr ∧ FBox wr w.heap.size 26 j a n c) (fun i _ => n - (intOf i).toNat)
    case atStart => exact ⟨0, rfl, Nat.zero_le _, fun c hc => by omega, bel, f⟩
    case round =>
      clear bel f
      obtain ⟨s, rfl, hs, hall, bel, f⟩ := hrel
      have HA := Lib.hid hall; clear hall
      have k0 := f.c0
      have k1 := f.c1
      go_wp2_with fail
      refine (c_spec_IsFunction _ _ _ _ _ _ (h.below bel) hn).mono ?_
      rw [hf]
      rintro e w1 ⟨rfl, hb1⟩
      replace bel := bel.trans (hb1.mono bel.size)
      replace f := f.below hb1
      replace k0 := f.c0
      replace k1 := f.c1
      clear hb1
      by_cases hlt : s < n
      · go_wp2_with fail
        go_loopw [5] (fun i wr => ∃ i' : Nat, i = .int .i64 i' ∧ i' ≤ j ∧ (∀ c, c < s * 64 + i' * 8 → badC (j : Int) xs c = false) ∧ Below w.heap.size w wr ∧ FBox wr w.heap.size 26 j a n c) (fun i _ => j - (intOf i).toNat)
        case atStart => exact ⟨0, rfl, Nat.zero_le _, fun c hc => HA.out c (by omega), bel, f⟩
        case round =>
          clear bel f k0 k1 HA
          obtain ⟨i, rfl, hi, hall, bel, f⟩ := hrel
          have HI := Lib.hid hall; clear hall
          have k0 := f.c0
          have k1 := f.c1
          by_cases hlt2 : i < j
          · go_wp2_with fail
            go_loopw [6] (fun v wr => ∃ k' : Nat, v = .int .i64 k' ∧ i + 1 ≤ k' ∧ k' ≤ j ∧ (∀ c, c < s * 64 + i * 8 + k' → badC (j : Int) xs c = false) ∧ Below w.heap.size w wr ∧ FBox wr w.heap.size 26 j a n c) (fun v _ => j - (intOf v).toNat)
            case atStart => exact ⟨i + 1, by go_num, Nat.le_refl _, by omega, viol_startK (by omega) HI.out, bel, f⟩
            case round =>
              clear bel f k0 k1 HI
              obtain ⟨k, rfl, hk0, hk, hall, bel, f⟩ := hrel
              have HK := Lib.hid hall; clear hall
              have k0 := f.c0
              have k1 := f.c1
              by_cases hlt3 : k < j
              · have hbc := badC_eq (n := (j : Int)) (xs := xs) (s := s) (i := i) (k := k) (by omega) (by omega)
                rw [decide_eq_true (show i < k by omega), decide_eq_true (show (k : Int) < (j : Int) by omega), Bool.true_and, Bool.true_and] at hbc
                obtain ⟨b1, b1'⟩ := bit_facts s i (by omega)
                obtain ⟨b2, b2'⟩ := bit_facts s k (by omega)
                have C3 := fun w hw => c_l3Bad (j : Int) a n c xs s i k w hw hf hlt (by omega) (by omega)
                have p0 : (0 : Int) ≤ s := by omega
                have p1 : (0 : Int) ≤ i := by omega
                have p2 : (0 : Int) ≤ k := by omega
                cases t1 : bitB (s : Int) i with
                | true =>
                  rw [t1] at hbc b1'
                  have HN := Lib.hid (viol_nextK HK.out (by rw [hbc]; rfl))
                  clear hbc t1
                  go_wp2_with fail
                  go_roundw
                  case rel => exact ⟨k + 1, by go_num, by omega, by omega, HN.out, bel, f⟩
                  case measure => simp [intOf]; omega
                | false =>
                  rw [t1] at hbc b1'
                  cases t2 : bitB (s : Int) k with
                  | true =>
                    rw [t2] at hbc b2'
                    have HN := Lib.hid (viol_nextK HK.out (by rw [hbc]; rfl))
                    clear hbc t1 t2
                    go_wp2_with fail
                    go_roundw
                    case rel => exact ⟨k + 1, by go_num, by omega, by omega, HN.out, bel, f⟩
                    case measure => simp [intOf]; omega
                  | false =>
                    rw [t2] at hbc b2'
                    simp only [Bool.not_false, Bool.true_and] at hbc b1' b2'
                    cases t3 : decide (0 < exc xs s i k) with
                    | false =>
                      rw [t3] at hbc C3
                      have HN := Lib.hid (viol_nextK HK.out hbc)
                      clear hbc t1 t2 t3
                      go_wp2_with fail
                      refine (C3 _ (h.below bel)).mono ?_
                      rintro e w2 ⟨rfl, q, rfl⟩
                      go_wp2
                      go_roundw
                      case rel => exact ⟨k + 1, by go_num, by omega, by omega, HN.out, below_drewN bel _, f.drewN _⟩
                      case measure => simp [intOf]; omega
                    | true =>
                      rw [t3] at hbc C3
                      obtain ⟨hL, hB⟩ := viol_some hf (show s < xs.length by omega) (by omega) (by omega) hbc HK.out
                      have HL := Lib.hid hL
                      have HB := Lib.hid hB
                      clear hbc t1 t2 t3 hL hB
                      go_wp2_with fail
                      refine (C3 _ (h.below bel)).mono ?_
                      rintro e w2 ⟨rfl, q, rfl⟩
                      go_wp2
                      go_ret2
                      have hown := OwnI.lit (wr.drewN q) w.heap.size 3 .i64 [(s : Int), (i : Int), (k : Int)] bel.size (by simp)
                      exact ⟨_, 3, by rw [HL.out, HB.out]; rfl, by rw [HL.out]; exact hown, by rw [HL.out]; simp, (below_drewN bel q).alloc bel.size _⟩
              · obtain rfl : k = j := by omega
                have HN := Lib.hid (viol_endK (by omega) (Nat.le_refl _) HK.out)
                go_wp2
                go_roundw
                case rel => exact ⟨i + 1, by go_num, by omega, HN.out, bel, f⟩
                case measure => simp [intOf]; omega
          · obtain rfl : i = j := by omega
            have HN := Lib.hid (viol_endI (Nat.le_refl _) HI.out)
            go_wp2
            go_roundw
            case rel => exact ⟨s + 1, by go_num, by omega, HN.out, bel, f⟩
            case measure => simp [intOf]; omega
      · obtain ⟨hL, hB⟩ := viol_none (n := (j : Int)) (xs := xs) (fun c hc => HA.out c (by omega))
        have HL := Lib.hid hL
        have HB := Lib.hid hB
        clear hL hB
        go_wp2
        go_ret2
        have hown := World.ownsRow_made (base := w.heap.size) (e := 3) (size := 1) w1 #[] 0 bel.size (by decide) rfl
        exact ⟨_, 0, by rw [HL.out, HB.out]; rfl, by rw [HL.out]; exact hown, by rw [HL.out]; simp, bel.alloc bel.size _⟩
end Go.Proofs.YtfcgijnfiiaepaaGreatDoor
