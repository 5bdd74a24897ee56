/- Contracts of IsConcaveList of both packages. -/
import Derived.Test.YtfeobejmkmhjhaaVec
namespace Go.Proofs.Ytfeobejmkmhjhaa
set_option linter.unusedSimpArgs false
set_option linter.unusedVariables false
open Go.RowKit

/-- The difference at i does not grow. -/
def concAt (xs : List Int) (i : Nat) : Bool := decide (xs.getD i 0 - xs.getD (i - 1) 0 ≤ xs.getD (i - 1) 0 - xs.getD (i - 2) 0)
def concTo (xs : List Int) (k : Nat) : Bool := (List.range k).all fun i => decide (i < 2) || concAt xs i
theorem concTo_succ (xs : List Int) (k : Nat) : concTo xs (k + 1) = (concTo xs k && (decide (k < 2) || concAt xs k)) := by
  simp [concTo, List.range_succ]
theorem concTo_two (xs : List Int) (k : Nat) (h : k ≤ 2) : concTo xs k = true := by
  simp only [concTo, List.all_eq_true, List.mem_range]
  intro i hi
  simp; omega
theorem concTo_false (xs : List Int) (k : Nat) (hk : k < xs.length) (h2 : 2 ≤ k) (h : concAt xs k = false) : concTo xs xs.length = false := by
  cases hq : concTo xs xs.length with
  | false => rfl
  | true =>
    simp only [concTo, List.all_eq_true, List.mem_range] at hq
    have := hq k hk
    simp [h] at this
    omega
/-- What IsConcaveList returns. -/
def concR (xs : List Int) : Bool := inB xs.length 1 6 && allIn xs (-1000) 1000 && concTo xs xs.length
theorem concR_len (xs : List Int) (h : inB xs.length 1 6 = false) : concR xs = false := by simp [concR, h]

set_option maxHeartbeats 800000 in
theorem c_impl_IsConcaveList (a : Option Addr) (n c : Nat) (xs : List Int) (w : World) (h : Row .i64 w a n xs) (hn : n ≤ 1048576) :
    Calls Try.prog 57 #[.slice a n c] w fun e w' => e = .returned (.bool (concR xs)) ∧ ∃ q, w' = w.drewN q := by
  have hl := h.len
  subst hl
  cases h1 : inB xs.length 1 6 with
  | false =>
    have hr : concR xs = false := by simp [concR, h1]
    rw [hr]
    clear hr
    go_enter Try.func57, Try.ntmps57
    go_wp2_with (go_at_call 105; refine (c_within _ _ _ _).mono ?_; rintro e w' ⟨rfl, rfl⟩)
    go_ret
    exact ⟨rfl, 0, rfl⟩
  | true =>
    cases h2 : allIn xs (-1000) 1000 with
    | false =>
      have hr : concR xs = false := by simp [concR, h2]
      rw [hr]
      clear hr
      go_enter Try.func57, Try.ntmps57
      go_wp2_with (first | (go_at_call 105; refine (c_within _ _ _ _).mono ?_; rintro e w' ⟨rfl, rfl⟩) | (go_at_call 99; refine (c_areWithin _ _ _ _ _ _ _ h hn).mono ?_; rintro e w' ⟨rfl, q, rfl⟩))
      go_ret
      exact ⟨rfl, q, rfl⟩
    | true =>
      have hr : concR xs = concTo xs xs.length := by simp [concR, h1, h2]
      rw [hr]
      have hbd := fun j hj => allIn_getD h2 j hj
      have HBD := Lib.hid hbd
      have hlen := inB_true.1 h1
      clear hr hbd
      go_enter Try.func57, Try.ntmps57
      go_wp2_with (first | (go_at_call 105; refine (c_within _ _ _ _).mono ?_; rintro e w' ⟨rfl, rfl⟩) | (go_at_call 99; refine (c_areWithin _ _ _ _ _ _ _ h hn).mono ?_; rintro e w' ⟨rfl, q, rfl⟩))
      go_loopw [3] (fun i wr => ∃ k : Nat, i = .int .i64 k ∧ 2 ≤ k ∧ (k ≤ xs.length ∨ k ≤ 2) ∧ concTo xs k = true ∧ ∃ q, wr = w.drewN q) (fun i _ => xs.length - (intOf i).toNat)
      case atStart => exact ⟨2, rfl, Nat.le_refl _, .inr (Nat.le_refl _), concTo_two _ _ (Nat.le_refl _), q, rfl⟩
      case round =>
        clear h1 h2
        obtain ⟨k, rfl, hk2, hk, hall, q, rfl⟩ := hrel
        have HA := Lib.hid hall; clear hall
        by_cases hlt : k < xs.length
        · obtain ⟨b, off, rfl, hblt, hc⟩ := h.at_ (by omega)
          have g0 := hc k hlt
          have g1 := hc (k - 1) (by omega)
          have g2 := hc (k - 2) (by omega)
          have b0 := HBD.out k hlt
          have b1 := HBD.out (k - 1) (by omega)
          have b2 := HBD.out (k - 2) (by omega)
          obtain ⟨x0, hx0⟩ : ∃ x, x = xs.getD k 0 := ⟨_, rfl⟩
          obtain ⟨x1, hx1⟩ : ∃ x, x = xs.getD (k - 1) 0 := ⟨_, rfl⟩
          obtain ⟨x2, hx2⟩ : ∃ x, x = xs.getD (k - 2) 0 := ⟨_, rfl⟩
          have hcat : concAt xs k = decide (x0 - x1 ≤ x1 - x2) := by rw [concAt, ← hx0, ← hx1, ← hx2]
          rw [← hx0] at g0 b0
          rw [← hx1] at g1 b1
          rw [← hx2] at g2 b2
          have hs := concTo_succ xs k
          rw [hcat, show decide (k < 2) = false by simp; omega, Bool.false_or, HA.out, Bool.true_and] at hs
          have hcf := concTo_false xs k hlt hk2
          rw [hcat] at hcf
          have HS := Lib.hid hs
          have HCF := Lib.hid hcf
          clear hcat hs hcf hx0 hx1 hx2 hc
          have hi0 : (0 : Int) ≤ k := by omega
          have hi1 : (k : Int) < (xs.length : Int) := by omega
          have hj0 : (0 : Int) ≤ (k : Int) - 1 := by omega
          have hj1 : (k : Int) - 1 < (xs.length : Int) := by omega
          have hl0 : (0 : Int) ≤ (k : Int) - 2 := by omega
          have hl1 : (k : Int) - 2 < (xs.length : Int) := by omega
          by_cases hle : x0 - x1 ≤ x1 - x2
          · have hw1 : IntKind.i64.wrap ((k : Int) - 1) = (k : Int) - 1 := IntWalk.i64_in _ (by omega)
            have hw2 : IntKind.i64.wrap ((k : Int) - 2) = (k : Int) - 2 := IntWalk.i64_in _ (by omega)
            have ht1 : ((k : Int) - 1).toNat = k - 1 := by omega
            have ht2 : ((k : Int) - 2).toNat = k - 2 := by omega
            have hw3 : IntKind.i64.wrap (x0 - x1) = x0 - x1 := IntWalk.i64_in _ (by omega)
            have hw4 : IntKind.i64.wrap (x1 - x2) = x1 - x2 := IntWalk.i64_in _ (by omega)
            have hdec : decide (x1 - x2 < x0 - x1) = false := by simp; omega
            go_wp2_with fail
            go_quiet (fail)
            clear hw1 hw2 hw3 hw4 ht1 ht2
            go_wp2
            go_roundw
            case rel => exact ⟨k + 1, by go_num, by omega, by omega, by rw [HS.out]; simpa using hle, by first | exact ⟨_, rfl⟩ | exact drewN_ex _ _ _⟩
            case measure => simp [intOf]; omega
          · have hf := HCF.out (by simpa using hle)
            have HF := Lib.hid hf; clear hf
            have hw1 : IntKind.i64.wrap ((k : Int) - 1) = (k : Int) - 1 := IntWalk.i64_in _ (by omega)
            have hw2 : IntKind.i64.wrap ((k : Int) - 2) = (k : Int) - 2 := IntWalk.i64_in _ (by omega)
            have ht1 : ((k : Int) - 1).toNat = k - 1 := by omega
            have ht2 : ((k : Int) - 2).toNat = k - 2 := by omega
            have hw3 : IntKind.i64.wrap (x0 - x1) = x0 - x1 := IntWalk.i64_in _ (by omega)
            have hw4 : IntKind.i64.wrap (x1 - x2) = x1 - x2 := IntWalk.i64_in _ (by omega)
            have hdec : decide (x1 - x2 < x0 - x1) = true := by simp; omega
            go_wp2_with fail
            go_quiet (fail)
            clear hw1 hw2 hw3 hw4 ht1 ht2
            go_wp2
            go_ret
            exact ⟨ret_bool HF.out.symm, by first | exact ⟨_, rfl⟩ | exact drewN_ex _ _ _⟩
        · have hf : concTo xs xs.length = true := by
            rcases Nat.lt_or_ge xs.length 2 with h2 | h2
            · exact concTo_two _ _ (by omega)
            · have : k = xs.length := by omega
              rw [← this]; exact HA.out
          have HF := Lib.hid hf; clear hf
          go_wp2
          go_ret
          exact ⟨ret_bool HF.out.symm, by first | exact ⟨_, rfl⟩ | exact drewN_ex _ _ _⟩
set_option maxHeartbeats 800000 in
theorem c_spec_IsConcaveList (a : Option Addr) (n c : Nat) (xs : List Int) (w : World) (h : Row .i64 w a n xs) (hn : n ≤ 1048576) :
    Calls Try.prog 55 #[.slice a n c] w fun e w' => e = .returned (.bool (concR xs)) ∧ ∃ q, w' = w.drewN q := by
  have hl := h.len
  subst hl
  go_enter Try.func55, Try.ntmps55
  go_wp2_with fail
  go_loopw [3] (fun i wr => ∃ k : Nat, i = .int .i64 k ∧ k ≤ xs.length ∧ (∀ j, j < k → inB (xs.getD j 0) (-1000) 1000 = true) ∧ ∃ q, wr = w.drewN q) (fun i _ => xs.length - (intOf i).toNat)
  case atStart => exact ⟨0, rfl, Nat.zero_le _, fun j hj => by omega, 0, rfl⟩
  case round =>
    obtain ⟨k, rfl, hk, hall, q, rfl⟩ := hrel
    have HA := Lib.hid hall; clear hall
    by_cases hlt : k < xs.length
    · obtain ⟨b, off, rfl, hblt, hc⟩ := h.at_ (by omega)
      have g1 := hc k hlt
      obtain ⟨x, hx⟩ : ∃ x, x = xs.getD k 0 := ⟨_, rfl⟩
      rw [← hx] at g1
      clear hc
      cases hin : inB x (-1000) 1000 with
      | true =>
        have HX := Lib.hid hx; clear hx
        go_wp2_with (go_at_call 68; refine (c_l1In _ _ _ _).mono ?_; rintro e w' ⟨rfl, rfl⟩)
        go_roundw
        case rel =>
          refine ⟨k + 1, by go_num, by omega, fun j hj => ?_, by first | exact ⟨_, rfl⟩ | exact drewN_ex _ _ _⟩
          rcases Nat.lt_or_eq_of_le (Nat.le_of_lt_succ hj) with h | rfl
          · exact HA.out j h
          · rw [← HX.out]; exact hin
        case measure => simp [intOf]; omega
      | false =>
        have hf : concR xs = false := by simp [concR, allIn_false_of (xs := xs) k hlt (by rw [← hx]; exact hin)]
        have HF := Lib.hid hf; clear hf hx
        go_wp2_with (go_at_call 68; refine (c_l1In _ _ _ _).mono ?_; rintro e w' ⟨rfl, rfl⟩)
        go_ret
        exact ⟨ret_bool HF.out.symm, by first | exact ⟨_, rfl⟩ | exact drewN_ex _ _ _⟩
    · have h2 : allIn xs (-1000) 1000 = true := allIn_of (fun j hj => HA.out j (by omega))
      have hr : concR xs = (inB xs.length 1 6 && concTo xs xs.length) := by simp [concR, h2]
      have HR := Lib.hid hr
      have hbd := fun j hj => allIn_getD h2 j hj
      have HBD := Lib.hid hbd
      clear h2 hr hbd HA
      obtain rfl : k = xs.length := by omega
      go_wp2_with fail
      obtain ⟨wo, hwo⟩ : ∃ wo : World, wo = w.drewN q := ⟨_, rfl⟩
      go_loopw [4] (fun i wr => ∃ k : Nat, i = .int .i64 k ∧ 2 ≤ k ∧ (k ≤ xs.length ∨ k ≤ 2) ∧ concTo xs k = true ∧ ∃ q, wr = w.drewN q) (fun i _ => xs.length - (intOf i).toNat)
      case atStart => exact ⟨2, rfl, Nat.le_refl _, .inr (Nat.le_refl _), concTo_two _ _ (Nat.le_refl _), q, rfl⟩
      case round =>
        clear hwo
        obtain ⟨k, rfl, hk2, hk, hall, q, rfl⟩ := hrel
        have HA := Lib.hid hall; clear hall
        by_cases hlt : k < xs.length
        · obtain ⟨b, off, rfl, hblt, hc⟩ := h.at_ (by omega)
          have g0 := hc k hlt
          have g1 := hc (k - 1) (by omega)
          have g2 := hc (k - 2) (by omega)
          have b0 := HBD.out k hlt
          have b1 := HBD.out (k - 1) (by omega)
          have b2 := HBD.out (k - 2) (by omega)
          obtain ⟨x0, hx0⟩ : ∃ x, x = xs.getD k 0 := ⟨_, rfl⟩
          obtain ⟨x1, hx1⟩ : ∃ x, x = xs.getD (k - 1) 0 := ⟨_, rfl⟩
          obtain ⟨x2, hx2⟩ : ∃ x, x = xs.getD (k - 2) 0 := ⟨_, rfl⟩
          have hcat : concAt xs k = decide (x0 - x1 ≤ x1 - x2) := by rw [concAt, ← hx0, ← hx1, ← hx2]
          rw [← hx0] at g0 b0
          rw [← hx1] at g1 b1
          rw [← hx2] at g2 b2
          have hs := concTo_succ xs k
          rw [hcat, show decide (k < 2) = false by simp; omega, Bool.false_or, HA.out, Bool.true_and] at hs
          have hcf := concTo_false xs k hlt hk2
          rw [hcat] at hcf
          have HS := Lib.hid hs
          have HCF := Lib.hid hcf
          clear hcat hs hcf hx0 hx1 hx2 hc
          have hi0 : (0 : Int) ≤ k := by omega
          have hi1 : (k : Int) < (xs.length : Int) := by omega
          have hj0 : (0 : Int) ≤ (k : Int) - 1 := by omega
          have hj1 : (k : Int) - 1 < (xs.length : Int) := by omega
          have hl0 : (0 : Int) ≤ (k : Int) - 2 := by omega
          have hl1 : (k : Int) - 2 < (xs.length : Int) := by omega
          by_cases hle : x0 - x1 ≤ x1 - x2
          · have hw1 : IntKind.i64.wrap ((k : Int) - 1) = (k : Int) - 1 := IntWalk.i64_in _ (by omega)
            have hw2 : IntKind.i64.wrap ((k : Int) - 2) = (k : Int) - 2 := IntWalk.i64_in _ (by omega)
            have ht1 : ((k : Int) - 1).toNat = k - 1 := by omega
            have ht2 : ((k : Int) - 2).toNat = k - 2 := by omega
            have hw3 : IntKind.i64.wrap (x0 - x1) = x0 - x1 := IntWalk.i64_in _ (by omega)
            have hw4 : IntKind.i64.wrap (x1 - x2) = x1 - x2 := IntWalk.i64_in _ (by omega)
            have hdec : decide (x1 - x2 < x0 - x1) = false := by simp; omega
            go_wp2_with fail
            go_quiet (fail)
            clear hw1 hw2 hw3 hw4 ht1 ht2
            go_wp2
            go_roundw
            case rel => exact ⟨k + 1, by go_num, by omega, by omega, by rw [HS.out]; simpa using hle, by first | exact ⟨_, rfl⟩ | exact drewN_ex _ _ _⟩
            case measure => simp [intOf]; omega
          · have hf : concR xs = false := by rw [HR.out, HCF.out (by simpa using hle), Bool.and_false]
            have HF := Lib.hid hf; clear hf
            have hw1 : IntKind.i64.wrap ((k : Int) - 1) = (k : Int) - 1 := IntWalk.i64_in _ (by omega)
            have hw2 : IntKind.i64.wrap ((k : Int) - 2) = (k : Int) - 2 := IntWalk.i64_in _ (by omega)
            have ht1 : ((k : Int) - 1).toNat = k - 1 := by omega
            have ht2 : ((k : Int) - 2).toNat = k - 2 := by omega
            have hw3 : IntKind.i64.wrap (x0 - x1) = x0 - x1 := IntWalk.i64_in _ (by omega)
            have hw4 : IntKind.i64.wrap (x1 - x2) = x1 - x2 := IntWalk.i64_in _ (by omega)
            have hdec : decide (x1 - x2 < x0 - x1) = true := by simp; omega
            go_wp2_with fail
            go_quiet (fail)
            clear hw1 hw2 hw3 hw4 ht1 ht2
            go_wp2
            go_ret
            exact ⟨ret_bool HF.out.symm, by first | exact ⟨_, rfl⟩ | exact drewN_ex _ _ _⟩
        · have hf : concR xs = inB xs.length 1 6 := by
            rw [HR.out]
            have : concTo xs xs.length = true := by
              rcases Nat.lt_or_ge xs.length 2 with h2 | h2
              · exact concTo_two _ _ (by omega)
              · have : k = xs.length := by omega
                rw [← this]; exact HA.out
            rw [this, Bool.and_true]
          have HF := Lib.hid hf; clear hf
          go_wp2_with (go_at_call 68; refine (c_l1In _ _ _ _).mono ?_; rintro e w' ⟨rfl, rfl⟩)
          go_ret
          exact ⟨ret_bool HF.out.symm, by first | exact ⟨_, rfl⟩ | exact drewN_ex _ _ _⟩
end Go.Proofs.Ytfeobejmkmhjhaa
