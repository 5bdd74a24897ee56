/- Contracts of IsIncreasing, both packages. -/
import Derived.Test.YtfcgijnfiiaepaaFun2
namespace Go.Proofs.Ytfcgijnfiiaepaa
set_option linter.unusedSimpArgs false
set_option linter.unusedVariables false
open Go.RowKit

/-- What IsIncreasing returns. -/
def incB (n : Int) (xs : List Int) : Bool := isFun n xs && (List.range xs.length).all fun k => (List.range n.toNat).all fun e => decide (0 ≤ gainL xs k e)
theorem inc_yes {n : Int} {xs : List Int} (h : isFun n xs = true) (hk : ∀ k, k < xs.length → ∀ e : Nat, (e : Int) < n → 0 ≤ gainL xs k e) : incB n xs = true := by
  simp only [incB, h, Bool.true_and, List.all_eq_true, List.mem_range, decide_eq_true_eq]
  exact fun k hk' e he => hk k hk' e (by omega)
theorem inc_no {n : Int} {xs : List Int} {k e : Nat} (hk : k < xs.length) (he : (e : Int) < n) (h : gainL xs k e < 0) : incB n xs = false := by
  cases hq : incB n xs with
  | false => rfl
  | true =>
    simp only [incB, Bool.and_eq_true, List.all_eq_true, List.mem_range, decide_eq_true_eq] at hq
    have := hq.2 k hk e (by omega)
    omega
set_option maxHeartbeats 1000000 in
theorem c_impl_IsIncreasing (e0 : Int) (a : Option Addr) (n c : Nat) (xs : List Int) (w : World) (h : Row .i64 w a n xs) (hn : n ≤ 1048576) :
    Calls Try.prog 43 #[.agg #[.int .i64 e0, .slice a n c]] w fun e w' => e = .returned (.bool (incB e0 xs)) ∧ Below w.heap.size w w' := by
  have bel := (Below.refl w.heap.size w).alloc (Nat.le_refl _) (.cells #[.int .i64 e0, .slice a n c] 26)
  have f := FBox.new w 26 e0 a n c
  cases hf : isFun e0 xs with
  | false =>
    have hr : incB e0 xs = false := by simp [incB, hf]
    rw [hr]
    clear hr
    go_enter Try.func43, Try.ntmps43
    go_wp2_with fail
    refine (c_impl_IsFunction _ _ _ _ _ _ (h.alloc _) hn).mono ?_
    rw [hf]
    rintro e w1 ⟨rfl, hb1⟩
    go_wp2
    go_ret
    exact ⟨rfl, bel.trans (hb1.mono bel.size)⟩
  | true =>
    have hl := h.len
    obtain ⟨⟨q0, q1⟩, _, _⟩ := isFun_true hf
    obtain ⟨j, rfl⟩ := Int.eq_ofNat_of_zero_le q0
    go_enter Try.func43, Try.ntmps43
    go_wp2_with fail
    refine (c_impl_IsFunction _ _ _ _ _ _ (h.alloc _) hn).mono ?_
    rw [hf]
    rintro e w1 ⟨rfl, hb1⟩
    replace bel := bel.trans (hb1.mono bel.size)
    replace f := f.below hb1
    have k0 := f.c0
    have k1 := f.c1
    go_wp2_with fail
    go_loopw [11] (fun i wr => ∃ k : Nat, i = .int .i64 k ∧ k ≤ n ∧ (∀ k', k' < k → ∀ e : Nat, (e : Int) < (j : Int) → 0 ≤ gainL xs k' e) ∧ Below w.heap.size w wr ∧ FBox wr w.heap.size 26 j a n c) (fun i _ => n - (intOf i).toNat)
    case atStart => exact ⟨0, rfl, Nat.zero_le _, fun k' hk' => by omega, bel, f⟩
    case round =>
      clear bel f k0 k1 hb1
      obtain ⟨k, rfl, hk, hall, bel, f⟩ := hrel
      have HA := Lib.hid hall; clear hall
      have k0 := f.c0
      have k1 := f.c1
      by_cases hlt : k < n
      · go_wp2_with fail
        go_loopw [16] (fun i wr => ∃ d : Nat, i = .int .i64 d ∧ d ≤ j ∧ (∀ e : Nat, e < d → 0 ≤ gainL xs k e) ∧ Below w.heap.size w wr ∧ FBox wr w.heap.size 26 j a n c) (fun i _ => j - (intOf i).toNat)
        case atStart => exact ⟨0, rfl, Nat.zero_le _, fun e he => by omega, bel, f⟩
        case round =>
          clear bel f k0 k1
          obtain ⟨d, rfl, hd, hall, bel, f⟩ := hrel
          have HD := Lib.hid hall; clear hall
          have k0 := f.c0
          have k1 := f.c1
          by_cases hlt2 : d < j
          · by_cases hg : gainL xs k d < 0
            · have hr := inc_no (n := (j : Int)) (xs := xs) (k := k) (e := d) (by omega) (by omega) hg
              have HR := Lib.hid hr; clear hr
              go_wp2_with fail
              refine (c_gain _ _ _ _ _ _ _ _ (h.below bel) hf (by omega) (by omega)).mono ?_
              rintro e w2 ⟨rfl, hb2⟩
              go_wp2
              go_ret
              exact ⟨ret_bool HR.out.symm, bel.trans (hb2.mono bel.size)⟩
            · go_wp2_with fail
              refine (c_gain _ _ _ _ _ _ _ _ (h.below bel) hf (by omega) (by omega)).mono ?_
              rintro e w2 ⟨rfl, hb2⟩
              replace bel := bel.trans (hb2.mono bel.size)
              replace f := f.below hb2
              have HG := Lib.hid hg
              go_wp2
              go_roundw
              case rel =>
                refine ⟨d + 1, by go_num, by omega, fun e he => ?_, bel, f⟩
                rcases Nat.lt_or_eq_of_le (Nat.le_of_lt_succ he) with h | rfl
                · exact HD.out e h
                · have := HG.out; omega
              case measure => simp [intOf]; omega
          · obtain rfl : d = j := by omega
            go_wp2
            go_roundw
            case rel =>
              refine ⟨k + 1, by go_num, by omega, fun k' hk' e he => ?_, bel, f⟩
              rcases Nat.lt_or_eq_of_le (Nat.le_of_lt_succ hk') with h | rfl
              · exact HA.out k' h e he
              · exact HD.out e (by omega)
            case measure => simp [intOf]; omega
      · have hr := inc_yes (xs := xs) hf (fun k' hk' e he => HA.out k' (by omega) e he)
        have HR := Lib.hid hr; clear hr
        go_wp2
        go_ret
        exact ⟨ret_bool HR.out.symm, bel⟩
set_option maxHeartbeats 1000000 in
theorem c_spec_IsIncreasing (e0 : Int) (a : Option Addr) (n c : Nat) (xs : List Int) (w : World) (h : Row .i64 w a n xs) (hn : n ≤ 1048576) :
    Calls Try.prog 44 #[.agg #[.int .i64 e0, .slice a n c]] w fun e w' => e = .returned (.bool (incB e0 xs)) ∧ Below w.heap.size w w' := by
  have bel := (Below.refl w.heap.size w).alloc (Nat.le_refl _) (.cells #[.int .i64 e0, .slice a n c] 26)
  have f := FBox.new w 26 e0 a n c
  cases hf : isFun e0 xs with
  | false =>
    have hr : incB e0 xs = false := by simp [incB, hf]
    rw [hr]
    clear hr
    go_enter Try.func44, Try.ntmps44
    go_wp2_with fail
    refine wp_loop_rounds 1 ?_
    rw [rounds_succ]
    go_wp2_with fail
    refine (c_spec_IsFunction _ _ _ _ _ _ (h.alloc _) hn).mono ?_
    rw [hf]
    rintro e w1 ⟨rfl, hb1⟩
    replace bel := bel.trans (hb1.mono bel.size)
    replace f := f.below hb1
    have k0 := f.c0
    have k1 := f.c1
    go_wp2_with fail
    refine (c_spec_IsFunction _ _ _ _ _ _ (h.below bel) hn).mono ?_
    rw [hf]
    rintro e w2 ⟨rfl, hb2⟩
    go_wp2
    go_ret
    exact ⟨rfl, bel.trans (hb2.mono bel.size)⟩
  | true =>
    have hl := h.len
    have hle := isFun_le hf
    obtain ⟨⟨q0, q1⟩, _, hxb⟩ := isFun_true hf
    have HXB := Lib.hid hxb; clear hxb
    obtain ⟨j, rfl⟩ := Int.eq_ofNat_of_zero_le q0
    go_enter Try.func44, Try.ntmps44
    go_wp2_with fail
    go_loopw [3] (fun i wr => ∃ k : Nat, i = .int .i64 k ∧ k ≤ n ∧ (∀ k', k' < k → ∀ e : Nat, (e : Int) < (j : Int) → 0 ≤ gainL xs k' e) ∧ Below w.heap.size w wr ∧ FBox wr w.heap.size 26 j a n c) (fun i _ => n - (intOf i).toNat)
    case atStart => exact ⟨0, rfl, Nat.zero_le _, fun k' hk' => by omega, bel, f⟩
    case round =>
      clear bel f
      obtain ⟨k, rfl, hk, hall, bel, f⟩ := hrel
      have HA := Lib.hid hall; clear hall
      have k0 := f.c0
      have k1 := f.c1
      go_wp2_with fail
      refine (c_spec_IsFunction _ _ _ _ _ _ (h.below bel) hn).mono ?_
      rw [hf]
      rintro e w1 ⟨rfl, hb1⟩
      replace bel := bel.trans (hb1.mono bel.size)
      replace f := f.below hb1
      have k0 := f.c0
      have k1 := f.c1
      by_cases hlt : k < n
      · go_wp2_with fail
        go_loopw [4] (fun i wr => ∃ d : Nat, i = .int .i64 d ∧ d ≤ j ∧ (∀ e : Nat, e < d → 0 ≤ gainL xs k e) ∧ Below w.heap.size w wr ∧ FBox wr w.heap.size 26 j a n c) (fun i _ => j - (intOf i).toNat)
        case atStart => exact ⟨0, rfl, Nat.zero_le _, fun e he => by omega, bel, f⟩
        case round =>
          clear bel f k0 k1 hb1
          obtain ⟨d, rfl, hd, hall, bel, f⟩ := hrel
          have HD := Lib.hid hall; clear hall
          have k0 := f.c0
          have k1 := f.c1
          by_cases hlt2 : d < j
          · obtain ⟨b, off, rfl, hlt', hc⟩ := (h.below bel).at_ (by omega)
            have g1 := hc k (by omega)
            have hj0 : (0 : Int) ≤ d := by omega
            have hi0 : (0 : Int) ≤ k := by omega
            have hi1 : (k : Int) < (n : Int) := by omega
            have ho := or_lt (k := k) (j := d) hf (by omega) (by omega)
            have hp5 := two_pow_lt5 d (by omega)
            obtain ⟨p, hp⟩ : ∃ p, p = 2 ^ d := ⟨_, rfl⟩
            rw [← hp] at hp5 ho
            have hor := i64_or_nat k p (by omega) (by omega)
            obtain ⟨hz, hs1, hs2⟩ := shl_facts d p hp (by omega)
            obtain ⟨m, hm⟩ : ∃ m, m = k ||| p := ⟨_, rfl⟩
            rw [← hm] at hor ho
            have g2 := hc m (by omega)
            have hm0 : (0 : Int) ≤ m := by omega
            have hm1 : (m : Int) < (n : Int) := by omega
            have hst : gainL xs k d = xs.getD m 0 - xs.getD k 0 := by rw [hm, hp]; rfl
            obtain ⟨x, hx⟩ : ∃ x, x = xs.getD k 0 := ⟨_, rfl⟩
            obtain ⟨y, hy⟩ : ∃ y, y = xs.getD m 0 := ⟨_, rfl⟩
            rw [← hx] at g1 hst
            rw [← hy] at g2 hst
            have HST := Lib.hid hst
            clear hst hx hy hm hp hc hp5
            by_cases hg : y < x
            · have hr := inc_no (n := (j : Int)) (xs := xs) (k := k) (e := d) (by omega) (by omega) (by rw [HST.out]; omega)
              have HR := Lib.hid hr; clear hr
              go_wp2_with fail
              go_quiet (fail)
              go_wp2
              go_ret
              exact ⟨ret_bool HR.out.symm, below_drewN bel _⟩
            · have hg' := HST.out
              have hg'' : 0 ≤ gainL xs k d := by rw [hg']; omega
              have HG := Lib.hid hg''
              clear hg' hg''
              go_wp2_with fail
              go_quiet (fail)
              go_wp2
              go_roundw
              case rel =>
                refine ⟨d + 1, by go_num, by omega, fun e he => ?_, below_drewN bel _, f.drewN _⟩
                rcases Nat.lt_or_eq_of_le (Nat.le_of_lt_succ he) with h | rfl
                · exact HD.out e h
                · exact HG.out
              case measure => simp [intOf]; omega
          · obtain rfl : d = j := by omega
            go_wp2
            go_roundw
            case rel =>
              refine ⟨k + 1, by go_num, by omega, fun k' hk' e he => ?_, bel, f⟩
              rcases Nat.lt_or_eq_of_le (Nat.le_of_lt_succ hk') with h | rfl
              · exact HA.out k' h e he
              · exact HD.out e (by omega)
            case measure => simp [intOf]; omega
      · have hr := inc_yes (xs := xs) hf (fun k' hk' e he => HA.out k' (by omega) e he)
        have HR := Lib.hid hr; clear hr
        go_wp2_with fail
        refine (c_spec_IsFunction _ _ _ _ _ _ (h.below bel) hn).mono ?_
        rw [hf]
        rintro e w2 ⟨rfl, hb2⟩
        go_wp2
        go_ret
        exact ⟨ret_bool HR.out.symm, bel.trans (hb2.mono bel.size)⟩
end Go.Proofs.Ytfcgijnfiiaepaa
