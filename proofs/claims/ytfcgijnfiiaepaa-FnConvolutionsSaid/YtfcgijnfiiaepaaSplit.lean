/- Contracts of leastSplit, l6Split and SplitOf: the first best part of a set. -/
import Derived.Test.YtfcgijnfiiaepaaAlike
namespace Go.Proofs.Ytfcgijnfiiaepaa
set_option linter.unusedSimpArgs false
set_option linter.unusedVariables false
open Go.RowKit

/-- t is a part of s. -/
def inS (t s : Nat) : Bool := t &&& s == t
def spV (xs ys : List Int) (s t : Nat) : Int := xs.getD t 0 + ys.getD (s - t) 0
/-- The first best part among the parts up to k. -/
def splitTo (xs ys : List Int) (s : Nat) : Nat → Nat
  | 0 => 0
  | k + 1 => if inS (k + 1) s && decide (spV xs ys s (k + 1) < spV xs ys s (splitTo xs ys s k)) then k + 1 else splitTo xs ys s k
theorem splitTo_le (xs ys : List Int) (s : Nat) : ∀ k, splitTo xs ys s k ≤ k
  | 0 => Nat.le_refl _
  | k + 1 => by
    have := splitTo_le xs ys s k
    rw [splitTo]
    split <;> omega
theorem splitTo_yes {xs ys : List Int} {s t : Nat} (h : inS t s = true) (h' : spV xs ys s t < spV xs ys s (splitTo xs ys s (t - 1))) : splitTo xs ys s t = t := by
  cases t with
  | zero => rfl
  | succ k => rw [splitTo, if_pos (by simp only [Nat.add_sub_cancel] at h'; simp [h, h'])]
theorem splitTo_no {xs ys : List Int} {s t : Nat} (h : inS t s = false ∨ ¬ spV xs ys s t < spV xs ys s (splitTo xs ys s (t - 1))) : splitTo xs ys s t = splitTo xs ys s (t - 1) := by
  cases t with
  | zero => rfl
  | succ k =>
    simp only [Nat.add_sub_cancel] at h ⊢
    rw [splitTo, if_neg]
    rcases h with h | h
    · simp [h]
    · simp [h]
theorem part_fin : ∀ (t s : Fin 32), (bits .andNot .i64 (t.val : Int) (s.val : Int) == 0) = inS t.val s.val ∧ (bits .and .i64 (t.val : Int) (s.val : Int) == (t.val : Int)) = inS t.val s.val ∧ (inS t.val s.val = true → t.val ≤ s.val ∧ bits .andNot .i64 (s.val : Int) (t.val : Int) = ((s.val - t.val : Nat) : Int)) := by decide +kernel
theorem part_facts {t s : Nat} (ht : t < 32) (hs : s < 32) : (bits .andNot .i64 (t : Int) (s : Int) == 0) = inS t s ∧ (bits .and .i64 (t : Int) (s : Int) == (t : Int)) = inS t s ∧ (inS t s = true → t ≤ s ∧ bits .andNot .i64 (s : Int) (t : Int) = ((s - t : Nat) : Int)) := part_fin ⟨t, ht⟩ ⟨s, hs⟩
set_option maxHeartbeats 1000000 in
theorem c_leastSplit (e0 : Int) (a : Option Addr) (n c : Nat) (xs : List Int) (e1 : Int) (b : Option Addr) (d : Nat) (ys : List Int) (s : Nat) (w : World) (h : Row .i64 w a n xs) (h' : Row .i64 w b n ys) (hf : isFun e0 xs = true) (hg : isFun e1 ys = true) (hs : s < n) :
    Calls Try.prog 88 #[.agg #[.int .i64 e0, .slice a n c], .agg #[.int .i64 e1, .slice b n d], .int .i64 s] w fun e w' => e = .returned (.tuple #[.int .i64 (spV xs ys s (splitTo xs ys s s)), .int .i64 (splitTo xs ys s s)]) ∧ Below w.heap.size w w' := by
  have hbel := ((Below.refl w.heap.size w).alloc (Nat.le_refl _) (.cells #[.int .i64 e0, .slice a n c] 26)).alloc (by simp) (.cells #[.int .i64 e1, .slice b n d] 26)
  have hl := h.len
  have hl' := h'.len
  have hle := isFun_le hf
  have HXB := Lib.hid (isFun_true hf).2.2
  have HYB := Lib.hid (isFun_true hg).2.2
  have HF := Lib.hid hf
  have HG := Lib.hid hg
  clear hf hg
  obtain ⟨b1, off1, rfl, hlt1, hc1⟩ := h.at_ (by omega)
  obtain ⟨b2, off2, rfl, hlt2, hc2⟩ := h'.at_ (by omega)
  have g0 : w.cell? ⟨b1, off1, none⟩ = some (.int .i64 (xs.getD 0 0)) := hc1 0 (by omega)
  have gs : w.cell? ⟨b2, off2 + s, none⟩ = some (.int .i64 (ys.getD s 0)) := hc2 s hs
  have bx := HXB.out 0 (by omega)
  have bs := HYB.out s (by omega)
  have HC1 := Lib.hid hc1
  have HC2 := Lib.hid hc2
  clear hc1 hc2
  have hst0 : spV xs ys s 0 = xs.getD 0 0 + ys.getD s 0 := rfl
  have HST0 := Lib.hid hst0
  obtain ⟨x0, hx0⟩ : ∃ x, x = xs.getD 0 0 := ⟨_, rfl⟩
  obtain ⟨y0, hy0⟩ : ∃ y, y = ys.getD s 0 := ⟨_, rfl⟩
  rw [← hx0] at g0 bx
  rw [← hy0] at gs bs
  have HX0 := Lib.hid hx0
  have HY0 := Lib.hid hy0
  clear hst0 hx0 hy0
  have i0 : (0 : Int) < (n : Int) := by omega
  have i1 : (0 : Int) ≤ (s : Int) := by omega
  have i2 : (s : Int) < (n : Int) := by omega
  have hw0 : IntKind.i64.wrap (x0 + y0) = x0 + y0 := IntWalk.i64_in _ (by omega)
  go_enter Try.func88, Try.ntmps88
  go_wp2_with fail
  go_quiet (fail)
  go_wp2_with fail
  go_loopw [8, 9, 23] (fun v p i wr => ∃ t : Nat, i = .int .i64 t ∧ t ≤ s + 1 ∧ p = .int .i64 (splitTo xs ys s (t - 1)) ∧ v = .int .i64 (spV xs ys s (splitTo xs ys s (t - 1))) ∧ ∃ q, wr = ((w.alloc (.cells #[.int .i64 e0, .slice (some ⟨b1, off1, none⟩) n c] 26)).alloc (.cells #[.int .i64 e1, .slice (some ⟨b2, off2, none⟩) n d] 26)).drewN q) (fun _ _ i _ => s + 1 - (intOf i).toNat)
  case atStart => exact ⟨0, rfl, Nat.zero_le _, rfl, by rw [show splitTo xs ys s (0 - 1) = 0 from rfl, HST0.out, HX0.out, HY0.out], _, rfl⟩
  case round =>
    clear hw0 g0 gs bx bs
    obtain ⟨t, rfl, ht, rfl, rfl, q, rfl⟩ := hrel
    by_cases hlt : t ≤ s
    · obtain ⟨pf1, pf2, pf3⟩ := part_facts (t := t) (s := s) (by omega) (by omega)
      have hsp := splitTo_le xs ys s (t - 1)
      have hnext : t + 1 - 1 = t := by omega
      have HNX := Lib.hid hnext
      clear hnext pf2
      cases hin : inS t s with
      | false =>
        rw [hin] at pf1
        have HS := Lib.hid (splitTo_no (xs := xs) (ys := ys) (.inl hin))
        clear pf3 hin hsp
        generalize splitTo xs ys s (t - 1) = best at *
        go_wp2_with fail
        go_quiet (fail)
        go_wp2
        go_roundw
        case rel => exact ⟨t + 1, by go_num, by omega, by rw [HNX.out, HS.out], by rw [HNX.out, HS.out], by first | exact ⟨_, rfl⟩ | exact drewN_ex _ _ _⟩
        case measure => simp [intOf]; omega
      | true =>
        rw [hin] at pf1
        obtain ⟨hts, pf3⟩ := pf3 hin
        have HIN := Lib.hid hin
        clear hin
        obtain ⟨r, hr⟩ : ∃ r, r = s - t := ⟨_, rfl⟩
        rw [← hr] at pf3
        have g1 := HC1.out t (by omega)
        have g2 := HC2.out r (by omega)
        have bx := HXB.out t (by omega)
        have by' := HYB.out r (by omega)
        have hst : spV xs ys s t = xs.getD t 0 + ys.getD r 0 := by rw [hr]; rfl
        obtain ⟨x, hx⟩ : ∃ x, x = xs.getD t 0 := ⟨_, rfl⟩
        obtain ⟨y, hy⟩ : ∃ y, y = ys.getD r 0 := ⟨_, rfl⟩
        rw [← hx] at g1 bx hst
        rw [← hy] at g2 by' hst
        have HST := Lib.hid hst
        have i3 : (0 : Int) ≤ (t : Int) := by omega
        have i4 : (t : Int) < (n : Int) := by omega
        have i5 : (0 : Int) ≤ (r : Int) := by omega
        have i6 : (r : Int) < (n : Int) := by omega
        have hw : IntKind.i64.wrap (x + y) = x + y := IntWalk.i64_in _ (by omega)
        clear hst hx hy hr hsp
        by_cases hcmp : x + y < spV xs ys s (splitTo xs ys s (t - 1))
        · have HS := Lib.hid (splitTo_yes (xs := xs) (ys := ys) HIN.out (by rw [HST.out]; exact hcmp))
          generalize spV xs ys s (splitTo xs ys s (t - 1)) = v0 at *
          generalize splitTo xs ys s (t - 1) = best at *
          go_wp2_with fail
          go_quiet (fail)
          go_wp2_with fail
          go_quiet (fail)
          go_wp2
          go_roundw
          case rel => exact ⟨t + 1, by go_num, by omega, by rw [HNX.out, HS.out], by rw [HNX.out, HS.out, HST.out], by first | exact ⟨_, rfl⟩ | exact drewN_ex _ _ _⟩
          case measure => simp [intOf]; omega
        · have HS := Lib.hid (splitTo_no (xs := xs) (ys := ys) (.inr (by rw [HST.out]; exact hcmp)))
          have HV := Lib.hid (show spV xs ys s (splitTo xs ys s t) = spV xs ys s (splitTo xs ys s (t - 1)) by rw [HS.out])
          generalize spV xs ys s (splitTo xs ys s (t - 1)) = v0 at *
          generalize splitTo xs ys s (t - 1) = best at *
          go_wp2_with fail
          go_quiet (fail)
          go_wp2
          go_roundw
          case rel => exact ⟨t + 1, by go_num, by omega, by rw [HNX.out, HS.out], by rw [HNX.out, HV.out], by first | exact ⟨_, rfl⟩ | exact drewN_ex _ _ _⟩
          case measure => simp [intOf]; omega
    · obtain rfl : t = s + 1 := by omega
      have e1 : s + 1 - 1 = s := by omega
      rw [e1]
      clear e1
      go_wp2
      go_ret2
      exact ⟨rfl, below_drewN hbel _⟩
set_option maxHeartbeats 1000000 in
theorem c_l6Split (e0 : Int) (a : Option Addr) (n c : Nat) (xs : List Int) (e1 : Int) (b : Option Addr) (d : Nat) (ys : List Int) (s : Nat) (w : World) (h : Row .i64 w a n xs) (h' : Row .i64 w b n ys) (hf : isFun e0 xs = true) (hg : isFun e1 ys = true) (hs : s < n) :
    Calls Try.prog 90 #[.agg #[.int .i64 e0, .slice a n c], .agg #[.int .i64 e1, .slice b n d], .int .i64 s] w fun e w' => e = .returned (.int .i64 (splitTo xs ys s s)) ∧ Below w.heap.size w w' := by
  have hbel := ((Below.refl w.heap.size w).alloc (Nat.le_refl _) (.cells #[.int .i64 e0, .slice a n c] 26)).alloc (by simp) (.cells #[.int .i64 e1, .slice b n d] 26)
  have hl := h.len
  have hl' := h'.len
  have hle := isFun_le hf
  have HXB := Lib.hid (isFun_true hf).2.2
  have HYB := Lib.hid (isFun_true hg).2.2
  clear hf hg
  obtain ⟨b1, off1, rfl, hlt1, hc1⟩ := h.at_ (by omega)
  obtain ⟨b2, off2, rfl, hlt2, hc2⟩ := h'.at_ (by omega)
  have HC1 := Lib.hid hc1
  have HC2 := Lib.hid hc2
  clear hc1 hc2
  have i1 : (0 : Int) ≤ (s : Int) := by omega
  have i2 : (s : Int) < (n : Int) := by omega
  go_enter Try.func90, Try.ntmps90
  go_wp2_with fail
  go_loopw [7, 8] (fun p i wr => ∃ t : Nat, i = .int .i64 t ∧ 1 ≤ t ∧ t ≤ s + 1 ∧ p = .int .i64 (splitTo xs ys s (t - 1)) ∧ ∃ q, wr = ((w.alloc (.cells #[.int .i64 e0, .slice (some ⟨b1, off1, none⟩) n c] 26)).alloc (.cells #[.int .i64 e1, .slice (some ⟨b2, off2, none⟩) n d] 26)).drewN q) (fun _ i _ => s + 1 - (intOf i).toNat)
  case atStart => exact ⟨1, rfl, Nat.le_refl _, by omega, rfl, 0, rfl⟩
  case round =>
    obtain ⟨t, rfl, ht1, ht, rfl, q, rfl⟩ := hrel
    by_cases hlt : t ≤ s
    · obtain ⟨pf1, pf2, pf3⟩ := part_facts (t := t) (s := s) (by omega) (by omega)
      have hsp := splitTo_le xs ys s (t - 1)
      have HNX := Lib.hid (show t + 1 - 1 = t by omega)
      clear pf1
      cases hin : inS t s with
      | false =>
        rw [hin] at pf2
        have HS := Lib.hid (splitTo_no (xs := xs) (ys := ys) (.inl hin))
        clear pf3 hin hsp
        generalize splitTo xs ys s (t - 1) = best at *
        go_wp2_with fail
        go_quiet (fail)
        go_wp2
        go_roundw
        case rel => exact ⟨t + 1, by go_num, by omega, by omega, by rw [HNX.out, HS.out], by first | exact ⟨_, rfl⟩ | exact drewN_ex _ _ _⟩
        case measure => simp [intOf]; omega
      | true =>
        rw [hin] at pf2
        clear pf3
        have HIN := Lib.hid hin
        clear hin
        obtain ⟨r, hr⟩ : ∃ r, r = s - t := ⟨_, rfl⟩
        obtain ⟨best, hbest⟩ : ∃ z, z = splitTo xs ys s (t - 1) := ⟨_, rfl⟩
        rw [← hbest] at hsp
        obtain ⟨rb, hrb⟩ : ∃ z, z = s - best := ⟨_, rfl⟩
        have g1 := HC1.out t (by omega)
        have g2 := HC2.out r (by omega)
        have g3 := HC1.out best (by omega)
        have g4 := HC2.out rb (by omega)
        have bx := HXB.out t (by omega)
        have by' := HYB.out r (by omega)
        have bu := HXB.out best (by omega)
        have bv := HYB.out rb (by omega)
        have hst : spV xs ys s t = xs.getD t 0 + ys.getD r 0 := by rw [hr]; rfl
        have hst2 : spV xs ys s best = xs.getD best 0 + ys.getD rb 0 := by rw [hrb]; rfl
        obtain ⟨x, hx⟩ : ∃ x, x = xs.getD t 0 := ⟨_, rfl⟩
        obtain ⟨y, hy⟩ : ∃ y, y = ys.getD r 0 := ⟨_, rfl⟩
        obtain ⟨u, hu⟩ : ∃ x, x = xs.getD best 0 := ⟨_, rfl⟩
        obtain ⟨v, hv⟩ : ∃ y, y = ys.getD rb 0 := ⟨_, rfl⟩
        rw [← hx] at g1 bx hst
        rw [← hy] at g2 by' hst
        rw [← hu] at g3 bu hst2
        rw [← hv] at g4 bv hst2
        have HST := Lib.hid hst
        have HST2 := Lib.hid hst2
        have i3 : (0 : Int) ≤ (t : Int) := by omega
        have i4 : (t : Int) < (n : Int) := by omega
        have i5 : (0 : Int) ≤ (r : Int) := by omega
        have i6 : (r : Int) < (n : Int) := by omega
        have i7 : (0 : Int) ≤ (best : Int) := by omega
        have i8 : (best : Int) < (n : Int) := by omega
        have i9 : (0 : Int) ≤ (rb : Int) := by omega
        have i10 : (rb : Int) < (n : Int) := by omega
        have hs1 : (s : Int) - (t : Int) = (r : Int) := by omega
        have hs2 : (s : Int) - (best : Int) = (rb : Int) := by omega
        have hw0 : IntKind.i64.wrap (r : Int) = (r : Int) := IntWalk.i64_in _ (by omega)
        have hw00 : IntKind.i64.wrap (rb : Int) = (rb : Int) := IntWalk.i64_in _ (by omega)
        have hw : IntKind.i64.wrap (x + y) = x + y := IntWalk.i64_in _ (by omega)
        have hw2 : IntKind.i64.wrap (u + v) = u + v := IntWalk.i64_in _ (by omega)
        have HB := Lib.hid hbest
        clear hst hst2 hx hy hu hv hr hrb hsp
        rw [← hbest]
        clear hbest
        by_cases hcmp : x + y < u + v
        · have HS := Lib.hid (splitTo_yes (xs := xs) (ys := ys) HIN.out (by rw [HST.out, ← HB.out, HST2.out]; exact hcmp))
          go_wp2_with fail
          go_quiet (fail)
          go_wp2
          go_roundw
          case rel => exact ⟨t + 1, by go_num, by omega, by omega, by rw [HNX.out, HS.out], by first | exact ⟨_, rfl⟩ | exact drewN_ex _ _ _⟩
          case measure => simp [intOf]; omega
        · have HS := Lib.hid (splitTo_no (xs := xs) (ys := ys) (.inr (by rw [HST.out, ← HB.out, HST2.out]; exact hcmp)))
          go_wp2_with fail
          go_quiet (fail)
          go_wp2
          go_roundw
          case rel => exact ⟨t + 1, by go_num, by omega, by omega, by rw [HNX.out, HS.out, HB.out], by first | exact ⟨_, rfl⟩ | exact drewN_ex _ _ _⟩
          case measure => simp [intOf]; omega
    · obtain rfl : t = s + 1 := by omega
      have e1 : s + 1 - 1 = s := by omega
      rw [e1]
      clear e1
      go_wp2
      go_ret
      exact ⟨rfl, below_drewN hbel _⟩
end Go.Proofs.Ytfcgijnfiiaepaa
