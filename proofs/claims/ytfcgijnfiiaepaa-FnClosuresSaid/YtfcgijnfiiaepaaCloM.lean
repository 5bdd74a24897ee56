/- Closures in polymatroids: the plain law, no program in sight. -/
import Derived.Test.YtfcgijnfiiaepaaPoly
namespace Go.Proofs.Ytfcgijnfiiaepaa
set_option linter.unusedSimpArgs false
set_option linter.unusedVariables false
open Go.RowKit

/-- The set with those elements below j that add nothing to it. -/
def cloTo (xs : List Int) (s : Nat) : Nat → Nat
  | 0 => s
  | j + 1 => if gainL xs s j = 0 then cloTo xs s j ||| 2 ^ j else cloTo xs s j
theorem cloTo_yes {xs : List Int} {s j : Nat} (h : gainL xs s j = 0) : cloTo xs s (j + 1) = cloTo xs s j ||| 2 ^ j := by rw [cloTo, if_pos h]
theorem cloTo_no {xs : List Int} {s j : Nat} (h : ¬ gainL xs s j = 0) : cloTo xs s (j + 1) = cloTo xs s j := by rw [cloTo, if_neg h]
theorem bitB_nat (s e : Nat) : bitB (s : Int) e = s.testBit e := by
  have h : ((s / 2 ^ e : Nat) : Int) = (s : Int) / 2 ^ e := by push_cast; rfl
  rw [bitB, Nat.testBit_eq_decide_div_mod_eq, ← h, decide_eq_decide]
  omega
theorem or_bit {s e : Nat} (h : s.testBit e = true) : s ||| 2 ^ e = s := by
  apply Nat.eq_of_testBit_eq
  intro i
  rw [Nat.testBit_or]
  by_cases hi : e = i
  · subst hi; rw [h]; rfl
  · rw [Nat.testBit_two_pow_of_ne hi, Bool.or_false]
theorem cloTo_high (xs : List Int) (s : Nat) : ∀ j e, j ≤ e → (cloTo xs s j).testBit e = s.testBit e
  | 0, _, _ => rfl
  | j + 1, e, h => by
    have h1 := cloTo_high xs s j e (by omega)
    by_cases hg : gainL xs s j = 0
    · rw [cloTo_yes hg, Nat.testBit_or, Nat.testBit_two_pow_of_ne (by omega), Bool.or_false, h1]
    · rw [cloTo_no hg, h1]
theorem cloTo_keeps {xs : List Int} {s e : Nat} (h : s.testBit e = true) : ∀ j, (cloTo xs s j).testBit e = true
  | 0 => h
  | j + 1 => by
    have h1 := cloTo_keeps (xs := xs) h j
    by_cases hg : gainL xs s j = 0
    · rw [cloTo_yes hg, Nat.testBit_or, h1]; rfl
    · rw [cloTo_no hg, h1]
theorem cloTo_has {xs : List Int} {s e : Nat} (h : gainL xs s e = 0) : ∀ j, e < j → (cloTo xs s j).testBit e = true
  | 0, hj => by omega
  | j + 1, hj => by
    rcases Nat.lt_or_eq_of_le (Nat.le_of_lt_succ hj) with hlt | rfl
    · have h1 := cloTo_has h j hlt
      by_cases hg : gainL xs s j = 0
      · rw [cloTo_yes hg, Nat.testBit_or, h1]; rfl
      · rw [cloTo_no hg, h1]
    · rw [cloTo_yes h, Nat.testBit_or, Nat.testBit_two_pow_self, Bool.or_true]
theorem gain_in {xs : List Int} {s e : Nat} (h : s.testBit e = true) : gainL xs s e = 0 := by rw [gainL, or_bit h]; omega
theorem cloTo_lt {n : Int} {xs : List Int} {s : Nat} (hf : isFun n xs = true) (hs : s < xs.length) : ∀ j : Nat, (j : Int) ≤ n → cloTo xs s j < xs.length
  | 0, _ => hs
  | j + 1, h => by
    have h1 := cloTo_lt hf hs j (by omega)
    by_cases hg : gainL xs s j = 0
    · rw [cloTo_yes hg]; exact or_lt hf h1 (by omega)
    · rw [cloTo_no hg]; exact h1
theorem poly_fun {n : Int} {xs : List Int} (h : polyB n xs = true) : isFun n xs = true := by
  simp only [polyB, subB, Bool.and_eq_true] at h
  exact h.2.1
theorem poly_inc {n : Int} {xs : List Int} (h : polyB n xs = true) {s e : Nat} (hs : s < xs.length) (he : (e : Int) < n) : 0 ≤ gainL xs s e := by
  simp only [polyB, incB, Bool.and_eq_true, List.all_eq_true, List.mem_range, decide_eq_true_eq] at h
  exact h.1.2.2 s hs e (by omega)
theorem poly_sub {n : Int} {xs : List Int} (h : polyB n xs = true) {s i k : Nat} (hs : s < xs.length) (hik : i < k) (hk : (k : Int) < n) (h1 : s.testBit i = false) (h2 : s.testBit k = false) : gainL xs (s ||| 2 ^ i) k ≤ gainL xs s k := by
  have hf := poly_fun h
  have h5 := (isFun_true hf).1
  simp only [polyB, subB, Bool.and_eq_true, Bool.not_eq_true'] at h
  have hv := h.2.2
  have hb : badC n xs (s * 64 + i * 8 + k) = false := by
    cases hb : badC n xs (s * 64 + i * 8 + k) with
    | false => rfl
    | true =>
      have : violC n xs = none := by simpa [violB] using hv
      rw [violC, if_pos hf, List.find?_eq_none] at this
      exact absurd hb (this _ (by rw [List.mem_range]; omega))
  rw [badC_eq (by omega) (by omega), bitB_nat, bitB_nat, h1, h2] at hb
  simp only [hik, hk, decide_true, Bool.not_false, Bool.true_and, decide_eq_false_iff_not] at hb
  unfold exc at hb
  unfold gainL
  omega
theorem clo_val {n : Int} {xs : List Int} (h : polyB n xs = true) {s : Nat} (hs : s < xs.length) : ∀ j : Nat, (j : Int) ≤ n →
    xs.getD (cloTo xs s j) 0 = xs.getD s 0 ∧ (∀ e : Nat, j ≤ e → (e : Int) < n → s.testBit e = false → gainL xs (cloTo xs s j) e ≤ gainL xs s e) ∧ (∀ e : Nat, (e : Int) < n → xs.getD (s ||| 2 ^ e) 0 ≤ xs.getD (cloTo xs s j ||| 2 ^ e) 0)
  | 0, _ => ⟨rfl, fun _ _ _ _ => Int.le_refl _, fun _ _ => Int.le_refl _⟩
  | j + 1, hj => by
    have hf := poly_fun h
    obtain ⟨a1, a2, a3⟩ := clo_val h hs j (by omega)
    have hlt := cloTo_lt hf hs j (by omega)
    by_cases hg : gainL xs s j = 0
    · rw [cloTo_yes hg]
      cases hb : s.testBit j with
      | true =>
        rw [or_bit (cloTo_keeps hb j)]
        exact ⟨a1, fun e he => a2 e (by omega), a3⟩
      | false =>
        have hc : (cloTo xs s j).testBit j = false := by rw [cloTo_high xs s j j (Nat.le_refl _), hb]
        have g1 := a2 j (Nat.le_refl _) (by omega) hb
        have g2 := poly_inc h hlt (e := j) (by omega)
        refine ⟨?_, fun e he hen hse => ?_, fun e hen => ?_⟩
        · unfold gainL at g1 g2 hg
          omega
        · have hce : (cloTo xs s j).testBit e = false := by rw [cloTo_high xs s j e (by omega), hse]
          have := poly_sub h hlt (show j < e by omega) hen hc hce
          have := a2 e (by omega) hen hse
          omega
        · have h1 := a3 e hen
          have h2 := poly_inc h (or_lt hf hlt hen) (e := j) (by omega)
          unfold gainL at h2
          rw [Nat.or_assoc, Nat.or_comm (2 ^ j), ← Nat.or_assoc]
          omega
    · rw [cloTo_no hg]
      exact ⟨a1, fun e he => a2 e (by omega), a3⟩
/-- What a pass over the elements does at e. -/
theorem clo_step {n : Int} {xs : List Int} (h : polyB n xs = true) {s e : Nat} (hs : s < xs.length) (he : (e : Int) < n) (hb : (cloTo xs s e).testBit e = false) : gainL xs (cloTo xs s e) e = 0 ↔ gainL xs s e = 0 := by
  have hf := poly_fun h
  obtain ⟨a1, a2, a3⟩ := clo_val h hs e (by omega)
  have hlt := cloTo_lt hf hs e (by omega)
  have hbs : s.testBit e = false := by rw [← cloTo_high xs s e e (Nat.le_refl _), hb]
  have g1 := a2 e (Nat.le_refl _) he hbs
  have g2 := poly_inc h hlt he
  have g3 := poly_inc h hs he
  have g4 := a3 e he
  constructor
  · intro h0
    unfold gainL at *
    omega
  · intro h0
    omega
/-- A closed set is its own closure. -/
theorem clo_idem {n : Int} {xs : List Int} (h : polyB n xs = true) {s j : Nat} (hs : s < xs.length) (hj : (j : Int) = n) : ∀ k : Nat, k ≤ j → cloTo xs (cloTo xs s j) k = cloTo xs s j
  | 0, _ => rfl
  | k + 1, hk => by
    have ih := clo_idem h hs hj k (by omega)
    obtain ⟨a1, _, a3⟩ := clo_val h hs j (by omega)
    by_cases hg : gainL xs (cloTo xs s j) k = 0
    · rw [cloTo_yes hg, ih]
      apply or_bit
      apply cloTo_has _ j (by omega)
      have g3 := poly_inc h hs (e := k) (by omega)
      have g4 := a3 k (by omega)
      unfold gainL at *
      omega
    · rw [cloTo_no hg, ih]
/-- What ClosureOf returns. -/
def cloR (n : Int) (xs : List Int) (s : Int) : Int := if polyB n xs && isSet n s then (cloTo xs s.toNat n.toNat : Int) else -1
end Go.Proofs.Ytfcgijnfiiaepaa
