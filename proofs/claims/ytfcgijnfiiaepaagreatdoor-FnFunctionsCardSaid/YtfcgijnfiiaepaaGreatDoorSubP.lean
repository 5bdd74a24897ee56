/- Plain laws of submodular functions of sets, no program in sight. -/
import Derived.Test.YtfcgijnfiiaepaaGreatDoorKit
namespace Go.Proofs.YtfcgijnfiiaepaaGreatDoor
set_option linter.unusedSimpArgs false

/-- Submodular on all pairs of sets of j elements. -/
def SubF (j : Nat) (f : Nat → Int) : Prop := ∀ A B, A < 2 ^ j → B < 2 ^ j → f (A ||| B) + f (A &&& B) ≤ f A + f B
/-- Two elements outside a set add no more together than one by one. -/
def LocF (j : Nat) (f : Nat → Int) : Prop := ∀ s i k, s < 2 ^ j → i < k → k < j → s.testBit i = false → s.testBit k = false → f (s ||| 2 ^ i ||| 2 ^ k) + f s ≤ f (s ||| 2 ^ i) + f (s ||| 2 ^ k)
theorem or_comm3 (s p q : Nat) : s ||| p ||| q = s ||| q ||| p := by
  apply Nat.eq_of_testBit_eq
  intro i
  simp only [Nat.testBit_or]
  cases s.testBit i <;> cases p.testBit i <;> cases q.testBit i <;> rfl
theorem LocF.two {j : Nat} {f : Nat → Int} (h : LocF j f) (s i k : Nat) (hs : s < 2 ^ j) (hi : i < j) (hk : k < j) (hik : i ≠ k) (h1 : s.testBit i = false) (h2 : s.testBit k = false) :
    f (s ||| 2 ^ i ||| 2 ^ k) + f s ≤ f (s ||| 2 ^ i) + f (s ||| 2 ^ k) := by
  rcases Nat.lt_or_ge i k with hlt | hge
  · exact h s i k hs hlt hk h1 h2
  · have := h s k i hs (by omega) hi h2 h1
    rw [or_comm3] at this
    omega
theorem mod_pow_succ (B m : Nat) : B % 2 ^ (m + 1) = if B.testBit m then B % 2 ^ m ||| 2 ^ m else B % 2 ^ m := by
  apply Nat.eq_of_testBit_eq
  intro i
  rw [Nat.testBit_mod_two_pow]
  by_cases him : i = m
  · subst him
    split
    · rename_i h; simp [Nat.testBit_or, Nat.testBit_two_pow_self, h]
    · rename_i h; simp [h]
  · have hne : m ≠ i := fun e => him e.symm
    have hd : decide (i < m + 1) = decide (i < m) := by rw [decide_eq_decide]; omega
    split <;> simp [Nat.testBit_or, Nat.testBit_two_pow_of_ne hne, Nat.testBit_mod_two_pow, hd]
theorem or_self_bit {s e : Nat} (h : s.testBit e = true) : s ||| 2 ^ e = s := by
  apply Nat.eq_of_testBit_eq
  intro i
  by_cases hi : e = i
  · subst hi; simp [Nat.testBit_or, h]
  · simp [Nat.testBit_or, Nat.testBit_two_pow_of_ne hi]
theorem or_or_mod (S T m : Nat) (h : T.testBit m = true) : S ||| T % 2 ^ (m + 1) = (S ||| T % 2 ^ m) ||| 2 ^ m := by
  rw [mod_pow_succ, if_pos h, Nat.or_assoc]
theorem or_mod_same (S T m : Nat) (h : T.testBit m = false ∨ S.testBit m = true) : S ||| T % 2 ^ (m + 1) = S ||| T % 2 ^ m := by
  cases hT : T.testBit m with
  | false => rw [mod_pow_succ, if_neg (by simp [hT])]
  | true =>
    have hS : S.testBit m = true := by
      rcases h with h | h
      · rw [hT] at h; cases h
      · exact h
    rw [or_or_mod S T m hT]
    exact or_self_bit (by simp [Nat.testBit_or, hS])
theorem mod_lt_pow {T j : Nat} (m : Nat) (h : T < 2 ^ j) : T % 2 ^ m < 2 ^ j := Nat.lt_of_le_of_lt (Nat.mod_le _ _) h
/-- What an element adds gets less as the set grows. -/
theorem LocF.gain {j : Nat} {f : Nat → Int} (h : LocF j f) {S T k : Nat} (hS : S < 2 ^ j) (hT : T < 2 ^ j) (hk : k < j) (hkS : S.testBit k = false) (hkT : T.testBit k = false) :
    ∀ m, m ≤ j → f (S ||| T % 2 ^ m ||| 2 ^ k) - f (S ||| T % 2 ^ m) ≤ f (S ||| 2 ^ k) - f S
  | 0, _ => by simp [Nat.mod_one]
  | m + 1, hm => by
    have ih := LocF.gain h hS hT hk hkS hkT m (by omega)
    by_cases hc : T.testBit m = true ∧ S.testBit m = false
    · obtain ⟨h1, h2⟩ := hc
      have hmk : m ≠ k := fun e => by rw [e, hkT] at h1; cases h1
      rw [or_or_mod S T m h1]
      have := h.two (S ||| T % 2 ^ m) m k (Nat.or_lt_two_pow hS (mod_lt_pow m hT)) (by omega) hk hmk (by simp [Nat.testBit_or, h2, Nat.testBit_mod_two_pow]) (by simp [Nat.testBit_or, hkS, Nat.testBit_mod_two_pow, hkT])
      omega
    · rw [or_mod_same S T m (by cases h1 : T.testBit m with | false => exact .inl rfl | true => exact .inr (by simpa [h1] using hc))]
      exact ih
theorem or_mod_full (S : Nat) {T j : Nat} (h : T < 2 ^ j) : S ||| T % 2 ^ j = S ||| T := by rw [Nat.mod_eq_of_lt h]
theorem or_of_sub {S T : Nat} (h : S &&& T = S) : S ||| T = T := by
  apply Nat.eq_of_testBit_eq
  intro i
  have := congrArg (fun x => x.testBit i) h
  simp only [Nat.testBit_and] at this
  rw [Nat.testBit_or]
  revert this
  cases S.testBit i <;> cases T.testBit i <;> decide
theorem LocF.mono {j : Nat} {f : Nat → Int} (h : LocF j f) {S T k : Nat} (hS : S < 2 ^ j) (hT : T < 2 ^ j) (hsub : S &&& T = S) (hk : k < j) (hkT : T.testBit k = false) :
    f (T ||| 2 ^ k) - f T ≤ f (S ||| 2 ^ k) - f S := by
  have hkS : S.testBit k = false := by
    have := congrArg (fun x => x.testBit k) hsub
    simpa [Nat.testBit_and, hkT] using this.symm
  have := h.gain hS hT hk hkS hkT j (Nat.le_refl _)
  rw [or_mod_full S hT, or_of_sub hsub] at this
  exact this
theorem and_or_sub (A B D : Nat) : (A &&& B ||| D) &&& (A ||| D) = A &&& B ||| D := by
  apply Nat.eq_of_testBit_eq
  intro i
  simp only [Nat.testBit_or, Nat.testBit_and]
  cases A.testBit i <;> cases B.testBit i <;> cases D.testBit i <;> rfl
theorem LocF.sub {j : Nat} {f : Nat → Int} (h : LocF j f) : SubF j f := fun A B hA hB => by
  have key : ∀ m, m ≤ j → f (A ||| B % 2 ^ m) - f A ≤ f (A &&& B ||| B % 2 ^ m) - f (A &&& B) := by
    intro m
    induction m with
    | zero => intro _; simp [Nat.mod_one]
    | succ m ih =>
      intro hm
      have ih := ih (by omega)
      have hAB : A &&& B < 2 ^ j := Nat.and_lt_two_pow _ hB
      by_cases hc : B.testBit m = true ∧ A.testBit m = false
      · obtain ⟨h1, h2⟩ := hc
        rw [or_or_mod A B m h1, or_or_mod (A &&& B) B m h1]
        have := h.mono (Nat.or_lt_two_pow hAB (mod_lt_pow m hB)) (Nat.or_lt_two_pow hA (mod_lt_pow m hB)) (and_or_sub A B (B % 2 ^ m)) (show m < j by omega) (by simp [Nat.testBit_or, h2, Nat.testBit_mod_two_pow])
        omega
      · have hor : B.testBit m = false ∨ A.testBit m = true := by cases h1 : B.testBit m with | false => exact .inl rfl | true => exact .inr (by simpa [h1] using hc)
        rw [or_mod_same A B m hor, or_mod_same (A &&& B) B m (by rcases hor with h | h; exact .inl h; cases h1 : B.testBit m with | false => exact .inl rfl | true => exact .inr (by simp [Nat.testBit_and, h, h1]))]
        exact ih
  have := key j (Nat.le_refl _)
  rw [or_mod_full A hB, or_mod_full _ hB, or_of_sub (S := A &&& B) (T := B) (by rw [Nat.and_assoc, Nat.and_self])] at this
  omega
theorem SubF.loc {j : Nat} {f : Nat → Int} (h : SubF j f) : LocF j f := fun s i k hs hik hk h1 h2 => by
  have hp : ∀ e, e < j → 2 ^ e < 2 ^ j := fun e he => Nat.pow_lt_pow_right (by decide) he
  have hh := h (s ||| 2 ^ i) (s ||| 2 ^ k) (Nat.or_lt_two_pow hs (hp i (by omega))) (Nat.or_lt_two_pow hs (hp k hk))
  have e1 : (s ||| 2 ^ i) ||| (s ||| 2 ^ k) = s ||| 2 ^ i ||| 2 ^ k := by
    apply Nat.eq_of_testBit_eq
    intro b
    simp only [Nat.testBit_or]
    cases s.testBit b <;> simp
  have e2 : (s ||| 2 ^ i) &&& (s ||| 2 ^ k) = s := by
    apply Nat.eq_of_testBit_eq
    intro b
    simp only [Nat.testBit_or, Nat.testBit_and]
    by_cases hb : i = b
    · subst hb
      simp [h1, Nat.testBit_two_pow_of_ne (show k ≠ i by omega)]
    · simp [Nat.testBit_two_pow_of_ne hb]
      cases s.testBit b <;> simp
  rw [e1, e2] at hh
  exact hh
/-- Growing on all pairs, of growing by single elements. -/
theorem up_of_gain {j : Nat} {f : Nat → Int} (h : ∀ s e, s < 2 ^ j → e < j → f s ≤ f (s ||| 2 ^ e)) {S T : Nat} (hS : S < 2 ^ j) (hT : T < 2 ^ j) (hsub : S &&& T = S) : f S ≤ f T := by
  have key : ∀ m, m ≤ j → f S ≤ f (S ||| T % 2 ^ m) := by
    intro m
    induction m with
    | zero => intro _; simp [Nat.mod_one]
    | succ m ih =>
      intro hm
      have ih := ih (by omega)
      cases h1 : T.testBit m with
      | true => rw [or_or_mod S T m h1]; have := h (S ||| T % 2 ^ m) m (Nat.or_lt_two_pow hS (mod_lt_pow m hT)) (by omega); omega
      | false => rw [or_mod_same S T m (.inl h1)]; exact ih
  have := key j (Nat.le_refl _)
  rw [or_mod_full S hT, or_of_sub hsub] at this
  exact this
theorem SubF.congr {j : Nat} {f g : Nat → Int} (h : SubF j f) (e : ∀ s, s < 2 ^ j → g s = f s) : SubF j g := fun A B hA hB => by
  rw [e _ (Nat.or_lt_two_pow hA hB), e _ (Nat.and_lt_two_pow _ hB), e _ hA, e _ hB]
  exact h A B hA hB
theorem SubF.add {j : Nat} {f g : Nat → Int} (h : SubF j f) (h' : SubF j g) : SubF j (fun s => f s + g s) := fun A B hA hB => by
  have := h A B hA hB; have := h' A B hA hB
  show f _ + g _ + (f _ + g _) ≤ f A + g A + (f B + g B)
  omega
/-- A growing submodular function that is cut off above. -/
theorem SubF.min {j : Nat} {f : Nat → Int} (h : SubF j f) (hup : ∀ S T, S < 2 ^ j → T < 2 ^ j → S &&& T = S → f S ≤ f T) (k : Int) : SubF j (fun s => min k (f s)) := fun A B hA hB => by
  have h0 := h A B hA hB
  have hO := Nat.or_lt_two_pow hA hB
  have hN : A &&& B < 2 ^ j := Nat.and_lt_two_pow _ hB
  have h1 := hup _ _ hN hA (by rw [Nat.and_comm, ← Nat.and_assoc, Nat.and_self])
  have h2 := hup _ _ hN hB (by rw [Nat.and_assoc, Nat.and_self])
  show Min.min k (f (A ||| B)) + Min.min k (f (A &&& B)) ≤ Min.min k (f A) + Min.min k (f B)
  omega
/-- The least value of the sets above. -/
theorem SubF.hull {j : Nat} {f g : Nat → Int} (h : SubF j f) (hle : ∀ s X, s < 2 ^ j → X < 2 ^ j → s &&& X = s → g s ≤ f X) (hex : ∀ s, s < 2 ^ j → ∃ X, X < 2 ^ j ∧ s &&& X = s ∧ g s = f X) : SubF j g := fun A B hA hB => by
  obtain ⟨X, hX, sX, eX⟩ := hex A hA
  obtain ⟨Y, hY, sY, eY⟩ := hex B hB
  have bits : ∀ i, (A.testBit i = true → X.testBit i = true) ∧ (B.testBit i = true → Y.testBit i = true) := fun i => by
    have h1 := congrArg (fun x => x.testBit i) sX
    have h2 := congrArg (fun x => x.testBit i) sY
    simp only [Nat.testBit_and] at h1 h2
    revert h1 h2
    cases A.testBit i <;> cases B.testBit i <;> cases X.testBit i <;> cases Y.testBit i <;> decide
  have u := hle (A ||| B) (X ||| Y) (Nat.or_lt_two_pow hA hB) (Nat.or_lt_two_pow hX hY) (by
    apply Nat.eq_of_testBit_eq
    intro i
    have := bits i
    simp only [Nat.testBit_and, Nat.testBit_or]
    revert this
    cases A.testBit i <;> cases B.testBit i <;> cases X.testBit i <;> cases Y.testBit i <;> decide)
  have v := hle (A &&& B) (X &&& Y) (Nat.and_lt_two_pow _ hB) (Nat.and_lt_two_pow _ hY) (by
    apply Nat.eq_of_testBit_eq
    intro i
    have := bits i
    simp only [Nat.testBit_and, Nat.testBit_or]
    revert this
    cases A.testBit i <;> cases B.testBit i <;> cases X.testBit i <;> cases Y.testBit i <;> decide)
  have := h X Y hX hY
  omega
/-- The least sum of a part and the rest, where the second function is a sum of weights. -/
theorem SubF.conv {j : Nat} {f m g : Nat → Int} (h : SubF j f) (hm : ∀ A B, A < 2 ^ j → B < 2 ^ j → m (A ||| B) + m (A &&& B) = m A + m B)
    (hle : ∀ s X, s < 2 ^ j → X &&& s = X → g s ≤ f X + (m s - m X)) (hex : ∀ s, s < 2 ^ j → ∃ X, X &&& s = X ∧ g s = f X + (m s - m X)) : SubF j g := fun A B hA hB => by
  obtain ⟨X, sX, eX⟩ := hex A hA
  obtain ⟨Y, sY, eY⟩ := hex B hB
  have hX : X < 2 ^ j := by rw [← sX]; exact Nat.and_lt_two_pow _ hA
  have hY : Y < 2 ^ j := by rw [← sY]; exact Nat.and_lt_two_pow _ hB
  have bits : ∀ i, (X.testBit i = true → A.testBit i = true) ∧ (Y.testBit i = true → B.testBit i = true) := fun i => by
    have h1 := congrArg (fun x => x.testBit i) sX
    have h2 := congrArg (fun x => x.testBit i) sY
    simp only [Nat.testBit_and] at h1 h2
    revert h1 h2
    cases A.testBit i <;> cases B.testBit i <;> cases X.testBit i <;> cases Y.testBit i <;> decide
  have u := hle (A ||| B) (X ||| Y) (Nat.or_lt_two_pow hA hB) (by
    apply Nat.eq_of_testBit_eq
    intro i
    have := bits i
    simp only [Nat.testBit_and, Nat.testBit_or]
    revert this
    cases A.testBit i <;> cases B.testBit i <;> cases X.testBit i <;> cases Y.testBit i <;> decide)
  have v := hle (A &&& B) (X &&& Y) (Nat.and_lt_two_pow _ hB) (by
    apply Nat.eq_of_testBit_eq
    intro i
    have := bits i
    simp only [Nat.testBit_and, Nat.testBit_or]
    revert this
    cases A.testBit i <;> cases B.testBit i <;> cases X.testBit i <;> cases Y.testBit i <;> decide)
  have := h X Y hX hY
  have := hm X Y hX hY
  have := hm A B hA hB
  omega
/-- The values at the images of sets. -/
theorem SubF.image {j k : Nat} {f : Nat → Int} (h : SubF j f) (φ : Nat → Nat) (hlt : ∀ s, s < 2 ^ k → φ s < 2 ^ j) (hor : ∀ A B, A < 2 ^ k → B < 2 ^ k → φ (A ||| B) = φ A ||| φ B) (hand : ∀ A B, A < 2 ^ k → B < 2 ^ k → φ (A &&& B) = φ A &&& φ B) : SubF k (fun s => f (φ s)) := fun A B hA hB => by
  show f (φ (A ||| B)) + f (φ (A &&& B)) ≤ f (φ A) + f (φ B)
  rw [hor A B hA hB, hand A B hA hB]
  exact h _ _ (hlt A hA) (hlt B hB)
/-- The values of the complements. -/
theorem SubF.opp {j : Nat} {f : Nat → Int} (h : SubF j f) : SubF j (fun s => f (2 ^ j - 1 - s)) := fun A B hA hB => by
  have e : ∀ x, 2 ^ j - 1 - x = 2 ^ j - (x + 1) := fun x => by omega
  have e1 : 2 ^ j - 1 - (A ||| B) = (2 ^ j - 1 - A) &&& (2 ^ j - 1 - B) := by
    rw [e, e, e]
    apply Nat.eq_of_testBit_eq
    intro i
    rw [Nat.testBit_and, Nat.testBit_two_pow_sub_succ (Nat.or_lt_two_pow hA hB), Nat.testBit_two_pow_sub_succ hA, Nat.testBit_two_pow_sub_succ hB, Nat.testBit_or]
    cases decide (i < j) <;> cases A.testBit i <;> cases B.testBit i <;> rfl
  have e2 : 2 ^ j - 1 - (A &&& B) = (2 ^ j - 1 - A) ||| (2 ^ j - 1 - B) := by
    rw [e, e, e]
    apply Nat.eq_of_testBit_eq
    intro i
    rw [Nat.testBit_or, Nat.testBit_two_pow_sub_succ (Nat.and_lt_two_pow _ hB), Nat.testBit_two_pow_sub_succ hA, Nat.testBit_two_pow_sub_succ hB, Nat.testBit_and]
    cases decide (i < j) <;> cases A.testBit i <;> cases B.testBit i <;> rfl
  show f (2 ^ j - 1 - (A ||| B)) + f (2 ^ j - 1 - (A &&& B)) ≤ f (2 ^ j - 1 - A) + f (2 ^ j - 1 - B)
  rw [e1, e2]
  have := h (2 ^ j - 1 - A) (2 ^ j - 1 - B) (by omega) (by omega)
  omega
end Go.Proofs.YtfcgijnfiiaepaaGreatDoor
