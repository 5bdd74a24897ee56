/- Plain law of numerals: the number is read back from its digits. No program in sight. -/
import Derived.Test.YtfcgijnfiiaepaaGreatDoorItoa
namespace Go.Proofs.YtfcgijnfiiaepaaGreatDoor
set_option linter.unusedSimpArgs false
set_option linter.unusedVariables false
open Go.RowKit

/-- One byte read: number and count of digits. -/
def dstep (p : Nat × Nat) (b : Int) : Nat × Nat := if 48 ≤ b ∧ b ≤ 57 then (p.1 * 10 + (b - 48).toNat, p.2 + 1) else p
def dfold (l : List Int) : Nat × Nat := l.foldl dstep (0, 0)
theorem dfold_snoc (l : List Int) (b : Int) : dfold (l ++ [b]) = dstep (dfold l) b := by simp [dfold]
theorem dfold_nil : dfold [] = (0, 0) := rfl
theorem rev_ind {p : List Int → Prop} (h0 : p []) (h1 : ∀ l b, p l → p (l ++ [b])) (l : List Int) : p l := by
  have key : ∀ l : List Int, p l.reverse := by
    intro l
    induction l with
    | nil => exact h0
    | cons x t ih => rw [List.reverse_cons]; exact h1 _ _ ih
  have := key l.reverse
  rwa [List.reverse_reverse] at this
theorem dfold_lt (l : List Int) : (dfold l).1 < 10 ^ (dfold l).2 := by
  refine rev_ind (p := fun l => (dfold l).1 < 10 ^ (dfold l).2) (by decide) (fun l b ih => ?_) l
  rw [dfold_snoc]
  unfold dstep
  split
  · show (dfold l).1 * 10 + (b - 48).toNat < 10 ^ ((dfold l).2 + 1)
    rw [Nat.pow_succ]
    omega
  · exact ih
theorem dfold_le (l : List Int) : (dfold l).2 ≤ l.length := by
  refine rev_ind (p := fun l => (dfold l).2 ≤ l.length) (by decide) (fun l b ih => ?_) l
  rw [dfold_snoc, List.length_append]
  unfold dstep
  split
  · show (dfold l).2 + 1 ≤ l.length + 1; omega
  · simp; omega
theorem dfold_cons45 (l : List Int) : dfold (45 :: l) = dfold l := rfl
theorem digL_fold (u : Nat) : dfold (digL u) = (u, (digL u).length) := by
  induction u using Nat.strongRecOn with
  | ind u ih =>
    rcases Nat.eq_zero_or_pos u with rfl | h
    · rfl
    · rw [digL_step h, dfold_snoc, ih (u / 10) (by omega)]
      unfold dstep
      rw [if_pos (by omega)]
      simp only [List.length_append, List.length_cons, List.length_nil]
      congr 1
      omega
theorem digL_mem (u : Nat) : ∀ b ∈ digL u, 48 ≤ b ∧ b ≤ 57 := by
  induction u using Nat.strongRecOn with
  | ind u ih =>
    rcases Nat.eq_zero_or_pos u with rfl | h
    · intro b hb; cases hb
    · rw [digL_step h]
      intro b hb
      rcases List.mem_append.1 hb with h1 | h1
      · exact ih (u / 10) (by omega) b h1
      · simp only [List.mem_singleton] at h1
        omega
theorem digL_length (k : Nat) : ∀ u, u < 10 ^ k → (digL u).length ≤ k := by
  induction k with
  | zero => intro u h; obtain rfl : u = 0 := by simpa using h
            decide
  | succ k ih =>
    intro u h
    rcases Nat.eq_zero_or_pos u with rfl | h0
    · simp [digL_zero]
    · rw [digL_step h0, List.length_append]
      have := ih (u / 10) (by rw [Nat.pow_succ] at h; omega)
      simp
      omega
theorem digL_pos {u : Nat} (h : 0 < u) : 0 < (digL u).length := by rw [digL_step h]; simp
/-- The numeral's bytes as numbers. -/
def numL (n : Int) : List Int := if n = 0 then [48] else if 0 < n then digL n.toNat else 45 :: digL (-n).toNat
theorem itoaS_numL (n : Int) : itoaS n = strOfNums (numL n) := by
  unfold numL itoaS
  split
  · rename_i h; subst h; decide +kernel
  · split
    · obtain ⟨N, rfl⟩ : ∃ N : Nat, n = (N : Int) := ⟨n.toNat, by omega⟩
      rw [itoa_pos (by omega), ← digL_str (by omega)]
      rfl
    · obtain ⟨N, rfl⟩ : ∃ N : Nat, n = -(N : Int) := ⟨(-n).toNat, by omega⟩
      have h2 : (-(-(N : Int))).toNat = N := by omega
      rw [itoa_neg (by omega), h2, show (45 :: digL N) = [45] ++ digL N from rfl, ← strOfNums_append, digL_str (by omega)]
      rfl
theorem numL_byte (n : Int) : ∀ b ∈ numL n, 0 ≤ b ∧ b < 256 := by
  unfold numL
  split
  · intro b hb; simp only [List.mem_singleton] at hb; omega
  · split
    · intro b hb; have := digL_mem _ b hb; omega
    · intro b hb
      rcases List.mem_cons.1 hb with rfl | h
      · omega
      · have := digL_mem _ b h; omega
theorem numsOf_str {l : List Int} (h : ∀ b ∈ l, 0 ≤ b ∧ b < 256) : numsOf (strOfNums l) = l := by
  unfold numsOf strOfNums
  simp only [List.map_map]
  conv => rhs; rw [← List.map_id l]
  apply List.map_congr_left
  intro b hb
  obtain ⟨h0, h1⟩ := h b hb
  simp only [Function.comp, id_eq]
  rw [show (UInt8.ofNat b.toNat).toNat = b.toNat from by rw [UInt8.toNat_ofNat']; omega]
  omega
theorem numsOf_itoa (n : Int) : numsOf (itoaS n) = numL n := by rw [itoaS_numL, numsOf_str (numL_byte n)]
theorem itoaS_size (n : Int) : (itoaS n).size = (numL n).length := by rw [← numsOf_itoa, numsOf_length]
theorem numL_abs (n : Int) : (dfold (numL n)).1 = n.natAbs := by
  unfold numL
  split
  · rename_i h; subst h; rfl
  · split
    · rw [digL_fold]; simp only; omega
    · rw [dfold_cons45, digL_fold]; simp only; omega
theorem numL_head (n : Int) : (numL n).getD 0 0 = 45 ↔ n < 0 := by
  unfold numL
  split
  · rename_i h; subst h; decide
  · split
    · have hp := digL_pos (u := n.toNat) (by omega)
      have hm : (digL n.toNat).getD 0 0 ∈ digL n.toNat := by
        rw [List.getD_eq_getElem?_getD, List.getElem?_eq_getElem hp]
        exact List.getElem_mem hp
      have := digL_mem _ _ hm
      omega
    · simp; omega
theorem numL_short (n : Int) (h0 : -1000000000 < n) (h1 : n < 1000000000) : (numL n).length ≤ 10 ∧ (dfold (numL n)).2 ≤ 9 := by
  have hk : ∀ u : Nat, u < 1000000000 → (digL u).length ≤ 9 := fun u hu => digL_length 9 u hu
  unfold numL
  split
  · exact ⟨by decide, by decide⟩
  · split
    · have := hk n.toNat (by omega)
      rw [digL_fold]
      exact ⟨by omega, this⟩
    · have := hk (-n).toNat (by omega)
      rw [dfold_cons45, digL_fold]
      exact ⟨by simp; omega, this⟩
/-- The number that the bytes spell. -/
def valL (l : List Int) : Int := if l.getD 0 0 = 45 then -((dfold l).1 : Int) else ((dfold l).1 : Int)
theorem valL_numL (n : Int) : valL (numL n) = n := by
  unfold valL
  rw [numL_abs]
  split
  · rename_i h; have := (numL_head n).1 h; omega
  · rename_i h
    have : ¬ n < 0 := fun h2 => h ((numL_head n).2 h2)
    omega
theorem valL_bd (l : List Int) (k : Nat) (h : (dfold l).2 ≤ k) : -(10 ^ k : Int) < valL l ∧ valL l < 10 ^ k := by
  have h1 := dfold_lt l
  have h2 : (dfold l).1 < 10 ^ k := Nat.lt_of_lt_of_le h1 (Nat.pow_le_pow_right (by decide) h)
  have h3 : ((dfold l).1 : Int) < (10 ^ k : Int) := by exact_mod_cast h2
  unfold valL
  split <;> omega
theorem itoaS_inj {n m : Int} (h : itoaS n = itoaS m) : n = m := by
  rw [← valL_numL n, ← valL_numL m, ← numsOf_itoa, ← numsOf_itoa, h]
/-- ParseInt. -/
def parseOk (s : ByteArray) : Bool := decide (-1000000000 < valL (numsOf s)) && decide (valL (numsOf s) < 1000000000) && decide (itoaS (valL (numsOf s)) = s)
def parseV (s : ByteArray) : Int := if parseOk s then valL (numsOf s) else 0
theorem parseOk_itoa (n : Int) : parseOk (itoaS n) = (decide (-1000000000 < n) && decide (n < 1000000000)) := by
  unfold parseOk
  rw [numsOf_itoa, valL_numL]
  simp
theorem parseV_itoa (n : Int) (h0 : -1000000000 < n) (h1 : n < 1000000000) : parseV (itoaS n) = n := by
  unfold parseV
  rw [parseOk_itoa, numsOf_itoa, valL_numL]
  simp [h0, h1]
theorem parseOk_eq {s : ByteArray} (h : parseOk s = true) : ∃ n : Int, -1000000000 < n ∧ n < 1000000000 ∧ s = itoaS n := by
  simp only [parseOk, Bool.and_eq_true, decide_eq_true_eq] at h
  exact ⟨_, h.1.1, h.1.2, h.2.symm⟩
theorem parseV_bd (s : ByteArray) : -1000000000 < parseV s ∧ parseV s < 1000000000 := by
  unfold parseV
  split
  · rename_i h
    simp only [parseOk, Bool.and_eq_true, decide_eq_true_eq] at h
    exact h.1
  · omega
/-- What a reader checks suffices, and is needed. -/
theorem parse_yes {s : ByteArray} (h : (dfold (numsOf s)).2 ≤ 9) (he : itoaS (valL (numsOf s)) = s) : parseOk s = true ∧ parseV s = valL (numsOf s) := by
  have hb := valL_bd (numsOf s) 9 h
  have hok : parseOk s = true := by
    simp only [parseOk, Bool.and_eq_true, decide_eq_true_eq]
    exact ⟨⟨by omega, by omega⟩, he⟩
  exact ⟨hok, by rw [parseV, if_pos hok]⟩
theorem parse_no {s : ByteArray} (h : ∀ n : Int, -1000000000 < n → n < 1000000000 → s ≠ itoaS n) : parseOk s = false ∧ parseV s = 0 := by
  have hok : parseOk s = false := by
    cases hb : parseOk s with
    | false => rfl
    | true =>
      obtain ⟨n, h0, h1, e⟩ := parseOk_eq hb
      exact absurd e (h n h0 h1)
  exact ⟨hok, by rw [parseV, hok]; rfl⟩
end Go.Proofs.YtfcgijnfiiaepaaGreatDoor
