/- Plain law of the encodings: what was encoded is decoded again, whatever follows. No program in sight. -/
import Derived.Test.YtfcgijnfiiaepaaDoorVarint
import Derived.Test.YtfcgijnfiiaepaaDoorFixed
import Derived.Test.YtfcgijnfiiaepaaDoorHexDec
import Derived.Test.YtfcgijnfiiaepaaDoorParseI
import Derived.Test.YtfcgijnfiiaepaaDoorCurNum
namespace Go.Proofs.YtfcgijnfiiaepaaDoor
set_option linter.unusedSimpArgs false
set_option linter.unusedVariables false
open Go.RowKit

theorem numsOf_append (a b : ByteArray) : numsOf (a ++ b) = numsOf a ++ numsOf b := by
  obtain ⟨⟨a⟩⟩ := a
  obtain ⟨⟨b⟩⟩ := b
  rw [ByteArray.mk_append_mk]
  simp [numsOf]
theorem numsOf_strOf {l : List Int} (h : ∀ x ∈ l, 0 ≤ x ∧ x < 256) : numsOf (strOfNums l) = l := numsOf_str h
theorem strOf_numsOf (s : ByteArray) : strOfNums (numsOf s) = s := by
  unfold strOfNums
  rw [ofNat_numsOf]
theorem vlF_len (f : Nat) : ∀ n : Int, 1 ≤ (vlF f n).length ∧ (vlF f n).length ≤ f + 1 := by
  induction f with
  | zero => intro n; simp [vlF]
  | succ f ih =>
    intro n
    by_cases h : 128 ≤ n
    · rw [vlF_big f n h]; have := ih (n / 128); simp only [List.length_cons]; omega
    · rw [vlF_small _ n (by omega)]; simp
theorem val_vlF (f : Nat) : ∀ n : Int, 0 ≤ n → n < 128 ^ (f + 1) → val (vlF f n) = n := by
  induction f with
  | zero => intro n h0 h1; simp at h1; simp [vlF, val]; omega
  | succ f ih =>
    intro n h0 h1
    by_cases h : 128 ≤ n
    · rw [Int.pow_succ] at h1
      rw [vlF_big f n h, val, ih (n / 128) (by omega) (by omega)]
      omega
    · rw [vlF_small _ n (by omega)]; simp [val]; omega
theorem encV_in {n : Int} (h0 : 0 ≤ n) (h1 : n ≤ 562949953421311) : encV n = strOfNums (vlF 6 n) := by rw [encV, if_pos (inB_true.2 ⟨h0, h1⟩)]
theorem encV_out {n : Int} (h : n < 0 ∨ 562949953421311 < n) : encV n = ⟨#[]⟩ := by
  rw [encV, if_neg]
  intro h2
  have := inB_true.1 h2
  omega
/-- A varint is read back, whatever follows. -/
theorem dv_enc {n : Int} (h0 : 0 ≤ n) (h1 : n ≤ 562949953421311) (t : ByteArray) {x k : Int} (h : DV (numsOf (encV n ++ t)) x k) : x = n ∧ k = ((encV n).size : Int) := by
  have hb : n < 128 ^ (6 + 1) := Int.lt_of_le_of_lt h1 (by decide)
  have hm := vlF_mem 6 n h0 hb
  have hl := vlF_len 6 n
  have hn : numsOf (encV n ++ t) = vlF 6 n ++ numsOf t := by rw [numsOf_append, encV_in h0 h1, numsOf_strOf hm]
  have hsz : (encV n).size = (vlF 6 n).length := by rw [encV_in h0 h1, strOfNums_size]
  have htk : (vlF 6 n ++ numsOf t).take (vlF 6 n).length = vlF 6 n := by simp
  rw [hn] at h
  rw [hsz]
  refine h.unique (.inl ⟨(vlF 6 n).length, rfl, hl.1, hl.2, by simp, ?_, ?_⟩)
  · rw [← canonL_take _ _ hl.1 (by simp), htk]
    exact canonL_enc 6 n _ h0 hb rfl
  · rw [htk, val_vlF 6 n h0 hb]
theorem encV_pos {n : Int} (h0 : 0 ≤ n) (h1 : n ≤ 562949953421311) : 1 ≤ (encV n).size ∧ (encV n).size ≤ 7 := by
  rw [encV_in h0 h1, strOfNums_size]; exact vlF_len 6 n
theorem pow256 (k : Nat) : (2 : Int) ^ (8 * k) = 256 ^ k := by rw [Int.pow_mul]; rfl
theorem decF_shift (l : List Int) : ∀ c : Int, l.foldl (fun n b => n * 256 + b) c = c * 256 ^ l.length + decF l := by
  induction l with
  | nil => intro c; simp [decF]
  | cons b l ih =>
    intro c
    simp only [List.foldl_cons, decF, List.length_cons]
    rw [ih, ih (0 * 256 + b), Int.pow_succ]
    have : (c * 256 + b) * 256 ^ l.length = c * (256 ^ l.length * 256) + b * 256 ^ l.length := by
      rw [Int.add_mul, Int.mul_assoc, Int.mul_comm 256 (256 ^ l.length)]
    rw [this]
    simp only [Int.zero_mul, Int.zero_add]
    omega
theorem decF_cons (c : Int) (l : List Int) : decF (c :: l) = c * 256 ^ l.length + decF l := by
  have := decF_shift l (0 * 256 + c)
  simp only [Int.zero_mul, Int.zero_add] at this
  simp only [decF, List.foldl_cons, Int.zero_mul, Int.zero_add]
  exact this
theorem mod_mul (n P : Int) (hP : 0 < P) : n % (P * 256) = n % P + n / P % 256 * P := by
  have h1 := Int.emod_add_mul_ediv n P
  have h2 := Int.emod_add_mul_ediv (n / P) 256
  have hr0 := Int.emod_nonneg n (show P ≠ 0 by omega)
  have hr1 := Int.emod_lt_of_pos n hP
  have hs0 := Int.emod_nonneg (n / P) (show (256 : Int) ≠ 0 by decide)
  have hs1 := Int.emod_lt_of_pos (n / P) (show (0 : Int) < 256 by decide)
  refine (Int.ediv_emod_unique (q := n / P / 256) (by omega)).2 ⟨?_, ?_, ?_⟩ |>.2
  · have e : P * (n / P) = n / P % 256 * P + P * 256 * (n / P / 256) := by
      conv => lhs; rw [← h2, Int.mul_add]
      rw [Int.mul_comm P (n / P % 256), Int.mul_assoc]
    omega
  · have := Int.mul_nonneg hs0 (Int.le_of_lt hP)
    omega
  · have : n / P % 256 * P ≤ 255 * P := Int.mul_le_mul_of_nonneg_right (by omega) (Int.le_of_lt hP)
    omega
theorem decF_beL (n : Int) (k : Nat) : decF (beL n k) = n % 256 ^ k := by
  induction k with
  | zero => simp [beL, decF]
  | succ k ih =>
    rw [beL_succ, decF_cons, ih, beL_length, pow256]
    rw [Int.pow_succ, mod_mul n (256 ^ k) (Int.pow_pos (by decide))]
    omega
theorem encFOk_facts {n width : Int} (h : encFOk n width = true) : (1 ≤ width ∧ width ≤ 7) ∧ 0 ≤ n ∧ n < 256 ^ width.toNat := by
  simp only [encFOk, Bool.and_eq_true, decide_eq_true_eq] at h
  obtain ⟨⟨h1, h2⟩, h3⟩ := h
  rw [pow256] at h3
  have hp : (0 : Int) < 256 ^ width.toNat := Int.pow_pos (by decide)
  exact ⟨inB_true.1 h1, h2, by
    have h4 := Int.emod_add_mul_ediv n (256 ^ width.toNat)
    rw [h3, Int.mul_zero, Int.add_zero] at h4
    have := Int.emod_lt_of_pos n hp
    omega⟩
theorem beL_mem (n : Int) (k : Nat) : ∀ x ∈ beL n k, 0 ≤ x ∧ x < 256 := by
  intro x hx
  obtain ⟨j, _, rfl⟩ := List.mem_map.1 hx
  exact ⟨Int.emod_nonneg _ (by decide), Int.emod_lt_of_pos _ (by decide)⟩
theorem encF_size {n width : Int} (h : encFOk n width = true) : ((encF n width).size : Int) = width := by
  have := (encFOk_facts h).1
  rw [encF, if_pos h, strOfNums_size, beL_length]
  omega
/-- A number of fixed width is read back, whatever follows. -/
theorem decF_enc {n width : Int} (h : encFOk n width = true) (t : ByteArray) : fixedOk (encF n width ++ t) width = true ∧ decFixed (encF n width ++ t) width = n := by
  obtain ⟨hw, h0, h1⟩ := encFOk_facts h
  have hs := encF_size h
  have hok : fixedOk (encF n width ++ t) width = true := by
    simp only [fixedOk, Bool.and_eq_true, decide_eq_true_eq]
    refine ⟨inB_true.2 hw, ?_⟩
    rw [ByteArray.size_append]
    omega
  refine ⟨hok, ?_⟩
  have htk : (numsOf (encF n width ++ t)).take width.toNat = beL n width.toNat := by
    rw [numsOf_append, encF, if_pos h, numsOf_strOf (beL_mem _ _)]
    rw [List.take_append_of_le_length (by rw [beL_length]; exact Nat.le_refl _), List.take_of_length_le (by rw [beL_length]; exact Nat.le_refl _)]
  rw [decFixed, if_pos hok, htk, decF_beL]
  exact Int.emod_eq_of_lt h0 h1
theorem hexD_byte (k : Int) (h0 : 0 ≤ k) (h1 : k < 16) : 0 ≤ hexD k ∧ hexD k < 256 := by unfold hexD; split <;> omega
theorem hexL_getD (l : List Int) : ∀ j, j < l.length → (hexL l).getD (2 * j) 0 = hexD (l.getD j 0 / 16) ∧ (hexL l).getD (2 * j + 1) 0 = hexD (l.getD j 0 % 16) := by
  induction l with
  | nil => intro j h; simp at h
  | cons b l ih =>
    intro j h
    have e : hexL (b :: l) = hexD (b / 16) :: hexD (b % 16) :: hexL l := by simp [hexL]
    rw [e]
    cases j with
    | zero => exact ⟨rfl, rfl⟩
    | succ j =>
      have := ih j (by simp at h; omega)
      have e1 : 2 * (j + 1) = 2 * j + 2 := by omega
      rw [e1]
      exact this
theorem hexL_mem (l : List Int) (h : ∀ x ∈ l, 0 ≤ x ∧ x < 256) : ∀ x ∈ hexL l, 0 ≤ x ∧ x < 256 := by
  intro x hx
  obtain ⟨b, hb, hx⟩ := List.mem_flatMap.1 hx
  have := h b hb
  simp only [List.mem_cons, List.not_mem_nil, or_false] at hx
  rcases hx with rfl | rfl
  · exact hexD_byte _ (by omega) (by omega)
  · exact hexD_byte _ (by omega) (by omega)
/-- A hexadecimal text is read back. -/
theorem hex_back (s : ByteArray) : hexOk (numsOf (strOfNums (hexL (numsOf s)))) = true ∧ decHex (strOfNums (hexL (numsOf s))) = s ∧ (strOfNums (hexL (numsOf s))).size = 2 * s.size := by
  have hm := numsOf_mem s
  have hn : numsOf (strOfNums (hexL (numsOf s))) = hexL (numsOf s) := numsOf_strOf (hexL_mem _ hm)
  have hsz : (strOfNums (hexL (numsOf s))).size = 2 * s.size := by rw [strOfNums_size, hexL_length, numsOf_length]
  have hl := hexL_length (numsOf s)
  rw [numsOf_length] at hl
  have hb : ∀ j, j < s.size → 0 ≤ (numsOf s).getD j 0 ∧ (numsOf s).getD j 0 < 256 := fun j hj => by
    have hj' : j < (numsOf s).length := by rw [numsOf_length]; exact hj
    rw [List.getD_eq_getElem?_getD, List.getElem?_eq_getElem hj']
    exact hm _ (List.getElem_mem _)
  have hv : ∀ j, j < s.size → hexV ((hexL (numsOf s)).getD (2 * j) 0) = (numsOf s).getD j 0 / 16 ∧ hexV ((hexL (numsOf s)).getD (2 * j + 1) 0) = (numsOf s).getD j 0 % 16 := fun j hj => by
    have h1 := hexL_getD (numsOf s) j (by rw [numsOf_length]; exact hj)
    have h2 := hb j hj
    rw [h1.1, h1.2]
    exact ⟨hexV_of _ _ (by omega) (by omega) rfl, hexV_of _ _ (by omega) (by omega) rfl⟩
  have hok : hexOk (hexL (numsOf s)) = true := by
    simp only [hexOk, Bool.and_eq_true, List.all_eq_true, List.mem_range, decide_eq_true_eq, hl]
    refine ⟨by omega, fun j hj => ?_⟩
    have h1 := hv j (by omega)
    have h2 := hb j (by omega)
    simp only [pairOk, Bool.and_eq_true, decide_eq_true_eq, h1.1, h1.2]
    omega
  have hp : pairs (hexL (numsOf s)) s.size = numsOf s := by
    apply List.ext_getElem
    · rw [pairs_length, numsOf_length]
    · intro j h1 h2
      have hj : j < s.size := by rw [pairs_length] at h1; exact h1
      have h3 := hv j hj
      have e : (numsOf s)[j] = (numsOf s).getD j 0 := by rw [List.getD_eq_getElem?_getD, List.getElem?_eq_getElem h2]; rfl
      have h4 := hb j hj
      rw [e]
      simp only [pairs, List.getElem_map, List.getElem_range, pairV, h3.1, h3.2]
      omega
  refine ⟨by rw [hn]; exact hok, ?_, hsz⟩
  rw [decHex, hn, if_pos hok, hsz, show 2 * s.size / 2 = s.size by omega, hp, strOf_numsOf]
end Go.Proofs.YtfcgijnfiiaepaaDoor
