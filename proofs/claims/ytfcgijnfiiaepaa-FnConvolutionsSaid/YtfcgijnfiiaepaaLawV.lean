/- Plain laws of convolutions, hulls, truncations and reductions. -/
import Derived.Test.YtfcgijnfiiaepaaLawW
import Derived.Test.YtfcgijnfiiaepaaHull
import Derived.Test.YtfcgijnfiiaepaaReduce
import Derived.Test.YtfcgijnfiiaepaaTrunc
namespace Go.Proofs.Ytfcgijnfiiaepaa
set_option linter.unusedSimpArgs false
set_option linter.unusedVariables false
open Go.RowKit

theorem upS_iff (s t : Nat) : upS s t = true ↔ s &&& t = s := by simp [upS]
theorem inS_iff (t s : Nat) : inS t s = true ↔ t &&& s = t := by simp [inS]
theorem hullTo_le {xs : List Int} {s X : Nat} (h : s &&& X = s) : ∀ k, X < k → hullTo xs s k ≤ xs.getD X 0
  | 0, hk => by omega
  | k + 1, hk => by
    rcases Nat.lt_or_eq_of_le (Nat.le_of_lt_succ hk) with hlt | rfl
    · have ih := hullTo_le (xs := xs) h k hlt
      rw [hullTo]
      split <;> omega
    · rw [hullTo_yes ((upS_iff _ _).2 h)]
      omega
theorem hullTo_ex {xs : List Int} {s : Nat} (hs : s < xs.length) : ∀ k, k ≤ xs.length → ∃ X, X < xs.length ∧ s &&& X = s ∧ hullTo xs s k = xs.getD X 0
  | 0, _ => ⟨s, hs, Nat.and_self s, rfl⟩
  | k + 1, hk => by
    obtain ⟨X, hX, sX, e⟩ := hullTo_ex hs k (by omega)
    cases hu : upS s k with
    | false => exact ⟨X, hX, sX, by rw [hullTo_no hu, e]⟩
    | true =>
      rw [hullTo_yes hu, e]
      rcases Int.le_total (xs.getD X 0) (xs.getD k 0) with h | h
      · exact ⟨X, hX, sX, by omega⟩
      · exact ⟨k, by omega, (upS_iff _ _).1 hu, by omega⟩
theorem hull_le {xs : List Int} {s X : Nat} (hX : X < xs.length) (h : s &&& X = s) : hullV xs s ≤ xs.getD X 0 := hullTo_le h _ hX
theorem hull_ex {xs : List Int} {s : Nat} (hs : s < xs.length) : ∃ X, X < xs.length ∧ s &&& X = s ∧ hullV xs s = xs.getD X 0 := hullTo_ex hs _ (Nat.le_refl _)
/-- Hulls of submodular functions are submodular. -/
theorem hull_sub {n : Int} {xs : List Int} (h : subB n xs = true) : subB n (tabOf n (hullV xs)) = true := by
  have hf := sub_fun h
  obtain ⟨j, rfl, _, hl⟩ := fun_nat hf
  exact subB_tab (hull_isFun hf) ((sub_list h).hull (fun s X hs hX hsub => hull_le (by omega) hsub) (fun s hs => by
    obtain ⟨X, hX, sX, e⟩ := hull_ex (xs := xs) (s := s) (by omega)
    exact ⟨X, by omega, sX, e⟩))
theorem sub_of_or {s t X : Nat} (h : (s ||| t) &&& X = s ||| t) : s &&& X = s := by
  apply Nat.eq_of_testBit_eq
  intro i
  have := congrArg (fun x => x.testBit i) h
  simp only [Nat.testBit_and, Nat.testBit_or] at this ⊢
  revert this
  cases s.testBit i <;> cases t.testBit i <;> cases X.testBit i <;> decide
/-- Hulls grow. -/
theorem hull_inc {n : Int} {xs : List Int} (hf : isFun n xs = true) : incB n (tabOf n (hullV xs)) = true := by
  obtain ⟨j, rfl, _, hl⟩ := fun_nat hf
  refine inc_of (hull_isFun hf) fun s e hs he => ?_
  have hse : s ||| 2 ^ e < 2 ^ j := Nat.or_lt_two_pow hs (Nat.pow_lt_pow_right (by decide) he)
  rw [tab_getD _ hs, tab_getD _ hse]
  obtain ⟨X, hX, sX, ex⟩ := hull_ex (xs := xs) (s := s ||| 2 ^ e) (by omega)
  rw [ex]
  exact hull_le hX (sub_of_or sX)
/-- A growing function is its own hull, and no other. -/
theorem hull_own {n : Int} {xs : List Int} (hf : isFun n xs = true) : incB n xs = sameF n xs n (tabOf n (hullV xs)) := by
  obtain ⟨j, rfl, _, hl⟩ := fun_nat hf
  have hlt : (tabOf (j : Int) (hullV xs)).length = 2 ^ j := by rw [tabOf, tabTo_length]; simp
  cases hi : incB (j : Int) xs with
  | true =>
    have : xs = tabOf (j : Int) (hullV xs) := by
      apply List.ext_getElem (by omega)
      intro s h1 h2
      have e1 : xs[s] = xs.getD s 0 := by simp [List.getD, h1]
      have e2 : (tabOf (j : Int) (hullV xs))[s] = (tabOf (j : Int) (hullV xs)).getD s 0 := by simp [List.getD, h2]
      rw [e1, e2, tab_getD _ (by omega)]
      obtain ⟨X, hX, sX, ex⟩ := hull_ex (xs := xs) h1
      have u := inc_up hi (by omega) (by omega) sX
      have v := hull_le h1 (Nat.and_self s)
      omega
    symm
    rw [sameF, ← this]
    simp [eqL]
  | false =>
    cases hs : sameF (j : Int) xs (j : Int) (tabOf (j : Int) (hullV xs)) with
    | false => rfl
    | true =>
      have : xs = tabOf (j : Int) (hullV xs) := by simpa [sameF, eqL] using hs
      rw [this, hull_inc hf] at hi
      cases hi
/-- Truncations of polymatroids are submodular. -/
theorem trunc_sub {n k : Int} {xs : List Int} (ht : truncB n xs k = true) (h : polyB n xs = true) : subB n (tabOf n (truncV xs k)) = true := by
  have hi := trunc_isFun ht
  simp only [polyB, Bool.and_eq_true] at h
  have hf := sub_fun h.2
  obtain ⟨j, rfl, _, hl⟩ := fun_nat hf
  exact subB_tab hi ((sub_list h.2).min (fun S T hS hT hsub => inc_up h.1.2 hS hT hsub) k)
/-- What a split adds up to: not more than any part's. -/
theorem splitTo_min {xs ys : List Int} {s : Nat} : ∀ k X, X ≤ k → X &&& s = X → spV xs ys s (splitTo xs ys s k) ≤ spV xs ys s X
  | 0, X, hX, _ => by
    obtain rfl : X = 0 := by omega
    exact Int.le_refl _
  | k + 1, X, hX, hs => by
    rw [splitTo]
    rcases Nat.lt_or_eq_of_le hX with hlt | rfl
    · have ih := splitTo_min (xs := xs) (ys := ys) k X (by omega) hs
      split
      · rename_i h
        simp only [Bool.and_eq_true, decide_eq_true_eq] at h
        omega
      · exact ih
    · have hin := (inS_iff _ _).2 hs
      split
      · exact Int.le_refl _
      · rename_i h
        rw [hin] at h
        simp only [Bool.true_and, decide_eq_true_eq] at h
        omega
theorem splitTo_part (xs ys : List Int) (s : Nat) : ∀ k, splitTo xs ys s k &&& s = splitTo xs ys s k
  | 0 => by simp [splitTo]
  | k + 1 => by
    rw [splitTo]
    split
    · rename_i h
      simp only [Bool.and_eq_true] at h
      exact (inS_iff _ _).1 h.1
    · exact splitTo_part xs ys s k
theorem part_le {X s : Nat} (h : X &&& s = X) : X ≤ s := by rw [← h]; exact Nat.and_le_right
theorem conv_le {xs ys : List Int} {s X : Nat} (h : X &&& s = X) : convV xs ys s ≤ spV xs ys s X := splitTo_min s X (part_le h) h
theorem rest_fin : ∀ s X : Fin 32, X.val &&& s.val = X.val → (s.val - X.val) &&& s.val = s.val - X.val := by decide +kernel
/-- Convolutions do not ask which comes first. -/
theorem conv_comm {xs ys : List Int} {s : Nat} (hs : s < 32) : convV xs ys s = convV ys xs s := by
  have key : ∀ xs ys : List Int, convV xs ys s ≤ convV ys xs s := fun xs ys => by
    have hp := splitTo_part ys xs s s
    have hle := part_le hp
    have hr := rest_fin ⟨s, hs⟩ ⟨splitTo ys xs s s, by omega⟩ hp
    have := conv_le (xs := xs) (ys := ys) hr
    refine Int.le_trans this ?_
    unfold convV spV
    have e : s - (s - splitTo ys xs s s) = splitTo ys xs s s := by omega
    simp only
    rw [e]
    omega
  exact Int.le_antisymm (key xs ys) (key ys xs)
theorem conv_tab_comm {n : Int} {xs ys : List Int} (h0 : 0 ≤ n) (h1 : n ≤ 5) : tabOf n (convV xs ys) = tabOf n (convV ys xs) := by
  have := pow5 h0 h1
  exact tabTo_congr fun s hs => conv_comm (by omega)
theorem alike_comm {n m : Int} {xs ys : List Int} : alikeB n xs m ys = alikeB m ys n xs := by
  rw [Bool.eq_iff_iff]
  simp only [alikeB, Bool.and_eq_true, decide_eq_true_eq]
  constructor <;> (rintro ⟨⟨a, b⟩, c⟩; exact ⟨⟨b, a⟩, c.symm⟩)
theorem rest_bits : ∀ (s X : Fin 32) (i : Fin 5), X.val &&& s.val = X.val → (s.val - X.val).testBit i.val = (s.val.testBit i.val && !X.val.testBit i.val) ∧ (X.val.testBit i.val = true → s.val.testBit i.val = true) := by decide +kernel
theorem weighTo_rest (ws : List Int) {s X : Nat} (hs : s < 32) (h : X &&& s = X) : ∀ k, k ≤ 5 → weighTo ws (s - X) k = weighTo ws s k - weighTo ws X k
  | 0, _ => by simp [weighTo]
  | k + 1, hk => by
    have ih := weighTo_rest ws hs h k (by omega)
    have hX := part_le h
    obtain ⟨b1, b2⟩ := rest_bits ⟨s, hs⟩ ⟨X, by omega⟩ ⟨k, by omega⟩ h
    simp only at b1 b2
    simp only [weighTo, bitB_nat', b1]
    revert b2
    cases s.testBit k <;> cases X.testBit k <;> simp <;> omega
/-- Convolutions with sums of weights stay submodular. -/
theorem conv_weigh_sub {j : Nat} {xs ys ws : List Int} (hj : j ≤ 5) (hw : ws.length ≤ 5) (h : SubF j (fun s => xs.getD s 0)) (hy : ∀ s, s < 2 ^ j → ys.getD s 0 = weigh ws s) : SubF j (convV xs ys) := by
  have h32 : 2 ^ j ≤ 32 := by have := pow5 (n := (j : Int)) (by omega) (by omega); simpa using this
  have hsp : ∀ s X, s < 2 ^ j → X &&& s = X → spV xs ys s X = xs.getD X 0 + (weigh ws s - weigh ws X) := fun s X hs hX => by
    have := part_le hX
    rw [spV, hy (s - X) (by omega), weigh, weighTo_rest ws (by omega) hX _ hw]
    rfl
  refine h.conv (m := weigh ws) (fun A B _ _ => weighTo_or ws A B _) (fun s X hs hX => ?_) (fun s hs => ?_)
  · have := conv_le (xs := xs) (ys := ys) hX
    rw [hsp s X hs hX] at this
    exact this
  · have hp := splitTo_part xs ys s s
    exact ⟨splitTo xs ys s s, hp, hsp s _ hs hp⟩
/-- Reductions of submodular functions are submodular. -/
theorem red_sub {n : Int} {xs ws : List Int} (hg : gB (redT n xs ws) n (tabOf n (convV xs (rL ws))) = true) (h : subB n xs = true) : subB n (tabOf n (convV xs (rL ws))) = true := by
  obtain ⟨ht, hi, _, _⟩ := g_true hg
  simp only [redT, Bool.and_eq_true] at ht
  obtain ⟨hr, ha⟩ := ht
  obtain ⟨hf, hf2, hn⟩ := alike_true ha
  obtain ⟨hm, hi2, e1, e2⟩ := g_true (show gB (modT ws 0) ws.length (tabOf ws.length (modV ws 0)) = true from hr)
  have en : n = (ws.length : Int) := hn.trans e1
  subst en
  have hl : rL ws = tabOf ws.length (modV ws 0) := e2
  have h5 : ws.length ≤ 5 := by
    simp only [modT, Bool.and_eq_true, decide_eq_true_eq] at hm
    exact hm.1.1
  refine subB_tab hi (conv_weigh_sub h5 h5 (sub_list h) fun s hs => ?_)
  rw [hl, tab_getD _ hs]
  show 0 + weigh ws s = weigh ws s
  omega
end Go.Proofs.Ytfcgijnfiiaepaa
