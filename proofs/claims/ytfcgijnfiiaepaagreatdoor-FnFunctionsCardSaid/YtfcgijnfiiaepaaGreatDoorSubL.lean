/- Submodularity of lists of values, told by all pairs of sets; no program in sight. -/
import Derived.Test.YtfcgijnfiiaepaaGreatDoorSubP
import Derived.Test.YtfcgijnfiiaepaaGreatDoorPoly
import Derived.Test.YtfcgijnfiiaepaaGreatDoorMade
namespace Go.Proofs.YtfcgijnfiiaepaaGreatDoor
set_option linter.unusedSimpArgs false
set_option linter.unusedVariables false
open Go.RowKit

theorem bitB_nat' (s e : Nat) : bitB (s : Int) e = s.testBit e := by
  have h : ((s / 2 ^ e : Nat) : Int) = (s : Int) / 2 ^ e := by push_cast; rfl
  rw [bitB, Nat.testBit_eq_decide_div_mod_eq, ← h, decide_eq_decide]
  omega
theorem fun_nat {n : Int} {xs : List Int} (h : isFun n xs = true) : ∃ j : Nat, n = (j : Int) ∧ j ≤ 5 ∧ xs.length = 2 ^ j := by
  obtain ⟨⟨h0, h1⟩, hl, _⟩ := isFun_true h
  exact ⟨n.toNat, by omega, by omega, hl⟩
theorem sub_fun {n : Int} {xs : List Int} (h : subB n xs = true) : isFun n xs = true := by
  simp only [subB, Bool.and_eq_true] at h
  exact h.1
theorem sub_loc {j : Nat} {xs : List Int} (h : subB (j : Int) xs = true) : LocF j (fun s => xs.getD s 0) := fun s i k hs hik hk h1 h2 => by
  have hf := sub_fun h
  have h5 := (isFun_true hf).1
  have hl : xs.length = 2 ^ j := (isFun_true hf).2.1
  simp only [subB, Bool.and_eq_true, Bool.not_eq_true'] at h
  have hv := h.2
  have hb : badC (j : Int) xs (s * 64 + i * 8 + k) = false := by
    cases hb : badC (j : Int) xs (s * 64 + i * 8 + k) with
    | false => rfl
    | true =>
      have : violC (j : Int) xs = none := by simpa [violB] using hv
      rw [violC, if_pos hf, List.find?_eq_none] at this
      exact absurd hb (this _ (by rw [List.mem_range]; omega))
  rw [badC_eq (by omega) (by omega), bitB_nat', bitB_nat', h1, h2] at hb
  have hk' : (k : Int) < (j : Int) := by omega
  simp only [hik, hk', decide_true, Bool.not_false, Bool.true_and, decide_eq_false_iff_not] at hb
  unfold exc at hb
  show xs.getD (s ||| 2 ^ i ||| 2 ^ k) 0 + xs.getD s 0 ≤ xs.getD (s ||| 2 ^ i) 0 + xs.getD (s ||| 2 ^ k) 0
  omega
theorem sub_list {j : Nat} {xs : List Int} (h : subB (j : Int) xs = true) : SubF j (fun s => xs.getD s 0) := (sub_loc h).sub
theorem subB_list {j : Nat} {xs : List Int} (hf : isFun (j : Int) xs = true) (h : SubF j (fun s => xs.getD s 0)) : subB (j : Int) xs = true := by
  have hl : xs.length = 2 ^ j := (isFun_true hf).2.1
  have h5 := (isFun_true hf).1
  have hv : violB (j : Int) xs = false := (viol_none (fun c hc => by
    cases hb : badC (j : Int) xs c with
    | false => rfl
    | true =>
      have h1 := badC_lt hb
      rw [show c = c / 64 * 64 + c / 8 % 8 * 8 + c % 8 by omega, badC_eq (by omega) (by omega), bitB_nat', bitB_nat'] at hb
      simp only [Bool.and_eq_true, decide_eq_true_eq, Bool.not_eq_true'] at hb
      have := h.loc (c / 64) (c / 8 % 8) (c % 8) (by rw [← hl]; omega) h1.1 (by omega) hb.1.1.2 hb.1.2
      unfold exc at hb
      omega)).2
  simp [subB, hf, hv]
theorem tab_getD {j : Nat} (val : Nat → Int) {s : Nat} (h : s < 2 ^ j) : (tabOf (j : Int) val).getD s 0 = val s := by
  rw [tabOf, tabTo_getD _ _ _ (by simpa using h)]
theorem tab_sub {j : Nat} {val : Nat → Int} (h : subB (j : Int) (tabOf (j : Int) val) = true) : SubF j val :=
  (sub_list h).congr fun s hs => (tab_getD val hs).symm
theorem subB_tab {j : Nat} {val : Nat → Int} (hf : isFun (j : Int) (tabOf (j : Int) val) = true) (h : SubF j val) : subB (j : Int) (tabOf (j : Int) val) = true :=
  subB_list hf (h.congr fun s hs => tab_getD val hs)
/-- Two functions of sets that are submodular together. -/
theorem subB_iff {n : Int} {xs ys : List Int} (hx : isFun n xs = true) (hy : isFun n ys = true) (h1 : ∀ j : Nat, n = (j : Int) → SubF j (fun s => xs.getD s 0) → SubF j (fun s => ys.getD s 0)) (h2 : ∀ j : Nat, n = (j : Int) → SubF j (fun s => ys.getD s 0) → SubF j (fun s => xs.getD s 0)) : subB n xs = subB n ys := by
  obtain ⟨j, rfl, _, _⟩ := fun_nat hx
  cases hs : subB (j : Int) xs with
  | true => exact (subB_list hy (h1 j rfl (sub_list hs))).symm
  | false =>
    cases ht : subB (j : Int) ys with
    | false => rfl
    | true => rw [subB_list hx (h2 j rfl (sub_list ht))] at hs; cases hs
theorem inc_gain {j : Nat} {xs : List Int} (h : incB (j : Int) xs = true) : ∀ s e, s < 2 ^ j → e < j → xs.getD s 0 ≤ xs.getD (s ||| 2 ^ e) 0 := fun s e hs he => by
  simp only [incB, Bool.and_eq_true, List.all_eq_true, List.mem_range, decide_eq_true_eq] at h
  have hl : xs.length = 2 ^ j := (isFun_true h.1).2.1
  have := h.2 s (by rw [hl]; exact hs) e (by simpa using he)
  unfold gainL at this
  omega
theorem inc_up {j : Nat} {xs : List Int} (h : incB (j : Int) xs = true) {S T : Nat} (hS : S < 2 ^ j) (hT : T < 2 ^ j) (hsub : S &&& T = S) : xs.getD S 0 ≤ xs.getD T 0 :=
  up_of_gain (f := fun s => xs.getD s 0) (inc_gain h) hS hT hsub
theorem inc_of {j : Nat} {xs : List Int} (hf : isFun (j : Int) xs = true) (h : ∀ s e, s < 2 ^ j → e < j → xs.getD s 0 ≤ xs.getD (s ||| 2 ^ e) 0) : incB (j : Int) xs = true :=
  inc_yes hf fun k hk e he => by
    have hl : xs.length = 2 ^ j := (isFun_true hf).2.1
    have := h k e (by rw [← hl]; exact hk) (by omega)
    unfold gainL
    omega
/-- Of what a function that makes a function returns, where it says yes. -/
theorem g_true {b : Bool} {n : Int} {xs : List Int} (h : gB b n xs = true) : b = true ∧ isFun n xs = true ∧ gN b n xs = n ∧ gL b n xs = xs := by
  simp only [gB, Bool.and_eq_true] at h
  obtain ⟨h1, h2, _⟩ := g_yes h.1 h.2
  exact ⟨h.1, h.2, h1, h2⟩
theorem g_false {b : Bool} {n : Int} {xs : List Int} (h : gB b n xs = false) : gN b n xs = 0 ∧ gL b n xs = [] := by
  cases b with
  | false => exact ⟨(g_no rfl).1, (g_no rfl).2.1⟩
  | true =>
    have h' : isFun n xs = false := by simpa [gB] using h
    exact ⟨(g_bad h').1, (g_bad h').2.1⟩
end Go.Proofs.YtfcgijnfiiaepaaGreatDoor
