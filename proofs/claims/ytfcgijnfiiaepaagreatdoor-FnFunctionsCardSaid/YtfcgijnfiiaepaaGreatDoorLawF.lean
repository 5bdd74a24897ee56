/- Plain laws of sums, gains and lowered functions, and of texts that are read back. -/
import Derived.Test.YtfcgijnfiiaepaaGreatDoorSubL
import Derived.Test.YtfcgijnfiiaepaaGreatDoorAdd
import Derived.Test.YtfcgijnfiiaepaaGreatDoorLower
import Derived.Test.YtfcgijnfiiaepaaGreatDoorPfS
import Derived.Test.YtfcgijnfiiaepaaGreatDoorFmtF
namespace Go.Proofs.YtfcgijnfiiaepaaGreatDoor
set_option linter.unusedSimpArgs false
set_option linter.unusedVariables false
open Go.RowKit

/-- Sums of submodular functions are submodular. -/
theorem add_sub {n m : Int} {xs ys : List Int} (hg : gB (alikeB n xs m ys) n (tabOf n (addV xs ys)) = true) (h1 : subB n xs = true) (h2 : subB m ys = true) : subB n (tabOf n (addV xs ys)) = true := by
  obtain ⟨ha, hi, _, _⟩ := g_true hg
  obtain ⟨_, _, rfl⟩ := alike_true ha
  obtain ⟨j, rfl, _, _⟩ := fun_nat (sub_fun h1)
  exact subB_tab hi ((sub_list h1).add (sub_list h2))
theorem low_ground {n : Int} {xs : List Int} (hg : gB (lowT n xs) n (tabOf n (lowV xs)) = true) : groundB n (tabOf n (lowV xs)) = true := by
  obtain ⟨ht, hi, _, _⟩ := g_true hg
  obtain ⟨j, rfl, _, _⟩ := fun_nat hi
  have : (tabOf (j : Int) (lowV xs)).getD 0 0 = 0 := by
    rw [tab_getD _ (Nat.pow_pos (by decide)), lowV]
    omega
  rw [groundB, hi, this]
  rfl
theorem gain_none {n s e : Int} {xs : List Int} (h : (isFun n xs && isSet n s && inB e 0 (n - 1)) = false) : gainR n xs s e = -9999 := by rw [gainR, if_neg (by simp [h])]
/-- A gain is a difference of values. -/
theorem gain_val {n s e : Int} {xs : List Int} (h : (isFun n xs && isSet n s && inB e 0 (n - 1)) = true) :
    ∃ (k j p : Nat) (u v : Int), s = (k : Int) ∧ e = (j : Int) ∧ p = 2 ^ j ∧ j < 5 ∧ k < 32 ∧ p < 32 ∧ gainR n xs s e = u - v ∧ bits .or .i64 (k : Int) (p : Int) = ((k ||| p : Nat) : Int) ∧ valR n xs ((k ||| p : Nat) : Int) = u ∧ valR n xs (k : Int) = v ∧ (-1000 ≤ u ∧ u ≤ 1000) ∧ (-1000 ≤ v ∧ v ≤ 1000) := by
  have hg : gainR n xs s e = gainL xs s.toNat e.toNat := by rw [gainR, if_pos h]
  simp only [Bool.and_eq_true] at h
  obtain ⟨⟨hf, hs⟩, he⟩ := h
  obtain ⟨J, rfl, hJ, hl⟩ := fun_nat hf
  obtain ⟨hs0, hs1⟩ := isSet_true.1 hs
  obtain ⟨he0, he1⟩ := inB_true.1 he
  obtain ⟨k, rfl⟩ := Int.eq_ofNat_of_zero_le hs0
  obtain ⟨j, rfl⟩ := Int.eq_ofNat_of_zero_le he0
  have hl' : xs.length = 2 ^ ((J : Int)).toNat := by simpa using hl
  have hk : k < xs.length := isSet_lt hl' hs1
  have hjJ : j < J := by omega
  have h32 := isFun_le hf
  have hp : 2 ^ j < 2 ^ J := Nat.pow_lt_pow_right (by decide) hjJ
  have hor : k ||| 2 ^ j < 2 ^ J := Nat.or_lt_two_pow (by omega) hp
  have hset : isSet (J : Int) ((k ||| 2 ^ j : Nat) : Int) = true := isSet_true.2 ⟨by omega, by
    have e : ((2 ^ ((J : Int)).toNat : Nat) : Int) = (2 : Int) ^ ((J : Int)).toNat := by push_cast; rfl
    have e2 : 2 ^ ((J : Int)).toNat = 2 ^ J := by simp
    omega⟩
  have hb := (isFun_true hf).2.2
  refine ⟨k, j, 2 ^ j, xs.getD (k ||| 2 ^ j) 0, xs.getD k 0, rfl, rfl, rfl, by omega, by omega, by omega, ?_, i64_or_nat _ _ (by omega) (by omega), ?_, ?_, hb _ (by omega), hb _ hk⟩
  · rw [hg]; rfl
  · rw [valR, hf, hset]; rfl
  · rw [valR, hf, hs]; rfl
/-! Texts. -/
def bytesN (l : List Int) : List UInt8 := l.map fun n => UInt8.ofNat n.toNat
theorem bytesN_app (l r : List Int) : bytesN (l ++ r) = bytesN l ++ bytesN r := by simp [bytesN]
theorem cutP_app : ∀ (l r part : List UInt8), (∀ b ∈ l, b ≠ 44) → cutP (l ++ r) part = cutP r (part ++ l)
  | [], r, part, _ => by simp
  | b :: l, r, part, h => by
    rw [List.cons_append, cutP, if_neg (h b List.mem_cons_self), cutP_app l r (part ++ [b]) (fun x hx => h x (List.mem_cons_of_mem _ hx))]
    simp
theorem numL_no44 (n : Int) : ∀ b ∈ bytesN (numL n), b ≠ 44 := by
  have key : ∀ b ∈ numL n, b = 45 ∨ 48 ≤ b ∧ b ≤ 57 := by
    intro b hb
    unfold numL at hb
    split at hb
    · simp at hb; omega
    · split at hb
      · exact .inr (digL_mem _ b hb)
      · rcases List.mem_cons.1 hb with h | h
        · exact .inl h
        · exact .inr (digL_mem _ b h)
  intro b hb e
  obtain ⟨x, hx, rfl⟩ := List.mem_map.1 hb
  have h1 := key x hx
  have h2 := congrArg UInt8.toNat e
  rw [UInt8.toNat_ofNat'] at h2
  have : (44 : UInt8).toNat = 44 := rfl
  omega
theorem cut_tail (r : List Int) : ∀ part, cutP (bytesN (r.flatMap fun y => 44 :: numL y)) part = part :: r.map fun y => bytesN (numL y) := by
  induction r with
  | nil => intro part; simp [bytesN, cutP]
  | cons y r ih =>
    intro part
    rw [List.flatMap_cons, List.cons_append, bytesN]
    rw [List.map_cons, cutP, if_pos (by decide)]
    rw [show ((numL y ++ r.flatMap fun y => 44 :: numL y).map fun n => UInt8.ofNat n.toNat) = bytesN (numL y) ++ bytesN (r.flatMap fun y => 44 :: numL y) from bytesN_app _ _]
    rw [cutP_app _ _ _ (numL_no44 y), ih]
    simp
theorem cut_fmt {xs : List Int} (h : xs ≠ []) : cutP (bytesN (fmtN xs)) [] = xs.map fun y => bytesN (numL y) := by
  cases xs with
  | nil => exact absurd rfl h
  | cons x r =>
    rw [fmtN, bytesN_app, cutP_app _ _ _ (numL_no44 x), cut_tail]
    simp
theorem bytes_numL (n : Int) : bytesOf (bytesN (numL n)) = itoaS n := by rw [itoaS_numL]; rfl
theorem plRun_itoa : ∀ (xs vs : List Int), (∀ x ∈ xs, -1000 ≤ x ∧ x ≤ 1000) → plRun (xs.map itoaS) vs = some (vs ++ xs)
  | [], vs, _ => by simp [plRun]
  | x :: xs, vs, h => by
    have hx := h x List.mem_cons_self
    have ho : parseOk (itoaS x) = true := by rw [parseOk_itoa]; simp; omega
    rw [List.map_cons, plRun, if_pos ho, parseV_itoa x (by omega) (by omega), plRun_itoa xs _ (fun y hy => h y (List.mem_cons_of_mem _ hy))]
    simp
theorem fmt_back {xs : List Int} (h : xs ≠ []) (hb : ∀ x ∈ xs, -1000 ≤ x ∧ x ≤ 1000) (hs : (fmtF xs).size ≤ 200) : pfR (fmtF xs) = some xs := by
  have hd : (fmtF xs).data.toList = bytesN (fmtN xs) := rfl
  rw [pfR, if_pos hs, pf_pl, hd, cut_fmt h, List.map_map]
  rw [show (xs.map (bytesOf ∘ fun y => bytesN (numL y))) = xs.map itoaS from List.map_congr_left fun y _ => bytes_numL y]
  rw [plRun_itoa _ _ hb]
  rfl
theorem fun_bd {n : Int} {xs : List Int} (hf : isFun n xs = true) : xs ≠ [] ∧ ∀ x ∈ xs, -1000 ≤ x ∧ x ≤ 1000 := by
  have hl := (isFun_true hf).2.1
  refine ⟨fun e => ?_, small3_mem (isFun_true hf).2.2⟩
  rw [e] at hl
  have := Nat.pow_pos (n := n.toNat) (show 0 < 2 by decide)
  simp at hl
  omega
/-- A function's text is read back. -/
theorem fmt_read {n : Int} {xs : List Int} (hf : isFun n xs = true) (hs : (fmtFn n xs).size ≤ 200) : pfN (fmtFn n xs) = n ∧ pfL (fmtFn n xs) = xs ∧ pfB (fmtFn n xs) = true := by
  have e : fmtFn n xs = fmtF xs := by rw [fmtFn, if_pos hf]
  rw [e] at hs ⊢
  obtain ⟨h1, h2⟩ := fun_bd hf
  have hr := fmt_back h1 h2 hs
  obtain ⟨j, rfl, hj, hl⟩ := fun_nat hf
  have hp := pf_pow (us := xs) (k := j) hl
  obtain ⟨a, b, c⟩ := pf_good hr (by rw [hp]; exact hf)
  exact ⟨a.trans hp, b, c⟩
theorem fmt_empty {n : Int} {xs : List Int} (hf : isFun n xs = false) : fmtFn n xs = ⟨#[]⟩ := by rw [fmtFn, if_neg (by simp [hf])]
theorem pf_empty : pfN ⟨#[]⟩ = 0 ∧ pfL ⟨#[]⟩ = [] ∧ pfB ⟨#[]⟩ = false := pf_none (by decide +kernel)
theorem fmt_small (n : Int) (xs : List Int) (hl : xs.length ≤ 32) : (fmtFn n xs).size ≤ 352 := by
  cases hf : isFun n xs with
  | true =>
    rw [fmtFn, if_pos hf]
    have := fmtF_size xs (fun_bd hf).2
    omega
  | false => rw [fmt_empty hf]; decide
end Go.Proofs.YtfcgijnfiiaepaaGreatDoor
