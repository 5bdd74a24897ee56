/- Plain laws of closures, flats, restrictions, contractions, complements and duals. -/
import Derived.Test.YtfcgijnfiiaepaaLawW
import Derived.Test.YtfcgijnfiiaepaaClos
import Derived.Test.YtfcgijnfiiaepaaRestrict
import Derived.Test.YtfcgijnfiiaepaaContract
import Derived.Test.YtfcgijnfiiaepaaDual
namespace Go.Proofs.Ytfcgijnfiiaepaa
set_option linter.unusedSimpArgs false
set_option linter.unusedVariables false
open Go.RowKit

theorem spr_bits : ∀ (s x : Fin 32) (i : Fin 5), (sprR s.val x.val).testBit i.val = (s.val.testBit i.val && x.val.testBit (sizeN (s.val % 2 ^ i.val))) := by decide +kernel
theorem spr_lt32 {s x : Nat} (hs : s < 32) (hx : x < 32) : sprR s x < 32 := Nat.lt_of_le_of_lt (spr_le hs hx) hs
theorem high_bit {x i : Nat} (hx : x < 32) (hi : 5 ≤ i) : x.testBit i = false := Nat.testBit_lt_two_pow (Nat.lt_of_lt_of_le hx (Nat.pow_le_pow_right (by decide : 0 < 2) hi))
theorem spr_or {s x y : Nat} (hs : s < 32) (hx : x < 32) (hy : y < 32) : sprR s (x ||| y) = sprR s x ||| sprR s y := by
  have ho : x ||| y < 32 := Nat.or_lt_two_pow (n := 5) hx hy
  apply Nat.eq_of_testBit_eq
  intro i
  rw [Nat.testBit_or]
  by_cases hi : i < 5
  · have b1 := spr_bits ⟨s, hs⟩ ⟨x ||| y, ho⟩ ⟨i, hi⟩
    have b2 := spr_bits ⟨s, hs⟩ ⟨x, hx⟩ ⟨i, hi⟩
    have b3 := spr_bits ⟨s, hs⟩ ⟨y, hy⟩ ⟨i, hi⟩
    simp only at b1 b2 b3
    rw [b1, b2, b3, Nat.testBit_or]
    cases s.testBit i <;> simp
  · rw [high_bit (spr_lt32 hs ho) (by omega), high_bit (spr_lt32 hs hx) (by omega), high_bit (spr_lt32 hs hy) (by omega)]
    rfl
theorem spr_and {s x y : Nat} (hs : s < 32) (hx : x < 32) (hy : y < 32) : sprR s (x &&& y) = sprR s x &&& sprR s y := by
  have ho : x &&& y < 32 := Nat.and_lt_two_pow (n := 5) x hy
  apply Nat.eq_of_testBit_eq
  intro i
  rw [Nat.testBit_and]
  by_cases hi : i < 5
  · have b1 := spr_bits ⟨s, hs⟩ ⟨x &&& y, ho⟩ ⟨i, hi⟩
    have b2 := spr_bits ⟨s, hs⟩ ⟨x, hx⟩ ⟨i, hi⟩
    have b3 := spr_bits ⟨s, hs⟩ ⟨y, hy⟩ ⟨i, hi⟩
    simp only at b1 b2 b3
    rw [b1, b2, b3, Nat.testBit_and]
    cases s.testBit i <;> simp
  · rw [high_bit (spr_lt32 hs ho) (by omega), high_bit (spr_lt32 hs hx) (by omega), high_bit (spr_lt32 hs hy) (by omega)]
    rfl
theorem spr_zero (s : Nat) : sprR s 0 = 0 := by
  have key : ∀ (l : List Int) k, sprTo l 0 k = 0 := fun l k => by
    induction k with
    | zero => rfl
    | succ k ih => rw [sprTo_no (by rw [bitB_nat']; simp), ih]
  exact key _ _
theorem two_pow_32 {j : Nat} (h : j ≤ 5) : 2 ^ j ≤ 32 := Nat.le_trans (Nat.pow_le_pow_right (by decide : 0 < 2) h) (by decide)
theorem in5_true {n s : Int} {xs : List Int} (h : in5 n xs s = true) : isFun n xs = true ∧ 0 ≤ s ∧ s.toNat < xs.length := by
  simp only [in5, Bool.and_eq_true] at h
  have := isSet_true.1 h.2
  refine ⟨h.1, this.1, ?_⟩
  rw [(isFun_true h.1).2.1]
  have e : ((2 ^ n.toNat : Nat) : Int) = (2 : Int) ^ n.toNat := by push_cast; rfl
  omega
/-- Restrictions of submodular functions are submodular. -/
theorem res_sub {n s : Int} {xs : List Int} (hg : gB (in5 n xs s) (sizeN s.toNat : Int) (tabOf (sizeN s.toNat : Int) (resV xs s.toNat)) = true) (h : subB n xs = true) : subB (sizeN s.toNat : Int) (tabOf (sizeN s.toNat : Int) (resV xs s.toNat)) = true := by
  obtain ⟨ht, hi, _, _⟩ := g_true hg
  obtain ⟨hf, hs0, hs⟩ := in5_true ht
  obtain ⟨j, rfl, hj, hl⟩ := fun_nat hf
  have h32 := two_pow_32 hj
  have hk := two_pow_32 (sizeN_le s.toNat)
  exact subB_tab hi ((sub_list h).image (sprR s.toNat) (fun x hx => Nat.lt_of_le_of_lt (spr_le (by omega) (by omega)) (by omega)) (fun A B hA hB => spr_or (by omega) (by omega) (by omega)) (fun A B hA hB => spr_and (by omega) (by omega) (by omega)))
theorem or_and_dist (a b k : Nat) : a &&& b ||| k = (a ||| k) &&& (b ||| k) := by
  apply Nat.eq_of_testBit_eq
  intro i
  simp only [Nat.testBit_or, Nat.testBit_and]
  cases a.testBit i <;> cases b.testBit i <;> cases k.testBit i <;> rfl
theorem or_or_dist (a b k : Nat) : a ||| b ||| k = (a ||| k) ||| (b ||| k) := by
  apply Nat.eq_of_testBit_eq
  intro i
  simp only [Nat.testBit_or]
  cases a.testBit i <;> cases b.testBit i <;> cases k.testBit i <;> rfl
/-- Contractions of submodular functions are submodular. -/
theorem con_sub {n s : Int} {xs : List Int} (hg : gB (in5 n xs s) (sizeN (restN n s) : Int) (tabOf (sizeN (restN n s) : Int) (conV xs s.toNat (restN n s))) = true) (h : subB n xs = true) : subB (sizeN (restN n s) : Int) (tabOf (sizeN (restN n s) : Int) (conV xs s.toNat (restN n s))) = true := by
  obtain ⟨ht, hi, _, _⟩ := g_true hg
  obtain ⟨hf, hs0, hs⟩ := in5_true ht
  obtain ⟨j, rfl, hj, hl⟩ := fun_nat hf
  have h32 := two_pow_32 hj
  have hk := two_pow_32 (sizeN_le (restN j s))
  have hr : restN j s < 2 ^ j := by
    unfold restN
    have : ((j : Int)).toNat = j := by simp
    rw [this]
    have : 0 < 2 ^ j := Nat.pow_pos (by decide)
    omega
  have h1 := (sub_list h).image (k := sizeN (restN j s)) (fun x => sprR (restN j s) x ||| s.toNat) (fun x hx => Nat.or_lt_two_pow (Nat.lt_of_le_of_lt (spr_le (by omega) (by omega)) hr) (by omega))
    (fun A B hA hB => by rw [spr_or (by omega) (by omega) (by omega), or_or_dist]) (fun A B hA hB => by rw [spr_and (by omega) (by omega) (by omega), or_and_dist])
  refine subB_tab hi ((h1.addm (m := fun _ => 0) (fun _ _ _ _ => rfl) (-(xs.getD s.toNat 0))).congr fun x hx => ?_)
  show xs.getD (sprR (restN j s) x ||| s.toNat) 0 - xs.getD s.toNat 0 = xs.getD (sprR (restN j s) x ||| s.toNat) 0 + 0 + -(xs.getD s.toNat 0)
  omega
theorem con_ground {n s : Int} {xs : List Int} (hg : gB (in5 n xs s) (sizeN (restN n s) : Int) (tabOf (sizeN (restN n s) : Int) (conV xs s.toNat (restN n s))) = true) : groundB (sizeN (restN n s) : Int) (tabOf (sizeN (restN n s) : Int) (conV xs s.toNat (restN n s))) = true := by
  obtain ⟨ht, hi, _, _⟩ := g_true hg
  have : (tabOf (sizeN (restN n s) : Int) (conV xs s.toNat (restN n s))).getD 0 0 = 0 := by
    rw [tab_getD _ (Nat.pow_pos (by decide)), conV, spr_zero, Nat.zero_or]
    omega
  rw [groundB, hi, this]
  rfl
/-- The complements' values are submodular where the function is. -/
theorem opp_sub {n : Int} {xs : List Int} (hf : isFun n xs = true) : subB n (tabOf n (oppV xs)) = subB n xs := by
  have hi := opp_isFun hf
  have hl := (isFun_true hf).2.1
  refine (subB_iff hf hi (fun j hj h => ?_) (fun j hj h => ?_)).symm
  · subst hj
    have hl : xs.length = 2 ^ j := hl
    refine h.opp.congr fun s hs => ?_
    rw [tab_getD _ hs, oppV, hl]
  · subst hj
    have hl : xs.length = 2 ^ j := hl
    refine h.opp.congr fun s hs => ?_
    rw [tab_getD _ (show 2 ^ j - 1 - s < 2 ^ j by omega), oppV, hl, show 2 ^ j - 1 - (2 ^ j - 1 - s) = s by omega]
/-- Duals are submodular where the function is. -/
theorem dual_sub {n : Int} {xs ws : List Int} (hg : gB (dualT n xs ws) n (tabOf n (dualV xs ws)) = true) : subB n (tabOf n (dualV xs ws)) = subB n xs := by
  obtain ⟨ht, hi, _, _⟩ := g_true hg
  simp only [dualT, Bool.and_eq_true] at ht
  have hf := ht.1.1
  have hl := (isFun_true hf).2.1
  refine (subB_iff hf hi (fun j hj h => ?_) (fun j hj h => ?_)).symm
  · subst hj
    have hl : xs.length = 2 ^ j := hl
    refine (h.opp.addm (m := weigh ws) (fun A B _ _ => weighTo_or ws A B _) (-(xs.getD (xs.length - 1) 0))).congr fun s hs => ?_
    rw [tab_getD _ hs, dualV, hl]
    omega
  · subst hj
    have hl : xs.length = 2 ^ j := hl
    have h1 := h.addm (m := fun s => -(weigh ws s)) (fun A B _ _ => by have : weigh ws (A ||| B) + weigh ws (A &&& B) = weigh ws A + weigh ws B := weighTo_or ws A B _; omega) (xs.getD (xs.length - 1) 0)
    refine h1.opp.congr fun s hs => ?_
    rw [tab_getD _ (show 2 ^ j - 1 - s < 2 ^ j by omega), dualV, hl, show 2 ^ j - 1 - (2 ^ j - 1 - s) = s by omega]
    omega
theorem poly_loc {j : Nat} {xs : List Int} (h : polyB (j : Int) xs = true) : LocF j (fun s => xs.getD s 0) := by
  simp only [polyB, Bool.and_eq_true] at h
  exact sub_loc h.2
/-- A set is closed where every element outside adds something. -/
theorem clo_own {xs : List Int} {s : Nat} : ∀ j, (∀ e, e < j → s.testBit e = false → gainL xs s e ≠ 0) → cloTo xs s j = s
  | 0, _ => rfl
  | j + 1, h => by
    have ih := clo_own j (fun e he => h e (by omega))
    by_cases hg : gainL xs s j = 0
    · rw [cloTo_yes hg, ih]
      apply or_bit
      cases hb : s.testBit j with
      | true => rfl
      | false => exact absurd hg (h j (by omega) hb)
    · rw [cloTo_no hg, ih]
theorem clo_adds {xs : List Int} {s j : Nat} (h : cloTo xs s j = s) : ∀ e, e < j → s.testBit e = false → gainL xs s e ≠ 0 := fun e he hb hg => by
  have := cloTo_has hg j he
  rw [h, hb] at this
  cases this
/-- What two closed sets have in common is closed. -/
theorem clo_meet {j : Nat} {xs : List Int} (h : polyB (j : Int) xs = true) {A B : Nat} (hA : A < xs.length) (hB : B < xs.length) (cA : cloTo xs A j = A) (cB : cloTo xs B j = B) : cloTo xs (A &&& B) j = A &&& B := by
  have hf := poly_fun h
  have hl : xs.length = 2 ^ j := (isFun_true hf).2.1
  have hN : A &&& B < 2 ^ j := Nat.and_lt_two_pow _ (by omega)
  refine clo_own j fun e he hb hg => ?_
  have key : ∀ T, T < 2 ^ j → cloTo xs T j = T → (A &&& B) &&& T = A &&& B → T.testBit e = false → False := fun T hT cT hsub hbT => by
    have g1 := clo_adds cT e he hbT
    have g2 := poly_inc h (s := T) (e := e) (by omega) (by omega)
    have g3 := (poly_loc h).mono hN hT hsub he hbT
    unfold gainL at *
    omega
  rw [Nat.testBit_and, Bool.and_eq_false_iff] at hb
  rcases hb with hb | hb
  · exact key A (by omega) cA (by rw [Nat.and_comm A B, Nat.and_assoc, Nat.and_self]) hb
  · exact key B (by omega) cB (by rw [Nat.and_assoc, Nat.and_self]) hb
theorem flat_mem {n : Int} {xs : List Int} (h : polyB n xs = true) (x : Int) : x ∈ flatL n xs ↔ ∃ s : Nat, s < xs.length ∧ cloTo xs s n.toNat = s ∧ x = (s : Int) := by
  rw [flatL, if_pos h, flatTo, List.mem_map]
  constructor
  · rintro ⟨s, hs, rfl⟩
    rw [List.mem_filter, List.mem_range] at hs
    exact ⟨s, hs.1, by simpa using hs.2, rfl⟩
  · rintro ⟨s, h1, h2, rfl⟩
    exact ⟨s, by rw [List.mem_filter, List.mem_range]; exact ⟨h1, by simpa using h2⟩, rfl⟩
theorem flat_notPoly {n : Int} {xs : List Int} (h : polyB n xs = false) : flatL n xs = [] := by rw [flatL, if_neg (by simp [h])]
theorem and_fin : ∀ s t : Fin 32, bits .and .i64 (s.val : Int) (t.val : Int) = ((s.val &&& t.val : Nat) : Int) := by decide +kernel
/-- Two flats have a flat in common. -/
theorem flat_meet {n : Int} {xs : List Int} {x y : Int} (hx : x ∈ flatL n xs) (hy : y ∈ flatL n xs) : bits .and .i64 x y ∈ flatL n xs := by
  cases h : polyB n xs with
  | false => rw [flat_notPoly h] at hx; cases hx
  | true =>
    obtain ⟨A, hA, cA, rfl⟩ := (flat_mem h x).1 hx
    obtain ⟨B, hB, cB, rfl⟩ := (flat_mem h y).1 hy
    have h32 := isFun_le (poly_fun h)
    obtain ⟨j, rfl, hj, hl⟩ := fun_nat (poly_fun h)
    have hd := and_fin ⟨A, by omega⟩ ⟨B, by omega⟩
    simp only at hd
    rw [hd]
    exact (flat_mem h _).2 ⟨A &&& B, by rw [hl]; exact Nat.and_lt_two_pow _ (by omega), clo_meet h hA hB cA cB, rfl⟩
/-- Closures are closed and grow, and have the value of the set. -/
theorem clo_facts {n s : Int} {xs : List Int} (h : polyB n xs = true) (hs : isSet n s = true) : ∃ k : Nat, cloR n xs s = (k : Int) ∧ k < 32 ∧ bits .and .i64 (k : Int) s = s ∧ cloR n xs (k : Int) = (k : Int) ∧ flatB n xs (k : Int) = true ∧ valR n xs (k : Int) = valR n xs s := by
  have hf := poly_fun h
  have h32 := isFun_le hf
  obtain ⟨j, rfl, hj, hl⟩ := fun_nat hf
  have hl' : xs.length = 2 ^ ((j : Int)).toNat := by simpa using hl
  obtain ⟨hs0, hs1⟩ := isSet_true.1 hs
  obtain ⟨t, rfl⟩ := Int.eq_ofNat_of_zero_le hs0
  have ht : t < xs.length := isSet_lt hl' hs1
  have hk := cloTo_lt hf ht j (by omega)
  have hks : isSet (j : Int) ((cloTo xs t j : Nat) : Int) = true := isSet_true.2 ⟨by omega, by
    have e : ((2 ^ ((j : Int)).toNat : Nat) : Int) = (2 : Int) ^ ((j : Int)).toNat := by push_cast; rfl
    omega⟩
  have hid := clo_idem h ht rfl j (Nat.le_refl _)
  have e1 : cloR (j : Int) xs (t : Int) = ((cloTo xs t j : Nat) : Int) := by rw [cloR, h, hs]; rfl
  have e2 : cloR (j : Int) xs ((cloTo xs t j : Nat) : Int) = ((cloTo xs t j : Nat) : Int) := by
    rw [cloR, h, hks]
    show ((cloTo xs (cloTo xs t j) j : Nat) : Int) = _
    rw [hid]
  refine ⟨cloTo xs t j, e1, by omega, ?_, e2, by simp [flatB, e2], ?_⟩
  · have hd := and_fin ⟨cloTo xs t j, by omega⟩ ⟨t, by omega⟩
    simp only at hd
    rw [hd]
    congr 1
    apply Nat.eq_of_testBit_eq
    intro i
    rw [Nat.testBit_and]
    cases hb : t.testBit i with
    | false => simp
    | true => rw [cloTo_keeps hb]; rfl
  · rw [valR, valR, hf, hks, hs]
    exact (clo_val h ht j (by omega)).1
theorem clo_none {n s : Int} {xs : List Int} (h : (polyB n xs && isSet n s) = false) : cloR n xs s = -1 := by rw [cloR, if_neg (by simp [h])]
end Go.Proofs.Ytfcgijnfiiaepaa
