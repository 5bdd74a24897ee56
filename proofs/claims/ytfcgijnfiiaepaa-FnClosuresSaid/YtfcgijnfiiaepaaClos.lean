/- Contracts of ClosureOf, IsFlat and FlatsOf, both packages. -/
import Derived.Test.YtfcgijnfiiaepaaCloM
import Derived.Test.YtfcgijnfiiaepaaIn5
namespace Go.Proofs.Ytfcgijnfiiaepaa
set_option linter.unusedSimpArgs false
set_option linter.unusedVariables false
open Go.RowKit

def bN : Value → Nat
  | .bool true => 1
  | _ => 0
def fN (C : Int) : Value → Nat
  | .int _ x => if x = C then 0 else 1
  | _ => 0
/-- What IsFlat returns. -/
def flatB (n : Int) (xs : List Int) (s : Int) : Bool := decide (0 ≤ s) && (cloR n xs s == s)
/-- The closed sets below k. -/
def flatTo (xs : List Int) (j k : Nat) : List Int := ((List.range k).filter fun s => cloTo xs s j == s).map fun (s : Nat) => (s : Int)
def flatL (n : Int) (xs : List Int) : List Int := if polyB n xs then flatTo xs n.toNat xs.length else []
theorem flatTo_yes {xs : List Int} {j k : Nat} (h : (cloTo xs k j == k) = true) : flatTo xs j (k + 1) = flatTo xs j k ++ [(k : Int)] := by
  simp [flatTo, List.range_succ, List.filter_append, List.filter_cons, h]
theorem flatTo_no {xs : List Int} {j k : Nat} (h : (cloTo xs k j == k) = false) : flatTo xs j (k + 1) = flatTo xs j k := by
  simp [flatTo, List.range_succ, List.filter_append, List.filter_cons, h]
theorem flatTo_len (xs : List Int) (j : Nat) : ∀ k, (flatTo xs j k).length ≤ k := fun k => by
  have := List.length_filter_le (fun s => cloTo xs s j == s) (List.range k)
  simpa [flatTo] using this
theorem flatB_eq {n : Int} {xs : List Int} {s j : Nat} (hp : polyB n xs = true) (hj : (j : Int) = n) (hs : s < xs.length) : flatB n xs (s : Int) = (cloTo xs s j == s) := by
  have hl := (isFun_true (poly_fun hp)).2.1
  have hset : isSet n (s : Int) = true := by
    rw [isSet_true]
    refine ⟨by omega, ?_⟩
    have : ((2 ^ n.toNat : Nat) : Int) = (2 : Int) ^ n.toNat := by push_cast; rfl
    omega
  subst hj
  rw [flatB, cloR, hp, hset, Bool.eq_iff_iff]
  simp
  omega
set_option maxHeartbeats 1000000 in
theorem c_impl_ClosureOf (e0 : Int) (a : Option Addr) (n c : Nat) (xs : List Int) (s : Int) (w : World) (h : Row .i64 w a n xs) (hn : n ≤ 1048576) :
    Calls Try.prog 7 #[.agg #[.int .i64 e0, .slice a n c], .int .i64 s] w fun e w' => e = .returned (.int .i64 (cloR e0 xs s)) ∧ Below w.heap.size w w' := by
  have bel := (Below.refl w.heap.size w).alloc (Nat.le_refl _) (.cells #[.int .i64 e0, .slice a n c] 26)
  have f := FBox.new w 26 e0 a n c
  cases hp : polyB e0 xs with
  | false =>
    have hr : cloR e0 xs s = -1 := by simp [cloR, hp]
    rw [hr]
    clear hr
    go_enter Try.func7, Try.ntmps7
    go_wp2_with fail
    refine (c_impl_IsPolymatroid _ _ _ _ _ _ (h.below bel) hn).mono ?_
    rw [hp]
    rintro e w1 ⟨rfl, hb1⟩
    go_wp2
    go_ret
    exact ⟨rfl, bel.trans (hb1.mono bel.size)⟩
  | true =>
    have hf := poly_fun hp
    have hq := (isFun_true hf).1
    cases hs : isSet e0 s with
    | false =>
      have hr : cloR e0 xs s = -1 := by simp [cloR, hs]
      rw [hr]
      clear hr
      go_enter Try.func7, Try.ntmps7
      go_wp2_with fail
      refine (c_impl_IsPolymatroid _ _ _ _ _ _ (h.below bel) hn).mono ?_
      rw [hp]
      rintro e w1 ⟨rfl, hb1⟩
      replace bel := bel.trans (hb1.mono bel.size)
      replace f := f.below hb1
      have k0 := f.c0
      have k1 := f.c1
      go_wp2_with fail
      refine (c_isSetOf _ _ _ (by omega) (by omega)).mono ?_
      rw [hs]
      rintro e w' ⟨rfl, rfl⟩
      go_wp2
      go_ret
      exact ⟨rfl, bel⟩
    | true =>
      obtain ⟨s0, s1⟩ := isSet_true.1 hs
      obtain ⟨k, rfl⟩ := Int.eq_ofNat_of_zero_le s0
      have hl := h.len
      have hle := isFun_le hf
      have hkx : k < xs.length := isSet_lt (isFun_true hf).2.1 s1
      obtain ⟨j, rfl⟩ := Int.eq_ofNat_of_zero_le hq.1
      have hr : cloR (j : Int) xs (k : Int) = (cloTo xs k j : Int) := by simp [cloR, hs, hp]
      rw [hr]
      clear hr s1
      go_enter Try.func7, Try.ntmps7
      go_wp2_with fail
      refine (c_impl_IsPolymatroid _ _ _ _ _ _ (h.below bel) hn).mono ?_
      rw [hp]
      rintro e w1 ⟨rfl, hb1⟩
      replace bel := bel.trans (hb1.mono bel.size)
      replace f := f.below hb1
      have k0 := f.c0
      have k1 := f.c1
      go_wp2_with fail
      refine (c_isSetOf _ _ _ (by omega) (by omega)).mono ?_
      rw [hs]
      rintro e w' ⟨rfl, rfl⟩
      go_wp2_with fail
      go_loopw [5, 20] (fun v i wr => ∃ e : Nat, i = .int .i64 e ∧ e ≤ j ∧ v = .int .i64 (cloTo xs k e) ∧ Below w.heap.size w wr ∧ FBox wr w.heap.size 26 j a n c) (fun _ i _ => j - (intOf i).toNat)
      case atStart => exact ⟨0, rfl, Nat.zero_le _, rfl, bel, f⟩
      case round =>
        clear bel f k0 k1 hb1
        obtain ⟨e, rfl, he, rfl, bel, f⟩ := hrel
        have k0 := f.c0
        have k1 := f.c1
        by_cases hlt : e < j
        · have hc := cloTo_lt hf hkx e (by omega)
          have hY := fun h0 => cloTo_yes (xs := xs) (s := k) (j := e) h0
          have hN := fun h0 => cloTo_no (xs := xs) (s := k) (j := e) h0
          go_wp2_with fail
          refine (c_gain _ _ _ _ _ _ _ _ (h.below bel) hf hkx (by omega)).mono ?_
          rintro e' w2 ⟨rfl, hb2⟩
          replace bel := bel.trans (hb2.mono bel.size)
          replace f := f.below hb2
          have k0 := f.c0
          have k1 := f.c1
          obtain ⟨p, hpp⟩ : ∃ p, p = 2 ^ e := ⟨_, rfl⟩
          obtain ⟨q, hqq⟩ : ∃ q, q = cloTo xs k e := ⟨_, rfl⟩
          have hp5 := two_pow_lt5 e (by omega)
          rw [← hpp] at hp5
          rw [← hqq] at hc ⊢
          have hor := i64_or_nat q p (by omega) (by omega)
          by_cases hg : gainL xs k e = 0
          · have hyy := hY hg
            rw [← hqq, ← hpp] at hyy
            have HY := Lib.hid hyy
            rw [hg]
            have hj60 : e < 60 := by omega
            have hm : j - (e + 1) < j - e := by omega
            have hle1 : e + 1 ≤ j := by omega
            clear hyy hY hN hqq
            obtain ⟨hz, hs1, hs2⟩ := shl_facts e p hpp hj60
            go_wp2
            go_roundw
            case rel => exact ⟨e + 1, by go_num, hle1, by rw [HY.out]; first | rfl | (rw [show ((2 : Int) ^ e) = (p : Int) by rw [hpp]; push_cast; rfl, hor]), bel, f⟩
            case measure => simpa [intOf] using hm
          · have hyy := hN hg
            rw [← hqq] at hyy
            have HY := Lib.hid hyy
            have hgb : (gainL xs k e == 0) = false := by simpa using hg
            obtain ⟨gv, hgv⟩ : ∃ gv, gv = gainL xs k e := ⟨_, rfl⟩
            rw [← hgv] at hgb ⊢
            clear hyy hY hN hqq hg hgv
            go_wp2
            go_roundw
            case rel => exact ⟨e + 1, by go_num, by omega, by rw [HY.out], bel, f⟩
            case measure => simp [intOf]; omega
        · obtain rfl : e = j := by omega
          go_wp2
          go_ret
          exact ⟨rfl, bel⟩
set_option maxHeartbeats 400000 in
theorem c_impl_IsFlat (e0 : Int) (a : Option Addr) (n c : Nat) (xs : List Int) (s : Int) (w : World) (h : Row .i64 w a n xs) (hn : n ≤ 1048576) :
    Calls Try.prog 9 #[.agg #[.int .i64 e0, .slice a n c], .int .i64 s] w fun e w' => e = .returned (.bool (flatB e0 xs s)) ∧ Below w.heap.size w w' := by
  have bel := (Below.refl w.heap.size w).alloc (Nat.le_refl _) (.cells #[.int .i64 e0, .slice a n c] 26)
  have f := FBox.new w 26 e0 a n c
  have k0 := f.c0
  have k1 := f.c1
  by_cases hs : 0 ≤ s
  · have hr : flatB e0 xs s = (cloR e0 xs s == s) := by simp [flatB, hs]
    rw [hr]
    clear hr
    go_enter Try.func9, Try.ntmps9
    go_wp2_with fail
    refine (c_impl_ClosureOf _ _ _ _ _ _ _ (h.below bel) hn).mono ?_
    rintro e w1 ⟨rfl, hb1⟩
    go_wp2
    go_ret
    exact ⟨rfl, bel.trans (hb1.mono bel.size)⟩
  · have hr : flatB e0 xs s = false := by simp [flatB, hs]
    rw [hr]
    clear hr
    go_enter Try.func9, Try.ntmps9
    go_wp2
    go_ret
    exact ⟨rfl, bel⟩
set_option maxHeartbeats 2000000 in
theorem c_l5Closure (j : Nat) (a : Option Addr) (n c : Nat) (xs : List Int) (k : Nat) (w : World) (h : Row .i64 w a n xs) (hp : polyB (j : Int) xs = true) (hk : k < xs.length) :
    Calls Try.prog 56 #[.agg #[.int .i64 j, .slice a n c], .int .i64 k] w fun e w' => e = .returned (.int .i64 (cloTo xs k j)) ∧ Below w.heap.size w w' := by
  have bel := (Below.refl w.heap.size w).alloc (Nat.le_refl _) (.cells #[.int .i64 j, .slice a n c] 26)
  have f := FBox.new w 26 j a n c
  have hf := poly_fun hp
  have hq := (isFun_true hf).1
  have hl := h.len
  have hle := isFun_le hf
  obtain ⟨C, hC⟩ : ∃ C, C = cloTo xs k j := ⟨_, rfl⟩
  have hCl : C < xs.length := by rw [hC]; exact cloTo_lt hf hk j (by omega)
  have HI := Lib.hid (show cloTo xs C j = C by rw [hC]; exact clo_idem hp hk rfl j (Nat.le_refl _))
  rw [← hC]
  have HC := Lib.hid hC
  have HP := Lib.hid hp
  clear hC hp
  go_enter Try.func56, Try.ntmps56
  go_wp2_with fail
  go_loopw [1, 5] (fun u ag wr => ∃ (t : Nat) (b : Bool), u = .int .i64 t ∧ ag = .bool b ∧ t < xs.length ∧ ((t = k ∧ b = true) ∨ t = C) ∧ Below w.heap.size w wr ∧ FBox wr w.heap.size 26 j a n c) (fun u ag _ => bN ag + fN (C : Int) u)
  case atStart => exact ⟨k, true, rfl, rfl, hk, .inl ⟨rfl, rfl⟩, bel, f⟩
  case round =>
    clear bel f
    obtain ⟨t, b, rfl, rfl, ht, htc, bel, f⟩ := hrel
    cases b with
    | false =>
      obtain rfl : t = C := by rcases htc with ⟨_, h⟩ | h; exact absurd h (by decide); exact h
      go_wp2
      go_ret
      exact ⟨rfl, bel⟩
    | true =>
      have hE : cloTo xs t j = C := by
        rcases htc with ⟨rfl, _⟩ | rfl
        · exact HC.out.symm
        · exact HI.out
      have HE := Lib.hid hE
      clear hE htc
      have k0 := f.c0
      have k1 := f.c1
      go_wp2_with fail
      go_loopw [1, 5, 6] (fun u ag i wr' => ∃ e : Nat, i = .int .i64 e ∧ e ≤ j ∧ u = .int .i64 (cloTo xs t e) ∧ ag = .bool (decide (cloTo xs t e ≠ t)) ∧ Below w.heap.size w wr' ∧ FBox wr' w.heap.size 26 j a n c) (fun _ _ i _ => j - (intOf i).toNat)
      case atStart => exact ⟨0, rfl, Nat.zero_le _, rfl, by simp [cloTo], bel, f⟩
      case round =>
        clear bel f k0 k1
        obtain ⟨e, rfl, he, rfl, rfl, bel, f⟩ := hrel
        have k0 := f.c0
        have k1 := f.c1
        by_cases hlt : e < j
        · have hc := cloTo_lt hf ht e (by omega)
          obtain ⟨hb1, hb2⟩ := bit_facts (cloTo xs t e) e (by omega)
          have hst := fun hb => clo_step HP.out ht (e := e) (by omega) hb
          have hhi := cloTo_high xs t e e (Nat.le_refl _)
          have hY := fun h0 => cloTo_yes (xs := xs) (s := t) (j := e) h0
          have hN := fun h0 => cloTo_no (xs := xs) (s := t) (j := e) h0
          rw [bitB_nat] at hb2
          obtain ⟨q, hqq⟩ : ∃ q, q = cloTo xs t e := ⟨_, rfl⟩
          rw [← hqq] at hc hb1 hb2 hst hhi hY hN ⊢
          have hm : j - (e + 1) < j - e := by omega
          have hle1 : e + 1 ≤ j := by omega
          have hi0 : (0 : Int) ≤ q := by omega
          cases hbit : q.testBit e with
          | true =>
            rw [hbit] at hb2
            have hg : gainL xs t e = 0 := gain_in (by rw [← hhi, hbit])
            have HY := Lib.hid (show cloTo xs t (e + 1) = q by rw [hY hg, or_bit hbit])
            clear hst hhi hY hN hqq hg hbit
            go_wp2_with fail
            go_quiet (fail)
            go_wp2
            go_roundw
            case rel => exact ⟨e + 1, by go_num, hle1, by rw [HY.out], by rw [HY.out], below_drewN bel _, f.drewN _⟩
            case measure => simpa [intOf] using hm
          | false =>
            rw [hbit] at hb2
            have hiff := hst hbit
            obtain ⟨b4, off4, rfl, hblt, hcc⟩ := (h.below bel).at_ (by omega)
            obtain ⟨p, hpp⟩ : ∃ p, p = 2 ^ e := ⟨_, rfl⟩
            have hp5 := two_pow_lt5 e (by omega)
            have horl := or_lt hf hc (j := e) (by omega)
            rw [← hpp] at hp5 horl
            have hor := i64_or_nat q p (by omega) (by omega)
            obtain ⟨m, hm'⟩ : ∃ m, m = q ||| p := ⟨_, rfl⟩
            rw [← hm'] at hor horl
            have g1 := hcc m (by omega)
            have g2 := hcc q (by omega)
            have hgq : gainL xs q e = xs.getD m 0 - xs.getD q 0 := by rw [hm', hpp]; rfl
            obtain ⟨x, hx⟩ : ∃ x, x = xs.getD m 0 := ⟨_, rfl⟩
            obtain ⟨y, hy⟩ : ∃ y, y = xs.getD q 0 := ⟨_, rfl⟩
            rw [← hx] at g1 hgq
            rw [← hy] at g2 hgq
            have hi1 : (q : Int) < (n : Int) := by omega
            have hi2 : (0 : Int) ≤ m := by omega
            have hi3 : (m : Int) < (n : Int) := by omega
            have hj60 : e < 60 := by omega
            by_cases hxy : x = y
            · have hg : gainL xs t e = 0 := hiff.1 (by omega)
              have hcy : cloTo xs t (e + 1) = m := by rw [hY hg, hm', hpp]
              have hne : decide (m ≠ t) = true := by
                rw [decide_eq_true_eq]
                intro hmt
                have h1 : m.testBit e = true := by rw [hm', hpp, Nat.testBit_or, Nat.testBit_two_pow_self, Bool.or_true]
                rw [hmt, ← hhi, hbit] at h1
                exact absurd h1 (by decide)
              have HY := Lib.hid hcy
              have HN := Lib.hid hne
              subst hxy
              clear hst hhi hY hN hqq hg hbit hcy hne hiff hx hy hgq hm' hcc horl
              obtain ⟨hz, hs1, hs2⟩ := shl_facts e p hpp hj60
              clear hpp
              go_wp2_with fail
              go_quiet (fail)
              go_wp2
              go_roundw
              case rel => exact ⟨e + 1, by go_num, hle1, by rw [HY.out], by rw [HY.out, HN.out], below_drewN bel _, f.drewN _⟩
              case measure => simpa [intOf] using hm
            · have hg : ¬ gainL xs t e = 0 := fun h0 => by have := hiff.2 h0; omega
              have HY := Lib.hid (show cloTo xs t (e + 1) = q by rw [hN hg])
              have hxyb : (x == y) = false := by simpa using hxy
              clear hst hhi hY hN hqq hg hbit hiff hx hy hgq hm' hcc horl hxy
              obtain ⟨hz, hs1, hs2⟩ := shl_facts e p hpp hj60
              clear hpp
              go_wp2_with fail
              go_quiet (fail)
              go_wp2
              go_roundw
              case rel => exact ⟨e + 1, by go_num, hle1, by rw [HY.out], by rw [HY.out], below_drewN bel _, f.drewN _⟩
              case measure => simpa [intOf] using hm
        · obtain rfl : e = j := by omega
          rw [HE.out]
          go_wp2
          go_roundw
          case rel => exact ⟨C, decide (C ≠ t), rfl, rfl, hCl, .inr rfl, bel, f⟩
          case measure =>
            by_cases hct : C = t
            · subst hct; simp [fN, bN]
            · have hct2 : ¬ t = C := fun h => hct h.symm
              have hct3 : ¬ ((t : Int) = (C : Int)) := by omega
              simp [fN, bN, hct, hct2, hct3]
set_option maxHeartbeats 400000 in
theorem c_spec_ClosureOf (e0 : Int) (a : Option Addr) (n c : Nat) (xs : List Int) (s : Int) (w : World) (h : Row .i64 w a n xs) (hn : n ≤ 1048576) :
    Calls Try.prog 8 #[.agg #[.int .i64 e0, .slice a n c], .int .i64 s] w fun e w' => e = .returned (.int .i64 (cloR e0 xs s)) ∧ Below w.heap.size w w' := by
  have bel := (Below.refl w.heap.size w).alloc (Nat.le_refl _) (.cells #[.int .i64 e0, .slice a n c] 26)
  have f := FBox.new w 26 e0 a n c
  cases hi : in5 e0 xs s with
  | false =>
    have hr : cloR e0 xs s = -1 := by
      rw [cloR, if_neg]
      intro hh
      rw [Bool.and_eq_true] at hh
      rw [in5, poly_fun hh.1, hh.2] at hi
      exact absurd hi (by decide)
    rw [hr]
    clear hr
    go_enter Try.func8, Try.ntmps8
    go_wp2_with fail
    refine (c_l5In _ _ _ _ _ _ _ (h.below bel) hn).mono ?_
    rw [hi]
    rintro e w1 ⟨rfl, hb1⟩
    go_wp2
    go_ret
    exact ⟨rfl, bel.trans (hb1.mono bel.size)⟩
  | true =>
    have hi' := hi
    simp only [in5, Bool.and_eq_true] at hi'
    obtain ⟨hf, hs⟩ := hi'
    cases hp : polyB e0 xs with
    | false =>
      have hr : cloR e0 xs s = -1 := by simp [cloR, hp]
      rw [hr]
      clear hr
      go_enter Try.func8, Try.ntmps8
      go_wp2_with fail
      refine (c_l5In _ _ _ _ _ _ _ (h.below bel) hn).mono ?_
      rw [hi]
      rintro e w1 ⟨rfl, hb1⟩
      replace bel := bel.trans (hb1.mono bel.size)
      replace f := f.below hb1
      have k0 := f.c0
      have k1 := f.c1
      go_wp2_with fail
      refine (c_spec_IsPolymatroid _ _ _ _ _ _ (h.below bel) hn).mono ?_
      rw [hp]
      rintro e w2 ⟨rfl, hb2⟩
      go_wp2
      go_ret
      exact ⟨rfl, bel.trans (hb2.mono bel.size)⟩
    | true =>
      obtain ⟨s0, s1⟩ := isSet_true.1 hs
      obtain ⟨k, rfl⟩ := Int.eq_ofNat_of_zero_le s0
      have hkx : k < xs.length := isSet_lt (isFun_true hf).2.1 s1
      obtain ⟨j, rfl⟩ := Int.eq_ofNat_of_zero_le (isFun_true hf).1.1
      have hr : cloR (j : Int) xs (k : Int) = (cloTo xs k j : Int) := by simp [cloR, hs, hp]
      rw [hr]
      clear hr s1
      go_enter Try.func8, Try.ntmps8
      go_wp2_with fail
      refine (c_l5In _ _ _ _ _ _ _ (h.below bel) hn).mono ?_
      rw [hi]
      rintro e w1 ⟨rfl, hb1⟩
      replace bel := bel.trans (hb1.mono bel.size)
      replace f := f.below hb1
      have k0 := f.c0
      have k1 := f.c1
      go_wp2_with fail
      refine (c_spec_IsPolymatroid _ _ _ _ _ _ (h.below bel) hn).mono ?_
      rw [hp]
      rintro e w2 ⟨rfl, hb2⟩
      replace bel := bel.trans (hb2.mono bel.size)
      replace f := f.below hb2
      replace k0 := f.c0
      replace k1 := f.c1
      go_wp2_with fail
      refine (c_l5Closure _ _ _ _ _ _ _ (h.below bel) hp hkx).mono ?_
      rintro e w3 ⟨rfl, hb3⟩
      go_wp2
      go_ret
      exact ⟨rfl, bel.trans (hb3.mono bel.size)⟩
set_option maxHeartbeats 400000 in
theorem c_spec_IsFlat (e0 : Int) (a : Option Addr) (n c : Nat) (xs : List Int) (s : Int) (w : World) (h : Row .i64 w a n xs) (hn : n ≤ 1048576) :
    Calls Try.prog 32 #[.agg #[.int .i64 e0, .slice a n c], .int .i64 s] w fun e w' => e = .returned (.bool (flatB e0 xs s)) ∧ Below w.heap.size w w' := by
  have bel := (Below.refl w.heap.size w).alloc (Nat.le_refl _) (.cells #[.int .i64 e0, .slice a n c] 26)
  have f := FBox.new w 26 e0 a n c
  have k0 := f.c0
  have k1 := f.c1
  have HF := Lib.hid (show flatB e0 xs s = (decide (0 ≤ s) && (cloR e0 xs s == s)) from rfl)
  have HC := Lib.hid (fun w' (h' : Row .i64 w' a n xs) => c_spec_ClosureOf e0 a n c xs s w' h' hn)
  obtain ⟨r, hr⟩ : ∃ r, r = cloR e0 xs s := ⟨_, rfl⟩
  have HR := Lib.hid hr
  clear hr
  cases hrs : (r == s) with
  | false =>
    have hv : flatB e0 xs s = false := by rw [HF.out, ← HR.out, hrs, Bool.and_false]
    rw [hv]
    clear hv
    go_enter Try.func32, Try.ntmps32
    go_wp2_with fail
    refine (HC.out _ (h.below bel)).mono ?_
    rw [← HR.out]
    rintro e w1 ⟨rfl, hb1⟩
    go_wp2
    go_ret
    exact ⟨rfl, bel.trans (hb1.mono bel.size)⟩
  | true =>
    have hv : flatB e0 xs s = decide (0 ≤ s) := by rw [HF.out, ← HR.out, hrs, Bool.and_true]
    rw [hv]
    clear hv
    go_enter Try.func32, Try.ntmps32
    go_wp2_with fail
    refine (HC.out _ (h.below bel)).mono ?_
    rw [← HR.out]
    rintro e w1 ⟨rfl, hb1⟩
    go_wp2
    go_ret
    exact ⟨rfl, bel.trans (hb1.mono bel.size)⟩
set_option maxHeartbeats 1000000 in
theorem c_impl_FlatsOf (e0 : Int) (a : Option Addr) (n c : Nat) (xs : List Int) (w : World) (h : Row .i64 w a n xs) (hn : n ≤ 1048576) :
    Calls Try.prog 12 #[.agg #[.int .i64 e0, .slice a n c]] w (RetIntsB 3 (flatL e0 xs) (polyB e0 xs) w) := by
  have bel := (Below.refl w.heap.size w).alloc (Nat.le_refl _) (.cells #[.int .i64 e0, .slice a n c] 26)
  have f := FBox.new w 26 e0 a n c
  cases hp : polyB e0 xs with
  | false =>
    have hr : flatL e0 xs = [] := by simp [flatL, hp]
    rw [hr]
    clear hr
    go_enter Try.func12, Try.ntmps12
    go_wp2_with fail
    refine (c_impl_IsPolymatroid _ _ _ _ _ _ (h.below bel) hn).mono ?_
    rw [hp]
    rintro e w1 ⟨rfl, hb1⟩
    go_wp2
    go_ret2
    exact ⟨none, 0, rfl, OwnI.nil _ _ _ _, by simp, bel.trans (hb1.mono bel.size)⟩
  | true =>
    have hf := poly_fun hp
    have hl := h.len
    have hle := isFun_le hf
    obtain ⟨j, rfl⟩ := Int.eq_ofNat_of_zero_le (isFun_true hf).1.1
    have hr : flatL (j : Int) xs = flatTo xs j n := by simp [flatL, hp, hl]
    rw [hr]
    clear hr
    have HL := Lib.hid (flatTo_len xs j)
    go_enter Try.func12, Try.ntmps12
    go_wp2_with fail
    refine (c_impl_IsPolymatroid _ _ _ _ _ _ (h.below bel) hn).mono ?_
    rw [hp]
    rintro e w1 ⟨rfl, hb1⟩
    replace bel := bel.trans (hb1.mono bel.size)
    replace f := f.below hb1
    have k0 := f.c0
    have k1 := f.c1
    go_wp2_with fail
    go_loopw [4, 12] (fun v i wr => ∃ s : Nat, i = .int .i64 s ∧ s ≤ n ∧ OwnI wr (w.heap.size + 1) 3 .i64 v (flatTo xs j s) ∧ Below w.heap.size w wr ∧ FBox wr w.heap.size 26 j a n c) (fun _ i _ => n - (intOf i).toNat)
    case atStart => exact ⟨0, rfl, Nat.zero_le _, OwnI.nil _ _ _ _, bel, f⟩
    case round =>
      clear bel f k0 k1 hb1
      obtain ⟨s, rfl, hs, hown, bel, f⟩ := hrel
      have k0 := f.c0
      have k1 := f.c1
      by_cases hlt : s < n
      · have hfb := flatB_eq (s := s) hp rfl (by omega)
        go_wp2_with fail
        refine (c_impl_IsFlat _ _ _ _ _ _ _ (h.below bel) hn).mono ?_
        rw [hfb]
        rintro e w2 ⟨rfl, hb2⟩
        replace bel := bel.trans (hb2.mono bel.size)
        replace f := f.below hb2
        replace hown := hown.below hb2
        replace k0 := f.c0
        replace k1 := f.c1
        have hB : w.heap.size + 1 ≤ w2.heap.size := f.lt
        have hlen := HL.out s
        clear hb2 hfb
        cases hc : (cloTo xs s j == s) with
        | true =>
          have HS := Lib.hid (flatTo_yes hc)
          go_wp2_with (at_builtin; refine wpList_app EI (base := w.heap.size + 1) (v := u4) (xs := flatTo xs j s) (us := [(s : Int)]) (g := w2.heap.size) (n := 1) (c := 1) rfl (.tmp 18) (.tmp 20) rfl ?_ ?_ rfl rfl rfl ?_ ?_ ?_; (exact hown.alloc _); (exact heap_alloc_new w2 _); (show _ + 1 ≤ _; omega); (exact le_alloc hB _); intro v' w3 hown1 hgrow)
          have hb1 : Below w.heap.size w w3 := below_grown (bel.alloc bel.size _) (hown.alloc _) hgrow (by omega) (by simp; omega)
          have f' := (f.alloc _).grown hgrow (row_apart hown.range (.inl (by omega)))
          go_roundw
          case rel => exact ⟨s + 1, by go_num, by omega, by rw [HS.out]; exact hown1, hb1, f'⟩
          case measure => simp [intOf]; omega
        | false =>
          have HS := Lib.hid (flatTo_no hc)
          go_wp2
          go_roundw
          case rel => exact ⟨s + 1, by go_num, by omega, by rw [HS.out]; exact hown, bel, f⟩
          case measure => simp [intOf]; omega
      · obtain rfl : s = n := by omega
        have hlen := HL.out s
        obtain ⟨a2, c2, rfl, _⟩ := hown.form
        go_wp2
        go_ret2
        exact ⟨a2, c2, rfl, hown.base (by omega), by omega, bel⟩
set_option maxHeartbeats 1000000 in
theorem c_spec_FlatsOf (e0 : Int) (a : Option Addr) (n c : Nat) (xs : List Int) (w : World) (h : Row .i64 w a n xs) (hn : n ≤ 1048576) :
    Calls Try.prog 13 #[.agg #[.int .i64 e0, .slice a n c]] w (RetIntsB 3 (flatL e0 xs) (polyB e0 xs) w) := by
  have bel := (Below.refl w.heap.size w).alloc (Nat.le_refl _) (.cells #[.int .i64 e0, .slice a n c] 26)
  have f := (FBox.new w 26 e0 a n c).alloc (.cells #[] 3)
  replace bel := bel.alloc bel.size (.cells #[] 3)
  have hv0 : OwnI ((w.alloc (.cells #[.int .i64 e0, .slice a n c] 26)).alloc (.cells #[] 3)) (w.heap.size + 1) 3 .i64 (.slice (some ⟨w.heap.size + 1, 0, none⟩) 0 0) [] := by
    have h := World.ownsRow_made (base := w.heap.size + 1) (e := 3) (size := 1) (w.alloc (.cells #[.int .i64 e0, .slice a n c] 26)) #[] 0 (by simp) (by decide) rfl
    simp only [World.size_alloc] at h
    exact h
  have k0 := f.c0
  have k1 := f.c1
  cases hp : polyB e0 xs with
  | false =>
    have hr : flatL e0 xs = [] := by simp [flatL, hp]
    rw [hr]
    clear hr
    go_enter Try.func13, Try.ntmps13
    go_wp2_with fail
    refine wp_loop_rounds 1 ?_
    rw [rounds_succ]
    go_wp2_with fail
    refine (c_spec_IsPolymatroid _ _ _ _ _ _ (h.below bel) hn).mono ?_
    rw [hp]
    rintro e w1 ⟨rfl, hb1⟩
    replace bel := bel.trans (hb1.mono bel.size)
    replace f := f.below hb1
    replace hv0 := hv0.below hb1
    replace k0 := f.c0
    replace k1 := f.c1
    go_wp2_with fail
    refine (c_spec_IsPolymatroid _ _ _ _ _ _ (h.below bel) hn).mono ?_
    rw [hp]
    rintro e w2 ⟨rfl, hb2⟩
    go_wp2
    go_ret2
    exact ⟨_, 0, rfl, (hv0.below hb2).base (by omega), by simp, bel.trans (hb2.mono bel.size)⟩
  | true =>
    have hf := poly_fun hp
    have hl := h.len
    have hle := isFun_le hf
    obtain ⟨j, rfl⟩ := Int.eq_ofNat_of_zero_le (isFun_true hf).1.1
    have hr : flatL (j : Int) xs = flatTo xs j n := by simp [flatL, hp, hl]
    rw [hr]
    clear hr
    have HL := Lib.hid (flatTo_len xs j)
    go_enter Try.func13, Try.ntmps13
    go_wp2_with fail
    go_loopw [4, 5] (fun v i wr => ∃ s : Nat, i = .int .i64 s ∧ s ≤ n ∧ OwnI wr (w.heap.size + 1) 3 .i64 v (flatTo xs j s) ∧ Below w.heap.size w wr ∧ FBox wr w.heap.size 26 j a n c) (fun _ i _ => n - (intOf i).toNat)
    case atStart => exact ⟨0, rfl, Nat.zero_le _, hv0, bel, f⟩
    case round =>
      clear bel f k0 k1 hv0
      obtain ⟨s, rfl, hs, hown, bel, f⟩ := hrel
      have k0 := f.c0
      have k1 := f.c1
      go_wp2_with fail
      refine (c_spec_IsPolymatroid _ _ _ _ _ _ (h.below bel) hn).mono ?_
      rw [hp]
      rintro e w1 ⟨rfl, hb1⟩
      replace bel := bel.trans (hb1.mono bel.size)
      replace f := f.below hb1
      replace hown := hown.below hb1
      replace k0 := f.c0
      replace k1 := f.c1
      clear hb1
      by_cases hlt : s < n
      · go_wp2_with fail
        refine (c_l5Closure _ _ _ _ _ _ _ (h.below bel) hp (by omega)).mono ?_
        rintro e w2 ⟨rfl, hb2⟩
        replace bel := bel.trans (hb2.mono bel.size)
        replace f := f.below hb2
        replace hown := hown.below hb2
        replace k0 := f.c0
        replace k1 := f.c1
        have hB : w.heap.size + 1 ≤ w2.heap.size := f.lt
        have hlen := HL.out s
        clear hb2
        cases hc : (cloTo xs s j == s) with
        | true =>
          have HS := Lib.hid (flatTo_yes hc)
          have hci : ((cloTo xs s j : Int) == (s : Int)) = true := by rw [beq_iff_eq] at hc ⊢; omega
          clear hc
          go_wp2_with (at_builtin; refine wpList_app EI (base := w.heap.size + 1) (v := u4) (xs := flatTo xs j s) (us := [(s : Int)]) (g := w2.heap.size) (n := 1) (c := 1) rfl (.tmp 23) (.tmp 25) rfl ?_ ?_ rfl rfl rfl ?_ ?_ ?_; (exact hown.alloc _); (exact heap_alloc_new w2 _); (show _ + 1 ≤ _; omega); (exact le_alloc hB _); intro v' w3 hown1 hgrow)
          have hb1 : Below w.heap.size w w3 := below_grown (bel.alloc bel.size _) (hown.alloc _) hgrow (by omega) (by simp; omega)
          have f' := (f.alloc _).grown hgrow (row_apart hown.range (.inl (by omega)))
          go_roundw
          case rel => exact ⟨s + 1, by go_num, by omega, by rw [HS.out]; exact hown1, hb1, f'⟩
          case measure => simp [intOf]; omega
        | false =>
          have HS := Lib.hid (flatTo_no hc)
          have hci : ((cloTo xs s j : Int) == (s : Int)) = false := by rw [beq_eq_false_iff_ne] at hc ⊢; omega
          clear hc
          go_wp2
          go_roundw
          case rel => exact ⟨s + 1, by go_num, by omega, by rw [HS.out]; exact hown, bel, f⟩
          case measure => simp [intOf]; omega
      · obtain rfl : s = n := by omega
        have hlen := HL.out s
        obtain ⟨a2, c2, rfl, _⟩ := hown.form
        go_wp2_with fail
        refine (c_spec_IsPolymatroid _ _ _ _ _ _ (h.below bel) hn).mono ?_
        rw [hp]
        rintro e w2 ⟨rfl, hb2⟩
        go_wp2
        go_ret2
        exact ⟨a2, c2, rfl, (hown.below hb2).base (by omega), by omega, bel.trans (hb2.mono bel.size)⟩
end Go.Proofs.Ytfcgijnfiiaepaa
