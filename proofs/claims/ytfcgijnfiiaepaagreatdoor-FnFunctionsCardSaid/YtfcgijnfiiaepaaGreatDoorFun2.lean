/- Contracts of the functions that read a function of sets: IsGrounded, ValueOf, GainOf, EqualFunctions. -/
import Derived.Test.YtfcgijnfiiaepaaGreatDoorFun
namespace Go.Proofs.YtfcgijnfiiaepaaGreatDoor
set_option linter.unusedSimpArgs false
set_option linter.unusedVariables false
open Go.RowKit

theorem isFun_pos {n : Int} {xs : List Int} (h : isFun n xs = true) : 0 < xs.length := by
  rw [(isFun_true h).2.1]; exact Nat.pow_pos (by decide)
theorem isFun_le {n : Int} {xs : List Int} (h : isFun n xs = true) : xs.length ≤ 32 := by
  obtain ⟨⟨h0, h1⟩, hl, _⟩ := isFun_true h
  have : n.toNat = 0 ∨ n.toNat = 1 ∨ n.toNat = 2 ∨ n.toNat = 3 ∨ n.toNat = 4 ∨ n.toNat = 5 := by omega
  rcases this with h | h | h | h | h | h <;> rw [h] at hl <;> omega
theorem isSet_lt {n : Int} {xs : List Int} {k : Nat} (hl : xs.length = 2 ^ n.toNat) (h : (k : Int) < 2 ^ n.toNat) : k < xs.length := by
  rw [hl]; exact_mod_cast h
theorem two_pow_lt5 (j : Nat) (h : j < 5) : 2 ^ j ≤ 16 := by
  have : j = 0 ∨ j = 1 ∨ j = 2 ∨ j = 3 ∨ j = 4 := by omega
  rcases this with rfl | rfl | rfl | rfl | rfl <;> decide
theorem or_lt {n : Int} {xs : List Int} {k j : Nat} (h : isFun n xs = true) (hk : k < xs.length) (hj : (j : Int) < n) : k ||| 2 ^ j < xs.length := by
  obtain ⟨⟨h0, h1⟩, hl, _⟩ := isFun_true h
  rw [hl] at hk ⊢
  exact Nat.or_lt_two_pow hk (Nat.pow_lt_pow_right (by decide) (by omega))
/-- A shift of 1 by a small count, in the walk's forms. -/
theorem shl_facts (j p : Nat) (hp : p = 2 ^ j) (hj : j < 60) : IntKind.u64.wrap (j : Int) = j ∧ IntKind.i64.wrap (2 ^ j) = (p : Int) ∧ wrap64 (2 ^ j) = (p : Int) := by
  have hlt : p < 2 ^ 60 := by rw [hp]; exact Nat.pow_lt_pow_right (by decide) hj
  have hc : (2 : Int) ^ j = (p : Int) := by rw [hp]; push_cast; rfl
  have hw : IntKind.i64.wrap (p : Int) = p := IntWalk.i64_in _ (by omega)
  refine ⟨IntWalk.u64_in _ (by omega), ?_, ?_⟩
  · rw [hc, hw]
  · rw [hc]; exact IntWalk.wrap64_in _ (by omega)
/-- What IsGrounded returns. -/
def groundB (n : Int) (xs : List Int) : Bool := isFun n xs && (xs.getD 0 0 == 0)
/-- What ValueOf returns. -/
def valR (n : Int) (xs : List Int) (s : Int) : Int := if isFun n xs && isSet n s then xs.getD s.toNat 0 else -9999
/-- What an element adds to a set. -/
def gainL (xs : List Int) (k e : Nat) : Int := xs.getD (k ||| 2 ^ e) 0 - xs.getD k 0
/-- What GainOf returns. -/
def gainR (n : Int) (xs : List Int) (s e : Int) : Int := if isFun n xs && isSet n s && inB e 0 (n - 1) then gainL xs s.toNat e.toNat else -9999
/-- What EqualFunctions returns. -/
def sameF (n : Int) (xs : List Int) (m : Int) (ys : List Int) : Bool := decide (n = m) && eqL xs ys
set_option maxRecDepth 20000 in
set_option maxHeartbeats 400000 in
theorem c_spec_ValueOf (e0 : Int) (a : Option Addr) (n c : Nat) (xs : List Int) (s : Int) (w : World) (h : Row .i64 w a n xs) (hn : n ≤ 1048576) :
    Calls Tryz.prog 36 #[.agg #[.int .i64 e0, .slice a n c], .int .i64 s] w fun e w' => e = .returned (.int .i64 (valR e0 xs s)) ∧ Below w.heap.size w w' := by
  have hb := (Below.refl w.heap.size w).alloc (Nat.le_refl _) (.cells #[.int .i64 e0, .slice a n c] 26)
  have f := FBox.new w 26 e0 a n c
  cases hf : isFun e0 xs with
  | false =>
    have hr : valR e0 xs s = -9999 := by simp [valR, hf]
    rw [hr]
    clear hr
    go_enter Tryz.func36, Tryz.ntmps36
    go_wp2_with fail
    refine (c_spec_IsFunction _ _ _ _ _ _ (h.alloc _) hn).mono ?_
    rw [hf]
    rintro e w1 ⟨rfl, hb1⟩
    go_wp2
    go_ret
    exact ⟨rfl, hb.trans (hb1.mono hb.size)⟩
  | true =>
   have hq := (isFun_true hf).1
   have hlen := (isFun_true hf).2.1
   have hl := h.len
   cases hs : isSet e0 s with
   | false =>
    have hr : valR e0 xs s = -9999 := by simp [valR, hs]
    rw [hr]
    clear hr hlen
    go_enter Tryz.func36, Tryz.ntmps36
    go_wp2_with fail
    refine (c_spec_IsFunction _ _ _ _ _ _ (h.alloc _) hn).mono ?_
    rw [hf]
    rintro e w1 ⟨rfl, hb1⟩
    have bel := hb.trans (hb1.mono hb.size)
    have f1 := f.below hb1
    have k0 := f1.c0
    have k1 := f1.c1
    clear f hb hb1
    go_wp2_with fail
    refine (c_l2Full _ _ (by omega) (by omega)).mono ?_
    rintro e w' ⟨rfl, rfl⟩
    go_wp2_with fail
    refine (c_l1In _ _ _ _).mono ?_
    rintro e w' ⟨rfl, rfl⟩
    rw [inB_full, hs]
    go_wp2
    go_ret
    exact ⟨rfl, bel⟩
   | true =>
    obtain ⟨s0, s1⟩ := isSet_true.1 hs
    obtain ⟨k, rfl⟩ := Int.eq_ofNat_of_zero_le s0
    have hk : k < xs.length := isSet_lt hlen s1
    have hk' : k < n := by omega
    have hr : valR e0 xs (k : Int) = xs.getD k 0 := by simp [valR, hs, hf]
    rw [hr]
    have hi0 : (0 : Int) ≤ k := by omega
    have hi1 : (k : Int) < (n : Int) := by omega
    clear hr hlen s1
    go_enter Tryz.func36, Tryz.ntmps36
    go_wp2_with fail
    refine (c_spec_IsFunction _ _ _ _ _ _ (h.alloc _) hn).mono ?_
    rw [hf]
    rintro e w1 ⟨rfl, hb1⟩
    have bel := hb.trans (hb1.mono hb.size)
    have f1 := f.below hb1
    have k0 := f1.c0
    have k1 := f1.c1
    clear f hb hb1
    go_wp2_with fail
    refine (c_l2Full _ _ (by omega) (by omega)).mono ?_
    rintro e w' ⟨rfl, rfl⟩
    go_wp2_with fail
    refine (c_l1In _ _ _ _).mono ?_
    rintro e w' ⟨rfl, rfl⟩
    rw [inB_full, hs]
    obtain ⟨b, off, rfl, hlt, hc⟩ := (h.below bel).at_ (by omega)
    have g := hc k hk'
    clear hc hl
    obtain ⟨x, hx⟩ : ∃ x, x = xs.getD k 0 := ⟨_, rfl⟩
    rw [← hx] at g
    have HX := Lib.hid hx; clear hx
    go_wp2
    go_ret
    exact ⟨ret_int HX.out, bel⟩
set_option maxRecDepth 20000 in
set_option maxHeartbeats 400000 in
theorem c_impl_IsGrounded (e0 : Int) (a : Option Addr) (n c : Nat) (xs : List Int) (w : World) (h : Row .i64 w a n xs) (hn : n ≤ 1048576) :
    Calls Tryz.prog 31 #[.agg #[.int .i64 e0, .slice a n c]] w fun e w' => e = .returned (.bool (groundB e0 xs)) ∧ Below w.heap.size w w' := by
  have hb := (Below.refl w.heap.size w).alloc (Nat.le_refl _) (.cells #[.int .i64 e0, .slice a n c] 26)
  have f := FBox.new w 26 e0 a n c
  cases hf : isFun e0 xs with
  | false =>
    have hr : groundB e0 xs = false := by simp [groundB, hf]
    rw [hr]
    clear hr
    go_enter Tryz.func31, Tryz.ntmps31
    go_wp2_with fail
    refine (c_impl_IsFunction _ _ _ _ _ _ (h.alloc _) hn).mono ?_
    rw [hf]
    rintro e w1 ⟨rfl, hb1⟩
    go_wp2
    go_ret
    exact ⟨rfl, hb.trans (hb1.mono hb.size)⟩
  | true =>
    have hr : groundB e0 xs = (xs.getD 0 0 == 0) := by simp [groundB, hf]
    rw [hr]
    have hp := isFun_pos hf
    have hl := h.len
    have hp' : 0 < n := by omega
    clear hr
    go_enter Tryz.func31, Tryz.ntmps31
    go_wp2_with fail
    refine (c_impl_IsFunction _ _ _ _ _ _ (h.alloc _) hn).mono ?_
    rw [hf]
    rintro e w1 ⟨rfl, hb1⟩
    have bel := hb.trans (hb1.mono hb.size)
    have f1 := f.below hb1
    have k0 := f1.c0
    have k1 := f1.c1
    clear f hb hb1
    obtain ⟨b, off, rfl, hlt, hc⟩ := (h.below bel).at_ hp'
    have g : w1.cell? ⟨b, off + 0, none⟩ = some (.int .i64 (xs.getD 0 0)) := hc 0 hp'
    have g' : w1.cell? ⟨b, off, none⟩ = some (.int .i64 (xs.getD 0 0)) := g
    clear hc hl
    obtain ⟨x, hx⟩ : ∃ x, x = xs.getD 0 0 := ⟨_, rfl⟩
    rw [← hx] at g g'
    have HX := Lib.hid hx; clear hx
    go_wp2
    go_ret
    exact ⟨ret_bool (by rw [HX.out]), bel⟩
set_option maxRecDepth 20000 in
set_option maxHeartbeats 400000 in
theorem c_impl_ValueOf (e0 : Int) (a : Option Addr) (n c : Nat) (xs : List Int) (s : Int) (w : World) (h : Row .i64 w a n xs) (hn : n ≤ 1048576) :
    Calls Tryz.prog 19 #[.agg #[.int .i64 e0, .slice a n c], .int .i64 s] w fun e w' => e = .returned (.int .i64 (valR e0 xs s)) ∧ Below w.heap.size w w' := by
  have hb := (Below.refl w.heap.size w).alloc (Nat.le_refl _) (.cells #[.int .i64 e0, .slice a n c] 26)
  have f := FBox.new w 26 e0 a n c
  cases hf : isFun e0 xs with
  | false =>
    have hr : valR e0 xs s = -9999 := by simp [valR, hf]
    rw [hr]
    clear hr
    go_enter Tryz.func19, Tryz.ntmps19
    go_wp2_with fail
    refine (c_impl_IsFunction _ _ _ _ _ _ (h.alloc _) hn).mono ?_
    rw [hf]
    rintro e w1 ⟨rfl, hb1⟩
    go_wp2
    go_ret
    exact ⟨rfl, hb.trans (hb1.mono hb.size)⟩
  | true =>
   have hq := (isFun_true hf).1
   have hlen := (isFun_true hf).2.1
   have hl := h.len
   cases hs : isSet e0 s with
   | false =>
    have hr : valR e0 xs s = -9999 := by simp [valR, hs]
    rw [hr]
    clear hr hlen
    go_enter Tryz.func19, Tryz.ntmps19
    go_wp2_with fail
    refine (c_impl_IsFunction _ _ _ _ _ _ (h.alloc _) hn).mono ?_
    rw [hf]
    rintro e w1 ⟨rfl, hb1⟩
    have bel := hb.trans (hb1.mono hb.size)
    have f1 := f.below hb1
    have k0 := f1.c0
    have k1 := f1.c1
    clear f hb hb1
    go_wp2_with fail
    refine (c_isSetOf _ _ _ (by omega) (by omega)).mono ?_
    rintro e w' ⟨rfl, rfl⟩
    rw [hs]
    go_wp2
    go_ret
    exact ⟨rfl, bel⟩
   | true =>
    obtain ⟨s0, s1⟩ := isSet_true.1 hs
    obtain ⟨k, rfl⟩ := Int.eq_ofNat_of_zero_le s0
    have hk : k < xs.length := isSet_lt hlen s1
    have hk' : k < n := by omega
    have hr : valR e0 xs (k : Int) = xs.getD k 0 := by simp [valR, hs, hf]
    rw [hr]
    have hi0 : (0 : Int) ≤ k := by omega
    have hi1 : (k : Int) < (n : Int) := by omega
    clear hr hlen s1
    go_enter Tryz.func19, Tryz.ntmps19
    go_wp2_with fail
    refine (c_impl_IsFunction _ _ _ _ _ _ (h.alloc _) hn).mono ?_
    rw [hf]
    rintro e w1 ⟨rfl, hb1⟩
    have bel := hb.trans (hb1.mono hb.size)
    have f1 := f.below hb1
    have k0 := f1.c0
    have k1 := f1.c1
    clear f hb hb1
    go_wp2_with fail
    refine (c_isSetOf _ _ _ (by omega) (by omega)).mono ?_
    rintro e w' ⟨rfl, rfl⟩
    rw [hs]
    obtain ⟨b, off, rfl, hlt, hc⟩ := (h.below bel).at_ (by omega)
    have g := hc k hk'
    clear hc hl
    obtain ⟨x, hx⟩ : ∃ x, x = xs.getD k 0 := ⟨_, rfl⟩
    rw [← hx] at g
    have HX := Lib.hid hx; clear hx
    go_wp2
    go_ret
    exact ⟨ret_int HX.out, bel⟩
theorem c_isElement (n e0 : Int) (w : World) (h0 : 0 ≤ n) (h1 : n ≤ 10) :
    Calls Tryz.prog 55 #[.int .i64 n, .int .i64 e0] w fun e w' => e = .returned (.bool (inB e0 0 (n - 1))) ∧ w = w' := by
  by_cases h : 0 ≤ e0
  · have e1 : inB e0 0 (n - 1) = decide (e0 < n) := by rw [inB, Bool.eq_iff_iff]; simp; omega
    rw [e1]
    clear e1
    go_enter Tryz.func55, Tryz.ntmps55
    go_wp2
    go_ret
    exact ⟨rfl, rfl⟩
  · have e1 : inB e0 0 (n - 1) = false := by simp [inB, h]
    rw [e1]
    clear e1
    go_enter Tryz.func55, Tryz.ntmps55
    go_wp2
    go_ret
    exact ⟨rfl, rfl⟩
set_option maxRecDepth 20000 in
set_option maxHeartbeats 400000 in
theorem c_gain (e0 : Int) (a : Option Addr) (n c : Nat) (xs : List Int) (k j : Nat) (w : World) (h : Row .i64 w a n xs) (hf : isFun e0 xs = true) (hk : k < xs.length) (hj : (j : Int) < e0) :
    Calls Tryz.prog 56 #[.agg #[.int .i64 e0, .slice a n c], .int .i64 k, .int .i64 j] w fun e w' => e = .returned (.int .i64 (gainL xs k j)) ∧ Below w.heap.size w w' := by
  have hb := (Below.refl w.heap.size w).alloc (Nat.le_refl _) (.cells #[.int .i64 e0, .slice a n c] 26)
  have hq := (isFun_true hf).1
  have hl := h.len
  have hle := isFun_le hf
  obtain ⟨b, off, rfl, hlt, hc⟩ := h.at_ (by omega)
  have g1 := hc k (by omega)
  have hj0 : (0 : Int) ≤ j := by omega
  have hi0 : (0 : Int) ≤ k := by omega
  have hi1 : (k : Int) < (n : Int) := by omega
  have hx1 := (isFun_true hf).2.2 k hk
  have ho := or_lt hf hk hj
  have hp5 := two_pow_lt5 j (by omega)
  obtain ⟨p, hp⟩ : ∃ p, p = 2 ^ j := ⟨_, rfl⟩
  rw [← hp] at hp5 ho
  have hor := i64_or_nat k p (by omega) (by omega)
  obtain ⟨hz, hs1, hs2⟩ := shl_facts j p hp (by omega)
  have hx2 := (isFun_true hf).2.2 _ ho
  obtain ⟨m, hm⟩ : ∃ m, m = k ||| p := ⟨_, rfl⟩
  rw [← hm] at hor ho hx2
  have g2 := hc m (by omega)
  have hst : gainL xs k j = xs.getD m 0 - xs.getD k 0 := by rw [hm, hp]; rfl
  have hm0 : (0 : Int) ≤ m := by omega
  have hm1 : (m : Int) < (n : Int) := by omega
  obtain ⟨x, hx⟩ : ∃ x, x = xs.getD k 0 := ⟨_, rfl⟩
  obtain ⟨y, hy⟩ : ∃ y, y = xs.getD m 0 := ⟨_, rfl⟩
  rw [← hx] at g1 hx1 hst
  rw [← hy] at g2 hx2 hst
  have hw : IntKind.i64.wrap (y - x) = y - x := IntWalk.i64_in _ (by omega)
  have HST := Lib.hid hst
  clear hst hx hy hm hp hc hf hl hp5

  go_enter Tryz.func56, Tryz.ntmps56
  go_wp2_with fail
  go_quiet (fail)
  go_wp2
  go_ret
  exact ⟨ret_int HST.out.symm, below_drewN hb _⟩
set_option maxRecDepth 20000 in
set_option maxHeartbeats 1000000 in
theorem c_spec_GainOf (e0 : Int) (a : Option Addr) (n c : Nat) (xs : List Int) (s j : Int) (w : World) (h : Row .i64 w a n xs) (hn : n ≤ 1048576) :
    Calls Tryz.prog 18 #[.agg #[.int .i64 e0, .slice a n c], .int .i64 s, .int .i64 j] w fun e w' => e = .returned (.int .i64 (gainR e0 xs s j)) ∧ Below w.heap.size w w' := by
  have hb := (Below.refl w.heap.size w).alloc (Nat.le_refl _) (.cells #[.int .i64 e0, .slice a n c] 26)
  have f := FBox.new w 26 e0 a n c
  cases hf : isFun e0 xs with
  | false =>
    have hr : gainR e0 xs s j = -9999 := by simp [gainR, hf]
    rw [hr]
    clear hr
    go_enter Tryz.func18, Tryz.ntmps18
    go_wp2_with fail
    refine (c_spec_IsFunction _ _ _ _ _ _ (h.alloc _) hn).mono ?_
    rw [hf]
    rintro e w1 ⟨rfl, hb1⟩
    go_wp2
    go_ret
    exact ⟨rfl, hb.trans (hb1.mono hb.size)⟩
  | true =>
   have hq := (isFun_true hf).1
   have hlen := (isFun_true hf).2.1
   have hl := h.len
   have hle := isFun_le hf
   cases hs : isSet e0 s with
   | false =>
    have hr : gainR e0 xs s j = -9999 := by simp [gainR, hs]
    rw [hr]
    clear hr hlen
    go_enter Tryz.func18, Tryz.ntmps18
    go_wp2_with fail
    refine (c_spec_IsFunction _ _ _ _ _ _ (h.alloc _) hn).mono ?_
    rw [hf]
    rintro e w1 ⟨rfl, hb1⟩
    have bel := hb.trans (hb1.mono hb.size)
    have f1 := f.below hb1
    have k0 := f1.c0
    have k1 := f1.c1
    clear f hb hb1
    go_wp2_with fail
    refine (c_l2Full _ _ (by omega) (by omega)).mono ?_
    rintro e w' ⟨rfl, rfl⟩
    go_wp2_with fail
    refine (c_l1In _ _ _ _).mono ?_
    rintro e w' ⟨rfl, rfl⟩
    rw [inB_full, hs]
    go_wp2
    go_ret
    exact ⟨rfl, bel⟩
   | true =>
    obtain ⟨s0, s1⟩ := isSet_true.1 hs
    obtain ⟨k, rfl⟩ := Int.eq_ofNat_of_zero_le s0
    have hk : k < xs.length := isSet_lt hlen s1
    cases he : inB j 0 (e0 - 1) with
    | false =>
     have hr : gainR e0 xs (k : Int) j = -9999 := by simp [gainR, he]
     rw [hr]
     clear hr hlen s1
     go_enter Tryz.func18, Tryz.ntmps18
     go_wp2_with fail
     refine (c_spec_IsFunction _ _ _ _ _ _ (h.alloc _) hn).mono ?_
     rw [hf]
     rintro e w1 ⟨rfl, hb1⟩
     have bel := hb.trans (hb1.mono hb.size)
     have f1 := f.below hb1
     have k0 := f1.c0
     have k1 := f1.c1
     clear f hb hb1
     go_wp2_with fail
     refine (c_l2Full _ _ (by omega) (by omega)).mono ?_
     rintro e w' ⟨rfl, rfl⟩
     go_wp2_with fail
     refine (c_l1In _ _ _ _).mono ?_
     rintro e w' ⟨rfl, rfl⟩
     rw [inB_full, hs]
     go_wp2_with fail
     refine (c_l1In _ _ _ _).mono ?_
     rintro e w' ⟨rfl, rfl⟩
     rw [he]
     go_wp2
     go_ret
     exact ⟨rfl, bel⟩
    | true =>
    obtain ⟨j0, j1⟩ := inB_true.1 he
    obtain ⟨j, rfl⟩ := Int.eq_ofNat_of_zero_le j0
    have hj : (j : Int) < e0 := by omega
    have hr : gainR e0 xs (k : Int) (j : Int) = gainL xs k j := by simp [gainR, hs, hf, he]
    rw [hr]
    clear hr hlen s1
    go_enter Tryz.func18, Tryz.ntmps18
    go_wp2_with fail
    refine (c_spec_IsFunction _ _ _ _ _ _ (h.alloc _) hn).mono ?_
    rw [hf]
    rintro e w1 ⟨rfl, hb1⟩
    have bel := hb.trans (hb1.mono hb.size)
    have f1 := f.below hb1
    have k0 := f1.c0
    have k1 := f1.c1
    clear f hb hb1
    go_wp2_with fail
    refine (c_l2Full _ _ (by omega) (by omega)).mono ?_
    rintro e w' ⟨rfl, rfl⟩
    go_wp2_with fail
    refine (c_l1In _ _ _ _).mono ?_
    rintro e w' ⟨rfl, rfl⟩
    rw [inB_full, hs]
    go_wp2_with fail
    refine (c_l1In _ _ _ _).mono ?_
    rintro e w' ⟨rfl, rfl⟩
    rw [he]
    obtain ⟨b, off, rfl, hlt, hc⟩ := (h.below bel).at_ (by omega)
    have g1 := hc k (by omega)
    have hj0 : (0 : Int) ≤ j := by omega
    have hi0 : (0 : Int) ≤ k := by omega
    have hi1 : (k : Int) < (n : Int) := by omega
    have hx1 := (isFun_true hf).2.2 k hk
    have ho := or_lt hf hk hj
    have hp5 := two_pow_lt5 j (by omega)
    obtain ⟨p, hp⟩ : ∃ p, p = 2 ^ j := ⟨_, rfl⟩
    rw [← hp] at hp5 ho
    have hor := i64_or_nat k p (by omega) (by omega)
    obtain ⟨hz, hs1, hs2⟩ := shl_facts j p hp (by omega)
    have hx2 := (isFun_true hf).2.2 _ ho
    obtain ⟨m, hm⟩ : ∃ m, m = k ||| p := ⟨_, rfl⟩
    rw [← hm] at hor ho hx2
    have g2 := hc m (by omega)
    have hst : gainL xs k j = xs.getD m 0 - xs.getD k 0 := by rw [hm, hp]; rfl
    have hm0 : (0 : Int) ≤ m := by omega
    have hm1 : (m : Int) < (n : Int) := by omega
    obtain ⟨x, hx⟩ : ∃ x, x = xs.getD k 0 := ⟨_, rfl⟩
    obtain ⟨y, hy⟩ : ∃ y, y = xs.getD m 0 := ⟨_, rfl⟩
    rw [← hx] at g1 hx1 hst
    rw [← hy] at g2 hx2 hst
    have hw : IntKind.i64.wrap (y - x) = y - x := IntWalk.i64_in _ (by omega)
    have HST := Lib.hid hst
    clear hst hx hy hm hp hc hf hl hp5
    go_wp2_with fail
    go_quiet (fail)
    go_wp2
    go_ret
    exact ⟨ret_int HST.out.symm, below_drewN bel _⟩
set_option maxRecDepth 20000 in
set_option maxHeartbeats 1000000 in
theorem c_impl_GainOf (e0 : Int) (a : Option Addr) (n c : Nat) (xs : List Int) (s j : Int) (w : World) (h : Row .i64 w a n xs) (hn : n ≤ 1048576) :
    Calls Tryz.prog 17 #[.agg #[.int .i64 e0, .slice a n c], .int .i64 s, .int .i64 j] w fun e w' => e = .returned (.int .i64 (gainR e0 xs s j)) ∧ Below w.heap.size w w' := by
  have hb := (Below.refl w.heap.size w).alloc (Nat.le_refl _) (.cells #[.int .i64 e0, .slice a n c] 26)
  have f := FBox.new w 26 e0 a n c
  cases hf : isFun e0 xs with
  | false =>
    have hr : gainR e0 xs s j = -9999 := by simp [gainR, hf]
    rw [hr]
    clear hr
    go_enter Tryz.func17, Tryz.ntmps17
    go_wp2_with fail
    refine (c_impl_IsFunction _ _ _ _ _ _ (h.alloc _) hn).mono ?_
    rw [hf]
    rintro e w1 ⟨rfl, hb1⟩
    go_wp2
    go_ret
    exact ⟨rfl, hb.trans (hb1.mono hb.size)⟩
  | true =>
   have hq := (isFun_true hf).1
   have hlen := (isFun_true hf).2.1
   have hl := h.len
   have hle := isFun_le hf
   cases hs : isSet e0 s with
   | false =>
    have hr : gainR e0 xs s j = -9999 := by simp [gainR, hs]
    rw [hr]
    clear hr hlen
    go_enter Tryz.func17, Tryz.ntmps17
    go_wp2_with fail
    refine (c_impl_IsFunction _ _ _ _ _ _ (h.alloc _) hn).mono ?_
    rw [hf]
    rintro e w1 ⟨rfl, hb1⟩
    have bel := hb.trans (hb1.mono hb.size)
    have f1 := f.below hb1
    have k0 := f1.c0
    have k1 := f1.c1
    clear f hb hb1
    go_wp2_with fail
    refine (c_isSetOf _ _ _ (by omega) (by omega)).mono ?_
    rintro e w' ⟨rfl, rfl⟩
    rw [hs]
    go_wp2
    go_ret
    exact ⟨rfl, bel⟩
   | true =>
    obtain ⟨s0, s1⟩ := isSet_true.1 hs
    obtain ⟨k, rfl⟩ := Int.eq_ofNat_of_zero_le s0
    have hk : k < xs.length := isSet_lt hlen s1
    cases he : inB j 0 (e0 - 1) with
    | false =>
     have hr : gainR e0 xs (k : Int) j = -9999 := by simp [gainR, he]
     rw [hr]
     clear hr hlen s1
     go_enter Tryz.func17, Tryz.ntmps17
     go_wp2_with fail
     refine (c_impl_IsFunction _ _ _ _ _ _ (h.alloc _) hn).mono ?_
     rw [hf]
     rintro e w1 ⟨rfl, hb1⟩
     have bel := hb.trans (hb1.mono hb.size)
     have f1 := f.below hb1
     have k0 := f1.c0
     have k1 := f1.c1
     clear f hb hb1
     go_wp2_with fail
     refine (c_isSetOf _ _ _ (by omega) (by omega)).mono ?_
     rintro e w' ⟨rfl, rfl⟩
     rw [hs]
     go_wp2_with fail
     refine (c_isElement _ _ _ (by omega) (by omega)).mono ?_
     rintro e w' ⟨rfl, rfl⟩
     rw [he]
     go_wp2
     go_ret
     exact ⟨rfl, bel⟩
    | true =>
    obtain ⟨j0, j1⟩ := inB_true.1 he
    obtain ⟨j, rfl⟩ := Int.eq_ofNat_of_zero_le j0
    have hj : (j : Int) < e0 := by omega
    have hr : gainR e0 xs (k : Int) (j : Int) = gainL xs k j := by simp [gainR, hs, hf, he]
    rw [hr]
    clear hr hlen s1
    go_enter Tryz.func17, Tryz.ntmps17
    go_wp2_with fail
    refine (c_impl_IsFunction _ _ _ _ _ _ (h.alloc _) hn).mono ?_
    rw [hf]
    rintro e w1 ⟨rfl, hb1⟩
    have bel := hb.trans (hb1.mono hb.size)
    have f1 := f.below hb1
    have k0 := f1.c0
    have k1 := f1.c1
    clear f hb hb1
    go_wp2_with fail
    refine (c_isSetOf _ _ _ (by omega) (by omega)).mono ?_
    rintro e w' ⟨rfl, rfl⟩
    rw [hs]
    go_wp2_with fail
    refine (c_isElement _ _ _ (by omega) (by omega)).mono ?_
    rintro e w' ⟨rfl, rfl⟩
    rw [he]
    go_wp2_with fail
    refine (c_gain _ _ _ _ _ _ _ _ (h.below bel) hf hk hj).mono ?_
    rintro e w2 ⟨rfl, hb2⟩
    go_wp2
    go_ret
    exact ⟨rfl, bel.trans (hb2.mono bel.size)⟩
set_option maxRecDepth 20000 in
set_option maxHeartbeats 400000 in
theorem c_l2Same (a b : Option Addr) (n m c d : Nat) (xs ys : List Int) (w : World) (hx : Row .i64 w a n xs) (hy : Row .i64 w b m ys) (hn : n ≤ 1048576) (hm : m ≤ 1048576) :
    Calls Tryz.prog 42 #[.slice a n c, .slice b m d] w fun e w' => e = .returned (.bool (eqL xs ys)) ∧ ∃ q, w' = w.drewN q := by
  obtain ⟨hl, hrow⟩ := hx
  obtain ⟨hl', hrow'⟩ := hy
  subst hl hl'
  by_cases hne : xs.length = ys.length
  · have hq : ((xs.length : Int) != (ys.length : Int)) = false := by rw [bne_eq_false_iff_eq]; omega
    have HN := Lib.hid hne; clear hne
    go_enter Tryz.func42, Tryz.ntmps42
    go_wp2
    go_loopw [5] (fun i wr => ∃ k : Nat, i = .int .i64 k ∧ k ≤ xs.length ∧ (∀ j, j < k → xs.getD j 0 = ys.getD j 0) ∧ ∃ q, wr = w.drewN q) (fun i _ => xs.length - (intOf i).toNat)
    case atStart => exact ⟨0, rfl, Nat.zero_le _, fun j hj => by omega, 0, rfl⟩
    case round =>
      obtain ⟨k, rfl, hk, hall, q, rfl⟩ := hrel
      have HA := Lib.hid hall; clear hall
      by_cases hlt : k < xs.length
      · have hlt' : k < ys.length := by have := HN.out; omega
        obtain ⟨b1, off1, rfl, hb1, hc1⟩ := hrow (by omega)
        obtain ⟨b2, off2, rfl, hb2, hc2⟩ := hrow' (by omega)
        have g1 : w.cell? ⟨b1, off1 + k, none⟩ = some (.int .i64 (xs.getD k 0)) := hc1 k hlt
        have g2 : w.cell? ⟨b2, off2 + k, none⟩ = some (.int .i64 (ys.getD k 0)) := hc2 k hlt'
        have hi0 : (0 : Int) ≤ k := by omega
        have hi1 : (k : Int) < (xs.length : Int) := by omega
        have hi2 : (k : Int) < (ys.length : Int) := by omega
        clear hc1 hc2 hrow hrow'
        obtain ⟨x, hx⟩ : ∃ x, x = xs.getD k 0 := ⟨_, rfl⟩
        obtain ⟨y, hy⟩ : ∃ y, y = ys.getD k 0 := ⟨_, rfl⟩
        rw [← hx] at g1
        rw [← hy] at g2
        by_cases heq : x = y
        · have ht : (x != y) = false := by rw [bne_eq_false_iff_eq]; exact heq
          have HE := Lib.hid (hx.symm.trans (heq.trans hy))
          clear hx hy heq
          go_wp2_with fail
          go_quiet (fail)
          go_wp2
          go_roundw
          case rel =>
            refine ⟨k + 1, by go_num, by omega, fun j hj => ?_, by first | exact ⟨_, rfl⟩ | exact drewN_ex _ _ _⟩
            rcases Nat.lt_or_eq_of_le (Nat.le_of_lt_succ hj) with h | rfl
            · exact HA.out j h
            · exact HE.out
          case measure => simp [intOf]; omega
        · have ht : (x != y) = true := by rw [bne_iff_ne]; exact heq
          have hf := eqL_false_of (xs := xs) (ys := ys) k (by rw [← hx, ← hy]; exact heq)
          have HF := Lib.hid hf; clear hf heq hx hy
          go_wp2_with fail
          go_quiet (fail)
          go_wp2
          go_ret
          exact ⟨ret_bool HF.out.symm, drewN_ex _ _ _⟩
      · have hf : eqL xs ys = true := eqL_of_getD HN.out (fun j hj => HA.out j (by omega))
        have HF := Lib.hid hf; clear hf
        go_wp2
        go_ret
        exact ⟨ret_bool HF.out.symm, _, rfl⟩
  · have hq : ((xs.length : Int) != (ys.length : Int)) = true := by rw [bne_iff_ne]; omega
    have hf := eqL_false_len hne
    have HF := Lib.hid hf; clear hf hne
    go_enter Tryz.func42, Tryz.ntmps42
    go_wp2
    go_ret
    exact ⟨ret_bool HF.out.symm, 0, rfl⟩
set_option maxRecDepth 20000 in
set_option maxHeartbeats 400000 in
theorem c_slicesEqual (a b : Option Addr) (n m c d : Nat) (xs ys : List Int) (w : World) (hx : Row .i64 w a n xs) (hy : Row .i64 w b m ys) (hn : n ≤ 1048576) (hm : m ≤ 1048576) :
    Calls Tryz.prog 66 #[.slice a n c, .slice b m d] w fun e w' => e = .returned (.bool (eqL xs ys)) ∧ ∃ q, w' = w.drewN q := by
  obtain ⟨hl, hrow⟩ := hx
  obtain ⟨hl', hrow'⟩ := hy
  subst hl hl'
  by_cases hne : xs.length = ys.length
  · have hq : ((xs.length : Int) != (ys.length : Int)) = false := by rw [bne_eq_false_iff_eq]; omega
    have HN := Lib.hid hne; clear hne
    go_enter Tryz.func66, Tryz.ntmps66
    go_wp2
    go_loopw [13] (fun i wr => ∃ k : Nat, i = .int .i64 k ∧ k ≤ xs.length ∧ (∀ j, j < k → xs.getD j 0 = ys.getD j 0) ∧ ∃ q, wr = w.drewN q) (fun i _ => xs.length - (intOf i).toNat)
    case atStart => exact ⟨0, rfl, Nat.zero_le _, fun j hj => by omega, 0, rfl⟩
    case round =>
      obtain ⟨k, rfl, hk, hall, q, rfl⟩ := hrel
      have HA := Lib.hid hall; clear hall
      by_cases hlt : k < xs.length
      · have hlt' : k < ys.length := by have := HN.out; omega
        obtain ⟨b1, off1, rfl, hb1, hc1⟩ := hrow (by omega)
        obtain ⟨b2, off2, rfl, hb2, hc2⟩ := hrow' (by omega)
        have g1 : w.cell? ⟨b1, off1 + k, none⟩ = some (.int .i64 (xs.getD k 0)) := hc1 k hlt
        have g2 : w.cell? ⟨b2, off2 + k, none⟩ = some (.int .i64 (ys.getD k 0)) := hc2 k hlt'
        have hi0 : (0 : Int) ≤ k := by omega
        have hi1 : (k : Int) < (xs.length : Int) := by omega
        have hi2 : (k : Int) < (ys.length : Int) := by omega
        clear hc1 hc2 hrow hrow'
        obtain ⟨x, hx⟩ : ∃ x, x = xs.getD k 0 := ⟨_, rfl⟩
        obtain ⟨y, hy⟩ : ∃ y, y = ys.getD k 0 := ⟨_, rfl⟩
        rw [← hx] at g1
        rw [← hy] at g2
        by_cases heq : x = y
        · have ht : (x != y) = false := by rw [bne_eq_false_iff_eq]; exact heq
          have HE := Lib.hid (hx.symm.trans (heq.trans hy))
          clear hx hy heq
          go_wp2_with fail
          go_quiet (fail)
          go_wp2
          go_roundw
          case rel =>
            refine ⟨k + 1, by go_num, by omega, fun j hj => ?_, by first | exact ⟨_, rfl⟩ | exact drewN_ex _ _ _⟩
            rcases Nat.lt_or_eq_of_le (Nat.le_of_lt_succ hj) with h | rfl
            · exact HA.out j h
            · exact HE.out
          case measure => simp [intOf]; omega
        · have ht : (x != y) = true := by rw [bne_iff_ne]; exact heq
          have hf := eqL_false_of (xs := xs) (ys := ys) k (by rw [← hx, ← hy]; exact heq)
          have HF := Lib.hid hf; clear hf heq hx hy
          go_wp2_with fail
          go_quiet (fail)
          go_wp2
          go_ret
          exact ⟨ret_bool HF.out.symm, drewN_ex _ _ _⟩
      · have hf : eqL xs ys = true := eqL_of_getD HN.out (fun j hj => HA.out j (by omega))
        have HF := Lib.hid hf; clear hf
        go_wp2
        go_ret
        exact ⟨ret_bool HF.out.symm, _, rfl⟩
  · have hq : ((xs.length : Int) != (ys.length : Int)) = true := by rw [bne_iff_ne]; omega
    have hf := eqL_false_len hne
    have HF := Lib.hid hf; clear hf hne
    go_enter Tryz.func66, Tryz.ntmps66
    go_wp2
    go_ret
    exact ⟨ret_bool HF.out.symm, 0, rfl⟩
set_option maxRecDepth 20000 in
set_option maxHeartbeats 400000 in
theorem c_spec_EqualFunctions (e0 : Int) (a : Option Addr) (n c : Nat) (xs : List Int) (e1 : Int) (b : Option Addr) (m d : Nat) (ys : List Int) (w : World) (h : Row .i64 w a n xs) (hn : n ≤ 1048576) (h' : Row .i64 w b m ys) (hm : m ≤ 1048576) :
    Calls Tryz.prog 8 #[.agg #[.int .i64 e0, .slice a n c], .agg #[.int .i64 e1, .slice b m d]] w fun e w' => e = .returned (.bool (sameF e0 xs e1 ys)) ∧ Below w.heap.size w w' := by
  have hb := ((Below.refl w.heap.size w).alloc (Nat.le_refl _) (.cells #[.int .i64 e0, .slice a n c] 26)).alloc (by simp) (.cells #[.int .i64 e1, .slice b m d] 26)
  by_cases he : e0 = e1
  · have hq : (e0 == e1) = true := by rw [beq_iff_eq]; exact he
    have hr : sameF e0 xs e1 ys = eqL xs ys := by simp [sameF, he]
    rw [hr]
    clear he hr
    go_enter Tryz.func8, Tryz.ntmps8
    go_wp2_with fail
    refine (c_l2Same _ _ _ _ _ _ _ _ _ ((h.alloc _).alloc _) ((h'.alloc _).alloc _) hn hm).mono ?_
    rintro e w' ⟨rfl, q, rfl⟩
    go_wp2_with fail
    go_ret
    exact ⟨rfl, below_drewN hb _⟩
  · have hq : (e0 == e1) = false := by rw [beq_eq_false_iff_ne]; exact he
    have hr : sameF e0 xs e1 ys = false := by simp [sameF, he]
    rw [hr]
    clear he hr
    go_enter Tryz.func8, Tryz.ntmps8
    go_wp2_with fail
    go_ret
    exact ⟨rfl, hb⟩
set_option maxRecDepth 20000 in
set_option maxHeartbeats 400000 in
theorem c_impl_EqualFunctions (e0 : Int) (a : Option Addr) (n c : Nat) (xs : List Int) (e1 : Int) (b : Option Addr) (m d : Nat) (ys : List Int) (w : World) (h : Row .i64 w a n xs) (hn : n ≤ 1048576) (h' : Row .i64 w b m ys) (hm : m ≤ 1048576) :
    Calls Tryz.prog 32 #[.agg #[.int .i64 e0, .slice a n c], .agg #[.int .i64 e1, .slice b m d]] w fun e w' => e = .returned (.bool (sameF e0 xs e1 ys)) ∧ Below w.heap.size w w' := by
  have hb := ((Below.refl w.heap.size w).alloc (Nat.le_refl _) (.cells #[.int .i64 e0, .slice a n c] 26)).alloc (by simp) (.cells #[.int .i64 e1, .slice b m d] 26)
  by_cases he : e0 = e1
  · have hq : (e0 == e1) = true := by rw [beq_iff_eq]; exact he
    have hr : sameF e0 xs e1 ys = eqL xs ys := by simp [sameF, he]
    rw [hr]
    clear he hr
    go_enter Tryz.func32, Tryz.ntmps32
    go_wp2_with fail
    refine (c_slicesEqual _ _ _ _ _ _ _ _ _ ((h.alloc _).alloc _) ((h'.alloc _).alloc _) hn hm).mono ?_
    rintro e w' ⟨rfl, q, rfl⟩
    go_wp2_with fail
    go_ret
    exact ⟨rfl, below_drewN hb _⟩
  · have hq : (e0 == e1) = false := by rw [beq_eq_false_iff_ne]; exact he
    have hr : sameF e0 xs e1 ys = false := by simp [sameF, he]
    rw [hr]
    clear he hr
    go_enter Tryz.func32, Tryz.ntmps32
    go_wp2_with fail
    go_ret
    exact ⟨rfl, hb⟩
end Go.Proofs.YtfcgijnfiiaepaaGreatDoor
