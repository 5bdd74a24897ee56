/- Contracts of the functions that read a function of sets: IsGrounded, ValueOf, GainOf, EqualFunctions. -/
import Derived.Test.YthiokplkimdojaaFun
namespace Go.Proofs.Ythiokplkimdojaa
set_option linter.unusedSimpArgs false
set_option linter.unusedVariables false
open Go.RowKit

theorem isFun_pos {n : Int} {xs : List Int} (h : isFun n xs = true) : 0 < xs.length := by
  rw [(isFun_true h).2.1]; exact Nat.pow_pos (by decide)
theorem isFun_le {n : Int} {xs : List Int} (h : isFun n xs = true) : xs.length ≤ 32 := by
  obtain ⟨⟨h0, h1⟩, hl, _⟩ := isFun_true h
  have : n.toNat = 0 ∨ n.toNat = 1 ∨ n.toNat = 2 ∨ n.toNat = 3 ∨ n.toNat = 4 ∨ n.toNat = 5 := by omega
  rcases this with h | h | h | h | h | h <;> rw [h] at hl <;> omega
theorem isSet_lt {n : Int} {xs : List Int} {k : Nat} (hl : xs.length = 2 ^ n.toNat) (h : (k : Int) < 2 ^ n.toNat) : k < xs.length := by
  rw [hl]; exact_mod_cast h
theorem two_pow_lt5 (j : Nat) (h : j < 5) : 2 ^ j ≤ 16 := by
  have : j = 0 ∨ j = 1 ∨ j = 2 ∨ j = 3 ∨ j = 4 := by omega
  rcases this with rfl | rfl | rfl | rfl | rfl <;> decide
theorem or_lt {n : Int} {xs : List Int} {k j : Nat} (h : isFun n xs = true) (hk : k < xs.length) (hj : (j : Int) < n) : k ||| 2 ^ j < xs.length := by
  obtain ⟨⟨h0, h1⟩, hl, _⟩ := isFun_true h
  rw [hl] at hk ⊢
  exact Nat.or_lt_two_pow hk (Nat.pow_lt_pow_right (by decide) (by omega))
/-- A shift of 1 by a small count, in the walk's forms. -/
theorem shl_facts (j p : Nat) (hp : p = 2 ^ j) (hj : j < 60) : IntKind.u64.wrap (j : Int) = j ∧ IntKind.i64.wrap (2 ^ j) = (p : Int) ∧ wrap64 (2 ^ j) = (p : Int) := by
  have hlt : p < 2 ^ 60 := by rw [hp]; exact Nat.pow_lt_pow_right (by decide) hj
  have hc : (2 : Int) ^ j = (p : Int) := by rw [hp]; push_cast; rfl
  have hw : IntKind.i64.wrap (p : Int) = p := IntWalk.i64_in _ (by omega)
  refine ⟨IntWalk.u64_in _ (by omega), ?_, ?_⟩
  · rw [hc, hw]
  · rw [hc]; exact IntWalk.wrap64_in _ (by omega)
/-- What IsGrounded returns. -/
def groundB (n : Int) (xs : List Int) : Bool := isFun n xs && (xs.getD 0 0 == 0)
/-- What ValueOf returns. -/
def valR (n : Int) (xs : List Int) (s : Int) : Int := if isFun n xs && isSet n s then xs.getD s.toNat 0 else -9999
/-- What an element adds to a set. -/
def gainL (xs : List Int) (k e : Nat) : Int := xs.getD (k ||| 2 ^ e) 0 - xs.getD k 0
/-- What GainOf returns. -/
def gainR (n : Int) (xs : List Int) (s e : Int) : Int := if isFun n xs && isSet n s && inB e 0 (n - 1) then gainL xs s.toNat e.toNat else -9999
/-- What EqualFunctions returns. -/
def sameF (n : Int) (xs : List Int) (m : Int) (ys : List Int) : Bool := decide (n = m) && eqL xs ys
set_option maxHeartbeats 400000 in
theorem c_spec_IsGrounded (e0 : Int) (a : Option Addr) (n c : Nat) (xs : List Int) (w : World) (h : Row .i64 w a n xs) (hn : n ≤ 1048576) :
    Calls Try.prog 96 #[.agg #[.int .i64 e0, .slice a n c]] w fun e w' => e = .returned (.bool (groundB e0 xs)) ∧ Below w.heap.size w w' := by
  have hb := (Below.refl w.heap.size w).alloc (Nat.le_refl _) (.cells #[.int .i64 e0, .slice a n c] 27)
  have f := FBox.new w 27 e0 a n c
  cases hf : isFun e0 xs with
  | false =>
    have hr : groundB e0 xs = false := by simp [groundB, hf]
    rw [hr]
    clear hr
    go_enter Try.func96, Try.ntmps96
    go_wp2_with fail
    refine (c_spec_IsFunction _ _ _ _ _ _ (h.alloc _) hn).mono ?_
    rw [hf]
    rintro e w1 ⟨rfl, hb1⟩
    go_wp2
    go_ret
    exact ⟨rfl, hb.trans (hb1.mono hb.size)⟩
  | true =>
    have hr : groundB e0 xs = (xs.getD 0 0 == 0) := by simp [groundB, hf]
    rw [hr]
    have hp := isFun_pos hf
    have hl := h.len
    have hp' : 0 < n := by omega
    clear hr
    go_enter Try.func96, Try.ntmps96
    go_wp2_with fail
    refine (c_spec_IsFunction _ _ _ _ _ _ (h.alloc _) hn).mono ?_
    rw [hf]
    rintro e w1 ⟨rfl, hb1⟩
    have bel := hb.trans (hb1.mono hb.size)
    have f1 := f.below hb1
    have k0 := f1.c0
    have k1 := f1.c1
    clear f hb hb1
    obtain ⟨b, off, rfl, hlt, hc⟩ := (h.below bel).at_ hp'
    have g : w1.cell? ⟨b, off + 0, none⟩ = some (.int .i64 (xs.getD 0 0)) := hc 0 hp'
    have g' : w1.cell? ⟨b, off, none⟩ = some (.int .i64 (xs.getD 0 0)) := g
    clear hc hl
    obtain ⟨x, hx⟩ : ∃ x, x = xs.getD 0 0 := ⟨_, rfl⟩
    rw [← hx] at g g'
    have HX := Lib.hid hx; clear hx
    go_wp2
    go_ret
    exact ⟨ret_bool (by rw [HX.out]), bel⟩
set_option maxHeartbeats 400000 in
theorem c_impl_IsGrounded (e0 : Int) (a : Option Addr) (n c : Nat) (xs : List Int) (w : World) (h : Row .i64 w a n xs) (hn : n ≤ 1048576) :
    Calls Try.prog 98 #[.agg #[.int .i64 e0, .slice a n c]] w fun e w' => e = .returned (.bool (groundB e0 xs)) ∧ Below w.heap.size w w' := by
  have hb := (Below.refl w.heap.size w).alloc (Nat.le_refl _) (.cells #[.int .i64 e0, .slice a n c] 27)
  have f := FBox.new w 27 e0 a n c
  cases hf : isFun e0 xs with
  | false =>
    have hr : groundB e0 xs = false := by simp [groundB, hf]
    rw [hr]
    clear hr
    go_enter Try.func98, Try.ntmps98
    go_wp2_with fail
    refine (c_impl_IsFunction _ _ _ _ _ _ (h.alloc _) hn).mono ?_
    rw [hf]
    rintro e w1 ⟨rfl, hb1⟩
    go_wp2
    go_ret
    exact ⟨rfl, hb.trans (hb1.mono hb.size)⟩
  | true =>
    have hr : groundB e0 xs = (xs.getD 0 0 == 0) := by simp [groundB, hf]
    rw [hr]
    have hp := isFun_pos hf
    have hl := h.len
    have hp' : 0 < n := by omega
    clear hr
    go_enter Try.func98, Try.ntmps98
    go_wp2_with fail
    refine (c_impl_IsFunction _ _ _ _ _ _ (h.alloc _) hn).mono ?_
    rw [hf]
    rintro e w1 ⟨rfl, hb1⟩
    have bel := hb.trans (hb1.mono hb.size)
    have f1 := f.below hb1
    have k0 := f1.c0
    have k1 := f1.c1
    clear f hb hb1
    obtain ⟨b, off, rfl, hlt, hc⟩ := (h.below bel).at_ hp'
    have g : w1.cell? ⟨b, off + 0, none⟩ = some (.int .i64 (xs.getD 0 0)) := hc 0 hp'
    have g' : w1.cell? ⟨b, off, none⟩ = some (.int .i64 (xs.getD 0 0)) := g
    clear hc hl
    obtain ⟨x, hx⟩ : ∃ x, x = xs.getD 0 0 := ⟨_, rfl⟩
    rw [← hx] at g g'
    have HX := Lib.hid hx; clear hx
    go_wp2
    go_ret
    exact ⟨ret_bool (by rw [HX.out]), bel⟩
theorem c_isElement (n e0 : Int) (w : World) (h0 : 0 ≤ n) (h1 : n ≤ 10) :
    Calls Try.prog 114 #[.int .i64 n, .int .i64 e0] w fun e w' => e = .returned (.bool (inB e0 0 (n - 1))) ∧ w = w' := by
  by_cases h : 0 ≤ e0
  · have e1 : inB e0 0 (n - 1) = decide (e0 < n) := by rw [inB, Bool.eq_iff_iff]; simp; omega
    rw [e1]
    clear e1
    go_enter Try.func114, Try.ntmps114
    go_wp2
    go_ret
    exact ⟨rfl, rfl⟩
  · have e1 : inB e0 0 (n - 1) = false := by simp [inB, h]
    rw [e1]
    clear e1
    go_enter Try.func114, Try.ntmps114
    go_wp2
    go_ret
    exact ⟨rfl, rfl⟩
set_option maxHeartbeats 400000 in
theorem c_gain (e0 : Int) (a : Option Addr) (n c : Nat) (xs : List Int) (k j : Nat) (w : World) (h : Row .i64 w a n xs) (hf : isFun e0 xs = true) (hk : k < xs.length) (hj : (j : Int) < e0) :
    Calls Try.prog 79 #[.agg #[.int .i64 e0, .slice a n c], .int .i64 k, .int .i64 j] w fun e w' => e = .returned (.int .i64 (gainL xs k j)) ∧ Below w.heap.size w w' := by
  have hb := (Below.refl w.heap.size w).alloc (Nat.le_refl _) (.cells #[.int .i64 e0, .slice a n c] 27)
  have hq := (isFun_true hf).1
  have hl := h.len
  have hle := isFun_le hf
  obtain ⟨b, off, rfl, hlt, hc⟩ := h.at_ (by omega)
  have g1 := hc k (by omega)
  have hj0 : (0 : Int) ≤ j := by omega
  have hi0 : (0 : Int) ≤ k := by omega
  have hi1 : (k : Int) < (n : Int) := by omega
  have hx1 := (isFun_true hf).2.2 k hk
  have ho := or_lt hf hk hj
  have hp5 := two_pow_lt5 j (by omega)
  obtain ⟨p, hp⟩ : ∃ p, p = 2 ^ j := ⟨_, rfl⟩
  rw [← hp] at hp5 ho
  have hor := i64_or_nat k p (by omega) (by omega)
  obtain ⟨hz, hs1, hs2⟩ := shl_facts j p hp (by omega)
  have hx2 := (isFun_true hf).2.2 _ ho
  obtain ⟨m, hm⟩ : ∃ m, m = k ||| p := ⟨_, rfl⟩
  rw [← hm] at hor ho hx2
  have g2 := hc m (by omega)
  have hst : gainL xs k j = xs.getD m 0 - xs.getD k 0 := by rw [hm, hp]; rfl
  have hm0 : (0 : Int) ≤ m := by omega
  have hm1 : (m : Int) < (n : Int) := by omega
  obtain ⟨x, hx⟩ : ∃ x, x = xs.getD k 0 := ⟨_, rfl⟩
  obtain ⟨y, hy⟩ : ∃ y, y = xs.getD m 0 := ⟨_, rfl⟩
  rw [← hx] at g1 hx1 hst
  rw [← hy] at g2 hx2 hst
  have hw : IntKind.i64.wrap (y - x) = y - x := IntWalk.i64_in _ (by omega)
  have HST := Lib.hid hst
  clear hst hx hy hm hp hc hf hl hp5

  go_enter Try.func79, Try.ntmps79
  go_wp2_with fail
  go_quiet (fail)
  go_wp2
  go_ret
  exact ⟨ret_int HST.out.symm, below_drewN hb _⟩
end Go.Proofs.Ythiokplkimdojaa
