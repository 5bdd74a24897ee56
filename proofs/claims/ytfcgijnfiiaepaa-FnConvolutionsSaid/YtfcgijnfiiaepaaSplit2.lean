/- Contracts of SplitOf, both packages, and of l5In. -/
import Derived.Test.YtfcgijnfiiaepaaSplit
namespace Go.Proofs.Ytfcgijnfiiaepaa
set_option linter.unusedSimpArgs false
set_option linter.unusedVariables false
open Go.RowKit

def in5 (n : Int) (xs : List Int) (s : Int) : Bool := isFun n xs && isSet n s
set_option maxHeartbeats 400000 in
theorem c_l5In (e0 : Int) (a : Option Addr) (n c : Nat) (xs : List Int) (s : Int) (w : World) (h : Row .i64 w a n xs) (hn : n ≤ 1048576) :
    Calls Try.prog 55 #[.agg #[.int .i64 e0, .slice a n c], .int .i64 s] w fun e w' => e = .returned (.bool (in5 e0 xs s)) ∧ Below w.heap.size w w' := by
  have bel := (Below.refl w.heap.size w).alloc (Nat.le_refl _) (.cells #[.int .i64 e0, .slice a n c] 26)
  have f := FBox.new w 26 e0 a n c
  cases hf : isFun e0 xs with
  | false =>
    have hr : in5 e0 xs s = false := by simp [in5, hf]
    rw [hr]
    clear hr
    go_enter Try.func55, Try.ntmps55
    go_wp2_with fail
    refine (c_spec_IsFunction _ _ _ _ _ _ (h.alloc _) hn).mono ?_
    rw [hf]
    rintro e w1 ⟨rfl, hb1⟩
    go_wp2
    go_ret
    exact ⟨rfl, bel.trans (hb1.mono bel.size)⟩
  | true =>
    have hq := (isFun_true hf).1
    have hr : in5 e0 xs s = isSet e0 s := by simp [in5, hf]
    rw [hr]
    clear hr
    go_enter Try.func55, Try.ntmps55
    go_wp2_with fail
    refine (c_spec_IsFunction _ _ _ _ _ _ (h.alloc _) hn).mono ?_
    rw [hf]
    rintro e w1 ⟨rfl, hb1⟩
    replace bel := bel.trans (hb1.mono bel.size)
    have k0 := (f.below hb1).c0
    go_wp2_with fail
    refine (c_l2Full _ _ (by omega) (by omega)).mono ?_
    rintro e w' ⟨rfl, rfl⟩
    go_wp2_with fail
    refine (c_l1In _ _ _ _).mono ?_
    rintro e w' ⟨rfl, rfl⟩
    rw [inB_full]
    go_wp2
    go_ret
    exact ⟨rfl, bel⟩
def splitB (n : Int) (xs : List Int) (m : Int) (ys : List Int) (s : Int) : Bool := alikeB n xs m ys && isSet n s
/-- What SplitOf returns. -/
def splitR (n : Int) (xs : List Int) (m : Int) (ys : List Int) (s : Int) : Int := if splitB n xs m ys s then (splitTo xs ys s.toNat s.toNat : Int) else 0
set_option maxHeartbeats 1000000 in
theorem c_spec_SplitOf (e0 : Int) (a : Option Addr) (n c : Nat) (xs : List Int) (e1 : Int) (b : Option Addr) (m d : Nat) (ys : List Int) (s : Int) (w : World) (h : Row .i64 w a n xs) (hn : n ≤ 1048576) (h' : Row .i64 w b m ys) (hm : m ≤ 1048576) :
    Calls Try.prog 49 #[.agg #[.int .i64 e0, .slice a n c], .agg #[.int .i64 e1, .slice b m d], .int .i64 s] w fun e w' => e = .returned (.tuple #[.int .i64 (splitR e0 xs e1 ys s), .bool (splitB e0 xs e1 ys s)]) ∧ Below w.heap.size w w' := by
  have bel := ((Below.refl w.heap.size w).alloc (Nat.le_refl _) (.cells #[.int .i64 e0, .slice a n c] 26)).alloc (by simp) (.cells #[.int .i64 e1, .slice b m d] 26)
  have f0 := (FBox.new w 26 e0 a n c).alloc (.cells #[.int .i64 e1, .slice b m d] 26)
  have f1 := FBox.new (w.alloc (.cells #[.int .i64 e0, .slice a n c] 26)) 26 e1 b m d
  rw [World.size_alloc] at f1
  cases hT : alikeB e0 xs e1 ys with
  | false =>
    have hB : splitB e0 xs e1 ys s = false := by simp [splitB, hT]
    have hR : splitR e0 xs e1 ys s = 0 := by simp [splitR, hB]
    rw [hB, hR]
    clear hB hR
    go_enter Try.func49, Try.ntmps49
    go_wp2_with fail
    refine (c_l6Fit _ _ _ _ _ _ _ _ _ _ _ ((h.alloc _).alloc _) hn ((h'.alloc _).alloc _) hm).mono ?_
    rw [hT]
    rintro e w1 ⟨rfl, hb1⟩
    go_wp2
    go_ret2
    exact ⟨rfl, bel.trans (hb1.mono bel.size)⟩
  | true =>
    obtain ⟨hf, hg, he⟩ := alike_true hT
    subst he
    have hq := (isFun_true hf).1
    have hnm : n = m := h.len.symm.trans ((isFun_true hf).2.1.trans ((isFun_true hg).2.1.symm.trans h'.len))
    subst hnm
    cases hs : isSet e0 s with
    | false =>
      have hB : splitB e0 xs e0 ys s = false := by simp [splitB, hs]
      have hR : splitR e0 xs e0 ys s = 0 := by simp [splitR, hB]
      rw [hB, hR]
      clear hB hR
      go_enter Try.func49, Try.ntmps49
      go_wp2_with fail
      refine (c_l6Fit _ _ _ _ _ _ _ _ _ _ _ ((h.alloc _).alloc _) hn ((h'.alloc _).alloc _) hm).mono ?_
      rw [hT]
      rintro e w1 ⟨rfl, hb1⟩
      replace bel := bel.trans (hb1.mono bel.size)
      replace f0 := f0.below hb1
      replace f1 := f1.below hb1
      have k00 := f0.c0
      have k01 := f0.c1
      have k10 := f1.c0
      have k11 := f1.c1
      go_wp2_with fail
      refine (c_l5In _ _ _ _ _ _ _ (h.below bel) hn).mono ?_
      rw [show in5 e0 xs s = isSet e0 s by simp [in5, hf], hs]
      rintro e w2 ⟨rfl, hb2⟩
      replace bel := bel.trans (hb2.mono bel.size)
      replace f0 := f0.below hb2
      replace f1 := f1.below hb2
      replace k00 := f0.c0
      replace k01 := f0.c1
      replace k10 := f1.c0
      replace k11 := f1.c1
      go_wp2
      go_ret2
      exact ⟨rfl, bel⟩
    | true =>
      obtain ⟨s0, s1⟩ := isSet_true.1 hs
      obtain ⟨k, rfl⟩ := Int.eq_ofNat_of_zero_le s0
      have hk : k < n := by have := isSet_lt (isFun_true hf).2.1 s1; rwa [h.len] at this
      have hB : splitB e0 xs e0 ys (k : Int) = true := by simp [splitB, hs, hT]
      have hR : splitR e0 xs e0 ys (k : Int) = (splitTo xs ys k k : Int) := by simp [splitR, hB]
      rw [hB, hR]
      clear hB hR s1
      go_enter Try.func49, Try.ntmps49
      go_wp2_with fail
      refine (c_l6Fit _ _ _ _ _ _ _ _ _ _ _ ((h.alloc _).alloc _) hn ((h'.alloc _).alloc _) hm).mono ?_
      rw [hT]
      rintro e w1 ⟨rfl, hb1⟩
      replace bel := bel.trans (hb1.mono bel.size)
      replace f0 := f0.below hb1
      replace f1 := f1.below hb1
      have k00 := f0.c0
      have k01 := f0.c1
      have k10 := f1.c0
      have k11 := f1.c1
      go_wp2_with fail
      refine (c_l5In _ _ _ _ _ _ _ (h.below bel) hn).mono ?_
      rw [show in5 e0 xs (k : Int) = isSet e0 (k : Int) by simp [in5, hf], hs]
      rintro e w2 ⟨rfl, hb2⟩
      replace bel := bel.trans (hb2.mono bel.size)
      replace f0 := f0.below hb2
      replace f1 := f1.below hb2
      replace k00 := f0.c0
      replace k01 := f0.c1
      replace k10 := f1.c0
      replace k11 := f1.c1
      go_wp2_with fail
      refine (c_l6Split _ _ _ _ _ _ _ _ _ _ _ (h.below bel) (h'.below bel) hf hg hk).mono ?_
      rintro e w3 ⟨rfl, hb3⟩
      go_wp2
      go_ret2
      exact ⟨rfl, bel.trans (hb3.mono bel.size)⟩
set_option maxHeartbeats 1000000 in
theorem c_impl_SplitOf (e0 : Int) (a : Option Addr) (n c : Nat) (xs : List Int) (e1 : Int) (b : Option Addr) (m d : Nat) (ys : List Int) (s : Int) (w : World) (h : Row .i64 w a n xs) (hn : n ≤ 1048576) (h' : Row .i64 w b m ys) (hm : m ≤ 1048576) :
    Calls Try.prog 36 #[.agg #[.int .i64 e0, .slice a n c], .agg #[.int .i64 e1, .slice b m d], .int .i64 s] w fun e w' => e = .returned (.tuple #[.int .i64 (splitR e0 xs e1 ys s), .bool (splitB e0 xs e1 ys s)]) ∧ Below w.heap.size w w' := by
  have bel := ((Below.refl w.heap.size w).alloc (Nat.le_refl _) (.cells #[.int .i64 e0, .slice a n c] 26)).alloc (by simp) (.cells #[.int .i64 e1, .slice b m d] 26)
  have f0 := (FBox.new w 26 e0 a n c).alloc (.cells #[.int .i64 e1, .slice b m d] 26)
  have f1 := FBox.new (w.alloc (.cells #[.int .i64 e0, .slice a n c] 26)) 26 e1 b m d
  rw [World.size_alloc] at f1
  cases hT : alikeB e0 xs e1 ys with
  | false =>
    have hB : splitB e0 xs e1 ys s = false := by simp [splitB, hT]
    have hR : splitR e0 xs e1 ys s = 0 := by simp [splitR, hB]
    rw [hB, hR]
    clear hB hR
    go_enter Try.func36, Try.ntmps36
    go_wp2_with fail
    refine (c_areAlike _ _ _ _ _ _ _ _ _ _ _ ((h.alloc _).alloc _) hn ((h'.alloc _).alloc _) hm).mono ?_
    rw [hT]
    rintro e w1 ⟨rfl, hb1⟩
    go_wp2
    go_ret2
    exact ⟨rfl, bel.trans (hb1.mono bel.size)⟩
  | true =>
    obtain ⟨hf, hg, he⟩ := alike_true hT
    subst he
    have hq := (isFun_true hf).1
    have hnm : n = m := h.len.symm.trans ((isFun_true hf).2.1.trans ((isFun_true hg).2.1.symm.trans h'.len))
    subst hnm
    cases hs : isSet e0 s with
    | false =>
      have hB : splitB e0 xs e0 ys s = false := by simp [splitB, hs]
      have hR : splitR e0 xs e0 ys s = 0 := by simp [splitR, hB]
      rw [hB, hR]
      clear hB hR
      go_enter Try.func36, Try.ntmps36
      go_wp2_with fail
      refine (c_areAlike _ _ _ _ _ _ _ _ _ _ _ ((h.alloc _).alloc _) hn ((h'.alloc _).alloc _) hm).mono ?_
      rw [hT]
      rintro e w1 ⟨rfl, hb1⟩
      replace bel := bel.trans (hb1.mono bel.size)
      replace f0 := f0.below hb1
      replace f1 := f1.below hb1
      have k00 := f0.c0
      have k01 := f0.c1
      have k10 := f1.c0
      have k11 := f1.c1
      go_wp2_with fail
      refine (c_isSetOf _ _ _ (by omega) (by omega)).mono ?_
      rintro e w' ⟨rfl, rfl⟩
      rw [hs]
      go_wp2
      go_ret2
      exact ⟨rfl, bel⟩
    | true =>
      obtain ⟨s0, s1⟩ := isSet_true.1 hs
      obtain ⟨k, rfl⟩ := Int.eq_ofNat_of_zero_le s0
      have hk : k < n := by have := isSet_lt (isFun_true hf).2.1 s1; rwa [h.len] at this
      have hB : splitB e0 xs e0 ys (k : Int) = true := by simp [splitB, hs, hT]
      have hR : splitR e0 xs e0 ys (k : Int) = (splitTo xs ys k k : Int) := by simp [splitR, hB]
      rw [hB, hR]
      clear hB hR s1
      go_enter Try.func36, Try.ntmps36
      go_wp2_with fail
      refine (c_areAlike _ _ _ _ _ _ _ _ _ _ _ ((h.alloc _).alloc _) hn ((h'.alloc _).alloc _) hm).mono ?_
      rw [hT]
      rintro e w1 ⟨rfl, hb1⟩
      replace bel := bel.trans (hb1.mono bel.size)
      replace f0 := f0.below hb1
      replace f1 := f1.below hb1
      have k00 := f0.c0
      have k01 := f0.c1
      have k10 := f1.c0
      have k11 := f1.c1
      go_wp2_with fail
      refine (c_isSetOf _ _ _ (by omega) (by omega)).mono ?_
      rintro e w' ⟨rfl, rfl⟩
      rw [hs]
      go_wp2_with fail
      refine (c_leastSplit _ _ _ _ _ _ _ _ _ _ _ (h.below bel) (h'.below bel) hf hg hk).mono ?_
      rintro e w3 ⟨rfl, hb3⟩
      go_wp2
      go_ret2
      exact ⟨rfl, bel.trans (hb3.mono bel.size)⟩
end Go.Proofs.Ytfcgijnfiiaepaa
