/- Contracts of IsSupermodular and IsModular, both packages. -/
import Derived.Test.YthiokplkimdojaaScale
import Derived.Test.YthiokplkimdojaaViol2
namespace Go.Proofs.Ythiokplkimdojaa
set_option linter.unusedSimpArgs false
set_option linter.unusedVariables false
open Go.RowKit

/-- The function times -1. -/
def negN (n : Int) (xs : List Int) : Int := gN (scaT n xs (-1)) n (tabOf n (scaV xs (-1)))
def negL (n : Int) (xs : List Int) : List Int := gL (scaT n xs (-1)) n (tabOf n (scaV xs (-1)))
def negB (n : Int) (xs : List Int) : Bool := gB (scaT n xs (-1)) n (tabOf n (scaV xs (-1)))
/-- What IsSupermodular returns. -/
def supB (n : Int) (xs : List Int) : Bool := negB n xs && subB (negN n xs) (negL n xs)
/-- What IsModular returns. -/
def modB (n : Int) (xs : List Int) : Bool := subB n xs && supB n xs
set_option maxHeartbeats 400000 in
theorem c_spec_IsSupermodular (e0 : Int) (a : Option Addr) (n c : Nat) (xs : List Int) (w : World) (h : Row .i64 w a n xs) (hn : n ≤ 1048576) :
    Calls Try.prog 15 #[.agg #[.int .i64 e0, .slice a n c]] w fun e w' => e = .returned (.bool (supB e0 xs)) ∧ Below w.heap.size w w' := by
  have bel := (Below.refl w.heap.size w).alloc (Nat.le_refl _) (.cells #[.int .i64 e0, .slice a n c] 27)
  have f := FBox.new w 27 e0 a n c
  have k0 := f.c0
  have k1 := f.c1
  have HC := Lib.hid (fun w' (h' : Row .i64 w' a n xs) => c_spec_ScaleFunction e0 a n c xs (-1) w' h' hn)
  cases hb : negB e0 xs with
  | false =>
    have hr : supB e0 xs = false := by simp [supB, hb]
    rw [hr]
    clear hr
    go_enter Try.func15, Try.ntmps15
    go_wp2_with fail
    refine (HC.out _ (h.below bel)).mono ?_
    rintro e w1 ⟨a2, c2, rfl, ho, hlen, hb1⟩
    rw [show gB (scaT e0 xs (-1)) e0 (tabOf e0 (scaV xs (-1))) = false from hb]
    replace bel := bel.trans (hb1.mono bel.size)
    replace bel := bel.alloc bel.size (.cells #[.int .i64 (negN e0 xs), .slice a2 (negL e0 xs).length c2] 27)
    go_wp2
    go_ret
    exact ⟨rfl, bel⟩
  | true =>
    have hr : supB e0 xs = subB (negN e0 xs) (negL e0 xs) := by simp [supB, hb]
    rw [hr]
    clear hr
    go_enter Try.func15, Try.ntmps15
    go_wp2_with fail
    refine (HC.out _ (h.below bel)).mono ?_
    rintro e w1 ⟨a2, c2, rfl, ho, hlen, hb1⟩
    rw [show gB (scaT e0 xs (-1)) e0 (tabOf e0 (scaV xs (-1))) = true from hb]
    have hN : gN (scaT e0 xs (-1)) e0 (tabOf e0 (scaV xs (-1))) = negN e0 xs := rfl
    have hL : gL (scaT e0 xs (-1)) e0 (tabOf e0 (scaV xs (-1))) = negL e0 xs := rfl
    rw [hN]
    rw [hL] at ho hlen ⊢
    clear hN hL
    replace bel := bel.trans (hb1.mono bel.size)
    have fg := FBox.new w1 27 (negN e0 xs) a2 (negL e0 xs).length c2
    have kg0 := fg.c0
    have kg1 := fg.c1
    replace bel := bel.alloc bel.size (.cells #[.int .i64 (negN e0 xs), .slice a2 (negL e0 xs).length c2] 27)
    replace ho := ho.alloc (.cells #[.int .i64 (negN e0 xs), .slice a2 (negL e0 xs).length c2] 27)
    go_wp2_with fail
    refine (c_spec_IsSubmodular _ _ _ _ _ _ ho.row hlen).mono ?_
    rintro e w2 ⟨rfl, hb2⟩
    go_wp2
    go_ret
    exact ⟨rfl, bel.trans (hb2.mono bel.size)⟩
set_option maxHeartbeats 400000 in
theorem c_impl_IsSupermodular (e0 : Int) (a : Option Addr) (n c : Nat) (xs : List Int) (w : World) (h : Row .i64 w a n xs) (hn : n ≤ 1048576) :
    Calls Try.prog 17 #[.agg #[.int .i64 e0, .slice a n c]] w fun e w' => e = .returned (.bool (supB e0 xs)) ∧ Below w.heap.size w w' := by
  have bel := (Below.refl w.heap.size w).alloc (Nat.le_refl _) (.cells #[.int .i64 e0, .slice a n c] 27)
  have f := FBox.new w 27 e0 a n c
  have k0 := f.c0
  have k1 := f.c1
  have HC := Lib.hid (fun w' (h' : Row .i64 w' a n xs) => c_impl_ScaleFunction e0 a n c xs (-1) w' h' hn)
  cases hb : negB e0 xs with
  | false =>
    have hr : supB e0 xs = false := by simp [supB, hb]
    rw [hr]
    clear hr
    go_enter Try.func17, Try.ntmps17
    go_wp2_with fail
    refine (HC.out _ (h.below bel)).mono ?_
    rintro e w1 ⟨a2, c2, rfl, ho, hlen, hb1⟩
    rw [show gB (scaT e0 xs (-1)) e0 (tabOf e0 (scaV xs (-1))) = false from hb]
    replace bel := bel.trans (hb1.mono bel.size)
    replace bel := bel.alloc bel.size (.cells #[.int .i64 (negN e0 xs), .slice a2 (negL e0 xs).length c2] 27)
    go_wp2
    go_ret
    exact ⟨rfl, bel⟩
  | true =>
    have hr : supB e0 xs = subB (negN e0 xs) (negL e0 xs) := by simp [supB, hb]
    rw [hr]
    clear hr
    go_enter Try.func17, Try.ntmps17
    go_wp2_with fail
    refine (HC.out _ (h.below bel)).mono ?_
    rintro e w1 ⟨a2, c2, rfl, ho, hlen, hb1⟩
    rw [show gB (scaT e0 xs (-1)) e0 (tabOf e0 (scaV xs (-1))) = true from hb]
    have hN : gN (scaT e0 xs (-1)) e0 (tabOf e0 (scaV xs (-1))) = negN e0 xs := rfl
    have hL : gL (scaT e0 xs (-1)) e0 (tabOf e0 (scaV xs (-1))) = negL e0 xs := rfl
    rw [hN]
    rw [hL] at ho hlen ⊢
    clear hN hL
    replace bel := bel.trans (hb1.mono bel.size)
    have fg := FBox.new w1 27 (negN e0 xs) a2 (negL e0 xs).length c2
    have kg0 := fg.c0
    have kg1 := fg.c1
    replace bel := bel.alloc bel.size (.cells #[.int .i64 (negN e0 xs), .slice a2 (negL e0 xs).length c2] 27)
    replace ho := ho.alloc (.cells #[.int .i64 (negN e0 xs), .slice a2 (negL e0 xs).length c2] 27)
    go_wp2_with fail
    refine (c_impl_IsSubmodular _ _ _ _ _ _ ho.row hlen).mono ?_
    rintro e w2 ⟨rfl, hb2⟩
    go_wp2
    go_ret
    exact ⟨rfl, bel.trans (hb2.mono bel.size)⟩
set_option maxHeartbeats 400000 in
theorem c_spec_IsModular (e0 : Int) (a : Option Addr) (n c : Nat) (xs : List Int) (w : World) (h : Row .i64 w a n xs) (hn : n ≤ 1048576) :
    Calls Try.prog 19 #[.agg #[.int .i64 e0, .slice a n c]] w fun e w' => e = .returned (.bool (modB e0 xs)) ∧ Below w.heap.size w w' := by
  have bel := (Below.refl w.heap.size w).alloc (Nat.le_refl _) (.cells #[.int .i64 e0, .slice a n c] 27)
  have f := FBox.new w 27 e0 a n c
  cases hs : subB e0 xs with
  | false =>
    have hr : modB e0 xs = false := by simp [modB, hs]
    rw [hr]
    clear hr
    go_enter Try.func19, Try.ntmps19
    go_wp2_with fail
    refine (c_spec_IsSubmodular _ _ _ _ _ _ (h.below bel) hn).mono ?_
    rw [hs]
    rintro e w1 ⟨rfl, hb1⟩
    go_wp2
    go_ret
    exact ⟨rfl, bel.trans (hb1.mono bel.size)⟩
  | true =>
    have hr : modB e0 xs = supB e0 xs := by simp [modB, hs]
    rw [hr]
    clear hr
    go_enter Try.func19, Try.ntmps19
    go_wp2_with fail
    refine (c_spec_IsSubmodular _ _ _ _ _ _ (h.below bel) hn).mono ?_
    rw [hs]
    rintro e w1 ⟨rfl, hb1⟩
    replace bel := bel.trans (hb1.mono bel.size)
    replace f := f.below hb1
    have k0 := f.c0
    have k1 := f.c1
    go_wp2_with fail
    refine (c_spec_IsSupermodular _ _ _ _ _ _ (h.below bel) hn).mono ?_
    rintro e w2 ⟨rfl, hb2⟩
    go_wp2
    go_ret
    exact ⟨rfl, bel.trans (hb2.mono bel.size)⟩
set_option maxHeartbeats 400000 in
theorem c_impl_IsModular (e0 : Int) (a : Option Addr) (n c : Nat) (xs : List Int) (w : World) (h : Row .i64 w a n xs) (hn : n ≤ 1048576) :
    Calls Try.prog 20 #[.agg #[.int .i64 e0, .slice a n c]] w fun e w' => e = .returned (.bool (modB e0 xs)) ∧ Below w.heap.size w w' := by
  have bel := (Below.refl w.heap.size w).alloc (Nat.le_refl _) (.cells #[.int .i64 e0, .slice a n c] 27)
  have f := FBox.new w 27 e0 a n c
  cases hs : subB e0 xs with
  | false =>
    have hr : modB e0 xs = false := by simp [modB, hs]
    rw [hr]
    clear hr
    go_enter Try.func20, Try.ntmps20
    go_wp2_with fail
    refine (c_impl_IsSubmodular _ _ _ _ _ _ (h.below bel) hn).mono ?_
    rw [hs]
    rintro e w1 ⟨rfl, hb1⟩
    go_wp2
    go_ret
    exact ⟨rfl, bel.trans (hb1.mono bel.size)⟩
  | true =>
    have hr : modB e0 xs = supB e0 xs := by simp [modB, hs]
    rw [hr]
    clear hr
    go_enter Try.func20, Try.ntmps20
    go_wp2_with fail
    refine (c_impl_IsSubmodular _ _ _ _ _ _ (h.below bel) hn).mono ?_
    rw [hs]
    rintro e w1 ⟨rfl, hb1⟩
    replace bel := bel.trans (hb1.mono bel.size)
    replace f := f.below hb1
    have k0 := f.c0
    have k1 := f.c1
    go_wp2_with fail
    refine (c_impl_IsSupermodular _ _ _ _ _ _ (h.below bel) hn).mono ?_
    rintro e w2 ⟨rfl, hb2⟩
    go_wp2
    go_ret
    exact ⟨rfl, bel.trans (hb2.mono bel.size)⟩
end Go.Proofs.Ythiokplkimdojaa
