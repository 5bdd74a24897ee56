/- Contract of spec's l2Made; what the functions that make a function return. -/
import Derived.Test.YtfcgijnfiiaepaaGreatDoorMake
namespace Go.Proofs.YtfcgijnfiiaepaaGreatDoor
set_option linter.unusedSimpArgs false
set_option linter.unusedVariables false
open Go.RowKit

/-- What is returned: where the test b holds, the function of these values if it is one. -/
def gN (b : Bool) (n : Int) (xs : List Int) : Int := if b then madeN n xs else 0
def gL (b : Bool) (n : Int) (xs : List Int) : List Int := if b then madeL n xs else []
def gB (b : Bool) (n : Int) (xs : List Int) : Bool := b && isFun n xs
theorem g_no {b : Bool} {n : Int} {xs : List Int} (h : b = false) : gN b n xs = 0 ∧ gL b n xs = [] ∧ gB b n xs = false := by simp [gN, gL, gB, h]
theorem g_mid {b : Bool} {n : Int} {xs : List Int} (h : b = true) : gN b n xs = madeN n xs ∧ gL b n xs = madeL n xs ∧ gB b n xs = isFun n xs := by simp [gN, gL, gB, h]
theorem g_bad {b : Bool} {n : Int} {xs : List Int} (h : isFun n xs = false) : gN b n xs = 0 ∧ gL b n xs = [] ∧ gB b n xs = false := by simp [gN, gL, gB, madeN, madeL, h]
theorem g_yes {b : Bool} {n : Int} {xs : List Int} (h : b = true) (h' : isFun n xs = true) : gN b n xs = n ∧ gL b n xs = xs ∧ gB b n xs = true := by simp [gN, gL, gB, madeN, madeL, h, h']
theorem FBox.upto {w w' : World} {B g : Nat} {t : TypeId} {n : Int} {a : Option Addr} {l c : Nat} (h : FBox w g t n a l c) (hb : Below B w w') (hg : g < B) : FBox w' g t n a l c := (hb.block g hg).trans h
theorem below_set2 {B g : Nat} {w w2 : World} (hb : Below B w w2) (hg : B ≤ g) (u v : Value) : Below B w ((w2.setCell ⟨g, 0, none⟩ u).setCell ⟨g, 1, none⟩ v) := (hb.setCell (p := ⟨g, 0, none⟩) hg u).setCell (p := ⟨g, 1, none⟩) hg v
theorem below_set2a {g : Nat} {w w2 : World} (hb : Below w.heap.size w w2) (hg : w.heap.size ≤ g) (u v : Value) (o : Obj) : Below w.heap.size w (((w2.setCell ⟨g, 0, none⟩ u).setCell ⟨g, 1, none⟩ v).alloc o) := (below_set2 hb hg u v).alloc (below_set2 hb hg u v).size o
theorem own_set2 {w : World} {base g : Nat} {e : TypeId} {k : IntKind} {x : Value} {xs : List Int} (h : OwnI w base e k x xs) (hg : g < base) (u v : Value) : OwnI ((w.setCell ⟨g, 0, none⟩ u).setCell ⟨g, 1, none⟩ v) base e k x xs :=
  have r := h.range
  (h.setFar ⟨g, 0, none⟩ u (.inr (row_apart r (.inl hg)))).setFar ⟨g, 1, none⟩ v (.inr (row_apart r (.inl hg)))
set_option maxRecDepth 20000 in
set_option maxHeartbeats 400000 in
theorem c_l2Made_no (e0 : Int) (a : Option Addr) (n c : Nat) (xs : List Int) (w : World) (h : Row .i64 w a n xs) (hn : n ≤ 1048576) (hf : isFun e0 xs = false) :
    Calls Tryz.prog 41 #[.int .i64 e0, .slice a n c] w fun e w' => e = .returned (.tuple #[.agg #[.int .i64 0, .slice none 0 0], .bool false]) ∧ Below w.heap.size w w' := by
  have bel := Below.refl w.heap.size w
  have fr := (FBox.new w 26 0 none 0 0).alloc (.cells #[.int .i64 e0, .slice a n c] 26)
  replace bel := bel.alloc bel.size (.cells #[.int .i64 0, .slice none 0 0] 26)
  replace bel := bel.alloc bel.size (.cells #[.int .i64 e0, .slice a n c] 26)
  go_enter Tryz.func41, Tryz.ntmps41
  go_wp2_with fail
  refine (c_spec_IsFunction _ _ _ _ _ _ ((h.alloc _).alloc _) hn).mono ?_
  rw [hf]
  rintro e w1 ⟨rfl, hb1⟩
  replace bel := bel.trans (hb1.mono bel.size)
  replace fr := fr.below hb1
  have kr0 := fr.c0
  have kr1 := fr.c1
  have krf := fr.free
  go_wp2_with fail
  refine bodyPost_ret (v := .tuple #[.agg #[.int .i64 0, .slice none 0 0], .bool false]) (by simp [results, Tryz.results41, go_sem, kr0, kr1]) rfl ?_
  exact ⟨rfl, (bel.setCell (by show w.heap.size ≤ w.heap.size; omega) _).setCell (by show w.heap.size ≤ w.heap.size; omega) _⟩
set_option maxRecDepth 20000 in
set_option maxHeartbeats 400000 in
theorem c_l2Made_yes (e0 : Int) (a : Option Addr) (n c : Nat) (xs : List Int) (w : World) (h : Row .i64 w a n xs) (hn : n ≤ 1048576) (hf : isFun e0 xs = true) :
    Calls Tryz.prog 41 #[.int .i64 e0, .slice a n c] w fun e w' => e = .returned (.tuple #[.agg #[.int .i64 e0, .slice a n c], .bool true]) ∧ Below w.heap.size w w' := by
  have bel := Below.refl w.heap.size w
  have fr := (FBox.new w 26 0 none 0 0).alloc (.cells #[.int .i64 e0, .slice a n c] 26)
  have f1 := FBox.new (w.alloc (.cells #[.int .i64 0, .slice none 0 0] 26)) 26 e0 a n c
  rw [World.size_alloc] at f1
  replace bel := bel.alloc bel.size (.cells #[.int .i64 0, .slice none 0 0] 26)
  replace bel := bel.alloc bel.size (.cells #[.int .i64 e0, .slice a n c] 26)
  go_enter Tryz.func41, Tryz.ntmps41
  go_wp2_with fail
  refine (c_spec_IsFunction _ _ _ _ _ _ ((h.alloc _).alloc _) hn).mono ?_
  rw [hf]
  rintro e w1 ⟨rfl, hb1⟩
  replace bel := bel.trans (hb1.mono bel.size)
  replace fr := fr.below hb1
  replace f1 := f1.below hb1
  have kr0 := fr.c0
  have kr1 := fr.c1
  have krf := fr.free
  have k10 := f1.c0
  have k11 := f1.c1
  go_wp2_with fail
  refine bodyPost_ret (v := .tuple #[.agg #[.int .i64 e0, .slice a n c], .bool true]) (by simp [results, Tryz.results41, go_sem, kr0, kr1]) rfl ?_
  exact ⟨rfl, (bel.setCell (by show w.heap.size ≤ w.heap.size; omega) _).setCell (by show w.heap.size ≤ w.heap.size; omega) _⟩
end Go.Proofs.YtfcgijnfiiaepaaGreatDoor
