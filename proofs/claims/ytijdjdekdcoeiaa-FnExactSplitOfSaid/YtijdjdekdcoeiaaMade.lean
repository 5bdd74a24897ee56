/- Contract of spec's l2Made; what the functions that make a function return. -/
import Derived.Test.YtijdjdekdcoeiaaMake
namespace Go.Proofs.Ytijdjdekdcoeiaa
set_option linter.unusedSimpArgs false
set_option linter.unusedVariables false
open Go.RowKit

/-- What is returned: where the test b holds, the function of these values if it is one. -/
def gN (b : Bool) (n : Int) (xs : List Int) : Int := if b then madeN n xs else 0
def gL (b : Bool) (n : Int) (xs : List Int) : List Int := if b then madeL n xs else []
def gB (b : Bool) (n : Int) (xs : List Int) : Bool := b && isFun n xs
theorem g_no {b : Bool} {n : Int} {xs : List Int} (h : b = false) : gN b n xs = 0 ∧ gL b n xs = [] ∧ gB b n xs = false := by simp [gN, gL, gB, h]
theorem g_mid {b : Bool} {n : Int} {xs : List Int} (h : b = true) : gN b n xs = madeN n xs ∧ gL b n xs = madeL n xs ∧ gB b n xs = isFun n xs := by simp [gN, gL, gB, h]
theorem g_bad {b : Bool} {n : Int} {xs : List Int} (h : isFun n xs = false) : gN b n xs = 0 ∧ gL b n xs = [] ∧ gB b n xs = false := by simp [gN, gL, gB, madeN, madeL, h]
theorem g_yes {b : Bool} {n : Int} {xs : List Int} (h : b = true) (h' : isFun n xs = true) : gN b n xs = n ∧ gL b n xs = xs ∧ gB b n xs = true := by simp [gN, gL, gB, madeN, madeL, h, h']
theorem FBox.upto {w w' : World} {B g : Nat} {t : TypeId} {n : Int} {a : Option Addr} {l c : Nat} (h : FBox w g t n a l c) (hb : Below B w w') (hg : g < B) : FBox w' g t n a l c := (hb.block g hg).trans h
theorem below_set2 {B g : Nat} {w w2 : World} (hb : Below B w w2) (hg : B ≤ g) (u v : Value) : Below B w ((w2.setCell ⟨g, 0, none⟩ u).setCell ⟨g, 1, none⟩ v) := (hb.setCell (p := ⟨g, 0, none⟩) hg u).setCell (p := ⟨g, 1, none⟩) hg v
theorem below_set2a {g : Nat} {w w2 : World} (hb : Below w.heap.size w w2) (hg : w.heap.size ≤ g) (u v : Value) (o : Obj) : Below w.heap.size w (((w2.setCell ⟨g, 0, none⟩ u).setCell ⟨g, 1, none⟩ v).alloc o) := (below_set2 hb hg u v).alloc (below_set2 hb hg u v).size o
theorem own_set2 {w : World} {base g : Nat} {e : TypeId} {k : IntKind} {x : Value} {xs : List Int} (h : OwnI w base e k x xs) (hg : g < base) (u v : Value) : OwnI ((w.setCell ⟨g, 0, none⟩ u).setCell ⟨g, 1, none⟩ v) base e k x xs :=
  have r := h.range
  (h.setFar ⟨g, 0, none⟩ u (.inr (row_apart r (.inl hg)))).setFar ⟨g, 1, none⟩ v (.inr (row_apart r (.inl hg)))
end Go.Proofs.Ytijdjdekdcoeiaa
