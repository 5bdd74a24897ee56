/- Contract of makeFunction, whatever closure it is handed. -/
import Derived.Test.YtfcgijnfiiaepaaDoorFun2
import Derived.Deep.RegionLaw
import Derived.Shelf.Abstract
namespace Go.Proofs.YtfcgijnfiiaepaaDoor
set_option linter.unusedSimpArgs false
set_option linter.unusedVariables false
open Go.RowKit

theorem FBox.setFar {w : World} {g : Nat} {t : TypeId} {n : Int} {a : Option Addr} {l c : Nat} (h : FBox w g t n a l c) (p : Addr) (v : Value) (hne : g ≠ p.block) : FBox (w.setCell p v) g t n a l c :=
  (Below.heap_setCell w p v g hne).trans h
theorem FBox.set1 {w : World} {g : Nat} {t : TypeId} {n : Int} {a : Option Addr} {l c : Nat} (h : FBox w g t n a l c) (a' : Option Addr) (l' c' : Nat) : FBox (w.setCell ⟨g, 1, none⟩ (.slice a' l' c')) g t n a' l' c' := by
  unfold FBox at h ⊢
  have hlt := (Array.getElem?_eq_some_iff.1 h).1
  have h' : w.heap[g] = .cells #[.int .i64 n, .slice a l c] t (0, 0) := by simpa [Array.getElem?_eq_getElem hlt] using h
  show (w.heap.modify g _)[g]? = _
  rw [Array.getElem?_eq_getElem (by simpa using hlt), Array.getElem_modify_self, h']
  rfl
theorem app1 (x y : Value) : #[x] ++ #[y] = #[x, y] := rfl
theorem app2 (x y z : Value) : #[x] ++ #[y, z] = #[x, y, z] := rfl
theorem app3 (x y z u : Value) : #[x] ++ #[y, z, u] = #[x, y, z, u] := rfl
/-- The values of a function, set by set. -/
def tabTo (val : Nat → Int) (k : Nat) : List Int := (List.range k).map val
theorem tabTo_succ (val : Nat → Int) (k : Nat) : tabTo val (k + 1) = tabTo val k ++ [val k] := by simp [tabTo, List.range_succ]
theorem tabTo_length (val : Nat → Int) (k : Nat) : (tabTo val k).length = k := by simp [tabTo]
theorem tabTo_congr {val val' : Nat → Int} {k : Nat} (h : ∀ j, j < k → val j = val' j) : tabTo val k = tabTo val' k := by
  apply List.map_congr_left
  intro j hj
  exact h j (by simpa using hj)
/-- The number of sets of n elements. -/
def tabOf (n : Int) (val : Nat → Int) : List Int := tabTo val (2 ^ n.toNat)
def madeN (n : Int) (xs : List Int) : Int := if isFun n xs then n else 0
def madeL (n : Int) (xs : List Int) : List Int := if isFun n xs then xs else []
theorem made_no {n : Int} {xs : List Int} (h : isFun n xs = false) : madeN n xs = 0 ∧ madeL n xs = [] := by simp [madeN, madeL, h]
theorem made_yes {n : Int} {xs : List Int} (h : isFun n xs = true) : madeN n xs = n ∧ madeL n xs = xs := by simp [madeN, madeL, h]
theorem pow5 {n : Int} (h0 : 0 ≤ n) (h1 : n ≤ 5) : 2 ^ n.toNat ≤ 32 := by
  have : n.toNat = 0 ∨ n.toNat = 1 ∨ n.toNat = 2 ∨ n.toNat = 3 ∨ n.toNat = 4 ∨ n.toNat = 5 := by omega
  rcases this with h | h | h | h | h | h <;> rw [h] <;> decide
theorem tabTo_getD (val : Nat → Int) (k j : Nat) (h : j < k) : (tabTo val k).getD j 0 = val j := by simp [tabTo, List.getD, h]
theorem isFun_tab {n : Int} {val : Nat → Int} (h0 : 0 ≤ n) (h1 : n ≤ 5) (h : ∀ s, s < 2 ^ n.toNat → -1000 ≤ val s ∧ val s ≤ 1000) : isFun n (tabOf n val) = true := by
  have hl : (tabOf n val).length = 2 ^ n.toNat := tabTo_length _ _
  have ha : allIn (tabOf n val) (-1000) 1000 = true := allIn_of fun j hj => by
    rw [hl] at hj
    rw [tabOf, tabTo_getD _ _ _ hj]
    exact inB_true.2 (h j hj)
  simp [isFun, ha, hl, inB_true.2 ⟨h0, h1⟩]
theorem isFun_tab_val {n : Int} {val : Nat → Int} (h : isFun n (tabOf n val) = true) (s : Nat) (hs : s < 2 ^ n.toNat) : -1000 ≤ val s ∧ val s ≤ 1000 := by
  obtain ⟨_, hl, hx⟩ := isFun_true h
  have := hx s (by rw [hl]; exact hs)
  rwa [tabOf, tabTo_getD _ _ _ hs] at this
end Go.Proofs.YtfcgijnfiiaepaaDoor
