/- What a store of a function's value into a variable leaves as it was. -/
import Derived.Test.YtfcgijnfiiaepaaGreatDoorMade
namespace Go.Proofs.YtfcgijnfiiaepaaGreatDoor
set_option linter.unusedSimpArgs false
set_option linter.unusedVariables false
open Go.RowKit

theorem FBox.far2 {w : World} {g g' : Nat} {t : TypeId} {n : Int} {a : Option Addr} {l c : Nat} (h : FBox w g t n a l c) (hne : g ≠ g') (u v : Value) : FBox ((w.setCell ⟨g', 0, none⟩ u).setCell ⟨g', 1, none⟩ v) g t n a l c :=
  (h.setFar ⟨g', 0, none⟩ u hne).setFar ⟨g', 1, none⟩ v hne
theorem FBox.set0 {w : World} {g : Nat} {t : TypeId} {n : Int} {a : Option Addr} {l c : Nat} (h : FBox w g t n a l c) (n' : Int) : FBox (w.setCell ⟨g, 0, none⟩ (.int .i64 n')) g t n' a l c := by
  unfold FBox at h ⊢
  have hlt := (Array.getElem?_eq_some_iff.1 h).1
  have h' : w.heap[g] = .cells #[.int .i64 n, .slice a l c] t (0, 0) := by simpa [Array.getElem?_eq_getElem hlt] using h
  show (w.heap.modify g _)[g]? = _
  rw [Array.getElem?_eq_getElem (by simpa using hlt), Array.getElem_modify_self, h']
  rfl
theorem FBox.set2 {w : World} {g : Nat} {t : TypeId} {n : Int} {a : Option Addr} {l c : Nat} (h : FBox w g t n a l c) (n' : Int) (a' : Option Addr) (l' c' : Nat) : FBox ((w.setCell ⟨g, 0, none⟩ (.int .i64 n')).setCell ⟨g, 1, none⟩ (.slice a' l' c')) g t n' a' l' c' :=
  (h.set0 n').set1 a' l' c'
theorem own_far2 {w : World} {base lo g : Nat} {e : TypeId} {k : IntKind} {x : Value} {xs : List Int} (h : OwnI w base e k x xs) (hr : ∀ j, x.ownBlock = some j → lo ≤ j ∧ j < g) (u v : Value) : OwnI ((w.setCell ⟨g, 0, none⟩ u).setCell ⟨g, 1, none⟩ v) base e k x xs :=
  (h.setFar ⟨g, 0, none⟩ u (.inr (row_apart hr (.inr (Nat.le_refl _))))).setFar ⟨g, 1, none⟩ v (.inr (row_apart hr (.inr (Nat.le_refl _))))
end Go.Proofs.YtfcgijnfiiaepaaGreatDoor
