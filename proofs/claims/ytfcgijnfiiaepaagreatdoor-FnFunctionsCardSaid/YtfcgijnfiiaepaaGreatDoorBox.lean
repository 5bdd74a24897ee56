/- A variable in memory that holds one value (a number, a slice). -/
import Derived.Test.YtfcgijnfiiaepaaGreatDoorMade
namespace Go.Proofs.YtfcgijnfiiaepaaGreatDoor
set_option linter.unusedSimpArgs false
set_option linter.unusedVariables false
open Go.RowKit

def VBox (w : World) (g : Nat) (t : TypeId) (v : Value) : Prop := w.heap[g]? = some (.cells #[v] t (0, 0))
theorem VBox.new (w : World) (t : TypeId) (v : Value) : VBox (w.alloc (.cells #[v] t)) w.heap.size t v := heap_alloc_new w _
theorem VBox.lt {w : World} {g : Nat} {t : TypeId} {v : Value} (h : VBox w g t v) : g < w.heap.size := (Array.getElem?_eq_some_iff.1 h).1
theorem VBox.alloc {w : World} {g : Nat} {t : TypeId} {v : Value} (h : VBox w g t v) (o : Obj) : VBox (w.alloc o) g t v := (Below.heap_alloc w o g h.lt).trans h
theorem VBox.drew {w : World} {g : Nat} {t : TypeId} {v : Value} (h : VBox w g t v) : VBox w.drew g t v := h
theorem VBox.below {w w' : World} {g : Nat} {t : TypeId} {v : Value} (h : VBox w g t v) (hb : Below w.heap.size w w') : VBox w' g t v := (hb.block g h.lt).trans h
theorem VBox.c0 {w : World} {g : Nat} {t : TypeId} {v : Value} (h : VBox w g t v) : w.cell? ⟨g, 0, none⟩ = some v := cell_of_row w g 0 _ t (0, 0) h
end Go.Proofs.YtfcgijnfiiaepaaGreatDoor
