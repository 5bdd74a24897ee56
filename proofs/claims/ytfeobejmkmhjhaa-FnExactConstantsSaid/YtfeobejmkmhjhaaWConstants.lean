/- The walk of the law FnExactConstants: it compares constants. -/
import Derived.Test.YtfeobejmkmhjhaaSmall
import Derived.Test.YtfeobejmkmhjhaaKit
namespace Go.Proofs.Ytfeobejmkmhjhaa
open Go.RowKit

theorem walk_FnExactConstants (w : World) :
    Calls Try.prog 3 #[] w fun e w' => e = .returned (.bool true) ∧ Below w.heap.size w w' := by
  go_enter Try.func3, Try.ntmps3
  go_wp2
  go_ret
  exact ⟨rfl, Below.refl _ _⟩
end Go.Proofs.Ytfeobejmkmhjhaa
