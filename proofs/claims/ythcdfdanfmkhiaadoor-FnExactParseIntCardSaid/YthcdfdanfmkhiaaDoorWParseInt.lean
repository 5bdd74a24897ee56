/- The walk of FnExactParseInt: it returns true. -/
import Derived.Test.YthcdfdanfmkhiaaDoorParseI
import Derived.Test.YthcdfdanfmkhiaaDoorSmall
namespace Go.Proofs.YthcdfdanfmkhiaaDoor
set_option linter.unusedSimpArgs false
set_option linter.unusedVariables false
open Go.RowKit

theorem walk_FnExactParseInt (a0 : ByteArray) (w : World) (w0 : a0.size ≤ maxLen) (htab : Go.Lib.TabIs Tryd.prog w "internal/strconv.uint64pow10" .u64 Go.Lib.pow10Tab) :
    Calls Tryd.prog 3 #[.string a0] w fun e w' => e = .returned (.bool true) ∧ Below w.heap.size w w' := by
  have ht := TabB.of htab
  unfold maxLen at w0
  by_cases h : a0.size ≤ 1048576
  · go_enter Tryd.func3, Tryd.ntmps3
    go_wp2_with fail
    refine (c_spec_ParseInt _ _ h).mono ?_
    rintro e w1 ⟨rfl, hb1⟩
    go_wp2_with fail
    refine (c_impl_ParseInt _ _ w.heap.size hb1.size h (ht.on hb1)).mono ?_
    rintro e w2 ⟨rfl, hb2⟩
    have hb := hb1.trans (hb2.mono hb1.size)
    clear htab ht
    go_wp2
    go_ret
    exact ⟨rfl, hb⟩
  · go_enter Tryd.func3, Tryd.ntmps3
    go_wp2
    go_ret
    exact ⟨rfl, Below.refl _ _⟩
end Go.Proofs.YthcdfdanfmkhiaaDoor
