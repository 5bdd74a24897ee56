/- The walk of the law FnExactDecodeHex. -/
import Derived.Test.YtfeobejmkmhjhaaHexDec
namespace Go.Proofs.Ytfeobejmkmhjhaa
set_option linter.unusedSimpArgs false
set_option linter.unusedVariables false
open Go.RowKit

theorem walk_FnExactDecodeHex (a0 : ByteArray) (w : World) (w0 : a0.size ≤ maxLen) :
    Calls Try.prog 10 #[.string a0] w fun e w' => e = .returned (.bool true) ∧ Below w.heap.size w w' := by
  unfold maxLen at w0
  by_cases h : a0.size ≤ 1048576
  · go_enter Try.func10, Try.ntmps10
    go_wp2_with fail
    refine (c_spec_DecodeHex a0 _ h).mono ?_
    rintro e w1 ⟨rfl, hb1⟩
    go_wp2_with fail
    refine (c_impl_DecodeHex a0 _ h).mono ?_
    rintro e w2 ⟨rfl, hb2⟩
    go_wp2
    all_goals (go_ret; exact ⟨rfl, hb1.trans (hb2.mono hb1.size)⟩)
  · go_enter Try.func10, Try.ntmps10
    go_wp2
    go_ret
    exact ⟨rfl, Below.refl _ _⟩
end Go.Proofs.Ytfeobejmkmhjhaa
