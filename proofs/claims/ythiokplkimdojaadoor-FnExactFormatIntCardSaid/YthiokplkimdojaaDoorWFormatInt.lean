/- The walk of FnExactFormatInt: it returns true. -/
import Derived.Test.YthiokplkimdojaaDoorItoa
import Derived.Test.YthiokplkimdojaaDoorSmall
namespace Go.Proofs.YthiokplkimdojaaDoor
set_option linter.unusedSimpArgs false
set_option linter.unusedVariables false
open Go.RowKit

theorem wf_bd {a : Int} (h : (Lit.int .i64 a).wf = true) : -9223372036854775808 ≤ a ∧ a ≤ 9223372036854775807 := by
  simpa only [Lit.wf, Bool.and_eq_true, decide_eq_true_eq, show IntKind.i64.min = -9223372036854775808 from rfl, show IntKind.i64.max = 9223372036854775807 from rfl] using h
theorem walk_FnExactFormatInt (a0 : Int) (w : World) (w0 : (Lit.int .i64 a0).wf = true) (htab : Go.Lib.TabIs Tryd.prog w "internal/strconv.uint64pow10" .u64 Go.Lib.pow10Tab) :
    Calls Tryd.prog 3 #[.int .i64 a0] w fun e w' => e = .returned (.bool true) ∧ Below w.heap.size w w' := by
  have b0 := wf_bd w0
  have ht := TabB.of htab
  go_enter Tryd.func3, Tryd.ntmps3
  go_wp2_with fail
  refine (c_spec_FormatInt _ _ b0.1 b0.2).mono ?_
  rintro e w1 ⟨rfl, hb1⟩
  go_wp2_with fail
  refine (c_impl_FormatInt _ _ w.heap.size hb1.size b0.1 b0.2 (ht.on hb1)).mono ?_
  rintro e w2 ⟨rfl, hb2⟩
  have hb := hb1.trans (hb2.mono hb1.size)
  have hne : (!decide (itoaS a0 = itoaS a0)) = false := by simp
  go_wp2
  go_ret
  exact ⟨rfl, hb⟩
end Go.Proofs.YthiokplkimdojaaDoor
