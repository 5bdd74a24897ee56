/- Contracts of both packages' FormatInt for every number. -/
import Derived.Test.YtfcgijnfiiaepaaGreatDoorFmt
import Derived.Test.YtfcgijnfiiaepaaGreatDoorShelf
import Derived.Lib.AppendIntMem
namespace Go.Proofs.YtfcgijnfiiaepaaGreatDoor
set_option linter.unusedSimpArgs false
set_option linter.unusedVariables false
open Go.RowKit

/-- The library's table of powers of ten reads as it does, whatever is done behind block B. -/
def TabB (B : Nat) (w : World) : Prop := Go.Lib.TabBelow Tryz.prog B w "internal/strconv.uint64pow10" .u64 Go.Lib.pow10Tab
theorem TabB.on {B : Nat} {w w1 : World} (h : TabB B w) (hb : Below B w w1) : TabB B w1 := Go.Lib.TabBelow.on h hb
theorem TabB.of {w : World} (h : Go.Lib.TabIs Tryz.prog w "internal/strconv.uint64pow10" .u64 Go.Lib.pow10Tab) : TabB w.heap.size w := Go.Lib.tabBelow_of_tabIs h
/-- The decimal numeral. -/
def itoaS (n : Int) : ByteArray := ⟨(Go.Lib.itoa n).toArray⟩
theorem c_spec_FormatInt (n : Int) (w : World) (h0 : -9223372036854775808 ≤ n) (h1 : n ≤ 9223372036854775807) :
    Calls Tryz.prog 49 #[.int .i64 n] w fun e w' => e = .returned (.string (itoaS n)) ∧ Below w.heap.size w w' := by
  unfold itoaS
  by_cases hz : n = 0
  · subst hz
    have hi : (⟨(Go.Lib.itoa 0).toArray⟩ : ByteArray) = ⟨#[48]⟩ := by decide +kernel
    rw [hi]
    go_enter Tryz.func49, Tryz.ntmps49
    go_wp2
    go_ret
    exact ⟨rfl, Below.refl _ _⟩
  · by_cases hn : n < 0
    · obtain ⟨N, hN⟩ : ∃ N : Nat, n = -(N : Int) := ⟨n.natAbs, by omega⟩
      subst hN
      exact c_spec_FormatInt_neg N w (by omega) (by omega)
    · obtain ⟨N, hN⟩ : ∃ N : Nat, n = (N : Int) := ⟨n.natAbs, by omega⟩
      subst hN
      exact c_spec_FormatInt_pos N w (by omega) (by omega)
theorem c_impl_FormatInt (n : Int) (w : World) (B : Nat) (hB : B ≤ w.heap.size) (h0 : -9223372036854775808 ≤ n) (h1 : n ≤ 9223372036854775807) (ht : TabB B w) :
    Calls Tryz.prog 73 #[.int .i64 n] w fun e w' => e = .returned (.string (itoaS n)) ∧ Below w.heap.size w w' := by
  unfold itoaS
  go_enter Tryz.func73, Tryz.ntmps73
  go_wp2_with fail
  refine (Tryz.strconv_Itoa n h0 h1 w ht.here).mono ?_
  rintro e w1 ⟨rfl, k, os, rfl⟩
  have hb := Go.Lib.below_grow w.heap.size w (Nat.le_refl _) k os
  go_wp2
  go_ret
  exact ⟨rfl, hb⟩
end Go.Proofs.YtfcgijnfiiaepaaGreatDoor
