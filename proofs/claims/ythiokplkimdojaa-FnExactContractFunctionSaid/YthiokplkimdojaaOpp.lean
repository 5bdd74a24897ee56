/- Contracts of OppositeFunction, both packages. -/
import Derived.Test.YthiokplkimdojaaMade
namespace Go.Proofs.Ythiokplkimdojaa
set_option linter.unusedSimpArgs false
set_option linter.unusedVariables false
open Go.RowKit

def oppV (xs : List Int) (s : Nat) : Int := xs.getD (xs.length - 1 - s) 0
theorem andNot_fin : ∀ (j : Fin 6) (s : Fin 32), s.val < 2 ^ j.val → bits .andNot .i64 ((2 : Int) ^ j.val - 1) (s.val : Int) = ((2 ^ j.val - 1 - s.val : Nat) : Int) := by decide +kernel
theorem andNot_full {e0 : Int} {s m : Nat} (h0 : 0 ≤ e0) (h1 : e0 ≤ 5) (hs : s < 2 ^ e0.toNat) (hm : m = 2 ^ e0.toNat - 1 - s) : bits .andNot .i64 ((2 : Int) ^ e0.toNat - 1) (s : Int) = (m : Int) := by
  have h32 := pow5 h0 h1
  have := andNot_fin ⟨e0.toNat, by omega⟩ ⟨s, by omega⟩ hs
  rw [hm]
  exact this
/-- The test of OppositeFunction. -/
def oppT (n : Int) (xs : List Int) : Bool := isFun n xs
theorem opp_isFun {n : Int} {xs : List Int} (h : isFun n xs = true) : isFun n (tabOf n (oppV xs)) = true := by
  obtain ⟨⟨h0, h1⟩, hl, hx⟩ := isFun_true h
  exact isFun_tab h0 h1 fun s hs => hx _ (by omega)
theorem c_allOf (e0 : Int) (a : Option Addr) (n c : Nat) (w : World) (h0 : 0 ≤ e0) (h1 : e0 ≤ 5) :
    Calls Try.prog 74 #[.agg #[.int .i64 e0, .slice a n c]] w fun e w' => e = .returned (.int .i64 (2 ^ e0.toNat - 1)) ∧ Below w.heap.size w w' := by
  have hb := (Below.refl w.heap.size w).alloc (Nat.le_refl _) (.cells #[.int .i64 e0, .slice a n c] 27)
  have : e0 = 0 ∨ e0 = 1 ∨ e0 = 2 ∨ e0 = 3 ∨ e0 = 4 ∨ e0 = 5 := by omega
  clear h0 h1
  rcases this with rfl | rfl | rfl | rfl | rfl | rfl
  all_goals
    go_enter Try.func74, Try.ntmps74
    go_wp2
    go_ret
    exact ⟨ret_int (by decide), hb⟩
end Go.Proofs.Ythiokplkimdojaa
