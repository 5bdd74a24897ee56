/- Contracts of spec's draws of numbers and texts. -/
import Derived.Test.YtfcgijnfiiaepaaCur
namespace Go.Proofs.Ytfcgijnfiiaepaa
set_option linter.unusedSimpArgs false
set_option linter.unusedVariables false
open Go.RowKit

theorem grownBy_own {a b c : World} {row row' : Option Nat} (h : a.grownBy b row) (k : b.grownBy c row') (hr : ∀ j, row' = some j → a.heap.size ≤ j) : a.grownBy c row :=
  ⟨k.os.trans h.os, k.tape.trans h.tape, k.output.trans h.output, Nat.le_trans h.size k.size, fun i hi hne => (k.block i (Nat.lt_of_lt_of_le hi h.size) (fun e => by have := hr i e.symm; omega)).trans (h.block i hi hne)⟩
theorem OwnI.cur {w w' : World} {base g : Nat} {e : TypeId} {k : IntKind} {v : Value} {xs : List Int} (h : OwnI w base e k v xs) (hg : w.grownBy w' (some g)) (hlt : g < base) : OwnI w' base e k v xs := by
  refine h.grown hg ?_
  cases hv : v.ownBlock with
  | none => exact .inl rfl
  | some j => exact .inr (fun e2 => by have := (h.range j hv).1; have e3 : j = g := Option.some.inj e2; omega)
theorem below_cur {B g : Nat} {a w w' : World} (h : Below B a w) (hg : w.grownBy w' (some g)) (hB : B ≤ g) (hs : B ≤ w.heap.size) : Below B a w' := h.grown hg hs (fun j e => by have e2 : g = j := Option.some.inj e; omega)
theorem wrap64_bd (v : Int) : -9223372036854775808 ≤ wrap64 v ∧ wrap64 v ≤ 9223372036854775807 := by
  unfold wrap64
  omega
/-- Some number of a list is returned. -/
def RetPick (t : TypeId) (g : Nat) (xs : List Int) (w : World) (e : Ending) (w' : World) : Prop := ∃ x : Int, x ∈ xs ∧ e = .returned (.int .i64 x) ∧ Cur t w' g ∧ w.grownBy w' (some g)
set_option maxHeartbeats 400000 in
theorem c_l1PickInt (g : Nat) (a : Option Addr) (n c : Nat) (xs : List Int) (w : World) (f : Cur 75 w g) (h : Row .i64 w a n xs) (hne : ∀ ad, a = some ad → ad.block ≠ g) (h0 : 0 < n) (h1 : n ≤ 1000) :
    Calls Try.prog 79 #[.pointer (some ⟨g, 0, none⟩), .slice a n c] w (RetPick 75 g xs w) := by
  have hl := h.len
  go_enter Try.func79, Try.ntmps79
  go_wp2_with fail
  refine (c_l1Below g _ _ f (by omega) (by omega)).mono ?_
  rintro e w1 ⟨x, rfl, hx0, hx1, f1, hg1⟩
  have hr := h.kept hg1 (fun ad e _ e2 => hne ad e (Option.some.inj e2).symm)
  obtain ⟨k, rfl⟩ := Int.eq_ofNat_of_zero_le hx0
  have hk : k < n := by omega
  obtain ⟨b, off, rfl, hblt, hc⟩ := hr.at_ (by omega)
  have g1 := hc k hk
  have hm : xs.getD k 0 ∈ xs := by
    rw [List.getD_eq_getElem?_getD, List.getElem?_eq_getElem (by omega)]
    exact List.getElem_mem _
  obtain ⟨y, hy⟩ : ∃ y, y = xs.getD k 0 := ⟨_, rfl⟩
  rw [← hy] at g1 hm
  have hi1 : (k : Int) < (n : Int) := by omega
  have HM := Lib.hid hm
  clear hm hy hc hr hx0 hx1 h hne
  go_wp2
  go_ret
  exact ⟨y, HM.out, rfl, f1, hg1⟩
theorem c_big (a : Option Addr) (n c : Nat) (w : World) (hn : n ≤ maxLen) :
    Calls Try.prog 5 #[.slice a n c] w fun e w' => e = .returned (.bool (decide (1048576 < (n : Int)))) ∧ w = w' := by
  go_enter Try.func5, Try.ntmps5
  go_wp2
  go_ret
  exact ⟨rfl, rfl⟩
end Go.Proofs.Ytfcgijnfiiaepaa
