/- Contracts of the laws' helpers on slices of integers (copy, compare, mark), and of the functions that look at each number. -/
import Derived.Test.YtfcgijnfiiaepaaDoorSmall
import Derived.Test.YtfcgijnfiiaepaaDoorKit
namespace Go.Proofs.YtfcgijnfiiaepaaDoor
set_option linter.unusedSimpArgs false
set_option linter.unusedVariables false
open Go.RowKit

theorem EI : IntElem Tryd.prog 22 3 .i64 8 := ⟨Tryd.underlying22, Tryd.underlying3, by kernel_rfl, by decide⟩

def eqL (xs ys : List Int) : Bool := decide (xs = ys)
theorem eqL_true {xs ys : List Int} : eqL xs ys = true ↔ xs = ys := by simp [eqL]
theorem eqL_of_getD {xs ys : List Int} (hl : xs.length = ys.length) (h : ∀ j, j < xs.length → xs.getD j 0 = ys.getD j 0) : eqL xs ys = true := by
  rw [eqL_true]
  apply List.ext_getElem hl
  intro j h1 h2
  have := h j h1
  simpa [List.getD, List.getElem?_eq_getElem h1, List.getElem?_eq_getElem h2] using this
theorem eqL_false_of {xs ys : List Int} (j : Nat) (h : xs.getD j 0 ≠ ys.getD j 0) : eqL xs ys = false := by
  cases hq : eqL xs ys with
  | false => rfl
  | true => rw [eqL_true] at hq; subst hq; exact absurd rfl h
theorem eqL_false_len {xs ys : List Int} (h : xs.length ≠ ys.length) : eqL xs ys = false := by
  cases hq : eqL xs ys with
  | false => rfl
  | true => rw [eqL_true] at hq; subst hq; exact absurd rfl h

/-- The numbers k, k+1, .. that a marking writes. -/
def marks (k : Int) (n : Nat) : List Int := (List.range n).map fun (j : Nat) => k + (j : Int)
theorem marks_length (k : Int) (n : Nat) : (marks k n).length = n := by simp [marks]
theorem marks_getD (k : Int) (n j : Nat) (h : j < n) : (marks k n).getD j 0 = k + j := by simp [marks, List.getD, h]
/-- A list whose first j numbers have been replaced by marks. -/
def markL (xs : List Int) (k : Int) (j : Nat) : List Int := marks k j ++ xs.drop j
theorem markL_length (xs : List Int) (k : Int) (j : Nat) (h : j ≤ xs.length) : (markL xs k j).length = xs.length := by
  simp [markL, marks_length]; omega
theorem markL_zero (xs : List Int) (k : Int) : markL xs k 0 = xs := by simp [markL, marks]
theorem markL_all (xs : List Int) (k : Int) : markL xs k xs.length = marks k xs.length := by simp [markL]
theorem markL_set (xs : List Int) (k : Int) (j : Nat) (h : j < xs.length) : (markL xs k j).set j (k + j) = markL xs k (j + 1) := by
  unfold markL
  have h2 : ¬ j < (marks k j).length := by rw [marks_length]; omega
  have h3 : j - (marks k j).length = 0 := by rw [marks_length]; omega
  rw [List.set_append, if_neg h2, h3, List.drop_eq_getElem_cons h, List.set_cons_zero]
  simp [marks, List.range_succ]

set_option maxHeartbeats 400000 in
theorem c_eqIntS (a b : Option Addr) (n m c d : Nat) (xs ys : List Int) (w : World) (hx : Row .i64 w a n xs) (hy : Row .i64 w b m ys) (hn : n ≤ 1048576) (hm : m ≤ 1048576) :
    Calls Tryd.prog 29 #[.slice a n c, .slice b m d] w fun e w' => e = .returned (.bool (eqL xs ys)) ∧ ∃ q, w' = w.drewN q := by
  obtain ⟨hl, hrow⟩ := hx
  obtain ⟨hl', hrow'⟩ := hy
  subst hl hl'
  by_cases hne : xs.length = ys.length
  · have hq : ((xs.length : Int) != (ys.length : Int)) = false := by rw [bne_eq_false_iff_eq]; omega
    have HN := Lib.hid hne; clear hne
    go_enter Tryd.func29, Tryd.ntmps29
    go_wp2
    go_loopw [5] (fun i wr => ∃ k : Nat, i = .int .i64 k ∧ k ≤ xs.length ∧ (∀ j, j < k → xs.getD j 0 = ys.getD j 0) ∧ ∃ q, wr = w.drewN q) (fun i _ => xs.length - (intOf i).toNat)
    case atStart => exact ⟨0, rfl, Nat.zero_le _, fun j hj => by omega, 0, rfl⟩
    case round =>
      obtain ⟨k, rfl, hk, hall, q, rfl⟩ := hrel
      have HA := Lib.hid hall; clear hall
      by_cases hlt : k < xs.length
      · have hlt' : k < ys.length := by have := HN.out; omega
        obtain ⟨b1, off1, rfl, hb1, hc1⟩ := hrow (by omega)
        obtain ⟨b2, off2, rfl, hb2, hc2⟩ := hrow' (by omega)
        have g1 : w.cell? ⟨b1, off1 + k, none⟩ = some (.int .i64 (xs.getD k 0)) := hc1 k hlt
        have g2 : w.cell? ⟨b2, off2 + k, none⟩ = some (.int .i64 (ys.getD k 0)) := hc2 k hlt'
        have hi0 : (0 : Int) ≤ k := by omega
        have hi1 : (k : Int) < (xs.length : Int) := by omega
        have hi2 : (k : Int) < (ys.length : Int) := by omega
        clear hc1 hc2 hrow hrow'
        obtain ⟨x, hx⟩ : ∃ x, x = xs.getD k 0 := ⟨_, rfl⟩
        obtain ⟨y, hy⟩ : ∃ y, y = ys.getD k 0 := ⟨_, rfl⟩
        rw [← hx] at g1
        rw [← hy] at g2
        by_cases heq : x = y
        · have ht : (x != y) = false := by rw [bne_eq_false_iff_eq]; exact heq
          have HE := Lib.hid (hx.symm.trans (heq.trans hy))
          clear hx hy heq
          go_wp2_with fail
          go_quiet (fail)
          go_wp2
          go_roundw
          case rel =>
            refine ⟨k + 1, by go_num, by omega, fun j hj => ?_, by first | exact ⟨_, rfl⟩ | exact drewN_ex _ _ _⟩
            rcases Nat.lt_or_eq_of_le (Nat.le_of_lt_succ hj) with h | rfl
            · exact HA.out j h
            · exact HE.out
          case measure => simp [intOf]; omega
        · have ht : (x != y) = true := by rw [bne_iff_ne]; exact heq
          have hf := eqL_false_of (xs := xs) (ys := ys) k (by rw [← hx, ← hy]; exact heq)
          have HF := Lib.hid hf; clear hf heq hx hy
          go_wp2_with fail
          go_quiet (fail)
          go_wp2
          go_ret
          exact ⟨ret_bool HF.out.symm, drewN_ex _ _ _⟩
      · have hf : eqL xs ys = true := eqL_of_getD HN.out (fun j hj => HA.out j (by omega))
        have HF := Lib.hid hf; clear hf
        go_wp2
        go_ret
        exact ⟨ret_bool HF.out.symm, _, rfl⟩
  · have hq : ((xs.length : Int) != (ys.length : Int)) = true := by rw [bne_iff_ne]; omega
    have hf := eqL_false_len hne
    have HF := Lib.hid hf; clear hf hne
    go_enter Tryd.func29, Tryd.ntmps29
    go_wp2
    go_ret
    exact ⟨ret_bool HF.out.symm, 0, rfl⟩
set_option maxHeartbeats 400000 in
theorem c_markIntS (a : Option Addr) (n c : Nat) (xs : List Int) (k0 : Int) (base : Nat) (w : World) (h : OwnI w base 3 .i64 (.slice a n c) xs) (hn : n ≤ 1048576) (h0 : 0 ≤ k0) (h1 : k0 ≤ 1000000000) :
    Calls Tryd.prog 30 #[.slice a n c, .int .i64 k0] w fun e w' => e = .returned (.int .i64 (k0 + n)) ∧ OwnI w' base 3 .i64 (.slice a n c) (marks k0 n) ∧ w.grownBy w' (Value.slice a n c).ownBlock := by
  have hl := h.len
  subst hl
  have hall := markL_all xs k0
  have HALL := Lib.hid hall; clear hall
  go_enter Tryd.func30, Tryd.ntmps30
  go_wp2
  go_loopw [1, 5] (fun kv i wr => ∃ k : Nat, i = .int .i64 k ∧ k ≤ xs.length ∧ kv = .int .i64 (k0 + k) ∧ OwnI wr base 3 .i64 (.slice a xs.length c) (markL xs k0 k) ∧ w.grownBy wr (Value.slice a xs.length c).ownBlock) (fun _ i _ => xs.length - (intOf i).toNat)
  case atStart => exact ⟨0, rfl, Nat.zero_le _, by simp, by rw [markL_zero]; exact h, World.grownBy.refl _ _⟩
  case round =>
    clear h
    obtain ⟨k, rfl, hk, rfl, hown, hg⟩ := hrel
    by_cases hlt : k < xs.length
    · obtain ⟨b, off, rfl, hblt, hc⟩ := hown.row.at_ (by omega)
      have hoff : off = 0 := hown.off.1
      subst hoff
      have hl : k < (markL xs k0 k).length := by rw [markL_length _ _ _ hk]; exact hlt
      have hcell := hown.cell hl
      have hfree := hown.free k
      have hset := hown.set k (k0 + k)
      rw [markL_set _ _ _ hlt] at hset
      have hg1 : w.grownBy (wr.setCell ⟨b, k, none⟩ (.int .i64 (k0 + k))) (some b) :=
        ⟨hg.os, hg.tape, hg.output, by simpa using hg.size, fun i hi hne => (Below.heap_setCell wr ⟨b, k, none⟩ (.int .i64 (k0 + k)) i (fun e => hne (by rw [e]))).trans (hg.block i hi hne)⟩
      have HS := Lib.hid hset; clear hset
      have HG := Lib.hid hg1; clear hg1 hg hown hc hl
      go_wp2
      go_roundw
      case rel => exact ⟨k + 1, by go_num, by omega, by go_num, HS.out, HG.out⟩
      case measure => simp [intOf]; omega
    · obtain rfl : k = xs.length := by omega
      rw [HALL.out] at hown
      go_wp2
      go_ret
      exact ⟨rfl, hown, hg⟩
set_option maxHeartbeats 400000 in
theorem c_heldIntS (a : Option Addr) (n c : Nat) (k0 : Int) (w : World) (h : Row .i64 w a n (marks k0 n)) (hn : n ≤ 1048576) (h0 : 0 ≤ k0) (h1 : k0 ≤ 1000000000) :
    Calls Tryd.prog 31 #[.slice a n c, .int .i64 k0] w fun e w' => e = .returned (.int .i64 (k0 + n)) ∧ ∃ q, w' = w.drewN q := by
  obtain ⟨hl, hrow⟩ := h
  clear hl
  go_enter Tryd.func31, Tryd.ntmps31
  go_wp2
  go_loopw [1, 5] (fun kv i wr => ∃ k : Nat, i = .int .i64 k ∧ k ≤ n ∧ kv = .int .i64 (k0 + k) ∧ ∃ q, wr = w.drewN q) (fun _ i _ => n - (intOf i).toNat)
  case atStart => exact ⟨0, rfl, Nat.zero_le _, by simp, 0, rfl⟩
  case round =>
    obtain ⟨k, rfl, hk, rfl, q, rfl⟩ := hrel
    by_cases hlt : k < n
    · obtain ⟨b, off, rfl, hblt, hc⟩ := hrow (by omega)
      have g1 := hc k hlt
      rw [marks_getD _ _ _ hlt] at g1
      clear hc hrow
      have ht : ((k0 + (k : Int)) != (k0 + (k : Int))) = false := by rw [bne_eq_false_iff_eq]
      go_wp2
      go_roundw
      case rel => exact ⟨k + 1, by go_num, by omega, by go_num, q, rfl⟩
      case measure => simp [intOf]; omega
    · obtain rfl : k = n := by omega
      go_wp2
      go_ret
      exact ⟨rfl, q, rfl⟩
end Go.Proofs.YtfcgijnfiiaepaaDoor
