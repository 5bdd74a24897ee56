/- Contracts of the law's own functions on slices of blocks. -/
import Derived.Test.YthiokplkimdojaaFlat
namespace Go.Proofs.Ythiokplkimdojaa
set_option linter.unusedSimpArgs false
set_option linter.unusedVariables false
open Go.RowKit

theorem EBlock : FlatElem Try.prog 38 66 2 16 := ⟨Try.underlying38, by kernel_rfl, by decide, by decide⟩
theorem c_szBlockS (a : Option Addr) (n c : Nat) (left : Int) (w : World) (h0 : 0 ≤ left) (h1 : left ≤ 1048576) (hn : n ≤ maxLen) :
    Calls Try.prog 25 #[.slice a n c, .int .i64 left] w fun e w' => e = .returned (.int .i64 (if left < (n : Int) then -1 else left - n)) ∧ Below w.heap.size w w' := by
  have hm : maxLen ≤ 9223372036854775807 := by decide
  have hw : IntKind.i64.wrap (left - (n : Int)) = left - n := IntWalk.i64_in _ (by omega)
  clear hm
  by_cases hlt : left < (n : Int)
  · rw [if_pos hlt]
    have hl2 : left - (n : Int) < 0 := by omega
    go_enter Try.func25, Try.ntmps25
    go_wp2
    go_ret
    exact ⟨rfl, Below.refl _ _⟩
  · rw [if_neg hlt]
    have hl2 : ¬ left - (n : Int) < 0 := by omega
    go_enter Try.func25, Try.ntmps25
    go_wp2
    go_ret
    exact ⟨rfl, Below.refl _ _⟩
theorem c_szBlockS_ok (a : Option Addr) (n c : Nat) (left : Int) (w : World) (h0 : 0 ≤ left) (h1 : left ≤ 1048576) (hn : n ≤ maxLen) (h : (n : Int) ≤ left) :
    Calls Try.prog 25 #[.slice a n c, .int .i64 left] w fun e w' => e = .returned (.int .i64 (left - n)) ∧ Below w.heap.size w w' :=
  (c_szBlockS a n c left w h0 h1 hn).mono fun _ _ hh => by rw [if_neg (show ¬ left < (n : Int) by omega)] at hh; exact hh
theorem c_szBlockS_no (a : Option Addr) (n c : Nat) (left : Int) (w : World) (h0 : 0 ≤ left) (h1 : left ≤ 1048576) (hn : n ≤ maxLen) (h : left < (n : Int)) :
    Calls Try.prog 25 #[.slice a n c, .int .i64 left] w fun e w' => e = .returned (.int .i64 (-1)) ∧ Below w.heap.size w w' :=
  (c_szBlockS a n c left w h0 h1 hn).mono fun _ _ hh => by rw [if_pos h] at hh; exact hh
theorem c_toBlock (x0 x1 : Int) (w : World) :
    Calls Try.prog 70 #[.agg #[.int .i64 x0, .int .i64 x1]] w fun e w' => e = .returned (.agg #[.int .i64 x0, .int .i64 x1]) ∧ Below w.heap.size w w' := by
  go_enter Try.func70, Try.ntmps70
  go_wp2_with fail
  refine bodyPost_ret (v := .agg #[.int .i64 x0, .int .i64 x1]) (by simp [results, Try.results70, go_sem]) rfl ⟨rfl, ?_⟩
  exact (((Below.refl w.heap.size w).alloc (Nat.le_refl _) _).alloc (by simp) _).alloc (by simp; omega) _
set_option maxHeartbeats 1000000 in
theorem c_toBlockS (a : Option Addr) (n c : Nat) (xs : List Int) (w : World) (h : Row .i64 w a (n * 2) xs) (hn : n ≤ 1048576) :
    Calls Try.prog 27 #[.slice a n c] w fun e w' => e = .returned (.slice (some ⟨w.heap.size, 0, none⟩) n n) ∧ OwnF w' w.heap.size 66 2 (.slice (some ⟨w.heap.size, 0, none⟩) n n) n xs ∧ Below w.heap.size w w' := by
  obtain ⟨hl, hrow⟩ := h
  have HALL := Lib.hid (mixL_all hl)
  go_enter Try.func27, Try.ntmps27
  go_wp2_with (at_make; refine wpList_makeF EBlock (base := w.heap.size) (n := n) rfl (.tmp 6) (.tmp 6) rfl rfl rfl rfl rfl ?_ ?_ ?_; (omega); (exact Nat.le_refl _); intro w1 hown hgrow)
  rw [← mixL_zero xs] at hown
  go_loopw [4] (fun i wr => ∃ k : Nat, i = .int .i64 k ∧ k ≤ n ∧ OwnF wr w.heap.size 66 2 (.slice (some ⟨w.heap.size, 0, none⟩) n n) n (mixL xs (n * 2) (k * 2)) ∧ Below w.heap.size w wr) (fun i _ => n - (intOf i).toNat)
  case atStart => exact ⟨0, rfl, Nat.zero_le _, by rw [Nat.zero_mul]; exact hown, (Below.refl _ _).grown hgrow (Nat.le_refl _) (fun _ h => by cases h)⟩
  case round =>
    clear hown hgrow
    obtain ⟨k, rfl, hk, hown, hb⟩ := hrel
    by_cases hlt : k < n
    · obtain ⟨b, off, rfl, hblt, hc⟩ := hrow (by omega)
      have hs0 : wr.cell? ⟨b, off + k * 2, none⟩ = some (.int .i64 (xs.getD (k * 2) 0)) := (hb.cell (p := ⟨b, off + k * 2, none⟩) hblt).trans (hc (k * 2) (by omega))
      have hs1 : wr.cell? ⟨b, off + k * 2 + 1, none⟩ = some (.int .i64 (xs.getD (k * 2 + 1) 0)) := (hb.cell (p := ⟨b, off + k * 2 + 1, none⟩) hblt).trans (hc (k * 2 + 1) (by omega))
      obtain ⟨x0, hx0⟩ : ∃ x, x = xs.getD (k * 2) 0 := ⟨_, rfl⟩
      rw [← hx0] at hs0
      have HX0 := Lib.hid hx0
      clear hx0
      obtain ⟨x1, hx1⟩ : ∃ x, x = xs.getD (k * 2 + 1) 0 := ⟨_, rfl⟩
      rw [← hx1] at hs1
      have HX1 := Lib.hid hx1
      clear hx1
      have hi0 : (0 : Int) ≤ k := by omega
      have hi1 : (k : Int) < (n : Int) := by omega
      have HXS := Lib.hid (show True from trivial)
      go_wp2_with fail
      refine (c_toBlock x0 x1 _).mono ?_
      rintro e w2 ⟨rfl, hb2⟩
      replace hown := hown.below hb2
      replace hb := hb.trans (hb2.mono hb.size)
      have hcell0 := hown.cell (j := k * 2) (by omega)
      have hfree0 := hown.free (k * 2)
      have hcell1 := hown.cell (j := k * 2 + 1) (by omega)
      have hfree1 := hown.free (k * 2 + 1)
      have hx0 := HX0.out
      have hx1 := HX1.out
      have hset := (hown.set (k * 2) x0).set (k * 2 + 1) x1
      rw [hx0, mixL_set] at hset
      rw [show (k * 2 + 1) = k * 2 + 1 from rfl, hx1, mixL_set] at hset
      rw [show k * 2 + 1 + 1 = (k + 1) * 2 by omega] at hset
      rw [← hx1] at hset
      rw [← hx0] at hset
      have hb1 := (hb.setCell (p := ⟨w.heap.size, k * 2, none⟩) (Nat.le_refl _) (.int .i64 x0)).setCell (p := ⟨w.heap.size, k * 2 + 1, none⟩) (Nat.le_refl _) (.int .i64 x1)
      have HS := Lib.hid hset
      have HB := Lib.hid hb1
      clear hset hb1 hb2 hown hb hc hx0 hx1
      go_wp2
      go_roundw
      case rel => exact ⟨k + 1, by go_num, by omega, HS.out, HB.out⟩
      case measure => simp [intOf]; omega
    · obtain rfl : k = n := by omega
      rw [HALL.out] at hown
      go_wp2
      go_ret
      exact ⟨rfl, hown, hb⟩
theorem c_eqBlock_same (x0 x1 : Int) (w : World) :
    Calls Try.prog 73 #[.agg #[.int .i64 x0, .int .i64 x1], .agg #[.int .i64 x0, .int .i64 x1]] w fun e w' => e = .returned (.bool true) ∧ Below w.heap.size w w' := by
  have h0 : (x0 != x0) = false := by simp
  have h1 : (x1 != x1) = false := by simp
  go_enter Try.func73, Try.ntmps73
  go_wp2
  go_ret
  exact ⟨rfl, ((Below.refl w.heap.size w).alloc (Nat.le_refl _) _).alloc (by simp) _⟩
set_option maxHeartbeats 1000000 in
theorem c_eqBlockS_same (a b : Option Addr) (n c d : Nat) (xs : List Int) (w : World) (hx : Row .i64 w a (n * 2) xs) (hy : Row .i64 w b (n * 2) xs) (hn : n ≤ 1048576) :
    Calls Try.prog 29 #[.slice a n c, .slice b n d] w fun e w' => e = .returned (.bool true) ∧ Below w.heap.size w w' := by
  have hne : ((n : Int) != (n : Int)) = false := by simp
  go_enter Try.func29, Try.ntmps29
  go_wp2_with fail
  go_loopw [5] (fun i wr => ∃ k : Nat, i = .int .i64 k ∧ k ≤ n ∧ Below w.heap.size w wr) (fun i _ => n - (intOf i).toNat)
  case atStart => exact ⟨0, rfl, Nat.zero_le _, Below.refl _ _⟩
  case round =>
    obtain ⟨k, rfl, hk, hb⟩ := hrel
    by_cases hlt : k < n
    · obtain ⟨b1, off1, rfl, hb1, hc1⟩ := hx.at_ (by omega)
      obtain ⟨b2, off2, rfl, hb2, hc2⟩ := hy.at_ (by omega)
      have g0 : wr.cell? ⟨b1, off1 + k * 2, none⟩ = some (.int .i64 (xs.getD (k * 2) 0)) := (hb.cell (p := ⟨b1, off1 + k * 2, none⟩) hb1).trans (hc1 (k * 2) (by omega))
      have f0 : wr.cell? ⟨b2, off2 + k * 2, none⟩ = some (.int .i64 (xs.getD (k * 2) 0)) := (hb.cell (p := ⟨b2, off2 + k * 2, none⟩) hb2).trans (hc2 (k * 2) (by omega))
      have g1 : wr.cell? ⟨b1, off1 + k * 2 + 1, none⟩ = some (.int .i64 (xs.getD (k * 2 + 1) 0)) := (hb.cell (p := ⟨b1, off1 + k * 2 + 1, none⟩) hb1).trans (hc1 (k * 2 + 1) (by omega))
      have f1 : wr.cell? ⟨b2, off2 + k * 2 + 1, none⟩ = some (.int .i64 (xs.getD (k * 2 + 1) 0)) := (hb.cell (p := ⟨b2, off2 + k * 2 + 1, none⟩) hb2).trans (hc2 (k * 2 + 1) (by omega))
      obtain ⟨x0, hx0⟩ : ∃ x, x = xs.getD (k * 2) 0 := ⟨_, rfl⟩
      rw [← hx0] at g0 f0
      obtain ⟨x1, hx1⟩ : ∃ x, x = xs.getD (k * 2 + 1) 0 := ⟨_, rfl⟩
      rw [← hx1] at g1 f1
      have hi0 : (0 : Int) ≤ k := by omega
      have hi1 : (k : Int) < (n : Int) := by omega
      clear hc1 hc2 hx0 hx1
      replace hb := hb.drew
      go_wp2_with fail
      go_region_held3 (fun w' => w'.cell? ⟨b1, off1 + k * 2, none⟩ = some (.int .i64 x0) ∧ w'.cell? ⟨b2, off2 + k * 2, none⟩ = some (.int .i64 x0) ∧ w'.cell? ⟨b1, off1 + k * 2 + 1, none⟩ = some (.int .i64 x1) ∧ w'.cell? ⟨b2, off2 + k * 2 + 1, none⟩ = some (.int .i64 x1)) (go_keep)
        (first
          | (go_at_call 73; refine (c_eqBlock_same x0 x1 _).mono ?_; rintro e w2 ⟨rfl, hbz⟩; replace g0 := (hbz.cell (p := ⟨b1, off1 + k * 2, none⟩) (Nat.lt_of_lt_of_le hb1 hb.size)).trans g0; replace f0 := (hbz.cell (p := ⟨b2, off2 + k * 2, none⟩) (Nat.lt_of_lt_of_le hb2 hb.size)).trans f0; replace g1 := (hbz.cell (p := ⟨b1, off1 + k * 2 + 1, none⟩) (Nat.lt_of_lt_of_le hb1 hb.size)).trans g1; replace f1 := (hbz.cell (p := ⟨b2, off2 + k * 2 + 1, none⟩) (Nat.lt_of_lt_of_le hb2 hb.size)).trans f1; replace hb := hb.trans (hbz.mono hb.size)))
      all_goals
        go_wp2
        go_roundw
        case rel => exact ⟨k + 1, by go_num, by omega, hb⟩
        case measure => simp [intOf]; omega
    · obtain rfl : k = n := by omega
      go_wp2
      go_ret
      exact ⟨rfl, hb⟩
set_option maxHeartbeats 1000000 in
theorem c_markBlockS (n : Nat) (xs : List Int) (k0 : Int) (base g : Nat) (w : World) (h : OwnF w base 66 2 (.slice (some ⟨g, 0, none⟩) n n) n xs) (hn : n ≤ 1048576) (h0 : 0 ≤ k0) (h1 : k0 ≤ 1000000000) :
    Calls Try.prog 30 #[.slice (some ⟨g, 0, none⟩) n n, .int .i64 k0] w fun e w' => e = .returned (.int .i64 (k0 + 2 * n)) ∧ (∃ ys, OwnF w' base 66 2 (.slice (some ⟨g, 0, none⟩) n n) n ys) ∧ w.grownBy w' (Value.slice (some ⟨g, 0, none⟩) n n).ownBlock := by
  go_enter Try.func30, Try.ntmps30
  go_wp2_with fail
  go_loopw [1, 5] (fun v i wr => ∃ (k : Nat) (ys : List Int), i = .int .i64 k ∧ k ≤ n ∧ v = .int .i64 (k0 + 2 * k) ∧ OwnF wr base 66 2 (.slice (some ⟨g, 0, none⟩) n n) n ys ∧ w.grownBy wr (some g)) (fun _ i _ => n - (intOf i).toNat)
  case atStart => exact ⟨0, xs, rfl, Nat.zero_le _, by simp, h, World.grownBy.refl w _⟩
  case round =>
    obtain ⟨k, ys, rfl, hk, rfl, hown, hg⟩ := hrel
    by_cases hlt : k < n
    · have hi0 : (0 : Int) ≤ k := by omega
      have hi1 : (k : Int) < (n : Int) := by omega
      obtain ⟨q, hq⟩ : ∃ q, q = k0 + 2 * (k : Int) := ⟨_, rfl⟩
      have hqq : k0 + 2 * ((k + 1 : Nat) : Int) = q + 1 + 1 := by omega
      have HQ := Lib.hid hqq
      rw [← hq]
      have hcell0 := hown.cell (j := k * 2) (by omega)
      have hfree0 := hown.free (k * 2)
      have hcell1 := hown.cell (j := k * 2 + 1) (by omega)
      have hfree1 := hown.free (k * 2 + 1)
      have hw1 : IntKind.i64.wrap (q + 1) = q + 1 := IntWalk.i64_in _ (by omega)
      have hw2 : IntKind.i64.wrap (q + 1 + 1) = q + 1 + 1 := IntWalk.i64_in _ (by omega)
      have hset := (hown.set (k * 2) (q)).set (k * 2 + 1) (q + 1)
      have hg1 := (grown_trans (grown_trans hg (grownBy_set _ ⟨g, k * 2, none⟩ (.int .i64 (q)))) (grownBy_set _ ⟨g, k * 2 + 1, none⟩ (.int .i64 (q + 1))))
      have HS := Lib.hid hset
      have HG := Lib.hid hg1
      clear hset hg1 hqq hown hg hq
      go_wp2
      go_roundw
      case rel => exact ⟨k + 1, _, by go_num, by omega, by rw [HQ.out] <;> first | rfl | (congr 1; omega), HS.out, HG.out⟩
      case measure => simp [intOf]; omega
    · obtain rfl : k = n := by omega
      go_wp2
      go_ret
      exact ⟨rfl, ⟨_, hown⟩, hg⟩
end Go.Proofs.Ythiokplkimdojaa
