/- Contracts of the law's own functions on slices of edges. -/
import Derived.Test.YthiokplkimdojaaFlat
namespace Go.Proofs.Ythiokplkimdojaa
set_option linter.unusedSimpArgs false
set_option linter.unusedVariables false
open Go.RowKit

theorem EEdge : FlatElem Try.prog 47 76 3 24 := ⟨Try.underlying47, by kernel_rfl, by decide, by decide⟩
theorem c_szEdgeS (a : Option Addr) (n c : Nat) (left : Int) (w : World) (h0 : 0 ≤ left) (h1 : left ≤ 1048576) (hn : n ≤ maxLen) :
    Calls Try.prog 37 #[.slice a n c, .int .i64 left] w fun e w' => e = .returned (.int .i64 (if left < (n : Int) then -1 else left - n)) ∧ Below w.heap.size w w' := by
  have hm : maxLen ≤ 9223372036854775807 := by decide
  have hw : IntKind.i64.wrap (left - (n : Int)) = left - n := IntWalk.i64_in _ (by omega)
  clear hm
  by_cases hlt : left < (n : Int)
  · rw [if_pos hlt]
    have hl2 : left - (n : Int) < 0 := by omega
    go_enter Try.func37, Try.ntmps37
    go_wp2
    go_ret
    exact ⟨rfl, Below.refl _ _⟩
  · rw [if_neg hlt]
    have hl2 : ¬ left - (n : Int) < 0 := by omega
    go_enter Try.func37, Try.ntmps37
    go_wp2
    go_ret
    exact ⟨rfl, Below.refl _ _⟩
theorem c_szEdgeS_ok (a : Option Addr) (n c : Nat) (left : Int) (w : World) (h0 : 0 ≤ left) (h1 : left ≤ 1048576) (hn : n ≤ maxLen) (h : (n : Int) ≤ left) :
    Calls Try.prog 37 #[.slice a n c, .int .i64 left] w fun e w' => e = .returned (.int .i64 (left - n)) ∧ Below w.heap.size w w' :=
  (c_szEdgeS a n c left w h0 h1 hn).mono fun _ _ hh => by rw [if_neg (show ¬ left < (n : Int) by omega)] at hh; exact hh
theorem c_szEdgeS_no (a : Option Addr) (n c : Nat) (left : Int) (w : World) (h0 : 0 ≤ left) (h1 : left ≤ 1048576) (hn : n ≤ maxLen) (h : left < (n : Int)) :
    Calls Try.prog 37 #[.slice a n c, .int .i64 left] w fun e w' => e = .returned (.int .i64 (-1)) ∧ Below w.heap.size w w' :=
  (c_szEdgeS a n c left w h0 h1 hn).mono fun _ _ hh => by rw [if_pos h] at hh; exact hh
theorem c_toEdge (x0 x1 x2 : Int) (w : World) :
    Calls Try.prog 81 #[.agg #[.int .i64 x0, .int .i64 x1, .int .i64 x2]] w fun e w' => e = .returned (.agg #[.int .i64 x0, .int .i64 x1, .int .i64 x2]) ∧ Below w.heap.size w w' := by
  go_enter Try.func81, Try.ntmps81
  go_wp2_with fail
  refine bodyPost_ret (v := .agg #[.int .i64 x0, .int .i64 x1, .int .i64 x2]) (by simp [results, Try.results81, go_sem]) rfl ⟨rfl, ?_⟩
  exact (((Below.refl w.heap.size w).alloc (Nat.le_refl _) _).alloc (by simp) _).alloc (by simp; omega) _
set_option maxHeartbeats 1000000 in
theorem c_toEdgeS (a : Option Addr) (n c : Nat) (xs : List Int) (w : World) (h : Row .i64 w a (n * 3) xs) (hn : n ≤ 1048576) :
    Calls Try.prog 39 #[.slice a n c] w fun e w' => e = .returned (.slice (some ⟨w.heap.size, 0, none⟩) n n) ∧ OwnF w' w.heap.size 76 3 (.slice (some ⟨w.heap.size, 0, none⟩) n n) n xs ∧ Below w.heap.size w w' := by
  obtain ⟨hl, hrow⟩ := h
  have HALL := Lib.hid (mixL_all hl)
  go_enter Try.func39, Try.ntmps39
  go_wp2_with (at_make; refine wpList_makeF EEdge (base := w.heap.size) (n := n) rfl (.tmp 6) (.tmp 6) rfl rfl rfl rfl rfl ?_ ?_ ?_; (omega); (exact Nat.le_refl _); intro w1 hown hgrow)
  rw [← mixL_zero xs] at hown
  go_loopw [4] (fun i wr => ∃ k : Nat, i = .int .i64 k ∧ k ≤ n ∧ OwnF wr w.heap.size 76 3 (.slice (some ⟨w.heap.size, 0, none⟩) n n) n (mixL xs (n * 3) (k * 3)) ∧ Below w.heap.size w wr) (fun i _ => n - (intOf i).toNat)
  case atStart => exact ⟨0, rfl, Nat.zero_le _, by rw [Nat.zero_mul]; exact hown, (Below.refl _ _).grown hgrow (Nat.le_refl _) (fun _ h => by cases h)⟩
  case round =>
    clear hown hgrow
    obtain ⟨k, rfl, hk, hown, hb⟩ := hrel
    by_cases hlt : k < n
    · obtain ⟨b, off, rfl, hblt, hc⟩ := hrow (by omega)
      have hs0 : wr.cell? ⟨b, off + k * 3, none⟩ = some (.int .i64 (xs.getD (k * 3) 0)) := (hb.cell (p := ⟨b, off + k * 3, none⟩) hblt).trans (hc (k * 3) (by omega))
      have hs1 : wr.cell? ⟨b, off + k * 3 + 1, none⟩ = some (.int .i64 (xs.getD (k * 3 + 1) 0)) := (hb.cell (p := ⟨b, off + k * 3 + 1, none⟩) hblt).trans (hc (k * 3 + 1) (by omega))
      have hs2 : wr.cell? ⟨b, off + k * 3 + 2, none⟩ = some (.int .i64 (xs.getD (k * 3 + 2) 0)) := (hb.cell (p := ⟨b, off + k * 3 + 2, none⟩) hblt).trans (hc (k * 3 + 2) (by omega))
      obtain ⟨x0, hx0⟩ : ∃ x, x = xs.getD (k * 3) 0 := ⟨_, rfl⟩
      rw [← hx0] at hs0
      have HX0 := Lib.hid hx0
      clear hx0
      obtain ⟨x1, hx1⟩ : ∃ x, x = xs.getD (k * 3 + 1) 0 := ⟨_, rfl⟩
      rw [← hx1] at hs1
      have HX1 := Lib.hid hx1
      clear hx1
      obtain ⟨x2, hx2⟩ : ∃ x, x = xs.getD (k * 3 + 2) 0 := ⟨_, rfl⟩
      rw [← hx2] at hs2
      have HX2 := Lib.hid hx2
      clear hx2
      have hi0 : (0 : Int) ≤ k := by omega
      have hi1 : (k : Int) < (n : Int) := by omega
      have HXS := Lib.hid (show True from trivial)
      go_wp2_with fail
      refine (c_toEdge x0 x1 x2 _).mono ?_
      rintro e w2 ⟨rfl, hb2⟩
      replace hown := hown.below hb2
      replace hb := hb.trans (hb2.mono hb.size)
      have hcell0 := hown.cell (j := k * 3) (by omega)
      have hfree0 := hown.free (k * 3)
      have hcell1 := hown.cell (j := k * 3 + 1) (by omega)
      have hfree1 := hown.free (k * 3 + 1)
      have hcell2 := hown.cell (j := k * 3 + 2) (by omega)
      have hfree2 := hown.free (k * 3 + 2)
      have hx0 := HX0.out
      have hx1 := HX1.out
      have hx2 := HX2.out
      have hset := ((hown.set (k * 3) x0).set (k * 3 + 1) x1).set (k * 3 + 2) x2
      rw [hx0, mixL_set] at hset
      rw [show (k * 3 + 1) = k * 3 + 1 from rfl, hx1, mixL_set] at hset
      rw [show (k * 3 + 2) = k * 3 + 2 from rfl, hx2, mixL_set] at hset
      rw [show k * 3 + 2 + 1 = (k + 1) * 3 by omega] at hset
      rw [← hx2] at hset
      rw [← hx1] at hset
      rw [← hx0] at hset
      have hb1 := ((hb.setCell (p := ⟨w.heap.size, k * 3, none⟩) (Nat.le_refl _) (.int .i64 x0)).setCell (p := ⟨w.heap.size, k * 3 + 1, none⟩) (Nat.le_refl _) (.int .i64 x1)).setCell (p := ⟨w.heap.size, k * 3 + 2, none⟩) (Nat.le_refl _) (.int .i64 x2)
      have HS := Lib.hid hset
      have HB := Lib.hid hb1
      clear hset hb1 hb2 hown hb hc hx0 hx1 hx2
      go_wp2
      go_roundw
      case rel => exact ⟨k + 1, by go_num, by omega, HS.out, HB.out⟩
      case measure => simp [intOf]; omega
    · obtain rfl : k = n := by omega
      rw [HALL.out] at hown
      go_wp2
      go_ret
      exact ⟨rfl, hown, hb⟩
theorem c_eqEdge_same (x0 x1 x2 : Int) (w : World) :
    Calls Try.prog 84 #[.agg #[.int .i64 x0, .int .i64 x1, .int .i64 x2], .agg #[.int .i64 x0, .int .i64 x1, .int .i64 x2]] w fun e w' => e = .returned (.bool true) ∧ Below w.heap.size w w' := by
  have h0 : (x0 != x0) = false := by simp
  have h1 : (x1 != x1) = false := by simp
  have h2 : (x2 != x2) = false := by simp
  go_enter Try.func84, Try.ntmps84
  go_wp2
  go_ret
  exact ⟨rfl, ((Below.refl w.heap.size w).alloc (Nat.le_refl _) _).alloc (by simp) _⟩
set_option maxHeartbeats 1000000 in
theorem c_eqEdgeS_same (a b : Option Addr) (n c d : Nat) (xs : List Int) (w : World) (hx : Row .i64 w a (n * 3) xs) (hy : Row .i64 w b (n * 3) xs) (hn : n ≤ 1048576) :
    Calls Try.prog 41 #[.slice a n c, .slice b n d] w fun e w' => e = .returned (.bool true) ∧ Below w.heap.size w w' := by
  have hne : ((n : Int) != (n : Int)) = false := by simp
  go_enter Try.func41, Try.ntmps41
  go_wp2_with fail
  go_loopw [5] (fun i wr => ∃ k : Nat, i = .int .i64 k ∧ k ≤ n ∧ Below w.heap.size w wr) (fun i _ => n - (intOf i).toNat)
  case atStart => exact ⟨0, rfl, Nat.zero_le _, Below.refl _ _⟩
  case round =>
    obtain ⟨k, rfl, hk, hb⟩ := hrel
    by_cases hlt : k < n
    · obtain ⟨b1, off1, rfl, hb1, hc1⟩ := hx.at_ (by omega)
      obtain ⟨b2, off2, rfl, hb2, hc2⟩ := hy.at_ (by omega)
      have g0 : wr.cell? ⟨b1, off1 + k * 3, none⟩ = some (.int .i64 (xs.getD (k * 3) 0)) := (hb.cell (p := ⟨b1, off1 + k * 3, none⟩) hb1).trans (hc1 (k * 3) (by omega))
      have f0 : wr.cell? ⟨b2, off2 + k * 3, none⟩ = some (.int .i64 (xs.getD (k * 3) 0)) := (hb.cell (p := ⟨b2, off2 + k * 3, none⟩) hb2).trans (hc2 (k * 3) (by omega))
      have g1 : wr.cell? ⟨b1, off1 + k * 3 + 1, none⟩ = some (.int .i64 (xs.getD (k * 3 + 1) 0)) := (hb.cell (p := ⟨b1, off1 + k * 3 + 1, none⟩) hb1).trans (hc1 (k * 3 + 1) (by omega))
      have f1 : wr.cell? ⟨b2, off2 + k * 3 + 1, none⟩ = some (.int .i64 (xs.getD (k * 3 + 1) 0)) := (hb.cell (p := ⟨b2, off2 + k * 3 + 1, none⟩) hb2).trans (hc2 (k * 3 + 1) (by omega))
      have g2 : wr.cell? ⟨b1, off1 + k * 3 + 2, none⟩ = some (.int .i64 (xs.getD (k * 3 + 2) 0)) := (hb.cell (p := ⟨b1, off1 + k * 3 + 2, none⟩) hb1).trans (hc1 (k * 3 + 2) (by omega))
      have f2 : wr.cell? ⟨b2, off2 + k * 3 + 2, none⟩ = some (.int .i64 (xs.getD (k * 3 + 2) 0)) := (hb.cell (p := ⟨b2, off2 + k * 3 + 2, none⟩) hb2).trans (hc2 (k * 3 + 2) (by omega))
      obtain ⟨x0, hx0⟩ : ∃ x, x = xs.getD (k * 3) 0 := ⟨_, rfl⟩
      rw [← hx0] at g0 f0
      obtain ⟨x1, hx1⟩ : ∃ x, x = xs.getD (k * 3 + 1) 0 := ⟨_, rfl⟩
      rw [← hx1] at g1 f1
      obtain ⟨x2, hx2⟩ : ∃ x, x = xs.getD (k * 3 + 2) 0 := ⟨_, rfl⟩
      rw [← hx2] at g2 f2
      have hi0 : (0 : Int) ≤ k := by omega
      have hi1 : (k : Int) < (n : Int) := by omega
      clear hc1 hc2 hx0 hx1 hx2
      replace hb := hb.drew
      go_wp2_with fail
      go_region_held3 (fun w' => w'.cell? ⟨b1, off1 + k * 3, none⟩ = some (.int .i64 x0) ∧ w'.cell? ⟨b2, off2 + k * 3, none⟩ = some (.int .i64 x0) ∧ w'.cell? ⟨b1, off1 + k * 3 + 1, none⟩ = some (.int .i64 x1) ∧ w'.cell? ⟨b2, off2 + k * 3 + 1, none⟩ = some (.int .i64 x1) ∧ w'.cell? ⟨b1, off1 + k * 3 + 2, none⟩ = some (.int .i64 x2) ∧ w'.cell? ⟨b2, off2 + k * 3 + 2, none⟩ = some (.int .i64 x2)) (go_keep)
        (first
          | (go_at_call 84; refine (c_eqEdge_same x0 x1 x2 _).mono ?_; rintro e w2 ⟨rfl, hbz⟩; replace g0 := (hbz.cell (p := ⟨b1, off1 + k * 3, none⟩) (Nat.lt_of_lt_of_le hb1 hb.size)).trans g0; replace f0 := (hbz.cell (p := ⟨b2, off2 + k * 3, none⟩) (Nat.lt_of_lt_of_le hb2 hb.size)).trans f0; replace g1 := (hbz.cell (p := ⟨b1, off1 + k * 3 + 1, none⟩) (Nat.lt_of_lt_of_le hb1 hb.size)).trans g1; replace f1 := (hbz.cell (p := ⟨b2, off2 + k * 3 + 1, none⟩) (Nat.lt_of_lt_of_le hb2 hb.size)).trans f1; replace g2 := (hbz.cell (p := ⟨b1, off1 + k * 3 + 2, none⟩) (Nat.lt_of_lt_of_le hb1 hb.size)).trans g2; replace f2 := (hbz.cell (p := ⟨b2, off2 + k * 3 + 2, none⟩) (Nat.lt_of_lt_of_le hb2 hb.size)).trans f2; replace hb := hb.trans (hbz.mono hb.size)))
      all_goals
        go_wp2
        go_roundw
        case rel => exact ⟨k + 1, by go_num, by omega, hb⟩
        case measure => simp [intOf]; omega
    · obtain rfl : k = n := by omega
      go_wp2
      go_ret
      exact ⟨rfl, hb⟩
set_option maxHeartbeats 1000000 in
theorem c_markEdgeS (n : Nat) (xs : List Int) (k0 : Int) (base g : Nat) (w : World) (h : OwnF w base 76 3 (.slice (some ⟨g, 0, none⟩) n n) n xs) (hn : n ≤ 1048576) (h0 : 0 ≤ k0) (h1 : k0 ≤ 1000000000) :
    Calls Try.prog 42 #[.slice (some ⟨g, 0, none⟩) n n, .int .i64 k0] w fun e w' => e = .returned (.int .i64 (k0 + 3 * n)) ∧ (∃ ys, OwnF w' base 76 3 (.slice (some ⟨g, 0, none⟩) n n) n ys) ∧ w.grownBy w' (Value.slice (some ⟨g, 0, none⟩) n n).ownBlock := by
  go_enter Try.func42, Try.ntmps42
  go_wp2_with fail
  go_loopw [1, 5] (fun v i wr => ∃ (k : Nat) (ys : List Int), i = .int .i64 k ∧ k ≤ n ∧ v = .int .i64 (k0 + 3 * k) ∧ OwnF wr base 76 3 (.slice (some ⟨g, 0, none⟩) n n) n ys ∧ w.grownBy wr (some g)) (fun _ i _ => n - (intOf i).toNat)
  case atStart => exact ⟨0, xs, rfl, Nat.zero_le _, by simp, h, World.grownBy.refl w _⟩
  case round =>
    obtain ⟨k, ys, rfl, hk, rfl, hown, hg⟩ := hrel
    by_cases hlt : k < n
    · have hi0 : (0 : Int) ≤ k := by omega
      have hi1 : (k : Int) < (n : Int) := by omega
      obtain ⟨q, hq⟩ : ∃ q, q = k0 + 3 * (k : Int) := ⟨_, rfl⟩
      have hqq : k0 + 3 * ((k + 1 : Nat) : Int) = q + 1 + 1 + 1 := by omega
      have HQ := Lib.hid hqq
      rw [← hq]
      have hcell0 := hown.cell (j := k * 3) (by omega)
      have hfree0 := hown.free (k * 3)
      have hcell1 := hown.cell (j := k * 3 + 1) (by omega)
      have hfree1 := hown.free (k * 3 + 1)
      have hcell2 := hown.cell (j := k * 3 + 2) (by omega)
      have hfree2 := hown.free (k * 3 + 2)
      have hw1 : IntKind.i64.wrap (q + 1) = q + 1 := IntWalk.i64_in _ (by omega)
      have hw2 : IntKind.i64.wrap (q + 1 + 1) = q + 1 + 1 := IntWalk.i64_in _ (by omega)
      have hw3 : IntKind.i64.wrap (q + 1 + 1 + 1) = q + 1 + 1 + 1 := IntWalk.i64_in _ (by omega)
      have hset := ((hown.set (k * 3) (q)).set (k * 3 + 1) (q + 1)).set (k * 3 + 2) (q + 1 + 1)
      have hg1 := (grown_trans (grown_trans (grown_trans hg (grownBy_set _ ⟨g, k * 3, none⟩ (.int .i64 (q)))) (grownBy_set _ ⟨g, k * 3 + 1, none⟩ (.int .i64 (q + 1)))) (grownBy_set _ ⟨g, k * 3 + 2, none⟩ (.int .i64 (q + 1 + 1))))
      have HS := Lib.hid hset
      have HG := Lib.hid hg1
      clear hset hg1 hqq hown hg hq
      go_wp2
      go_roundw
      case rel => exact ⟨k + 1, _, by go_num, by omega, by rw [HQ.out] <;> first | rfl | (congr 1; omega), HS.out, HG.out⟩
      case measure => simp [intOf]; omega
    · obtain rfl : k = n := by omega
      go_wp2
      go_ret
      exact ⟨rfl, ⟨_, hown⟩, hg⟩
end Go.Proofs.Ythiokplkimdojaa
