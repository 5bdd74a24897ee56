/- Contracts of GreatestVector, both packages. -/
import Derived.Test.YtijdjdekdcoeiaaViol
import Derived.Test.YtijdjdekdcoeiaaMake
namespace Go.Proofs.Ytijdjdekdcoeiaa
set_option linter.unusedSimpArgs false
set_option linter.unusedVariables false
open Go.RowKit

def greatV (xs ys : List Int) (k : Nat) : Int := max (xs.getD k 0) (ys.getD k 0)
def greatL (xs ys : List Int) : List Int := if fitB xs ys then tabTo (greatV xs ys) xs.length else []
theorem fill_set (val : Nat → Int) (m k : Nat) (h : k < m) : (tabTo val k ++ List.replicate (m - k) 0).set k (val k) = tabTo val (k + 1) ++ List.replicate (m - (k + 1)) 0 := by
  obtain ⟨d, rfl⟩ : ∃ d, m = k + 1 + d := ⟨m - (k + 1), by omega⟩
  rw [show k + 1 + d - k = d + 1 by omega, show k + 1 + d - (k + 1) = d by omega, tabTo_succ, List.replicate_succ, List.set_append_right _ _ (by rw [tabTo_length]; exact Nat.le_refl _)]
  simp [tabTo_length]
set_option maxHeartbeats 1000000 in
theorem c_spec_GreatestVector (a : Option Addr) (n c : Nat) (xs : List Int) (b : Option Addr) (m d : Nat) (ys : List Int) (w : World) (hx : Row .i64 w a n xs) (hn : n ≤ 1048576) (hy : Row .i64 w b m ys) (hm : m ≤ 1048576) :
    Calls Try.prog 20 #[.slice a n c, .slice b m d] w (RetIntsB 3 (greatL xs ys) (fitB xs ys) w) := by
  have hl := hx.len
  have hl' := hy.len
  subst hl hl'
  have hv0 : OwnI (w.alloc (.cells #[] 3)) w.heap.size 3 .i64 (.slice (some ⟨w.heap.size, 0, none⟩) 0 0) [] := World.ownsRow_made w #[] 0 (Nat.le_refl _) (by decide) rfl
  have bel := (Below.refl w.heap.size w).alloc (Nat.le_refl _) (.cells #[] 3)
  have hx' := hx.alloc (.cells #[] 3)
  have hy' := hy.alloc (.cells #[] 3)
  cases hf : fitB xs ys with
  | false =>
    have hr : greatL xs ys = [] := by simp [greatL, hf]
    rw [hr]
    clear hr
    by_cases h0 : xs.length = 0
    · have ht : ¬ ((0 : Int) < (xs.length : Int)) := by omega
      have H0 := Lib.hid h0; clear h0
      go_enter Try.func20, Try.ntmps20
      go_wp2_with fail
      refine wp_loop_rounds 1 ?_
      rw [rounds_succ]
      go_wp2_with fail
      refine (c_l7Fit _ _ _ _ _ _ _ _ _ hx' hy' hn hm).mono ?_
      rw [hf]
      rintro e w' ⟨rfl, q, rfl⟩
      go_wp2_with fail
      go_ret2
      exact ⟨_, 0, rfl, hv0.drewN _, by simp, below_drewN bel _⟩
    · have ht : (0 : Int) < (xs.length : Int) := by omega
      clear h0
      go_enter Try.func20, Try.ntmps20
      go_wp2_with fail
      refine wp_loop_rounds 1 ?_
      rw [rounds_succ]
      go_wp2_with fail
      refine (c_l7Fit _ _ _ _ _ _ _ _ _ hx' hy' hn hm).mono ?_
      rw [hf]
      rintro e w' ⟨rfl, q, rfl⟩
      go_wp2_with fail
      refine (c_l7Fit _ _ _ _ _ _ _ _ _ (hx'.drewN q) (hy'.drewN q) hn hm).mono ?_
      rw [hf]
      rintro e w' ⟨rfl, q2, rfl⟩
      go_wp2_with fail
      go_ret2
      exact ⟨_, 0, rfl, hv0.drewN _, by simp, below_drewN bel _⟩
  | true =>
    have hr : greatL xs ys = tabTo (greatV xs ys) xs.length := by simp [greatL, hf]
    rw [hr]
    have hf' := hf
    simp only [fitB, Bool.and_eq_true, decide_eq_true_eq] at hf'
    obtain ⟨⟨v1, v2⟩, hlen⟩ := hf'
    obtain ⟨h5, hxb⟩ := vecB_true v1
    have hle : xs.length ≤ ys.length := by omega
    have hle' : ys.length ≤ xs.length := by omega
    have HTL := Lib.hid (tabTo_length (greatV xs ys))
    have HFIT := Lib.hid hf
    clear hxb v1 v2 hlen hr hx' hy' hf
    go_enter Try.func20, Try.ntmps20
    go_wp2_with fail
    go_loopw [6, 7] (fun v i wr => ∃ k : Nat, i = .int .i64 k ∧ k ≤ xs.length ∧ OwnI wr w.heap.size 3 .i64 v (tabTo (greatV xs ys) k) ∧ Below w.heap.size w wr) (fun _ i _ => xs.length - (intOf i).toNat)
    case atStart => exact ⟨0, rfl, Nat.zero_le _, hv0, bel⟩
    case round =>
      clear hv0 bel
      obtain ⟨k, rfl, hk, hown, hb⟩ := hrel
      have hB : w.heap.size ≤ wr.heap.size := hb.size
      by_cases hlt : k < xs.length
      · have hlt' : k < ys.length := by omega
        go_wp2_with fail
        refine (c_l7Fit _ _ _ _ _ _ _ _ _ (hx.below hb) (hy.below hb) hn hm).mono ?_
        rw [HFIT.out]
        rintro e w' ⟨rfl, q2, rfl⟩
        replace hb := below_drewN hb q2
        replace hown := hown.drewN q2
        obtain ⟨wq, hwq⟩ : ∃ z, z = wr.drewN q2 := ⟨_, rfl⟩
        rw [← hwq] at hb hown ⊢
        replace hB : w.heap.size ≤ wq.heap.size := hb.size
        clear hwq wr
        obtain ⟨b1, off1, rfl, hb1, hc1⟩ := (hx.below hb).at_ (by omega)
        obtain ⟨b2, off2, rfl, hb2, hc2⟩ := (hy.below hb).at_ (by omega)
        have g1 : wq.cell? ⟨b1, off1 + k, none⟩ = some (.int .i64 (xs.getD k 0)) := hc1 k hlt
        have g2 : wq.cell? ⟨b2, off2 + k, none⟩ = some (.int .i64 (ys.getD k 0)) := hc2 k hlt'
        have hi0 : (0 : Int) ≤ k := by omega
        have hi1 : (k : Int) < (xs.length : Int) := by omega
        have hi2 : (k : Int) < (ys.length : Int) := by omega
        have htl := HTL.out k
        obtain ⟨x, hx1⟩ : ∃ x, x = xs.getD k 0 := ⟨_, rfl⟩
        obtain ⟨y, hy1⟩ : ∃ y, y = ys.getD k 0 := ⟨_, rfl⟩
        have hst : greatV xs ys k = if x < y then y else x := by show max _ _ = _; rw [← hx1, ← hy1]; split <;> omega
        rw [← hx1] at g1
        rw [← hy1] at g2
        have HSC := Lib.hid (tabTo_succ (greatV xs ys) k)
        have HST := Lib.hid hst
        have hbw1 : b1 < w.heap.size := by
          obtain ⟨b', off', hE, hlt', _⟩ := hx.at_ (by omega)
          cases hE
          exact hlt'
        have hbw2 : b2 < w.heap.size := by
          obtain ⟨b', off', hE, hlt', _⟩ := hy.at_ (by omega)
          cases hE
          exact hlt'
        have gg1 := (hb.cell (p := ⟨b1, off1 + k, none⟩) hbw1).symm.trans g1
        have gg2 := (hb.cell (p := ⟨b2, off2 + k, none⟩) hbw2).symm.trans g2
        clear hst hc1 hc2 hx1 hy1
        replace hb := hb.drew
        replace hown := hown.drew
        go_wp2_with fail
        go_region_held3 (fun w' => w'.cell? ⟨b1, off1 + k, none⟩ = some (.int .i64 x) ∧ w'.cell? ⟨b2, off2 + k, none⟩ = some (.int .i64 y)) (go_keep)
          (first
            | (refine step_app EI (base := w.heap.size) (v := u6) (xs := tabTo (greatV xs ys) k) (us := [if x < y then y else x]) (g := wq.heap.size) (n := 1) (c := 1) rfl (.tmp 20) (.tmp 30) rfl ?_ ?_ rfl rfl rfl ?_ ?_ ?_; (exact hown.alloc _); (exact heap_alloc_new wq.drew _); (show _ + 1 ≤ _; omega); (exact le_alloc hB _); intro v' w2 hown1 hgrow; have hb1 : Below w.heap.size w w2 := below_grown (hb.alloc hb.size _) (hown.alloc _) hgrow (by omega) (by simp; omega); have g1 := (hb1.cell (p := ⟨b1, off1 + k, none⟩) hbw1).trans gg1; have g2 := (hb1.cell (p := ⟨b2, off2 + k, none⟩) hbw2).trans gg2))
        all_goals
          go_wp2
          go_roundw
          case rel => exact ⟨k + 1, by go_num, by omega, by rw [HSC.out, HST.out]; exact hown1, hb1⟩
          case measure => simp [intOf]; omega
      · obtain rfl : k = xs.length := by omega
        obtain ⟨a2, c2, hv, _⟩ := hown.form
        rw [HTL.out] at hv
        subst hv
        go_wp2_with fail
        refine (c_l7Fit _ _ _ _ _ _ _ _ _ (hx.below hb) (hy.below hb) hn hm).mono ?_
        rw [HFIT.out]
        rintro e w' ⟨rfl, q2, rfl⟩
        go_wp2_with fail
        go_ret2
        exact ⟨a2, c2, by rw [HTL.out]; rfl, by rw [HTL.out]; exact hown.drewN _, by rw [HTL.out]; omega, below_drewN hb _⟩
theorem c_great1 (x y : Int) (w : World) :
    Calls Try.prog 50 #[.int .i64 x, .int .i64 y] w fun e w' => e = .returned (.int .i64 (max x y)) ∧ w = w' := by
  go_enter Try.func50, Try.ntmps50
  go_wp2
  all_goals
    go_ret
    exact ⟨ret_int (by omega), rfl⟩
set_option maxHeartbeats 1000000 in
theorem c_combined (a : Option Addr) (n c : Nat) (xs : List Int) (b : Option Addr) (m d : Nat) (ys : List Int) (w : World) (hx : Row .i64 w a n xs) (hn : n ≤ 1048576) (hy : Row .i64 w b m ys) (hm : m ≤ 1048576) :
    Calls Try.prog 49 #[.slice a n c, .slice b m d, .func (.func 50) #[] #[]] w (RetIntsB 3 (greatL xs ys) (fitB xs ys) w) := by
  cases h1 : vecB xs with
  | false =>
    have hf : fitB xs ys = false := by simp [fitB, h1]
    have hr : greatL xs ys = [] := by simp [greatL, hf]
    rw [hf, hr]
    clear hf hr
    go_enter Try.func49, Try.ntmps49
    go_wp2_with fail
    refine (c_isVector _ _ _ _ _ hx hn).mono ?_
    rw [h1]
    rintro e w' ⟨rfl, q, rfl⟩
    go_wp2_with fail
    go_ret2
    exact ⟨none, 0, rfl, OwnI.nil _ _ _ _, by simp, below_drewN (Below.refl _ _) _⟩
  | true =>
    cases h2 : vecB ys with
    | false =>
      have hf : fitB xs ys = false := by simp [fitB, h2]
      have hr : greatL xs ys = [] := by simp [greatL, hf]
      rw [hf, hr]
      clear hf hr
      go_enter Try.func49, Try.ntmps49
      go_wp2_with fail
      refine (c_isVector _ _ _ _ _ hx hn).mono ?_
      rw [h1]
      rintro e w' ⟨rfl, q, rfl⟩
      go_wp2_with fail
      refine (c_isVector _ _ _ _ _ (hy.drewN q) hm).mono ?_
      rw [h2]
      rintro e w' ⟨rfl, q2, rfl⟩
      go_wp2_with fail
      go_ret2
      exact ⟨none, 0, rfl, OwnI.nil _ _ _ _, by simp, below_drewN (Below.refl _ _) _⟩
    | true =>
      have hl := hx.len
      have hl' := hy.len
      by_cases hnm : n = m
      · subst hnm
        have hf : fitB xs ys = true := by simp [fitB, h1, h2]; omega
        have hr : greatL xs ys = tabTo (greatV xs ys) n := by simp [greatL, hf, hl]
        rw [hf, hr]
        obtain ⟨h5, _⟩ := vecB_true h1
        have HTL := Lib.hid (tabTo_length (greatV xs ys))
        have heg := enters_of Try.func50 (by kernel_rfl) rfl
        clear hr hf
        go_enter Try.func49, Try.ntmps49
        go_wp2_with fail
        refine (c_isVector _ _ _ _ _ hx hn).mono ?_
        rw [h1]
        rintro e w' ⟨rfl, q, rfl⟩
        go_wp2_with fail
        refine (c_isVector _ _ _ _ _ (hy.drewN q) hm).mono ?_
        rw [h2]
        rintro e w' ⟨rfl, q2, rfl⟩
        have bel := below_drewN (Below.refl w.heap.size w) (q + q2)
        rw [World.drewN_drewN]
        obtain ⟨wq, hwq⟩ : ∃ z, z = w.drewN (q + q2) := ⟨_, rfl⟩
        rw [← hwq] at bel ⊢
        have hsz : wq.heap.size = w.heap.size := by rw [hwq]; rfl
        clear hwq
        have hB := bel.size
        go_wp2_with (at_make; refine wpList_makeN EI (base := w.heap.size) (n := n) rfl (.tmp 26) (.tmp 26) rfl rfl rfl rfl rfl ?_ ?_ ?_; (omega); (exact hB); intro w1 hown hgrow)
        have hb1 : Below w.heap.size w w1 := bel.grown hgrow hB (fun _ h => by cases h)
        rw [hsz] at hown
        clear hgrow bel hsz
        go_loopw [30] (fun i wr => ∃ k : Nat, i = .int .i64 k ∧ k ≤ n ∧ OwnI wr w.heap.size 3 .i64 (.slice (some ⟨w.heap.size, 0, none⟩) n n) (tabTo (greatV xs ys) k ++ List.replicate (n - k) 0) ∧ Below w.heap.size w wr) (fun i _ => n - (intOf i).toNat)
        case atStart => exact ⟨0, rfl, Nat.zero_le _, hown, hb1⟩
        case round =>
          clear hown hb1
          obtain ⟨k, rfl, hk, hown, hb⟩ := hrel
          by_cases hlt : k < n
          · obtain ⟨b1, off1, rfl, hlt1, hc1⟩ := (hx.below hb).at_ (by omega)
            obtain ⟨b2, off2, rfl, hlt2, hc2⟩ := (hy.below hb).at_ (by omega)
            have g1 : wr.cell? ⟨b1, off1 + k, none⟩ = some (.int .i64 (xs.getD k 0)) := hc1 k hlt
            have g2 : wr.cell? ⟨b2, off2 + k, none⟩ = some (.int .i64 (ys.getD k 0)) := hc2 k hlt
            have hi0 : (0 : Int) ≤ k := by omega
            have hi1 : (k : Int) < (n : Int) := by omega
            have hfs := fill_set (greatV xs ys) n k hlt
            obtain ⟨x, hx1⟩ : ∃ x, x = xs.getD k 0 := ⟨_, rfl⟩
            obtain ⟨y, hy1⟩ : ∃ y, y = ys.getD k 0 := ⟨_, rfl⟩
            have hst : greatV xs ys k = max x y := by rw [hx1, hy1]; rfl
            rw [← hx1] at g1
            rw [← hy1] at g2
            rw [hst] at hfs
            replace hb := hb.drew
            replace hown := hown.drew
            have hset := hown.set k (max x y)
            rw [hfs] at hset
            have hb2 := hb.setCell (p := ⟨w.heap.size, k, none⟩) (Nat.le_refl _) (.int .i64 (max x y))
            have hll : k < (tabTo (greatV xs ys) k ++ List.replicate (n - k) 0).length := by rw [List.length_append, HTL.out, List.length_replicate]; omega
            have hcell := hown.cell hll
            have hfree := hown.free k
            have HS := Lib.hid hset
            have HB := Lib.hid hb2
            clear hset hb2 hfs hst hc1 hc2 hx1 hy1 hll hown hb
            go_wp2_with fail
            go_region_law (first
              | (go_simp; refine (c_great1 _ _ _).mono ?_; rintro e w' ⟨rfl, rfl⟩))
            all_goals
              go_wp2
              go_roundw
              case rel => exact ⟨k + 1, by go_num, by omega, HS.out, HB.out⟩
              case measure => simp [intOf]; omega
          · obtain rfl : k = n := by omega
            have hrep : List.replicate (k - k) (0 : Int) = [] := by simp
            rw [hrep, List.append_nil] at hown
            go_wp2
            go_ret2
            exact ⟨_, _, by rw [HTL.out]; rfl, by rw [HTL.out]; exact hown, by rw [HTL.out]; omega, hb⟩
      · have ht : ((n : Int) != (m : Int)) = true := by rw [bne_iff_ne]; omega
        have hf : fitB xs ys = false := by simp [fitB, h1, h2]; omega
        have hr : greatL xs ys = [] := by simp [greatL, hf]
        rw [hf, hr]
        clear hf hr
        clear hl hl' hnm
        go_enter Try.func49, Try.ntmps49
        go_wp2_with fail
        refine (c_isVector _ _ _ _ _ hx hn).mono ?_
        rw [h1]
        rintro e w' ⟨rfl, q, rfl⟩
        go_wp2_with fail
        refine (c_isVector _ _ _ _ _ (hy.drewN q) hm).mono ?_
        rw [h2]
        rintro e w' ⟨rfl, q2, rfl⟩
        go_wp2_with fail
        go_ret2
        exact ⟨none, 0, rfl, OwnI.nil _ _ _ _, by simp, below_drewN (Below.refl _ _) _⟩
set_option maxHeartbeats 400000 in
theorem c_impl_GreatestVector (a : Option Addr) (n c : Nat) (xs : List Int) (b : Option Addr) (m d : Nat) (ys : List Int) (w : World) (hx : Row .i64 w a n xs) (hn : n ≤ 1048576) (hy : Row .i64 w b m ys) (hm : m ≤ 1048576) :
    Calls Try.prog 22 #[.slice a n c, .slice b m d] w (RetIntsB 3 (greatL xs ys) (fitB xs ys) w) := by
  go_enter Try.func22, Try.ntmps22
  go_wp2_with fail
  refine (c_combined _ _ _ _ _ _ _ _ _ hx hn hy hm).mono ?_
  rintro e w1 ⟨a2, c2, rfl, ho, hlen, hb⟩
  go_wp2_with fail
  go_ret2
  exact ⟨a2, c2, rfl, ho, hlen, hb⟩
end Go.Proofs.Ytijdjdekdcoeiaa
