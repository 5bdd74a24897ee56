/- Contracts of TruncateFunction, both packages. -/
import Derived.Test.YtfcgijnfiiaepaaMake
namespace Go.Proofs.Ytfcgijnfiiaepaa
set_option linter.unusedSimpArgs false
set_option linter.unusedVariables false
open Go.RowKit

/-- The values of the truncated function. -/
def truncV (xs : List Int) (k : Int) (s : Nat) : Int := min k (xs.getD s 0)
theorem c_trunc1 (e0 k : Int) (a : Option Addr) (n c : Nat) (xs : List Int) (g1 g2 s : Nat) (w : World) (hk : w.cell? ⟨g1, 0, none⟩ = some (.int .i64 k)) (f : FBox w g2 26 e0 a n c) (h : Row .i64 w a n xs) (hs : s < n) :
    Calls Try.prog 95 #[.int .i64 s, .pointer (some ⟨g1, 0, none⟩), .pointer (some ⟨g2, 0, none⟩)] w fun e w' => e = .returned (.int .i64 (truncV xs k s)) ∧ Below w.heap.size w w' := by
  have k20 := f.c0
  have k21 := f.c1
  obtain ⟨b, off, rfl, hlt, hc⟩ := h.at_ (by omega)
  have g := hc s hs
  obtain ⟨x, hx⟩ : ∃ x, x = xs.getD s 0 := ⟨_, rfl⟩
  rw [← hx] at g
  have hst : truncV xs k s = min k x := by rw [hx]; rfl
  have HST := Lib.hid hst
  have hi0 : (0 : Int) ≤ s := by omega
  have hi1 : (s : Int) < (n : Int) := by omega
  clear hst hx hc
  go_enter Try.func95, Try.ntmps95
  go_wp2_with fail
  go_quiet (fail)
  go_wp2
  all_goals
    go_ret
    exact ⟨ret_int (by rw [HST.out]; omega), below_drewN (Below.refl _ _) _⟩
/-- What TruncateFunction returns. -/
def truncB (n : Int) (xs : List Int) (k : Int) : Bool := isFun n xs && inB k (-1000) 1000
def truncN (n : Int) (xs : List Int) (k : Int) : Int := if truncB n xs k then n else 0
def truncL (n : Int) (xs : List Int) (k : Int) : List Int := if truncB n xs k then tabOf n (truncV xs k) else []
theorem trunc_isFun {n : Int} {xs : List Int} {k : Int} (h : truncB n xs k = true) : isFun n (tabOf n (truncV xs k)) = true := by
  simp only [truncB, Bool.and_eq_true] at h
  obtain ⟨⟨h0, h1⟩, hl, hx⟩ := isFun_true h.1
  have hk := inB_true.1 h.2
  refine isFun_tab h0 h1 (fun s hs => ?_)
  have := hx s (by rw [hl]; exact hs)
  simp only [truncV]
  omega
set_option maxHeartbeats 1000000 in
theorem c_impl_TruncateFunction (e0 : Int) (a : Option Addr) (n c : Nat) (xs : List Int) (k : Int) (w : World) (h : Row .i64 w a n xs) (hn : n ≤ 1048576) :
    Calls Try.prog 46 #[.agg #[.int .i64 e0, .slice a n c], .int .i64 k] w (RetFun 3 (truncN e0 xs k) (truncL e0 xs k) (truncB e0 xs k) w) := by
  have hmf : ∀ (fn : Fn) (first cap : Array Value) (w : World), (Instr.makeFunc fn first cap).run Try.prog w = .ok (.func fn first cap) w := fun _ _ _ _ => rfl
  have bel := Below.refl w.heap.size w
  have f0 := FBox.new w 26 e0 a n c
  replace f0 := f0.alloc (.cells #[.int .i64 k] 3)
  replace f0 := f0.alloc (.cells #[.int .i64 0, .slice none 0 0] 26)
  replace bel := bel.alloc bel.size (.cells #[.int .i64 e0, .slice a n c] 26)
  have bk := (heap_alloc_new (w.alloc (.cells #[.int .i64 e0, .slice a n c] 26)) (.cells #[.int .i64 k] 3))
  replace bk := (Below.heap_alloc _ (.cells #[.int .i64 0, .slice none 0 0] 26) _ (by simp)).trans bk
  rw [World.size_alloc] at bk
  replace bel := bel.alloc bel.size (.cells #[.int .i64 k] 3)
  have fr := FBox.new ((w.alloc (.cells #[.int .i64 e0, .slice a n c] 26)).alloc (.cells #[.int .i64 k] 3)) 26 0 none 0 0
  rw [World.size_alloc, World.size_alloc] at fr
  replace bel := bel.alloc bel.size (.cells #[.int .i64 0, .slice none 0 0] 26)
  cases hf : isFun e0 xs with
  | false =>
    have hB : truncB e0 xs k = false := by simp [truncB, hf]
    have hN : truncN e0 xs k = 0 := by simp [truncN, hB]
    have hL : truncL e0 xs k = [] := by simp [truncL, hB]
    rw [hB, hN, hL]
    clear hB hN hL
    go_enter Try.func46, Try.ntmps46
    go_wp2_with fail
    refine (c_impl_IsFunction _ _ _ _ _ _ (((h.alloc _).alloc _).alloc _) hn).mono ?_
    rw [hf]
    rintro e w1 ⟨rfl, hb1⟩
    replace bel := bel.trans (hb1.mono bel.size)
    replace fr := fr.below hb1
    have kr0 := fr.c0
    have kr1 := fr.c1
    have krf := fr.free
    go_wp2_with fail
    refine bodyPost_ret (v := .tuple #[.agg #[.int .i64 0, .slice none 0 0], .bool false]) (by simp [results, Try.results46, go_sem, kr0, kr1]) rfl ?_
    exact ⟨none, 0, rfl, OwnI.nil _ _ _ _, by simp, (bel.setCell (by show w.heap.size ≤ w.heap.size + 1 + 1; omega) _).setCell (by show w.heap.size ≤ w.heap.size + 1 + 1; omega) _⟩
  | true =>
    cases hk : inB k (-1000) 1000 with
    | false =>
      have hB : truncB e0 xs k = false := by simp [truncB, hk]
      have hN : truncN e0 xs k = 0 := by simp [truncN, hB]
      have hL : truncL e0 xs k = [] := by simp [truncL, hB]
      rw [hB, hN, hL]
      clear hB hN hL
      go_enter Try.func46, Try.ntmps46
      go_wp2_with fail
      refine (c_impl_IsFunction _ _ _ _ _ _ (((h.alloc _).alloc _).alloc _) hn).mono ?_
      rw [hf]
      rintro e w1 ⟨rfl, hb1⟩
      replace bel := bel.trans (hb1.mono bel.size)
      replace fr := fr.below hb1
      have kr0 := fr.c0
      have kr1 := fr.c1
      have krf := fr.free
      have kk := cell_of_row w1 _ 0 _ _ _ ((hb1.block _ (by simp)).trans bk)
      go_wp2_with fail
      refine (c_within _ _ _ _).mono ?_
      rw [hk]
      rintro e w' ⟨rfl, rfl⟩
      go_wp2_with fail
      refine bodyPost_ret (v := .tuple #[.agg #[.int .i64 0, .slice none 0 0], .bool false]) (by simp [results, Try.results46, go_sem, kr0, kr1]) rfl ?_
      exact ⟨none, 0, rfl, OwnI.nil _ _ _ _, by simp, (bel.setCell (by show w.heap.size ≤ w.heap.size + 1 + 1; omega) _).setCell (by show w.heap.size ≤ w.heap.size + 1 + 1; omega) _⟩
    | true =>
      have hB : truncB e0 xs k = true := by simp [truncB, hk, hf]
      have hN : truncN e0 xs k = e0 := by simp [truncN, hB]
      have hL : truncL e0 xs k = tabOf e0 (truncV xs k) := by simp [truncL, hB]
      have hI := trunc_isFun hB
      rw [hB, hN, hL]
      clear hB hN hL
      obtain ⟨⟨q0, q1⟩, hlx, _⟩ := isFun_true hf
      have hl := h.len
      go_enter Try.func46, Try.ntmps46
      go_wp2_with fail
      refine (c_impl_IsFunction _ _ _ _ _ _ (((h.alloc _).alloc _).alloc _) hn).mono ?_
      rw [hf]
      rintro e w1 ⟨rfl, hb1⟩
      replace bel := bel.trans (hb1.mono bel.size)
      replace fr := fr.below hb1
      replace f0 := f0.below hb1
      replace bk := (hb1.block _ (by simp)).trans bk
      have kr0 := fr.c0
      have kr1 := fr.c1
      have krf := fr.free
      have k00 := f0.c0
      have k01 := f0.c1
      have kk := cell_of_row w1 _ 0 _ _ _ bk
      have hlt1 := fr.lt
      go_wp2_with fail
      refine (c_within _ _ _ _).mono ?_
      rw [hk]
      rintro e w' ⟨rfl, rfl⟩
      go_wp2_with fail
      refine (c_makeFunction _ _ _ (truncV xs k) _ q0 q1 (enters_of Try.func95 (by kernel_rfl) rfl) (fun s w' hs hb => by rw [app2]; exact c_trunc1 e0 k a n c xs (w.heap.size + 1) w.heap.size s w' (cell_of_row w' _ 0 _ _ _ ((hb.block _ (by omega)).trans bk)) (f0.below hb) ((h.below bel).below hb) (by omega))).mono ?_
      rw [(made_yes hI).1, (made_yes hI).2, hI]
      rintro e w2 ⟨a2, c2, rfl, ho, hlen, hb2⟩
      replace bel := bel.trans (hb2.mono bel.size)
      replace fr := fr.below hb2
      have kr0 := fr.c0
      have kr1 := fr.c1
      have krf := fr.free
      go_wp2_with fail
      refine bodyPost_ret (v := .tuple #[.agg #[.int .i64 e0, .slice a2 (tabOf e0 (truncV xs k)).length c2], .bool true]) (by simp [results, Try.results46, go_sem, kr0, kr1]) rfl ?_
      refine ⟨a2, c2, rfl, ?_, hlen, (bel.setCell (by show w.heap.size ≤ w.heap.size + 1 + 1; omega) _).setCell (by show w.heap.size ≤ w.heap.size + 1 + 1; omega) _⟩
      exact ((ho.base (by omega)).setFar ⟨w.heap.size + 1 + 1, 0, none⟩ _ (.inr (row_apart ho.range (.inl (by omega))))).setFar ⟨w.heap.size + 1 + 1, 1, none⟩ _ (.inr (row_apart ho.range (.inl (by omega))))
set_option maxHeartbeats 1000000 in
theorem c_spec_TruncateFunction (e0 : Int) (a : Option Addr) (n c : Nat) (xs : List Int) (k : Int) (w : World) (h : Row .i64 w a n xs) (hn : n ≤ 1048576) :
    Calls Try.prog 47 #[.agg #[.int .i64 e0, .slice a n c], .int .i64 k] w (RetFun 3 (truncN e0 xs k) (truncL e0 xs k) (truncB e0 xs k) w) := by
  have bel := Below.refl w.heap.size w
  have f0 := FBox.new w 26 e0 a n c
  replace f0 := f0.alloc (.cells #[.int .i64 0, .slice none 0 0] 26)
  replace bel := bel.alloc bel.size (.cells #[.int .i64 e0, .slice a n c] 26)
  have fr := FBox.new (w.alloc (.cells #[.int .i64 e0, .slice a n c] 26)) 26 0 none 0 0
  rw [World.size_alloc] at fr
  replace bel := bel.alloc bel.size (.cells #[.int .i64 0, .slice none 0 0] 26)
  cases hf : isFun e0 xs with
  | false =>
    have hB : truncB e0 xs k = false := by simp [truncB, hf]
    have hN : truncN e0 xs k = 0 := by simp [truncN, hB]
    have hL : truncL e0 xs k = [] := by simp [truncL, hB]
    rw [hB, hN, hL]
    clear hB hN hL
    go_enter Try.func47, Try.ntmps47
    go_wp2_with fail
    refine (c_spec_IsFunction _ _ _ _ _ _ ((h.alloc _).alloc _) hn).mono ?_
    rw [hf]
    rintro e w1 ⟨rfl, hb1⟩
    replace bel := bel.trans (hb1.mono bel.size)
    replace fr := fr.below hb1
    have kr0 := fr.c0
    have kr1 := fr.c1
    have krf := fr.free
    go_wp2_with fail
    refine bodyPost_ret (v := .tuple #[.agg #[.int .i64 0, .slice none 0 0], .bool false]) (by simp [results, Try.results47, go_sem, kr0, kr1]) rfl ?_
    exact ⟨none, 0, rfl, OwnI.nil _ _ _ _, by simp, (bel.setCell (by show w.heap.size ≤ w.heap.size + 1; omega) _).setCell (by show w.heap.size ≤ w.heap.size + 1; omega) _⟩
  | true =>
    cases hk : inB k (-1000) 1000 with
    | false =>
      have hB : truncB e0 xs k = false := by simp [truncB, hk]
      have hN : truncN e0 xs k = 0 := by simp [truncN, hB]
      have hL : truncL e0 xs k = [] := by simp [truncL, hB]
      rw [hB, hN, hL]
      clear hB hN hL
      go_enter Try.func47, Try.ntmps47
      go_wp2_with fail
      refine (c_spec_IsFunction _ _ _ _ _ _ ((h.alloc _).alloc _) hn).mono ?_
      rw [hf]
      rintro e w1 ⟨rfl, hb1⟩
      replace bel := bel.trans (hb1.mono bel.size)
      replace fr := fr.below hb1
      have kr0 := fr.c0
      have kr1 := fr.c1
      have krf := fr.free
      go_wp2_with fail
      refine (c_l1In _ _ _ _).mono ?_
      rw [hk]
      rintro e w' ⟨rfl, rfl⟩
      go_wp2_with fail
      refine bodyPost_ret (v := .tuple #[.agg #[.int .i64 0, .slice none 0 0], .bool false]) (by simp [results, Try.results47, go_sem, kr0, kr1]) rfl ?_
      exact ⟨none, 0, rfl, OwnI.nil _ _ _ _, by simp, (bel.setCell (by show w.heap.size ≤ w.heap.size + 1; omega) _).setCell (by show w.heap.size ≤ w.heap.size + 1; omega) _⟩
    | true =>
      have hB : truncB e0 xs k = true := by simp [truncB, hk, hf]
      have hN : truncN e0 xs k = e0 := by simp [truncN, hB]
      have hL : truncL e0 xs k = tabOf e0 (truncV xs k) := by simp [truncL, hB]
      rw [hB, hN, hL]
      clear hB hN hL
      obtain ⟨⟨q0, q1⟩, hlx, hxb⟩ := isFun_true hf
      have hl := h.len
      have hle := isFun_le hf
      have htab : tabOf e0 (truncV xs k) = tabTo (truncV xs k) n := by rw [tabOf, ← hlx, hl]
      rw [htab]
      have htl := tabTo_length (truncV xs k)
      have HTL := Lib.hid htl
      clear htab htl hlx
      go_enter Try.func47, Try.ntmps47
      go_wp2_with fail
      refine (c_spec_IsFunction _ _ _ _ _ _ ((h.alloc _).alloc _) hn).mono ?_
      rw [hf]
      rintro e w1 ⟨rfl, hb1⟩
      replace bel := bel.trans (hb1.mono bel.size)
      replace fr := fr.below hb1
      replace f0 := f0.below hb1
      have hr1 := h.below bel
      go_wp2_with fail
      refine (c_l1In _ _ _ _).mono ?_
      rw [hk]
      rintro e w' ⟨rfl, rfl⟩
      have hsz0 : w.heap.size + 2 ≤ w1.heap.size := by have := fr.lt; omega
      go_wp2_with fail
      go_loopw [6, 7] (fun v i wr => ∃ s : Nat, i = .int .i64 s ∧ s ≤ n ∧ OwnI wr w1.heap.size 3 .i64 v (tabTo (truncV xs k) s) ∧ Below w1.heap.size w1 wr) (fun _ i _ => n - (intOf i).toNat)
      case atStart => exact ⟨0, rfl, Nat.zero_le _, World.ownsRow_made w1 #[] 0 (Nat.le_refl _) (by decide) rfl, (Below.refl _ _).alloc (Nat.le_refl _) _⟩
      case round =>
        obtain ⟨s, rfl, hs, hown, hb⟩ := hrel
        have f0' := f0.below hb
        have k00 := f0'.c0
        have k01 := f0'.c1
        have hB : w1.heap.size ≤ wr.heap.size := hb.size
        have htl := HTL.out s
        by_cases hlt : s < n
        · obtain ⟨b, off, rfl, hblt, hc⟩ := (hr1.below hb).at_ (by omega)
          have g1 := hc s hlt
          obtain ⟨x, hx⟩ : ∃ x, x = xs.getD s 0 := ⟨_, rfl⟩
          rw [← hx] at g1
          have hst : truncV xs k s = min k x := by rw [hx]; rfl
          have hsc := tabTo_succ (truncV xs k) s
          have HSC := Lib.hid hsc
          clear hsc hc hx
          have hi0 : (0 : Int) ≤ s := by omega
          have hi1 : (s : Int) < (n : Int) := by omega
          by_cases hkx : k ≤ x
          · have HST := Lib.hid (hst.trans (Int.min_eq_left hkx))
            clear hst
            go_wp2_with (at_builtin; refine wpList_app EI (base := w1.heap.size) (v := u6) (xs := tabTo (truncV xs k) s) (us := [k]) (g := wr.heap.size) (n := 1) (c := 1) rfl (.tmp 25) (.tmp 33) rfl ?_ ?_ rfl rfl rfl ?_ ?_ ?_; (exact hown.alloc _); (exact heap_alloc_new wr _); (show _ + 1 ≤ _; omega); (exact le_alloc hB _); intro v' w2 hown1 hgrow)
            have hb1 : Below w1.heap.size w1 w2 := below_grown (hb.alloc hB _) (hown.alloc _) hgrow (Nat.le_refl _) (le_alloc hB _)
            go_roundw
            case rel => exact ⟨s + 1, by go_num, by omega, by rw [HSC.out, HST.out]; exact hown1, hb1⟩
            case measure => simp [intOf]; omega
          · have HST := Lib.hid (hst.trans (Int.min_eq_right (by omega)))
            clear hst
            go_wp2_with (at_builtin; refine wpList_app EI (base := w1.heap.size) (v := u6) (xs := tabTo (truncV xs k) s) (us := [x]) (g := wr.heap.size) (n := 1) (c := 1) rfl (.tmp 25) (.tmp 33) rfl ?_ ?_ rfl rfl rfl ?_ ?_ ?_; (exact hown.alloc _); (exact heap_alloc_new wr _); (show _ + 1 ≤ _; omega); (exact le_alloc hB _); intro v' w2 hown1 hgrow)
            have hb1 : Below w1.heap.size w1 w2 := below_grown (hb.alloc hB _) (hown.alloc _) hgrow (Nat.le_refl _) (le_alloc hB _)
            go_roundw
            case rel => exact ⟨s + 1, by go_num, by omega, by rw [HSC.out, HST.out]; exact hown1, hb1⟩
            case measure => simp [intOf]; omega
        · obtain rfl : s = n := by omega
          obtain ⟨a2, c2, hv, _⟩ := hown.form
          rw [htl] at hv
          subst hv
          have fr' := fr.below hb
          have kr0 := fr'.c0
          have kr1 := fr'.c1
          have krf := fr'.free
          go_wp2_with fail
          refine bodyPost_ret (v := .tuple #[.agg #[.int .i64 e0, .slice a2 s c2], .bool true]) (by simp [results, Try.results47, go_sem, kr0, kr1]) rfl ?_
          refine ⟨a2, c2, by rw [HTL.out], ?_, by rw [HTL.out]; omega, ((bel.trans (hb.mono bel.size)).setCell (by show w.heap.size ≤ w.heap.size + 1; omega) _).setCell (by show w.heap.size ≤ w.heap.size + 1; omega) _⟩
          rw [HTL.out]
          exact ((hown.base bel.size).setFar ⟨w.heap.size + 1, 0, none⟩ _ (.inr (row_apart hown.range (.inl (by show w.heap.size + 1 < w1.heap.size; omega))))).setFar ⟨w.heap.size + 1, 1, none⟩ _ (.inr (row_apart hown.range (.inl (by show w.heap.size + 1 < w1.heap.size; omega))))
end Go.Proofs.Ytfcgijnfiiaepaa
