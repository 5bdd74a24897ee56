/- Contracts of LowerFunction, both packages. -/
import Derived.Test.YtfcgijnfiiaepaaGreatDoorMade
namespace Go.Proofs.YtfcgijnfiiaepaaGreatDoor
set_option linter.unusedSimpArgs false
set_option linter.unusedVariables false
open Go.RowKit

def lowV (xs : List Int) (s : Nat) : Int := xs.getD s 0 - xs.getD 0 0
/-- The test of LowerFunction. -/
def lowT (n : Int) (xs : List Int) : Bool := isFun n xs
theorem c_low1 (e0 : Int) (a : Option Addr) (n c : Nat) (xs : List Int) (g2 s : Nat) (w : World) (f : FBox w g2 26 e0 a n c) (h : Row .i64 w a n xs) (hs : s < n) (hxb : ∀ j, j < xs.length → -1000 ≤ xs.getD j 0 ∧ xs.getD j 0 ≤ 1000) :
    Calls Tryz.prog 61 #[.int .i64 s, .pointer (some ⟨g2, 0, none⟩)] w fun e w' => e = .returned (.int .i64 (lowV xs s)) ∧ Below w.heap.size w w' := by
  have k20 := f.c0
  have k21 := f.c1
  have hl := h.len
  obtain ⟨b, off, rfl, hlt, hc⟩ := h.at_ (by omega)
  have g := hc s hs
  have g0 : w.cell? ⟨b, off, none⟩ = some (.int .i64 (xs.getD 0 0)) := hc 0 (by omega)
  have hx1 := hxb s (by omega)
  have hx2 := hxb 0 (by omega)
  obtain ⟨x, hx⟩ : ∃ x, x = xs.getD s 0 := ⟨_, rfl⟩
  obtain ⟨y, hy⟩ : ∃ y, y = xs.getD 0 0 := ⟨_, rfl⟩
  rw [← hx] at g hx1
  rw [← hy] at g0 hx2
  have hst : lowV xs s = x - y := by rw [hx, hy]; rfl
  have HST := Lib.hid hst
  have hi0 : (0 : Int) ≤ s := by omega
  have hi1 : (s : Int) < (n : Int) := by omega
  have hn0 : (0 : Int) < (n : Int) := by omega
  have hw : IntKind.i64.wrap (x - y) = x - y := IntWalk.i64_in _ (by omega)
  clear hst hx hy hc hxb hl
  go_enter Tryz.func61, Tryz.ntmps61
  go_wp2_with fail
  go_quiet (fail)
  go_wp2
  go_ret
  exact ⟨ret_int HST.out.symm, below_drewN (Below.refl _ _) _⟩
set_option maxRecDepth 20000 in
set_option maxHeartbeats 1000000 in
theorem c_impl_LowerFunction (e0 : Int) (a : Option Addr) (n c : Nat) (xs : List Int) (w : World) (h : Row .i64 w a n xs) (hn : n ≤ 1048576) :
    Calls Tryz.prog 24 #[.agg #[.int .i64 e0, .slice a n c]] w (RetFun 3 (gN (lowT e0 xs) e0 (tabOf e0 (lowV xs))) (gL (lowT e0 xs) e0 (tabOf e0 (lowV xs))) (gB (lowT e0 xs) e0 (tabOf e0 (lowV xs))) w) := by
  have hmf : ∀ (fn : Fn) (first cap : Array Value) (w : World), (Instr.makeFunc fn first cap).run Tryz.prog w = .ok (.func fn first cap) w := fun _ _ _ _ => rfl
  have bel := Below.refl w.heap.size w
  have f0 := FBox.new w 26 e0 a n c
  replace bel := bel.alloc bel.size (.cells #[.int .i64 e0, .slice a n c] 26)
  have fr := FBox.new (w.alloc (.cells #[.int .i64 e0, .slice a n c] 26)) 26 0 none 0 0
  rw [World.size_alloc] at fr
  replace f0 := f0.alloc (.cells #[.int .i64 0, .slice none 0 0] 26)
  replace bel := bel.alloc bel.size (.cells #[.int .i64 0, .slice none 0 0] 26)
  cases hf : isFun e0 xs with
  | false =>
    obtain ⟨hN, hL, hB⟩ := g_no (b := lowT e0 xs) (n := e0) (xs := tabOf e0 (lowV xs)) (by simp [lowT, hf])
    rw [hN, hL, hB]
    clear hN hL hB
    go_enter Tryz.func24, Tryz.ntmps24
    go_wp2_with fail
    refine (c_impl_IsFunction _ _ _ _ _ _ ((h.alloc _).alloc _) hn).mono ?_
    rw [hf]
    rintro e w1 ⟨rfl, hb1⟩
    replace bel := bel.trans (hb1.mono bel.size)
    replace fr := fr.below hb1
    have kr0 := fr.c0
    have kr1 := fr.c1
    have krf := fr.free
    go_wp2_with fail
    refine bodyPost_ret (v := .tuple #[.agg #[.int .i64 0, .slice none 0 0], .bool false]) (by simp [results, Tryz.results24, go_sem, kr0, kr1]) rfl ?_
    exact ⟨none, 0, rfl, OwnI.nil _ _ _ _, by simp, (bel.setCell (by show w.heap.size ≤ w.heap.size + 1; omega) _).setCell (by show w.heap.size ≤ w.heap.size + 1; omega) _⟩
  | true =>
    obtain ⟨hN, hL, hB⟩ := g_mid (b := lowT e0 xs) (n := e0) (xs := tabOf e0 (lowV xs)) (by simp [lowT, hf])
    rw [hN, hL, hB]
    clear hN hL hB
    obtain ⟨⟨q0, q1⟩, hlx, hxb⟩ := isFun_true hf
    have hl := h.len
    have hle := isFun_le hf
    obtain ⟨tab, htab⟩ : ∃ t, t = tabOf e0 (lowV xs) := ⟨_, rfl⟩
    rw [← htab]
    have HT := Lib.hid htab
    clear htab
    go_enter Tryz.func24, Tryz.ntmps24
    go_wp2_with fail
    refine (c_impl_IsFunction _ _ _ _ _ _ ((h.alloc _).alloc _) hn).mono ?_
    rw [hf]
    rintro e w1 ⟨rfl, hb1⟩
    replace bel := bel.trans (hb1.mono bel.size)
    replace fr := fr.below hb1
    replace f0 := f0.below hb1
    have kr0 := fr.c0
    have kr1 := fr.c1
    have krf := fr.free
    have k00 := f0.c0
    have k01 := f0.c1
    have hlt1 := fr.lt
    go_wp2_with fail
    refine (c_makeFunction _ _ _ (lowV xs) _ q0 q1 (enters_of Tryz.func61 (by kernel_rfl) rfl) (fun s w' hs hb => by rw [app1]; exact c_low1 e0 a n c xs w.heap.size s w' (f0.below hb) ((h.below bel).below hb) (by omega) hxb)).mono ?_
    rw [← HT.out]
    rintro e w2 ⟨a2, c2, rfl, ho, hlen, hb2⟩
    replace bel := bel.trans (hb2.mono bel.size)
    replace fr := fr.below hb2
    replace kr0 := fr.c0
    replace kr1 := fr.c1
    replace krf := fr.free
    go_wp2_with fail
    refine bodyPost_ret (v := .tuple #[.agg #[.int .i64 (madeN e0 tab), .slice a2 (madeL e0 tab).length c2], .bool (isFun e0 tab)]) (by simp [results, Tryz.results24, go_sem, kr0, kr1]) rfl ?_
    refine ⟨a2, c2, rfl, ?_, hlen, (bel.setCell (by show w.heap.size ≤ w.heap.size + 1; omega) _).setCell (by show w.heap.size ≤ w.heap.size + 1; omega) _⟩
    exact ((ho.base (by omega)).setFar ⟨w.heap.size + 1, 0, none⟩ _ (.inr (row_apart ho.range (.inl (by show w.heap.size + 1 < w1.heap.size; omega))))).setFar ⟨w.heap.size + 1, 1, none⟩ _ (.inr (row_apart ho.range (.inl (by show w.heap.size + 1 < w1.heap.size; omega))))
set_option maxRecDepth 20000 in
set_option maxHeartbeats 2000000 in
theorem c_spec_LowerFunction (e0 : Int) (a : Option Addr) (n c : Nat) (xs : List Int) (w : World) (h : Row .i64 w a n xs) (hn : n ≤ 1048576) :
    Calls Tryz.prog 25 #[.agg #[.int .i64 e0, .slice a n c]] w (RetFun 3 (gN (lowT e0 xs) e0 (tabOf e0 (lowV xs))) (gL (lowT e0 xs) e0 (tabOf e0 (lowV xs))) (gB (lowT e0 xs) e0 (tabOf e0 (lowV xs))) w) := by
  have bel := Below.refl w.heap.size w
  have f0 := (FBox.new w 26 e0 a n c).alloc (.cells #[.int .i64 0, .slice none 0 0] 26)
  replace bel := bel.alloc bel.size (.cells #[.int .i64 e0, .slice a n c] 26)
  have fr := FBox.new (w.alloc (.cells #[.int .i64 e0, .slice a n c] 26)) 26 0 none 0 0
  rw [World.size_alloc] at fr
  replace bel := bel.alloc bel.size (.cells #[.int .i64 0, .slice none 0 0] 26)
  replace f0 := f0.alloc (.cells #[] 3)
  replace fr := fr.alloc (.cells #[] 3)
  replace bel := bel.alloc bel.size (.cells #[] 3)
  have hv0 : OwnI (((w.alloc (.cells #[.int .i64 e0, .slice a n c] 26)).alloc (.cells #[.int .i64 0, .slice none 0 0] 26)).alloc (.cells #[] 3)) (w.heap.size + 2) 3 .i64 (.slice (some ⟨w.heap.size + 1 + 1, 0, none⟩) 0 0) [] := by
    have h := World.ownsRow_made (base := w.heap.size + 2) (e := 3) (size := 1) ((w.alloc (.cells #[.int .i64 e0, .slice a n c] 26)).alloc (.cells #[.int .i64 0, .slice none 0 0] 26)) #[] 0 (by simp) (by decide) rfl
    simp only [World.size_alloc] at h
    exact h
  cases hf : isFun e0 xs with
  | false =>
    obtain ⟨hN, hL, hB⟩ := g_no (b := lowT e0 xs) (n := e0) (xs := tabOf e0 (lowV xs)) (by simp [lowT, hf])
    rw [hN, hL, hB]
    clear hN hL hB
    go_enter Tryz.func25, Tryz.ntmps25
    go_wp2_with fail
    refine (c_spec_IsFunction _ _ _ _ _ _ (((h.alloc _).alloc _).alloc _) hn).mono ?_
    rw [hf]
    rintro e w1 ⟨rfl, hb1⟩
    replace bel := bel.trans (hb1.mono bel.size)
    replace fr := fr.below hb1
    have kr0 := fr.c0
    have kr1 := fr.c1
    have krf := fr.free
    go_wp2_with fail
    refine bodyPost_ret (v := .tuple #[.agg #[.int .i64 0, .slice none 0 0], .bool false]) (by simp [results, Tryz.results25, go_sem, kr0, kr1]) rfl ?_
    exact ⟨none, 0, rfl, OwnI.nil _ _ _ _, by simp, (bel.setCell (by show w.heap.size ≤ w.heap.size + 1; omega) _).setCell (by show w.heap.size ≤ w.heap.size + 1; omega) _⟩
  | true =>
    have hT : lowT e0 xs = true := by simp [lowT, hf]
    obtain ⟨⟨q0, q1⟩, hlx, hxb⟩ := isFun_true hf
    have hl := h.len
    have hle := isFun_le hf
    have htab : tabOf e0 (lowV xs) = tabTo (lowV xs) n := by rw [tabOf, ← hlx, hl]
    rw [htab]
    have HTL := Lib.hid (tabTo_length (lowV xs))
    have HXB := Lib.hid hxb
    have HT := Lib.hid hT
    have HTAB := Lib.hid htab
    clear htab hxb hT hlx
    go_enter Tryz.func25, Tryz.ntmps25
    go_wp2_with fail
    refine (c_spec_IsFunction _ _ _ _ _ _ (((h.alloc _).alloc _).alloc _) hn).mono ?_
    rw [hf]
    rintro e w1 ⟨rfl, hb1⟩
    replace bel := bel.trans (hb1.mono bel.size)
    replace fr := fr.below hb1
    replace f0 := f0.below hb1
    replace hv0 := hv0.below hb1
    have k00 := f0.c0
    have k01 := f0.c1
    have hsz0 : w.heap.size + 2 ≤ w1.heap.size := by have := fr.lt; omega
    go_wp2_with fail
    go_loopw [4, 5] (fun v i wr => ∃ s : Nat, i = .int .i64 s ∧ s ≤ n ∧ OwnI wr (w.heap.size + 2) 3 .i64 v (tabTo (lowV xs) s) ∧ Below w.heap.size w wr ∧ FBox wr w.heap.size 26 e0 a n c ∧ FBox wr (w.heap.size + 1) 26 0 none 0 0) (fun _ i _ => n - (intOf i).toNat)
    case atStart => exact ⟨0, rfl, Nat.zero_le _, hv0, bel, f0, fr⟩
    case round =>
      clear bel f0 fr k00 k01 hb1 hv0
      obtain ⟨s, rfl, hs, hown, hb, f0, fr⟩ := hrel
      have k00 := f0.c0
      have k01 := f0.c1
      have hB : w.heap.size + 2 ≤ wr.heap.size := by have := fr.lt; omega
      have htl := HTL.out s
      by_cases hlt : s < n
      · obtain ⟨b, off, rfl, hblt, hc⟩ := (h.below hb).at_ (by omega)
        have hbw : b < w.heap.size := by
          obtain ⟨b', off', hE, hlt', _⟩ := h.at_ (by omega)
          cases hE
          exact hlt'
        have hsc := tabTo_succ (lowV xs) s
        have HSC := Lib.hid hsc
        clear hsc
        have hx1 := HXB.out s (by omega)
        have hx2 := HXB.out 0 (by omega)
        have g1 : wr.cell? ⟨b, off + s, none⟩ = some (.int .i64 (xs.getD s 0)) := hc s hlt
        have g2 : wr.cell? ⟨b, off, none⟩ = some (.int .i64 (xs.getD 0 0)) := hc 0 (by omega)
        obtain ⟨x, hx⟩ : ∃ x, x = xs.getD s 0 := ⟨_, rfl⟩
        obtain ⟨y, hy⟩ : ∃ y, y = xs.getD 0 0 := ⟨_, rfl⟩
        rw [← hx] at g1 hx1
        rw [← hy] at g2 hx2
        have hst : lowV xs s = x - y := by rw [hx, hy]; rfl
        have HST := Lib.hid hst
        have hi0 : (0 : Int) ≤ s := by omega
        have hi1 : (s : Int) < (n : Int) := by omega
        have hn0 : (0 : Int) < (n : Int) := by omega
        have hn1 : 0 < n := by omega
        have hw : IntKind.i64.wrap (x - y) = x - y := IntWalk.i64_in _ (by omega)
        have gg1 := (hb.cell (p := ⟨b, off + s, none⟩) hbw).symm.trans g1
        have gg2 := (hb.cell (p := ⟨b, off, none⟩) hbw).symm.trans g2
        clear hst hx hy hc
        go_wp2_with fail
        go_region_held3 (fun w' => w'.cell? ⟨w.heap.size, 1, none⟩ = some (.slice (some ⟨b, off, none⟩) n c) ∧ w'.cell? ⟨b, off + s, none⟩ = some (.int .i64 x) ∧ w'.cell? ⟨b, off, none⟩ = some (.int .i64 y)) (go_keep)
          (first
            | (refine step_app EI (base := w.heap.size + 2) (v := u4) (xs := tabTo (lowV xs) s) (us := [x - y]) (g := wr.heap.size) (n := 1) (c := 1) rfl (.tmp 20) (.tmp 31) rfl ?_ ?_ rfl rfl rfl ?_ ?_ ?_; (exact (hown.drew).alloc _); (exact heap_alloc_new wr.drew _); (show _ + 1 ≤ _; omega); (exact le_alloc hB _); intro v' w2 hown1 hgrow; have hb1 : Below w.heap.size w w2 := below_grown ((hb.drew).alloc hb.size _) ((hown.drew).alloc _) hgrow (by omega) (by simp; omega); have f0' := ((f0.drew).alloc _).grown hgrow (row_apart (hown.drew).range (.inl (by omega))); have fr' := ((fr.drew).alloc _).grown hgrow (row_apart (hown.drew).range (.inl (by omega))); have k00 := f0'.c0; have k01 := f0'.c1; have g1 := (hb1.cell (p := ⟨b, off + s, none⟩) hbw).trans gg1; have g2 := (hb1.cell (p := ⟨b, off, none⟩) hbw).trans gg2))
        all_goals
          go_wp2
          go_roundw
          case rel => exact ⟨s + 1, by go_num, by omega, by rw [HSC.out, HST.out]; exact hown1, hb1, f0', fr'⟩
          case measure => simp [intOf]; omega
      · obtain rfl : s = n := by omega
        obtain ⟨a2, c2, hv, _⟩ := hown.form
        rw [htl] at hv
        subst hv
        cases hI : isFun e0 (tabTo (lowV xs) s) with
        | false =>
          go_wp2_with fail
          refine (c_l2Made_no _ _ _ _ _ _ hown.row (by omega) hI).mono ?_
          rintro e w2 ⟨rfl, hb2⟩
          replace fr := fr.below hb2
          have kr0 := fr.c0
          have kr1 := fr.c1
          have krf := fr.free
          replace hown := hown.below hb2
          replace hb := hb.trans (hb2.mono hb.size)
          have hlt2 := fr.lt
          go_wp2_with fail
          refine bodyPost_ret (v := .tuple #[.agg #[.int .i64 0, .slice none 0 0], .bool false]) (by simp [results, Tryz.results25, go_sem, kr0, kr1, hlt2]) rfl ?_
          obtain ⟨hN, hL, hB'⟩ := g_bad (b := lowT e0 xs) hI
          rw [hN, hL, hB']
          exact ⟨none, 0, rfl, OwnI.nil _ _ _ _, by simp, below_set2a hb (by omega) _ _ _⟩
        | true =>
          go_wp2_with fail
          refine (c_l2Made_yes _ _ _ _ _ _ hown.row (by omega) hI).mono ?_
          rintro e w2 ⟨rfl, hb2⟩
          replace fr := fr.below hb2
          have kr0 := fr.c0
          have kr1 := fr.c1
          have krf := fr.free
          replace hown := hown.below hb2
          replace hb := hb.trans (hb2.mono hb.size)
          have hlt2 := fr.lt
          go_wp2_with fail
          refine bodyPost_ret (v := .tuple #[.agg #[.int .i64 e0, .slice a2 s c2], .bool true]) (by simp [results, Tryz.results25, go_sem, kr0, kr1, hlt2]) rfl ?_
          obtain ⟨hN, hL, hB'⟩ := g_yes (n := e0) HT.out hI
          rw [hN, hL, hB']
          refine ⟨a2, c2, by rw [HTL.out], ?_, by rw [HTL.out]; omega, below_set2a hb (by omega) _ _ _⟩
          rw [HTL.out]
          exact (((own_set2 hown (by omega) _ _).alloc _).base (by omega))
end Go.Proofs.YtfcgijnfiiaepaaGreatDoor
