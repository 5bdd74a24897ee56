/- Contracts of OppositeFunction, both packages. -/
import Derived.Test.YtfcgijnfiiaepaaMade
namespace Go.Proofs.Ytfcgijnfiiaepaa
set_option linter.unusedSimpArgs false
set_option linter.unusedVariables false
open Go.RowKit

def oppV (xs : List Int) (s : Nat) : Int := xs.getD (xs.length - 1 - s) 0
theorem andNot_fin : ∀ (j : Fin 6) (s : Fin 32), s.val < 2 ^ j.val → bits .andNot .i64 ((2 : Int) ^ j.val - 1) (s.val : Int) = ((2 ^ j.val - 1 - s.val : Nat) : Int) := by decide +kernel
theorem andNot_full {e0 : Int} {s m : Nat} (h0 : 0 ≤ e0) (h1 : e0 ≤ 5) (hs : s < 2 ^ e0.toNat) (hm : m = 2 ^ e0.toNat - 1 - s) : bits .andNot .i64 ((2 : Int) ^ e0.toNat - 1) (s : Int) = (m : Int) := by
  have h32 := pow5 h0 h1
  have := andNot_fin ⟨e0.toNat, by omega⟩ ⟨s, by omega⟩ hs
  rw [hm]
  exact this
/-- The test of OppositeFunction. -/
def oppT (n : Int) (xs : List Int) : Bool := isFun n xs
theorem opp_isFun {n : Int} {xs : List Int} (h : isFun n xs = true) : isFun n (tabOf n (oppV xs)) = true := by
  obtain ⟨⟨h0, h1⟩, hl, hx⟩ := isFun_true h
  exact isFun_tab h0 h1 fun s hs => hx _ (by omega)
theorem c_allOf (e0 : Int) (a : Option Addr) (n c : Nat) (w : World) (h0 : 0 ≤ e0) (h1 : e0 ≤ 5) :
    Calls Try.prog 67 #[.agg #[.int .i64 e0, .slice a n c]] w fun e w' => e = .returned (.int .i64 (2 ^ e0.toNat - 1)) ∧ Below w.heap.size w w' := by
  have hb := (Below.refl w.heap.size w).alloc (Nat.le_refl _) (.cells #[.int .i64 e0, .slice a n c] 26)
  have : e0 = 0 ∨ e0 = 1 ∨ e0 = 2 ∨ e0 = 3 ∨ e0 = 4 ∨ e0 = 5 := by omega
  clear h0 h1
  rcases this with rfl | rfl | rfl | rfl | rfl | rfl
  all_goals
    go_enter Try.func67, Try.ntmps67
    go_wp2
    go_ret
    exact ⟨ret_int (by decide), hb⟩
set_option maxHeartbeats 400000 in
theorem c_opp1 (e0 : Int) (a : Option Addr) (n c : Nat) (xs : List Int) (g2 s : Nat) (w : World) (f : FBox w g2 26 e0 a n c) (h : Row .i64 w a n xs) (hs : s < n) (hf : isFun e0 xs = true) :
    Calls Try.prog 76 #[.int .i64 s, .pointer (some ⟨g2, 0, none⟩)] w fun e w' => e = .returned (.int .i64 (oppV xs s)) ∧ Below w.heap.size w w' := by
  have k20 := f.c0
  have k21 := f.c1
  have hl := h.len
  obtain ⟨⟨q0, q1⟩, hlx, _⟩ := isFun_true hf
  obtain ⟨m, hm⟩ : ∃ m, m = n - 1 - s := ⟨_, rfl⟩
  have hnd := andNot_full (s := s) (m := m) q0 q1 (by omega) (by omega)
  obtain ⟨b, off, rfl, hlt, hc⟩ := h.at_ (by omega)
  have g := hc m (by omega)
  obtain ⟨x, hx⟩ : ∃ x, x = xs.getD m 0 := ⟨_, rfl⟩
  rw [← hx] at g
  have hst : oppV xs s = x := by rw [hx, hm, ← hl]; rfl
  have HST := Lib.hid hst
  have hi0 : (0 : Int) ≤ m := by omega
  have hi1 : (m : Int) < (n : Int) := by omega
  have f := f.drew
  have hbd := (Below.refl w.heap.size w).drew
  clear hst hx hc hl hlx hm hf
  go_enter Try.func76, Try.ntmps76
  go_wp2_with fail
  go_region_held3 (fun w' => w'.cell? ⟨g2, 0, none⟩ = some (.int .i64 e0) ∧ w'.cell? ⟨g2, 1, none⟩ = some (.slice (some ⟨b, off, none⟩) n c) ∧ w'.cell? ⟨b, off + m, none⟩ = some (.int .i64 x)) (go_keep)
    (first
      | (go_at_call 67; refine (c_allOf _ _ _ _ _ q0 q1).mono ?_; rintro e w1 ⟨rfl, hb1⟩; have f1 := f.below hb1; have k20 := f1.c0; have k21 := f1.c1; have g := (hb1.cell (p := ⟨b, off + m, none⟩) hlt).trans g))
  all_goals
    go_wp2
    go_ret
    exact ⟨ret_int HST.out.symm, hbd.trans hb1⟩
set_option maxHeartbeats 1000000 in
theorem c_impl_OppositeFunction (e0 : Int) (a : Option Addr) (n c : Nat) (xs : List Int) (w : World) (h : Row .i64 w a n xs) (hn : n ≤ 1048576) :
    Calls Try.prog 26 #[.agg #[.int .i64 e0, .slice a n c]] w (RetFun 3 (gN (oppT e0 xs) e0 (tabOf e0 (oppV xs))) (gL (oppT e0 xs) e0 (tabOf e0 (oppV xs))) (gB (oppT e0 xs) e0 (tabOf e0 (oppV xs))) w) := by
  have hmf : ∀ (fn : Fn) (first cap : Array Value) (w : World), (Instr.makeFunc fn first cap).run Try.prog w = .ok (.func fn first cap) w := fun _ _ _ _ => rfl
  have bel := Below.refl w.heap.size w
  have f0 := FBox.new w 26 e0 a n c
  replace bel := bel.alloc bel.size (.cells #[.int .i64 e0, .slice a n c] 26)
  have fr := FBox.new (w.alloc (.cells #[.int .i64 e0, .slice a n c] 26)) 26 0 none 0 0
  rw [World.size_alloc] at fr
  replace f0 := f0.alloc (.cells #[.int .i64 0, .slice none 0 0] 26)
  replace bel := bel.alloc bel.size (.cells #[.int .i64 0, .slice none 0 0] 26)
  cases hf : isFun e0 xs with
  | false =>
    obtain ⟨hN, hL, hB⟩ := g_no (b := oppT e0 xs) (n := e0) (xs := tabOf e0 (oppV xs)) (by simp [oppT, hf])
    rw [hN, hL, hB]
    clear hN hL hB
    go_enter Try.func26, Try.ntmps26
    go_wp2_with fail
    refine (c_impl_IsFunction _ _ _ _ _ _ ((h.alloc _).alloc _) hn).mono ?_
    rw [hf]
    rintro e w1 ⟨rfl, hb1⟩
    replace bel := bel.trans (hb1.mono bel.size)
    replace fr := fr.below hb1
    have kr0 := fr.c0
    have kr1 := fr.c1
    have krf := fr.free
    go_wp2_with fail
    refine bodyPost_ret (v := .tuple #[.agg #[.int .i64 0, .slice none 0 0], .bool false]) (by simp [results, Try.results26, go_sem, kr0, kr1]) rfl ?_
    exact ⟨none, 0, rfl, OwnI.nil _ _ _ _, by simp, (bel.setCell (by show w.heap.size ≤ w.heap.size + 1; omega) _).setCell (by show w.heap.size ≤ w.heap.size + 1; omega) _⟩
  | true =>
    obtain ⟨hN, hL, hB⟩ := g_mid (b := oppT e0 xs) (n := e0) (xs := tabOf e0 (oppV xs)) (by simp [oppT, hf])
    rw [hN, hL, hB]
    clear hN hL hB
    obtain ⟨⟨q0, q1⟩, hlx, hxb⟩ := isFun_true hf
    have hl := h.len
    have hle := isFun_le hf
    obtain ⟨tab, htab⟩ : ∃ t, t = tabOf e0 (oppV xs) := ⟨_, rfl⟩
    rw [← htab]
    have HT := Lib.hid htab
    clear htab
    go_enter Try.func26, Try.ntmps26
    go_wp2_with fail
    refine (c_impl_IsFunction _ _ _ _ _ _ ((h.alloc _).alloc _) hn).mono ?_
    rw [hf]
    rintro e w1 ⟨rfl, hb1⟩
    replace bel := bel.trans (hb1.mono bel.size)
    replace fr := fr.below hb1
    replace f0 := f0.below hb1
    have kr0 := fr.c0
    have kr1 := fr.c1
    have krf := fr.free
    have k00 := f0.c0
    have k01 := f0.c1
    have hlt1 := fr.lt
    go_wp2_with fail
    refine (c_makeFunction _ _ _ (oppV xs) _ q0 q1 (enters_of Try.func76 (by kernel_rfl) rfl) (fun s w' hs hb => by rw [app1]; exact c_opp1 e0 a n c xs w.heap.size s w' (f0.below hb) ((h.below bel).below hb) (by omega) hf)).mono ?_
    rw [← HT.out]
    rintro e w2 ⟨a2, c2, rfl, ho, hlen, hb2⟩
    replace bel := bel.trans (hb2.mono bel.size)
    replace fr := fr.below hb2
    replace kr0 := fr.c0
    replace kr1 := fr.c1
    replace krf := fr.free
    go_wp2_with fail
    refine bodyPost_ret (v := .tuple #[.agg #[.int .i64 (madeN e0 tab), .slice a2 (madeL e0 tab).length c2], .bool (isFun e0 tab)]) (by simp [results, Try.results26, go_sem, kr0, kr1]) rfl ?_
    refine ⟨a2, c2, rfl, ?_, hlen, (bel.setCell (by show w.heap.size ≤ w.heap.size + 1; omega) _).setCell (by show w.heap.size ≤ w.heap.size + 1; omega) _⟩
    exact ((ho.base (by omega)).setFar ⟨w.heap.size + 1, 0, none⟩ _ (.inr (row_apart ho.range (.inl (by show w.heap.size + 1 < w1.heap.size; omega))))).setFar ⟨w.heap.size + 1, 1, none⟩ _ (.inr (row_apart ho.range (.inl (by show w.heap.size + 1 < w1.heap.size; omega))))
set_option maxHeartbeats 2000000 in
theorem c_spec_OppositeFunction (e0 : Int) (a : Option Addr) (n c : Nat) (xs : List Int) (w : World) (h : Row .i64 w a n xs) (hn : n ≤ 1048576) :
    Calls Try.prog 27 #[.agg #[.int .i64 e0, .slice a n c]] w (RetFun 3 (gN (oppT e0 xs) e0 (tabOf e0 (oppV xs))) (gL (oppT e0 xs) e0 (tabOf e0 (oppV xs))) (gB (oppT e0 xs) e0 (tabOf e0 (oppV xs))) w) := by
  have bel := Below.refl w.heap.size w
  have f0 := (FBox.new w 26 e0 a n c).alloc (.cells #[.int .i64 0, .slice none 0 0] 26)
  replace bel := bel.alloc bel.size (.cells #[.int .i64 e0, .slice a n c] 26)
  have fr := FBox.new (w.alloc (.cells #[.int .i64 e0, .slice a n c] 26)) 26 0 none 0 0
  rw [World.size_alloc] at fr
  replace bel := bel.alloc bel.size (.cells #[.int .i64 0, .slice none 0 0] 26)
  cases hf : isFun e0 xs with
  | false =>
    obtain ⟨hN, hL, hB⟩ := g_no (b := oppT e0 xs) (n := e0) (xs := tabOf e0 (oppV xs)) (by simp [oppT, hf])
    rw [hN, hL, hB]
    clear hN hL hB
    go_enter Try.func27, Try.ntmps27
    go_wp2_with fail
    refine (c_spec_IsFunction _ _ _ _ _ _ ((h.alloc _).alloc _) hn).mono ?_
    rw [hf]
    rintro e w1 ⟨rfl, hb1⟩
    replace bel := bel.trans (hb1.mono bel.size)
    replace fr := fr.below hb1
    have kr0 := fr.c0
    have kr1 := fr.c1
    have krf := fr.free
    go_wp2_with fail
    refine bodyPost_ret (v := .tuple #[.agg #[.int .i64 0, .slice none 0 0], .bool false]) (by simp [results, Try.results27, go_sem, kr0, kr1]) rfl ?_
    exact ⟨none, 0, rfl, OwnI.nil _ _ _ _, by simp, (bel.setCell (by show w.heap.size ≤ w.heap.size + 1; omega) _).setCell (by show w.heap.size ≤ w.heap.size + 1; omega) _⟩
  | true =>
    have hT : oppT e0 xs = true := by simp [oppT, hf]
    obtain ⟨⟨q0, q1⟩, hlx, hxb⟩ := isFun_true hf
    have hl := h.len
    have hle := isFun_le hf
    have HI := Lib.hid (show isFun e0 (tabTo (oppV xs) n) = true by have := opp_isFun hf; rwa [show tabOf e0 (oppV xs) = tabTo (oppV xs) n by rw [tabOf, ← hlx, hl]] at this)
    have htab : tabOf e0 (oppV xs) = tabTo (oppV xs) n := by rw [tabOf, ← hlx, hl]
    rw [htab]
    have HTL := Lib.hid (tabTo_length (oppV xs))
    have HXB := Lib.hid hxb
    have HT := Lib.hid hT
    have HTAB := Lib.hid htab
    clear htab hxb hT hlx
    go_enter Try.func27, Try.ntmps27
    go_wp2_with fail
    refine (c_spec_IsFunction _ _ _ _ _ _ ((h.alloc _).alloc _) hn).mono ?_
    rw [hf]
    rintro e w1 ⟨rfl, hb1⟩
    replace bel := bel.trans (hb1.mono bel.size)
    replace fr := fr.below hb1
    replace f0 := f0.below hb1
    have k00 := f0.c0
    have k01 := f0.c1
    have hsz0 : w.heap.size + 2 ≤ w1.heap.size := by have := fr.lt; omega
    go_wp2_with fail
    go_loopw [4, 5] (fun v i wr => ∃ s : Nat, i = .int .i64 s ∧ s ≤ n ∧ OwnI wr (w.heap.size + 2) 3 .i64 v (tabTo (oppV xs) s) ∧ Below w.heap.size w wr ∧ FBox wr w.heap.size 26 e0 a n c ∧ FBox wr (w.heap.size + 1) 26 0 none 0 0) (fun _ i _ => n - (intOf i).toNat)
    case atStart => exact ⟨0, rfl, Nat.zero_le _, World.ownsRow_made w1 #[] 0 hsz0 (by decide) rfl, bel.alloc bel.size _, f0.alloc _, fr.alloc _⟩
    case round =>
      clear bel f0 fr k00 k01 hb1
      obtain ⟨s, rfl, hs, hown, hb, f0, fr⟩ := hrel
      have k00 := f0.c0
      have k01 := f0.c1
      have hB : w.heap.size + 2 ≤ wr.heap.size := by have := fr.lt; omega
      have htl := HTL.out s
      by_cases hlt : s < n
      · obtain ⟨b, off, rfl, hblt, hc⟩ := (h.below hb).at_ (by omega)
        have hbw : b < w.heap.size := by
          obtain ⟨b', off', hE, hlt', _⟩ := h.at_ (by omega)
          cases hE
          exact hlt'
        have hsc := tabTo_succ (oppV xs) s
        have HSC := Lib.hid hsc
        clear hsc
        obtain ⟨m, hm⟩ : ∃ m, m = n - 1 - s := ⟨_, rfl⟩
        have g1 := hc m (by omega)
        obtain ⟨x, hx⟩ : ∃ x, x = xs.getD m 0 := ⟨_, rfl⟩
        rw [← hx] at g1
        have hst : oppV xs s = x := by rw [hx, hm, ← hl]; rfl
        have HST := Lib.hid hst
        have hi0 : (0 : Int) ≤ m := by omega
        have hi1 : (m : Int) < (n : Int) := by omega
        have hidx : (n : Int) - 1 - (s : Int) = (m : Int) := by omega
        clear hst hx hc hm
        go_wp2_with (at_builtin; refine wpList_app EI (base := w.heap.size + 2) (v := u4) (xs := tabTo (oppV xs) s) (us := [x]) (g := wr.heap.size) (n := 1) (c := 1) rfl (.tmp 18) (.tmp 29) rfl ?_ ?_ rfl rfl rfl ?_ ?_ ?_; (exact (hown).alloc _); (exact heap_alloc_new wr _); (show _ + 1 ≤ _; omega); (exact le_alloc hB _); intro v' w2 hown1 hgrow)
        have hb1 : Below w.heap.size w w2 := below_grown ((hb).alloc hb.size _) ((hown).alloc _) hgrow (by omega) (by simp; omega)
        have f0' := ((f0).alloc _).grown hgrow (row_apart (hown).range (.inl (by omega)))
        have fr' := ((fr).alloc _).grown hgrow (row_apart (hown).range (.inl (by omega)))
        go_roundw
        case rel => exact ⟨s + 1, by go_num, by omega, by rw [HSC.out, HST.out]; exact hown1, hb1, f0', fr'⟩
        case measure => simp [intOf]; omega
      · obtain rfl : s = n := by omega
        obtain ⟨a2, c2, hv, _⟩ := hown.form
        rw [htl] at hv
        subst hv
        have kr0 := fr.c0
        have kr1 := fr.c1
        have krf := fr.free
        go_wp2_with fail
        refine bodyPost_ret (v := .tuple #[.agg #[.int .i64 e0, .slice a2 s c2], .bool true]) (by simp [results, Try.results27, go_sem, kr0, kr1]) rfl ?_
        obtain ⟨hN, hL, hB'⟩ := g_yes (n := e0) HT.out HI.out
        rw [hN, hL, hB']
        refine ⟨a2, c2, by rw [HTL.out], ?_, by rw [HTL.out]; omega, (hb.setCell (by show w.heap.size ≤ w.heap.size + 1; omega) _).setCell (by show w.heap.size ≤ w.heap.size + 1; omega) _⟩
        rw [HTL.out]
        exact ((hown.base (by omega)).setFar ⟨w.heap.size + 1, 0, none⟩ _ (.inr (row_apart hown.range (.inl (by show w.heap.size + 1 < w.heap.size + 2; omega))))).setFar ⟨w.heap.size + 1, 1, none⟩ _ (.inr (row_apart hown.range (.inl (by show w.heap.size + 1 < w.heap.size + 2; omega))))
end Go.Proofs.Ytfcgijnfiiaepaa
