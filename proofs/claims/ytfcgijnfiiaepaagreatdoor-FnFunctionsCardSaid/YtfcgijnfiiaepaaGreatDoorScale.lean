/- Contracts of ScaleFunction, both packages. -/
import Derived.Test.YtfcgijnfiiaepaaGreatDoorMade
namespace Go.Proofs.YtfcgijnfiiaepaaGreatDoor
set_option linter.unusedSimpArgs false
set_option linter.unusedVariables false
open Go.RowKit

def scaV (xs : List Int) (k : Int) (s : Nat) : Int := k * xs.getD s 0
/-- The test of ScaleFunction. -/
def scaT (n : Int) (xs : List Int) (k : Int) : Bool := isFun n xs && inB k (-1000) 1000
theorem c_sca1 (e0 k : Int) (a : Option Addr) (n c : Nat) (xs : List Int) (g1 g2 s : Nat) (w : World) (hk : w.cell? ⟨g1, 0, none⟩ = some (.int .i64 k)) (f : FBox w g2 26 e0 a n c) (h : Row .i64 w a n xs) (hs : s < n) (hxb : ∀ j, j < xs.length → -1000 ≤ xs.getD j 0 ∧ xs.getD j 0 ≤ 1000) (hkb : -1000 ≤ k ∧ k ≤ 1000) :
    Calls Tryz.prog 58 #[.int .i64 s, .pointer (some ⟨g1, 0, none⟩), .pointer (some ⟨g2, 0, none⟩)] w fun e w' => e = .returned (.int .i64 (scaV xs k s)) ∧ Below w.heap.size w w' := by
  have k20 := f.c0
  have k21 := f.c1
  have hl := h.len
  obtain ⟨b, off, rfl, hlt, hc⟩ := h.at_ (by omega)
  have g := hc s hs
  have hx1 := hxb s (by omega)
  obtain ⟨x, hx⟩ : ∃ x, x = xs.getD s 0 := ⟨_, rfl⟩
  rw [← hx] at g hx1
  have hst : scaV xs k s = k * x := by rw [hx]; rfl
  have HST := Lib.hid hst
  have hi0 : (0 : Int) ≤ s := by omega
  have hi1 : (s : Int) < (n : Int) := by omega
  have hm := mul_bd k x hkb hx1
  have hw : IntKind.i64.wrap (k * x) = k * x := IntWalk.i64_in _ (by omega)
  clear hst hx hc hxb hl hm
  go_enter Tryz.func58, Tryz.ntmps58
  go_wp2_with fail
  go_quiet (fail)
  go_wp2
  go_ret
  exact ⟨ret_int HST.out.symm, below_drewN (Below.refl _ _) _⟩
set_option maxRecDepth 20000 in
set_option maxHeartbeats 1000000 in
theorem c_impl_ScaleFunction (e0 : Int) (a : Option Addr) (n c : Nat) (xs : List Int) (k : Int) (w : World) (h : Row .i64 w a n xs) (hn : n ≤ 1048576) :
    Calls Tryz.prog 21 #[.agg #[.int .i64 e0, .slice a n c], .int .i64 k] w (RetFun 3 (gN (scaT e0 xs k) e0 (tabOf e0 (scaV xs k))) (gL (scaT e0 xs k) e0 (tabOf e0 (scaV xs k))) (gB (scaT e0 xs k) e0 (tabOf e0 (scaV xs k))) w) := by
  have hmf : ∀ (fn : Fn) (first cap : Array Value) (w : World), (Instr.makeFunc fn first cap).run Tryz.prog w = .ok (.func fn first cap) w := fun _ _ _ _ => rfl
  have bel := Below.refl w.heap.size w
  have f0 := FBox.new w 26 e0 a n c
  replace bel := bel.alloc bel.size (.cells #[.int .i64 e0, .slice a n c] 26)
  have bk := heap_alloc_new (w.alloc (.cells #[.int .i64 e0, .slice a n c] 26)) (.cells #[.int .i64 k] 3)
  rw [World.size_alloc] at bk
  replace f0 := f0.alloc (.cells #[.int .i64 k] 3)
  replace bel := bel.alloc bel.size (.cells #[.int .i64 k] 3)
  have fr := FBox.new ((w.alloc (.cells #[.int .i64 e0, .slice a n c] 26)).alloc (.cells #[.int .i64 k] 3)) 26 0 none 0 0
  rw [World.size_alloc, World.size_alloc] at fr
  replace f0 := f0.alloc (.cells #[.int .i64 0, .slice none 0 0] 26)
  replace bk := (Below.heap_alloc _ (.cells #[.int .i64 0, .slice none 0 0] 26) _ (by simp)).trans bk
  replace bel := bel.alloc bel.size (.cells #[.int .i64 0, .slice none 0 0] 26)
  cases hf : isFun e0 xs with
  | false =>
    obtain ⟨hN, hL, hB⟩ := g_no (b := scaT e0 xs k) (n := e0) (xs := tabOf e0 (scaV xs k)) (by simp [scaT, hf])
    rw [hN, hL, hB]
    clear hN hL hB
    go_enter Tryz.func21, Tryz.ntmps21
    go_wp2_with fail
    refine (c_impl_IsFunction _ _ _ _ _ _ (((h.alloc _).alloc _).alloc _) hn).mono ?_
    rw [hf]
    rintro e w1 ⟨rfl, hb1⟩
    replace bel := bel.trans (hb1.mono bel.size)
    replace fr := fr.below hb1
    have kr0 := fr.c0
    have kr1 := fr.c1
    have krf := fr.free
    go_wp2_with fail
    refine bodyPost_ret (v := .tuple #[.agg #[.int .i64 0, .slice none 0 0], .bool false]) (by simp [results, Tryz.results21, go_sem, kr0, kr1]) rfl ?_
    exact ⟨none, 0, rfl, OwnI.nil _ _ _ _, by simp, (bel.setCell (by show w.heap.size ≤ w.heap.size + 1 + 1; omega) _).setCell (by show w.heap.size ≤ w.heap.size + 1 + 1; omega) _⟩
  | true =>
    cases hk : inB k (-1000) 1000 with
    | false =>
      obtain ⟨hN, hL, hB⟩ := g_no (b := scaT e0 xs k) (n := e0) (xs := tabOf e0 (scaV xs k)) (by simp [scaT, hk])
      rw [hN, hL, hB]
      clear hN hL hB
      go_enter Tryz.func21, Tryz.ntmps21
      go_wp2_with fail
      refine (c_impl_IsFunction _ _ _ _ _ _ (((h.alloc _).alloc _).alloc _) hn).mono ?_
      rw [hf]
      rintro e w1 ⟨rfl, hb1⟩
      replace bel := bel.trans (hb1.mono bel.size)
      replace fr := fr.below hb1
      have kr0 := fr.c0
      have kr1 := fr.c1
      have krf := fr.free
      have kk := cell_of_row w1 _ 0 _ _ _ ((hb1.block _ (by simp)).trans bk)
      go_wp2_with fail
      refine (c_within _ _ _ _).mono ?_
      rw [hk]
      rintro e w' ⟨rfl, rfl⟩
      go_wp2_with fail
      refine bodyPost_ret (v := .tuple #[.agg #[.int .i64 0, .slice none 0 0], .bool false]) (by simp [results, Tryz.results21, go_sem, kr0, kr1]) rfl ?_
      exact ⟨none, 0, rfl, OwnI.nil _ _ _ _, by simp, (bel.setCell (by show w.heap.size ≤ w.heap.size + 1 + 1; omega) _).setCell (by show w.heap.size ≤ w.heap.size + 1 + 1; omega) _⟩
    | true =>
      obtain ⟨hN, hL, hB⟩ := g_mid (b := scaT e0 xs k) (n := e0) (xs := tabOf e0 (scaV xs k)) (by simp [scaT, hf, hk])
      rw [hN, hL, hB]
      clear hN hL hB
      obtain ⟨⟨q0, q1⟩, hlx, hxb⟩ := isFun_true hf
      have hl := h.len
      have hle := isFun_le hf
      obtain ⟨tab, htab⟩ : ∃ t, t = tabOf e0 (scaV xs k) := ⟨_, rfl⟩
      rw [← htab]
      have HT := Lib.hid htab
      clear htab
      go_enter Tryz.func21, Tryz.ntmps21
      go_wp2_with fail
      refine (c_impl_IsFunction _ _ _ _ _ _ (((h.alloc _).alloc _).alloc _) hn).mono ?_
      rw [hf]
      rintro e w1 ⟨rfl, hb1⟩
      replace bel := bel.trans (hb1.mono bel.size)
      replace fr := fr.below hb1
      replace f0 := f0.below hb1
      replace bk := (hb1.block _ (by simp)).trans bk
      have kk := cell_of_row w1 _ 0 _ _ _ bk
      have kr0 := fr.c0
      have kr1 := fr.c1
      have krf := fr.free
      have k00 := f0.c0
      have k01 := f0.c1
      have hlt1 := fr.lt
      go_wp2_with fail
      refine (c_within _ _ _ _).mono ?_
      rw [hk]
      rintro e w' ⟨rfl, rfl⟩
      go_wp2_with fail
      refine (c_makeFunction _ _ _ (scaV xs k) _ q0 q1 (enters_of Tryz.func58 (by kernel_rfl) rfl) (fun s w' hs hb => by rw [app2]; exact c_sca1 e0 k a n c xs (w.heap.size + 1) w.heap.size s w' (cell_of_row w' _ 0 _ _ _ ((hb.block _ (by omega)).trans bk)) (f0.below hb) ((h.below bel).below hb) (by omega) hxb (inB_true.1 hk))).mono ?_
      rw [← HT.out]
      rintro e w2 ⟨a2, c2, rfl, ho, hlen, hb2⟩
      replace bel := bel.trans (hb2.mono bel.size)
      replace fr := fr.below hb2
      replace kr0 := fr.c0
      replace kr1 := fr.c1
      replace krf := fr.free
      go_wp2_with fail
      refine bodyPost_ret (v := .tuple #[.agg #[.int .i64 (madeN e0 tab), .slice a2 (madeL e0 tab).length c2], .bool (isFun e0 tab)]) (by simp [results, Tryz.results21, go_sem, kr0, kr1]) rfl ?_
      refine ⟨a2, c2, rfl, ?_, hlen, (bel.setCell (by show w.heap.size ≤ w.heap.size + 1 + 1; omega) _).setCell (by show w.heap.size ≤ w.heap.size + 1 + 1; omega) _⟩
      exact ((ho.base (by omega)).setFar ⟨w.heap.size + 1 + 1, 0, none⟩ _ (.inr (row_apart ho.range (.inl (by show w.heap.size + 1 + 1 < w1.heap.size; omega))))).setFar ⟨w.heap.size + 1 + 1, 1, none⟩ _ (.inr (row_apart ho.range (.inl (by show w.heap.size + 1 + 1 < w1.heap.size; omega))))
set_option maxRecDepth 20000 in
set_option maxHeartbeats 2000000 in
theorem c_spec_ScaleFunction (e0 : Int) (a : Option Addr) (n c : Nat) (xs : List Int) (k : Int) (w : World) (h : Row .i64 w a n xs) (hn : n ≤ 1048576) :
    Calls Tryz.prog 22 #[.agg #[.int .i64 e0, .slice a n c], .int .i64 k] w (RetFun 3 (gN (scaT e0 xs k) e0 (tabOf e0 (scaV xs k))) (gL (scaT e0 xs k) e0 (tabOf e0 (scaV xs k))) (gB (scaT e0 xs k) e0 (tabOf e0 (scaV xs k))) w) := by
  have bel := Below.refl w.heap.size w
  have f0 := (FBox.new w 26 e0 a n c).alloc (.cells #[.int .i64 0, .slice none 0 0] 26)
  replace bel := bel.alloc bel.size (.cells #[.int .i64 e0, .slice a n c] 26)
  have fr := FBox.new (w.alloc (.cells #[.int .i64 e0, .slice a n c] 26)) 26 0 none 0 0
  rw [World.size_alloc] at fr
  replace bel := bel.alloc bel.size (.cells #[.int .i64 0, .slice none 0 0] 26)
  replace f0 := f0.alloc (.cells #[] 3)
  replace fr := fr.alloc (.cells #[] 3)
  replace bel := bel.alloc bel.size (.cells #[] 3)
  have hv0 : OwnI (((w.alloc (.cells #[.int .i64 e0, .slice a n c] 26)).alloc (.cells #[.int .i64 0, .slice none 0 0] 26)).alloc (.cells #[] 3)) (w.heap.size + 2) 3 .i64 (.slice (some ⟨w.heap.size + 1 + 1, 0, none⟩) 0 0) [] := by
    have h := World.ownsRow_made (base := w.heap.size + 2) (e := 3) (size := 1) ((w.alloc (.cells #[.int .i64 e0, .slice a n c] 26)).alloc (.cells #[.int .i64 0, .slice none 0 0] 26)) #[] 0 (by simp) (by decide) rfl
    simp only [World.size_alloc] at h
    exact h
  cases hf : isFun e0 xs with
  | false =>
    obtain ⟨hN, hL, hB⟩ := g_no (b := scaT e0 xs k) (n := e0) (xs := tabOf e0 (scaV xs k)) (by simp [scaT, hf])
    rw [hN, hL, hB]
    clear hN hL hB
    go_enter Tryz.func22, Tryz.ntmps22
    go_wp2_with fail
    refine (c_spec_IsFunction _ _ _ _ _ _ (((h.alloc _).alloc _).alloc _) hn).mono ?_
    rw [hf]
    rintro e w1 ⟨rfl, hb1⟩
    replace bel := bel.trans (hb1.mono bel.size)
    replace fr := fr.below hb1
    have kr0 := fr.c0
    have kr1 := fr.c1
    have krf := fr.free
    go_wp2_with fail
    refine bodyPost_ret (v := .tuple #[.agg #[.int .i64 0, .slice none 0 0], .bool false]) (by simp [results, Tryz.results22, go_sem, kr0, kr1]) rfl ?_
    exact ⟨none, 0, rfl, OwnI.nil _ _ _ _, by simp, (bel.setCell (by show w.heap.size ≤ w.heap.size + 1; omega) _).setCell (by show w.heap.size ≤ w.heap.size + 1; omega) _⟩
  | true =>
    cases hk : inB k (-1000) 1000 with
    | false =>
      obtain ⟨hN, hL, hB⟩ := g_no (b := scaT e0 xs k) (n := e0) (xs := tabOf e0 (scaV xs k)) (by simp [scaT, hk])
      rw [hN, hL, hB]
      clear hN hL hB
      go_enter Tryz.func22, Tryz.ntmps22
      go_wp2_with fail
      refine (c_spec_IsFunction _ _ _ _ _ _ (((h.alloc _).alloc _).alloc _) hn).mono ?_
      rw [hf]
      rintro e w1 ⟨rfl, hb1⟩
      replace bel := bel.trans (hb1.mono bel.size)
      replace fr := fr.below hb1
      have kr0 := fr.c0
      have kr1 := fr.c1
      have krf := fr.free
      go_wp2_with fail
      refine (c_l1In _ _ _ _).mono ?_
      rw [hk]
      rintro e w' ⟨rfl, rfl⟩
      go_wp2_with fail
      refine bodyPost_ret (v := .tuple #[.agg #[.int .i64 0, .slice none 0 0], .bool false]) (by simp [results, Tryz.results22, go_sem, kr0, kr1]) rfl ?_
      exact ⟨none, 0, rfl, OwnI.nil _ _ _ _, by simp, (bel.setCell (by show w.heap.size ≤ w.heap.size + 1; omega) _).setCell (by show w.heap.size ≤ w.heap.size + 1; omega) _⟩
    | true =>
      have hT : scaT e0 xs k = true := by simp [scaT, hf, hk]
      obtain ⟨⟨q0, q1⟩, hlx, hxb⟩ := isFun_true hf
      have hl := h.len
      have hle := isFun_le hf
      have htab : tabOf e0 (scaV xs k) = tabTo (scaV xs k) n := by rw [tabOf, ← hlx, hl]
      rw [htab]
      have HTL := Lib.hid (tabTo_length (scaV xs k))
      have HXB := Lib.hid hxb
      have HT := Lib.hid hT
      have HTAB := Lib.hid htab
      clear htab hxb hT hlx
      go_enter Tryz.func22, Tryz.ntmps22
      go_wp2_with fail
      refine (c_spec_IsFunction _ _ _ _ _ _ (((h.alloc _).alloc _).alloc _) hn).mono ?_
      rw [hf]
      rintro e w1 ⟨rfl, hb1⟩
      replace bel := bel.trans (hb1.mono bel.size)
      replace fr := fr.below hb1
      replace f0 := f0.below hb1
      replace hv0 := hv0.below hb1
      have k00 := f0.c0
      have k01 := f0.c1
      go_wp2_with fail
      refine (c_l1In _ _ _ _).mono ?_
      rw [hk]
      rintro e w' ⟨rfl, rfl⟩
      have hsz0 : w.heap.size + 2 ≤ w1.heap.size := by have := fr.lt; omega
      go_wp2_with fail
      go_loopw [6, 7] (fun v i wr => ∃ s : Nat, i = .int .i64 s ∧ s ≤ n ∧ OwnI wr (w.heap.size + 2) 3 .i64 v (tabTo (scaV xs k) s) ∧ Below w.heap.size w wr ∧ FBox wr w.heap.size 26 e0 a n c ∧ FBox wr (w.heap.size + 1) 26 0 none 0 0) (fun _ i _ => n - (intOf i).toNat)
      case atStart => exact ⟨0, rfl, Nat.zero_le _, hv0, bel, f0, fr⟩
      case round =>
        clear bel f0 fr k00 k01 hb1 hv0
        obtain ⟨s, rfl, hs, hown, hb, f0, fr⟩ := hrel
        have k00 := f0.c0
        have k01 := f0.c1
        have hB : w.heap.size + 2 ≤ wr.heap.size := by have := fr.lt; omega
        have htl := HTL.out s
        by_cases hlt : s < n
        · obtain ⟨b, off, rfl, hblt, hc⟩ := (h.below hb).at_ (by omega)
          have hbw : b < w.heap.size := by
            obtain ⟨b', off', hE, hlt', _⟩ := h.at_ (by omega)
            cases hE
            exact hlt'
          have hsc := tabTo_succ (scaV xs k) s
          have HSC := Lib.hid hsc
          clear hsc
          have hx1 := HXB.out s (by omega)
          have g1 : wr.cell? ⟨b, off + s, none⟩ = some (.int .i64 (xs.getD s 0)) := hc s hlt
          obtain ⟨x, hx⟩ : ∃ x, x = xs.getD s 0 := ⟨_, rfl⟩
          rw [← hx] at g1 hx1
          have hst : scaV xs k s = k * x := by rw [hx]; rfl
          have HST := Lib.hid hst
          have hi0 : (0 : Int) ≤ s := by omega
          have hi1 : (s : Int) < (n : Int) := by omega
          have hm := mul_bd k x (inB_true.1 hk) hx1
          have hw : IntKind.i64.wrap (k * x) = k * x := IntWalk.i64_in _ (by omega)
          have hw' : wrap64 (k * x) = k * x := IntWalk.wrap64_in _ (by omega)
          clear hst hx hc hm
          go_wp2_with (at_builtin; refine wpList_app EI (base := w.heap.size + 2) (v := u6) (xs := tabTo (scaV xs k) s) (us := [k * x]) (g := wr.heap.size) (n := 1) (c := 1) rfl (.tmp 27) (.tmp 35) rfl ?_ ?_ rfl rfl rfl ?_ ?_ ?_; (exact (hown).alloc _); (exact heap_alloc_new wr _); (show _ + 1 ≤ _; omega); (exact le_alloc hB _); intro v' w2 hown1 hgrow)
          have hb1 : Below w.heap.size w w2 := below_grown ((hb).alloc hb.size _) ((hown).alloc _) hgrow (by omega) (by simp; omega)
          have f0' := ((f0).alloc _).grown hgrow (row_apart (hown).range (.inl (by omega)))
          have fr' := ((fr).alloc _).grown hgrow (row_apart (hown).range (.inl (by omega)))
          go_roundw
          case rel => exact ⟨s + 1, by go_num, by omega, by rw [HSC.out, HST.out]; exact hown1, hb1, f0', fr'⟩
          case measure => simp [intOf]; omega
        · obtain rfl : s = n := by omega
          obtain ⟨a2, c2, hv, _⟩ := hown.form
          rw [htl] at hv
          subst hv
          cases hI : isFun e0 (tabTo (scaV xs k) s) with
          | false =>
            go_wp2_with fail
            refine (c_l2Made_no _ _ _ _ _ _ hown.row (by omega) hI).mono ?_
            rintro e w2 ⟨rfl, hb2⟩
            replace fr := fr.below hb2
            have kr0 := fr.c0
            have kr1 := fr.c1
            have krf := fr.free
            replace hown := hown.below hb2
            replace hb := hb.trans (hb2.mono hb.size)
            have hlt2 := fr.lt
            go_wp2_with fail
            refine bodyPost_ret (v := .tuple #[.agg #[.int .i64 0, .slice none 0 0], .bool false]) (by simp [results, Tryz.results22, go_sem, kr0, kr1, hlt2]) rfl ?_
            obtain ⟨hN, hL, hB'⟩ := g_bad (b := scaT e0 xs k) hI
            rw [hN, hL, hB']
            exact ⟨none, 0, rfl, OwnI.nil _ _ _ _, by simp, below_set2a hb (by omega) _ _ _⟩
          | true =>
            go_wp2_with fail
            refine (c_l2Made_yes _ _ _ _ _ _ hown.row (by omega) hI).mono ?_
            rintro e w2 ⟨rfl, hb2⟩
            replace fr := fr.below hb2
            have kr0 := fr.c0
            have kr1 := fr.c1
            have krf := fr.free
            replace hown := hown.below hb2
            replace hb := hb.trans (hb2.mono hb.size)
            have hlt2 := fr.lt
            go_wp2_with fail
            refine bodyPost_ret (v := .tuple #[.agg #[.int .i64 e0, .slice a2 s c2], .bool true]) (by simp [results, Tryz.results22, go_sem, kr0, kr1, hlt2]) rfl ?_
            obtain ⟨hN, hL, hB'⟩ := g_yes (n := e0) HT.out hI
            rw [hN, hL, hB']
            refine ⟨a2, c2, by rw [HTL.out], ?_, by rw [HTL.out]; omega, below_set2a hb (by omega) _ _ _⟩
            rw [HTL.out]
            exact (((own_set2 hown (by omega) _ _).alloc _).base (by omega))
end Go.Proofs.YtfcgijnfiiaepaaGreatDoor
