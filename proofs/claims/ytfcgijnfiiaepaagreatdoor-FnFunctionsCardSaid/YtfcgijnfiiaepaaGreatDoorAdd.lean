/- Contracts of AddFunctions, both packages, and of areAlike. -/
import Derived.Test.YtfcgijnfiiaepaaGreatDoorAlike
namespace Go.Proofs.YtfcgijnfiiaepaaGreatDoor
set_option linter.unusedSimpArgs false
set_option linter.unusedVariables false
open Go.RowKit

def addV (xs ys : List Int) (s : Nat) : Int := xs.getD s 0 + ys.getD s 0
theorem c_add1 (e0 : Int) (a : Option Addr) (n c : Nat) (xs : List Int) (e1 : Int) (b : Option Addr) (m d : Nat) (ys : List Int) (g1 g2 s : Nat) (w : World) (f0 : FBox w g1 26 e0 a n c) (f1 : FBox w g2 26 e1 b m d) (h : Row .i64 w a n xs) (h' : Row .i64 w b m ys) (hs : s < n) (hs' : s < m)
    (hx : -1000 ≤ xs.getD s 0 ∧ xs.getD s 0 ≤ 1000) (hy : -1000 ≤ ys.getD s 0 ∧ ys.getD s 0 ≤ 1000) :
    Calls Tryz.prog 40 #[.int .i64 s, .pointer (some ⟨g1, 0, none⟩), .pointer (some ⟨g2, 0, none⟩)] w fun e w' => e = .returned (.int .i64 (addV xs ys s)) ∧ Below w.heap.size w w' := by
  have k11 := f0.c1
  have k21 := f1.c1
  obtain ⟨b1, off1, rfl, hlt1, hc1⟩ := h.at_ (by omega)
  obtain ⟨b2, off2, rfl, hlt2, hc2⟩ := h'.at_ (by omega)
  have g := hc1 s hs
  have gg := hc2 s hs'
  obtain ⟨x, hxe⟩ : ∃ x, x = xs.getD s 0 := ⟨_, rfl⟩
  obtain ⟨y, hye⟩ : ∃ y, y = ys.getD s 0 := ⟨_, rfl⟩
  rw [← hxe] at g hx
  rw [← hye] at gg hy
  have hst : addV xs ys s = x + y := by rw [hxe, hye]; rfl
  have HST := Lib.hid hst
  have hi0 : (0 : Int) ≤ s := by omega
  have hi1 : (s : Int) < (n : Int) := by omega
  have hi2 : (s : Int) < (m : Int) := by omega
  have hw : IntKind.i64.wrap (x + y) = x + y := IntWalk.i64_in _ (by omega)
  clear hst hxe hye hc1 hc2
  go_enter Tryz.func40, Tryz.ntmps40
  go_wp2_with fail
  go_quiet (fail)
  go_wp2
  go_ret
  exact ⟨ret_int HST.out.symm, below_drewN (Below.refl _ _) _⟩
set_option maxRecDepth 20000 in
set_option maxHeartbeats 1000000 in
theorem c_impl_AddFunctions (e0 : Int) (a : Option Addr) (n c : Nat) (xs : List Int) (e1 : Int) (b : Option Addr) (m d : Nat) (ys : List Int) (w : World) (h : Row .i64 w a n xs) (hn : n ≤ 1048576) (h' : Row .i64 w b m ys) (hm : m ≤ 1048576) :
    Calls Tryz.prog 6 #[.agg #[.int .i64 e0, .slice a n c], .agg #[.int .i64 e1, .slice b m d]] w (RetFun 3 (gN (alikeB e0 xs e1 ys) e0 (tabOf e0 (addV xs ys))) (gL (alikeB e0 xs e1 ys) e0 (tabOf e0 (addV xs ys))) (gB (alikeB e0 xs e1 ys) e0 (tabOf e0 (addV xs ys))) w) := by
  have hmf : ∀ (fn : Fn) (first cap : Array Value) (w : World), (Instr.makeFunc fn first cap).run Tryz.prog w = .ok (.func fn first cap) w := fun _ _ _ _ => rfl
  have bel := Below.refl w.heap.size w
  have f0 := ((FBox.new w 26 e0 a n c).alloc (.cells #[.int .i64 e1, .slice b m d] 26)).alloc (.cells #[.int .i64 0, .slice none 0 0] 26)
  have f1 := FBox.new (w.alloc (.cells #[.int .i64 e0, .slice a n c] 26)) 26 e1 b m d
  rw [World.size_alloc] at f1
  replace f1 := f1.alloc (.cells #[.int .i64 0, .slice none 0 0] 26)
  have fr := FBox.new ((w.alloc (.cells #[.int .i64 e0, .slice a n c] 26)).alloc (.cells #[.int .i64 e1, .slice b m d] 26)) 26 0 none 0 0
  rw [World.size_alloc, World.size_alloc] at fr
  replace bel := bel.alloc bel.size (.cells #[.int .i64 e0, .slice a n c] 26)
  replace bel := bel.alloc bel.size (.cells #[.int .i64 e1, .slice b m d] 26)
  replace bel := bel.alloc bel.size (.cells #[.int .i64 0, .slice none 0 0] 26)
  cases hT : alikeB e0 xs e1 ys with
  | false =>
    obtain ⟨hN, hL, hB⟩ := g_no (b := false) (n := e0) (xs := tabOf e0 (addV xs ys)) rfl
    rw [hN, hL, hB]
    clear hN hL hB
    go_enter Tryz.func6, Tryz.ntmps6
    go_wp2_with fail
    refine (c_areAlike _ _ _ _ _ _ _ _ _ _ _ (((h.alloc _).alloc _).alloc _) hn (((h'.alloc _).alloc _).alloc _) hm).mono ?_
    rw [hT]
    rintro e w1 ⟨rfl, hb1⟩
    replace bel := bel.trans (hb1.mono bel.size)
    replace fr := fr.below hb1
    have kr0 := fr.c0
    have kr1 := fr.c1
    have krf := fr.free
    go_wp2_with fail
    refine bodyPost_ret (v := .tuple #[.agg #[.int .i64 0, .slice none 0 0], .bool false]) (by simp [results, Tryz.results6, go_sem, kr0, kr1]) rfl ?_
    exact ⟨none, 0, rfl, OwnI.nil _ _ _ _, by simp, below_set2 bel (by omega) _ _⟩
  | true =>
    obtain ⟨hf, hg, rfl⟩ := alike_true hT
    obtain ⟨hN, hL, hB⟩ := g_mid (b := true) (n := e0) (xs := tabOf e0 (addV xs ys)) rfl
    rw [hN, hL, hB]
    clear hN hL hB
    obtain ⟨⟨q0, q1⟩, hlx, hxb⟩ := isFun_true hf
    obtain ⟨_, hly, hyb⟩ := isFun_true hg
    have hl := h.len
    have hl' := h'.len
    have hle := isFun_le hf
    obtain ⟨tab, htab⟩ : ∃ t, t = tabOf e0 (addV xs ys) := ⟨_, rfl⟩
    rw [← htab]
    have HT := Lib.hid htab
    clear htab
    go_enter Tryz.func6, Tryz.ntmps6
    go_wp2_with fail
    refine (c_areAlike _ _ _ _ _ _ _ _ _ _ _ (((h.alloc _).alloc _).alloc _) hn (((h'.alloc _).alloc _).alloc _) hm).mono ?_
    rw [hT]
    rintro e w1 ⟨rfl, hb1⟩
    replace bel := bel.trans (hb1.mono bel.size)
    replace fr := fr.below hb1
    replace f0 := f0.below hb1
    replace f1 := f1.below hb1
    have kr0 := fr.c0
    have kr1 := fr.c1
    have krf := fr.free
    have k00 := f0.c0
    have k01 := f0.c1
    have hlt1 := fr.lt
    go_wp2_with fail
    refine (c_makeFunction _ _ _ (addV xs ys) _ q0 q1 (enters_of Tryz.func40 (by kernel_rfl) rfl) (fun s w' hs hb => by rw [app2]; exact c_add1 e0 a n c xs e0 b m d ys w.heap.size (w.heap.size + 1) s w' (f0.below hb) (f1.below hb) ((h.below bel).below hb) ((h'.below bel).below hb) (by omega) (by omega) (hxb s (by omega)) (hyb s (by omega)))).mono ?_
    rw [← HT.out]
    rintro e w2 ⟨a2, c2, rfl, ho, hlen, hb2⟩
    replace bel := bel.trans (hb2.mono bel.size)
    replace fr := fr.below hb2
    replace kr0 := fr.c0
    replace kr1 := fr.c1
    replace krf := fr.free
    go_wp2_with fail
    refine bodyPost_ret (v := .tuple #[.agg #[.int .i64 (madeN e0 tab), .slice a2 (madeL e0 tab).length c2], .bool (isFun e0 tab)]) (by simp [results, Tryz.results6, go_sem, kr0, kr1]) rfl ?_
    exact ⟨a2, c2, rfl, (own_set2 ho (by omega) _ _).base (by omega), hlen, below_set2 bel (by omega) _ _⟩
set_option maxRecDepth 20000 in
set_option maxHeartbeats 2000000 in
theorem c_spec_AddFunctions (e0 : Int) (a : Option Addr) (n c : Nat) (xs : List Int) (e1 : Int) (b : Option Addr) (m d : Nat) (ys : List Int) (w : World) (h : Row .i64 w a n xs) (hn : n ≤ 1048576) (h' : Row .i64 w b m ys) (hm : m ≤ 1048576) :
    Calls Tryz.prog 7 #[.agg #[.int .i64 e0, .slice a n c], .agg #[.int .i64 e1, .slice b m d]] w (RetFun 3 (gN (alikeB e0 xs e1 ys) e0 (tabOf e0 (addV xs ys))) (gL (alikeB e0 xs e1 ys) e0 (tabOf e0 (addV xs ys))) (gB (alikeB e0 xs e1 ys) e0 (tabOf e0 (addV xs ys))) w) := by
  have bel := Below.refl w.heap.size w
  have f0 := (((FBox.new w 26 e0 a n c).alloc (.cells #[.int .i64 e1, .slice b m d] 26)).alloc (.cells #[.int .i64 0, .slice none 0 0] 26)).alloc (.cells #[] 3)
  have f1 := FBox.new (w.alloc (.cells #[.int .i64 e0, .slice a n c] 26)) 26 e1 b m d
  rw [World.size_alloc] at f1
  replace f1 := (f1.alloc (.cells #[.int .i64 0, .slice none 0 0] 26)).alloc (.cells #[] 3)
  have fr := FBox.new ((w.alloc (.cells #[.int .i64 e0, .slice a n c] 26)).alloc (.cells #[.int .i64 e1, .slice b m d] 26)) 26 0 none 0 0
  rw [World.size_alloc, World.size_alloc] at fr
  replace fr := fr.alloc (.cells #[] 3)
  replace bel := bel.alloc bel.size (.cells #[.int .i64 e0, .slice a n c] 26)
  replace bel := bel.alloc bel.size (.cells #[.int .i64 e1, .slice b m d] 26)
  replace bel := bel.alloc bel.size (.cells #[.int .i64 0, .slice none 0 0] 26)
  replace bel := bel.alloc bel.size (.cells #[] 3)
  have hv0 : OwnI ((((w.alloc (.cells #[.int .i64 e0, .slice a n c] 26)).alloc (.cells #[.int .i64 e1, .slice b m d] 26)).alloc (.cells #[.int .i64 0, .slice none 0 0] 26)).alloc (.cells #[] 3)) (w.heap.size + 3) 3 .i64 (.slice (some ⟨w.heap.size + 1 + 1 + 1, 0, none⟩) 0 0) [] := by
    have h := World.ownsRow_made (base := w.heap.size + 3) (e := 3) (size := 1) (((w.alloc (.cells #[.int .i64 e0, .slice a n c] 26)).alloc (.cells #[.int .i64 e1, .slice b m d] 26)).alloc (.cells #[.int .i64 0, .slice none 0 0] 26)) #[] 0 (by simp) (by decide) rfl
    simp only [World.size_alloc] at h
    exact h
  cases hf : isFun e0 xs with
  | false =>
    obtain ⟨hN, hL, hB⟩ := g_no (b := alikeB e0 xs e1 ys) (n := e0) (xs := tabOf e0 (addV xs ys)) (by simp [alikeB, hf])
    rw [hN, hL, hB]
    clear hN hL hB
    go_enter Tryz.func7, Tryz.ntmps7
    go_wp2_with fail
    refine (c_spec_IsFunction _ _ _ _ _ _ ((((h.alloc _).alloc _).alloc _).alloc _) hn).mono ?_
    rw [hf]
    rintro e w1 ⟨rfl, hb1⟩
    replace bel := bel.trans (hb1.mono bel.size)
    replace fr := fr.below hb1
    replace f0 := f0.below hb1
    replace f1 := f1.below hb1
    have kr0 := fr.c0
    have kr1 := fr.c1
    have krf := fr.free
    have k10 := f1.c0
    have k11 := f1.c1
    go_wp2_with fail
    refine bodyPost_ret (v := .tuple #[.agg #[.int .i64 0, .slice none 0 0], .bool false]) (by simp [results, Tryz.results7, go_sem, kr0, kr1]) rfl ?_
    exact ⟨none, 0, rfl, OwnI.nil _ _ _ _, by simp, below_set2 bel (by omega) _ _⟩
  | true =>
    cases hg : isFun e1 ys with
    | false =>
      obtain ⟨hN, hL, hB⟩ := g_no (b := alikeB e0 xs e1 ys) (n := e0) (xs := tabOf e0 (addV xs ys)) (by simp [alikeB, hg])
      rw [hN, hL, hB]
      clear hN hL hB
      go_enter Tryz.func7, Tryz.ntmps7
      go_wp2_with fail
      refine (c_spec_IsFunction _ _ _ _ _ _ ((((h.alloc _).alloc _).alloc _).alloc _) hn).mono ?_
      rw [hf]
      rintro e w1 ⟨rfl, hb1⟩
      replace bel := bel.trans (hb1.mono bel.size)
      replace fr := fr.below hb1
      replace f0 := f0.below hb1
      replace f1 := f1.below hb1
      have kr0 := fr.c0
      have kr1 := fr.c1
      have krf := fr.free
      have k10 := f1.c0
      have k11 := f1.c1
      go_wp2_with fail
      refine (c_spec_IsFunction _ _ _ _ _ _ (h'.below bel) hm).mono ?_
      rw [hg]
      rintro e w2 ⟨rfl, hb2⟩
      replace bel := bel.trans (hb2.mono bel.size)
      replace fr := fr.below hb2
      replace f0 := f0.below hb2
      replace f1 := f1.below hb2
      replace kr0 := fr.c0
      replace kr1 := fr.c1
      replace krf := fr.free
      replace k10 := f1.c0
      have k00 := f0.c0
      go_wp2_with fail
      refine bodyPost_ret (v := .tuple #[.agg #[.int .i64 0, .slice none 0 0], .bool false]) (by simp [results, Tryz.results7, go_sem, kr0, kr1]) rfl ?_
      exact ⟨none, 0, rfl, OwnI.nil _ _ _ _, by simp, below_set2 bel (by omega) _ _⟩
    | true =>
      by_cases hne : e0 = e1
      · subst hne
        have hT : alikeB e0 xs e0 ys = true := by simp [alikeB, hf, hg]
        obtain ⟨⟨q0, q1⟩, hlx, hxb⟩ := isFun_true hf
        obtain ⟨_, hly, hyb⟩ := isFun_true hg
        have hl := h.len
        have hl' := h'.len
        have hle := isFun_le hf
        have htab : tabOf e0 (addV xs ys) = tabTo (addV xs ys) n := by rw [tabOf, ← hlx, hl]
        rw [htab]
        have hnm : n = m := hl.symm.trans (hlx.trans (hly.symm.trans hl'))
        subst hnm
        have HTL := Lib.hid (tabTo_length (addV xs ys))
        have HXB := Lib.hid hxb
        have HYB := Lib.hid hyb
        have HT := Lib.hid hT
        clear htab hxb hyb hT hlx hly
        go_enter Tryz.func7, Tryz.ntmps7
        go_wp2_with fail
        refine (c_spec_IsFunction _ _ _ _ _ _ ((((h.alloc _).alloc _).alloc _).alloc _) hn).mono ?_
        rw [hf]
        rintro e w1 ⟨rfl, hb1⟩
        replace bel := bel.trans (hb1.mono bel.size)
        replace fr := fr.below hb1
        replace f0 := f0.below hb1
        replace f1 := f1.below hb1
        replace hv0 := hv0.below hb1
        have k10 := f1.c0
        have k11 := f1.c1
        go_wp2_with fail
        refine (c_spec_IsFunction _ _ _ _ _ _ (h'.below bel) hm).mono ?_
        rw [hg]
        rintro e w2 ⟨rfl, hb2⟩
        replace bel := bel.trans (hb2.mono bel.size)
        replace fr := fr.below hb2
        replace f0 := f0.below hb2
        replace f1 := f1.below hb2
        replace hv0 := hv0.below hb2
        replace k10 := f1.c0
        replace k11 := f1.c1
        have k00 := f0.c0
        have k01 := f0.c1
        clear hb1 hb2
        go_wp2_with fail
        go_loopw [6, 7] (fun v i wr => ∃ s : Nat, i = .int .i64 s ∧ s ≤ n ∧ OwnI wr (w.heap.size + 3) 3 .i64 v (tabTo (addV xs ys) s) ∧ Below w.heap.size w wr ∧ FBox wr w.heap.size 26 e0 a n c ∧ FBox wr (w.heap.size + 1) 26 e0 b n d ∧ FBox wr (w.heap.size + 1 + 1) 26 0 none 0 0) (fun _ i _ => n - (intOf i).toNat)
        case atStart => exact ⟨0, rfl, Nat.zero_le _, hv0, bel, f0, f1, fr⟩
        case round =>
          clear bel f0 f1 fr k00 k01 k10 k11 hv0
          obtain ⟨s, rfl, hs, hown, hb, f0, f1, fr⟩ := hrel
          have k00 := f0.c0
          have k01 := f0.c1
          have k10 := f1.c0
          have k11 := f1.c1
          have hB : w.heap.size + 3 ≤ wr.heap.size := by have := fr.lt; omega
          have htl := HTL.out s
          by_cases hlt : s < n
          · obtain ⟨b1, off1, rfl, hlt1, hc1⟩ := (h.below hb).at_ (by omega)
            obtain ⟨b2, off2, rfl, hlt2, hc2⟩ := (h'.below hb).at_ (by omega)
            have hbw1 : b1 < w.heap.size := by
              obtain ⟨b', off', hE, hlt', _⟩ := h.at_ (by omega)
              cases hE
              exact hlt'
            have hbw2 : b2 < w.heap.size := by
              obtain ⟨b', off', hE, hlt', _⟩ := h'.at_ (by omega)
              cases hE
              exact hlt'
            have HSC := Lib.hid (tabTo_succ (addV xs ys) s)
            have hx1 := HXB.out s (by omega)
            have hy1 := HYB.out s (by omega)
            have g1 := hc1 s hlt
            have g2 := hc2 s (by omega)
            obtain ⟨x, hx⟩ : ∃ x, x = xs.getD s 0 := ⟨_, rfl⟩
            obtain ⟨y, hy⟩ : ∃ y, y = ys.getD s 0 := ⟨_, rfl⟩
            rw [← hx] at g1 hx1
            rw [← hy] at g2 hy1
            have HST := Lib.hid (show addV xs ys s = x + y by rw [hx, hy]; rfl)
            have hi0 : (0 : Int) ≤ s := by omega
            have hi1 : (s : Int) < (n : Int) := by omega
            have hw : IntKind.i64.wrap (x + y) = x + y := IntWalk.i64_in _ (by omega)
            have gg1 := (hb.cell (p := ⟨b1, off1 + s, none⟩) hbw1).symm.trans g1
            have gg2 := (hb.cell (p := ⟨b2, off2 + s, none⟩) hbw2).symm.trans g2
            clear hx hy hc1 hc2
            go_wp2_with fail
            go_region_held3 (fun w' => w'.cell? ⟨w.heap.size, 1, none⟩ = some (.slice (some ⟨b1, off1, none⟩) n c) ∧ w'.cell? ⟨w.heap.size + 1, 1, none⟩ = some (.slice (some ⟨b2, off2, none⟩) n d) ∧ w'.cell? ⟨b1, off1 + s, none⟩ = some (.int .i64 x) ∧ w'.cell? ⟨b2, off2 + s, none⟩ = some (.int .i64 y)) (go_keep)
              (first
                | (refine step_app EI (base := w.heap.size + 3) (v := u6) (xs := tabTo (addV xs ys) s) (us := [x + y]) (g := wr.heap.size) (n := 1) (c := 1) rfl (.tmp 34) (.tmp 46) rfl ?_ ?_ rfl rfl rfl ?_ ?_ ?_; (exact (hown.drew).alloc _); (exact heap_alloc_new wr.drew _); (show _ + 1 ≤ _; omega); (exact le_alloc hB _); intro v' w2 hown1 hgrow; have hb1 : Below w.heap.size w w2 := below_grown ((hb.drew).alloc hb.size _) ((hown.drew).alloc _) hgrow (by omega) (by simp; omega); have f0' := ((f0.drew).alloc _).grown hgrow (row_apart (hown.drew).range (.inl (by omega))); have f1' := ((f1.drew).alloc _).grown hgrow (row_apart (hown.drew).range (.inl (by omega))); have fr' := ((fr.drew).alloc _).grown hgrow (row_apart (hown.drew).range (.inl (by omega))); have k01 := f0'.c1; have k11 := f1'.c1; have g1 := (hb1.cell (p := ⟨b1, off1 + s, none⟩) hbw1).trans gg1; have g2 := (hb1.cell (p := ⟨b2, off2 + s, none⟩) hbw2).trans gg2))
            all_goals
              go_wp2
              go_roundw
              case rel => exact ⟨s + 1, by go_num, by omega, by rw [HSC.out, HST.out]; exact hown1, hb1, f0', f1', fr'⟩
              case measure => simp [intOf]; omega
          · obtain rfl : s = n := by omega
            obtain ⟨a2, c2, hv, _⟩ := hown.form
            rw [htl] at hv
            subst hv
            cases hI : isFun e0 (tabTo (addV xs ys) s) with
            | false =>
              go_wp2_with fail
              refine (c_l2Made_no _ _ _ _ _ _ hown.row (by omega) hI).mono ?_
              rintro e w2 ⟨rfl, hb2⟩
              replace fr := fr.below hb2
              have kr0 := fr.c0
              have kr1 := fr.c1
              have krf := fr.free
              replace hown := hown.below hb2
              replace hb := hb.trans (hb2.mono hb.size)
              have hlt2 := fr.lt
              go_wp2_with fail
              refine bodyPost_ret (v := .tuple #[.agg #[.int .i64 0, .slice none 0 0], .bool false]) (by simp [results, Tryz.results7, go_sem, kr0, kr1, hlt2]) rfl ?_
              obtain ⟨hN, hL, hB'⟩ := g_bad (b := alikeB e0 xs e0 ys) hI
              rw [hN, hL, hB']
              exact ⟨none, 0, rfl, OwnI.nil _ _ _ _, by simp, below_set2a hb (by omega) _ _ _⟩
            | true =>
              go_wp2_with fail
              refine (c_l2Made_yes _ _ _ _ _ _ hown.row (by omega) hI).mono ?_
              rintro e w2 ⟨rfl, hb2⟩
              replace fr := fr.below hb2
              have kr0 := fr.c0
              have kr1 := fr.c1
              have krf := fr.free
              replace hown := hown.below hb2
              replace hb := hb.trans (hb2.mono hb.size)
              have hlt2 := fr.lt
              go_wp2_with fail
              refine bodyPost_ret (v := .tuple #[.agg #[.int .i64 e0, .slice a2 s c2], .bool true]) (by simp [results, Tryz.results7, go_sem, kr0, kr1, hlt2]) rfl ?_
              obtain ⟨hN, hL, hB'⟩ := g_yes (n := e0) HT.out hI
              rw [hN, hL, hB']
              refine ⟨a2, c2, by rw [HTL.out], ?_, by rw [HTL.out]; omega, below_set2a hb (by omega) _ _ _⟩
              rw [HTL.out]
              exact (((own_set2 hown (by omega) _ _).alloc _).base (by omega))
      · have hq : (e0 != e1) = true := by rw [bne_iff_ne]; exact hne
        obtain ⟨hN, hL, hB⟩ := g_no (b := alikeB e0 xs e1 ys) (n := e0) (xs := tabOf e0 (addV xs ys)) (by simp [alikeB, hne])
        rw [hN, hL, hB]
        clear hN hL hB
        go_enter Tryz.func7, Tryz.ntmps7
        go_wp2_with fail
        refine (c_spec_IsFunction _ _ _ _ _ _ ((((h.alloc _).alloc _).alloc _).alloc _) hn).mono ?_
        rw [hf]
        rintro e w1 ⟨rfl, hb1⟩
        replace bel := bel.trans (hb1.mono bel.size)
        replace fr := fr.below hb1
        replace f0 := f0.below hb1
        replace f1 := f1.below hb1
        have kr0 := fr.c0
        have kr1 := fr.c1
        have krf := fr.free
        have k10 := f1.c0
        have k11 := f1.c1
        go_wp2_with fail
        refine (c_spec_IsFunction _ _ _ _ _ _ (h'.below bel) hm).mono ?_
        rw [hg]
        rintro e w2 ⟨rfl, hb2⟩
        replace bel := bel.trans (hb2.mono bel.size)
        replace fr := fr.below hb2
        replace f0 := f0.below hb2
        replace f1 := f1.below hb2
        replace kr0 := fr.c0
        replace kr1 := fr.c1
        replace krf := fr.free
        replace k10 := f1.c0
        have k00 := f0.c0
        go_wp2_with fail
        refine bodyPost_ret (v := .tuple #[.agg #[.int .i64 0, .slice none 0 0], .bool false]) (by simp [results, Tryz.results7, go_sem, kr0, kr1]) rfl ?_
        exact ⟨none, 0, rfl, OwnI.nil _ _ _ _, by simp, below_set2 bel (by omega) _ _⟩
end Go.Proofs.YtfcgijnfiiaepaaGreatDoor
