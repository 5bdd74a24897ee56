/- Contracts of ConvolveFunctions, both packages. -/
import Derived.Test.YtfcgijnfiiaepaaBox
import Derived.Test.YtfcgijnfiiaepaaSplit
namespace Go.Proofs.Ytfcgijnfiiaepaa
set_option linter.unusedSimpArgs false
set_option linter.unusedVariables false
open Go.RowKit

def convV (xs ys : List Int) (s : Nat) : Int := spV xs ys s (splitTo xs ys s s)
set_option maxHeartbeats 400000 in
theorem c_conv1 (e0 : Int) (a : Option Addr) (n c : Nat) (xs : List Int) (e1 : Int) (b : Option Addr) (d : Nat) (ys : List Int) (g1 g2 s : Nat) (w : World) (f0 : FBox w g1 26 e0 a n c) (f1 : FBox w g2 26 e1 b n d) (h : Row .i64 w a n xs) (h' : Row .i64 w b n ys) (hf : isFun e0 xs = true) (hg : isFun e1 ys = true) (hs : s < n) :
    Calls Try.prog 87 #[.int .i64 s, .pointer (some ⟨g1, 0, none⟩), .pointer (some ⟨g2, 0, none⟩)] w fun e w' => e = .returned (.int .i64 (convV xs ys s)) ∧ Below w.heap.size w w' := by
  have k10 := f0.c0
  have k11 := f0.c1
  have k20 := f1.c0
  have k21 := f1.c1
  go_enter Try.func87, Try.ntmps87
  go_wp2_with fail
  refine (c_leastSplit _ _ _ _ _ _ _ _ _ _ _ h h' hf hg hs).mono ?_
  rintro e w1 ⟨rfl, hb⟩
  go_wp2
  go_ret
  exact ⟨rfl, hb⟩
set_option maxHeartbeats 1000000 in
theorem c_impl_ConvolveFunctions (e0 : Int) (a : Option Addr) (n c : Nat) (xs : List Int) (e1 : Int) (b : Option Addr) (m d : Nat) (ys : List Int) (w : World) (h : Row .i64 w a n xs) (hn : n ≤ 1048576) (h' : Row .i64 w b m ys) (hm : m ≤ 1048576) :
    Calls Try.prog 34 #[.agg #[.int .i64 e0, .slice a n c], .agg #[.int .i64 e1, .slice b m d]] w (RetFun 3 (gN (alikeB e0 xs e1 ys) (e0) (tabOf (e0) (convV xs ys))) (gL (alikeB e0 xs e1 ys) (e0) (tabOf (e0) (convV xs ys))) (gB (alikeB e0 xs e1 ys) (e0) (tabOf (e0) (convV xs ys))) w) := by
  have hmf : ∀ (fn : Fn) (first cap : Array Value) (w : World), (Instr.makeFunc fn first cap).run Try.prog w = .ok (.func fn first cap) w := fun _ _ _ _ => rfl
  have bel := Below.refl w.heap.size w
  have f0 := FBox.new w 26 e0 a n c
  replace bel := bel.alloc bel.size (.cells #[.int .i64 e0, .slice a n c] 26)
  have f1 := FBox.new (w.alloc (.cells #[.int .i64 e0, .slice a n c] 26)) 26 e1 b m d
  rw [World.size_alloc] at f1
  replace f0 := f0.alloc (.cells #[.int .i64 e1, .slice b m d] 26)
  replace bel := bel.alloc bel.size (.cells #[.int .i64 e1, .slice b m d] 26)
  have fr := FBox.new ((w.alloc (.cells #[.int .i64 e0, .slice a n c] 26)).alloc (.cells #[.int .i64 e1, .slice b m d] 26)) 26 0 none 0 0
  rw [World.size_alloc, World.size_alloc] at fr
  replace f0 := f0.alloc (.cells #[.int .i64 0, .slice none 0 0] 26)
  replace f1 := f1.alloc (.cells #[.int .i64 0, .slice none 0 0] 26)
  replace bel := bel.alloc bel.size (.cells #[.int .i64 0, .slice none 0 0] 26)
  have kf00 := f0.c0
  have kf01 := f0.c1
  have kf10 := f1.c0
  have kf11 := f1.c1
  have kr0 := fr.c0
  have kr1 := fr.c1
  have krf := fr.free
  cases hT : alikeB e0 xs e1 ys with
  | false =>
    rw [← hT]
    obtain ⟨hN, hL, hB⟩ := g_no (b := alikeB e0 xs e1 ys) (n := e0) (xs := tabOf (e0) (convV xs ys)) (by simp [hT, hT])
    rw [hN, hL, hB]
    clear hN hL hB
    go_enter Try.func34, Try.ntmps34
    go_wp2_with fail
    refine (c_areAlike _ _ _ _ _ _ _ _ _ _ _ (h.below bel) hn (h'.below bel) hm).mono ?_
    rw [hT]
    rintro e w1 ⟨rfl, hb1⟩
    replace bel := bel.trans (hb1.mono bel.size)
    replace f0 := f0.below hb1
    replace f1 := f1.below hb1
    replace fr := fr.below hb1
    replace kf00 := f0.c0
    replace kf01 := f0.c1
    replace kf10 := f1.c0
    replace kf11 := f1.c1
    replace kr0 := fr.c0
    replace kr1 := fr.c1
    replace krf := fr.free
    go_wp2_with fail
    refine bodyPost_ret (v := .tuple #[.agg #[.int .i64 0, .slice none 0 0], .bool false]) (by simp [results, Try.results34, go_sem, kr0, kr1]) rfl ?_
    exact ⟨none, 0, rfl, OwnI.nil _ _ _ _, by simp, by first | exact (bel.setCell (by show w.heap.size ≤ w.heap.size + 1 + 1; omega) _).setCell (by show w.heap.size ≤ w.heap.size + 1 + 1; omega) _ | exact bel⟩
  | true =>
    obtain ⟨hf, hg, he⟩ := alike_true hT
    subst he
    have hnm : n = m := h.len.symm.trans ((isFun_true hf).2.1.trans ((isFun_true hg).2.1.symm.trans h'.len))
    subst hnm
    obtain ⟨⟨q0, q1⟩, hlx, hxb⟩ := isFun_true hf
    have hl := h.len
    have hle := isFun_le hf
    rw [← hT]
    obtain ⟨hN, hL, hB⟩ := g_mid (b := alikeB e0 xs e0 ys) (n := e0) (xs := tabOf (e0) (convV xs ys)) (by simp [hT, hT])
    rw [hN, hL, hB]
    clear hN hL hB
    obtain ⟨tab, htab⟩ : ∃ t, t = tabOf (e0) (convV xs ys) := ⟨_, rfl⟩
    rw [← htab]
    have HTAB := Lib.hid htab
    clear htab
    clear hxb
    go_enter Try.func34, Try.ntmps34
    go_wp2_with fail
    refine (c_areAlike _ _ _ _ _ _ _ _ _ _ _ (h.below bel) hn (h'.below bel) hm).mono ?_
    rw [hT]
    rintro e w1 ⟨rfl, hb1⟩
    replace bel := bel.trans (hb1.mono bel.size)
    replace f0 := f0.below hb1
    replace f1 := f1.below hb1
    replace fr := fr.below hb1
    replace kf00 := f0.c0
    replace kf01 := f0.c1
    replace kf10 := f1.c0
    replace kf11 := f1.c1
    replace kr0 := fr.c0
    replace kr1 := fr.c1
    replace krf := fr.free
    have hlt1 := fr.lt
    go_wp2_with fail
    refine (c_makeFunction _ _ _ (convV xs ys) _ q0 q1 (enters_of Try.func87 (by kernel_rfl) rfl) (fun s w' hs hb => by rw [app2]; exact c_conv1 e0 a n c xs e0 b d ys w.heap.size (w.heap.size + 1) s w' (f0.below hb) (f1.below hb) ((h.below bel).below hb) ((h'.below bel).below hb) hf hg (by omega))).mono ?_
    rw [← HTAB.out]
    rintro e w2 ⟨a2, c2, rfl, ho, hlen, hb2⟩
    obtain ⟨wB, hwB⟩ : ∃ z, z = fr.lt := ⟨_, rfl⟩
    clear hwB
    have hfr := fr.lt
    replace bel := bel.trans (hb2.mono bel.size)
    replace fr := fr.below hb2
    replace kr0 := fr.c0
    replace kr1 := fr.c1
    replace krf := fr.free
    go_wp2_with fail
    refine bodyPost_ret (v := .tuple #[.agg #[.int .i64 (madeN (e0) tab), .slice a2 (madeL (e0) tab).length c2], .bool (isFun (e0) tab)]) (by simp [results, Try.results34, go_sem, kr0, kr1]) rfl ?_
    refine ⟨a2, c2, rfl, ?_, hlen, (bel.setCell (by show w.heap.size ≤ w.heap.size + 1 + 1; omega) _).setCell (by show w.heap.size ≤ w.heap.size + 1 + 1; omega) _⟩
    exact ((ho.base (by omega)).setFar ⟨w.heap.size + 1 + 1, 0, none⟩ _ (.inr (row_apart ho.range (.inl (by show w.heap.size + 1 + 1 < _; omega))))).setFar ⟨w.heap.size + 1 + 1, 1, none⟩ _ (.inr (row_apart ho.range (.inl (by show w.heap.size + 1 + 1 < _; omega))))
set_option maxHeartbeats 2000000 in
theorem c_spec_ConvolveFunctions (e0 : Int) (a : Option Addr) (n c : Nat) (xs : List Int) (e1 : Int) (b : Option Addr) (m d : Nat) (ys : List Int) (w : World) (h : Row .i64 w a n xs) (hn : n ≤ 1048576) (h' : Row .i64 w b m ys) (hm : m ≤ 1048576) :
    Calls Try.prog 35 #[.agg #[.int .i64 e0, .slice a n c], .agg #[.int .i64 e1, .slice b m d]] w (RetFun 3 (gN (alikeB e0 xs e1 ys) (e0) (tabOf (e0) (convV xs ys))) (gL (alikeB e0 xs e1 ys) (e0) (tabOf (e0) (convV xs ys))) (gB (alikeB e0 xs e1 ys) (e0) (tabOf (e0) (convV xs ys))) w) := by
  have bel := Below.refl w.heap.size w
  have f0 := FBox.new w 26 e0 a n c
  replace bel := bel.alloc bel.size (.cells #[.int .i64 e0, .slice a n c] 26)
  have f1 := FBox.new (w.alloc (.cells #[.int .i64 e0, .slice a n c] 26)) 26 e1 b m d
  rw [World.size_alloc] at f1
  replace f0 := f0.alloc (.cells #[.int .i64 e1, .slice b m d] 26)
  replace bel := bel.alloc bel.size (.cells #[.int .i64 e1, .slice b m d] 26)
  have fr := FBox.new ((w.alloc (.cells #[.int .i64 e0, .slice a n c] 26)).alloc (.cells #[.int .i64 e1, .slice b m d] 26)) 26 0 none 0 0
  rw [World.size_alloc, World.size_alloc] at fr
  replace f0 := f0.alloc (.cells #[.int .i64 0, .slice none 0 0] 26)
  replace f1 := f1.alloc (.cells #[.int .i64 0, .slice none 0 0] 26)
  replace bel := bel.alloc bel.size (.cells #[.int .i64 0, .slice none 0 0] 26)
  have kf00 := f0.c0
  have kf01 := f0.c1
  have kf10 := f1.c0
  have kf11 := f1.c1
  have kr0 := fr.c0
  have kr1 := fr.c1
  have krf := fr.free
  cases hT : alikeB e0 xs e1 ys with
  | false =>
    rw [← hT]
    obtain ⟨hN, hL, hB⟩ := g_no (b := alikeB e0 xs e1 ys) (n := e0) (xs := tabOf (e0) (convV xs ys)) (by simp [hT, hT])
    rw [hN, hL, hB]
    clear hN hL hB
    go_enter Try.func35, Try.ntmps35
    go_wp2_with fail
    refine (c_l6Fit _ _ _ _ _ _ _ _ _ _ _ (h.below bel) hn (h'.below bel) hm).mono ?_
    rw [hT]
    rintro e w1 ⟨rfl, hb1⟩
    replace bel := bel.trans (hb1.mono bel.size)
    replace f0 := f0.below hb1
    replace f1 := f1.below hb1
    replace fr := fr.below hb1
    replace kf00 := f0.c0
    replace kf01 := f0.c1
    replace kf10 := f1.c0
    replace kf11 := f1.c1
    replace kr0 := fr.c0
    replace kr1 := fr.c1
    replace krf := fr.free
    go_wp2_with fail
    refine bodyPost_ret (v := .tuple #[.agg #[.int .i64 0, .slice none 0 0], .bool false]) (by simp [results, Try.results35, go_sem, kr0, kr1]) rfl ?_
    exact ⟨none, 0, rfl, OwnI.nil _ _ _ _, by simp, by first | exact (bel.setCell (by show w.heap.size ≤ w.heap.size + 1 + 1; omega) _).setCell (by show w.heap.size ≤ w.heap.size + 1 + 1; omega) _ | exact bel⟩
  | true =>
    obtain ⟨hf, hg, he⟩ := alike_true hT
    subst he
    have hnm : n = m := h.len.symm.trans ((isFun_true hf).2.1.trans ((isFun_true hg).2.1.symm.trans h'.len))
    subst hnm
    obtain ⟨⟨q0, q1⟩, hlx, hxb⟩ := isFun_true hf
    have hl := h.len
    have hle := isFun_le hf
    rw [← hT]
    have htab : tabOf e0 (convV xs ys) = tabTo (convV xs ys) n := by rw [tabOf, ← hlx, hl]
    rw [htab]
    have HTAB := Lib.hid htab
    have HTL := Lib.hid (tabTo_length (convV xs ys))
    have HXB := Lib.hid hxb
    have HYB := Lib.hid (isFun_true hg).2.2
    have HT := Lib.hid hT
    have hl' := h'.len
    clear htab hlx hxb
    go_enter Try.func35, Try.ntmps35
    go_wp2_with fail
    refine (c_l6Fit _ _ _ _ _ _ _ _ _ _ _ (h.below bel) hn (h'.below bel) hm).mono ?_
    rw [hT]
    rintro e w1 ⟨rfl, hb1⟩
    replace bel := bel.trans (hb1.mono bel.size)
    replace f0 := f0.below hb1
    replace f1 := f1.below hb1
    replace fr := fr.below hb1
    replace kf00 := f0.c0
    replace kf01 := f0.c1
    replace kf10 := f1.c0
    replace kf11 := f1.c1
    replace kr0 := fr.c0
    replace kr1 := fr.c1
    replace krf := fr.free
    have hn1 := Nat.ne_of_lt f0.lt
    have hn2 := (Nat.ne_of_lt f0.lt).symm
    have kfa := (f0.alloc (.cells #[] 3)).c1
    go_wp2_with fail
    go_loopw [6, 7] (fun v i wr => ∃ s : Nat, i = .int .i64 s ∧ s ≤ n ∧ OwnI wr (w.heap.size + 1 + 1 + 1) 3 .i64 v (tabTo (convV xs ys) s) ∧ Below w.heap.size w wr ∧ FBox wr (w.heap.size + 1 + 1) 26 0 none 0 0 ∧ FBox wr w.heap.size 26 e0 a n c ∧ FBox wr (w.heap.size + 1) 26 e0 b n d) (fun _ i _ => n - (intOf i).toNat)
    case atStart => exact ⟨0, rfl, Nat.zero_le _, by (first | exact World.ownsRow_made w1 #[] 0 fr.lt (by decide) rfl | (have h := World.ownsRow_made (base := w.heap.size + 1 + 1 + 1) (e := 3) (size := 1) w1 #[] 0 (by have := fr.lt; first | omega | (simp only [World.size_alloc] at *; omega)) (by decide) rfl; (try simp only [World.size_alloc] at h); exact h)), bel.alloc bel.size _, fr.alloc _, f0.alloc _, f1.alloc _⟩
    case round =>
      clear hn1 hn2 kfa bel fr kr0 kr1 krf f0 kf00 kf01 f1 kf10 kf11 hb1
      obtain ⟨s, rfl, hs, hown, hb, fr, f0, f1⟩ := hrel
      have kf00 := f0.c0
      have kf01 := f0.c1
      have kf10 := f1.c0
      have kf11 := f1.c1
      have hB0 : w.heap.size + 1 + 1 + 1 ≤ wr.heap.size := fr.lt
      by_cases hlt2 : s < n
      · go_wp2_with fail
        refine (c_l6Split _ _ _ _ _ _ _ _ _ _ _ (h.below hb) (h'.below hb) hf hg hlt2).mono ?_
        rintro e wz ⟨rfl, hbz⟩
        replace hb := hb.trans (hbz.mono hb.size)
        replace hown := hown.below hbz
        replace fr := fr.below hbz
        replace f0 := f0.below hbz
        replace f1 := f1.below hbz
        replace kf00 := f0.c0
        replace kf01 := f0.c1
        replace kf10 := f1.c0
        replace kf11 := f1.c1
        have hB : w.heap.size + 1 + 1 + 1 ≤ wz.heap.size := fr.lt
        clear hbz
        obtain ⟨b3, off, rfl, hblt, hc⟩ := (h.below hb).at_ (by omega)
        obtain ⟨b4, off4, rfl, hblt4, hc4⟩ := (h'.below hb).at_ (by omega)
        have hbw : b3 < w.heap.size := by
          obtain ⟨b', off', hE, hlt', _⟩ := h.at_ (by omega)
          cases hE
          exact hlt'
        have hbw4 : b4 < w.heap.size := by
          obtain ⟨b', off', hE, hlt', _⟩ := h'.at_ (by omega)
          cases hE
          exact hlt'
        have hsl := splitTo_le xs ys s s
        have hstv : convV xs ys s = xs.getD (splitTo xs ys s s) 0 + ys.getD (s - splitTo xs ys s s) 0 := rfl
        obtain ⟨t, ht⟩ : ∃ t, t = splitTo xs ys s s := ⟨_, rfl⟩
        rw [← ht] at hsl hstv ⊢
        obtain ⟨r, hr⟩ : ∃ r, r = s - t := ⟨_, rfl⟩
        rw [← hr] at hstv
        have g1 := hc t (by omega)
        have g2 := hc4 r (by omega)
        have hx1 := HXB.out t (by omega)
        have hx2 := HYB.out r (by omega)
        obtain ⟨x, hxe⟩ : ∃ x, x = xs.getD t 0 := ⟨_, rfl⟩
        obtain ⟨y, hye⟩ : ∃ y, y = ys.getD r 0 := ⟨_, rfl⟩
        rw [← hxe, ← hye] at hstv
        rw [← hxe] at g1 hx1
        rw [← hye] at g2 hx2
        have HST := Lib.hid hstv
        have hidx : (s : Int) - (t : Int) = (r : Int) := by omega
        have hi0 : (0 : Int) ≤ t := by omega
        have hi1 : (t : Int) < (n : Int) := by omega
        have hi2 : (0 : Int) ≤ r := by omega
        have hi3 : (r : Int) < (n : Int) := by omega
        have hwt : IntKind.i64.wrap (r : Int) = r := IntWalk.i64_in _ (by omega)
        have hw1 : IntKind.i64.wrap (x + y) = x + y := IntWalk.i64_in _ (by omega)
        have HSC := Lib.hid (tabTo_succ (convV xs ys) s)
        have hlen := HTL.out s
        have gg1 := (hb.cell (p := ⟨b3, off + t, none⟩) hbw).symm.trans g1
        have gg2 := (hb.cell (p := ⟨b4, off4 + r, none⟩) hbw4).symm.trans g2
        clear hstv hxe hye hc hc4 ht hr
        replace hb := hb.drew
        replace hown := hown.drew
        replace fr := fr.drew
        replace f0 := f0.drew
        replace f1 := f1.drew
        go_wp2_with fail
        go_region_held3 (fun w' => w'.cell? ⟨w.heap.size, 1, none⟩ = some (.slice (some ⟨b3, off, none⟩) n c) ∧ w'.cell? ⟨w.heap.size + 1, 1, none⟩ = some (.slice (some ⟨b4, off4, none⟩) n d) ∧ w'.cell? ⟨b3, off + t, none⟩ = some (.int .i64 x) ∧ w'.cell? ⟨b4, off4 + r, none⟩ = some (.int .i64 y)) (go_keep)
          (first
            | (refine step_app EI (base := w.heap.size + 1 + 1 + 1) (v := u6) (xs := tabTo (convV xs ys) s) (us := [x + y]) (g := wz.heap.size) (n := 1) (c := 1) rfl (.tmp 28) (.tmp 42) rfl ?_ ?_ rfl rfl rfl ?_ ?_ ?_; (exact hown.alloc _); (exact heap_alloc_new wz.drew _); (show _ + 1 ≤ _; omega); (exact le_alloc hB _); intro v' w2 hown1 hgrow; have hb1 : Below w.heap.size w w2 := below_grown (hb.alloc hb.size _) (hown.alloc _) hgrow (by omega) (by simp; omega); have fr' := (fr.alloc _).grown hgrow (row_apart hown.range (.inl (by omega))); have f0' := (f0.alloc _).grown hgrow (row_apart hown.range (.inl (by omega))); have f1' := (f1.alloc _).grown hgrow (row_apart hown.range (.inl (by omega))); have kf01 := f0'.c1; have kf11 := f1'.c1; have g1 := (hb1.cell (p := ⟨b3, off + t, none⟩) hbw).trans gg1; have g2 := (hb1.cell (p := ⟨b4, off4 + r, none⟩) hbw4).trans gg2))
        all_goals
          go_wp2
          go_roundw
          case rel => exact ⟨s + 1, by go_num, by omega, by rw [HSC.out, HST.out]; exact hown1, hb1, fr', f0', f1'⟩
          case measure => simp [intOf]; omega
      · obtain rfl : s = n := by omega
        obtain ⟨a2, c2, hv, _⟩ := hown.form
        rw [HTL.out] at hv
        subst hv
        cases hI : isFun (e0) (tabTo (convV xs ys) s) with
        | false =>
          go_wp2_with fail
          refine (c_l2Made_no _ _ _ _ _ _ hown.row (by omega) hI).mono ?_
          rintro e w2 ⟨rfl, hb2⟩
          replace fr := fr.below hb2
          have kr0 := fr.c0
          have kr1 := fr.c1
          have krf := fr.free
          replace hown := hown.below hb2
          replace hb := hb.trans (hb2.mono hb.size)
          have hlt2 := fr.lt
          go_wp2_with fail
          refine bodyPost_ret (v := .tuple #[.agg #[.int .i64 0, .slice none 0 0], .bool false]) (by simp [results, Try.results35, go_sem, kr0, kr1, hlt2]) rfl ?_
          obtain ⟨hN, hL, hB'⟩ := g_bad (b := alikeB e0 xs e0 ys) hI
          rw [hN, hL, hB']
          exact ⟨none, 0, rfl, OwnI.nil _ _ _ _, by simp, below_set2a hb (by omega) _ _ _⟩
        | true =>
          go_wp2_with fail
          refine (c_l2Made_yes _ _ _ _ _ _ hown.row (by omega) hI).mono ?_
          rintro e w2 ⟨rfl, hb2⟩
          replace fr := fr.below hb2
          have kr0 := fr.c0
          have kr1 := fr.c1
          have krf := fr.free
          replace hown := hown.below hb2
          replace hb := hb.trans (hb2.mono hb.size)
          have hlt2 := fr.lt
          go_wp2_with fail
          refine bodyPost_ret (v := .tuple #[.agg #[.int .i64 (e0), .slice a2 s c2], .bool true]) (by simp [results, Try.results35, go_sem, kr0, kr1, hlt2]) rfl ?_
          obtain ⟨hN, hL, hB'⟩ := g_yes (n := e0) HT.out hI
          rw [hN, hL, hB']
          refine ⟨a2, c2, by rw [HTL.out], ?_, by rw [HTL.out]; omega, below_set2a hb (by omega) _ _ _⟩
          rw [HTL.out]
          exact (((own_set2 hown (by omega) _ _).alloc _).base (by omega))
end Go.Proofs.Ytfcgijnfiiaepaa
