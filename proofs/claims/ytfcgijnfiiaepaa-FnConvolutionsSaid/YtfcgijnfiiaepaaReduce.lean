/- Contracts of ReduceFunction, both packages. -/
import Derived.Test.YtfcgijnfiiaepaaBox
import Derived.Test.YtfcgijnfiiaepaaModular
import Derived.Test.YtfcgijnfiiaepaaConv
namespace Go.Proofs.Ytfcgijnfiiaepaa
set_option linter.unusedSimpArgs false
set_option linter.unusedVariables false
open Go.RowKit

def rN (ws : List Int) : Int := gN (modT ws 0) ws.length (tabOf ws.length (modV ws 0))
def rL (ws : List Int) : List Int := gL (modT ws 0) ws.length (tabOf ws.length (modV ws 0))
def rB (ws : List Int) : Bool := gB (modT ws 0) ws.length (tabOf ws.length (modV ws 0))
def redT (n : Int) (xs ws : List Int) : Bool := rB ws && alikeB n xs (rN ws) (rL ws)
theorem rB_fun {ws : List Int} (h : rB ws = true) : isFun (rN ws) (rL ws) = true := by
  simp only [rB, gB, Bool.and_eq_true] at h
  obtain ⟨h1, h2, _⟩ := g_yes h.1 h.2
  rw [rN, rL, h1, h2]
  exact h.2
set_option maxHeartbeats 1000000 in
theorem c_impl_ReduceFunction (e0 : Int) (a : Option Addr) (n c : Nat) (xs : List Int) (b : Option Addr) (m d : Nat) (ws : List Int) (w : World) (h : Row .i64 w a n xs) (hn : n ≤ 1048576) (hw : Row .i64 w b m ws) (hm : m ≤ 1048576) :
    Calls Try.prog 38 #[.agg #[.int .i64 e0, .slice a n c], .slice b m d] w (RetFun 3 (gN (redT e0 xs ws) (e0) (tabOf (e0) (convV xs (rL ws)))) (gL (redT e0 xs ws) (e0) (tabOf (e0) (convV xs (rL ws)))) (gB (redT e0 xs ws) (e0) (tabOf (e0) (convV xs (rL ws)))) w) := by
  have bel := Below.refl w.heap.size w
  have f0 := FBox.new w 26 e0 a n c
  replace bel := bel.alloc bel.size (.cells #[.int .i64 e0, .slice a n c] 26)
  have fr := FBox.new (w.alloc (.cells #[.int .i64 e0, .slice a n c] 26)) 26 0 none 0 0
  rw [World.size_alloc] at fr
  replace f0 := f0.alloc (.cells #[.int .i64 0, .slice none 0 0] 26)
  replace bel := bel.alloc bel.size (.cells #[.int .i64 0, .slice none 0 0] 26)
  have kf00 := f0.c0
  have kf01 := f0.c1
  have kr0 := fr.c0
  have kr1 := fr.c1
  have krf := fr.free
  cases hB0 : rB ws with
  | false =>
    obtain ⟨hN, hL, hB⟩ := g_no (b := redT e0 xs ws) (n := e0) (xs := tabOf (e0) (convV xs (rL ws))) (by simp [redT, hB0])
    rw [hN, hL, hB]
    clear hN hL hB
    go_enter Try.func38, Try.ntmps38
    go_wp2_with fail
    refine (c_impl_ModularFunction _ _ _ _ _ _ (hw.below bel) hm).mono ?_
    rintro e w1 ⟨a1, c1, rfl, hg, hglen, hb1⟩
    rw [show gB (modT ws 0) ws.length (tabOf ws.length (modV ws 0)) = false from hB0]
    rw [show gN (modT ws 0) ws.length (tabOf ws.length (modV ws 0)) = rN ws from rfl]
    rw [show gL (modT ws 0) ws.length (tabOf ws.length (modV ws 0)) = rL ws from rfl] at hg hglen ⊢
    replace bel := bel.trans (hb1.mono bel.size)
    replace f0 := f0.below hb1
    replace fr := fr.below hb1
    have fg := FBox.new w1 26 (rN ws) a1 (rL ws).length c1
    replace hg := hg.alloc (.cells #[.int .i64 (rN ws), .slice a1 (rL ws).length c1] 26)
    replace bel := bel.alloc bel.size (.cells #[.int .i64 (rN ws), .slice a1 (rL ws).length c1] 26)
    replace f0 := f0.alloc (.cells #[.int .i64 (rN ws), .slice a1 (rL ws).length c1] 26)
    replace fr := fr.alloc (.cells #[.int .i64 (rN ws), .slice a1 (rL ws).length c1] 26)
    replace kf00 := f0.c0
    replace kf01 := f0.c1
    replace kr0 := fr.c0
    replace kr1 := fr.c1
    replace krf := fr.free
    have kg0 := fg.c0
    have kg1 := fg.c1
    clear hb1
    go_wp2_with fail
    refine bodyPost_ret (v := .tuple #[.agg #[.int .i64 0, .slice none 0 0], .bool false]) (by simp [results, Try.results38, go_sem, kr0, kr1]) rfl ?_
    exact ⟨none, 0, rfl, OwnI.nil _ _ _ _, by simp, by first | exact (bel.setCell (by show w.heap.size ≤ w.heap.size + 1; omega) _).setCell (by show w.heap.size ≤ w.heap.size + 1; omega) _ | exact bel⟩
  | true =>
    have hr : redT e0 xs ws = alikeB e0 xs (rN ws) (rL ws) := by simp [redT, hB0]
    rw [hr]
    clear hr
    go_enter Try.func38, Try.ntmps38
    go_wp2_with fail
    refine (c_impl_ModularFunction _ _ _ _ _ _ (hw.below bel) hm).mono ?_
    rintro e w1 ⟨a1, c1, rfl, hg, hglen, hb1⟩
    rw [show gB (modT ws 0) ws.length (tabOf ws.length (modV ws 0)) = true from hB0]
    rw [show gN (modT ws 0) ws.length (tabOf ws.length (modV ws 0)) = rN ws from rfl]
    rw [show gL (modT ws 0) ws.length (tabOf ws.length (modV ws 0)) = rL ws from rfl] at hg hglen ⊢
    replace bel := bel.trans (hb1.mono bel.size)
    replace f0 := f0.below hb1
    replace fr := fr.below hb1
    have fg := FBox.new w1 26 (rN ws) a1 (rL ws).length c1
    replace hg := hg.alloc (.cells #[.int .i64 (rN ws), .slice a1 (rL ws).length c1] 26)
    replace bel := bel.alloc bel.size (.cells #[.int .i64 (rN ws), .slice a1 (rL ws).length c1] 26)
    replace f0 := f0.alloc (.cells #[.int .i64 (rN ws), .slice a1 (rL ws).length c1] 26)
    replace fr := fr.alloc (.cells #[.int .i64 (rN ws), .slice a1 (rL ws).length c1] 26)
    replace kf00 := f0.c0
    replace kf01 := f0.c1
    replace kr0 := fr.c0
    replace kr1 := fr.c1
    replace krf := fr.free
    have kg0 := fg.c0
    have kg1 := fg.c1
    clear hb1
    have hlt1 := fr.lt
    go_wp2_with fail
    refine (c_impl_ConvolveFunctions _ _ _ _ _ _ _ _ _ _ _ (h.below bel) hn hg.row hglen).mono ?_
    rintro e w2 ⟨a2, c2, rfl, ho, hlen, hb2⟩
    replace bel := bel.trans (hb2.mono bel.size)
    replace fr := fr.below hb2
    replace kr0 := fr.c0
    replace kr1 := fr.c1
    replace krf := fr.free
    go_wp2_with fail
    refine bodyPost_ret (v := .tuple #[.agg #[.int .i64 (gN (alikeB e0 xs (rN ws) (rL ws)) e0 (tabOf e0 (convV xs (rL ws)))), .slice a2 (gL (alikeB e0 xs (rN ws) (rL ws)) e0 (tabOf e0 (convV xs (rL ws)))).length c2], .bool (gB (alikeB e0 xs (rN ws) (rL ws)) e0 (tabOf e0 (convV xs (rL ws))))]) (by simp [results, Try.results38, go_sem, kr0, kr1]) rfl ?_
    exact ⟨a2, c2, rfl, (own_set2 ho (by omega) _ _).base (by omega), hlen, below_set2 bel (by omega) _ _⟩
set_option maxHeartbeats 1000000 in
theorem c_spec_ReduceFunction (e0 : Int) (a : Option Addr) (n c : Nat) (xs : List Int) (b : Option Addr) (m d : Nat) (ws : List Int) (w : World) (h : Row .i64 w a n xs) (hn : n ≤ 1048576) (hw : Row .i64 w b m ws) (hm : m ≤ 1048576) :
    Calls Try.prog 39 #[.agg #[.int .i64 e0, .slice a n c], .slice b m d] w (RetFun 3 (gN (redT e0 xs ws) (e0) (tabOf (e0) (convV xs (rL ws)))) (gL (redT e0 xs ws) (e0) (tabOf (e0) (convV xs (rL ws)))) (gB (redT e0 xs ws) (e0) (tabOf (e0) (convV xs (rL ws)))) w) := by
  have bel := Below.refl w.heap.size w
  have f0 := FBox.new w 26 e0 a n c
  replace bel := bel.alloc bel.size (.cells #[.int .i64 e0, .slice a n c] 26)
  have fr := FBox.new (w.alloc (.cells #[.int .i64 e0, .slice a n c] 26)) 26 0 none 0 0
  rw [World.size_alloc] at fr
  replace f0 := f0.alloc (.cells #[.int .i64 0, .slice none 0 0] 26)
  replace bel := bel.alloc bel.size (.cells #[.int .i64 0, .slice none 0 0] 26)
  have kf00 := f0.c0
  have kf01 := f0.c1
  have kr0 := fr.c0
  have kr1 := fr.c1
  have krf := fr.free
  cases hB0 : rB ws with
  | false =>
    obtain ⟨hN, hL, hB⟩ := g_no (b := redT e0 xs ws) (n := e0) (xs := tabOf (e0) (convV xs (rL ws))) (by simp [redT, hB0])
    rw [hN, hL, hB]
    clear hN hL hB
    go_enter Try.func39, Try.ntmps39
    go_wp2_with fail
    refine (c_spec_ModularFunction _ _ _ _ _ _ (hw.below bel) hm).mono ?_
    rintro e w1 ⟨a1, c1, rfl, hg, hglen, hb1⟩
    rw [show gB (modT ws 0) ws.length (tabOf ws.length (modV ws 0)) = false from hB0]
    rw [show gN (modT ws 0) ws.length (tabOf ws.length (modV ws 0)) = rN ws from rfl]
    rw [show gL (modT ws 0) ws.length (tabOf ws.length (modV ws 0)) = rL ws from rfl] at hg hglen ⊢
    replace bel := bel.trans (hb1.mono bel.size)
    replace f0 := f0.below hb1
    replace fr := fr.below hb1
    have fg := FBox.new w1 26 (rN ws) a1 (rL ws).length c1
    replace hg := hg.alloc (.cells #[.int .i64 (rN ws), .slice a1 (rL ws).length c1] 26)
    replace bel := bel.alloc bel.size (.cells #[.int .i64 (rN ws), .slice a1 (rL ws).length c1] 26)
    replace f0 := f0.alloc (.cells #[.int .i64 (rN ws), .slice a1 (rL ws).length c1] 26)
    replace fr := fr.alloc (.cells #[.int .i64 (rN ws), .slice a1 (rL ws).length c1] 26)
    replace kf00 := f0.c0
    replace kf01 := f0.c1
    replace kr0 := fr.c0
    replace kr1 := fr.c1
    replace krf := fr.free
    have kg0 := fg.c0
    have kg1 := fg.c1
    clear hb1
    go_wp2_with fail
    refine bodyPost_ret (v := .tuple #[.agg #[.int .i64 0, .slice none 0 0], .bool false]) (by simp [results, Try.results39, go_sem, kr0, kr1]) rfl ?_
    exact ⟨none, 0, rfl, OwnI.nil _ _ _ _, by simp, by first | exact (bel.setCell (by show w.heap.size ≤ w.heap.size + 1; omega) _).setCell (by show w.heap.size ≤ w.heap.size + 1; omega) _ | exact bel⟩
  | true =>
    have hRF := rB_fun hB0
    cases hf : isFun e0 xs with
    | false =>
      obtain ⟨hN, hL, hB⟩ := g_no (b := redT e0 xs ws) (n := e0) (xs := tabOf (e0) (convV xs (rL ws))) (by simp [redT, hf, alikeB])
      rw [hN, hL, hB]
      clear hN hL hB
      go_enter Try.func39, Try.ntmps39
      go_wp2_with fail
      refine (c_spec_ModularFunction _ _ _ _ _ _ (hw.below bel) hm).mono ?_
      rintro e w1 ⟨a1, c1, rfl, hg, hglen, hb1⟩
      rw [show gB (modT ws 0) ws.length (tabOf ws.length (modV ws 0)) = true from hB0]
      rw [show gN (modT ws 0) ws.length (tabOf ws.length (modV ws 0)) = rN ws from rfl]
      rw [show gL (modT ws 0) ws.length (tabOf ws.length (modV ws 0)) = rL ws from rfl] at hg hglen ⊢
      replace bel := bel.trans (hb1.mono bel.size)
      replace f0 := f0.below hb1
      replace fr := fr.below hb1
      have fg := FBox.new w1 26 (rN ws) a1 (rL ws).length c1
      replace hg := hg.alloc (.cells #[.int .i64 (rN ws), .slice a1 (rL ws).length c1] 26)
      replace bel := bel.alloc bel.size (.cells #[.int .i64 (rN ws), .slice a1 (rL ws).length c1] 26)
      replace f0 := f0.alloc (.cells #[.int .i64 (rN ws), .slice a1 (rL ws).length c1] 26)
      replace fr := fr.alloc (.cells #[.int .i64 (rN ws), .slice a1 (rL ws).length c1] 26)
      replace kf00 := f0.c0
      replace kf01 := f0.c1
      replace kr0 := fr.c0
      replace kr1 := fr.c1
      replace krf := fr.free
      have kg0 := fg.c0
      have kg1 := fg.c1
      clear hb1
      go_wp2_with fail
      refine (c_spec_IsFunction _ _ _ _ _ _ (h.below bel) hn).mono ?_
      rw [hf]
      rintro e w2 ⟨rfl, hb2⟩
      replace bel := bel.trans (hb2.mono bel.size)
      replace f0 := f0.below hb2
      replace fr := fr.below hb2
      replace kf00 := f0.c0
      replace kf01 := f0.c1
      replace kr0 := fr.c0
      replace kr1 := fr.c1
      replace krf := fr.free
      replace fg := fg.below hb2
      replace kg0 := fg.c0
      replace kg1 := fg.c1
      replace hg := hg.below hb2
      clear hb2
      go_wp2_with fail
      refine bodyPost_ret (v := .tuple #[.agg #[.int .i64 0, .slice none 0 0], .bool false]) (by simp [results, Try.results39, go_sem, kr0, kr1]) rfl ?_
      exact ⟨none, 0, rfl, OwnI.nil _ _ _ _, by simp, by first | exact (bel.setCell (by show w.heap.size ≤ w.heap.size + 1; omega) _).setCell (by show w.heap.size ≤ w.heap.size + 1; omega) _ | exact bel⟩
    | true =>
      cases ht : (rN ws != e0) with
      | true =>
        have hne : ¬ e0 = rN ws := by rw [bne_iff_ne] at ht; exact fun h => ht h.symm
        obtain ⟨hN, hL, hB⟩ := g_no (b := redT e0 xs ws) (n := e0) (xs := tabOf (e0) (convV xs (rL ws))) (by simp [redT, hne, alikeB])
        rw [hN, hL, hB]
        clear hN hL hB
        go_enter Try.func39, Try.ntmps39
        go_wp2_with fail
        refine (c_spec_ModularFunction _ _ _ _ _ _ (hw.below bel) hm).mono ?_
        rintro e w1 ⟨a1, c1, rfl, hg, hglen, hb1⟩
        rw [show gB (modT ws 0) ws.length (tabOf ws.length (modV ws 0)) = true from hB0]
        rw [show gN (modT ws 0) ws.length (tabOf ws.length (modV ws 0)) = rN ws from rfl]
        rw [show gL (modT ws 0) ws.length (tabOf ws.length (modV ws 0)) = rL ws from rfl] at hg hglen ⊢
        replace bel := bel.trans (hb1.mono bel.size)
        replace f0 := f0.below hb1
        replace fr := fr.below hb1
        have fg := FBox.new w1 26 (rN ws) a1 (rL ws).length c1
        replace hg := hg.alloc (.cells #[.int .i64 (rN ws), .slice a1 (rL ws).length c1] 26)
        replace bel := bel.alloc bel.size (.cells #[.int .i64 (rN ws), .slice a1 (rL ws).length c1] 26)
        replace f0 := f0.alloc (.cells #[.int .i64 (rN ws), .slice a1 (rL ws).length c1] 26)
        replace fr := fr.alloc (.cells #[.int .i64 (rN ws), .slice a1 (rL ws).length c1] 26)
        replace kf00 := f0.c0
        replace kf01 := f0.c1
        replace kr0 := fr.c0
        replace kr1 := fr.c1
        replace krf := fr.free
        have kg0 := fg.c0
        have kg1 := fg.c1
        clear hb1
        go_wp2_with fail
        refine (c_spec_IsFunction _ _ _ _ _ _ (h.below bel) hn).mono ?_
        rw [hf]
        rintro e w2 ⟨rfl, hb2⟩
        replace bel := bel.trans (hb2.mono bel.size)
        replace f0 := f0.below hb2
        replace fr := fr.below hb2
        replace kf00 := f0.c0
        replace kf01 := f0.c1
        replace kr0 := fr.c0
        replace kr1 := fr.c1
        replace krf := fr.free
        replace fg := fg.below hb2
        replace kg0 := fg.c0
        replace kg1 := fg.c1
        replace hg := hg.below hb2
        clear hb2
        go_wp2_with fail
        refine bodyPost_ret (v := .tuple #[.agg #[.int .i64 0, .slice none 0 0], .bool false]) (by simp [results, Try.results39, go_sem, kr0, kr1]) rfl ?_
        exact ⟨none, 0, rfl, OwnI.nil _ _ _ _, by simp, by first | exact (bel.setCell (by show w.heap.size ≤ w.heap.size + 1; omega) _).setCell (by show w.heap.size ≤ w.heap.size + 1; omega) _ | exact bel⟩
      | false =>
        have hr : redT e0 xs ws = alikeB e0 xs (rN ws) (rL ws) := by simp [redT, hB0]
        rw [hr]
        clear hr
        go_enter Try.func39, Try.ntmps39
        go_wp2_with fail
        refine (c_spec_ModularFunction _ _ _ _ _ _ (hw.below bel) hm).mono ?_
        rintro e w1 ⟨a1, c1, rfl, hg, hglen, hb1⟩
        rw [show gB (modT ws 0) ws.length (tabOf ws.length (modV ws 0)) = true from hB0]
        rw [show gN (modT ws 0) ws.length (tabOf ws.length (modV ws 0)) = rN ws from rfl]
        rw [show gL (modT ws 0) ws.length (tabOf ws.length (modV ws 0)) = rL ws from rfl] at hg hglen ⊢
        replace bel := bel.trans (hb1.mono bel.size)
        replace f0 := f0.below hb1
        replace fr := fr.below hb1
        have fg := FBox.new w1 26 (rN ws) a1 (rL ws).length c1
        replace hg := hg.alloc (.cells #[.int .i64 (rN ws), .slice a1 (rL ws).length c1] 26)
        replace bel := bel.alloc bel.size (.cells #[.int .i64 (rN ws), .slice a1 (rL ws).length c1] 26)
        replace f0 := f0.alloc (.cells #[.int .i64 (rN ws), .slice a1 (rL ws).length c1] 26)
        replace fr := fr.alloc (.cells #[.int .i64 (rN ws), .slice a1 (rL ws).length c1] 26)
        replace kf00 := f0.c0
        replace kf01 := f0.c1
        replace kr0 := fr.c0
        replace kr1 := fr.c1
        replace krf := fr.free
        have kg0 := fg.c0
        have kg1 := fg.c1
        clear hb1
        go_wp2_with fail
        refine (c_spec_IsFunction _ _ _ _ _ _ (h.below bel) hn).mono ?_
        rw [hf]
        rintro e w2 ⟨rfl, hb2⟩
        replace bel := bel.trans (hb2.mono bel.size)
        replace f0 := f0.below hb2
        replace fr := fr.below hb2
        replace kf00 := f0.c0
        replace kf01 := f0.c1
        replace kr0 := fr.c0
        replace kr1 := fr.c1
        replace krf := fr.free
        replace fg := fg.below hb2
        replace kg0 := fg.c0
        replace kg1 := fg.c1
        replace hg := hg.below hb2
        clear hb2
        have hlt1 := fr.lt
        go_wp2_with fail
        refine (c_spec_ConvolveFunctions _ _ _ _ _ _ _ _ _ _ _ (h.below bel) hn hg.row hglen).mono ?_
        rintro e w3 ⟨a2, c2, rfl, ho, hlen, hb2⟩
        replace bel := bel.trans (hb2.mono bel.size)
        replace fr := fr.below hb2
        have hlt2 := fr.lt
        replace kr0 := fr.c0
        replace kr1 := fr.c1
        replace krf := fr.free
        go_wp2_with fail
        refine bodyPost_ret (v := .tuple #[.agg #[.int .i64 (gN (alikeB e0 xs (rN ws) (rL ws)) e0 (tabOf e0 (convV xs (rL ws)))), .slice a2 (gL (alikeB e0 xs (rN ws) (rL ws)) e0 (tabOf e0 (convV xs (rL ws)))).length c2], .bool (gB (alikeB e0 xs (rN ws) (rL ws)) e0 (tabOf e0 (convV xs (rL ws))))]) (by simp [results, Try.results39, go_sem, kr0, kr1, hlt2]) rfl ?_
        exact ⟨a2, c2, rfl, ((own_set2 ho (by omega) _ _).alloc _).base (by omega), hlen, below_set2a bel (by omega) _ _ _⟩
end Go.Proofs.Ytfcgijnfiiaepaa
