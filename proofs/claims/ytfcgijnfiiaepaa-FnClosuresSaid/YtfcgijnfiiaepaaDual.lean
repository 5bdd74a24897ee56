/- Contracts of DualFunction, both packages. -/
import Derived.Test.YtfcgijnfiiaepaaBox
import Derived.Test.YtfcgijnfiiaepaaWeigh
import Derived.Test.YtfcgijnfiiaepaaOpp
namespace Go.Proofs.Ytfcgijnfiiaepaa
set_option linter.unusedSimpArgs false
set_option linter.unusedVariables false
open Go.RowKit

def dualV (xs ws : List Int) (s : Nat) : Int := weigh ws s + xs.getD (xs.length - 1 - s) 0 - xs.getD (xs.length - 1) 0
def dualT (n : Int) (xs ws : List Int) : Bool := isFun n xs && ((ws.length : Int) == n) && allIn ws (-1000) 1000
set_option maxHeartbeats 1000000 in
theorem c_dual1 (e0 : Int) (a : Option Addr) (n c : Nat) (xs : List Int) (b : Option Addr) (m d : Nat) (ws : List Int) (g1 g2 s : Nat) (w : World) (b1 : VBox w g1 24 (.slice b m d)) (f : FBox w g2 26 e0 a n c) (h : Row .i64 w a n xs) (hw : Row .i64 w b m ws) (hs : s < n) (hf : isFun e0 xs = true) (h5 : m ≤ 5) (hx : ∀ j, j < ws.length → -1000 ≤ ws.getD j 0 ∧ ws.getD j 0 ≤ 1000) :
    Calls Try.prog 81 #[.int .i64 s, .pointer (some ⟨g1, 0, none⟩), .pointer (some ⟨g2, 0, none⟩)] w fun e w' => e = .returned (.int .i64 (dualV xs ws s)) ∧ Below w.heap.size w w' := by
  have k1 := b1.c0
  have k20 := f.c0
  have k21 := f.c1
  have hl := h.len
  have hlw := hw.len
  have hle := isFun_le hf
  obtain ⟨⟨q0, q1⟩, hlx, hxb⟩ := isFun_true hf
  obtain ⟨L, hL⟩ : ∃ L, L = n - 1 := ⟨_, rfl⟩
  obtain ⟨t, ht⟩ : ∃ t, t = n - 1 - s := ⟨_, rfl⟩
  have hall : (2 : Int) ^ e0.toNat - 1 = (L : Int) := by
    have h1 : ((2 ^ e0.toNat : Nat) : Int) = (2 : Int) ^ e0.toNat := by push_cast; rfl
    omega
  have hnd := andNot_full (s := s) (m := t) q0 q1 (by omega) (by omega)
  have hA : ∀ w, Calls Try.prog 67 #[.agg #[.int .i64 e0, .slice a n c]] w fun e w' => e = .returned (.int .i64 L) ∧ Below w.heap.size w w' := fun w => by
    have := c_allOf e0 a n c w q0 q1
    rw [hall] at this
    exact this
  rw [hall] at hnd
  have HA := Lib.hid hA
  have hbd := weigh_bd s (by omega) hx
  have HC := Lib.hid (fun w' (h' : Row .i64 w' b m ws) => c_weightOf b m d ws s w' h' h5 (by omega) hx)
  obtain ⟨b3, off, rfl, hlt, hc⟩ := h.at_ (by omega)
  have g := hc t (by omega)
  have gl := hc L (by omega)
  have hx1 := hxb t (by omega)
  have hx2 := hxb L (by omega)
  obtain ⟨x, hxe⟩ : ∃ x, x = xs.getD t 0 := ⟨_, rfl⟩
  obtain ⟨y, hye⟩ : ∃ y, y = xs.getD L 0 := ⟨_, rfl⟩
  obtain ⟨v, hv⟩ : ∃ v, v = weigh ws s := ⟨_, rfl⟩
  rw [← hxe] at g hx1
  rw [← hye] at gl hx2
  rw [← hv] at hbd
  have hst : dualV xs ws s = v + x - y := by rw [hv, hxe, hye, hL, ht, ← hl]; rfl
  have HST := Lib.hid hst
  have HV := Lib.hid hv
  have hi0 : (0 : Int) ≤ t := by omega
  have hi1 : (t : Int) < (n : Int) := by omega
  have hi2 : (0 : Int) ≤ L := by omega
  have hi3 : (L : Int) < (n : Int) := by omega
  have hw1 : IntKind.i64.wrap (v + x) = v + x := IntWalk.i64_in _ (by omega)
  have hw2 : IntKind.i64.wrap (v + x - y) = v + x - y := IntWalk.i64_in _ (by omega)
  have bel := (Below.refl w.heap.size w).drew
  have f := f.drew
  have b1 := b1.drew
  clear hst hv hxe hye hc hl hlx hL ht hf hx hxb hall hA hlw hle
  go_enter Try.func81, Try.ntmps81
  go_wp2_with fail
  go_region_held3 (fun w' => w'.cell? ⟨g1, 0, none⟩ = some (.slice b m d) ∧ w'.cell? ⟨g2, 0, none⟩ = some (.int .i64 e0) ∧ w'.cell? ⟨g2, 1, none⟩ = some (.slice (some ⟨b3, off, none⟩) n c) ∧ w'.cell? ⟨b3, off + t, none⟩ = some (.int .i64 x) ∧ w'.cell? ⟨b3, off + L, none⟩ = some (.int .i64 y)) (go_keep)
    (first
      | (go_at_call 82; refine (HC.out _ (hw.below bel)).mono ?_; rw [← HV.out]; rintro e w' ⟨rfl, rfl⟩)
      | (go_at_call 67; refine (HA.out _).mono ?_; rintro e w1 ⟨rfl, hb1⟩; replace g := (hb1.cell (p := ⟨b3, off + t, none⟩) (Nat.lt_of_lt_of_le hlt bel.size)).trans g; replace gl := (hb1.cell (p := ⟨b3, off + L, none⟩) (Nat.lt_of_lt_of_le hlt bel.size)).trans gl; replace bel := bel.trans (hb1.mono bel.size); replace f := f.below hb1; replace b1 := b1.below hb1; replace k1 := b1.c0; replace k20 := f.c0; replace k21 := f.c1; clear hb1))
  all_goals
    go_wp2
    go_ret
    exact ⟨ret_int HST.out.symm, bel⟩
set_option maxHeartbeats 1000000 in
theorem c_impl_DualFunction (e0 : Int) (a : Option Addr) (n c : Nat) (xs : List Int) (b : Option Addr) (m d : Nat) (ws : List Int) (w : World) (h : Row .i64 w a n xs) (hn : n ≤ 1048576) (hw : Row .i64 w b m ws) (hm : m ≤ 1048576) :
    Calls Try.prog 29 #[.agg #[.int .i64 e0, .slice a n c], .slice b m d] w (RetFun 3 (gN (dualT e0 xs ws) (e0) (tabOf (e0) (dualV xs ws))) (gL (dualT e0 xs ws) (e0) (tabOf (e0) (dualV xs ws))) (gB (dualT e0 xs ws) (e0) (tabOf (e0) (dualV xs ws))) w) := by
  have hmf : ∀ (fn : Fn) (first cap : Array Value) (w : World), (Instr.makeFunc fn first cap).run Try.prog w = .ok (.func fn first cap) w := fun _ _ _ _ => rfl
  have hlw := hw.len
  subst hlw
  have bel := Below.refl w.heap.size w
  have f0 := FBox.new w 26 e0 a n c
  replace bel := bel.alloc bel.size (.cells #[.int .i64 e0, .slice a n c] 26)
  have bw := VBox.new (w.alloc (.cells #[.int .i64 e0, .slice a n c] 26)) 24 (.slice b ws.length d)
  rw [World.size_alloc] at bw
  replace f0 := f0.alloc (.cells #[.slice b ws.length d] 24)
  replace bel := bel.alloc bel.size (.cells #[.slice b ws.length d] 24)
  have fr := FBox.new ((w.alloc (.cells #[.int .i64 e0, .slice a n c] 26)).alloc (.cells #[.slice b ws.length d] 24)) 26 0 none 0 0
  rw [World.size_alloc, World.size_alloc] at fr
  replace f0 := f0.alloc (.cells #[.int .i64 0, .slice none 0 0] 26)
  replace bw := bw.alloc (.cells #[.int .i64 0, .slice none 0 0] 26)
  replace bel := bel.alloc bel.size (.cells #[.int .i64 0, .slice none 0 0] 26)
  have kf00 := f0.c0
  have kf01 := f0.c1
  have kbw0 := bw.c0
  have kr0 := fr.c0
  have kr1 := fr.c1
  have krf := fr.free
  cases hf : isFun e0 xs with
  | false =>
    obtain ⟨hN, hL, hB⟩ := g_no (b := dualT e0 xs ws) (n := e0) (xs := tabOf (e0) (dualV xs ws)) (by simp [dualT, hf])
    rw [hN, hL, hB]
    clear hN hL hB
    go_enter Try.func29, Try.ntmps29
    go_wp2_with fail
    refine (c_impl_IsFunction _ _ _ _ _ _ (h.below bel) hn).mono ?_
    rw [hf]
    rintro e w1 ⟨rfl, hb1⟩
    replace bel := bel.trans (hb1.mono bel.size)
    replace f0 := f0.below hb1
    replace bw := bw.below hb1
    replace fr := fr.below hb1
    replace kf00 := f0.c0
    replace kf01 := f0.c1
    replace kbw0 := bw.c0
    replace kr0 := fr.c0
    replace kr1 := fr.c1
    replace krf := fr.free
    go_wp2_with fail
    refine bodyPost_ret (v := .tuple #[.agg #[.int .i64 0, .slice none 0 0], .bool false]) (by simp [results, Try.results29, go_sem, kr0, kr1]) rfl ?_
    exact ⟨none, 0, rfl, OwnI.nil _ _ _ _, by simp, by first | exact (bel.setCell (by show w.heap.size ≤ w.heap.size + 1 + 1; omega) _).setCell (by show w.heap.size ≤ w.heap.size + 1 + 1; omega) _ | exact bel⟩
  | true =>
    cases ht : ((ws.length : Int) == e0) with
    | false =>
      have ht' : ((ws.length : Int) != e0) = true := by rw [bne, ht]; rfl
      obtain ⟨hN, hL, hB⟩ := g_no (b := dualT e0 xs ws) (n := e0) (xs := tabOf (e0) (dualV xs ws)) (by simp [dualT, ht])
      rw [hN, hL, hB]
      clear hN hL hB
      clear ht
      go_enter Try.func29, Try.ntmps29
      go_wp2_with fail
      refine (c_impl_IsFunction _ _ _ _ _ _ (h.below bel) hn).mono ?_
      rw [hf]
      rintro e w1 ⟨rfl, hb1⟩
      replace bel := bel.trans (hb1.mono bel.size)
      replace f0 := f0.below hb1
      replace bw := bw.below hb1
      replace fr := fr.below hb1
      replace kf00 := f0.c0
      replace kf01 := f0.c1
      replace kbw0 := bw.c0
      replace kr0 := fr.c0
      replace kr1 := fr.c1
      replace krf := fr.free
      go_wp2_with fail
      refine bodyPost_ret (v := .tuple #[.agg #[.int .i64 0, .slice none 0 0], .bool false]) (by simp [results, Try.results29, go_sem, kr0, kr1]) rfl ?_
      exact ⟨none, 0, rfl, OwnI.nil _ _ _ _, by simp, by first | exact (bel.setCell (by show w.heap.size ≤ w.heap.size + 1 + 1; omega) _).setCell (by show w.heap.size ≤ w.heap.size + 1 + 1; omega) _ | exact bel⟩
    | true =>
      have ht' : ((ws.length : Int) != e0) = false := by rw [bne, ht]; rfl
      cases hA : allIn ws (-1000) 1000 with
      | false =>
        obtain ⟨hN, hL, hB⟩ := g_no (b := dualT e0 xs ws) (n := e0) (xs := tabOf (e0) (dualV xs ws)) (by simp [dualT, hA])
        rw [hN, hL, hB]
        clear hN hL hB
        clear ht
        go_enter Try.func29, Try.ntmps29
        go_wp2_with fail
        refine (c_impl_IsFunction _ _ _ _ _ _ (h.below bel) hn).mono ?_
        rw [hf]
        rintro e w1 ⟨rfl, hb1⟩
        replace bel := bel.trans (hb1.mono bel.size)
        replace f0 := f0.below hb1
        replace bw := bw.below hb1
        replace fr := fr.below hb1
        replace kf00 := f0.c0
        replace kf01 := f0.c1
        replace kbw0 := bw.c0
        replace kr0 := fr.c0
        replace kr1 := fr.c1
        replace krf := fr.free
        go_wp2_with fail
        refine (below_of (c_areWithin _ _ _ _ _ _ _ (hw.below bel) hm)).mono ?_
        rw [hA]
        rintro e w2 ⟨rfl, hb2⟩
        replace bel := bel.trans (hb2.mono bel.size)
        replace f0 := f0.below hb2
        replace bw := bw.below hb2
        replace fr := fr.below hb2
        replace kf00 := f0.c0
        replace kf01 := f0.c1
        replace kbw0 := bw.c0
        replace kr0 := fr.c0
        replace kr1 := fr.c1
        replace krf := fr.free
        go_wp2_with fail
        refine bodyPost_ret (v := .tuple #[.agg #[.int .i64 0, .slice none 0 0], .bool false]) (by simp [results, Try.results29, go_sem, kr0, kr1]) rfl ?_
        exact ⟨none, 0, rfl, OwnI.nil _ _ _ _, by simp, by first | exact (bel.setCell (by show w.heap.size ≤ w.heap.size + 1 + 1; omega) _).setCell (by show w.heap.size ≤ w.heap.size + 1 + 1; omega) _ | exact bel⟩
      | true =>
        obtain ⟨⟨q0, q1⟩, hlx, hxb⟩ := isFun_true hf
        have hl := h.len
        have hle := isFun_le hf
        have h5 : ws.length ≤ 5 := by have := of_decide_eq_true (by simpa using ht : decide ((ws.length : Int) = e0) = true); omega
        have HX := Lib.hid (allIn_getD hA)
        obtain ⟨hN, hL, hB⟩ := g_mid (b := dualT e0 xs ws) (n := e0) (xs := tabOf (e0) (dualV xs ws)) (by simp [dualT, hf, ht, hA])
        rw [hN, hL, hB]
        clear hN hL hB
        obtain ⟨tab, htab⟩ : ∃ t, t = tabOf (e0) (dualV xs ws) := ⟨_, rfl⟩
        rw [← htab]
        have HTAB := Lib.hid htab
        clear htab
        clear ht hxb
        go_enter Try.func29, Try.ntmps29
        go_wp2_with fail
        refine (c_impl_IsFunction _ _ _ _ _ _ (h.below bel) hn).mono ?_
        rw [hf]
        rintro e w1 ⟨rfl, hb1⟩
        replace bel := bel.trans (hb1.mono bel.size)
        replace f0 := f0.below hb1
        replace bw := bw.below hb1
        replace fr := fr.below hb1
        replace kf00 := f0.c0
        replace kf01 := f0.c1
        replace kbw0 := bw.c0
        replace kr0 := fr.c0
        replace kr1 := fr.c1
        replace krf := fr.free
        go_wp2_with fail
        refine (below_of (c_areWithin _ _ _ _ _ _ _ (hw.below bel) hm)).mono ?_
        rw [hA]
        rintro e w2 ⟨rfl, hb2⟩
        replace bel := bel.trans (hb2.mono bel.size)
        replace f0 := f0.below hb2
        replace bw := bw.below hb2
        replace fr := fr.below hb2
        replace kf00 := f0.c0
        replace kf01 := f0.c1
        replace kbw0 := bw.c0
        replace kr0 := fr.c0
        replace kr1 := fr.c1
        replace krf := fr.free
        have hlt1 := fr.lt
        go_wp2_with fail
        refine (c_makeFunction _ _ _ (dualV xs ws) _ q0 q1 (enters_of Try.func81 (by kernel_rfl) rfl) (fun s w' hs hb => by rw [app2]; exact c_dual1 e0 a n c xs b ws.length d ws (w.heap.size + 1) w.heap.size s w' (bw.below hb) (f0.below hb) ((h.below bel).below hb) ((hw.below bel).below hb) (by omega) hf h5 HX.out)).mono ?_
        rw [← HTAB.out]
        rintro e w2 ⟨a2, c2, rfl, ho, hlen, hb2⟩
        obtain ⟨wB, hwB⟩ : ∃ z, z = fr.lt := ⟨_, rfl⟩
        clear hwB
        have hfr := fr.lt
        replace bel := bel.trans (hb2.mono bel.size)
        replace fr := fr.below hb2
        replace kr0 := fr.c0
        replace kr1 := fr.c1
        replace krf := fr.free
        go_wp2_with fail
        refine bodyPost_ret (v := .tuple #[.agg #[.int .i64 (madeN (e0) tab), .slice a2 (madeL (e0) tab).length c2], .bool (isFun (e0) tab)]) (by simp [results, Try.results29, go_sem, kr0, kr1]) rfl ?_
        refine ⟨a2, c2, rfl, ?_, hlen, (bel.setCell (by show w.heap.size ≤ w.heap.size + 1 + 1; omega) _).setCell (by show w.heap.size ≤ w.heap.size + 1 + 1; omega) _⟩
        exact ((ho.base (by omega)).setFar ⟨w.heap.size + 1 + 1, 0, none⟩ _ (.inr (row_apart ho.range (.inl (by show w.heap.size + 1 + 1 < _; omega))))).setFar ⟨w.heap.size + 1 + 1, 1, none⟩ _ (.inr (row_apart ho.range (.inl (by show w.heap.size + 1 + 1 < _; omega))))
set_option maxRecDepth 40000 in
set_option maxHeartbeats 2000000 in
theorem c_spec_DualFunction (e0 : Int) (a : Option Addr) (n c : Nat) (xs : List Int) (b : Option Addr) (m d : Nat) (ws : List Int) (w : World) (h : Row .i64 w a n xs) (hn : n ≤ 1048576) (hw : Row .i64 w b m ws) (hm : m ≤ 1048576) :
    Calls Try.prog 30 #[.agg #[.int .i64 e0, .slice a n c], .slice b m d] w (RetFun 3 (gN (dualT e0 xs ws) (e0) (tabOf (e0) (dualV xs ws))) (gL (dualT e0 xs ws) (e0) (tabOf (e0) (dualV xs ws))) (gB (dualT e0 xs ws) (e0) (tabOf (e0) (dualV xs ws))) w) := by
  have hlw := hw.len
  subst hlw
  have bel := Below.refl w.heap.size w
  have f0 := FBox.new w 26 e0 a n c
  replace bel := bel.alloc bel.size (.cells #[.int .i64 e0, .slice a n c] 26)
  have fr := FBox.new (w.alloc (.cells #[.int .i64 e0, .slice a n c] 26)) 26 0 none 0 0
  rw [World.size_alloc] at fr
  replace f0 := f0.alloc (.cells #[.int .i64 0, .slice none 0 0] 26)
  replace bel := bel.alloc bel.size (.cells #[.int .i64 0, .slice none 0 0] 26)
  have kf00 := f0.c0
  have kf01 := f0.c1
  have kr0 := fr.c0
  have kr1 := fr.c1
  have krf := fr.free
  cases hf : isFun e0 xs with
  | false =>
    obtain ⟨hN, hL, hB⟩ := g_no (b := dualT e0 xs ws) (n := e0) (xs := tabOf (e0) (dualV xs ws)) (by simp [dualT, hf])
    rw [hN, hL, hB]
    clear hN hL hB
    go_enter Try.func30, Try.ntmps30
    go_wp2_with fail
    refine (c_spec_IsFunction _ _ _ _ _ _ (h.below bel) hn).mono ?_
    rw [hf]
    rintro e w1 ⟨rfl, hb1⟩
    replace bel := bel.trans (hb1.mono bel.size)
    replace f0 := f0.below hb1
    replace fr := fr.below hb1
    replace kf00 := f0.c0
    replace kf01 := f0.c1
    replace kr0 := fr.c0
    replace kr1 := fr.c1
    replace krf := fr.free
    go_wp2_with fail
    refine bodyPost_ret (v := .tuple #[.agg #[.int .i64 0, .slice none 0 0], .bool false]) (by simp [results, Try.results30, go_sem, kr0, kr1]) rfl ?_
    exact ⟨none, 0, rfl, OwnI.nil _ _ _ _, by simp, by first | exact (bel.setCell (by show w.heap.size ≤ w.heap.size + 1; omega) _).setCell (by show w.heap.size ≤ w.heap.size + 1; omega) _ | exact bel⟩
  | true =>
    cases ht : ((ws.length : Int) == e0) with
    | false =>
      have ht' : ((ws.length : Int) != e0) = true := by rw [bne, ht]; rfl
      obtain ⟨hN, hL, hB⟩ := g_no (b := dualT e0 xs ws) (n := e0) (xs := tabOf (e0) (dualV xs ws)) (by simp [dualT, ht])
      rw [hN, hL, hB]
      clear hN hL hB
      clear ht
      go_enter Try.func30, Try.ntmps30
      go_wp2_with fail
      refine (c_spec_IsFunction _ _ _ _ _ _ (h.below bel) hn).mono ?_
      rw [hf]
      rintro e w1 ⟨rfl, hb1⟩
      replace bel := bel.trans (hb1.mono bel.size)
      replace f0 := f0.below hb1
      replace fr := fr.below hb1
      replace kf00 := f0.c0
      replace kf01 := f0.c1
      replace kr0 := fr.c0
      replace kr1 := fr.c1
      replace krf := fr.free
      go_wp2_with fail
      refine bodyPost_ret (v := .tuple #[.agg #[.int .i64 0, .slice none 0 0], .bool false]) (by simp [results, Try.results30, go_sem, kr0, kr1]) rfl ?_
      exact ⟨none, 0, rfl, OwnI.nil _ _ _ _, by simp, by first | exact (bel.setCell (by show w.heap.size ≤ w.heap.size + 1; omega) _).setCell (by show w.heap.size ≤ w.heap.size + 1; omega) _ | exact bel⟩
    | true =>
      have ht' : ((ws.length : Int) != e0) = false := by rw [bne, ht]; rfl
      obtain ⟨⟨q0, q1⟩, hlx, hxb⟩ := isFun_true hf
      have hl := h.len
      have hle := isFun_le hf
      have h5 : ws.length ≤ 5 := by have := of_decide_eq_true (by simpa using ht : decide ((ws.length : Int) = e0) = true); omega
      have htab : tabOf e0 (dualV xs ws) = tabTo (dualV xs ws) n := by rw [tabOf, ← hlx, hl]
      rw [htab]
      have HTAB := Lib.hid htab
      have HTL := Lib.hid (tabTo_length (dualV xs ws))
      have HXB := Lib.hid hxb
      have HLEN := Lib.hid ht
      obtain ⟨L, hL⟩ : ∃ L, L = n - 1 := ⟨_, rfl⟩
      have hp : 0 < n := by have := Nat.two_pow_pos e0.toNat; omega
      have hlast : (n : Int) - 1 = (L : Int) := by omega
      have HLI := Lib.hid hL
      clear hL
      clear htab hlx hxb ht
      go_enter Try.func30, Try.ntmps30
      go_wp2_with fail
      refine (c_spec_IsFunction _ _ _ _ _ _ (h.below bel) hn).mono ?_
      rw [hf]
      rintro e w1 ⟨rfl, hb1⟩
      replace bel := bel.trans (hb1.mono bel.size)
      replace f0 := f0.below hb1
      replace fr := fr.below hb1
      replace kf00 := f0.c0
      replace kf01 := f0.c1
      replace kr0 := fr.c0
      replace kr1 := fr.c1
      replace krf := fr.free
      go_wp2_with fail
      go_loopw [6] (fun i wr => ∃ j : Nat, i = .int .i64 j ∧ j ≤ ws.length ∧ (∀ t, t < j → inB (ws.getD t 0) (-1000) 1000 = true) ∧ wr = w1) (fun i _ => ws.length - (intOf i).toNat)
      case atStart => exact ⟨0, rfl, Nat.zero_le _, fun t ht => by omega, rfl⟩
      case round =>
        obtain ⟨j, rfl, hj, hall, rfl⟩ := hrel
        have HA := Lib.hid hall
        clear hall
        by_cases hlt : j < ws.length
        · obtain ⟨b3, off, rfl, hblt, hc⟩ := (hw.below bel).at_ (by omega)
          have g1 := hc j hlt
          have hi0 : (0 : Int) ≤ j := by omega
          have hi1 : (j : Int) < (ws.length : Int) := by omega
          cases hin : inB (ws.getD j 0) (-1000) 1000 with
          | false =>
            have hA : allIn ws (-1000) 1000 = false := allIn_false_of j hlt hin
            rw [← HTAB.out]
            obtain ⟨hN, hL, hB⟩ := g_no (b := dualT e0 xs ws) (n := e0) (xs := tabOf (e0) (dualV xs ws)) (by simp [dualT, hA])
            rw [hN, hL, hB]
            clear hN hL hB
            obtain ⟨x, hx⟩ : ∃ x, x = ws.getD j 0 := ⟨_, rfl⟩
            rw [← hx] at g1 hin
            clear hx hc
            go_wp2_with fail
            refine (c_l1In _ _ _ _).mono ?_
            rw [hin]
            rintro e w' ⟨rfl, rfl⟩
            go_wp2_with fail
            refine bodyPost_ret (v := .tuple #[.agg #[.int .i64 0, .slice none 0 0], .bool false]) (by simp [results, Try.results30, go_sem, kr0, kr1]) rfl ?_
            exact ⟨none, 0, rfl, OwnI.nil _ _ _ _, by simp, by first | exact (bel.setCell (by show w.heap.size ≤ w.heap.size + 1; omega) _).setCell (by show w.heap.size ≤ w.heap.size + 1; omega) _ | exact bel⟩
          | true =>
            have hall : ∀ t, t < j + 1 → inB (ws.getD t 0) (-1000) 1000 = true := fun t ht => by
              rcases Nat.lt_or_eq_of_le (Nat.le_of_lt_succ ht) with h | rfl
              · exact HA.out t h
              · exact hin
            have HB := Lib.hid hall
            clear hall
            obtain ⟨x, hx⟩ : ∃ x, x = ws.getD j 0 := ⟨_, rfl⟩
            rw [← hx] at g1 hin
            clear hx hc
            go_wp2_with fail
            refine (c_l1In _ _ _ _).mono ?_
            rw [hin]
            rintro e w' ⟨rfl, rfl⟩
            go_wp2
            go_roundw
            case rel => exact ⟨j + 1, by go_num, by omega, HB.out, by first | rfl | trivial⟩
            case measure => simp [intOf]; omega
        · obtain rfl : j = ws.length := by omega
          have hA : allIn ws (-1000) 1000 = true := allIn_of HA.out
          have hT : dualT e0 xs ws = true := by simp [dualT, hA, hf, HLEN.out]
          have HT := Lib.hid hT
          have HX := Lib.hid (allIn_getD hA)
          clear hT hA
          have hwl : IntKind.i64.wrap (L : Int) = (L : Int) := IntWalk.i64_in _ (by omega)
          have hn1 := Nat.ne_of_lt f0.lt
          have hn2 := (Nat.ne_of_lt f0.lt).symm
          have kfa := (f0.alloc (.cells #[] 3)).c1
          go_wp2_with fail
          go_loopw [7, 9] (fun v i wr => ∃ s : Nat, i = .int .i64 s ∧ s ≤ n ∧ OwnI wr (w.heap.size + 1 + 1) 3 .i64 v (tabTo (dualV xs ws) s) ∧ Below w.heap.size w wr ∧ FBox wr (w.heap.size + 1) 26 0 none 0 0 ∧ FBox wr w.heap.size 26 e0 a n c) (fun _ i _ => n - (intOf i).toNat)
          case atStart => exact ⟨0, rfl, Nat.zero_le _, by (first | exact World.ownsRow_made wr #[] 0 fr.lt (by decide) rfl | (have h := World.ownsRow_made (base := w.heap.size + 1 + 1) (e := 3) (size := 1) wr #[] 0 (by have := fr.lt; first | omega | (simp only [World.size_alloc] at *; omega)) (by decide) rfl; (try simp only [World.size_alloc] at h); exact h)), bel.alloc bel.size _, fr.alloc _, f0.alloc _⟩
          case round =>
            clear hn1 hn2 kfa
            clear bel fr kr0 kr1 krf f0 kf00 kf01 hb1
            obtain ⟨s, rfl, hs, hown, hb, fr, f0⟩ := hrel
            have kf00 := f0.c0
            have kf01 := f0.c1
            have hB : w.heap.size + 1 + 1 ≤ wr.heap.size := fr.lt
            by_cases hlt2 : s < n
            · have HC := Lib.hid (fun w' (h' : Row .i64 w' b ws.length ws) => c_l3Weigh b ws.length d ws s w' h' h5 (by omega) HX.out)
              have hbd := weigh_bd s h5 HX.out
              obtain ⟨b3, off, rfl, hblt, hc⟩ := (h.below hb).at_ (by omega)
              have hbw : b3 < w.heap.size := by
                obtain ⟨b', off', hE, hlt', _⟩ := h.at_ (by omega)
                cases hE
                exact hlt'
              obtain ⟨t, ht⟩ : ∃ t, t = n - 1 - s := ⟨_, rfl⟩
              have g1 := hc t (by omega)
              have g2 := hc L (by have := HLI.out; omega)
              have hx1 := HXB.out t (by omega)
              have hx2 := HXB.out L (by have := HLI.out; omega)
              obtain ⟨x, hxe⟩ : ∃ x, x = xs.getD t 0 := ⟨_, rfl⟩
              obtain ⟨y, hye⟩ : ∃ y, y = xs.getD L 0 := ⟨_, rfl⟩
              obtain ⟨v, hv⟩ : ∃ v, v = weigh ws s := ⟨_, rfl⟩
              have hst : dualV xs ws s = v + x - y := by rw [hv, hxe, hye, HLI.out, ht, ← hl]; rfl
              have HST := Lib.hid hst
              have HV := Lib.hid hv
              rw [← hxe] at g1 hx1
              rw [← hye] at g2 hx2
              rw [← hv] at hbd
              have hidx : (L : Int) - (s : Int) = (t : Int) := by have := HLI.out; omega
              have hi0 : (0 : Int) ≤ t := by omega
              have hi1 : (t : Int) < (n : Int) := by omega
              have hi2 : (0 : Int) ≤ L := by omega
              have hi3 : (L : Int) < (n : Int) := by omega
              have hwt : IntKind.i64.wrap (t : Int) = t := IntWalk.i64_in _ (by omega)
              have hw1 : IntKind.i64.wrap (v + x) = v + x := IntWalk.i64_in _ (by omega)
              have hw2 : IntKind.i64.wrap (v + x - y) = v + x - y := IntWalk.i64_in _ (by omega)
              have HSC := Lib.hid (tabTo_succ (dualV xs ws) s)
              have hlen := HTL.out s
              have h' := (hw.below hb).below (Below.refl _ _).drew
              have gg1 := (hb.cell (p := ⟨b3, off + t, none⟩) hbw).symm.trans g1
              have gg2 := (hb.cell (p := ⟨b3, off + L, none⟩) hbw).symm.trans g2
              clear hst hv hxe hye hc ht
              replace hb := hb.drew
              replace hown := hown.drew
              replace fr := fr.drew
              replace f0 := f0.drew
              go_wp2_with fail
              go_region_held3 (fun w' => w'.cell? ⟨w.heap.size, 1, none⟩ = some (.slice (some ⟨b3, off, none⟩) n c) ∧ w'.cell? ⟨b3, off + t, none⟩ = some (.int .i64 x) ∧ w'.cell? ⟨b3, off + L, none⟩ = some (.int .i64 y)) (go_keep)
                (first
                  | (go_at_call 84; refine (HC.out _ h').mono ?_; rw [← HV.out]; rintro e w' ⟨rfl, rfl⟩)
                  | (refine step_app EI (base := w.heap.size + 1 + 1) (v := u7) (xs := tabTo (dualV xs ws) s) (us := [v + x - y]) (g := wr.heap.size) (n := 1) (c := 1) rfl (.tmp 48) (.tmp 66) rfl ?_ ?_ rfl rfl rfl ?_ ?_ ?_; (exact hown.alloc _); (exact heap_alloc_new wr.drew _); (show _ + 1 ≤ _; omega); (exact le_alloc hB _); intro v' w2 hown1 hgrow; have hb1 : Below w.heap.size w w2 := below_grown (hb.alloc hb.size _) (hown.alloc _) hgrow (by omega) (by simp; omega); have fr' := (fr.alloc _).grown hgrow (row_apart hown.range (.inl (by omega))); have f0' := (f0.alloc _).grown hgrow (row_apart hown.range (.inl (by omega))); have kf01 := f0'.c1; have g1 := (hb1.cell (p := ⟨b3, off + t, none⟩) hbw).trans gg1; have g2 := (hb1.cell (p := ⟨b3, off + L, none⟩) hbw).trans gg2))
              all_goals
                go_wp2
                go_roundw
                case rel => exact ⟨s + 1, by go_num, by omega, by rw [HSC.out, HST.out]; exact hown1, hb1, fr', f0'⟩
                case measure => simp [intOf]; omega
            · obtain rfl : s = n := by omega
              obtain ⟨a2, c2, hv, _⟩ := hown.form
              rw [HTL.out] at hv
              subst hv
              cases hI : isFun (e0) (tabTo (dualV xs ws) s) with
              | false =>
                go_wp2_with fail
                refine (c_l2Made_no _ _ _ _ _ _ hown.row (by omega) hI).mono ?_
                rintro e w2 ⟨rfl, hb2⟩
                replace fr := fr.below hb2
                have kr0 := fr.c0
                have kr1 := fr.c1
                have krf := fr.free
                replace hown := hown.below hb2
                replace hb := hb.trans (hb2.mono hb.size)
                have hlt2 := fr.lt
                go_wp2_with fail
                refine bodyPost_ret (v := .tuple #[.agg #[.int .i64 0, .slice none 0 0], .bool false]) (by simp [results, Try.results30, go_sem, kr0, kr1, hlt2]) rfl ?_
                obtain ⟨hN, hL, hB'⟩ := g_bad (b := dualT e0 xs ws) hI
                rw [hN, hL, hB']
                exact ⟨none, 0, rfl, OwnI.nil _ _ _ _, by simp, below_set2a hb (by omega) _ _ _⟩
              | true =>
                go_wp2_with fail
                refine (c_l2Made_yes _ _ _ _ _ _ hown.row (by omega) hI).mono ?_
                rintro e w2 ⟨rfl, hb2⟩
                replace fr := fr.below hb2
                have kr0 := fr.c0
                have kr1 := fr.c1
                have krf := fr.free
                replace hown := hown.below hb2
                replace hb := hb.trans (hb2.mono hb.size)
                have hlt2 := fr.lt
                go_wp2_with fail
                refine bodyPost_ret (v := .tuple #[.agg #[.int .i64 (e0), .slice a2 s c2], .bool true]) (by simp [results, Try.results30, go_sem, kr0, kr1, hlt2]) rfl ?_
                obtain ⟨hN, hL, hB'⟩ := g_yes (n := e0) HT.out hI
                rw [hN, hL, hB']
                refine ⟨a2, c2, by rw [HTL.out], ?_, by rw [HTL.out]; omega, below_set2a hb (by omega) _ _ _⟩
                rw [HTL.out]
                exact (((own_set2 hown (by omega) _ _).alloc _).base (by omega))
end Go.Proofs.Ytfcgijnfiiaepaa
