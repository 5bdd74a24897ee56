/- Contracts of RestrictFunction, both packages. -/
import Derived.Test.YtfcgijnfiiaepaaBox
import Derived.Test.YtfcgijnfiiaepaaSpread
import Derived.Test.YtfcgijnfiiaepaaIn5
namespace Go.Proofs.Ytfcgijnfiiaepaa
set_option linter.unusedSimpArgs false
set_option linter.unusedVariables false
open Go.RowKit

def resV (xs : List Int) (s x : Nat) : Int := xs.getD (sprR s x) 0
theorem res_isFun {n : Int} {xs : List Int} {k : Nat} (hf : isFun n xs = true) (hk : k < xs.length) : isFun (sizeN k : Int) (tabOf (sizeN k : Int) (resV xs k)) = true := by
  have hle := isFun_le hf
  have h5 := sizeN_le k
  have hp := pow5 (n := (sizeN k : Int)) (by omega) (by omega)
  exact isFun_tab (by omega) (by omega) fun x hx => (isFun_true hf).2.2 _ (Nat.lt_of_le_of_lt (spr_le (by omega) (by omega)) hk)
set_option maxHeartbeats 400000 in
theorem c_res1 (e0 : Int) (a : Option Addr) (n c : Nat) (xs : List Int) (al : Option Addr) (ln cl : Nat) (k g1 g2 x : Nat) (w : World) (f : FBox w g1 26 e0 a n c) (bl : VBox w g2 24 (.slice al ln cl)) (h : Row .i64 w a n xs) (hr : Row .i64 w al ln (elems (k : Int))) (hk : k < n) (hn : n ≤ 32) (hx : x < 32) :
    Calls Try.prog 63 #[.int .i64 x, .pointer (some ⟨g1, 0, none⟩), .pointer (some ⟨g2, 0, none⟩)] w fun e w' => e = .returned (.int .i64 (resV xs k x)) ∧ Below w.heap.size w w' := by
  have k1 := f.c1
  have k2 := bl.c0
  have hl5 : (elems (k : Int)).length ≤ 5 := by rw [elems_len (by omega)]; exact sizeN_le k
  have HC := Lib.hid (fun w' (h' : Row .i64 w' al ln (elems (k : Int))) => c_spread al _ cl _ x w' h' hx hl5 (elems_bd (by omega)))
  obtain ⟨t, ht⟩ : ∃ t, t = sprR k x := ⟨_, rfl⟩
  have HT := Lib.hid (show sprTo (elems (k : Int)) x (elems (k : Int)).length = t by rw [ht]; rfl)
  have htk : t ≤ k := by rw [ht]; exact spr_le (by omega) hx
  obtain ⟨b, off, rfl, hlt, hc⟩ := h.at_ (by omega)
  have g := hc t (by omega)
  obtain ⟨y, hy⟩ : ∃ y, y = xs.getD t 0 := ⟨_, rfl⟩
  rw [← hy] at g
  have HST := Lib.hid (show resV xs k x = y by rw [hy, ht]; rfl)
  have hi0 : (0 : Int) ≤ t := by omega
  have hi1 : (t : Int) < (n : Int) := by omega
  have bel := (Below.refl w.heap.size w).drew
  have hr' := hr.below bel
  clear ht hy hc hl5
  go_enter Try.func63, Try.ntmps63
  go_wp2_with fail
  go_region_held3 (fun w' => w'.cell? ⟨g1, 1, none⟩ = some (.slice (some ⟨b, off, none⟩) n c) ∧ w'.cell? ⟨g2, 0, none⟩ = some (.slice al ln cl) ∧ w'.cell? ⟨b, off + t, none⟩ = some (.int .i64 y)) (go_keep)
    (first
      | (go_at_call 64; refine (HC.out _ hr').mono ?_; rw [HT.out]; rintro e w' ⟨rfl, rfl⟩))
  all_goals
    go_wp2
    go_ret
    exact ⟨ret_int HST.out.symm, bel⟩
set_option maxRecDepth 10000 in
set_option maxHeartbeats 1000000 in
theorem c_impl_RestrictFunction (e0 : Int) (a : Option Addr) (n c : Nat) (xs : List Int) (s : Int) (w : World) (h : Row .i64 w a n xs) (hn : n ≤ 1048576) :
    Calls Try.prog 17 #[.agg #[.int .i64 e0, .slice a n c], .int .i64 s] w (RetFun 3 (gN (in5 e0 xs s) ((sizeN s.toNat : Int)) (tabOf ((sizeN s.toNat : Int)) (resV xs s.toNat))) (gL (in5 e0 xs s) ((sizeN s.toNat : Int)) (tabOf ((sizeN s.toNat : Int)) (resV xs s.toNat))) (gB (in5 e0 xs s) ((sizeN s.toNat : Int)) (tabOf ((sizeN s.toNat : Int)) (resV xs s.toNat))) w) := by
  have hmf : ∀ (fn : Fn) (first cap : Array Value) (w : World), (Instr.makeFunc fn first cap).run Try.prog w = .ok (.func fn first cap) w := fun _ _ _ _ => rfl
  have bel := Below.refl w.heap.size w
  have f0 := FBox.new w 26 e0 a n c
  replace bel := bel.alloc bel.size (.cells #[.int .i64 e0, .slice a n c] 26)
  have fr := FBox.new (w.alloc (.cells #[.int .i64 e0, .slice a n c] 26)) 26 0 none 0 0
  rw [World.size_alloc] at fr
  replace f0 := f0.alloc (.cells #[.int .i64 0, .slice none 0 0] 26)
  replace bel := bel.alloc bel.size (.cells #[.int .i64 0, .slice none 0 0] 26)
  have kf00 := f0.c0
  have kf01 := f0.c1
  have kr0 := fr.c0
  have kr1 := fr.c1
  have krf := fr.free
  cases hf : isFun e0 xs with
  | false =>
    obtain ⟨hN, hL, hB⟩ := g_no (b := in5 e0 xs s) (n := (sizeN s.toNat : Int)) (xs := tabOf ((sizeN s.toNat : Int)) (resV xs s.toNat)) (by simp [in5, hf])
    rw [hN, hL, hB]
    clear hN hL hB
    go_enter Try.func17, Try.ntmps17
    go_wp2_with fail
    refine (c_impl_IsFunction _ _ _ _ _ _ (h.below bel) hn).mono ?_
    rw [hf]
    rintro e w1 ⟨rfl, hb1⟩
    replace bel := bel.trans (hb1.mono bel.size)
    replace f0 := f0.below hb1
    replace fr := fr.below hb1
    replace kf00 := f0.c0
    replace kf01 := f0.c1
    replace kr0 := fr.c0
    replace kr1 := fr.c1
    replace krf := fr.free
    go_wp2_with fail
    refine bodyPost_ret (v := .tuple #[.agg #[.int .i64 0, .slice none 0 0], .bool false]) (by simp [results, Try.results17, go_sem, kr0, kr1]) rfl ?_
    exact ⟨none, 0, rfl, OwnI.nil _ _ _ _, by simp, by first | exact (bel.setCell (by show w.heap.size ≤ w.heap.size + 1; omega) _).setCell (by show w.heap.size ≤ w.heap.size + 1; omega) _ | exact bel⟩
  | true =>
    have hq := (isFun_true hf).1
    cases hs : isSet e0 s with
    | false =>
      obtain ⟨hN, hL, hB⟩ := g_no (b := in5 e0 xs s) (n := (sizeN s.toNat : Int)) (xs := tabOf ((sizeN s.toNat : Int)) (resV xs s.toNat)) (by simp [in5, hs])
      rw [hN, hL, hB]
      clear hN hL hB
      go_enter Try.func17, Try.ntmps17
      go_wp2_with fail
      refine (c_impl_IsFunction _ _ _ _ _ _ (h.below bel) hn).mono ?_
      rw [hf]
      rintro e w1 ⟨rfl, hb1⟩
      replace bel := bel.trans (hb1.mono bel.size)
      replace f0 := f0.below hb1
      replace fr := fr.below hb1
      replace kf00 := f0.c0
      replace kf01 := f0.c1
      replace kr0 := fr.c0
      replace kr1 := fr.c1
      replace krf := fr.free
      go_wp2_with fail
      refine (c_isSetOf _ _ _ (by omega) (by omega)).mono ?_
      rw [hs]
      rintro e w' ⟨rfl, rfl⟩
      go_wp2_with fail
      refine bodyPost_ret (v := .tuple #[.agg #[.int .i64 0, .slice none 0 0], .bool false]) (by simp [results, Try.results17, go_sem, kr0, kr1]) rfl ?_
      exact ⟨none, 0, rfl, OwnI.nil _ _ _ _, by simp, by first | exact (bel.setCell (by show w.heap.size ≤ w.heap.size + 1; omega) _).setCell (by show w.heap.size ≤ w.heap.size + 1; omega) _ | exact bel⟩
    | true =>
      obtain ⟨s0, s1⟩ := isSet_true.1 hs
      obtain ⟨k, rfl⟩ := Int.eq_ofNat_of_zero_le s0
      have hkx : k < xs.length := isSet_lt (isFun_true hf).2.1 s1
      have hle := isFun_le hf
      have hl := h.len
      rw [Int.toNat_natCast]
      clear s1
      obtain ⟨hN, hL, hB⟩ := g_mid (b := in5 e0 xs (k : Int)) (n := (sizeN k : Int)) (xs := tabOf ((sizeN k : Int)) (resV xs k)) (by simp [in5, hf, hs])
      rw [hN, hL, hB]
      clear hN hL hB
      obtain ⟨tab, htab⟩ : ∃ t, t = tabOf ((sizeN k : Int)) (resV xs k) := ⟨_, rfl⟩
      rw [← htab]
      have HTAB := Lib.hid htab
      clear htab
      have hel := elems_len (s := k) (by omega)
      have hz5 := sizeN_le k
      have hp32 := pow5 (n := (sizeN k : Int)) (by omega) (by omega)
      rw [Int.toNat_natCast] at hp32
      go_enter Try.func17, Try.ntmps17
      go_wp2_with fail
      refine (c_impl_IsFunction _ _ _ _ _ _ (h.below bel) hn).mono ?_
      rw [hf]
      rintro e w1 ⟨rfl, hb1⟩
      replace bel := bel.trans (hb1.mono bel.size)
      replace f0 := f0.below hb1
      replace fr := fr.below hb1
      replace kf00 := f0.c0
      replace kf01 := f0.c1
      replace kr0 := fr.c0
      replace kr1 := fr.c1
      replace krf := fr.free
      go_wp2_with fail
      refine (c_isSetOf _ _ _ (by omega) (by omega)).mono ?_
      rw [hs]
      rintro e w' ⟨rfl, rfl⟩
      go_wp2_with fail
      refine (c_elementsOf _ _ (by omega) (by omega)).mono ?_
      rintro e w2 ⟨al, cl, rfl, hol, hb2⟩
      rw [hel] at hol ⊢
      replace bel := bel.trans (hb2.mono bel.size)
      replace f0 := f0.below hb2
      replace fr := fr.below hb2
      have bl := VBox.new w2 24 (.slice al (sizeN k) cl)
      replace hol := hol.alloc (.cells #[.slice al (sizeN k) cl] 24)
      replace bel := bel.alloc bel.size (.cells #[.slice al (sizeN k) cl] 24)
      replace f0 := f0.alloc (.cells #[.slice al (sizeN k) cl] 24)
      replace fr := fr.alloc (.cells #[.slice al (sizeN k) cl] 24)
      replace kf00 := f0.c0
      replace kf01 := f0.c1
      replace kr0 := fr.c0
      replace kr1 := fr.c1
      replace krf := fr.free
      have kbl := bl.c0
      clear hb2
      have hls := hol.row
      have hne1 := Nat.ne_of_lt f0.lt
      have hne2 := Nat.ne_of_lt fr.lt
      have hlt1 := fr.lt
      go_wp2_with fail
      refine (c_makeFunction _ _ _ (resV xs k) _ (by omega) (by omega) (enters_of Try.func63 (by kernel_rfl) rfl) (fun s w' hs hb => by rw [app2]; exact c_res1 e0 a n c xs al (sizeN k) cl k w.heap.size w2.heap.size s w' (f0.below hb) (bl.below hb) ((h.below bel).below hb) (hls.below hb) (by omega) (by omega) (by rw [Int.toNat_natCast] at hs; omega))).mono ?_
      rw [← HTAB.out]
      rintro e w2 ⟨a2, c2, rfl, ho, hlen, hb2⟩
      obtain ⟨wB, hwB⟩ : ∃ z, z = fr.lt := ⟨_, rfl⟩
      clear hwB
      have hfr := fr.lt
      replace bel := bel.trans (hb2.mono bel.size)
      replace fr := fr.below hb2
      replace kr0 := fr.c0
      replace kr1 := fr.c1
      replace krf := fr.free
      go_wp2_with fail
      refine bodyPost_ret (v := .tuple #[.agg #[.int .i64 (madeN ((sizeN k : Int)) tab), .slice a2 (madeL ((sizeN k : Int)) tab).length c2], .bool (isFun ((sizeN k : Int)) tab)]) (by simp [results, Try.results17, go_sem, kr0, kr1]) rfl ?_
      refine ⟨a2, c2, rfl, ?_, hlen, (bel.setCell (by show w.heap.size ≤ w.heap.size + 1; omega) _).setCell (by show w.heap.size ≤ w.heap.size + 1; omega) _⟩
      exact ((ho.base (by omega)).setFar ⟨w.heap.size + 1, 0, none⟩ _ (.inr (row_apart ho.range (.inl (by show w.heap.size + 1 < _; omega))))).setFar ⟨w.heap.size + 1, 1, none⟩ _ (.inr (row_apart ho.range (.inl (by show w.heap.size + 1 < _; omega))))
set_option maxRecDepth 10000 in
set_option maxHeartbeats 2000000 in
theorem c_spec_RestrictFunction (e0 : Int) (a : Option Addr) (n c : Nat) (xs : List Int) (s : Int) (w : World) (h : Row .i64 w a n xs) (hn : n ≤ 1048576) :
    Calls Try.prog 18 #[.agg #[.int .i64 e0, .slice a n c], .int .i64 s] w (RetFun 3 (gN (in5 e0 xs s) ((sizeN s.toNat : Int)) (tabOf ((sizeN s.toNat : Int)) (resV xs s.toNat))) (gL (in5 e0 xs s) ((sizeN s.toNat : Int)) (tabOf ((sizeN s.toNat : Int)) (resV xs s.toNat))) (gB (in5 e0 xs s) ((sizeN s.toNat : Int)) (tabOf ((sizeN s.toNat : Int)) (resV xs s.toNat))) w) := by
  have bel := Below.refl w.heap.size w
  have f0 := FBox.new w 26 e0 a n c
  replace bel := bel.alloc bel.size (.cells #[.int .i64 e0, .slice a n c] 26)
  have fr := FBox.new (w.alloc (.cells #[.int .i64 e0, .slice a n c] 26)) 26 0 none 0 0
  rw [World.size_alloc] at fr
  replace f0 := f0.alloc (.cells #[.int .i64 0, .slice none 0 0] 26)
  replace bel := bel.alloc bel.size (.cells #[.int .i64 0, .slice none 0 0] 26)
  have kf00 := f0.c0
  have kf01 := f0.c1
  have kr0 := fr.c0
  have kr1 := fr.c1
  have krf := fr.free
  cases hi : in5 e0 xs s with
  | false =>
    rw [← hi]
    obtain ⟨hN, hL, hB⟩ := g_no (b := in5 e0 xs s) (n := (sizeN s.toNat : Int)) (xs := tabOf ((sizeN s.toNat : Int)) (resV xs s.toNat)) (by simp [hi, hi])
    rw [hN, hL, hB]
    clear hN hL hB
    go_enter Try.func18, Try.ntmps18
    go_wp2_with fail
    refine (c_l5In _ _ _ _ _ _ _ (h.below bel) hn).mono ?_
    rw [hi]
    rintro e w1 ⟨rfl, hb1⟩
    replace bel := bel.trans (hb1.mono bel.size)
    replace f0 := f0.below hb1
    replace fr := fr.below hb1
    replace kf00 := f0.c0
    replace kf01 := f0.c1
    replace kr0 := fr.c0
    replace kr1 := fr.c1
    replace krf := fr.free
    go_wp2_with fail
    refine bodyPost_ret (v := .tuple #[.agg #[.int .i64 0, .slice none 0 0], .bool false]) (by simp [results, Try.results18, go_sem, kr0, kr1]) rfl ?_
    exact ⟨none, 0, rfl, OwnI.nil _ _ _ _, by simp, by first | exact (bel.setCell (by show w.heap.size ≤ w.heap.size + 1; omega) _).setCell (by show w.heap.size ≤ w.heap.size + 1; omega) _ | exact bel⟩
  | true =>
    have hi' := hi
    simp only [in5, Bool.and_eq_true] at hi'
    obtain ⟨hf, hs⟩ := hi'
    obtain ⟨s0, s1⟩ := isSet_true.1 hs
    obtain ⟨k, rfl⟩ := Int.eq_ofNat_of_zero_le s0
    have hkx : k < xs.length := isSet_lt (isFun_true hf).2.1 s1
    have hle := isFun_le hf
    have hl := h.len
    rw [Int.toNat_natCast]
    clear s1
    have HI0 := res_isFun hf hkx
    obtain ⟨m, hm⟩ : ∃ m, m = sizeN k := ⟨_, rfl⟩
    rw [← hm] at HI0 ⊢
    have h5 : m ≤ 5 := by rw [hm]; exact sizeN_le k
    obtain ⟨p, hp⟩ : ∃ p, p = 2 ^ m := ⟨_, rfl⟩
    have hp32 := pow5 (n := (m : Int)) (by omega) (by omega)
    rw [Int.toNat_natCast, ← hp] at hp32
    have htab : tabOf (m : Int) (resV xs k) = tabTo (resV xs k) p := by simp [tabOf, hp]
    rw [htab] at HI0 ⊢
    have HI := Lib.hid HI0
    have HTL := Lib.hid (tabTo_length (resV xs k))
    have HP := Lib.hid hp
    have HM := Lib.hid hm
    have HT := Lib.hid hi
    have HZ := Lib.hid (fun w' => c_l2Size k w' (by omega))
    clear htab hp hm HI0
    go_enter Try.func18, Try.ntmps18
    go_wp2_with fail
    refine (c_l5In _ _ _ _ _ _ _ (h.below bel) hn).mono ?_
    rw [hi]
    rintro e w1 ⟨rfl, hb1⟩
    replace bel := bel.trans (hb1.mono bel.size)
    replace f0 := f0.below hb1
    replace fr := fr.below hb1
    replace kf00 := f0.c0
    replace kf01 := f0.c1
    replace kr0 := fr.c0
    replace kr1 := fr.c1
    replace krf := fr.free
    have hn1 := Nat.ne_of_lt f0.lt
    have hn2 := (Nat.ne_of_lt f0.lt).symm
    go_wp2_with fail
    go_loopw [6, 7] (fun v i wr => ∃ s : Nat, i = .int .i64 s ∧ s ≤ p ∧ OwnI wr (w.heap.size + 1 + 1) 3 .i64 v (tabTo (resV xs k) s) ∧ Below w.heap.size w wr ∧ FBox wr (w.heap.size + 1) 26 0 none 0 0 ∧ FBox wr w.heap.size 26 e0 a n c) (fun _ i _ => p - (intOf i).toNat)
    case atStart => exact ⟨0, rfl, Nat.zero_le _, by (first | exact World.ownsRow_made w1 #[] 0 fr.lt (by decide) rfl | (have h := World.ownsRow_made (base := w.heap.size + 1 + 1) (e := 3) (size := 1) w1 #[] 0 (by have := fr.lt; first | omega | (simp only [World.size_alloc] at *; omega)) (by decide) rfl; (try simp only [World.size_alloc] at h); exact h)), bel.alloc bel.size _, fr.alloc _, f0.alloc _⟩
    case round =>
      clear hn1 hn2 bel fr kr0 kr1 krf f0 kf00 kf01 hb1
      obtain ⟨s, rfl, hs, hown, hb, fr, f0⟩ := hrel
      have kf00 := f0.c0
      have kf01 := f0.c1
      have hB : w.heap.size + 1 + 1 ≤ wr.heap.size := fr.lt
      go_wp2_with fail
      refine (HZ.out _).mono ?_
      rw [← HM.out]
      rintro e w' ⟨rfl, rfl⟩
      by_cases hlt2 : s < p
      · have hsle := spr_le (s := k) (x := s) (by omega) (by omega)
        have HS2 := Lib.hid (fun w' => c_l5Spread k s w' (by omega) (by omega))
        obtain ⟨t, ht⟩ : ∃ t, t = sprR k s := ⟨_, rfl⟩
        rw [← ht] at hsle
        obtain ⟨b3, off, rfl, hblt, hc⟩ := (h.below hb).at_ (by omega)
        have hbw : b3 < w.heap.size := by
          obtain ⟨b', off', hE, hlt', _⟩ := h.at_ (by omega)
          cases hE
          exact hlt'
        have g1 := hc t (by omega)
        obtain ⟨y, hy⟩ : ∃ y, y = xs.getD t 0 := ⟨_, rfl⟩
        rw [← hy] at g1
        have HST := Lib.hid (show resV xs k s = y by rw [hy, ht]; rfl)
        have HTT := Lib.hid ht
        have hi0 : (0 : Int) ≤ t := by omega
        have hi1 : (t : Int) < (n : Int) := by omega
        have HSC := Lib.hid (tabTo_succ (resV xs k) s)
        have hlen := HTL.out s
        have gg1 := (hb.cell (p := ⟨b3, off + t, none⟩) hbw).symm.trans g1
        clear hy ht hc
        obtain ⟨hz, hs1, hs2⟩ := shl_facts m p HP.out (by omega)
        replace hb := hb.drew
        replace hown := hown.drew
        replace fr := fr.drew
        replace f0 := f0.drew
        go_wp2_with fail
        clear hz hs1 hs2
        go_region_held3 (fun w' => w'.cell? ⟨w.heap.size, 1, none⟩ = some (.slice (some ⟨b3, off, none⟩) n c) ∧ w'.cell? ⟨b3, off + t, none⟩ = some (.int .i64 y)) (go_keep)
          (first
            | (go_at_call 66; refine (HS2.out _).mono ?_; rw [← HTT.out]; rintro e wz ⟨rfl, hbz⟩; replace hb := hb.trans (hbz.mono hb.size); replace hown := hown.below hbz; replace fr := fr.below hbz; replace f0 := f0.below hbz; have kf01 := f0.c1; have g1 := (hb.cell (p := ⟨b3, off + t, none⟩) hbw).trans gg1; have hB : w.heap.size + 1 + 1 ≤ wz.heap.size := fr.lt; clear hbz)
            | (refine step_app EI (base := w.heap.size + 1 + 1) (v := u6) (xs := tabTo (resV xs k) s) (us := [y]) (g := wz.heap.size) (n := 1) (c := 1) rfl (.tmp 21) (.tmp 29) rfl ?_ ?_ rfl rfl rfl ?_ ?_ ?_; (exact hown.alloc _); (exact heap_alloc_new wz _); (show _ + 1 ≤ _; omega); (exact le_alloc hB _); intro v' w2 hown1 hgrow; have hb1 : Below w.heap.size w w2 := below_grown (hb.alloc hb.size _) (hown.alloc _) hgrow (by omega) (by simp; omega); have fr' := (fr.alloc _).grown hgrow (row_apart hown.range (.inl (by omega))); have f0' := (f0.alloc _).grown hgrow (row_apart hown.range (.inl (by omega))); have kf01 := f0'.c1; have g1 := (hb1.cell (p := ⟨b3, off + t, none⟩) hbw).trans gg1))
        all_goals
          go_wp2
          go_roundw
          case rel => exact ⟨s + 1, by go_num, by omega, by rw [HSC.out, HST.out]; exact hown1, hb1, fr', f0'⟩
          case measure => simp [intOf]; omega
      · obtain rfl : s = p := by omega
        obtain ⟨hz, hs1, hs2⟩ := shl_facts m s HP.out (by omega)
        obtain ⟨a2, c2, hv, _⟩ := hown.form
        rw [HTL.out] at hv
        subst hv
        have kr0 := fr.c0
        have kr1 := fr.c1
        have krf := fr.free
        go_wp2_with fail
        clear hz hs1 hs2
        refine (HZ.out _).mono ?_
        rw [← HM.out]
        rintro e w' ⟨rfl, rfl⟩
        go_wp2_with fail
        refine bodyPost_ret (v := .tuple #[.agg #[.int .i64 (m : Int), .slice a2 s c2], .bool true]) (by simp [results, Try.results18, go_sem, kr0, kr1]) rfl ?_
        obtain ⟨hN, hL, hB'⟩ := g_yes (b := true) (n := (m : Int)) rfl HI.out
        rw [hN, hL, hB']
        refine ⟨a2, c2, by rw [HTL.out], ?_, by rw [HTL.out]; omega, below_set2 hb (by omega) _ _⟩
        rw [HTL.out]
        exact (own_set2 hown (by omega) _ _).base (by omega)
end Go.Proofs.Ytfcgijnfiiaepaa
