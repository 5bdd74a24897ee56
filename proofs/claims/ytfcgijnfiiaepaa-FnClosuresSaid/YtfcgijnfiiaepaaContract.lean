/- Contracts of ContractFunction, both packages. -/
import Derived.Test.YtfcgijnfiiaepaaBox
import Derived.Test.YtfcgijnfiiaepaaSpread
import Derived.Test.YtfcgijnfiiaepaaIn5
import Derived.Test.YtfcgijnfiiaepaaOpp
namespace Go.Proofs.Ytfcgijnfiiaepaa
set_option linter.unusedSimpArgs false
set_option linter.unusedVariables false
open Go.RowKit

def conV (xs : List Int) (k r x : Nat) : Int := xs.getD (sprR r x ||| k) 0 - xs.getD k 0
def restN (n s : Int) : Nat := 2 ^ n.toNat - 1 - s.toNat
theorem VBox.set0 {w : World} {g : Nat} {t : TypeId} {v : Value} (h : VBox w g t v) (a : Option Addr) (l c : Nat) (hv : ∃ a' l' c', v = .slice a' l' c') : VBox (w.setCell ⟨g, 0, none⟩ (.slice a l c)) g t (.slice a l c) := by
  obtain ⟨a', l', c', rfl⟩ := hv
  unfold VBox at h ⊢
  have hlt := (Array.getElem?_eq_some_iff.1 h).1
  have h' : w.heap[g] = .cells #[.slice a' l' c'] t (0, 0) := by simpa [Array.getElem?_eq_getElem hlt] using h
  show (w.heap.modify g _)[g]? = _
  rw [Array.getElem?_eq_getElem (by simpa using hlt), Array.getElem_modify_self, h']
  rfl
theorem VBox.far {w : World} {g g' : Nat} {t : TypeId} {v : Value} (h : VBox w g t v) (hne : g ≠ g') (j : Nat) (u : Value) : VBox (w.setCell ⟨g', j, none⟩ u) g t v := (Below.heap_setCell w ⟨g', j, none⟩ u g hne).trans h
theorem VBox.free {w : World} {g : Nat} {t : TypeId} {v : Value} (h : VBox w g t v) (j : Nat) : w.frozen? ⟨g, j, none⟩ = false := frozen_of_row w g j _ t h
theorem or_lt_len {n : Int} {xs : List Int} {t k : Nat} (hf : isFun n xs = true) (ht : t < xs.length) (hk : k < xs.length) : t ||| k < xs.length := by
  have hl := (isFun_true hf).2.1
  rw [hl] at ht hk ⊢
  exact Nat.or_lt_two_pow ht hk
set_option maxRecDepth 10000 in
set_option maxHeartbeats 1000000 in
theorem c_con1 (e0 : Int) (a : Option Addr) (n c : Nat) (xs : List Int) (al : Option Addr) (ln cl : Nat) (k r g1 g2 g3 x : Nat) (w : World) (f : FBox w g1 26 e0 a n c) (bl : VBox w g2 24 (.slice al ln cl)) (bk : VBox w g3 3 (.int .i64 k)) (h : Row .i64 w a n xs) (hr : Row .i64 w al ln (elems (r : Int))) (hf : isFun e0 xs = true) (hk : k < n) (hrn : r < n) (hx : x < 32) :
    Calls Try.prog 68 #[.int .i64 x, .pointer (some ⟨g1, 0, none⟩), .pointer (some ⟨g2, 0, none⟩), .pointer (some ⟨g3, 0, none⟩)] w fun e w' => e = .returned (.int .i64 (conV xs k r x)) ∧ Below w.heap.size w w' := by
  have k1 := f.c1
  have k2 := bl.c0
  have k3 := bk.c0
  have hl := h.len
  have hle := isFun_le hf
  have hl5 : (elems (r : Int)).length ≤ 5 := by rw [elems_len (by omega)]; exact sizeN_le r
  have HC := Lib.hid (fun w' (h' : Row .i64 w' al ln (elems (r : Int))) => c_spread al _ cl _ x w' h' hx hl5 (elems_bd (by omega)))
  have htr : sprR r x ≤ r := spr_le (by omega) hx
  obtain ⟨t, ht⟩ : ∃ t, t = sprR r x := ⟨_, rfl⟩
  rw [← ht] at htr
  have HT := Lib.hid (show sprTo (elems (r : Int)) x (elems (r : Int)).length = t by rw [ht]; rfl)
  have hor := i64_or_nat t k (by omega) (by omega)
  have hm := or_lt_len (t := t) (k := k) hf (by omega) (by omega)
  obtain ⟨m, hme⟩ : ∃ m, m = t ||| k := ⟨_, rfl⟩
  rw [← hme] at hor hm
  obtain ⟨b, off, rfl, hlt, hc⟩ := h.at_ (by omega)
  have g := hc m (by omega)
  have gk := hc k (by omega)
  have hb1 := (isFun_true hf).2.2 m (by omega)
  have hb2 := (isFun_true hf).2.2 k (by omega)
  obtain ⟨y, hy⟩ : ∃ y, y = xs.getD m 0 := ⟨_, rfl⟩
  obtain ⟨z, hz⟩ : ∃ z, z = xs.getD k 0 := ⟨_, rfl⟩
  rw [← hy] at g hb1
  rw [← hz] at gk hb2
  have HST := Lib.hid (show conV xs k r x = y - z by rw [hy, hz, hme, ht]; rfl)
  have hw : IntKind.i64.wrap (y - z) = y - z := IntWalk.i64_in _ (by omega)
  have hi0 : (0 : Int) ≤ m := by omega
  have hi1 : (m : Int) < (n : Int) := by omega
  have hi2 : (0 : Int) ≤ k := by omega
  have hi3 : (k : Int) < (n : Int) := by omega
  have bel := (Below.refl w.heap.size w).drew
  have hr' := hr.below bel
  clear ht hy hz hc hl5 hl hle hf hme htr
  go_enter Try.func68, Try.ntmps68
  go_wp2_with fail
  go_region_held3 (fun w' => w'.cell? ⟨g1, 1, none⟩ = some (.slice (some ⟨b, off, none⟩) n c) ∧ w'.cell? ⟨g2, 0, none⟩ = some (.slice al ln cl) ∧ w'.cell? ⟨g3, 0, none⟩ = some (.int .i64 k) ∧ w'.cell? ⟨b, off + m, none⟩ = some (.int .i64 y) ∧ w'.cell? ⟨b, off + k, none⟩ = some (.int .i64 z)) (go_keep)
    (first
      | (go_at_call 64; refine (HC.out _ hr').mono ?_; rw [HT.out]; rintro e w' ⟨rfl, rfl⟩))
  all_goals
    go_wp2
    go_ret
    exact ⟨ret_int HST.out.symm, bel⟩
set_option maxRecDepth 10000 in
set_option maxHeartbeats 2000000 in
theorem c_impl_ContractFunction (e0 : Int) (a : Option Addr) (n c : Nat) (xs : List Int) (s : Int) (w : World) (h : Row .i64 w a n xs) (hn : n ≤ 1048576) :
    Calls Try.prog 19 #[.agg #[.int .i64 e0, .slice a n c], .int .i64 s] w (RetFun 3 (gN (in5 e0 xs s) ((sizeN (restN e0 s) : Int)) (tabOf ((sizeN (restN e0 s) : Int)) (conV xs s.toNat (restN e0 s)))) (gL (in5 e0 xs s) ((sizeN (restN e0 s) : Int)) (tabOf ((sizeN (restN e0 s) : Int)) (conV xs s.toNat (restN e0 s)))) (gB (in5 e0 xs s) ((sizeN (restN e0 s) : Int)) (tabOf ((sizeN (restN e0 s) : Int)) (conV xs s.toNat (restN e0 s)))) w) := by
  have hmf : ∀ (fn : Fn) (first cap : Array Value) (w : World), (Instr.makeFunc fn first cap).run Try.prog w = .ok (.func fn first cap) w := fun _ _ _ _ => rfl
  have bel := Below.refl w.heap.size w
  have f0 := FBox.new w 26 e0 a n c
  replace bel := bel.alloc bel.size (.cells #[.int .i64 e0, .slice a n c] 26)
  have bk := VBox.new (w.alloc (.cells #[.int .i64 e0, .slice a n c] 26)) 3 (.int .i64 s)
  rw [World.size_alloc] at bk
  replace f0 := f0.alloc (.cells #[.int .i64 s] 3)
  replace bel := bel.alloc bel.size (.cells #[.int .i64 s] 3)
  have fr := FBox.new ((w.alloc (.cells #[.int .i64 e0, .slice a n c] 26)).alloc (.cells #[.int .i64 s] 3)) 26 0 none 0 0
  rw [World.size_alloc, World.size_alloc] at fr
  replace f0 := f0.alloc (.cells #[.int .i64 0, .slice none 0 0] 26)
  replace bk := bk.alloc (.cells #[.int .i64 0, .slice none 0 0] 26)
  replace bel := bel.alloc bel.size (.cells #[.int .i64 0, .slice none 0 0] 26)
  have kf00 := f0.c0
  have kf01 := f0.c1
  have kbk0 := bk.c0
  have kr0 := fr.c0
  have kr1 := fr.c1
  have krf := fr.free
  cases hf : isFun e0 xs with
  | false =>
    obtain ⟨hN, hL, hB⟩ := g_no (b := in5 e0 xs s) (n := (sizeN (restN e0 s) : Int)) (xs := tabOf ((sizeN (restN e0 s) : Int)) (conV xs s.toNat (restN e0 s))) (by simp [in5, hf])
    rw [hN, hL, hB]
    clear hN hL hB
    go_enter Try.func19, Try.ntmps19
    go_wp2_with fail
    refine (c_impl_IsFunction _ _ _ _ _ _ (h.below bel) hn).mono ?_
    rw [hf]
    rintro e w1 ⟨rfl, hb1⟩
    replace bel := bel.trans (hb1.mono bel.size)
    replace f0 := f0.below hb1
    replace bk := bk.below hb1
    replace fr := fr.below hb1
    replace kf00 := f0.c0
    replace kf01 := f0.c1
    replace kbk0 := bk.c0
    replace kr0 := fr.c0
    replace kr1 := fr.c1
    replace krf := fr.free
    go_wp2_with fail
    refine bodyPost_ret (v := .tuple #[.agg #[.int .i64 0, .slice none 0 0], .bool false]) (by simp [results, Try.results19, go_sem, kr0, kr1]) rfl ?_
    exact ⟨none, 0, rfl, OwnI.nil _ _ _ _, by simp, by first | exact (bel.setCell (by show w.heap.size ≤ w.heap.size + 1 + 1; omega) _).setCell (by show w.heap.size ≤ w.heap.size + 1 + 1; omega) _ | exact bel⟩
  | true =>
    have hq := (isFun_true hf).1
    cases hs : isSet e0 s with
    | false =>
      obtain ⟨hN, hL, hB⟩ := g_no (b := in5 e0 xs s) (n := (sizeN (restN e0 s) : Int)) (xs := tabOf ((sizeN (restN e0 s) : Int)) (conV xs s.toNat (restN e0 s))) (by simp [in5, hs])
      rw [hN, hL, hB]
      clear hN hL hB
      go_enter Try.func19, Try.ntmps19
      go_wp2_with fail
      refine (c_impl_IsFunction _ _ _ _ _ _ (h.below bel) hn).mono ?_
      rw [hf]
      rintro e w1 ⟨rfl, hb1⟩
      replace bel := bel.trans (hb1.mono bel.size)
      replace f0 := f0.below hb1
      replace bk := bk.below hb1
      replace fr := fr.below hb1
      replace kf00 := f0.c0
      replace kf01 := f0.c1
      replace kbk0 := bk.c0
      replace kr0 := fr.c0
      replace kr1 := fr.c1
      replace krf := fr.free
      go_wp2_with fail
      refine (c_isSetOf _ _ _ (by omega) (by omega)).mono ?_
      rw [hs]
      rintro e w' ⟨rfl, rfl⟩
      go_wp2_with fail
      refine bodyPost_ret (v := .tuple #[.agg #[.int .i64 0, .slice none 0 0], .bool false]) (by simp [results, Try.results19, go_sem, kr0, kr1]) rfl ?_
      exact ⟨none, 0, rfl, OwnI.nil _ _ _ _, by simp, by first | exact (bel.setCell (by show w.heap.size ≤ w.heap.size + 1 + 1; omega) _).setCell (by show w.heap.size ≤ w.heap.size + 1 + 1; omega) _ | exact bel⟩
    | true =>
      obtain ⟨s0, s1⟩ := isSet_true.1 hs
      obtain ⟨k, rfl⟩ := Int.eq_ofNat_of_zero_le s0
      have hkx : k < xs.length := isSet_lt (isFun_true hf).2.1 s1
      have hle := isFun_le hf
      have hl := h.len
      have hlx := (isFun_true hf).2.1
      obtain ⟨r, hr⟩ : ∃ r, r = restN e0 (k : Int) := ⟨_, rfl⟩
      rw [← hr, Int.toNat_natCast]
      have hrk : r = 2 ^ e0.toNat - 1 - k := by rw [hr]; rfl
      have hrx : r < xs.length := by omega
      clear s1
      obtain ⟨hN, hL, hB⟩ := g_mid (b := in5 e0 xs (k : Int)) (n := (sizeN r : Int)) (xs := tabOf ((sizeN r : Int)) (conV xs k r)) (by simp [in5, hf, hs])
      rw [hN, hL, hB]
      clear hN hL hB
      obtain ⟨tab, htab⟩ : ∃ t, t = tabOf ((sizeN r : Int)) (conV xs k r) := ⟨_, rfl⟩
      rw [← htab]
      have HTAB := Lib.hid htab
      clear htab
      have hel := elems_len (s := r) (by omega)
      have hz5 := sizeN_le r
      have hp32 := pow5 (n := (sizeN r : Int)) (by omega) (by omega)
      rw [Int.toNat_natCast] at hp32
      have hnd := andNot_full (s := k) (m := r) hq.1 hq.2 (by omega) hrk
      have HA := Lib.hid (fun w' => c_allOf e0 a n c w' hq.1 hq.2)
      have HE := Lib.hid (fun w' => c_elementsOf (r : Int) w' (by omega) (by omega))
      clear hr
      go_enter Try.func19, Try.ntmps19
      go_wp2_with fail
      refine (c_impl_IsFunction _ _ _ _ _ _ (h.below bel) hn).mono ?_
      rw [hf]
      rintro e w1 ⟨rfl, hb1⟩
      replace bel := bel.trans (hb1.mono bel.size)
      replace f0 := f0.below hb1
      replace bk := bk.below hb1
      replace fr := fr.below hb1
      replace kf00 := f0.c0
      replace kf01 := f0.c1
      replace kbk0 := bk.c0
      replace kr0 := fr.c0
      replace kr1 := fr.c1
      replace krf := fr.free
      go_wp2_with fail
      refine (c_isSetOf _ _ _ (by omega) (by omega)).mono ?_
      rw [hs]
      rintro e w' ⟨rfl, rfl⟩
      have hkn : k < n := by omega
      have hrn : r < n := by omega
      have hn32 : n ≤ 32 := by omega
      have HEL := Lib.hid hel
      clear hrk hlx hl hle hrx hkx hel s0
      replace f0 := f0.drew
      replace bk := bk.drew
      replace fr := fr.drew
      replace bel := bel.drew
      have nzdf0 := Nat.ne_of_lt f0.lt
      have nzdbk := Nat.ne_of_lt bk.lt
      have nzdfr := Nat.ne_of_lt fr.lt
      go_wp2_with fail
      go_region_held3 (fun w' => w'.cell? ⟨w.heap.size, 0, none⟩ = some (.int .i64 e0) ∧ w'.cell? ⟨w.heap.size, 1, none⟩ = some (.slice a n c) ∧ w'.cell? ⟨w.heap.size + 1, 0, none⟩ = some (.int .i64 k)) (go_keep)
        (first
          | (go_at_call 67; (first | (refine (HA.out _).mono ?_; rintro e w2 ⟨rfl, hb2⟩; replace bel := bel.trans (hb2.mono bel.size); replace f0 := f0.below hb2; replace bk := bk.below hb2; replace fr := fr.below hb2; replace kf00 := f0.c0; replace kf01 := f0.c1; replace kbk0 := bk.c0) | (have bl := VBox.new w1.drew 24 (.slice none 0 0); have hzb := bel.size; have hzf0 := Nat.ne_of_lt f0.lt; have hyf0 := (Nat.ne_of_lt f0.lt).symm; have hzbk := Nat.ne_of_lt bk.lt; have hybk := (Nat.ne_of_lt bk.lt).symm; have hzfr := Nat.ne_of_lt fr.lt; have hyfr := (Nat.ne_of_lt fr.lt).symm; (try simp only [World.size_drew] at bl); (try simp only [World.size_drew] at hzb); (try simp only [World.size_drew] at hzf0); (try simp only [World.size_drew] at hyf0); (try simp only [World.size_drew] at hzbk); (try simp only [World.size_drew] at hybk); (try simp only [World.size_drew] at hzfr); (try simp only [World.size_drew] at hyfr); replace f0 := f0.alloc (.cells #[.slice none 0 0] 24); replace bk := bk.alloc (.cells #[.slice none 0 0] 24); replace fr := fr.alloc (.cells #[.slice none 0 0] 24); replace bel := bel.alloc bel.size (.cells #[.slice none 0 0] 24); refine (HA.out _).mono ?_; rintro e w2 ⟨rfl, hb2⟩; replace bel := bel.trans (hb2.mono bel.size); replace f0 := f0.below hb2; replace bk := bk.below hb2; replace fr := fr.below hb2; replace kf00 := f0.c0; replace kf01 := f0.c1; replace kbk0 := bk.c0)); (try replace bl := bl.below hb2); clear hb2; have nza := Nat.ne_of_lt f0.lt; have nzb := Nat.ne_of_lt bk.lt)
          | (go_at_call 61; (first | ((try have hzl := bl.lt); refine (HE.out _).mono ?_; rintro e w3 ⟨al, cl, rfl, hol, hb3⟩; rw [HEL.out] at hol ⊢; replace bel := bel.trans (hb3.mono bel.size); replace f0 := f0.below hb3; replace bk := bk.below hb3; replace fr := fr.below hb3; replace kf00 := f0.c0; replace kf01 := f0.c1; replace kbk0 := bk.c0) | (have bl := VBox.new w2 24 (.slice none 0 0); have hzb := bel.size; have hzf0 := Nat.ne_of_lt f0.lt; have hyf0 := (Nat.ne_of_lt f0.lt).symm; have hzbk := Nat.ne_of_lt bk.lt; have hybk := (Nat.ne_of_lt bk.lt).symm; have hzfr := Nat.ne_of_lt fr.lt; have hyfr := (Nat.ne_of_lt fr.lt).symm; replace f0 := f0.alloc (.cells #[.slice none 0 0] 24); replace bk := bk.alloc (.cells #[.slice none 0 0] 24); replace fr := fr.alloc (.cells #[.slice none 0 0] 24); replace bel := bel.alloc bel.size (.cells #[.slice none 0 0] 24); (try have hzl := bl.lt); refine (HE.out _).mono ?_; rintro e w3 ⟨al, cl, rfl, hol, hb3⟩; rw [HEL.out] at hol ⊢; replace bel := bel.trans (hb3.mono bel.size); replace f0 := f0.below hb3; replace bk := bk.below hb3; replace fr := fr.below hb3; replace kf00 := f0.c0; replace kf01 := f0.c1; replace kbk0 := bk.c0)); (try replace bl := bl.below hb3); clear hb3; (try (have kbl0 := bl.c0; have kblf := bl.free)); have nzc := Nat.ne_of_lt f0.lt; have nzd := Nat.ne_of_lt bk.lt))
      all_goals
        first
          | (replace bl := bl.set0 al (sizeN r) cl ⟨_, _, _, rfl⟩; replace f0 := FBox.setFar f0 ⟨_, 0, none⟩ (.slice al (sizeN r) cl) hzf0; replace fr := FBox.setFar fr ⟨_, 0, none⟩ (.slice al (sizeN r) cl) hzfr; replace bk := bk.far hzbk 0 (.slice al (sizeN r) cl); replace hol := hol.setFar ⟨_, 0, none⟩ (.slice al (sizeN r) cl) (.inr (row_apart hol.range (.inl hzl))); replace bel := bel.setCell (p := ⟨_, 0, none⟩) hzb (.slice al (sizeN r) cl))
          | (have bl := VBox.new w3 24 (.slice al (sizeN r) cl); replace f0 := f0.alloc (.cells #[.slice al (sizeN r) cl] 24); replace fr := fr.alloc (.cells #[.slice al (sizeN r) cl] 24); replace bk := bk.alloc (.cells #[.slice al (sizeN r) cl] 24); replace hol := hol.alloc (.cells #[.slice al (sizeN r) cl] 24); replace bel := bel.alloc bel.size (.cells #[.slice al (sizeN r) cl] 24))
        replace kf00 := f0.c0
        replace kf01 := f0.c1
        replace kbk0 := bk.c0
        replace kr0 := fr.c0
        replace kr1 := fr.c1
        replace krf := fr.free
        have kbl := bl.c0
        have hls := hol.row
        have hlt1 := fr.lt
        go_wp2_with fail
        refine (c_makeFunction _ _ _ (conV xs k r) _ (by omega) (by omega) (enters_of Try.func68 (by kernel_rfl) rfl) (fun s w' hs hb => by rw [app3]; exact c_con1 e0 a n c xs al (sizeN r) cl k r w.heap.size _ (w.heap.size + 1) s w' (f0.below hb) (bl.below hb) (bk.below hb) ((h.below bel).below hb) (hls.below hb) hf (by omega) (by omega) (by rw [Int.toNat_natCast] at hs; omega))).mono ?_
        rw [← HTAB.out]
        rintro e w2 ⟨a2, c2, rfl, ho, hlen, hb2⟩
        obtain ⟨wB, hwB⟩ : ∃ z, z = fr.lt := ⟨_, rfl⟩
        clear hwB
        have hfr := fr.lt
        replace bel := bel.trans (hb2.mono bel.size)
        replace fr := fr.below hb2
        replace kr0 := fr.c0
        replace kr1 := fr.c1
        replace krf := fr.free
        go_wp2_with fail
        refine bodyPost_ret (v := .tuple #[.agg #[.int .i64 (madeN ((sizeN r : Int)) tab), .slice a2 (madeL ((sizeN r : Int)) tab).length c2], .bool (isFun ((sizeN r : Int)) tab)]) (by simp [results, Try.results19, go_sem, kr0, kr1]) rfl ?_
        refine ⟨a2, c2, rfl, ?_, hlen, (bel.setCell (by show w.heap.size ≤ w.heap.size + 1 + 1; omega) _).setCell (by show w.heap.size ≤ w.heap.size + 1 + 1; omega) _⟩
        exact ((ho.base (by first | omega | (simp only [World.size_setCell, World.size_alloc] at *; omega))).setFar ⟨w.heap.size + 1 + 1, 0, none⟩ _ (.inr (row_apart ho.range (.inl (by show w.heap.size + 1 + 1 < _; first | omega | (simp only [World.size_setCell, World.size_alloc] at *; omega)))))).setFar ⟨w.heap.size + 1 + 1, 1, none⟩ _ (.inr (row_apart ho.range (.inl (by show w.heap.size + 1 + 1 < _; first | omega | (simp only [World.size_setCell, World.size_alloc] at *; omega)))))
set_option maxRecDepth 10000 in
set_option maxHeartbeats 2000000 in
theorem c_spec_ContractFunction (e0 : Int) (a : Option Addr) (n c : Nat) (xs : List Int) (s : Int) (w : World) (h : Row .i64 w a n xs) (hn : n ≤ 1048576) :
    Calls Try.prog 20 #[.agg #[.int .i64 e0, .slice a n c], .int .i64 s] w (RetFun 3 (gN (in5 e0 xs s) ((sizeN (restN e0 s) : Int)) (tabOf ((sizeN (restN e0 s) : Int)) (conV xs s.toNat (restN e0 s)))) (gL (in5 e0 xs s) ((sizeN (restN e0 s) : Int)) (tabOf ((sizeN (restN e0 s) : Int)) (conV xs s.toNat (restN e0 s)))) (gB (in5 e0 xs s) ((sizeN (restN e0 s) : Int)) (tabOf ((sizeN (restN e0 s) : Int)) (conV xs s.toNat (restN e0 s)))) w) := by
  have bel := Below.refl w.heap.size w
  have f0 := FBox.new w 26 e0 a n c
  replace bel := bel.alloc bel.size (.cells #[.int .i64 e0, .slice a n c] 26)
  have fr := FBox.new (w.alloc (.cells #[.int .i64 e0, .slice a n c] 26)) 26 0 none 0 0
  rw [World.size_alloc] at fr
  replace f0 := f0.alloc (.cells #[.int .i64 0, .slice none 0 0] 26)
  replace bel := bel.alloc bel.size (.cells #[.int .i64 0, .slice none 0 0] 26)
  have kf00 := f0.c0
  have kf01 := f0.c1
  have kr0 := fr.c0
  have kr1 := fr.c1
  have krf := fr.free
  cases hi : in5 e0 xs s with
  | false =>
    rw [← hi]
    obtain ⟨hN, hL, hB⟩ := g_no (b := in5 e0 xs s) (n := (sizeN (restN e0 s) : Int)) (xs := tabOf ((sizeN (restN e0 s) : Int)) (conV xs s.toNat (restN e0 s))) (by simp [hi, hi])
    rw [hN, hL, hB]
    clear hN hL hB
    go_enter Try.func20, Try.ntmps20
    go_wp2_with fail
    refine (c_l5In _ _ _ _ _ _ _ (h.below bel) hn).mono ?_
    rw [hi]
    rintro e w1 ⟨rfl, hb1⟩
    replace bel := bel.trans (hb1.mono bel.size)
    replace f0 := f0.below hb1
    replace fr := fr.below hb1
    replace kf00 := f0.c0
    replace kf01 := f0.c1
    replace kr0 := fr.c0
    replace kr1 := fr.c1
    replace krf := fr.free
    go_wp2_with fail
    refine bodyPost_ret (v := .tuple #[.agg #[.int .i64 0, .slice none 0 0], .bool false]) (by simp [results, Try.results20, go_sem, kr0, kr1]) rfl ?_
    exact ⟨none, 0, rfl, OwnI.nil _ _ _ _, by simp, by first | exact (bel.setCell (by show w.heap.size ≤ w.heap.size + 1; omega) _).setCell (by show w.heap.size ≤ w.heap.size + 1; omega) _ | exact bel⟩
  | true =>
    have hi' := hi
    simp only [in5, Bool.and_eq_true] at hi'
    obtain ⟨hf, hs⟩ := hi'
    have hq := (isFun_true hf).1
    rw [← hi]
    obtain ⟨s0, s1⟩ := isSet_true.1 hs
    obtain ⟨k, rfl⟩ := Int.eq_ofNat_of_zero_le s0
    have hkx : k < xs.length := isSet_lt (isFun_true hf).2.1 s1
    have hle := isFun_le hf
    have hl := h.len
    have hlx := (isFun_true hf).2.1
    obtain ⟨r, hr⟩ : ∃ r, r = restN e0 (k : Int) := ⟨_, rfl⟩
    rw [← hr, Int.toNat_natCast]
    have hrk : r = 2 ^ e0.toNat - 1 - k := by rw [hr]; rfl
    have hrx : r < xs.length := by omega
    clear s1
    obtain ⟨m, hm⟩ : ∃ m, m = sizeN r := ⟨_, rfl⟩
    rw [← hm]
    have h5 : m ≤ 5 := by rw [hm]; exact sizeN_le r
    obtain ⟨p, hp⟩ : ∃ p, p = 2 ^ m := ⟨_, rfl⟩
    have hp32 := pow5 (n := (m : Int)) (by omega) (by omega)
    rw [Int.toNat_natCast, ← hp] at hp32
    have htab : tabOf (m : Int) (conV xs k r) = tabTo (conV xs k r) p := by simp [tabOf, hp]
    rw [htab]
    have hri : (2 : Int) ^ e0.toNat - 1 - (k : Int) = (r : Int) := by
      have h1 : ((2 ^ e0.toNat : Nat) : Int) = (2 : Int) ^ e0.toNat := by push_cast; rfl
      omega
    have hwr : IntKind.i64.wrap (r : Int) = r := IntWalk.i64_in _ (by omega)
    have HTL := Lib.hid (tabTo_length (conV xs k r))
    have HP := Lib.hid hp
    have HM := Lib.hid hm
    have HT := Lib.hid hi
    have HXB := Lib.hid (isFun_true hf).2.2
    have HZ := Lib.hid (fun w' => c_l2Size r w' (by omega))
    clear htab hp hm hr hrk hlx
    go_enter Try.func20, Try.ntmps20
    go_wp2_with fail
    refine (c_l5In _ _ _ _ _ _ _ (h.below bel) hn).mono ?_
    rw [hi]
    rintro e w1 ⟨rfl, hb1⟩
    replace bel := bel.trans (hb1.mono bel.size)
    replace f0 := f0.below hb1
    replace fr := fr.below hb1
    replace kf00 := f0.c0
    replace kf01 := f0.c1
    replace kr0 := fr.c0
    replace kr1 := fr.c1
    replace krf := fr.free
    have hn1 := Nat.ne_of_lt f0.lt
    have hn2 := (Nat.ne_of_lt f0.lt).symm
    go_wp2_with fail
    refine (c_l2Full _ _ (by omega) (by omega)).mono ?_
    rintro e w' ⟨rfl, rfl⟩
    go_wp2_with fail
    go_loopw [7, 8] (fun v i wr => ∃ s : Nat, i = .int .i64 s ∧ s ≤ p ∧ OwnI wr (w.heap.size + 1 + 1) 3 .i64 v (tabTo (conV xs k r) s) ∧ Below w.heap.size w wr ∧ FBox wr (w.heap.size + 1) 26 0 none 0 0 ∧ FBox wr w.heap.size 26 e0 a n c) (fun _ i _ => p - (intOf i).toNat)
    case atStart => exact ⟨0, rfl, Nat.zero_le _, by (first | exact World.ownsRow_made w1 #[] 0 fr.lt (by decide) rfl | (have h := World.ownsRow_made (base := w.heap.size + 1 + 1) (e := 3) (size := 1) w1 #[] 0 (by have := fr.lt; first | omega | (simp only [World.size_alloc] at *; omega)) (by decide) rfl; (try simp only [World.size_alloc] at h); exact h)), bel.alloc bel.size _, fr.alloc _, f0.alloc _⟩
    case round =>
      clear hn1 hn2 bel fr kr0 kr1 krf f0 kf00 kf01 hb1
      obtain ⟨s, rfl, hs, hown, hb, fr, f0⟩ := hrel
      have kf00 := f0.c0
      have kf01 := f0.c1
      have hB : w.heap.size + 1 + 1 ≤ wr.heap.size := fr.lt
      go_wp2_with fail
      refine (HZ.out _).mono ?_
      rw [← HM.out]
      rintro e w' ⟨rfl, rfl⟩
      by_cases hlt2 : s < p
      · have hsle := spr_le (s := r) (x := s) (by omega) (by omega)
        have HS2 := Lib.hid (fun w' => c_l5Spread r s w' (by omega) (by omega))
        obtain ⟨t, ht⟩ : ∃ t, t = sprR r s := ⟨_, rfl⟩
        rw [← ht] at hsle
        have hor := i64_or_nat k t (by omega) (by omega)
        have hml := or_lt_len (t := t) (k := k) hf (by omega) (by omega)
        rw [Nat.or_comm] at hor
        obtain ⟨mm, hmm⟩ : ∃ mm, mm = t ||| k := ⟨_, rfl⟩
        rw [← hmm] at hor hml
        obtain ⟨b3, off, rfl, hblt, hc⟩ := (h.below hb).at_ (by omega)
        have hbw : b3 < w.heap.size := by
          obtain ⟨b', off', hE, hlt', _⟩ := h.at_ (by omega)
          cases hE
          exact hlt'
        have g1 := hc mm (by omega)
        have g2 := hc k (by omega)
        have hx1 := HXB.out mm (by omega)
        have hx2 := HXB.out k (by omega)
        obtain ⟨y, hy⟩ : ∃ y, y = xs.getD mm 0 := ⟨_, rfl⟩
        obtain ⟨z, hz⟩ : ∃ z, z = xs.getD k 0 := ⟨_, rfl⟩
        rw [← hy] at g1 hx1
        rw [← hz] at g2 hx2
        have HST := Lib.hid (show conV xs k r s = y - z by rw [hy, hz, hmm, ht]; rfl)
        have HTT := Lib.hid ht
        have hwyz : IntKind.i64.wrap (y - z) = y - z := IntWalk.i64_in _ (by omega)
        have hi0 : (0 : Int) ≤ mm := by omega
        have hi1 : (mm : Int) < (n : Int) := by omega
        have hi2 : (0 : Int) ≤ k := by omega
        have hi3 : (k : Int) < (n : Int) := by omega
        have HSC := Lib.hid (tabTo_succ (conV xs k r) s)
        have hlen := HTL.out s
        have gg1 := (hb.cell (p := ⟨b3, off + mm, none⟩) hbw).symm.trans g1
        have gg2 := (hb.cell (p := ⟨b3, off + k, none⟩) hbw).symm.trans g2
        clear hy hz ht hc hmm
        obtain ⟨hz, hs1, hs2⟩ := shl_facts m p HP.out (by omega)
        replace hb := hb.drew
        replace hown := hown.drew
        replace fr := fr.drew
        replace f0 := f0.drew
        go_wp2_with fail
        clear hz hs1 hs2
        go_region_held3 (fun w' => w'.cell? ⟨w.heap.size, 1, none⟩ = some (.slice (some ⟨b3, off, none⟩) n c) ∧ w'.cell? ⟨b3, off + mm, none⟩ = some (.int .i64 y) ∧ w'.cell? ⟨b3, off + k, none⟩ = some (.int .i64 z)) (go_keep)
          (first
            | (go_at_call 66; refine (HS2.out _).mono ?_; rw [← HTT.out]; rintro e wz ⟨rfl, hbz⟩; replace hb := hb.trans (hbz.mono hb.size); replace hown := hown.below hbz; replace fr := fr.below hbz; replace f0 := f0.below hbz; have kf01 := f0.c1; have g1 := (hb.cell (p := ⟨b3, off + mm, none⟩) hbw).trans gg1; have g2 := (hb.cell (p := ⟨b3, off + k, none⟩) hbw).trans gg2; have hB : w.heap.size + 1 + 1 ≤ wz.heap.size := fr.lt; clear hbz)
            | (refine step_app EI (base := w.heap.size + 1 + 1) (v := u7) (xs := tabTo (conV xs k r) s) (us := [y - z]) (g := wz.heap.size) (n := 1) (c := 1) rfl (.tmp 29) (.tmp 45) rfl ?_ ?_ rfl rfl rfl ?_ ?_ ?_; (exact hown.alloc _); (exact heap_alloc_new wz _); (show _ + 1 ≤ _; omega); (exact le_alloc hB _); intro v' w2 hown1 hgrow; have hb1 : Below w.heap.size w w2 := below_grown (hb.alloc hb.size _) (hown.alloc _) hgrow (by omega) (by simp; omega); have fr' := (fr.alloc _).grown hgrow (row_apart hown.range (.inl (by omega))); have f0' := (f0.alloc _).grown hgrow (row_apart hown.range (.inl (by omega))); have kf01 := f0'.c1; have g1 := (hb1.cell (p := ⟨b3, off + mm, none⟩) hbw).trans gg1; have g2 := (hb1.cell (p := ⟨b3, off + k, none⟩) hbw).trans gg2))
        all_goals
          go_wp2
          go_roundw
          case rel => exact ⟨s + 1, by go_num, by omega, by rw [HSC.out, HST.out]; exact hown1, hb1, fr', f0'⟩
          case measure => simp [intOf]; omega
      · obtain rfl : s = p := by omega
        obtain ⟨hz, hs1, hs2⟩ := shl_facts m s HP.out (by omega)
        obtain ⟨a2, c2, hv, _⟩ := hown.form
        rw [HTL.out] at hv
        subst hv
        cases hI : isFun ((m : Int)) (tabTo (conV xs k r) s) with
        | false =>
          go_wp2_with fail
          clear hz hs1 hs2
          refine (HZ.out _).mono ?_
          rw [← HM.out]
          rintro e w' ⟨rfl, rfl⟩
          go_wp2_with fail
          refine (c_l2Made_no _ _ _ _ _ _ hown.row (by omega) hI).mono ?_
          rintro e w2 ⟨rfl, hb2⟩
          replace fr := fr.below hb2
          have kr0 := fr.c0
          have kr1 := fr.c1
          have krf := fr.free
          replace hown := hown.below hb2
          replace hb := hb.trans (hb2.mono hb.size)
          have hlt2 := fr.lt
          go_wp2_with fail
          refine bodyPost_ret (v := .tuple #[.agg #[.int .i64 0, .slice none 0 0], .bool false]) (by simp [results, Try.results20, go_sem, kr0, kr1, hlt2]) rfl ?_
          obtain ⟨hN, hL, hB'⟩ := g_bad (b := in5 e0 xs (k : Int)) hI
          rw [hN, hL, hB']
          exact ⟨none, 0, rfl, OwnI.nil _ _ _ _, by simp, below_set2a hb (by omega) _ _ _⟩
        | true =>
          go_wp2_with fail
          clear hz hs1 hs2
          refine (HZ.out _).mono ?_
          rw [← HM.out]
          rintro e w' ⟨rfl, rfl⟩
          go_wp2_with fail
          refine (c_l2Made_yes _ _ _ _ _ _ hown.row (by omega) hI).mono ?_
          rintro e w2 ⟨rfl, hb2⟩
          replace fr := fr.below hb2
          have kr0 := fr.c0
          have kr1 := fr.c1
          have krf := fr.free
          replace hown := hown.below hb2
          replace hb := hb.trans (hb2.mono hb.size)
          have hlt2 := fr.lt
          go_wp2_with fail
          refine bodyPost_ret (v := .tuple #[.agg #[.int .i64 ((m : Int)), .slice a2 s c2], .bool true]) (by simp [results, Try.results20, go_sem, kr0, kr1, hlt2]) rfl ?_
          obtain ⟨hN, hL, hB'⟩ := g_yes (n := (m : Int)) HT.out hI
          rw [hN, hL, hB']
          refine ⟨a2, c2, by rw [HTL.out], ?_, by rw [HTL.out]; omega, below_set2a hb (by omega) _ _ _⟩
          rw [HTL.out]
          exact (((own_set2 hown (by omega) _ _).alloc _).base (by omega))
end Go.Proofs.Ytfcgijnfiiaepaa
