/- Contracts of IncreasingHull, both packages. -/
import Derived.Test.YtfcgijnfiiaepaaMade
namespace Go.Proofs.Ytfcgijnfiiaepaa
set_option linter.unusedSimpArgs false
set_option linter.unusedVariables false
open Go.RowKit

/-- s is a part of t. -/
def upS (s t : Nat) : Bool := s &&& t == s
/-- The least value of the sets that hold s, among the first k. -/
def hullTo (xs : List Int) (s : Nat) : Nat → Int
  | 0 => xs.getD s 0
  | k + 1 => if upS s k then min (hullTo xs s k) (xs.getD k 0) else hullTo xs s k
def hullV (xs : List Int) (s : Nat) : Int := hullTo xs s xs.length
theorem upS_le {s t : Nat} (h : upS s t = true) : s ≤ t := by
  have h1 : s &&& t = s := by simpa [upS] using h
  rw [← h1]
  exact Nat.and_le_right
theorem hullTo_yes {xs : List Int} {s k : Nat} (h : upS s k = true) : hullTo xs s (k + 1) = min (hullTo xs s k) (xs.getD k 0) := by rw [hullTo, if_pos h]
theorem hullTo_no {xs : List Int} {s k : Nat} (h : upS s k = false) : hullTo xs s (k + 1) = hullTo xs s k := by rw [hullTo, if_neg (by simp [h])]
theorem hullTo_start (xs : List Int) (s : Nat) : ∀ k, k ≤ s → hullTo xs s k = xs.getD s 0
  | 0, _ => rfl
  | k + 1, h => by
    have : upS s k = false := by
      cases hu : upS s k with
      | false => rfl
      | true => have := upS_le hu; omega
    rw [hullTo_no this, hullTo_start xs s k (by omega)]
theorem hullTo_bd {xs : List Int} {s : Nat} (hs : s < xs.length) (hx : ∀ j, j < xs.length → -1000 ≤ xs.getD j 0 ∧ xs.getD j 0 ≤ 1000) : ∀ k, k ≤ xs.length → -1000 ≤ hullTo xs s k ∧ hullTo xs s k ≤ 1000
  | 0, _ => hx s hs
  | k + 1, h => by
    have h1 := hullTo_bd hs hx k (by omega)
    have h2 := hx k (by omega)
    rw [hullTo]
    split <;> omega
theorem up_fin : ∀ (s t : Fin 32), (bits .andNot .i64 (s.val : Int) (t.val : Int) == 0) = upS s.val t.val ∧ (bits .and .i64 (t.val : Int) (s.val : Int) == (s.val : Int)) = upS s.val t.val := by decide +kernel
theorem up_facts {s t : Nat} (hs : s < 32) (ht : t < 32) : (bits .andNot .i64 (s : Int) (t : Int) == 0) = upS s t ∧ (bits .and .i64 (t : Int) (s : Int) == (s : Int)) = upS s t := up_fin ⟨s, hs⟩ ⟨t, ht⟩
theorem int_eq {a b : Int} (h : a = b) : Value.int .i64 a = Value.int .i64 b := by rw [h]
theorem hull_isFun {n : Int} {xs : List Int} (h : isFun n xs = true) : isFun n (tabOf n (hullV xs)) = true := by
  obtain ⟨⟨h0, h1⟩, hl, hx⟩ := isFun_true h
  exact isFun_tab h0 h1 fun s hs => hullTo_bd (by omega) hx _ (Nat.le_refl _)
/-- The test of IncreasingHull. -/
def hulT (n : Int) (xs : List Int) : Bool := isFun n xs
set_option maxHeartbeats 400000 in
theorem c_hull1 (e0 : Int) (a : Option Addr) (n c : Nat) (xs : List Int) (g2 s : Nat) (w : World) (f : FBox w g2 26 e0 a n c) (h : Row .i64 w a n xs) (hs : s < n) (hf : isFun e0 xs = true) :
    Calls Try.prog 93 #[.int .i64 s, .pointer (some ⟨g2, 0, none⟩)] w fun e w' => e = .returned (.int .i64 (hullV xs s)) ∧ Below w.heap.size w w' := by
  have k20 := f.c0
  have k21 := f.c1
  have hl := h.len
  have hle := isFun_le hf
  obtain ⟨b, off, rfl, hlt, hc⟩ := h.at_ (by omega)
  have g0 : w.cell? ⟨b, off + s, none⟩ = some (.int .i64 (xs.getD s 0)) := hc s hs
  have HC := Lib.hid hc
  have HV := Lib.hid (show hullV xs s = hullTo xs s n by rw [hullV, hl])
  have HX := Lib.hid (show hullTo xs s 0 = xs.getD s 0 from rfl)
  obtain ⟨x0, hx0⟩ : ∃ x, x = xs.getD s 0 := ⟨_, rfl⟩
  rw [← hx0] at g0
  have HX0 := Lib.hid hx0
  have hi0 : (0 : Int) ≤ s := by omega
  have hi1 : (s : Int) < (n : Int) := by omega
  clear hc hx0 hf
  go_enter Try.func93, Try.ntmps93
  go_wp2_with fail
  go_loopw [4, 15] (fun v i wr => ∃ t : Nat, i = .int .i64 t ∧ t ≤ n ∧ v = .int .i64 (hullTo xs s t) ∧ wr = w) (fun _ i _ => n - (intOf i).toNat)
  case atStart => exact ⟨0, rfl, Nat.zero_le _, by rw [HX.out, HX0.out], rfl⟩
  case round =>
    clear g0
    obtain ⟨t, rfl, ht, rfl, rfl⟩ := hrel
    by_cases hlt : t < n
    · obtain ⟨uf1, _⟩ := up_facts (s := s) (t := t) (by omega) (by omega)
      have g1 := HC.out t hlt
      have hj0 : (0 : Int) ≤ t := by omega
      have hj1 : (t : Int) < (n : Int) := by omega
      cases hu : upS s t with
      | true =>
        have hy := hullTo_yes (xs := xs) hu
        obtain ⟨x, hx⟩ : ∃ x, x = xs.getD t 0 := ⟨_, rfl⟩
        obtain ⟨m, hm⟩ : ∃ m, m = hullTo xs s t := ⟨_, rfl⟩
        rw [← hx] at g1 hy
        rw [← hm] at hy ⊢
        rw [hu] at uf1
        have HY := Lib.hid hy
        clear hy hx hm hu
        go_wp2
        all_goals
          go_roundw
          case rel => exact ⟨t + 1, by go_num, by omega, by rw [HY.out]; exact int_eq (by omega), by first | rfl | trivial⟩
          case measure => simp [intOf]; omega
      | false =>
        have hy := hullTo_no (xs := xs) hu
        rw [hu] at uf1
        have HY := Lib.hid hy
        clear hy hu
        go_wp2
        go_roundw
        case rel => exact ⟨t + 1, by go_num, by omega, by rw [HY.out], by first | rfl | trivial⟩
        case measure => simp [intOf]; omega
    · obtain rfl : t = n := by omega
      rw [← HV.out]
      go_wp2
      go_ret
      exact ⟨rfl, Below.refl _ _⟩
set_option maxHeartbeats 1000000 in
theorem c_impl_IncreasingHull (e0 : Int) (a : Option Addr) (n c : Nat) (xs : List Int) (w : World) (h : Row .i64 w a n xs) (hn : n ≤ 1048576) :
    Calls Try.prog 41 #[.agg #[.int .i64 e0, .slice a n c]] w (RetFun 3 (gN (hulT e0 xs) e0 (tabOf e0 (hullV xs))) (gL (hulT e0 xs) e0 (tabOf e0 (hullV xs))) (gB (hulT e0 xs) e0 (tabOf e0 (hullV xs))) w) := by
  have hmf : ∀ (fn : Fn) (first cap : Array Value) (w : World), (Instr.makeFunc fn first cap).run Try.prog w = .ok (.func fn first cap) w := fun _ _ _ _ => rfl
  have bel := Below.refl w.heap.size w
  have f0 := FBox.new w 26 e0 a n c
  replace bel := bel.alloc bel.size (.cells #[.int .i64 e0, .slice a n c] 26)
  have fr := FBox.new (w.alloc (.cells #[.int .i64 e0, .slice a n c] 26)) 26 0 none 0 0
  rw [World.size_alloc] at fr
  replace f0 := f0.alloc (.cells #[.int .i64 0, .slice none 0 0] 26)
  replace bel := bel.alloc bel.size (.cells #[.int .i64 0, .slice none 0 0] 26)
  cases hf : isFun e0 xs with
  | false =>
    obtain ⟨hN, hL, hB⟩ := g_no (b := hulT e0 xs) (n := e0) (xs := tabOf e0 (hullV xs)) (by simp [hulT, hf])
    rw [hN, hL, hB]
    clear hN hL hB
    go_enter Try.func41, Try.ntmps41
    go_wp2_with fail
    refine (c_impl_IsFunction _ _ _ _ _ _ ((h.alloc _).alloc _) hn).mono ?_
    rw [hf]
    rintro e w1 ⟨rfl, hb1⟩
    replace bel := bel.trans (hb1.mono bel.size)
    replace fr := fr.below hb1
    have kr0 := fr.c0
    have kr1 := fr.c1
    have krf := fr.free
    go_wp2_with fail
    refine bodyPost_ret (v := .tuple #[.agg #[.int .i64 0, .slice none 0 0], .bool false]) (by simp [results, Try.results41, go_sem, kr0, kr1]) rfl ?_
    exact ⟨none, 0, rfl, OwnI.nil _ _ _ _, by simp, (bel.setCell (by show w.heap.size ≤ w.heap.size + 1; omega) _).setCell (by show w.heap.size ≤ w.heap.size + 1; omega) _⟩
  | true =>
    obtain ⟨hN, hL, hB⟩ := g_mid (b := hulT e0 xs) (n := e0) (xs := tabOf e0 (hullV xs)) (by simp [hulT, hf])
    rw [hN, hL, hB]
    clear hN hL hB
    obtain ⟨⟨q0, q1⟩, hlx, hxb⟩ := isFun_true hf
    have hl := h.len
    have hle := isFun_le hf
    obtain ⟨tab, htab⟩ : ∃ t, t = tabOf e0 (hullV xs) := ⟨_, rfl⟩
    rw [← htab]
    have HT := Lib.hid htab
    clear htab
    go_enter Try.func41, Try.ntmps41
    go_wp2_with fail
    refine (c_impl_IsFunction _ _ _ _ _ _ ((h.alloc _).alloc _) hn).mono ?_
    rw [hf]
    rintro e w1 ⟨rfl, hb1⟩
    replace bel := bel.trans (hb1.mono bel.size)
    replace fr := fr.below hb1
    replace f0 := f0.below hb1
    have kr0 := fr.c0
    have kr1 := fr.c1
    have krf := fr.free
    have k00 := f0.c0
    have k01 := f0.c1
    have hlt1 := fr.lt
    go_wp2_with fail
    refine (c_makeFunction _ _ _ (hullV xs) _ q0 q1 (enters_of Try.func93 (by kernel_rfl) rfl) (fun s w' hs hb => by rw [app1]; exact c_hull1 e0 a n c xs w.heap.size s w' (f0.below hb) ((h.below bel).below hb) (by omega) hf)).mono ?_
    rw [← HT.out]
    rintro e w2 ⟨a2, c2, rfl, ho, hlen, hb2⟩
    replace bel := bel.trans (hb2.mono bel.size)
    replace fr := fr.below hb2
    replace kr0 := fr.c0
    replace kr1 := fr.c1
    replace krf := fr.free
    go_wp2_with fail
    refine bodyPost_ret (v := .tuple #[.agg #[.int .i64 (madeN e0 tab), .slice a2 (madeL e0 tab).length c2], .bool (isFun e0 tab)]) (by simp [results, Try.results41, go_sem, kr0, kr1]) rfl ?_
    refine ⟨a2, c2, rfl, ?_, hlen, (bel.setCell (by show w.heap.size ≤ w.heap.size + 1; omega) _).setCell (by show w.heap.size ≤ w.heap.size + 1; omega) _⟩
    exact ((ho.base (by omega)).setFar ⟨w.heap.size + 1, 0, none⟩ _ (.inr (row_apart ho.range (.inl (by show w.heap.size + 1 < w1.heap.size; omega))))).setFar ⟨w.heap.size + 1, 1, none⟩ _ (.inr (row_apart ho.range (.inl (by show w.heap.size + 1 < w1.heap.size; omega))))
set_option maxHeartbeats 2000000 in
theorem c_spec_IncreasingHull (e0 : Int) (a : Option Addr) (n c : Nat) (xs : List Int) (w : World) (h : Row .i64 w a n xs) (hn : n ≤ 1048576) :
    Calls Try.prog 42 #[.agg #[.int .i64 e0, .slice a n c]] w (RetFun 3 (gN (hulT e0 xs) e0 (tabOf e0 (hullV xs))) (gL (hulT e0 xs) e0 (tabOf e0 (hullV xs))) (gB (hulT e0 xs) e0 (tabOf e0 (hullV xs))) w) := by
  have bel := Below.refl w.heap.size w
  have f0 := (FBox.new w 26 e0 a n c).alloc (.cells #[.int .i64 0, .slice none 0 0] 26)
  replace bel := bel.alloc bel.size (.cells #[.int .i64 e0, .slice a n c] 26)
  have fr := FBox.new (w.alloc (.cells #[.int .i64 e0, .slice a n c] 26)) 26 0 none 0 0
  rw [World.size_alloc] at fr
  replace bel := bel.alloc bel.size (.cells #[.int .i64 0, .slice none 0 0] 26)
  cases hf : isFun e0 xs with
  | false =>
    obtain ⟨hN, hL, hB⟩ := g_no (b := hulT e0 xs) (n := e0) (xs := tabOf e0 (hullV xs)) (by simp [hulT, hf])
    rw [hN, hL, hB]
    clear hN hL hB
    go_enter Try.func42, Try.ntmps42
    go_wp2_with fail
    refine (c_spec_IsFunction _ _ _ _ _ _ ((h.alloc _).alloc _) hn).mono ?_
    rw [hf]
    rintro e w1 ⟨rfl, hb1⟩
    replace bel := bel.trans (hb1.mono bel.size)
    replace fr := fr.below hb1
    have kr0 := fr.c0
    have kr1 := fr.c1
    have krf := fr.free
    go_wp2_with fail
    refine bodyPost_ret (v := .tuple #[.agg #[.int .i64 0, .slice none 0 0], .bool false]) (by simp [results, Try.results42, go_sem, kr0, kr1]) rfl ?_
    exact ⟨none, 0, rfl, OwnI.nil _ _ _ _, by simp, (bel.setCell (by show w.heap.size ≤ w.heap.size + 1; omega) _).setCell (by show w.heap.size ≤ w.heap.size + 1; omega) _⟩
  | true =>
    have hT : hulT e0 xs = true := by simp [hulT, hf]
    obtain ⟨⟨q0, q1⟩, hlx, hxb⟩ := isFun_true hf
    have hl := h.len
    have hle := isFun_le hf
    have HI := Lib.hid (show isFun e0 (tabTo (hullV xs) n) = true by have := hull_isFun hf; rwa [show tabOf e0 (hullV xs) = tabTo (hullV xs) n by rw [tabOf, ← hlx, hl]] at this)
    have htab : tabOf e0 (hullV xs) = tabTo (hullV xs) n := by rw [tabOf, ← hlx, hl]
    rw [htab]
    have HTL := Lib.hid (tabTo_length (hullV xs))
    have HXB := Lib.hid hxb
    have HT := Lib.hid hT
    have HTAB := Lib.hid htab
    clear htab hxb hT hlx
    go_enter Try.func42, Try.ntmps42
    go_wp2_with fail
    refine (c_spec_IsFunction _ _ _ _ _ _ ((h.alloc _).alloc _) hn).mono ?_
    rw [hf]
    rintro e w1 ⟨rfl, hb1⟩
    replace bel := bel.trans (hb1.mono bel.size)
    replace fr := fr.below hb1
    replace f0 := f0.below hb1
    have k00 := f0.c0
    have k01 := f0.c1
    have hsz0 : w.heap.size + 2 ≤ w1.heap.size := by have := fr.lt; omega
    go_wp2_with fail
    go_loopw [4, 5] (fun v i wr => ∃ s : Nat, i = .int .i64 s ∧ s ≤ n ∧ OwnI wr (w.heap.size + 2) 3 .i64 v (tabTo (hullV xs) s) ∧ Below w.heap.size w wr ∧ FBox wr w.heap.size 26 e0 a n c ∧ FBox wr (w.heap.size + 1) 26 0 none 0 0) (fun _ i _ => n - (intOf i).toNat)
    case atStart => exact ⟨0, rfl, Nat.zero_le _, World.ownsRow_made w1 #[] 0 hsz0 (by decide) rfl, bel.alloc bel.size _, f0.alloc _, fr.alloc _⟩
    case round =>
      clear bel f0 fr k00 k01 hb1
      obtain ⟨s, rfl, hs, hown, hb, f0, fr⟩ := hrel
      have k00 := f0.c0
      have k01 := f0.c1
      have hB : w.heap.size + 2 ≤ wr.heap.size := by have := fr.lt; omega
      have htl := HTL.out s
      by_cases hlt : s < n
      · obtain ⟨b, off, rfl, hblt, hc⟩ := (h.below hb).at_ (by omega)
        have hbw : b < w.heap.size := by
          obtain ⟨b', off', hE, hlt', _⟩ := h.at_ (by omega)
          cases hE
          exact hlt'
        have hsc := tabTo_succ (hullV xs) s
        have HSC := Lib.hid hsc
        clear hsc
        have g0 : wr.cell? ⟨b, off + s, none⟩ = some (.int .i64 (xs.getD s 0)) := hc s hlt
        have HC := Lib.hid hc
        have HX := Lib.hid (hullTo_start xs s s (Nat.le_refl _))
        obtain ⟨x0, hx0⟩ : ∃ x, x = xs.getD s 0 := ⟨_, rfl⟩
        rw [← hx0] at g0
        have HX0 := Lib.hid hx0
        have hst : hullV xs s = hullTo xs s n := by rw [hullV, hl]
        have HST := Lib.hid hst
        have hi0 : (0 : Int) ≤ s := by omega
        have hi1 : (s : Int) < (n : Int) := by omega
        clear hst hc hx0
        go_wp2_with fail
        go_loopw [6, 7] (fun v i wr' => ∃ t : Nat, i = .int .i64 t ∧ s ≤ t ∧ t ≤ n ∧ v = .int .i64 (hullTo xs s t) ∧ wr' = wr) (fun _ i _ => n - (intOf i).toNat)
        case atStart => exact ⟨s, rfl, Nat.le_refl _, Nat.le_of_lt hlt, by rw [HX.out, HX0.out], rfl⟩
        case round =>
          clear g0
          obtain ⟨t, rfl, hts, htn, rfl, rfl⟩ := hrel
          by_cases hlt2 : t < n
          · obtain ⟨_, uf1⟩ := up_facts (s := s) (t := t) (by omega) (by omega)
            have g1 := HC.out t hlt2
            have hj0 : (0 : Int) ≤ t := by omega
            have hj1 : (t : Int) < (n : Int) := by omega
            cases hu : upS s t with
            | true =>
              have hy := hullTo_yes (xs := xs) hu
              obtain ⟨x, hx⟩ : ∃ x, x = xs.getD t 0 := ⟨_, rfl⟩
              obtain ⟨m, hm⟩ : ∃ m, m = hullTo xs s t := ⟨_, rfl⟩
              rw [← hx] at g1 hy
              rw [← hm] at hy ⊢
              rw [hu] at uf1
              have HY := Lib.hid hy
              clear hy hx hm hu
              go_wp2
              all_goals
                go_roundw
                case rel => exact ⟨t + 1, by go_num, by omega, by omega, by rw [HY.out]; exact int_eq (by omega), by first | rfl | trivial⟩
                case measure => simp [intOf]; omega
            | false =>
              have hy := hullTo_no (xs := xs) hu
              rw [hu] at uf1
              have HY := Lib.hid hy
              clear hy hu
              go_wp2
              go_roundw
              case rel => exact ⟨t + 1, by go_num, by omega, by omega, by rw [HY.out], by first | rfl | trivial⟩
              case measure => simp [intOf]; omega
          · obtain rfl : t = n := by omega
            go_wp2_with (at_builtin; refine wpList_app EI (base := w.heap.size + 2) (v := u4) (xs := tabTo (hullV xs) s) (us := [hullTo xs s t]) (g := wr.heap.size) (n := 1) (c := 1) rfl (.tmp 45) (.tmp 47) rfl ?_ ?_ rfl rfl rfl ?_ ?_ ?_; (exact (hown).alloc _); (exact heap_alloc_new wr _); (show _ + 1 ≤ _; omega); (exact le_alloc hB _); intro v' w2 hown1 hgrow)
            have hb1 : Below w.heap.size w w2 := below_grown ((hb).alloc hb.size _) ((hown).alloc _) hgrow (by omega) (by simp; omega)
            have f0' := ((f0).alloc _).grown hgrow (row_apart (hown).range (.inl (by omega)))
            have fr' := ((fr).alloc _).grown hgrow (row_apart (hown).range (.inl (by omega)))
            go_roundw
            case rel => exact ⟨s + 1, by go_num, by omega, by rw [HSC.out, HST.out]; exact hown1, hb1, f0', fr'⟩
            case measure => simp [intOf]; omega
      · obtain rfl : s = n := by omega
        obtain ⟨a2, c2, hv, _⟩ := hown.form
        rw [htl] at hv
        subst hv
        have kr0 := fr.c0
        have kr1 := fr.c1
        have krf := fr.free
        go_wp2_with fail
        refine bodyPost_ret (v := .tuple #[.agg #[.int .i64 e0, .slice a2 s c2], .bool true]) (by simp [results, Try.results42, go_sem, kr0, kr1]) rfl ?_
        obtain ⟨hN, hL, hB'⟩ := g_yes (n := e0) HT.out HI.out
        rw [hN, hL, hB']
        refine ⟨a2, c2, by rw [HTL.out], ?_, by rw [HTL.out]; omega, (hb.setCell (by show w.heap.size ≤ w.heap.size + 1; omega) _).setCell (by show w.heap.size ≤ w.heap.size + 1; omega) _⟩
        rw [HTL.out]
        exact ((hown.base (by omega)).setFar ⟨w.heap.size + 1, 0, none⟩ _ (.inr (row_apart hown.range (.inl (by show w.heap.size + 1 < w.heap.size + 2; omega))))).setFar ⟨w.heap.size + 1, 1, none⟩ _ (.inr (row_apart hown.range (.inl (by show w.heap.size + 1 < w.heap.size + 2; omega))))
end Go.Proofs.Ytfcgijnfiiaepaa
