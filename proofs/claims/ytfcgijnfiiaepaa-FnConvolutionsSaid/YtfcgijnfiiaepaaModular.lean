/- Contracts of ModularFunction, both packages. -/
import Derived.Test.YtfcgijnfiiaepaaBox
import Derived.Test.YtfcgijnfiiaepaaWeigh
namespace Go.Proofs.Ytfcgijnfiiaepaa
set_option linter.unusedSimpArgs false
set_option linter.unusedVariables false
open Go.RowKit

def modV (xs : List Int) (k : Int) (s : Nat) : Int := k + weigh xs s
def modT (xs : List Int) (k : Int) : Bool := decide (xs.length ≤ 5) && allIn xs (-1000) 1000 && inB k (-1000) 1000
set_option maxHeartbeats 400000 in
theorem c_mod1 (k : Int) (a : Option Addr) (n c : Nat) (xs : List Int) (g1 g2 s : Nat) (w : World) (b1 : VBox w g1 3 (.int .i64 k)) (b2 : VBox w g2 24 (.slice a n c)) (h : Row .i64 w a n xs) (h5 : n ≤ 5) (hs : s < 32) (hx : ∀ j, j < xs.length → -1000 ≤ xs.getD j 0 ∧ xs.getD j 0 ≤ 1000) (hk : -1000 ≤ k ∧ k ≤ 1000) :
    Calls Try.prog 105 #[.int .i64 s, .pointer (some ⟨g1, 0, none⟩), .pointer (some ⟨g2, 0, none⟩)] w fun e w' => e = .returned (.int .i64 (modV xs k s)) ∧ Below w.heap.size w w' := by
  have k1 := b1.c0
  have k2 := b2.c0
  have hl := h.len
  have hbd := weigh_bd s (by omega) hx
  have hC := fun w' (h' : Row .i64 w' a n xs) => c_weightOf a n c xs s w' h' h5 hs hx
  have HC := Lib.hid hC
  obtain ⟨m, hm⟩ : ∃ m, m = weigh xs s := ⟨_, rfl⟩
  have hst : modV xs k s = k + m := by rw [hm]; rfl
  have HST := Lib.hid hst
  have HM := Lib.hid hm
  rw [← hm] at hbd
  have hw : IntKind.i64.wrap (k + m) = k + m := IntWalk.i64_in _ (by omega)
  have bel := (Below.refl w.heap.size w).drew
  have h' := h.below bel
  clear hst hm hC hx
  go_enter Try.func105, Try.ntmps105
  go_wp2_with fail
  go_region_held3 (fun w' => w'.cell? ⟨g1, 0, none⟩ = some (.int .i64 k) ∧ w'.cell? ⟨g2, 0, none⟩ = some (.slice a n c)) (go_keep)
    (first
      | (go_at_call 82; refine (HC.out _ h').mono ?_; rw [← HM.out]; rintro e w' ⟨rfl, rfl⟩))
  all_goals
    go_wp2
    go_ret
    exact ⟨ret_int HST.out.symm, bel⟩
set_option maxHeartbeats 1000000 in
theorem c_impl_ModularFunction (a : Option Addr) (n c : Nat) (xs : List Int) (k : Int) (w : World) (h : Row .i64 w a n xs) (hn : n ≤ 1048576) :
    Calls Try.prog 91 #[.slice a n c, .int .i64 k] w (RetFun 3 (gN (modT xs k) ((xs.length : Int)) (tabOf ((xs.length : Int)) (modV xs k))) (gL (modT xs k) ((xs.length : Int)) (tabOf ((xs.length : Int)) (modV xs k))) (gB (modT xs k) ((xs.length : Int)) (tabOf ((xs.length : Int)) (modV xs k))) w) := by
  have hmf : ∀ (fn : Fn) (first cap : Array Value) (w : World), (Instr.makeFunc fn first cap).run Try.prog w = .ok (.func fn first cap) w := fun _ _ _ _ => rfl
  have hl := h.len
  subst hl
  have bel := Below.refl w.heap.size w
  have bw := VBox.new w 24 (.slice a xs.length c)
  replace bel := bel.alloc bel.size (.cells #[.slice a xs.length c] 24)
  have bk := VBox.new (w.alloc (.cells #[.slice a xs.length c] 24)) 3 (.int .i64 k)
  rw [World.size_alloc] at bk
  replace bw := bw.alloc (.cells #[.int .i64 k] 3)
  replace bel := bel.alloc bel.size (.cells #[.int .i64 k] 3)
  have fr := FBox.new ((w.alloc (.cells #[.slice a xs.length c] 24)).alloc (.cells #[.int .i64 k] 3)) 26 0 none 0 0
  rw [World.size_alloc, World.size_alloc] at fr
  replace bw := bw.alloc (.cells #[.int .i64 0, .slice none 0 0] 26)
  replace bk := bk.alloc (.cells #[.int .i64 0, .slice none 0 0] 26)
  replace bel := bel.alloc bel.size (.cells #[.int .i64 0, .slice none 0 0] 26)
  have kbw0 := bw.c0
  have kbk0 := bk.c0
  have kr0 := fr.c0
  have kr1 := fr.c1
  have krf := fr.free
  by_cases h5 : xs.length ≤ 5
  · cases hA : allIn xs (-1000) 1000 with
    | false =>
      obtain ⟨hN, hL, hB⟩ := g_no (b := modT xs k) (n := (xs.length : Int)) (xs := tabOf ((xs.length : Int)) (modV xs k)) (by simp [modT, hA])
      rw [hN, hL, hB]
      clear hN hL hB
      go_enter Try.func91, Try.ntmps91
      go_wp2_with fail
      refine (below_of (c_areWithin _ _ _ _ _ _ _ (h.below bel) hn)).mono ?_
      rw [hA]
      rintro e w1 ⟨rfl, hb1⟩
      replace bel := bel.trans (hb1.mono bel.size)
      replace bw := bw.below hb1
      replace bk := bk.below hb1
      replace fr := fr.below hb1
      replace kbw0 := bw.c0
      replace kbk0 := bk.c0
      replace kr0 := fr.c0
      replace kr1 := fr.c1
      replace krf := fr.free
      go_wp2_with fail
      refine bodyPost_ret (v := .tuple #[.agg #[.int .i64 0, .slice none 0 0], .bool false]) (by simp [results, Try.results91, go_sem, kr0, kr1]) rfl ?_
      exact ⟨none, 0, rfl, OwnI.nil _ _ _ _, by simp, by first | exact (bel.setCell (by show w.heap.size ≤ w.heap.size + 1 + 1; omega) _).setCell (by show w.heap.size ≤ w.heap.size + 1 + 1; omega) _ | exact bel⟩
    | true =>
      cases hk : inB k (-1000) 1000 with
      | false =>
        obtain ⟨hN, hL, hB⟩ := g_no (b := modT xs k) (n := (xs.length : Int)) (xs := tabOf ((xs.length : Int)) (modV xs k)) (by simp [modT, hk])
        rw [hN, hL, hB]
        clear hN hL hB
        go_enter Try.func91, Try.ntmps91
        go_wp2_with fail
        refine (below_of (c_areWithin _ _ _ _ _ _ _ (h.below bel) hn)).mono ?_
        rw [hA]
        rintro e w1 ⟨rfl, hb1⟩
        replace bel := bel.trans (hb1.mono bel.size)
        replace bw := bw.below hb1
        replace bk := bk.below hb1
        replace fr := fr.below hb1
        replace kbw0 := bw.c0
        replace kbk0 := bk.c0
        replace kr0 := fr.c0
        replace kr1 := fr.c1
        replace krf := fr.free
        go_wp2_with fail
        refine (c_within _ _ _ _).mono ?_
        rw [hk]
        rintro e w' ⟨rfl, rfl⟩
        go_wp2_with fail
        refine bodyPost_ret (v := .tuple #[.agg #[.int .i64 0, .slice none 0 0], .bool false]) (by simp [results, Try.results91, go_sem, kr0, kr1]) rfl ?_
        exact ⟨none, 0, rfl, OwnI.nil _ _ _ _, by simp, by first | exact (bel.setCell (by show w.heap.size ≤ w.heap.size + 1 + 1; omega) _).setCell (by show w.heap.size ≤ w.heap.size + 1 + 1; omega) _ | exact bel⟩
      | true =>
        have hx := allIn_getD hA
        have hp32 := pow5 (n := (xs.length : Int)) (by omega) (by omega)
        have HX := Lib.hid hx
        clear hx
        obtain ⟨hN, hL, hB⟩ := g_mid (b := modT xs k) (n := (xs.length : Int)) (xs := tabOf ((xs.length : Int)) (modV xs k)) (by simp [modT, hA, hk, h5])
        rw [hN, hL, hB]
        clear hN hL hB
        obtain ⟨tab, htab⟩ : ∃ t, t = tabOf ((xs.length : Int)) (modV xs k) := ⟨_, rfl⟩
        rw [← htab]
        have HTAB := Lib.hid htab
        clear htab
        go_enter Try.func91, Try.ntmps91
        go_wp2_with fail
        refine (below_of (c_areWithin _ _ _ _ _ _ _ (h.below bel) hn)).mono ?_
        rw [hA]
        rintro e w1 ⟨rfl, hb1⟩
        replace bel := bel.trans (hb1.mono bel.size)
        replace bw := bw.below hb1
        replace bk := bk.below hb1
        replace fr := fr.below hb1
        replace kbw0 := bw.c0
        replace kbk0 := bk.c0
        replace kr0 := fr.c0
        replace kr1 := fr.c1
        replace krf := fr.free
        go_wp2_with fail
        refine (c_within _ _ _ _).mono ?_
        rw [hk]
        rintro e w' ⟨rfl, rfl⟩
        have hlt1 := fr.lt
        go_wp2_with fail
        refine (c_makeFunction _ _ _ (modV xs k) _ (by omega) (by omega) (enters_of Try.func105 (by kernel_rfl) rfl) (fun s w' hs hb => by rw [app2]; exact c_mod1 k a xs.length c xs (w.heap.size + 1) w.heap.size s w' (bk.below hb) (bw.below hb) ((h.below bel).below hb) h5 (by omega) HX.out (inB_true.1 hk))).mono ?_
        rw [← HTAB.out]
        rintro e w2 ⟨a2, c2, rfl, ho, hlen, hb2⟩
        obtain ⟨wB, hwB⟩ : ∃ z, z = fr.lt := ⟨_, rfl⟩
        clear hwB
        have hfr := fr.lt
        replace bel := bel.trans (hb2.mono bel.size)
        replace fr := fr.below hb2
        replace kr0 := fr.c0
        replace kr1 := fr.c1
        replace krf := fr.free
        go_wp2_with fail
        refine bodyPost_ret (v := .tuple #[.agg #[.int .i64 (madeN ((xs.length : Int)) tab), .slice a2 (madeL ((xs.length : Int)) tab).length c2], .bool (isFun ((xs.length : Int)) tab)]) (by simp [results, Try.results91, go_sem, kr0, kr1]) rfl ?_
        refine ⟨a2, c2, rfl, ?_, hlen, (bel.setCell (by show w.heap.size ≤ w.heap.size + 1 + 1; omega) _).setCell (by show w.heap.size ≤ w.heap.size + 1 + 1; omega) _⟩
        exact ((ho.base (by omega)).setFar ⟨w.heap.size + 1 + 1, 0, none⟩ _ (.inr (row_apart ho.range (.inl (by show w.heap.size + 1 + 1 < _; omega))))).setFar ⟨w.heap.size + 1 + 1, 1, none⟩ _ (.inr (row_apart ho.range (.inl (by show w.heap.size + 1 + 1 < _; omega))))
  · have H5 : decide (xs.length ≤ 5) = false := by simp [h5]
    obtain ⟨hN, hL, hB⟩ := g_no (b := modT xs k) (n := (xs.length : Int)) (xs := tabOf ((xs.length : Int)) (modV xs k)) (by simp [modT, H5])
    rw [hN, hL, hB]
    clear hN hL hB
    go_enter Try.func91, Try.ntmps91
    go_wp2_with fail
    refine bodyPost_ret (v := .tuple #[.agg #[.int .i64 0, .slice none 0 0], .bool false]) (by simp [results, Try.results91, go_sem, kr0, kr1]) rfl ?_
    exact ⟨none, 0, rfl, OwnI.nil _ _ _ _, by simp, by first | exact (bel.setCell (by show w.heap.size ≤ w.heap.size + 1 + 1; omega) _).setCell (by show w.heap.size ≤ w.heap.size + 1 + 1; omega) _ | exact bel⟩
set_option maxHeartbeats 2000000 in
theorem c_spec_ModularFunction (a : Option Addr) (n c : Nat) (xs : List Int) (k : Int) (w : World) (h : Row .i64 w a n xs) (hn : n ≤ 1048576) :
    Calls Try.prog 92 #[.slice a n c, .int .i64 k] w (RetFun 3 (gN (modT xs k) ((xs.length : Int)) (tabOf ((xs.length : Int)) (modV xs k))) (gL (modT xs k) ((xs.length : Int)) (tabOf ((xs.length : Int)) (modV xs k))) (gB (modT xs k) ((xs.length : Int)) (tabOf ((xs.length : Int)) (modV xs k))) w) := by
  have hl := h.len
  subst hl
  have bel := Below.refl w.heap.size w
  have fr := FBox.new w 26 0 none 0 0
  replace bel := bel.alloc bel.size (.cells #[.int .i64 0, .slice none 0 0] 26)
  have kr0 := fr.c0
  have kr1 := fr.c1
  have krf := fr.free
  have h1 := h.alloc (.cells #[.int .i64 0, .slice none 0 0] 26)
  by_cases h5 : xs.length ≤ 5
  · cases hk : inB k (-1000) 1000 with
    | false =>
      obtain ⟨hN, hL, hB⟩ := g_no (b := modT xs k) (n := (xs.length : Int)) (xs := tabOf ((xs.length : Int)) (modV xs k)) (by simp [modT, hk])
      rw [hN, hL, hB]
      clear hN hL hB
      go_enter Try.func92, Try.ntmps92
      go_wp2_with fail
      refine (c_l1In _ _ _ _).mono ?_
      rw [hk]
      rintro e w' ⟨rfl, rfl⟩
      go_wp2_with fail
      refine bodyPost_ret (v := .tuple #[.agg #[.int .i64 0, .slice none 0 0], .bool false]) (by simp [results, Try.results92, go_sem, kr0, kr1]) rfl ?_
      exact ⟨none, 0, rfl, OwnI.nil _ _ _ _, by simp, by first | exact (bel.setCell (by show w.heap.size ≤ w.heap.size; omega) _).setCell (by show w.heap.size ≤ w.heap.size; omega) _ | exact bel⟩
    | true =>
      obtain ⟨p, hp⟩ : ∃ p, p = 2 ^ xs.length := ⟨_, rfl⟩
      have hp32 := pow5 (n := (xs.length : Int)) (by omega) (by omega)
      rw [Int.toNat_natCast, ← hp] at hp32
      have htab : tabOf (xs.length : Int) (modV xs k) = tabTo (modV xs k) p := by simp [tabOf, hp]
      rw [htab]
      have HTAB := Lib.hid htab
      have HTL := Lib.hid (tabTo_length (modV xs k))
      have HP := Lib.hid hp
      have hkb := inB_true.1 hk
      clear htab hp
      go_enter Try.func92, Try.ntmps92
      go_wp2_with fail
      refine (c_l1In _ _ _ _).mono ?_
      rw [hk]
      rintro e w' ⟨rfl, rfl⟩
      go_wp2_with fail
      go_loopw [6] (fun i wr => ∃ j : Nat, i = .int .i64 j ∧ j ≤ xs.length ∧ (∀ t, t < j → inB (xs.getD t 0) (-1000) 1000 = true) ∧ wr = w.alloc (.cells #[.int .i64 0, .slice none 0 0] 26)) (fun i _ => xs.length - (intOf i).toNat)
      case atStart => exact ⟨0, rfl, Nat.zero_le _, fun t ht => by omega, rfl⟩
      case round =>
        obtain ⟨j, rfl, hj, hall, rfl⟩ := hrel
        have HA := Lib.hid hall
        clear hall
        by_cases hlt : j < xs.length
        · obtain ⟨b, off, rfl, hblt, hc⟩ := h1.at_ (by omega)
          have g1 := hc j hlt
          have hi0 : (0 : Int) ≤ j := by omega
          have hi1 : (j : Int) < (xs.length : Int) := by omega
          cases hin : inB (xs.getD j 0) (-1000) 1000 with
          | false =>
            have hA : allIn xs (-1000) 1000 = false := allIn_false_of j hlt hin
            rw [← HTAB.out]
            obtain ⟨hN, hL, hB⟩ := g_no (b := modT xs k) (n := (xs.length : Int)) (xs := tabOf ((xs.length : Int)) (modV xs k)) (by simp [modT, hA])
            rw [hN, hL, hB]
            clear hN hL hB
            obtain ⟨x, hx⟩ : ∃ x, x = xs.getD j 0 := ⟨_, rfl⟩
            rw [← hx] at g1 hin
            clear hx hc
            go_wp2_with fail
            refine (c_l1In _ _ _ _).mono ?_
            rw [hin]
            rintro e w' ⟨rfl, rfl⟩
            go_wp2_with fail
            refine bodyPost_ret (v := .tuple #[.agg #[.int .i64 0, .slice none 0 0], .bool false]) (by simp [results, Try.results92, go_sem, kr0, kr1]) rfl ?_
            exact ⟨none, 0, rfl, OwnI.nil _ _ _ _, by simp, by first | exact (bel.setCell (by show w.heap.size ≤ w.heap.size; omega) _).setCell (by show w.heap.size ≤ w.heap.size; omega) _ | exact bel⟩
          | true =>
            have hall : ∀ t, t < j + 1 → inB (xs.getD t 0) (-1000) 1000 = true := fun t ht => by
              rcases Nat.lt_or_eq_of_le (Nat.le_of_lt_succ ht) with h | rfl
              · exact HA.out t h
              · exact hin
            have HB := Lib.hid hall
            clear hall
            obtain ⟨x, hx⟩ : ∃ x, x = xs.getD j 0 := ⟨_, rfl⟩
            rw [← hx] at g1 hin
            clear hx hc
            go_wp2_with fail
            refine (c_l1In _ _ _ _).mono ?_
            rw [hin]
            rintro e w' ⟨rfl, rfl⟩
            go_wp2
            go_roundw
            case rel => exact ⟨j + 1, by go_num, by omega, HB.out, by first | rfl | trivial⟩
            case measure => simp [intOf]; omega
        · obtain rfl : j = xs.length := by omega
          have hA : allIn xs (-1000) 1000 = true := allIn_of HA.out
          have hT : modT xs k = true := by simp [modT, hA, hk, h5]
          have HT := Lib.hid hT
          have HX := Lib.hid (allIn_getD hA)
          clear hT hA
          go_wp2_with fail
          go_loopw [7, 8] (fun v i wr => ∃ s : Nat, i = .int .i64 s ∧ s ≤ p ∧ OwnI wr (w.heap.size + 1) 3 .i64 v (tabTo (modV xs k) s) ∧ Below w.heap.size w wr ∧ FBox wr (w.heap.size) 26 0 none 0 0) (fun _ i _ => p - (intOf i).toNat)
          case atStart => exact ⟨0, rfl, Nat.zero_le _, by (first | exact World.ownsRow_made (w.alloc (.cells #[.int .i64 0, .slice none 0 0] 26)) #[] 0 fr.lt (by decide) rfl | (have h := World.ownsRow_made (base := w.heap.size + 1) (e := 3) (size := 1) (w.alloc (.cells #[.int .i64 0, .slice none 0 0] 26)) #[] 0 (by have := fr.lt; first | omega | (simp only [World.size_alloc] at *; omega)) (by decide) rfl; (try simp only [World.size_alloc] at h); exact h)), bel.alloc bel.size _, fr.alloc _⟩
          case round =>
            clear bel fr kr0 kr1 krf h1
            obtain ⟨s, rfl, hs, hown, hb, fr⟩ := hrel
            have hB : w.heap.size + 1 ≤ wr.heap.size := fr.lt
            by_cases hlt2 : s < p
            · have hC := fun w' (h' : Row .i64 w' a xs.length xs) => c_l3Weigh a xs.length c xs s w' h' h5 (by omega) HX.out
              have HC := Lib.hid hC
              have hbd := weigh_bd s h5 HX.out
              obtain ⟨m, hm⟩ : ∃ m, m = weigh xs s := ⟨_, rfl⟩
              have hst : modV xs k s = k + m := by rw [hm]; rfl
              have HST := Lib.hid hst
              have HM := Lib.hid hm
              rw [← hm] at hbd
              have HSC := Lib.hid (tabTo_succ (modV xs k) s)
              have hlen := HTL.out s
              have hw : IntKind.i64.wrap (k + m) = k + m := IntWalk.i64_in _ (by omega)
              have hw' : wrap64 (k + m) = k + m := IntWalk.wrap64_in _ (by omega)
              have h' := h.below hb
              clear hst hm hC
              obtain ⟨hz, hs1, hs2⟩ := shl_facts xs.length p HP.out (by omega)
              go_wp2_with fail
              refine (HC.out _ h').mono ?_
              rw [← HM.out]
              rintro e w' ⟨rfl, rfl⟩
              clear hz hs1 hs2
              go_wp2_with (at_builtin; (refine wpList_app EI (base := w.heap.size + 1) (v := u7) (xs := tabTo (modV xs k) s) (us := [k + m]) (g := wr.heap.size) (n := 1) (c := 1) rfl (.tmp 41) (.tmp 47) rfl ?_ ?_ rfl rfl rfl ?_ ?_ ?_; (exact hown.alloc _); (exact heap_alloc_new wr _); (show _ + 1 ≤ _; omega); (exact le_alloc hB _); intro v' w2 hown1 hgrow))
              have hb1 : Below w.heap.size w w2 := below_grown (hb.alloc hb.size _) (hown.alloc _) hgrow (by omega) (by simp; omega)
              have fr' := (fr.alloc _).grown hgrow (row_apart hown.range (.inl (by omega)))
              go_roundw
              case rel => exact ⟨s + 1, by go_num, by omega, by rw [HSC.out, HST.out]; exact hown1, hb1, fr'⟩
              case measure => simp [intOf]; omega
            · obtain rfl : s = p := by omega
              obtain ⟨hz, hs1, hs2⟩ := shl_facts xs.length s HP.out (by omega)
              obtain ⟨a2, c2, hv, _⟩ := hown.form
              rw [HTL.out] at hv
              subst hv
              cases hI : isFun ((xs.length : Int)) (tabTo (modV xs k) s) with
              | false =>
                go_wp2_with fail
                refine (c_l2Made_no _ _ _ _ _ _ hown.row (by omega) hI).mono ?_
                rintro e w2 ⟨rfl, hb2⟩
                replace fr := fr.below hb2
                have kr0 := fr.c0
                have kr1 := fr.c1
                have krf := fr.free
                replace hown := hown.below hb2
                replace hb := hb.trans (hb2.mono hb.size)
                have hlt2 := fr.lt
                go_wp2_with fail
                refine bodyPost_ret (v := .tuple #[.agg #[.int .i64 0, .slice none 0 0], .bool false]) (by simp [results, Try.results92, go_sem, kr0, kr1, hlt2]) rfl ?_
                obtain ⟨hN, hL, hB'⟩ := g_bad (b := modT xs k) hI
                rw [hN, hL, hB']
                exact ⟨none, 0, rfl, OwnI.nil _ _ _ _, by simp, below_set2a hb (by omega) _ _ _⟩
              | true =>
                go_wp2_with fail
                refine (c_l2Made_yes _ _ _ _ _ _ hown.row (by omega) hI).mono ?_
                rintro e w2 ⟨rfl, hb2⟩
                replace fr := fr.below hb2
                have kr0 := fr.c0
                have kr1 := fr.c1
                have krf := fr.free
                replace hown := hown.below hb2
                replace hb := hb.trans (hb2.mono hb.size)
                have hlt2 := fr.lt
                go_wp2_with fail
                refine bodyPost_ret (v := .tuple #[.agg #[.int .i64 ((xs.length : Int)), .slice a2 s c2], .bool true]) (by simp [results, Try.results92, go_sem, kr0, kr1, hlt2]) rfl ?_
                obtain ⟨hN, hL, hB'⟩ := g_yes (n := (xs.length : Int)) HT.out hI
                rw [hN, hL, hB']
                refine ⟨a2, c2, by rw [HTL.out], ?_, by rw [HTL.out]; omega, below_set2a hb (by omega) _ _ _⟩
                rw [HTL.out]
                exact (((own_set2 hown (by omega) _ _).alloc _).base (by omega))
  · have H5 : decide (xs.length ≤ 5) = false := by simp [h5]
    obtain ⟨hN, hL, hB⟩ := g_no (b := modT xs k) (n := (xs.length : Int)) (xs := tabOf ((xs.length : Int)) (modV xs k)) (by simp [modT, H5])
    rw [hN, hL, hB]
    clear hN hL hB
    go_enter Try.func92, Try.ntmps92
    go_wp2_with fail
    refine bodyPost_ret (v := .tuple #[.agg #[.int .i64 0, .slice none 0 0], .bool false]) (by simp [results, Try.results92, go_sem, kr0, kr1]) rfl ?_
    exact ⟨none, 0, rfl, OwnI.nil _ _ _ _, by simp, by first | exact (bel.setCell (by show w.heap.size ≤ w.heap.size; omega) _).setCell (by show w.heap.size ≤ w.heap.size; omega) _ | exact bel⟩
end Go.Proofs.Ytfcgijnfiiaepaa
