/- Contracts of SizeFunction, both packages. -/
import Derived.Test.YtijdamjfijkfjaaBox
import Derived.Test.YtijdamjfijkfjaaSizeOf
namespace Go.Proofs.Ytijdamjfijkfjaa
set_option linter.unusedSimpArgs false
set_option linter.unusedVariables false
open Go.RowKit

def sizV (xs : List Int) (s : Nat) : Int := xs.getD (sizeN s) 0
def sizT (xs : List Int) : Bool := inB (xs.length : Int) 1 6
set_option maxHeartbeats 400000 in
theorem c_siz1 (a : Option Addr) (n c : Nat) (xs : List Int) (g1 s k : Nat) (w : World) (b1 : VBox w g1 22 (.slice a n c)) (h : Row .i64 w a n xs) (hk : n = k + 1) (h5 : k ≤ 5) (hs : s < 2 ^ k) :
    Calls Try.prog 83 #[.int .i64 s, .pointer (some ⟨g1, 0, none⟩)] w fun e w' => e = .returned (.int .i64 (sizV xs s)) ∧ Below w.heap.size w w' := by
  have k1 := b1.c0
  have hp : 2 ^ k ≤ 32 := by have := pow5 (n := (k : Int)) (by omega) (by omega); simpa using this
  have hsz : sizeN s ≤ k := sizeN_fin ⟨k, by omega⟩ ⟨s, by omega⟩ hs
  have HC := Lib.hid (fun w' => c_sizeOf s w' (by omega))
  obtain ⟨m, hm⟩ : ∃ m, m = sizeN s := ⟨_, rfl⟩
  obtain ⟨b, off, rfl, hlt, hc⟩ := h.at_ (by omega)
  have hmn : m < n := by omega
  have g := hc m hmn
  obtain ⟨x, hx⟩ : ∃ x, x = xs.getD m 0 := ⟨_, rfl⟩
  rw [← hx] at g
  have HST := Lib.hid (show sizV xs s = x by rw [hx, hm]; rfl)
  have HM := Lib.hid hm
  have hi0 : (0 : Int) ≤ m := by omega
  have hi1 : (m : Int) < (n : Int) := by omega
  have bel := (Below.refl w.heap.size w).drew
  clear hx hm hc hsz hs hp hk
  go_enter Try.func83, Try.ntmps83
  go_wp2_with fail
  go_region_held3 (fun w' => w'.cell? ⟨g1, 0, none⟩ = some (.slice (some ⟨b, off, none⟩) n c) ∧ w'.cell? ⟨b, off + m, none⟩ = some (.int .i64 x)) (go_keep)
    (first
      | (go_at_call 84; refine (HC.out _).mono ?_; rw [← HM.out]; rintro e w' ⟨rfl, rfl⟩))
  all_goals
    go_wp2
    go_ret
    exact ⟨ret_int HST.out.symm, bel⟩
set_option maxHeartbeats 1000000 in
theorem c_impl_SizeFunction (a : Option Addr) (n c : Nat) (xs : List Int) (w : World) (h : Row .i64 w a n xs) (hn : n ≤ 1048576) :
    Calls Try.prog 47 #[.slice a n c] w (RetFun 3 (gN (sizT xs) ((xs.length : Int) - 1) (tabOf ((xs.length : Int) - 1) (sizV xs))) (gL (sizT xs) ((xs.length : Int) - 1) (tabOf ((xs.length : Int) - 1) (sizV xs))) (gB (sizT xs) ((xs.length : Int) - 1) (tabOf ((xs.length : Int) - 1) (sizV xs))) w) := by
  have hmf : ∀ (fn : Fn) (first cap : Array Value) (w : World), (Instr.makeFunc fn first cap).run Try.prog w = .ok (.func fn first cap) w := fun _ _ _ _ => rfl
  have hl := h.len
  subst hl
  have bel := Below.refl w.heap.size w
  have bv := VBox.new w 22 (.slice a xs.length c)
  replace bel := bel.alloc bel.size (.cells #[.slice a xs.length c] 22)
  have fr := FBox.new (w.alloc (.cells #[.slice a xs.length c] 22)) 26 0 none 0 0
  rw [World.size_alloc] at fr
  replace bv := bv.alloc (.cells #[.int .i64 0, .slice none 0 0] 26)
  replace bel := bel.alloc bel.size (.cells #[.int .i64 0, .slice none 0 0] 26)
  have kbv0 := bv.c0
  have kr0 := fr.c0
  have kr1 := fr.c1
  have krf := fr.free
  cases hk : inB (xs.length : Int) 1 6 with
  | false =>
    obtain ⟨hN, hL, hB⟩ := g_no (b := sizT xs) (n := (xs.length : Int) - 1) (xs := tabOf ((xs.length : Int) - 1) (sizV xs)) (by simp [sizT, hk])
    rw [hN, hL, hB]
    clear hN hL hB
    go_enter Try.func47, Try.ntmps47
    go_wp2_with fail
    refine (c_within _ _ _ _).mono ?_
    rw [hk]
    rintro e w' ⟨rfl, rfl⟩
    go_wp2_with fail
    refine bodyPost_ret (v := .tuple #[.agg #[.int .i64 0, .slice none 0 0], .bool false]) (by simp [results, Try.results47, go_sem, kr0, kr1]) rfl ?_
    exact ⟨none, 0, rfl, OwnI.nil _ _ _ _, by simp, by first | exact (bel.setCell (by show w.heap.size ≤ w.heap.size + 1; omega) _).setCell (by show w.heap.size ≤ w.heap.size + 1; omega) _ | exact bel⟩
  | true =>
    have hkb := inB_true.1 hk
    obtain ⟨k, hkk⟩ : ∃ k : Nat, (xs.length : Int) - 1 = k := ⟨xs.length - 1, by omega⟩
    have hT : sizT xs = true := by simp [sizT, hk]
    have hp32 := pow5 (n := (k : Int)) (by omega) (by omega)
    rw [Int.toNat_natCast] at hp32
    have hwk : IntKind.i64.wrap (k : Int) = k := IntWalk.i64_in _ (by omega)
    rw [hkk]
    obtain ⟨hN, hL, hB⟩ := g_mid (b := sizT xs) (n := (k : Int)) (xs := tabOf ((k : Int)) (sizV xs)) (by simp [sizT, hk])
    rw [hN, hL, hB]
    clear hN hL hB
    obtain ⟨tab, htab⟩ : ∃ t, t = tabOf ((k : Int)) (sizV xs) := ⟨_, rfl⟩
    rw [← htab]
    have HTAB := Lib.hid htab
    clear htab
    have hk6 : xs.length = k + 1 := by omega
    have HK6 := Lib.hid hk6
    clear hk6
    go_enter Try.func47, Try.ntmps47
    go_wp2_with fail
    refine (c_within _ _ _ _).mono ?_
    rw [hk]
    rintro e w' ⟨rfl, rfl⟩
    have hlt1 := fr.lt
    go_wp2_with fail
    refine (c_makeFunction _ _ _ (sizV xs) _ (by omega) (by omega) (enters_of Try.func83 (by kernel_rfl) rfl) (fun s w' hs hb => by rw [app1]; exact c_siz1 a xs.length c xs w.heap.size s k w' (bv.below hb) ((h.below bel).below hb) HK6.out (by omega) (by simpa using hs))).mono ?_
    rw [← HTAB.out]
    rintro e w2 ⟨a2, c2, rfl, ho, hlen, hb2⟩
    obtain ⟨wB, hwB⟩ : ∃ z, z = fr.lt := ⟨_, rfl⟩
    clear hwB
    have hfr := fr.lt
    replace bel := bel.trans (hb2.mono bel.size)
    replace fr := fr.below hb2
    replace kr0 := fr.c0
    replace kr1 := fr.c1
    replace krf := fr.free
    go_wp2_with fail
    refine bodyPost_ret (v := .tuple #[.agg #[.int .i64 (madeN ((k : Int)) tab), .slice a2 (madeL ((k : Int)) tab).length c2], .bool (isFun ((k : Int)) tab)]) (by simp [results, Try.results47, go_sem, kr0, kr1]) rfl ?_
    refine ⟨a2, c2, rfl, ?_, hlen, (bel.setCell (by show w.heap.size ≤ w.heap.size + 1; omega) _).setCell (by show w.heap.size ≤ w.heap.size + 1; omega) _⟩
    exact ((ho.base (by omega)).setFar ⟨w.heap.size + 1, 0, none⟩ _ (.inr (row_apart ho.range (.inl (by show w.heap.size + 1 < _; omega))))).setFar ⟨w.heap.size + 1, 1, none⟩ _ (.inr (row_apart ho.range (.inl (by show w.heap.size + 1 < _; omega))))
set_option maxHeartbeats 2000000 in
theorem c_spec_SizeFunction (a : Option Addr) (n c : Nat) (xs : List Int) (w : World) (h : Row .i64 w a n xs) (hn : n ≤ 1048576) :
    Calls Try.prog 46 #[.slice a n c] w (RetFun 3 (gN (sizT xs) ((xs.length : Int) - 1) (tabOf ((xs.length : Int) - 1) (sizV xs))) (gL (sizT xs) ((xs.length : Int) - 1) (tabOf ((xs.length : Int) - 1) (sizV xs))) (gB (sizT xs) ((xs.length : Int) - 1) (tabOf ((xs.length : Int) - 1) (sizV xs))) w) := by
  have hl := h.len
  subst hl
  have bel := Below.refl w.heap.size w
  have fr := FBox.new w 26 0 none 0 0
  replace bel := bel.alloc bel.size (.cells #[.int .i64 0, .slice none 0 0] 26)
  have kr0 := fr.c0
  have kr1 := fr.c1
  have krf := fr.free
  cases hk : inB (xs.length : Int) 1 6 with
  | false =>
    obtain ⟨hN, hL, hB⟩ := g_no (b := sizT xs) (n := (xs.length : Int) - 1) (xs := tabOf ((xs.length : Int) - 1) (sizV xs)) (by simp [sizT, hk])
    rw [hN, hL, hB]
    clear hN hL hB
    go_enter Try.func46, Try.ntmps46
    go_wp2_with fail
    refine (c_l1In _ _ _ _).mono ?_
    rw [hk]
    rintro e w' ⟨rfl, rfl⟩
    go_wp2_with fail
    refine bodyPost_ret (v := .tuple #[.agg #[.int .i64 0, .slice none 0 0], .bool false]) (by simp [results, Try.results46, go_sem, kr0, kr1]) rfl ?_
    exact ⟨none, 0, rfl, OwnI.nil _ _ _ _, by simp, by first | exact (bel.setCell (by show w.heap.size ≤ w.heap.size; omega) _).setCell (by show w.heap.size ≤ w.heap.size; omega) _ | exact bel⟩
  | true =>
    have hkb := inB_true.1 hk
    obtain ⟨k, hkk⟩ : ∃ k : Nat, (xs.length : Int) - 1 = k := ⟨xs.length - 1, by omega⟩
    have hT : sizT xs = true := by simp [sizT, hk]
    have hp32 := pow5 (n := (k : Int)) (by omega) (by omega)
    rw [Int.toNat_natCast] at hp32
    have hwk : IntKind.i64.wrap (k : Int) = k := IntWalk.i64_in _ (by omega)
    rw [hkk]
    obtain ⟨p, hp⟩ : ∃ p, p = 2 ^ k := ⟨_, rfl⟩
    rw [← hp] at hp32
    have htab : tabOf (k : Int) (sizV xs) = tabTo (sizV xs) p := by simp [tabOf, hp]
    rw [htab]
    have HTL := Lib.hid (tabTo_length (sizV xs))
    have HP := Lib.hid hp
    have HT := Lib.hid hT
    have HKK := Lib.hid hkk
    clear htab hp hT
    go_enter Try.func46, Try.ntmps46
    go_wp2_with fail
    refine (c_l1In _ _ _ _).mono ?_
    rw [hk]
    rintro e w' ⟨rfl, rfl⟩
    go_wp2_with fail
    go_loopw [4, 5] (fun v i wr => ∃ s : Nat, i = .int .i64 s ∧ s ≤ p ∧ OwnI wr (w.heap.size + 1) 3 .i64 v (tabTo (sizV xs) s) ∧ Below w.heap.size w wr ∧ FBox wr (w.heap.size) 26 0 none 0 0) (fun _ i _ => p - (intOf i).toNat)
    case atStart => exact ⟨0, rfl, Nat.zero_le _, by (first | exact World.ownsRow_made (w.alloc (.cells #[.int .i64 0, .slice none 0 0] 26)) #[] 0 fr.lt (by decide) rfl | (have h := World.ownsRow_made (base := w.heap.size + 1) (e := 3) (size := 1) (w.alloc (.cells #[.int .i64 0, .slice none 0 0] 26)) #[] 0 (by have := fr.lt; first | omega | (simp only [World.size_alloc] at *; omega)) (by decide) rfl; (try simp only [World.size_alloc] at h); exact h)), bel.alloc bel.size _, fr.alloc _⟩
    case round =>
      clear bel fr kr0 kr1 krf
      obtain ⟨s, rfl, hs, hown, hb, fr⟩ := hrel
      have hB : w.heap.size + 1 ≤ wr.heap.size := fr.lt
      by_cases hlt2 : s < p
      · have hsz : sizeN s ≤ k := sizeN_fin ⟨k, by omega⟩ ⟨s, by omega⟩ (by rw [← HP.out]; exact hlt2)
        have HC := Lib.hid (fun w' => c_l2Size s w' (by omega))
        obtain ⟨m, hm⟩ : ∃ m, m = sizeN s := ⟨_, rfl⟩
        obtain ⟨b3, off, rfl, hblt, hc⟩ := (h.below hb).at_ (by omega)
        have hmn : m < xs.length := by omega
        have g1 := hc m hmn
        obtain ⟨x, hx⟩ : ∃ x, x = xs.getD m 0 := ⟨_, rfl⟩
        rw [← hx] at g1
        have HST := Lib.hid (show sizV xs s = x by rw [hx, hm]; rfl)
        have HM := Lib.hid hm
        have hi0 : (0 : Int) ≤ m := by omega
        have hi1 : (m : Int) < (xs.length : Int) := by omega
        have HSC := Lib.hid (tabTo_succ (sizV xs) s)
        have hlen := HTL.out s
        clear hx hm hc hsz
        obtain ⟨hz, hs1, hs2⟩ := shl_facts k p HP.out (by omega)
        go_wp2_with fail
        refine (HC.out _).mono ?_
        rw [← HM.out]
        rintro e w' ⟨rfl, rfl⟩
        clear hz hs1 hs2
        go_wp2_with (at_builtin; (refine wpList_app EI (base := w.heap.size + 1) (v := u4) (xs := tabTo (sizV xs) s) (us := [x]) (g := wr.heap.size) (n := 1) (c := 1) rfl (.tmp 22) (.tmp 28) rfl ?_ ?_ rfl rfl rfl ?_ ?_ ?_; (exact hown.alloc _); (exact heap_alloc_new wr _); (show _ + 1 ≤ _; omega); (exact le_alloc hB _); intro v' w2 hown1 hgrow))
        have hb1 : Below w.heap.size w w2 := below_grown (hb.alloc hb.size _) (hown.alloc _) hgrow (by omega) (by simp; omega)
        have fr' := (fr.alloc _).grown hgrow (row_apart hown.range (.inl (by omega)))
        go_roundw
        case rel => exact ⟨s + 1, by go_num, by omega, by rw [HSC.out, HST.out]; exact hown1, hb1, fr'⟩
        case measure => simp [intOf]; omega
      · obtain rfl : s = p := by omega
        obtain ⟨hz, hs1, hs2⟩ := shl_facts k s HP.out (by omega)
        obtain ⟨a2, c2, hv, _⟩ := hown.form
        rw [HTL.out] at hv
        subst hv
        cases hI : isFun ((k : Int)) (tabTo (sizV xs) s) with
        | false =>
          go_wp2_with fail
          refine (c_l2Made_no _ _ _ _ _ _ hown.row (by omega) hI).mono ?_
          rintro e w2 ⟨rfl, hb2⟩
          replace fr := fr.below hb2
          have kr0 := fr.c0
          have kr1 := fr.c1
          have krf := fr.free
          replace hown := hown.below hb2
          replace hb := hb.trans (hb2.mono hb.size)
          have hlt2 := fr.lt
          go_wp2_with fail
          refine bodyPost_ret (v := .tuple #[.agg #[.int .i64 0, .slice none 0 0], .bool false]) (by simp [results, Try.results46, go_sem, kr0, kr1, hlt2]) rfl ?_
          obtain ⟨hN, hL, hB'⟩ := g_bad (b := sizT xs) hI
          rw [hN, hL, hB']
          exact ⟨none, 0, rfl, OwnI.nil _ _ _ _, by simp, below_set2a hb (by omega) _ _ _⟩
        | true =>
          go_wp2_with fail
          refine (c_l2Made_yes _ _ _ _ _ _ hown.row (by omega) hI).mono ?_
          rintro e w2 ⟨rfl, hb2⟩
          replace fr := fr.below hb2
          have kr0 := fr.c0
          have kr1 := fr.c1
          have krf := fr.free
          replace hown := hown.below hb2
          replace hb := hb.trans (hb2.mono hb.size)
          have hlt2 := fr.lt
          go_wp2_with fail
          refine bodyPost_ret (v := .tuple #[.agg #[.int .i64 ((k : Int)), .slice a2 s c2], .bool true]) (by simp [results, Try.results46, go_sem, kr0, kr1, hlt2]) rfl ?_
          obtain ⟨hN, hL, hB'⟩ := g_yes (n := (k : Int)) HT.out hI
          rw [hN, hL, hB']
          refine ⟨a2, c2, by rw [HTL.out], ?_, by rw [HTL.out]; omega, below_set2a hb (by omega) _ _ _⟩
          rw [HTL.out]
          exact (((own_set2 hown (by omega) _ _).alloc _).base (by omega))
end Go.Proofs.Ytijdamjfijkfjaa
