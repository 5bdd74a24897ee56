/- Contracts of CoverFunction, both packages. -/
import Derived.Test.YthiokplkimdojaaBox
import Derived.Test.YthiokplkimdojaaBlockS
import Derived.Test.YthiokplkimdojaaSets
namespace Go.Proofs.Ythiokplkimdojaa
set_option linter.unusedSimpArgs false
set_option linter.unusedVariables false
open Go.RowKit

def covTo (xs : List Int) (s : Nat) : Nat → Int
  | 0 => 0
  | k + 1 => if bits .and .i64 (xs.getD (k * 2) 0) (s : Int) != 0 then covTo xs s k + xs.getD (k * 2 + 1) 0 else covTo xs s k
def blkB (e0 : Int) (xs : List Int) (k : Nat) : Bool := isSet e0 (xs.getD (k * 2) 0) && inB (xs.getD (k * 2 + 1) 0) 0 20
def covT (e0 : Int) (n : Nat) (xs : List Int) : Bool := inB e0 0 5 && decide (n ≤ 20) && (List.range n).all (blkB e0 xs)
theorem blk_all {e0 : Int} {n : Nat} {xs : List Int} : (List.range n).all (blkB e0 xs) = true ↔ ∀ k, k < n → blkB e0 xs k = true := by
  simp [List.all_eq_true]
theorem cov_no {e0 : Int} {n : Nat} {xs : List Int} {k : Nat} (hk : k < n) (h : blkB e0 xs k = false) : covT e0 n xs = false := by
  have : (List.range n).all (blkB e0 xs) = false := by
    cases hq : (List.range n).all (blkB e0 xs) with
    | false => rfl
    | true => rw [blk_all.1 hq k hk] at h; exact absurd h (by decide)
  rw [covT, this, Bool.and_false]
theorem cov_yes {xs : List Int} {s k : Nat} (h : (bits .and .i64 (xs.getD (k * 2) 0) (s : Int) != 0) = true) : covTo xs s (k + 1) = covTo xs s k + xs.getD (k * 2 + 1) 0 := by rw [covTo, if_pos h]
theorem cov_non {xs : List Int} {s k : Nat} (h : (bits .and .i64 (xs.getD (k * 2) 0) (s : Int) != 0) = false) : covTo xs s (k + 1) = covTo xs s k := by rw [covTo, if_neg (by rw [h]; exact Bool.false_ne_true)]
theorem cov_bd {e0 : Int} {xs : List Int} {s n : Nat} (hb : ∀ k, k < n → blkB e0 xs k = true) : ∀ k : Nat, k ≤ n → 0 ≤ covTo xs s k ∧ covTo xs s k ≤ 20 * (k : Int)
  | 0, _ => by simp [covTo]
  | k + 1, h => by
    have h1 := cov_bd (s := s) hb k (by omega)
    have h2 := hb k (by omega)
    simp only [blkB, Bool.and_eq_true] at h2
    have h3 := inB_true.1 h2.2
    rw [covTo]
    split <;> omega
theorem and_comm_fin : ∀ s t : Fin 32, bits .and .i64 (s.val : Int) (t.val : Int) = bits .and .i64 (t.val : Int) (s.val : Int) := by decide +kernel
theorem blk_set {e0 : Int} {xs : List Int} {k : Nat} (h : blkB e0 xs k = true) (h5 : e0 ≤ 5) : 0 ≤ xs.getD (k * 2) 0 ∧ xs.getD (k * 2) 0 < 32 ∧ 0 ≤ xs.getD (k * 2 + 1) 0 ∧ xs.getD (k * 2 + 1) 0 ≤ 20 := by
  simp only [blkB, Bool.and_eq_true] at h
  have h1 := isSet_true.1 h.1
  have h2 := inB_true.1 h.2
  have h3 : (2 ^ e0.toNat : Nat) ≤ 2 ^ 5 := Nat.pow_le_pow_right (by decide) (by omega)
  have h4 : ((2 ^ e0.toNat : Nat) : Int) = (2 : Int) ^ e0.toNat := by push_cast; rfl
  omega
set_option maxRecDepth 10000 in
set_option maxHeartbeats 1000000 in
theorem c_cov1 (e0 : Int) (a : Option Addr) (n c : Nat) (xs : List Int) (g1 s : Nat) (w : World) (b1 : VBox w g1 38 (.slice a n c)) (h : Row .i64 w a (n * 2) xs) (h20 : n ≤ 20) (h5 : e0 ≤ 5) (hs : s < 32) (hb : ∀ k, k < n → blkB e0 xs k = true) :
    Calls Try.prog 72 #[.int .i64 s, .pointer (some ⟨g1, 0, none⟩)] w fun e w' => e = .returned (.int .i64 (covTo xs s n)) ∧ Below w.heap.size w w' := by
  have k1 := b1.c0
  have HBK := Lib.hid hb
  have HBD := Lib.hid (cov_bd (s := s) hb)
  have HE5 := Lib.hid h5
  clear hb h5
  go_enter Try.func72, Try.ntmps72
  go_wp2_with fail
  go_loopw [4, 9] (fun v i wr => ∃ k : Nat, i = .int .i64 k ∧ k ≤ n ∧ v = .int .i64 (covTo xs s k) ∧ Below w.heap.size w wr) (fun _ i _ => n - (intOf i).toNat)
  case atStart => exact ⟨0, rfl, Nat.zero_le _, rfl, Below.refl _ _⟩
  case round =>
    clear k1
    obtain ⟨k, rfl, hk, rfl, bel⟩ := hrel
    by_cases hlt : k < n
    · skip
      obtain ⟨b3, off3, rfl, hblt3, hc3⟩ := (h.below bel).at_ (by omega)
      have g0 : wr.cell? ⟨b3, off3 + k * 2, none⟩ = some (.int .i64 (xs.getD (k * 2) 0)) := hc3 (k * 2) (by omega)
      have g1 : wr.cell? ⟨b3, off3 + k * 2 + 1, none⟩ = some (.int .i64 (xs.getD (k * 2 + 1) 0)) := hc3 (k * 2 + 1) (by omega)
      obtain ⟨t0, t1, t2, t3⟩ := blk_set (HBK.out k (by omega)) HE5.out
      have hbd := HBD.out k (by omega)
      have hY := fun h => cov_yes (xs := xs) (s := s) (k := k) h
      have hN := fun h => cov_non (xs := xs) (s := s) (k := k) h
      obtain ⟨x, hx⟩ : ∃ x, x = xs.getD (k * 2) 0 := ⟨_, rfl⟩
      obtain ⟨y, hy⟩ : ∃ y, y = xs.getD (k * 2 + 1) 0 := ⟨_, rfl⟩
      obtain ⟨q, hq⟩ : ∃ q, q = covTo xs s k := ⟨_, rfl⟩
      rw [← hx] at g0 t0 t1 hY hN
      rw [← hy] at g1 t2 t3 hY
      rw [← hq] at hbd hY hN ⊢
      obtain ⟨xn, rfl⟩ := Int.eq_ofNat_of_zero_le t0
      have hcm : bits .and .i64 (s : Int) (xn : Int) = bits .and .i64 (xn : Int) (s : Int) := and_comm_fin ⟨s, by omega⟩ ⟨xn, by omega⟩
      have hw : IntKind.i64.wrap (q + y) = q + y := IntWalk.i64_in _ (by omega)
      have hi0 : (0 : Int) ≤ k := by omega
      have hi1 : (k : Int) < (n : Int) := by omega
      clear hc3 hx hy hq
      obtain ⟨v, hv⟩ : ∃ v, v = bits .and .i64 (xn : Int) (s : Int) := ⟨_, rfl⟩
      skip
      rw [← hv] at hY hN
      cases hz : (v != 0) with
      | true =>
        have HS := Lib.hid (hY hz)
        have hvv := hv.symm
        clear hY hN hcm hv
        go_wp2
        go_roundw
        case rel => exact ⟨k + 1, by go_num, by omega, by rw [HS.out], by first | exact bel.alloc bel.size _ | exact bel⟩
        case measure => simp [intOf]; omega
      | false =>
        have HS := Lib.hid (hN hz)
        have hvv := hv.symm
        clear hY hN hcm hv
        go_wp2
        go_roundw
        case rel => exact ⟨k + 1, by go_num, by omega, by rw [HS.out], by first | exact bel.alloc bel.size _ | exact bel⟩
        case measure => simp [intOf]; omega
    · obtain rfl : k = n := by omega
      go_wp2
      go_ret
      exact ⟨rfl, bel⟩
set_option maxRecDepth 10000 in
set_option maxHeartbeats 2000000 in
theorem c_impl_CoverFunction (e0 : Int) (a : Option Addr) (n c : Nat) (xs : List Int) (w : World) (h : Row .i64 w a (n * 2) xs) (hn : n ≤ 1048576) :
    Calls Try.prog 28 #[.int .i64 e0, .slice a n c] w (RetFun 3 (gN (covT e0 n xs) (e0) (tabOf (e0) (fun s => covTo xs s n))) (gL (covT e0 n xs) (e0) (tabOf (e0) (fun s => covTo xs s n))) (gB (covT e0 n xs) (e0) (tabOf (e0) (fun s => covTo xs s n))) w) := by
  have hmf : ∀ (fn : Fn) (first cap : Array Value) (w : World), (Instr.makeFunc fn first cap).run Try.prog w = .ok (.func fn first cap) w := fun _ _ _ _ => rfl
  have bel := Below.refl w.heap.size w
  have bl := VBox.new w 38 (.slice a n c)
  replace bel := bel.alloc bel.size (.cells #[.slice a n c] 38)
  have fr := FBox.new (w.alloc (.cells #[.slice a n c] 38)) 27 0 none 0 0
  rw [World.size_alloc] at fr
  replace bl := bl.alloc (.cells #[.int .i64 0, .slice none 0 0] 27)
  replace bel := bel.alloc bel.size (.cells #[.int .i64 0, .slice none 0 0] 27)
  have kbl0 := bl.c0
  have kr0 := fr.c0
  have kr1 := fr.c1
  have krf := fr.free
  cases hi : inB e0 0 5 with
  | false =>
    obtain ⟨hN, hL, hB⟩ := g_no (b := covT e0 n xs) (n := e0) (xs := tabOf (e0) (fun s => covTo xs s n)) (by simp [covT, hi])
    rw [hN, hL, hB]
    clear hN hL hB
    go_enter Try.func28, Try.ntmps28
    go_wp2_with fail
    refine (c_within _ _ _ _).mono ?_
    rw [hi]
    rintro e w' ⟨rfl, rfl⟩
    go_wp2_with fail
    refine bodyPost_ret (v := .tuple #[.agg #[.int .i64 0, .slice none 0 0], .bool false]) (by simp [results, Try.results28, go_sem, kr0, kr1]) rfl ?_
    exact ⟨none, 0, rfl, OwnI.nil _ _ _ _, by simp, by first | exact (bel.setCell (by show w.heap.size ≤ w.heap.size + 1; omega) _).setCell (by show w.heap.size ≤ w.heap.size + 1; omega) _ | exact bel⟩
  | true =>
    have hib := inB_true.1 hi
    by_cases h20 : n ≤ 20
    · go_enter Try.func28, Try.ntmps28
      go_wp2_with fail
      refine (c_within _ _ _ _).mono ?_
      rw [hi]
      rintro e w' ⟨rfl, rfl⟩
      go_wp2_with fail
      go_loopw [19] (fun i wr => ∃ k : Nat, i = .int .i64 k ∧ k ≤ n ∧ (∀ j, j < k → blkB e0 xs j = true) ∧ Below w.heap.size w wr ∧ VBox wr w.heap.size 38 (.slice a n c) ∧ FBox wr (w.heap.size + 1) 27 0 none 0 0) (fun i _ => n - (intOf i).toNat)
      case atStart => exact ⟨0, rfl, Nat.zero_le _, fun j hj => by omega, bel, bl, fr⟩
      case round =>
        clear bel bl fr kbl0 kr0 kr1 krf
        obtain ⟨k, rfl, hk, hall, bel, bl, fr⟩ := hrel
        have HA := Lib.hid hall
        clear hall
        have kbl0 := bl.c0
        have kr0 := fr.c0
        have kr1 := fr.c1
        have krf := fr.free
        by_cases hlt : k < n
        · obtain ⟨b3, off3, rfl, hblt3, hc3⟩ := (h.below bel).at_ (by omega)
          have g0 : wr.cell? ⟨b3, off3 + k * 2, none⟩ = some (.int .i64 (xs.getD (k * 2) 0)) := hc3 (k * 2) (by omega)
          have g1 : wr.cell? ⟨b3, off3 + k * 2 + 1, none⟩ = some (.int .i64 (xs.getD (k * 2 + 1) 0)) := hc3 (k * 2 + 1) (by omega)
          have hi0 : (0 : Int) ≤ k := by omega
          have hi1 : (k : Int) < (n : Int) := by omega
          have HBL := Lib.hid (show blkB e0 xs k = (isSet e0 (xs.getD (k * 2) 0) && inB (xs.getD (k * 2 + 1) 0) 0 20) from rfl)
          obtain ⟨x, hx⟩ : ∃ x, x = xs.getD (k * 2) 0 := ⟨_, rfl⟩
          obtain ⟨y, hy⟩ : ∃ y, y = xs.getD (k * 2 + 1) 0 := ⟨_, rfl⟩
          rw [← hx] at g0
          rw [← hy] at g1
          rw [← hx, ← hy] at HBL
          clear hc3 hx hy
          cases hs : isSet e0 x with
          | false =>
            go_wp2_with fail
            refine (c_isSetOf _ _ _ (by omega) (by omega)).mono ?_
            rw [hs]
            rintro e w' ⟨rfl, rfl⟩
            replace bel := bel.alloc bel.size (.cells #[.int .i64 x, .int .i64 y] 66)
            replace bl := bl.alloc (.cells #[.int .i64 x, .int .i64 y] 66)
            replace fr := fr.alloc (.cells #[.int .i64 x, .int .i64 y] 66)
            replace kbl0 := bl.c0
            replace kr0 := fr.c0
            replace kr1 := fr.c1
            replace krf := fr.free
            go_wp2_with fail
            refine bodyPost_ret (v := .tuple #[.agg #[.int .i64 0, .slice none 0 0], .bool false]) (by simp [results, Try.results28, go_sem, kr0, kr1]) rfl ?_
            obtain ⟨hN, hL, hB⟩ := g_no (b := covT e0 n xs) (n := e0) (xs := tabOf e0 (fun s => covTo xs s n)) (cov_no hlt (by rw [HBL.out]; simp [hs]))
            rw [hN, hL, hB]
            clear hN hL hB
            exact ⟨none, 0, rfl, OwnI.nil _ _ _ _, by simp, by first | exact (bel.setCell (by show w.heap.size ≤ w.heap.size + 1; omega) _).setCell (by show w.heap.size ≤ w.heap.size + 1; omega) _ | exact bel⟩
          | true =>
            cases hw : inB y 0 20 with
            | false =>
              go_wp2_with fail
              refine (c_isSetOf _ _ _ (by omega) (by omega)).mono ?_
              rw [hs]
              rintro e w' ⟨rfl, rfl⟩
              go_wp2_with fail
              refine (c_within _ _ _ _).mono ?_
              rw [hw]
              rintro e w' ⟨rfl, rfl⟩
              replace bel := bel.alloc bel.size (.cells #[.int .i64 x, .int .i64 y] 66)
              replace bl := bl.alloc (.cells #[.int .i64 x, .int .i64 y] 66)
              replace fr := fr.alloc (.cells #[.int .i64 x, .int .i64 y] 66)
              replace kbl0 := bl.c0
              replace kr0 := fr.c0
              replace kr1 := fr.c1
              replace krf := fr.free
              go_wp2_with fail
              refine bodyPost_ret (v := .tuple #[.agg #[.int .i64 0, .slice none 0 0], .bool false]) (by simp [results, Try.results28, go_sem, kr0, kr1]) rfl ?_
              obtain ⟨hN, hL, hB⟩ := g_no (b := covT e0 n xs) (n := e0) (xs := tabOf e0 (fun s => covTo xs s n)) (cov_no hlt (by rw [HBL.out]; simp [hs, hw]))
              rw [hN, hL, hB]
              clear hN hL hB
              exact ⟨none, 0, rfl, OwnI.nil _ _ _ _, by simp, by first | exact (bel.setCell (by show w.heap.size ≤ w.heap.size + 1; omega) _).setCell (by show w.heap.size ≤ w.heap.size + 1; omega) _ | exact bel⟩
            | true =>
              have hbk : blkB e0 xs k = true := by rw [HBL.out, hs, hw]; rfl
              have hall : ∀ j, j < k + 1 → blkB e0 xs j = true := fun j hj => by
                rcases Nat.lt_or_eq_of_le (Nat.le_of_lt_succ hj) with h | rfl
                · exact HA.out j h
                · exact hbk
              have HB2 := Lib.hid hall
              clear hall hbk
              go_wp2_with fail
              refine (c_isSetOf _ _ _ (by omega) (by omega)).mono ?_
              rw [hs]
              rintro e w' ⟨rfl, rfl⟩
              go_wp2_with fail
              refine (c_within _ _ _ _).mono ?_
              rw [hw]
              rintro e w' ⟨rfl, rfl⟩
              replace bel := bel.alloc bel.size (.cells #[.int .i64 x, .int .i64 y] 66)
              replace bl := bl.alloc (.cells #[.int .i64 x, .int .i64 y] 66)
              replace fr := fr.alloc (.cells #[.int .i64 x, .int .i64 y] 66)
              replace kbl0 := bl.c0
              replace kr0 := fr.c0
              replace kr1 := fr.c1
              replace krf := fr.free
              go_wp2
              go_roundw
              case rel => exact ⟨k + 1, by go_num, by omega, HB2.out, bel, bl, fr⟩
              case measure => simp [intOf]; omega
        · obtain rfl : k = n := by omega
          have hT : covT e0 k xs = true := by rw [covT, hi, blk_all.2 HA.out]; simp [h20]
          have hp32 := pow5 hib.1 hib.2
          have HTT := Lib.hid hT
          obtain ⟨tab, htab⟩ : ∃ t, t = tabOf e0 (fun s => covTo xs s k) := ⟨_, rfl⟩
          have HTAB := Lib.hid htab
          clear htab hT
          have hlt1 := fr.lt
          go_wp2_with fail
          refine (c_makeFunction _ _ _ (fun s => covTo xs s k) _ hib.1 hib.2 (enters_of Try.func72 (by kernel_rfl) rfl) (fun s w' hs hb => by rw [app1]; exact c_cov1 e0 a k c xs w.heap.size s w' (bl.below hb) ((h.below bel).below hb) h20 hib.2 (by omega) HA.out)).mono ?_
          rw [← HTAB.out]
          rintro e w2 ⟨a2, c2, rfl, ho, hlen, hb2⟩
          obtain ⟨wB, hwB⟩ : ∃ z, z = fr.lt := ⟨_, rfl⟩
          clear hwB
          have hfr := fr.lt
          replace bel := bel.trans (hb2.mono bel.size)
          replace fr := fr.below hb2
          replace kr0 := fr.c0
          replace kr1 := fr.c1
          replace krf := fr.free
          go_wp2_with fail
          refine bodyPost_ret (v := .tuple #[.agg #[.int .i64 (madeN (e0) tab), .slice a2 (madeL (e0) tab).length c2], .bool (isFun (e0) tab)]) (by simp [results, Try.results28, go_sem, kr0, kr1]) rfl ?_
          obtain ⟨hN, hL, hB⟩ := g_mid (b := covT e0 k xs) (n := e0) (xs := tabOf e0 (fun s => covTo xs s k)) HTT.out
          rw [hN, hL, hB, ← HTAB.out]
          refine ⟨a2, c2, rfl, ?_, hlen, (bel.setCell (by show w.heap.size ≤ w.heap.size + 1; omega) _).setCell (by show w.heap.size ≤ w.heap.size + 1; omega) _⟩
          exact ((ho.base (by first | omega | (simp only [World.size_setCell, World.size_alloc] at *; omega))).setFar ⟨w.heap.size + 1, 0, none⟩ _ (.inr (row_apart ho.range (.inl (by show w.heap.size + 1 < _; first | omega | (simp only [World.size_setCell, World.size_alloc] at *; omega)))))).setFar ⟨w.heap.size + 1, 1, none⟩ _ (.inr (row_apart ho.range (.inl (by show w.heap.size + 1 < _; first | omega | (simp only [World.size_setCell, World.size_alloc] at *; omega)))))
    · have H20 : decide (n ≤ 20) = false := by simp [h20]
      obtain ⟨hN, hL, hB⟩ := g_no (b := covT e0 n xs) (n := e0) (xs := tabOf (e0) (fun s => covTo xs s n)) (by simp [covT, H20])
      rw [hN, hL, hB]
      clear hN hL hB
      go_enter Try.func28, Try.ntmps28
      go_wp2_with fail
      refine (c_within _ _ _ _).mono ?_
      rw [hi]
      rintro e w' ⟨rfl, rfl⟩
      go_wp2_with fail
      refine bodyPost_ret (v := .tuple #[.agg #[.int .i64 0, .slice none 0 0], .bool false]) (by simp [results, Try.results28, go_sem, kr0, kr1]) rfl ?_
      exact ⟨none, 0, rfl, OwnI.nil _ _ _ _, by simp, by first | exact (bel.setCell (by show w.heap.size ≤ w.heap.size + 1; omega) _).setCell (by show w.heap.size ≤ w.heap.size + 1; omega) _ | exact bel⟩
set_option maxRecDepth 10000 in
set_option maxHeartbeats 4000000 in
theorem c_spec_CoverFunction (e0 : Int) (a : Option Addr) (n c : Nat) (xs : List Int) (w : World) (h : Row .i64 w a (n * 2) xs) (hn : n ≤ 1048576) :
    Calls Try.prog 26 #[.int .i64 e0, .slice a n c] w (RetFun 3 (gN (covT e0 n xs) (e0) (tabOf (e0) (fun s => covTo xs s n))) (gL (covT e0 n xs) (e0) (tabOf (e0) (fun s => covTo xs s n))) (gB (covT e0 n xs) (e0) (tabOf (e0) (fun s => covTo xs s n))) w) := by
  have bel := Below.refl w.heap.size w
  have fr := FBox.new w 27 0 none 0 0
  replace bel := bel.alloc bel.size (.cells #[.int .i64 0, .slice none 0 0] 27)
  have kr0 := fr.c0
  have kr1 := fr.c1
  have krf := fr.free
  cases hi : inB e0 0 5 with
  | false =>
    obtain ⟨hN, hL, hB⟩ := g_no (b := covT e0 n xs) (n := e0) (xs := tabOf (e0) (fun s => covTo xs s n)) (by simp [covT, hi])
    rw [hN, hL, hB]
    clear hN hL hB
    go_enter Try.func26, Try.ntmps26
    go_wp2_with fail
    refine (c_l1In _ _ _ _).mono ?_
    rw [hi]
    rintro e w' ⟨rfl, rfl⟩
    go_wp2_with fail
    refine bodyPost_ret (v := .tuple #[.agg #[.int .i64 0, .slice none 0 0], .bool false]) (by simp [results, Try.results26, go_sem, kr0, kr1]) rfl ?_
    exact ⟨none, 0, rfl, OwnI.nil _ _ _ _, by simp, by first | exact (bel.setCell (by show w.heap.size ≤ w.heap.size; omega) _).setCell (by show w.heap.size ≤ w.heap.size; omega) _ | exact bel⟩
  | true =>
    have hib := inB_true.1 hi
    by_cases h20 : n ≤ 20
    · go_enter Try.func26, Try.ntmps26
      go_wp2_with fail
      refine (c_l1In _ _ _ _).mono ?_
      rw [hi]
      rintro e w' ⟨rfl, rfl⟩
      go_wp2_with fail
      go_loopw [6] (fun i wr => ∃ k : Nat, i = .int .i64 k ∧ k ≤ n ∧ (∀ j, j < k → blkB e0 xs j = true) ∧ Below w.heap.size w wr ∧ FBox wr w.heap.size 27 0 none 0 0) (fun i _ => n - (intOf i).toNat)
      case atStart => exact ⟨0, rfl, Nat.zero_le _, fun j hj => by omega, bel, fr⟩
      case round =>
        clear bel fr kr0 kr1 krf
        obtain ⟨k, rfl, hk, hall, bel, fr⟩ := hrel
        have HA := Lib.hid hall
        clear hall
        by_cases hlt : k < n
        · obtain ⟨b3, off3, rfl, hblt3, hc3⟩ := (h.below bel).at_ (by omega)
          have g0 : wr.cell? ⟨b3, off3 + k * 2, none⟩ = some (.int .i64 (xs.getD (k * 2) 0)) := hc3 (k * 2) (by omega)
          have g1 : wr.cell? ⟨b3, off3 + k * 2 + 1, none⟩ = some (.int .i64 (xs.getD (k * 2 + 1) 0)) := hc3 (k * 2 + 1) (by omega)
          have hi0 : (0 : Int) ≤ k := by omega
          have hi1 : (k : Int) < (n : Int) := by omega
          have HBL := Lib.hid (show blkB e0 xs k = (isSet e0 (xs.getD (k * 2) 0) && inB (xs.getD (k * 2 + 1) 0) 0 20) from rfl)
          obtain ⟨x, hx⟩ : ∃ x, x = xs.getD (k * 2) 0 := ⟨_, rfl⟩
          obtain ⟨y, hy⟩ : ∃ y, y = xs.getD (k * 2 + 1) 0 := ⟨_, rfl⟩
          rw [← hx] at g0
          rw [← hy] at g1
          rw [← hx, ← hy] at HBL
          obtain ⟨F, hF⟩ : ∃ F, F = (2 : Int) ^ e0.toNat - 1 := ⟨_, rfl⟩
          have CF : ∀ w', Calls Try.prog 68 #[.int .i64 e0] w' fun e w'' => e = .returned (.int .i64 F) ∧ w'' = w' := fun w' => (c_l2Full e0 w' hib.1 (by omega)).mono fun _ _ h => ⟨by rw [hF]; exact h.1, h.2.symm⟩
          have HL1 := Lib.hid (fun w' => c_l1In x 0 F w')
          have HL2 := Lib.hid (fun w' => c_l1In y 0 20 w')
          have HF := Lib.hid (show inB x 0 F = isSet e0 x by rw [hF]; exact inB_full e0 x)
          clear hc3 hx hy hF
          cases hs : isSet e0 x with
          | false =>
            have CX : ∀ w', Calls Try.prog 67 #[.int .i64 x, .int .i64 0, .int .i64 F] w' fun e w'' => e = .returned (.bool false) ∧ w'' = w' := fun w' => (HL1.out w').mono fun _ _ h => ⟨by rw [h.1, HF.out, hs], h.2.symm⟩
            go_wp2_with fail
            go_quiet (first | (go_at_call 68; exact Calls.quiet_of_same (CF _)) | (go_at_call_of 67 x; exact Calls.quiet_of_same (CX _)))
            clear CX CF
            replace bel := below_drewN bel nq
            replace fr := fr.drewN nq
            have kr0 := fr.c0
            have kr1 := fr.c1
            have krf := fr.free
            go_wp2_with fail
            refine bodyPost_ret (v := .tuple #[.agg #[.int .i64 0, .slice none 0 0], .bool false]) (by simp [results, Try.results26, go_sem, kr0, kr1]) rfl ?_
            obtain ⟨hN, hL, hB⟩ := g_no (b := covT e0 n xs) (n := e0) (xs := tabOf e0 (fun s => covTo xs s n)) (cov_no hlt (by rw [HBL.out]; simp [hs]))
            rw [hN, hL, hB]
            clear hN hL hB
            exact ⟨none, 0, rfl, OwnI.nil _ _ _ _, by simp, by first | exact (bel.setCell (by show w.heap.size ≤ w.heap.size; omega) _).setCell (by show w.heap.size ≤ w.heap.size; omega) _ | exact bel⟩
          | true =>
            cases hw : inB y 0 20 with
            | false =>
              have CX : ∀ w', Calls Try.prog 67 #[.int .i64 x, .int .i64 0, .int .i64 F] w' fun e w'' => e = .returned (.bool true) ∧ w'' = w' := fun w' => (HL1.out w').mono fun _ _ h => ⟨by rw [h.1, HF.out, hs], h.2.symm⟩
              have CY : ∀ w', Calls Try.prog 67 #[.int .i64 y, .int .i64 0, .int .i64 20] w' fun e w'' => e = .returned (.bool false) ∧ w'' = w' := fun w' => (HL2.out w').mono fun _ _ h => ⟨by rw [h.1, hw], h.2.symm⟩
              go_wp2_with fail
              go_quiet (first | (go_at_call 68; exact Calls.quiet_of_same (CF _)) | (go_at_call_of 67 x; exact Calls.quiet_of_same (CX _)) | (go_at_call_of 67 y; exact Calls.quiet_of_same (CY _)))
              clear CX CF CY
              replace bel := below_drewN bel nq
              replace fr := fr.drewN nq
              have kr0 := fr.c0
              have kr1 := fr.c1
              have krf := fr.free
              go_wp2_with fail
              refine bodyPost_ret (v := .tuple #[.agg #[.int .i64 0, .slice none 0 0], .bool false]) (by simp [results, Try.results26, go_sem, kr0, kr1]) rfl ?_
              obtain ⟨hN, hL, hB⟩ := g_no (b := covT e0 n xs) (n := e0) (xs := tabOf e0 (fun s => covTo xs s n)) (cov_no hlt (by rw [HBL.out]; simp [hs, hw]))
              rw [hN, hL, hB]
              clear hN hL hB
              exact ⟨none, 0, rfl, OwnI.nil _ _ _ _, by simp, by first | exact (bel.setCell (by show w.heap.size ≤ w.heap.size; omega) _).setCell (by show w.heap.size ≤ w.heap.size; omega) _ | exact bel⟩
            | true =>
              have hbk : blkB e0 xs k = true := by rw [HBL.out, hs, hw]; rfl
              have hall : ∀ j, j < k + 1 → blkB e0 xs j = true := fun j hj => by
                rcases Nat.lt_or_eq_of_le (Nat.le_of_lt_succ hj) with h | rfl
                · exact HA.out j h
                · exact hbk
              have HB2 := Lib.hid hall
              clear hall hbk
              have CX : ∀ w', Calls Try.prog 67 #[.int .i64 x, .int .i64 0, .int .i64 F] w' fun e w'' => e = .returned (.bool true) ∧ w'' = w' := fun w' => (HL1.out w').mono fun _ _ h => ⟨by rw [h.1, HF.out, hs], h.2.symm⟩
              have CY : ∀ w', Calls Try.prog 67 #[.int .i64 y, .int .i64 0, .int .i64 20] w' fun e w'' => e = .returned (.bool true) ∧ w'' = w' := fun w' => (HL2.out w').mono fun _ _ h => ⟨by rw [h.1, hw], h.2.symm⟩
              go_wp2_with fail
              go_quiet (first | (go_at_call 68; exact Calls.quiet_of_same (CF _)) | (go_at_call_of 67 x; exact Calls.quiet_of_same (CX _)) | (go_at_call_of 67 y; exact Calls.quiet_of_same (CY _)))
              clear CX CF CY
              replace bel := below_drewN bel nq
              replace fr := fr.drewN nq
              have kr0 := fr.c0
              have kr1 := fr.c1
              have krf := fr.free
              go_wp2
              go_roundw
              case rel => exact ⟨k + 1, by go_num, by omega, HB2.out, bel, fr⟩
              case measure => simp [intOf]; omega
        · obtain rfl : k = n := by omega
          have hT : covT e0 k xs = true := by rw [covT, hi, blk_all.2 HA.out]; simp [h20]
          have HBK := HA
          have HE5 := Lib.hid hib.2
          obtain ⟨j, rfl⟩ := Int.eq_ofNat_of_zero_le hib.1
          have HT := Lib.hid hT
          obtain ⟨p, hp⟩ : ∃ p, p = 2 ^ j := ⟨_, rfl⟩
          have hp32 := pow5 (n := (j : Int)) hib.1 hib.2
          rw [Int.toNat_natCast, ← hp] at hp32
          have htab : tabOf (j : Int) (fun s => covTo xs s k) = tabTo (fun s => covTo xs s k) p := by simp [tabOf, hp]
          have HTB := Lib.hid htab
          have HTL := Lib.hid (tabTo_length (fun s => covTo xs s k))
          have HP := Lib.hid hp
          clear htab hp hT
          go_wp2_with fail
          go_loopw [7, 8] (fun v i wr => ∃ s : Nat, i = .int .i64 s ∧ s ≤ p ∧ OwnI wr (w.heap.size + 1) 3 .i64 v (tabTo (fun s => covTo xs s k) s) ∧ Below w.heap.size w wr ∧ FBox wr (w.heap.size) 27 0 none 0 0) (fun _ i _ => p - (intOf i).toNat)
          case atStart => exact ⟨0, rfl, Nat.zero_le _, by (first | exact World.ownsRow_made wr #[] 0 fr.lt (by decide) rfl | (have h := World.ownsRow_made (base := w.heap.size + 1) (e := 3) (size := 1) wr #[] 0 (by have := fr.lt; first | omega | (simp only [World.size_alloc] at *; omega)) (by decide) rfl; (try simp only [World.size_alloc] at h); exact h)), bel.alloc bel.size _, fr.alloc _⟩
          case round =>
            clear bel fr
            obtain ⟨s, rfl, hs, hown, hb, fr⟩ := hrel
            have hB : w.heap.size + 1 ≤ wr.heap.size := fr.lt
            by_cases hlt2 : s < p
            · have HBD := Lib.hid (cov_bd (s := s) HBK.out)
              have HSC := Lib.hid (tabTo_succ (fun s => covTo xs s k) s)
              have hlen := HTL.out s
              obtain ⟨hz, hs1, hs2⟩ := shl_facts j p HP.out (by omega)
              go_wp2_with fail
              clear hz hs1 hs2
              go_loopw [9, 10] (fun v i wr' => ∃ i' : Nat, i = .int .i64 i' ∧ i' ≤ k ∧ v = .int .i64 (covTo xs s i') ∧ wr' = wr) (fun _ i _ => k - (intOf i).toNat)
              case atStart => exact ⟨0, rfl, Nat.zero_le _, rfl, rfl⟩
              case round =>
                obtain ⟨i', rfl, hki, rfl, rfl⟩ := hrel
                by_cases hlt3 : i' < k
                · skip
                  obtain ⟨b3, off3, rfl, hblt3, hc3⟩ := (h.below hb).at_ (by omega)
                  have g0 : wr.cell? ⟨b3, off3 + i' * 2, none⟩ = some (.int .i64 (xs.getD (i' * 2) 0)) := hc3 (i' * 2) (by omega)
                  have g1 : wr.cell? ⟨b3, off3 + i' * 2 + 1, none⟩ = some (.int .i64 (xs.getD (i' * 2 + 1) 0)) := hc3 (i' * 2 + 1) (by omega)
                  obtain ⟨t0, t1, t2, t3⟩ := blk_set (HBK.out i' (by omega)) HE5.out
                  have hbd := HBD.out i' (by omega)
                  have hY := fun h => cov_yes (xs := xs) (s := s) (k := i') h
                  have hN := fun h => cov_non (xs := xs) (s := s) (k := i') h
                  obtain ⟨x, hx⟩ : ∃ x, x = xs.getD (i' * 2) 0 := ⟨_, rfl⟩
                  obtain ⟨y, hy⟩ : ∃ y, y = xs.getD (i' * 2 + 1) 0 := ⟨_, rfl⟩
                  obtain ⟨q, hq⟩ : ∃ q, q = covTo xs s i' := ⟨_, rfl⟩
                  rw [← hx] at g0 t0 t1 hY hN
                  rw [← hy] at g1 t2 t3 hY
                  rw [← hq] at hbd hY hN ⊢
                  obtain ⟨xn, rfl⟩ := Int.eq_ofNat_of_zero_le t0
                  have hcm : bits .and .i64 (s : Int) (xn : Int) = bits .and .i64 (xn : Int) (s : Int) := and_comm_fin ⟨s, by omega⟩ ⟨xn, by omega⟩
                  have hw : IntKind.i64.wrap (q + y) = q + y := IntWalk.i64_in _ (by omega)
                  have hi0 : (0 : Int) ≤ i' := by omega
                  have hi1 : (i' : Int) < (k : Int) := by omega
                  clear hc3 hx hy hq
                  obtain ⟨v, hv⟩ : ∃ v, v = bits .and .i64 (xn : Int) (s : Int) := ⟨_, rfl⟩
                  have hv2 : bits .and .i64 (s : Int) (xn : Int) = v := by rw [hv]; exact hcm
                  rw [← hv] at hY hN
                  cases hz : (v != 0) with
                  | true =>
                    have HS := Lib.hid (hY hz)
                    have hvv := hv2
                    clear hY hN hcm hv
                    go_wp2
                    go_roundw
                    case rel => exact ⟨i' + 1, by go_num, by omega, by rw [HS.out], by first | rfl | trivial⟩
                    case measure => simp [intOf]; omega
                  | false =>
                    have HS := Lib.hid (hN hz)
                    have hvv := hv2
                    clear hY hN hcm hv
                    go_wp2
                    go_roundw
                    case rel => exact ⟨i' + 1, by go_num, by omega, by rw [HS.out], by first | rfl | trivial⟩
                    case measure => simp [intOf]; omega
                · obtain rfl : i' = k := by omega
                  go_wp2_with (at_builtin; (refine wpList_app EI (base := w.heap.size + 1) (v := u7) (xs := tabTo (fun s => covTo xs s i') s) (us := [covTo xs s i']) (g := wr.heap.size) (n := 1) (c := 1) rfl (.tmp 75) (.tmp 77) rfl ?_ ?_ rfl rfl rfl ?_ ?_ ?_; (exact hown.alloc _); (exact heap_alloc_new wr _); (show _ + 1 ≤ _; omega); (exact le_alloc hB _); intro v' w2 hown1 hgrow))
                  have hb1 : Below w.heap.size w w2 := below_grown (hb.alloc hb.size _) (hown.alloc _) hgrow (by omega) (by simp; omega)
                  have fr' := (fr.alloc _).grown hgrow (row_apart hown.range (.inl (by omega)))
                  go_roundw
                  case rel => exact ⟨s + 1, by go_num, by omega, by rw [HSC.out]; exact hown1, hb1, fr'⟩
                  case measure => simp [intOf]; omega
            · obtain rfl : s = p := by omega
              obtain ⟨hz, hs1, hs2⟩ := shl_facts j s HP.out (by omega)
              obtain ⟨a2, c2, hv, _⟩ := hown.form
              rw [HTL.out] at hv
              subst hv
              cases hI : isFun ((j : Int)) (tabTo (fun s => covTo xs s k) s) with
              | false =>
                go_wp2_with fail
                refine (c_l2Made_no _ _ _ _ _ _ hown.row (by omega) hI).mono ?_
                rintro e w2 ⟨rfl, hb2⟩
                replace fr := fr.below hb2
                have kr0 := fr.c0
                have kr1 := fr.c1
                have krf := fr.free
                replace hown := hown.below hb2
                replace hb := hb.trans (hb2.mono hb.size)
                have hlt2 := fr.lt
                go_wp2_with fail
                refine bodyPost_ret (v := .tuple #[.agg #[.int .i64 0, .slice none 0 0], .bool false]) (by simp [results, Try.results26, go_sem, kr0, kr1, hlt2]) rfl ?_
                rw [HTB.out]
                obtain ⟨hN, hL, hB'⟩ := g_bad (b := covT (j : Int) k xs) hI
                rw [hN, hL, hB']
                exact ⟨none, 0, rfl, OwnI.nil _ _ _ _, by simp, below_set2a hb (by omega) _ _ _⟩
              | true =>
                go_wp2_with fail
                refine (c_l2Made_yes _ _ _ _ _ _ hown.row (by omega) hI).mono ?_
                rintro e w2 ⟨rfl, hb2⟩
                replace fr := fr.below hb2
                have kr0 := fr.c0
                have kr1 := fr.c1
                have krf := fr.free
                replace hown := hown.below hb2
                replace hb := hb.trans (hb2.mono hb.size)
                have hlt2 := fr.lt
                go_wp2_with fail
                refine bodyPost_ret (v := .tuple #[.agg #[.int .i64 ((j : Int)), .slice a2 s c2], .bool true]) (by simp [results, Try.results26, go_sem, kr0, kr1, hlt2]) rfl ?_
                rw [HTB.out]
                obtain ⟨hN, hL, hB'⟩ := g_yes (n := (j : Int)) HT.out hI
                rw [hN, hL, hB']
                refine ⟨a2, c2, by rw [HTL.out], ?_, by rw [HTL.out]; omega, below_set2a hb (by omega) _ _ _⟩
                rw [HTL.out]
                exact (((own_set2 hown (by omega) _ _).alloc _).base (by omega))
    · have H20 : decide (n ≤ 20) = false := by simp [h20]
      obtain ⟨hN, hL, hB⟩ := g_no (b := covT e0 n xs) (n := e0) (xs := tabOf (e0) (fun s => covTo xs s n)) (by simp [covT, H20])
      rw [hN, hL, hB]
      clear hN hL hB
      go_enter Try.func26, Try.ntmps26
      go_wp2_with fail
      refine (c_l1In _ _ _ _).mono ?_
      rw [hi]
      rintro e w' ⟨rfl, rfl⟩
      go_wp2_with fail
      refine bodyPost_ret (v := .tuple #[.agg #[.int .i64 0, .slice none 0 0], .bool false]) (by simp [results, Try.results26, go_sem, kr0, kr1]) rfl ?_
      exact ⟨none, 0, rfl, OwnI.nil _ _ _ _, by simp, by first | exact (bel.setCell (by show w.heap.size ≤ w.heap.size; omega) _).setCell (by show w.heap.size ≤ w.heap.size; omega) _ | exact bel⟩
end Go.Proofs.Ythiokplkimdojaa
