/- Contracts of CutFunction and DirectedCut, both packages. -/
import Derived.Test.YthiokplkimdojaaBox
import Derived.Test.YthiokplkimdojaaEdgeS
import Derived.Test.YthiokplkimdojaaWeigh
namespace Go.Proofs.Ythiokplkimdojaa
set_option linter.unusedSimpArgs false
set_option linter.unusedVariables false
open Go.RowKit

def edgTo (cnt : Bool → Bool → Bool) (xs : List Int) (s : Nat) : Nat → Int
  | 0 => 0
  | k + 1 => if cnt (bitB (s : Int) (xs.getD (k * 3) 0).toNat) (bitB (s : Int) (xs.getD (k * 3 + 1) 0).toNat) then edgTo cnt xs s k + xs.getD (k * 3 + 2) 0 else edgTo cnt xs s k
theorem edg_yes {cnt : Bool → Bool → Bool} {xs : List Int} {s k : Nat} (h : cnt (bitB (s : Int) (xs.getD (k * 3) 0).toNat) (bitB (s : Int) (xs.getD (k * 3 + 1) 0).toNat) = true) : edgTo cnt xs s (k + 1) = edgTo cnt xs s k + xs.getD (k * 3 + 2) 0 := by rw [edgTo, if_pos h]
theorem edg_no {cnt : Bool → Bool → Bool} {xs : List Int} {s k : Nat} (h : cnt (bitB (s : Int) (xs.getD (k * 3) 0).toNat) (bitB (s : Int) (xs.getD (k * 3 + 1) 0).toNat) = false) : edgTo cnt xs s (k + 1) = edgTo cnt xs s k := by rw [edgTo, if_neg (by rw [h]; exact Bool.false_ne_true)]
def edgB (e0 : Int) (xs : List Int) (k : Nat) : Bool := inB (xs.getD (k * 3) 0) 0 (e0 - 1) && inB (xs.getD (k * 3 + 1) 0) 0 (e0 - 1) && inB (xs.getD (k * 3 + 2) 0) 0 20
def edgT (e0 : Int) (n : Nat) (xs : List Int) : Bool := inB e0 0 5 && decide (n ≤ 20) && (List.range n).all (edgB e0 xs)
theorem edg_all {e0 : Int} {n : Nat} {xs : List Int} : (List.range n).all (edgB e0 xs) = true ↔ ∀ k, k < n → edgB e0 xs k = true := by
  simp [List.all_eq_true]
theorem edgT_no {e0 : Int} {n : Nat} {xs : List Int} {k : Nat} (hk : k < n) (h : edgB e0 xs k = false) : edgT e0 n xs = false := by
  have : (List.range n).all (edgB e0 xs) = false := by
    cases hq : (List.range n).all (edgB e0 xs) with
    | false => rfl
    | true => rw [edg_all.1 hq k hk] at h; exact absurd h (by decide)
  rw [edgT, this, Bool.and_false]
theorem edgT_true {e0 : Int} {n : Nat} {xs : List Int} (h : edgT e0 n xs = true) : (0 ≤ e0 ∧ e0 ≤ 5) ∧ n ≤ 20 ∧ ∀ k, k < n → edgB e0 xs k = true := by
  simp only [edgT, Bool.and_eq_true, decide_eq_true_eq] at h
  exact ⟨inB_true.1 h.1.1, h.1.2, edg_all.1 h.2⟩
theorem edg_bd {cnt : Bool → Bool → Bool} {e0 : Int} {xs : List Int} {s n : Nat} (hb : ∀ k, k < n → edgB e0 xs k = true) : ∀ k : Nat, k ≤ n → 0 ≤ edgTo cnt xs s k ∧ edgTo cnt xs s k ≤ 20 * (k : Int)
  | 0, _ => by simp [edgTo]
  | k + 1, h => by
    have h1 := edg_bd (cnt := cnt) (s := s) hb k (by omega)
    have h2 := hb k (by omega)
    simp only [edgB, Bool.and_eq_true] at h2
    have h3 := inB_true.1 h2.2
    rw [edgTo]
    split <;> omega
theorem edg_in {e0 : Int} {xs : List Int} {k : Nat} (h : edgB e0 xs k = true) (h5 : e0 ≤ 5) : (0 ≤ xs.getD (k * 3) 0 ∧ xs.getD (k * 3) 0 < 5) ∧ (0 ≤ xs.getD (k * 3 + 1) 0 ∧ xs.getD (k * 3 + 1) 0 < 5) ∧ 0 ≤ xs.getD (k * 3 + 2) 0 ∧ xs.getD (k * 3 + 2) 0 ≤ 20 := by
  simp only [edgB, Bool.and_eq_true] at h
  have h1 := inB_true.1 h.1.1
  have h2 := inB_true.1 h.1.2
  have h3 := inB_true.1 h.2
  omega
theorem bit_val (s f : Nat) (hs : s < 4294967296) : bits .and .i64 ((s : Int) / 2 ^ f) 1 = if bitB (s : Int) f then 1 else 0 := by
  obtain ⟨h1, h2⟩ := bit_facts1 s f hs
  rw [h1]
  cases hb : bitB (s : Int) f with
  | true => rw [hb] at h2; simpa using h2
  | false =>
    rw [hb] at h2
    have : ¬ (s : Int) / 2 ^ f % 2 = 1 := by simpa using h2
    rw [if_neg (by decide)]
    omega
def cntCut (x y : Bool) : Bool := x != y
def cntDir (x y : Bool) : Bool := x && !y
set_option maxRecDepth 10000 in
set_option maxHeartbeats 600000 in
theorem c_edgesOk (e0 : Int) (a : Option Addr) (n c : Nat) (xs : List Int) (w : World) (h : Row .i64 w a (n * 3) xs) (hn : n ≤ 1048576) :
    Calls Try.prog 100 #[.int .i64 e0, .slice a n c] w fun e w' => e = .returned (.bool (edgT e0 n xs)) ∧ Below w.heap.size w w' := by
  cases hi : inB e0 0 5 with
  | false =>
    have hT : edgT e0 n xs = false := by simp [edgT, hi]
    rw [hT]
    clear hT
    go_enter Try.func100, Try.ntmps100
    go_wp2_with fail
    refine (c_within _ _ _ _).mono ?_
    rw [hi]
    rintro e w' ⟨rfl, rfl⟩
    go_wp2
    go_ret
    exact ⟨rfl, Below.refl _ _⟩
  | true =>
    have hib := inB_true.1 hi
    by_cases h20 : n ≤ 20
    · go_enter Try.func100, Try.ntmps100
      go_wp2_with fail
      refine (c_within _ _ _ _).mono ?_
      rw [hi]
      rintro e w' ⟨rfl, rfl⟩
      go_wp2_with fail
      go_loopw [17] (fun i wr => ∃ k : Nat, i = .int .i64 k ∧ k ≤ n ∧ (∀ j, j < k → edgB e0 xs j = true) ∧ Below w.heap.size w wr) (fun i _ => n - (intOf i).toNat)
      case atStart => exact ⟨0, rfl, Nat.zero_le _, fun j hj => by omega, Below.refl _ _⟩
      case round =>
        obtain ⟨k, rfl, hk, hall, bel⟩ := hrel
        have HA := Lib.hid hall
        clear hall
        by_cases hlt : k < n
        · obtain ⟨b3, off3, rfl, hblt3, hc3⟩ := (h.below bel).at_ (by omega)
          have g0 : wr.cell? ⟨b3, off3 + k * 3, none⟩ = some (.int .i64 (xs.getD (k * 3) 0)) := hc3 (k * 3) (by omega)
          have g1 : wr.cell? ⟨b3, off3 + k * 3 + 1, none⟩ = some (.int .i64 (xs.getD (k * 3 + 1) 0)) := hc3 (k * 3 + 1) (by omega)
          have g2 : wr.cell? ⟨b3, off3 + k * 3 + 2, none⟩ = some (.int .i64 (xs.getD (k * 3 + 2) 0)) := hc3 (k * 3 + 2) (by omega)
          have hi0 : (0 : Int) ≤ k := by omega
          have hi1 : (k : Int) < (n : Int) := by omega
          have HBL := Lib.hid (show edgB e0 xs k = (inB (xs.getD (k * 3) 0) 0 (e0 - 1) && inB (xs.getD (k * 3 + 1) 0) 0 (e0 - 1) && inB (xs.getD (k * 3 + 2) 0) 0 20) from rfl)
          obtain ⟨x, hx⟩ : ∃ x, x = xs.getD (k * 3) 0 := ⟨_, rfl⟩
          obtain ⟨y, hy⟩ : ∃ y, y = xs.getD (k * 3 + 1) 0 := ⟨_, rfl⟩
          obtain ⟨z, hz⟩ : ∃ z, z = xs.getD (k * 3 + 2) 0 := ⟨_, rfl⟩
          rw [← hx] at g0
          rw [← hy] at g1
          rw [← hz] at g2
          rw [← hx, ← hy, ← hz] at HBL
          clear hc3 hx hy hz
          cases h0 : inB x 0 (e0 - 1) with
          | false =>
            go_wp2_with fail
            refine (c_isElement _ _ _ hib.1 (by omega)).mono ?_
            rw [h0]
            rintro e w' ⟨rfl, rfl⟩
            replace bel := bel.alloc bel.size (.cells #[.int .i64 x, .int .i64 y, .int .i64 z] 76)
            go_wp2
            go_ret
            exact ⟨ret_bool (by rw [edgT_no hlt (by rw [HBL.out]; simp [h0])]), bel⟩
          | true =>
            cases h1 : inB y 0 (e0 - 1) with
            | false =>
              go_wp2_with fail
              refine (c_isElement _ _ _ hib.1 (by omega)).mono ?_
              rw [h0]
              rintro e w' ⟨rfl, rfl⟩
              go_wp2_with fail
              refine (c_isElement _ _ _ hib.1 (by omega)).mono ?_
              rw [h1]
              rintro e w' ⟨rfl, rfl⟩
              replace bel := bel.alloc bel.size (.cells #[.int .i64 x, .int .i64 y, .int .i64 z] 76)
              go_wp2
              go_ret
              exact ⟨ret_bool (by rw [edgT_no hlt (by rw [HBL.out]; simp [h0, h1])]), bel⟩
            | true =>
              cases h2 : inB z 0 20 with
              | false =>
                go_wp2_with fail
                refine (c_isElement _ _ _ hib.1 (by omega)).mono ?_
                rw [h0]
                rintro e w' ⟨rfl, rfl⟩
                go_wp2_with fail
                refine (c_isElement _ _ _ hib.1 (by omega)).mono ?_
                rw [h1]
                rintro e w' ⟨rfl, rfl⟩
                go_wp2_with fail
                refine (c_within _ _ _ _).mono ?_
                rw [h2]
                rintro e w' ⟨rfl, rfl⟩
                replace bel := bel.alloc bel.size (.cells #[.int .i64 x, .int .i64 y, .int .i64 z] 76)
                go_wp2
                go_ret
                exact ⟨ret_bool (by rw [edgT_no hlt (by rw [HBL.out]; simp [h0, h1, h2])]), bel⟩
              | true =>
                have hbk : edgB e0 xs k = true := by rw [HBL.out, h0, h1, h2]; rfl
                have hall : ∀ j, j < k + 1 → edgB e0 xs j = true := fun j hj => by
                  rcases Nat.lt_or_eq_of_le (Nat.le_of_lt_succ hj) with h | rfl
                  · exact HA.out j h
                  · exact hbk
                have HB2 := Lib.hid hall
                clear hall hbk
                go_wp2_with fail
                refine (c_isElement _ _ _ hib.1 (by omega)).mono ?_
                rw [h0]
                rintro e w' ⟨rfl, rfl⟩
                go_wp2_with fail
                refine (c_isElement _ _ _ hib.1 (by omega)).mono ?_
                rw [h1]
                rintro e w' ⟨rfl, rfl⟩
                go_wp2_with fail
                refine (c_within _ _ _ _).mono ?_
                rw [h2]
                rintro e w' ⟨rfl, rfl⟩
                replace bel := bel.alloc bel.size (.cells #[.int .i64 x, .int .i64 y, .int .i64 z] 76)
                go_wp2
                go_roundw
                case rel => exact ⟨k + 1, by go_num, by omega, HB2.out, bel⟩
                case measure => simp [intOf]; omega
        · obtain rfl : k = n := by omega
          have HT := Lib.hid (show edgT e0 k xs = true by rw [edgT, hi, edg_all.2 HA.out]; simp [h20])
          go_wp2
          go_ret
          exact ⟨ret_bool HT.out.symm, bel⟩
    · have hT : edgT e0 n xs = false := by simp [edgT, h20]
      rw [hT]
      clear hT
      go_enter Try.func100, Try.ntmps100
      go_wp2_with fail
      refine (c_within _ _ _ _).mono ?_
      rw [hi]
      rintro e w' ⟨rfl, rfl⟩
      go_wp2
      go_ret
      exact ⟨rfl, Below.refl _ _⟩
set_option maxRecDepth 10000 in
set_option maxHeartbeats 600000 in
theorem c_l4Edges (e0 : Int) (a : Option Addr) (n c : Nat) (xs : List Int) (w : World) (h : Row .i64 w a (n * 3) xs) (hn : n ≤ 1048576) (hi : inB e0 0 5 = true) :
    Calls Try.prog 80 #[.int .i64 e0, .slice a n c] w fun e w' => e = .returned (.bool (edgT e0 n xs)) ∧ Below w.heap.size w w' := by
  have hib := inB_true.1 hi
  have hwe : IntKind.i64.wrap (e0 - 1) = e0 - 1 := IntWalk.i64_in _ (by omega)
  go_enter Try.func80, Try.ntmps80
  go_wp2_with fail
  go_loopw [5] (fun i wr => ∃ k : Nat, i = .int .i64 k ∧ k ≤ n ∧ (∀ j, j < k → edgB e0 xs j = true) ∧ Below w.heap.size w wr) (fun i _ => n - (intOf i).toNat)
  case atStart => exact ⟨0, rfl, Nat.zero_le _, fun j hj => by omega, Below.refl _ _⟩
  case round =>
    obtain ⟨k, rfl, hk, hall, bel⟩ := hrel
    have HA := Lib.hid hall
    clear hall
    by_cases hlt : k < n
    · obtain ⟨b3, off3, rfl, hblt3, hc3⟩ := (h.below bel).at_ (by omega)
      have g0 : wr.cell? ⟨b3, off3 + k * 3, none⟩ = some (.int .i64 (xs.getD (k * 3) 0)) := hc3 (k * 3) (by omega)
      have g1 : wr.cell? ⟨b3, off3 + k * 3 + 1, none⟩ = some (.int .i64 (xs.getD (k * 3 + 1) 0)) := hc3 (k * 3 + 1) (by omega)
      have g2 : wr.cell? ⟨b3, off3 + k * 3 + 2, none⟩ = some (.int .i64 (xs.getD (k * 3 + 2) 0)) := hc3 (k * 3 + 2) (by omega)
      have hi0 : (0 : Int) ≤ k := by omega
      have hi1 : (k : Int) < (n : Int) := by omega
      have HBL := Lib.hid (show edgB e0 xs k = (inB (xs.getD (k * 3) 0) 0 (e0 - 1) && inB (xs.getD (k * 3 + 1) 0) 0 (e0 - 1) && inB (xs.getD (k * 3 + 2) 0) 0 20) from rfl)
      obtain ⟨x, hx⟩ : ∃ x, x = xs.getD (k * 3) 0 := ⟨_, rfl⟩
      obtain ⟨y, hy⟩ : ∃ y, y = xs.getD (k * 3 + 1) 0 := ⟨_, rfl⟩
      obtain ⟨z, hz⟩ : ∃ z, z = xs.getD (k * 3 + 2) 0 := ⟨_, rfl⟩
      rw [← hx] at g0
      rw [← hy] at g1
      rw [← hz] at g2
      rw [← hx, ← hy, ← hz] at HBL
      clear hc3 hx hy hz
      cases h0 : inB x 0 (e0 - 1) with
      | false =>
        go_wp2_with fail
        refine (c_l1In _ _ _ _).mono ?_
        rw [hi]
        rintro e w' ⟨rfl, rfl⟩
        go_wp2_with fail
        refine (c_l1In _ _ _ _).mono ?_
        rw [h0]
        rintro e w' ⟨rfl, rfl⟩
        go_wp2
        go_ret
        exact ⟨ret_bool (by rw [edgT_no hlt (by rw [HBL.out]; simp [h0])]), bel⟩
      | true =>
        cases h1 : inB y 0 (e0 - 1) with
        | false =>
          go_wp2_with fail
          refine (c_l1In _ _ _ _).mono ?_
          rw [hi]
          rintro e w' ⟨rfl, rfl⟩
          go_wp2_with fail
          refine (c_l1In _ _ _ _).mono ?_
          rw [h0]
          rintro e w' ⟨rfl, rfl⟩
          go_wp2_with fail
          refine (c_l1In _ _ _ _).mono ?_
          rw [h1]
          rintro e w' ⟨rfl, rfl⟩
          go_wp2
          go_ret
          exact ⟨ret_bool (by rw [edgT_no hlt (by rw [HBL.out]; simp [h0, h1])]), bel⟩
        | true =>
          cases h2 : inB z 0 20 with
          | false =>
            go_wp2_with fail
            refine (c_l1In _ _ _ _).mono ?_
            rw [hi]
            rintro e w' ⟨rfl, rfl⟩
            go_wp2_with fail
            refine (c_l1In _ _ _ _).mono ?_
            rw [h0]
            rintro e w' ⟨rfl, rfl⟩
            go_wp2_with fail
            refine (c_l1In _ _ _ _).mono ?_
            rw [h1]
            rintro e w' ⟨rfl, rfl⟩
            go_wp2_with fail
            refine (c_l1In _ _ _ _).mono ?_
            rw [h2]
            rintro e w' ⟨rfl, rfl⟩
            go_wp2
            go_ret
            exact ⟨ret_bool (by rw [edgT_no hlt (by rw [HBL.out]; simp [h0, h1, h2])]), bel⟩
          | true =>
            have hbk : edgB e0 xs k = true := by rw [HBL.out, h0, h1, h2]; rfl
            have hall : ∀ j, j < k + 1 → edgB e0 xs j = true := fun j hj => by
              rcases Nat.lt_or_eq_of_le (Nat.le_of_lt_succ hj) with h | rfl
              · exact HA.out j h
              · exact hbk
            have HB2 := Lib.hid hall
            clear hall hbk
            go_wp2_with fail
            refine (c_l1In _ _ _ _).mono ?_
            rw [hi]
            rintro e w' ⟨rfl, rfl⟩
            go_wp2_with fail
            refine (c_l1In _ _ _ _).mono ?_
            rw [h0]
            rintro e w' ⟨rfl, rfl⟩
            go_wp2_with fail
            refine (c_l1In _ _ _ _).mono ?_
            rw [h1]
            rintro e w' ⟨rfl, rfl⟩
            go_wp2_with fail
            refine (c_l1In _ _ _ _).mono ?_
            rw [h2]
            rintro e w' ⟨rfl, rfl⟩
            go_wp2
            go_roundw
            case rel => exact ⟨k + 1, by go_num, by omega, HB2.out, bel⟩
            case measure => simp [intOf]; omega
    · obtain rfl : k = n := by omega
      have HT := Lib.hid (show edgT e0 k xs = decide ((k : Int) ≤ 20) by rw [edgT, hi, edg_all.2 HA.out, Bool.and_true, Bool.true_and]; congr 1; apply propext; omega)
      go_wp2
      go_ret
      exact ⟨ret_bool HT.out.symm, bel⟩
theorem c_cntCut (x y : Bool) (w : World) :
    Calls Try.prog 83 #[.bool x, .bool y] w fun e w' => e = .returned (.bool (cntCut x y)) ∧ w = w' := by
  cases x <;> cases y
  all_goals
    go_enter Try.func83, Try.ntmps83
    go_wp2
    go_ret
    exact ⟨rfl, rfl⟩
set_option maxRecDepth 10000 in
set_option maxHeartbeats 600000 in
theorem c_sumCut (e0 : Int) (a : Option Addr) (n c : Nat) (xs : List Int) (g1 g2 s : Nat) (w : World) (b1 : VBox w g1 47 (.slice a n c)) (b2 : VBox w g2 80 (.func (.func 83) #[] #[])) (h : Row .i64 w a (n * 3) xs) (h20 : n ≤ 20) (h5 : e0 ≤ 5) (hs : s < 32) (hb : ∀ k, k < n → edgB e0 xs k = true) :
    Calls Try.prog 101 #[.int .i64 s, .pointer (some ⟨g1, 0, none⟩), .pointer (some ⟨g2, 0, none⟩)] w fun e w' => e = .returned (.int .i64 (edgTo cntCut xs s n)) ∧ Below w.heap.size w w' := by
  have k1 := b1.c0
  have HBK := Lib.hid hb
  have HBD := Lib.hid (edg_bd (cnt := cntCut) (s := s) hb)
  have HE5 := Lib.hid h5
  have heg := enters_of Try.func83 (by kernel_rfl) rfl
  clear hb h5
  go_enter Try.func101, Try.ntmps101
  go_wp2_with fail
  go_loopw [5, 10] (fun v i wr => ∃ k : Nat, i = .int .i64 k ∧ k ≤ n ∧ v = .int .i64 (edgTo cntCut xs s k) ∧ Below w.heap.size w wr ∧ VBox wr g2 80 (.func (.func 83) #[] #[])) (fun _ i _ => n - (intOf i).toNat)
  case atStart => exact ⟨0, rfl, Nat.zero_le _, rfl, Below.refl _ _, b2⟩
  case round =>
    clear k1 b2
    obtain ⟨k, rfl, hk, rfl, bel, b2⟩ := hrel
    by_cases hlt : k < n
    · skip
      obtain ⟨b3, off3, rfl, hblt3, hc3⟩ := (h.below bel).at_ (by omega)
      have g0 : wr.cell? ⟨b3, off3 + k * 3, none⟩ = some (.int .i64 (xs.getD (k * 3) 0)) := hc3 (k * 3) (by omega)
      have g1 : wr.cell? ⟨b3, off3 + k * 3 + 1, none⟩ = some (.int .i64 (xs.getD (k * 3 + 1) 0)) := hc3 (k * 3 + 1) (by omega)
      have g2 : wr.cell? ⟨b3, off3 + k * 3 + 2, none⟩ = some (.int .i64 (xs.getD (k * 3 + 2) 0)) := hc3 (k * 3 + 2) (by omega)
      obtain ⟨t0, t1, t2, t3⟩ := edg_in (HBK.out k (by omega)) HE5.out
      have hbd := HBD.out k (by omega)
      have hY := fun h => edg_yes (cnt := cntCut) (xs := xs) (s := s) (k := k) h
      have hN := fun h => edg_no (cnt := cntCut) (xs := xs) (s := s) (k := k) h
      obtain ⟨x, hx⟩ : ∃ x, x = xs.getD (k * 3) 0 := ⟨_, rfl⟩
      obtain ⟨y, hy⟩ : ∃ y, y = xs.getD (k * 3 + 1) 0 := ⟨_, rfl⟩
      obtain ⟨z, hz⟩ : ∃ z, z = xs.getD (k * 3 + 2) 0 := ⟨_, rfl⟩
      obtain ⟨q, hq⟩ : ∃ q, q = edgTo cntCut xs s k := ⟨_, rfl⟩
      rw [← hx] at g0 t0 hY hN
      rw [← hy] at g1 t1 hY hN
      rw [← hz] at g2 t2 t3 hY
      rw [← hq] at hbd hY hN ⊢
      obtain ⟨f, rfl⟩ := Int.eq_ofNat_of_zero_le t0.1
      obtain ⟨t, rfl⟩ := Int.eq_ofNat_of_zero_le t1.1
      rw [Int.toNat_natCast, Int.toNat_natCast] at hY hN
      have hbf := bit_val s f (by omega)
      have hbt := bit_val s t (by omega)
      have hwq : IntKind.i64.wrap (q + z) = q + z := IntWalk.i64_in _ (by omega)
      have hwf : IntKind.u64.wrap (f : Int) = f := IntWalk.u64_in _ (by omega)
      have hwt : IntKind.u64.wrap (t : Int) = t := IntWalk.u64_in _ (by omega)
      have hf0 : (0 : Int) ≤ f := by omega
      have ht0 : (0 : Int) ≤ t := by omega
      have hi0 : (0 : Int) ≤ k := by omega
      have hi1 : (k : Int) < (n : Int) := by omega
      clear hc3 hx hy hz hq
      cases hcf : bitB (s : Int) f with
      | true =>
        rw [hcf] at hbf hY hN
        cases hct : bitB (s : Int) t with
        | true =>
          rw [hct] at hbt hY hN
          have HS := Lib.hid (hN rfl)
          simp only [if_pos, if_neg, Bool.false_eq_true, if_false, if_true] at hbf hbt
          clear hY hN hcf hct
          replace bel := bel.alloc bel.size (.cells #[.int .i64 f, .int .i64 t, .int .i64 z] 76)
          replace b2 := b2.alloc (.cells #[.int .i64 f, .int .i64 t, .int .i64 z] 76)
          have kb2 := b2.c0
          go_wp2_with fail
          refine (c_cntCut true true _).mono ?_
          rintro e w' ⟨rfl, rfl⟩
          go_wp2
          go_roundw
          case rel => exact ⟨k + 1, by go_num, by omega, by rw [HS.out], bel, b2⟩
          case measure => simp [intOf]; omega
        | false =>
          rw [hct] at hbt hY hN
          have HS := Lib.hid (hY rfl)
          simp only [if_pos, if_neg, Bool.false_eq_true, if_false, if_true] at hbf hbt
          clear hY hN hcf hct
          replace bel := bel.alloc bel.size (.cells #[.int .i64 f, .int .i64 t, .int .i64 z] 76)
          replace b2 := b2.alloc (.cells #[.int .i64 f, .int .i64 t, .int .i64 z] 76)
          have kb2 := b2.c0
          go_wp2_with fail
          refine (c_cntCut true false _).mono ?_
          rintro e w' ⟨rfl, rfl⟩
          go_wp2
          go_roundw
          case rel => exact ⟨k + 1, by go_num, by omega, by rw [HS.out], bel, b2⟩
          case measure => simp [intOf]; omega
      | false =>
        rw [hcf] at hbf hY hN
        cases hct : bitB (s : Int) t with
        | true =>
          rw [hct] at hbt hY hN
          have HS := Lib.hid (hY rfl)
          simp only [if_pos, if_neg, Bool.false_eq_true, if_false, if_true] at hbf hbt
          clear hY hN hcf hct
          replace bel := bel.alloc bel.size (.cells #[.int .i64 f, .int .i64 t, .int .i64 z] 76)
          replace b2 := b2.alloc (.cells #[.int .i64 f, .int .i64 t, .int .i64 z] 76)
          have kb2 := b2.c0
          go_wp2_with fail
          refine (c_cntCut false true _).mono ?_
          rintro e w' ⟨rfl, rfl⟩
          go_wp2
          go_roundw
          case rel => exact ⟨k + 1, by go_num, by omega, by rw [HS.out], bel, b2⟩
          case measure => simp [intOf]; omega
        | false =>
          rw [hct] at hbt hY hN
          have HS := Lib.hid (hN rfl)
          simp only [if_pos, if_neg, Bool.false_eq_true, if_false, if_true] at hbf hbt
          clear hY hN hcf hct
          replace bel := bel.alloc bel.size (.cells #[.int .i64 f, .int .i64 t, .int .i64 z] 76)
          replace b2 := b2.alloc (.cells #[.int .i64 f, .int .i64 t, .int .i64 z] 76)
          have kb2 := b2.c0
          go_wp2_with fail
          refine (c_cntCut false false _).mono ?_
          rintro e w' ⟨rfl, rfl⟩
          go_wp2
          go_roundw
          case rel => exact ⟨k + 1, by go_num, by omega, by rw [HS.out], bel, b2⟩
          case measure => simp [intOf]; omega
    · obtain rfl : k = n := by omega
      go_wp2
      go_ret
      exact ⟨rfl, bel⟩
set_option maxRecDepth 10000 in
set_option maxHeartbeats 600000 in
theorem c_sumOfCut (e0 : Int) (a : Option Addr) (n c : Nat) (xs : List Int) (w : World) (h : Row .i64 w a (n * 3) xs) (hn : n ≤ 1048576) :
    Calls Try.prog 82 #[.int .i64 e0, .slice a n c, .func (.func 83) #[] #[]] w (RetFun 3 (gN (edgT e0 n xs) (e0) (tabOf (e0) (fun s => edgTo cntCut xs s n))) (gL (edgT e0 n xs) (e0) (tabOf (e0) (fun s => edgTo cntCut xs s n))) (gB (edgT e0 n xs) (e0) (tabOf (e0) (fun s => edgTo cntCut xs s n))) w) := by
  have hmf : ∀ (fn : Fn) (first cap : Array Value) (w : World), (Instr.makeFunc fn first cap).run Try.prog w = .ok (.func fn first cap) w := fun _ _ _ _ => rfl
  have bel := Below.refl w.heap.size w
  have bl := VBox.new w 47 (.slice a n c)
  replace bel := bel.alloc bel.size (.cells #[.slice a n c] 47)
  have bf := VBox.new (w.alloc (.cells #[.slice a n c] 47)) 80 (.func (.func 83) #[] #[])
  rw [World.size_alloc] at bf
  replace bl := bl.alloc (.cells #[.func (.func 83) #[] #[]] 80)
  replace bel := bel.alloc bel.size (.cells #[.func (.func 83) #[] #[]] 80)
  have fr := FBox.new ((w.alloc (.cells #[.slice a n c] 47)).alloc (.cells #[.func (.func 83) #[] #[]] 80)) 27 0 none 0 0
  rw [World.size_alloc, World.size_alloc] at fr
  replace bl := bl.alloc (.cells #[.int .i64 0, .slice none 0 0] 27)
  replace bf := bf.alloc (.cells #[.int .i64 0, .slice none 0 0] 27)
  replace bel := bel.alloc bel.size (.cells #[.int .i64 0, .slice none 0 0] 27)
  have kbl0 := bl.c0
  have kbf0 := bf.c0
  have kr0 := fr.c0
  have kr1 := fr.c1
  have krf := fr.free
  cases hT : edgT e0 n xs with
  | false =>
    rw [← hT]
    obtain ⟨hN, hL, hB⟩ := g_no (b := edgT e0 n xs) (n := e0) (xs := tabOf (e0) (fun s => edgTo cntCut xs s n)) (by simp [hT, hT])
    rw [hN, hL, hB]
    clear hN hL hB
    go_enter Try.func82, Try.ntmps82
    go_wp2_with fail
    refine (c_edgesOk _ _ _ _ _ _ (h.below bel) hn).mono ?_
    rw [hT]
    rintro e w1 ⟨rfl, hb1⟩
    replace bel := bel.trans (hb1.mono bel.size)
    replace bl := bl.below hb1
    replace bf := bf.below hb1
    replace fr := fr.below hb1
    replace kbl0 := bl.c0
    replace kbf0 := bf.c0
    replace kr0 := fr.c0
    replace kr1 := fr.c1
    replace krf := fr.free
    go_wp2_with fail
    refine bodyPost_ret (v := .tuple #[.agg #[.int .i64 0, .slice none 0 0], .bool false]) (by simp [results, Try.results82, go_sem, kr0, kr1]) rfl ?_
    exact ⟨none, 0, rfl, OwnI.nil _ _ _ _, by simp, by first | exact (bel.setCell (by show w.heap.size ≤ w.heap.size + 1 + 1; omega) _).setCell (by show w.heap.size ≤ w.heap.size + 1 + 1; omega) _ | exact bel⟩
  | true =>
    obtain ⟨hib, h20, hbk⟩ := edgT_true hT
    have hp32 := pow5 hib.1 hib.2
    have HBK := Lib.hid hbk
    clear hbk
    rw [← hT]
    obtain ⟨hN, hL, hB⟩ := g_mid (b := edgT e0 n xs) (n := e0) (xs := tabOf (e0) (fun s => edgTo cntCut xs s n)) (by simp [hT, hT])
    rw [hN, hL, hB]
    clear hN hL hB
    obtain ⟨tab, htab⟩ : ∃ t, t = tabOf (e0) (fun s => edgTo cntCut xs s n) := ⟨_, rfl⟩
    rw [← htab]
    have HTAB := Lib.hid htab
    clear htab
    go_enter Try.func82, Try.ntmps82
    go_wp2_with fail
    refine (c_edgesOk _ _ _ _ _ _ (h.below bel) hn).mono ?_
    rw [hT]
    rintro e w1 ⟨rfl, hb1⟩
    replace bel := bel.trans (hb1.mono bel.size)
    replace bl := bl.below hb1
    replace bf := bf.below hb1
    replace fr := fr.below hb1
    replace kbl0 := bl.c0
    replace kbf0 := bf.c0
    replace kr0 := fr.c0
    replace kr1 := fr.c1
    replace krf := fr.free
    have hlt1 := fr.lt
    go_wp2_with fail
    refine (c_makeFunction _ _ _ (fun s => edgTo cntCut xs s n) _ hib.1 hib.2 (enters_of Try.func101 (by kernel_rfl) rfl) (fun s w' hs hb => by rw [app2]; exact c_sumCut e0 a n c xs w.heap.size (w.heap.size + 1) s w' (bl.below hb) (bf.below hb) ((h.below bel).below hb) h20 hib.2 (by omega) HBK.out)).mono ?_
    rw [← HTAB.out]
    rintro e w2 ⟨a2, c2, rfl, ho, hlen, hb2⟩
    obtain ⟨wB, hwB⟩ : ∃ z, z = fr.lt := ⟨_, rfl⟩
    clear hwB
    have hfr := fr.lt
    replace bel := bel.trans (hb2.mono bel.size)
    replace fr := fr.below hb2
    replace kr0 := fr.c0
    replace kr1 := fr.c1
    replace krf := fr.free
    go_wp2_with fail
    refine bodyPost_ret (v := .tuple #[.agg #[.int .i64 (madeN (e0) tab), .slice a2 (madeL (e0) tab).length c2], .bool (isFun (e0) tab)]) (by simp [results, Try.results82, go_sem, kr0, kr1]) rfl ?_
    refine ⟨a2, c2, rfl, ?_, hlen, (bel.setCell (by show w.heap.size ≤ w.heap.size + 1 + 1; omega) _).setCell (by show w.heap.size ≤ w.heap.size + 1 + 1; omega) _⟩
    exact ((ho.base (by first | omega | (simp only [World.size_setCell, World.size_alloc] at *; omega))).setFar ⟨w.heap.size + 1 + 1, 0, none⟩ _ (.inr (row_apart ho.range (.inl (by show w.heap.size + 1 + 1 < _; first | omega | (simp only [World.size_setCell, World.size_alloc] at *; omega)))))).setFar ⟨w.heap.size + 1 + 1, 1, none⟩ _ (.inr (row_apart ho.range (.inl (by show w.heap.size + 1 + 1 < _; first | omega | (simp only [World.size_setCell, World.size_alloc] at *; omega)))))
set_option maxHeartbeats 600000 in
theorem c_impl_CutFunction (e0 : Int) (a : Option Addr) (n c : Nat) (xs : List Int) (w : World) (h : Row .i64 w a (n * 3) xs) (hn : n ≤ 1048576) :
    Calls Try.prog 40 #[.int .i64 e0, .slice a n c] w (RetFun 3 (gN (edgT e0 n xs) (e0) (tabOf (e0) (fun s => edgTo cntCut xs s n))) (gL (edgT e0 n xs) (e0) (tabOf (e0) (fun s => edgTo cntCut xs s n))) (gB (edgT e0 n xs) (e0) (tabOf (e0) (fun s => edgTo cntCut xs s n))) w) := by
  have fr := FBox.new w 27 0 none 0 0
  have bel := (Below.refl w.heap.size w).alloc (Nat.le_refl _) (.cells #[.int .i64 0, .slice none 0 0] 27)
  go_enter Try.func40, Try.ntmps40
  go_wp2_with fail
  refine (c_sumOfCut _ _ _ _ _ _ (h.below bel) hn).mono ?_
  rintro e w1 ⟨a2, c2, rfl, ho, hlen, hb1⟩
  replace bel := bel.trans (hb1.mono bel.size)
  have hlt1 := fr.lt
  replace fr := fr.below hb1
  have kr0 := fr.c0
  have kr1 := fr.c1
  have krf := fr.free
  go_wp2_with fail
  refine bodyPost_ret (v := .tuple #[.agg #[.int .i64 (gN (edgT e0 n xs) (e0) (tabOf (e0) (fun s => edgTo cntCut xs s n))), .slice a2 (gL (edgT e0 n xs) (e0) (tabOf (e0) (fun s => edgTo cntCut xs s n))).length c2], .bool (gB (edgT e0 n xs) (e0) (tabOf (e0) (fun s => edgTo cntCut xs s n)))]) (by simp [results, Try.results40, go_sem, kr0, kr1]) rfl ?_
  exact ⟨a2, c2, rfl, (own_set2 ho (by omega) _ _).base (by omega), hlen, below_set2 bel (by omega) _ _⟩
set_option maxRecDepth 10000 in
set_option maxHeartbeats 600000 in
theorem c_spec_CutFunction (e0 : Int) (a : Option Addr) (n c : Nat) (xs : List Int) (w : World) (h : Row .i64 w a (n * 3) xs) (hn : n ≤ 1048576) :
    Calls Try.prog 38 #[.int .i64 e0, .slice a n c] w (RetFun 3 (gN (edgT e0 n xs) (e0) (tabOf (e0) (fun s => edgTo cntCut xs s n))) (gL (edgT e0 n xs) (e0) (tabOf (e0) (fun s => edgTo cntCut xs s n))) (gB (edgT e0 n xs) (e0) (tabOf (e0) (fun s => edgTo cntCut xs s n))) w) := by
  have bel := Below.refl w.heap.size w
  have fr := FBox.new w 27 0 none 0 0
  replace bel := bel.alloc bel.size (.cells #[.int .i64 0, .slice none 0 0] 27)
  have kr0 := fr.c0
  have kr1 := fr.c1
  have krf := fr.free
  cases hi : inB e0 0 5 with
  | false =>
    obtain ⟨hN, hL, hB⟩ := g_no (b := edgT e0 n xs) (n := e0) (xs := tabOf (e0) (fun s => edgTo cntCut xs s n)) (by simp [edgT, hi])
    rw [hN, hL, hB]
    clear hN hL hB
    go_enter Try.func38, Try.ntmps38
    go_wp2_with fail
    refine (c_l1In _ _ _ _).mono ?_
    rw [hi]
    rintro e w' ⟨rfl, rfl⟩
    go_wp2_with fail
    refine bodyPost_ret (v := .tuple #[.agg #[.int .i64 0, .slice none 0 0], .bool false]) (by simp [results, Try.results38, go_sem, kr0, kr1]) rfl ?_
    exact ⟨none, 0, rfl, OwnI.nil _ _ _ _, by simp, by first | exact (bel.setCell (by show w.heap.size ≤ w.heap.size; omega) _).setCell (by show w.heap.size ≤ w.heap.size; omega) _ | exact bel⟩
  | true =>
    cases hT : edgT e0 n xs with
    | false =>
      rw [← hT]
      obtain ⟨hN, hL, hB⟩ := g_no (b := edgT e0 n xs) (n := e0) (xs := tabOf (e0) (fun s => edgTo cntCut xs s n)) (by simp [hT, hT])
      rw [hN, hL, hB]
      clear hN hL hB
      go_enter Try.func38, Try.ntmps38
      go_wp2_with fail
      refine (c_l1In _ _ _ _).mono ?_
      rw [hi]
      rintro e w' ⟨rfl, rfl⟩
      go_wp2_with fail
      refine (c_l4Edges _ _ _ _ _ _ (h.below bel) hn hi).mono ?_
      rw [hT]
      rintro e w1 ⟨rfl, hb1⟩
      replace bel := bel.trans (hb1.mono bel.size)
      replace fr := fr.below hb1
      replace kr0 := fr.c0
      replace kr1 := fr.c1
      replace krf := fr.free
      go_wp2_with fail
      refine bodyPost_ret (v := .tuple #[.agg #[.int .i64 0, .slice none 0 0], .bool false]) (by simp [results, Try.results38, go_sem, kr0, kr1]) rfl ?_
      exact ⟨none, 0, rfl, OwnI.nil _ _ _ _, by simp, by first | exact (bel.setCell (by show w.heap.size ≤ w.heap.size; omega) _).setCell (by show w.heap.size ≤ w.heap.size; omega) _ | exact bel⟩
    | true =>
      obtain ⟨hib, h20, hbk⟩ := edgT_true hT
      have HBK := Lib.hid hbk
      have HE5 := Lib.hid hib.2
      obtain ⟨j, rfl⟩ := Int.eq_ofNat_of_zero_le hib.1
      rw [← hT]
      have HT := Lib.hid hT
      obtain ⟨p, hp⟩ : ∃ p, p = 2 ^ j := ⟨_, rfl⟩
      have hp32 := pow5 (n := (j : Int)) hib.1 hib.2
      rw [Int.toNat_natCast, ← hp] at hp32
      have htab : tabOf (j : Int) (fun s => edgTo cntCut xs s n) = tabTo (fun s => edgTo cntCut xs s n) p := by simp [tabOf, hp]
      rw [htab]
      have HTL := Lib.hid (tabTo_length (fun s => edgTo cntCut xs s n))
      have HP := Lib.hid hp
      clear htab hp hbk
      go_enter Try.func38, Try.ntmps38
      go_wp2_with fail
      refine (c_l1In _ _ _ _).mono ?_
      rw [hi]
      rintro e w' ⟨rfl, rfl⟩
      go_wp2_with fail
      refine (c_l4Edges _ _ _ _ _ _ (h.below bel) hn hi).mono ?_
      rw [hT]
      rintro e w1 ⟨rfl, hb1⟩
      replace bel := bel.trans (hb1.mono bel.size)
      replace fr := fr.below hb1
      replace kr0 := fr.c0
      replace kr1 := fr.c1
      replace krf := fr.free
      go_wp2_with fail
      go_loopw [6, 7] (fun v i wr => ∃ s : Nat, i = .int .i64 s ∧ s ≤ p ∧ OwnI wr (w.heap.size + 1) 3 .i64 v (tabTo (fun s => edgTo cntCut xs s n) s) ∧ Below w.heap.size w wr ∧ FBox wr (w.heap.size) 27 0 none 0 0) (fun _ i _ => p - (intOf i).toNat)
      case atStart => exact ⟨0, rfl, Nat.zero_le _, by (first | exact World.ownsRow_made w1 #[] 0 fr.lt (by decide) rfl | (have h := World.ownsRow_made (base := w.heap.size + 1) (e := 3) (size := 1) w1 #[] 0 (by have := fr.lt; first | omega | (simp only [World.size_alloc] at *; omega)) (by decide) rfl; (try simp only [World.size_alloc] at h); exact h)), bel.alloc bel.size _, fr.alloc _⟩
      case round =>
        clear bel fr kr0 kr1 krf hb1
        obtain ⟨s, rfl, hs, hown, hb, fr⟩ := hrel
        have hB : w.heap.size + 1 ≤ wr.heap.size := fr.lt
        by_cases hlt2 : s < p
        · have HBD := Lib.hid (edg_bd (cnt := cntCut) (s := s) HBK.out)
          have HSC := Lib.hid (tabTo_succ (fun s => edgTo cntCut xs s n) s)
          have hlen := HTL.out s
          obtain ⟨hz, hs1, hs2⟩ := shl_facts j p HP.out (by omega)
          go_wp2_with fail
          clear hz hs1 hs2
          go_loopw [8, 9] (fun v i wr' => ∃ k : Nat, i = .int .i64 k ∧ k ≤ n ∧ v = .int .i64 (edgTo cntCut xs s k) ∧ OwnI wr' (w.heap.size + 1) 3 .i64 u6 (tabTo (fun s => edgTo cntCut xs s n) s) ∧ Below w.heap.size w wr' ∧ FBox wr' w.heap.size 27 0 none 0 0) (fun _ i _ => n - (intOf i).toNat)
          case atStart => exact ⟨0, rfl, Nat.zero_le _, rfl, hown, hb, fr⟩
          case round =>
            clear hown hb fr hB
            obtain ⟨k, rfl, hk, rfl, hown, hb, fr⟩ := hrel
            have hB : w.heap.size + 1 ≤ wr.heap.size := fr.lt
            by_cases hlt3 : k < n
            · skip
              obtain ⟨b3, off3, rfl, hblt3, hc3⟩ := (h.below hb).at_ (by omega)
              have g0 : wr.cell? ⟨b3, off3 + k * 3, none⟩ = some (.int .i64 (xs.getD (k * 3) 0)) := hc3 (k * 3) (by omega)
              have g1 : wr.cell? ⟨b3, off3 + k * 3 + 1, none⟩ = some (.int .i64 (xs.getD (k * 3 + 1) 0)) := hc3 (k * 3 + 1) (by omega)
              have g2 : wr.cell? ⟨b3, off3 + k * 3 + 2, none⟩ = some (.int .i64 (xs.getD (k * 3 + 2) 0)) := hc3 (k * 3 + 2) (by omega)
              obtain ⟨t0, t1, t2, t3⟩ := edg_in (HBK.out k (by omega)) HE5.out
              have hbd := HBD.out k (by omega)
              have hY := fun h => edg_yes (cnt := cntCut) (xs := xs) (s := s) (k := k) h
              have hN := fun h => edg_no (cnt := cntCut) (xs := xs) (s := s) (k := k) h
              obtain ⟨x, hx⟩ : ∃ x, x = xs.getD (k * 3) 0 := ⟨_, rfl⟩
              obtain ⟨y, hy⟩ : ∃ y, y = xs.getD (k * 3 + 1) 0 := ⟨_, rfl⟩
              obtain ⟨z, hz⟩ : ∃ z, z = xs.getD (k * 3 + 2) 0 := ⟨_, rfl⟩
              obtain ⟨q, hq⟩ : ∃ q, q = edgTo cntCut xs s k := ⟨_, rfl⟩
              rw [← hx] at g0 t0 hY hN
              rw [← hy] at g1 t1 hY hN
              rw [← hz] at g2 t2 t3 hY
              rw [← hq] at hbd hY hN ⊢
              obtain ⟨f, rfl⟩ := Int.eq_ofNat_of_zero_le t0.1
              obtain ⟨t, rfl⟩ := Int.eq_ofNat_of_zero_le t1.1
              rw [Int.toNat_natCast, Int.toNat_natCast] at hY hN
              have hbf := bit_val s f (by omega)
              have hbt := bit_val s t (by omega)
              have hwq : IntKind.i64.wrap (q + z) = q + z := IntWalk.i64_in _ (by omega)
              have hwf : IntKind.u64.wrap (f : Int) = f := IntWalk.u64_in _ (by omega)
              have hwt : IntKind.u64.wrap (t : Int) = t := IntWalk.u64_in _ (by omega)
              have hf0 : (0 : Int) ≤ f := by omega
              have ht0 : (0 : Int) ≤ t := by omega
              have hi0 : (0 : Int) ≤ k := by omega
              have hi1 : (k : Int) < (n : Int) := by omega
              clear hc3 hx hy hz hq
              cases hcf : bitB (s : Int) f with
              | true =>
                rw [hcf] at hbf hY hN
                cases hct : bitB (s : Int) t with
                | true =>
                  rw [hct] at hbt hY hN
                  have HS := Lib.hid (hN rfl)
                  simp only [if_pos, if_neg, Bool.false_eq_true, if_false, if_true] at hbf hbt
                  clear hY hN hcf hct
                  go_wp2_with fail
                  go_quiet (fail)
                  replace hown := hown.drewN nq
                  replace hb := below_drewN hb nq
                  replace fr := fr.drewN nq
                  go_wp2
                  go_roundw
                  case rel => exact ⟨k + 1, by go_num, by omega, by rw [HS.out], hown, hb, fr⟩
                  case measure => simp [intOf]; omega
                | false =>
                  rw [hct] at hbt hY hN
                  have HS := Lib.hid (hY rfl)
                  simp only [if_pos, if_neg, Bool.false_eq_true, if_false, if_true] at hbf hbt
                  clear hY hN hcf hct
                  go_wp2_with fail
                  go_quiet (fail)
                  replace hown := hown.drewN nq
                  replace hb := below_drewN hb nq
                  replace fr := fr.drewN nq
                  go_wp2
                  go_roundw
                  case rel => exact ⟨k + 1, by go_num, by omega, by rw [HS.out], hown, hb, fr⟩
                  case measure => simp [intOf]; omega
              | false =>
                rw [hcf] at hbf hY hN
                cases hct : bitB (s : Int) t with
                | true =>
                  rw [hct] at hbt hY hN
                  have HS := Lib.hid (hY rfl)
                  simp only [if_pos, if_neg, Bool.false_eq_true, if_false, if_true] at hbf hbt
                  clear hY hN hcf hct
                  go_wp2_with fail
                  go_quiet (fail)
                  replace hown := hown.drewN nq
                  replace hb := below_drewN hb nq
                  replace fr := fr.drewN nq
                  go_wp2
                  go_roundw
                  case rel => exact ⟨k + 1, by go_num, by omega, by rw [HS.out], hown, hb, fr⟩
                  case measure => simp [intOf]; omega
                | false =>
                  rw [hct] at hbt hY hN
                  have HS := Lib.hid (hN rfl)
                  simp only [if_pos, if_neg, Bool.false_eq_true, if_false, if_true] at hbf hbt
                  clear hY hN hcf hct
                  go_wp2_with fail
                  go_quiet (fail)
                  replace hown := hown.drewN nq
                  replace hb := below_drewN hb nq
                  replace fr := fr.drewN nq
                  go_wp2
                  go_roundw
                  case rel => exact ⟨k + 1, by go_num, by omega, by rw [HS.out], hown, hb, fr⟩
                  case measure => simp [intOf]; omega
            · obtain rfl : k = n := by omega
              go_wp2_with (at_builtin; (refine wpList_app EI (base := w.heap.size + 1) (v := u6) (xs := tabTo (fun s => edgTo cntCut xs s k) s) (us := [edgTo cntCut xs s k]) (g := wr.heap.size) (n := 1) (c := 1) rfl (.tmp 59) (.tmp 61) rfl ?_ ?_ rfl rfl rfl ?_ ?_ ?_; (exact hown.alloc _); (exact heap_alloc_new wr _); (show _ + 1 ≤ _; omega); (exact le_alloc hB _); intro v' w2 hown1 hgrow))
              have hb1 : Below w.heap.size w w2 := below_grown (hb.alloc hb.size _) (hown.alloc _) hgrow (by omega) (by simp; omega)
              have fr' := (fr.alloc _).grown hgrow (row_apart hown.range (.inl (by omega)))
              go_roundw
              case rel => exact ⟨s + 1, by go_num, by omega, by rw [HSC.out]; exact hown1, hb1, fr'⟩
              case measure => simp [intOf]; omega
        · obtain rfl : s = p := by omega
          obtain ⟨hz, hs1, hs2⟩ := shl_facts j s HP.out (by omega)
          obtain ⟨a2, c2, hv, _⟩ := hown.form
          rw [HTL.out] at hv
          subst hv
          cases hI : isFun ((j : Int)) (tabTo (fun s => edgTo cntCut xs s n) s) with
          | false =>
            go_wp2_with fail
            refine (c_l2Made_no _ _ _ _ _ _ hown.row (by omega) hI).mono ?_
            rintro e w2 ⟨rfl, hb2⟩
            replace fr := fr.below hb2
            have kr0 := fr.c0
            have kr1 := fr.c1
            have krf := fr.free
            replace hown := hown.below hb2
            replace hb := hb.trans (hb2.mono hb.size)
            have hlt2 := fr.lt
            go_wp2_with fail
            refine bodyPost_ret (v := .tuple #[.agg #[.int .i64 0, .slice none 0 0], .bool false]) (by simp [results, Try.results38, go_sem, kr0, kr1, hlt2]) rfl ?_
            obtain ⟨hN, hL, hB'⟩ := g_bad (b := edgT (j : Int) n xs) hI
            rw [hN, hL, hB']
            exact ⟨none, 0, rfl, OwnI.nil _ _ _ _, by simp, below_set2a hb (by omega) _ _ _⟩
          | true =>
            go_wp2_with fail
            refine (c_l2Made_yes _ _ _ _ _ _ hown.row (by omega) hI).mono ?_
            rintro e w2 ⟨rfl, hb2⟩
            replace fr := fr.below hb2
            have kr0 := fr.c0
            have kr1 := fr.c1
            have krf := fr.free
            replace hown := hown.below hb2
            replace hb := hb.trans (hb2.mono hb.size)
            have hlt2 := fr.lt
            go_wp2_with fail
            refine bodyPost_ret (v := .tuple #[.agg #[.int .i64 ((j : Int)), .slice a2 s c2], .bool true]) (by simp [results, Try.results38, go_sem, kr0, kr1, hlt2]) rfl ?_
            obtain ⟨hN, hL, hB'⟩ := g_yes (n := (j : Int)) HT.out hI
            rw [hN, hL, hB']
            refine ⟨a2, c2, by rw [HTL.out], ?_, by rw [HTL.out]; omega, below_set2a hb (by omega) _ _ _⟩
            rw [HTL.out]
            exact (((own_set2 hown (by omega) _ _).alloc _).base (by omega))
theorem c_cntDirected (x y : Bool) (w : World) :
    Calls Try.prog 85 #[.bool x, .bool y] w fun e w' => e = .returned (.bool (cntDir x y)) ∧ w = w' := by
  cases x <;> cases y
  all_goals
    go_enter Try.func85, Try.ntmps85
    go_wp2
    go_ret
    exact ⟨rfl, rfl⟩
set_option maxRecDepth 10000 in
set_option maxHeartbeats 600000 in
theorem c_sumDirected (e0 : Int) (a : Option Addr) (n c : Nat) (xs : List Int) (g1 g2 s : Nat) (w : World) (b1 : VBox w g1 47 (.slice a n c)) (b2 : VBox w g2 80 (.func (.func 85) #[] #[])) (h : Row .i64 w a (n * 3) xs) (h20 : n ≤ 20) (h5 : e0 ≤ 5) (hs : s < 32) (hb : ∀ k, k < n → edgB e0 xs k = true) :
    Calls Try.prog 101 #[.int .i64 s, .pointer (some ⟨g1, 0, none⟩), .pointer (some ⟨g2, 0, none⟩)] w fun e w' => e = .returned (.int .i64 (edgTo cntDir xs s n)) ∧ Below w.heap.size w w' := by
  have k1 := b1.c0
  have HBK := Lib.hid hb
  have HBD := Lib.hid (edg_bd (cnt := cntDir) (s := s) hb)
  have HE5 := Lib.hid h5
  have heg := enters_of Try.func85 (by kernel_rfl) rfl
  clear hb h5
  go_enter Try.func101, Try.ntmps101
  go_wp2_with fail
  go_loopw [5, 10] (fun v i wr => ∃ k : Nat, i = .int .i64 k ∧ k ≤ n ∧ v = .int .i64 (edgTo cntDir xs s k) ∧ Below w.heap.size w wr ∧ VBox wr g2 80 (.func (.func 85) #[] #[])) (fun _ i _ => n - (intOf i).toNat)
  case atStart => exact ⟨0, rfl, Nat.zero_le _, rfl, Below.refl _ _, b2⟩
  case round =>
    clear k1 b2
    obtain ⟨k, rfl, hk, rfl, bel, b2⟩ := hrel
    by_cases hlt : k < n
    · skip
      obtain ⟨b3, off3, rfl, hblt3, hc3⟩ := (h.below bel).at_ (by omega)
      have g0 : wr.cell? ⟨b3, off3 + k * 3, none⟩ = some (.int .i64 (xs.getD (k * 3) 0)) := hc3 (k * 3) (by omega)
      have g1 : wr.cell? ⟨b3, off3 + k * 3 + 1, none⟩ = some (.int .i64 (xs.getD (k * 3 + 1) 0)) := hc3 (k * 3 + 1) (by omega)
      have g2 : wr.cell? ⟨b3, off3 + k * 3 + 2, none⟩ = some (.int .i64 (xs.getD (k * 3 + 2) 0)) := hc3 (k * 3 + 2) (by omega)
      obtain ⟨t0, t1, t2, t3⟩ := edg_in (HBK.out k (by omega)) HE5.out
      have hbd := HBD.out k (by omega)
      have hY := fun h => edg_yes (cnt := cntDir) (xs := xs) (s := s) (k := k) h
      have hN := fun h => edg_no (cnt := cntDir) (xs := xs) (s := s) (k := k) h
      obtain ⟨x, hx⟩ : ∃ x, x = xs.getD (k * 3) 0 := ⟨_, rfl⟩
      obtain ⟨y, hy⟩ : ∃ y, y = xs.getD (k * 3 + 1) 0 := ⟨_, rfl⟩
      obtain ⟨z, hz⟩ : ∃ z, z = xs.getD (k * 3 + 2) 0 := ⟨_, rfl⟩
      obtain ⟨q, hq⟩ : ∃ q, q = edgTo cntDir xs s k := ⟨_, rfl⟩
      rw [← hx] at g0 t0 hY hN
      rw [← hy] at g1 t1 hY hN
      rw [← hz] at g2 t2 t3 hY
      rw [← hq] at hbd hY hN ⊢
      obtain ⟨f, rfl⟩ := Int.eq_ofNat_of_zero_le t0.1
      obtain ⟨t, rfl⟩ := Int.eq_ofNat_of_zero_le t1.1
      rw [Int.toNat_natCast, Int.toNat_natCast] at hY hN
      have hbf := bit_val s f (by omega)
      have hbt := bit_val s t (by omega)
      have hwq : IntKind.i64.wrap (q + z) = q + z := IntWalk.i64_in _ (by omega)
      have hwf : IntKind.u64.wrap (f : Int) = f := IntWalk.u64_in _ (by omega)
      have hwt : IntKind.u64.wrap (t : Int) = t := IntWalk.u64_in _ (by omega)
      have hf0 : (0 : Int) ≤ f := by omega
      have ht0 : (0 : Int) ≤ t := by omega
      have hi0 : (0 : Int) ≤ k := by omega
      have hi1 : (k : Int) < (n : Int) := by omega
      clear hc3 hx hy hz hq
      cases hcf : bitB (s : Int) f with
      | true =>
        rw [hcf] at hbf hY hN
        cases hct : bitB (s : Int) t with
        | true =>
          rw [hct] at hbt hY hN
          have HS := Lib.hid (hN rfl)
          simp only [if_pos, if_neg, Bool.false_eq_true, if_false, if_true] at hbf hbt
          clear hY hN hcf hct
          replace bel := bel.alloc bel.size (.cells #[.int .i64 f, .int .i64 t, .int .i64 z] 76)
          replace b2 := b2.alloc (.cells #[.int .i64 f, .int .i64 t, .int .i64 z] 76)
          have kb2 := b2.c0
          go_wp2_with fail
          refine (c_cntDirected true true _).mono ?_
          rintro e w' ⟨rfl, rfl⟩
          go_wp2
          go_roundw
          case rel => exact ⟨k + 1, by go_num, by omega, by rw [HS.out], bel, b2⟩
          case measure => simp [intOf]; omega
        | false =>
          rw [hct] at hbt hY hN
          have HS := Lib.hid (hY rfl)
          simp only [if_pos, if_neg, Bool.false_eq_true, if_false, if_true] at hbf hbt
          clear hY hN hcf hct
          replace bel := bel.alloc bel.size (.cells #[.int .i64 f, .int .i64 t, .int .i64 z] 76)
          replace b2 := b2.alloc (.cells #[.int .i64 f, .int .i64 t, .int .i64 z] 76)
          have kb2 := b2.c0
          go_wp2_with fail
          refine (c_cntDirected true false _).mono ?_
          rintro e w' ⟨rfl, rfl⟩
          go_wp2
          go_roundw
          case rel => exact ⟨k + 1, by go_num, by omega, by rw [HS.out], bel, b2⟩
          case measure => simp [intOf]; omega
      | false =>
        rw [hcf] at hbf hY hN
        cases hct : bitB (s : Int) t with
        | true =>
          rw [hct] at hbt hY hN
          have HS := Lib.hid (hN rfl)
          simp only [if_pos, if_neg, Bool.false_eq_true, if_false, if_true] at hbf hbt
          clear hY hN hcf hct
          replace bel := bel.alloc bel.size (.cells #[.int .i64 f, .int .i64 t, .int .i64 z] 76)
          replace b2 := b2.alloc (.cells #[.int .i64 f, .int .i64 t, .int .i64 z] 76)
          have kb2 := b2.c0
          go_wp2_with fail
          refine (c_cntDirected false true _).mono ?_
          rintro e w' ⟨rfl, rfl⟩
          go_wp2
          go_roundw
          case rel => exact ⟨k + 1, by go_num, by omega, by rw [HS.out], bel, b2⟩
          case measure => simp [intOf]; omega
        | false =>
          rw [hct] at hbt hY hN
          have HS := Lib.hid (hN rfl)
          simp only [if_pos, if_neg, Bool.false_eq_true, if_false, if_true] at hbf hbt
          clear hY hN hcf hct
          replace bel := bel.alloc bel.size (.cells #[.int .i64 f, .int .i64 t, .int .i64 z] 76)
          replace b2 := b2.alloc (.cells #[.int .i64 f, .int .i64 t, .int .i64 z] 76)
          have kb2 := b2.c0
          go_wp2_with fail
          refine (c_cntDirected false false _).mono ?_
          rintro e w' ⟨rfl, rfl⟩
          go_wp2
          go_roundw
          case rel => exact ⟨k + 1, by go_num, by omega, by rw [HS.out], bel, b2⟩
          case measure => simp [intOf]; omega
    · obtain rfl : k = n := by omega
      go_wp2
      go_ret
      exact ⟨rfl, bel⟩
set_option maxRecDepth 10000 in
set_option maxHeartbeats 600000 in
theorem c_sumOfDirected (e0 : Int) (a : Option Addr) (n c : Nat) (xs : List Int) (w : World) (h : Row .i64 w a (n * 3) xs) (hn : n ≤ 1048576) :
    Calls Try.prog 82 #[.int .i64 e0, .slice a n c, .func (.func 85) #[] #[]] w (RetFun 3 (gN (edgT e0 n xs) (e0) (tabOf (e0) (fun s => edgTo cntDir xs s n))) (gL (edgT e0 n xs) (e0) (tabOf (e0) (fun s => edgTo cntDir xs s n))) (gB (edgT e0 n xs) (e0) (tabOf (e0) (fun s => edgTo cntDir xs s n))) w) := by
  have hmf : ∀ (fn : Fn) (first cap : Array Value) (w : World), (Instr.makeFunc fn first cap).run Try.prog w = .ok (.func fn first cap) w := fun _ _ _ _ => rfl
  have bel := Below.refl w.heap.size w
  have bl := VBox.new w 47 (.slice a n c)
  replace bel := bel.alloc bel.size (.cells #[.slice a n c] 47)
  have bf := VBox.new (w.alloc (.cells #[.slice a n c] 47)) 80 (.func (.func 85) #[] #[])
  rw [World.size_alloc] at bf
  replace bl := bl.alloc (.cells #[.func (.func 85) #[] #[]] 80)
  replace bel := bel.alloc bel.size (.cells #[.func (.func 85) #[] #[]] 80)
  have fr := FBox.new ((w.alloc (.cells #[.slice a n c] 47)).alloc (.cells #[.func (.func 85) #[] #[]] 80)) 27 0 none 0 0
  rw [World.size_alloc, World.size_alloc] at fr
  replace bl := bl.alloc (.cells #[.int .i64 0, .slice none 0 0] 27)
  replace bf := bf.alloc (.cells #[.int .i64 0, .slice none 0 0] 27)
  replace bel := bel.alloc bel.size (.cells #[.int .i64 0, .slice none 0 0] 27)
  have kbl0 := bl.c0
  have kbf0 := bf.c0
  have kr0 := fr.c0
  have kr1 := fr.c1
  have krf := fr.free
  cases hT : edgT e0 n xs with
  | false =>
    rw [← hT]
    obtain ⟨hN, hL, hB⟩ := g_no (b := edgT e0 n xs) (n := e0) (xs := tabOf (e0) (fun s => edgTo cntDir xs s n)) (by simp [hT, hT])
    rw [hN, hL, hB]
    clear hN hL hB
    go_enter Try.func82, Try.ntmps82
    go_wp2_with fail
    refine (c_edgesOk _ _ _ _ _ _ (h.below bel) hn).mono ?_
    rw [hT]
    rintro e w1 ⟨rfl, hb1⟩
    replace bel := bel.trans (hb1.mono bel.size)
    replace bl := bl.below hb1
    replace bf := bf.below hb1
    replace fr := fr.below hb1
    replace kbl0 := bl.c0
    replace kbf0 := bf.c0
    replace kr0 := fr.c0
    replace kr1 := fr.c1
    replace krf := fr.free
    go_wp2_with fail
    refine bodyPost_ret (v := .tuple #[.agg #[.int .i64 0, .slice none 0 0], .bool false]) (by simp [results, Try.results82, go_sem, kr0, kr1]) rfl ?_
    exact ⟨none, 0, rfl, OwnI.nil _ _ _ _, by simp, by first | exact (bel.setCell (by show w.heap.size ≤ w.heap.size + 1 + 1; omega) _).setCell (by show w.heap.size ≤ w.heap.size + 1 + 1; omega) _ | exact bel⟩
  | true =>
    obtain ⟨hib, h20, hbk⟩ := edgT_true hT
    have hp32 := pow5 hib.1 hib.2
    have HBK := Lib.hid hbk
    clear hbk
    rw [← hT]
    obtain ⟨hN, hL, hB⟩ := g_mid (b := edgT e0 n xs) (n := e0) (xs := tabOf (e0) (fun s => edgTo cntDir xs s n)) (by simp [hT, hT])
    rw [hN, hL, hB]
    clear hN hL hB
    obtain ⟨tab, htab⟩ : ∃ t, t = tabOf (e0) (fun s => edgTo cntDir xs s n) := ⟨_, rfl⟩
    rw [← htab]
    have HTAB := Lib.hid htab
    clear htab
    go_enter Try.func82, Try.ntmps82
    go_wp2_with fail
    refine (c_edgesOk _ _ _ _ _ _ (h.below bel) hn).mono ?_
    rw [hT]
    rintro e w1 ⟨rfl, hb1⟩
    replace bel := bel.trans (hb1.mono bel.size)
    replace bl := bl.below hb1
    replace bf := bf.below hb1
    replace fr := fr.below hb1
    replace kbl0 := bl.c0
    replace kbf0 := bf.c0
    replace kr0 := fr.c0
    replace kr1 := fr.c1
    replace krf := fr.free
    have hlt1 := fr.lt
    go_wp2_with fail
    refine (c_makeFunction _ _ _ (fun s => edgTo cntDir xs s n) _ hib.1 hib.2 (enters_of Try.func101 (by kernel_rfl) rfl) (fun s w' hs hb => by rw [app2]; exact c_sumDirected e0 a n c xs w.heap.size (w.heap.size + 1) s w' (bl.below hb) (bf.below hb) ((h.below bel).below hb) h20 hib.2 (by omega) HBK.out)).mono ?_
    rw [← HTAB.out]
    rintro e w2 ⟨a2, c2, rfl, ho, hlen, hb2⟩
    obtain ⟨wB, hwB⟩ : ∃ z, z = fr.lt := ⟨_, rfl⟩
    clear hwB
    have hfr := fr.lt
    replace bel := bel.trans (hb2.mono bel.size)
    replace fr := fr.below hb2
    replace kr0 := fr.c0
    replace kr1 := fr.c1
    replace krf := fr.free
    go_wp2_with fail
    refine bodyPost_ret (v := .tuple #[.agg #[.int .i64 (madeN (e0) tab), .slice a2 (madeL (e0) tab).length c2], .bool (isFun (e0) tab)]) (by simp [results, Try.results82, go_sem, kr0, kr1]) rfl ?_
    refine ⟨a2, c2, rfl, ?_, hlen, (bel.setCell (by show w.heap.size ≤ w.heap.size + 1 + 1; omega) _).setCell (by show w.heap.size ≤ w.heap.size + 1 + 1; omega) _⟩
    exact ((ho.base (by first | omega | (simp only [World.size_setCell, World.size_alloc] at *; omega))).setFar ⟨w.heap.size + 1 + 1, 0, none⟩ _ (.inr (row_apart ho.range (.inl (by show w.heap.size + 1 + 1 < _; first | omega | (simp only [World.size_setCell, World.size_alloc] at *; omega)))))).setFar ⟨w.heap.size + 1 + 1, 1, none⟩ _ (.inr (row_apart ho.range (.inl (by show w.heap.size + 1 + 1 < _; first | omega | (simp only [World.size_setCell, World.size_alloc] at *; omega)))))
set_option maxHeartbeats 600000 in
theorem c_impl_DirectedCut (e0 : Int) (a : Option Addr) (n c : Nat) (xs : List Int) (w : World) (h : Row .i64 w a (n * 3) xs) (hn : n ≤ 1048576) :
    Calls Try.prog 44 #[.int .i64 e0, .slice a n c] w (RetFun 3 (gN (edgT e0 n xs) (e0) (tabOf (e0) (fun s => edgTo cntDir xs s n))) (gL (edgT e0 n xs) (e0) (tabOf (e0) (fun s => edgTo cntDir xs s n))) (gB (edgT e0 n xs) (e0) (tabOf (e0) (fun s => edgTo cntDir xs s n))) w) := by
  have fr := FBox.new w 27 0 none 0 0
  have bel := (Below.refl w.heap.size w).alloc (Nat.le_refl _) (.cells #[.int .i64 0, .slice none 0 0] 27)
  go_enter Try.func44, Try.ntmps44
  go_wp2_with fail
  refine (c_sumOfDirected _ _ _ _ _ _ (h.below bel) hn).mono ?_
  rintro e w1 ⟨a2, c2, rfl, ho, hlen, hb1⟩
  replace bel := bel.trans (hb1.mono bel.size)
  have hlt1 := fr.lt
  replace fr := fr.below hb1
  have kr0 := fr.c0
  have kr1 := fr.c1
  have krf := fr.free
  go_wp2_with fail
  refine bodyPost_ret (v := .tuple #[.agg #[.int .i64 (gN (edgT e0 n xs) (e0) (tabOf (e0) (fun s => edgTo cntDir xs s n))), .slice a2 (gL (edgT e0 n xs) (e0) (tabOf (e0) (fun s => edgTo cntDir xs s n))).length c2], .bool (gB (edgT e0 n xs) (e0) (tabOf (e0) (fun s => edgTo cntDir xs s n)))]) (by simp [results, Try.results44, go_sem, kr0, kr1]) rfl ?_
  exact ⟨a2, c2, rfl, (own_set2 ho (by omega) _ _).base (by omega), hlen, below_set2 bel (by omega) _ _⟩
set_option maxRecDepth 10000 in
set_option maxHeartbeats 600000 in
theorem c_spec_DirectedCut (e0 : Int) (a : Option Addr) (n c : Nat) (xs : List Int) (w : World) (h : Row .i64 w a (n * 3) xs) (hn : n ≤ 1048576) :
    Calls Try.prog 43 #[.int .i64 e0, .slice a n c] w (RetFun 3 (gN (edgT e0 n xs) (e0) (tabOf (e0) (fun s => edgTo cntDir xs s n))) (gL (edgT e0 n xs) (e0) (tabOf (e0) (fun s => edgTo cntDir xs s n))) (gB (edgT e0 n xs) (e0) (tabOf (e0) (fun s => edgTo cntDir xs s n))) w) := by
  have bel := Below.refl w.heap.size w
  have fr := FBox.new w 27 0 none 0 0
  replace bel := bel.alloc bel.size (.cells #[.int .i64 0, .slice none 0 0] 27)
  have kr0 := fr.c0
  have kr1 := fr.c1
  have krf := fr.free
  cases hi : inB e0 0 5 with
  | false =>
    obtain ⟨hN, hL, hB⟩ := g_no (b := edgT e0 n xs) (n := e0) (xs := tabOf (e0) (fun s => edgTo cntDir xs s n)) (by simp [edgT, hi])
    rw [hN, hL, hB]
    clear hN hL hB
    go_enter Try.func43, Try.ntmps43
    go_wp2_with fail
    refine (c_l1In _ _ _ _).mono ?_
    rw [hi]
    rintro e w' ⟨rfl, rfl⟩
    go_wp2_with fail
    refine bodyPost_ret (v := .tuple #[.agg #[.int .i64 0, .slice none 0 0], .bool false]) (by simp [results, Try.results43, go_sem, kr0, kr1]) rfl ?_
    exact ⟨none, 0, rfl, OwnI.nil _ _ _ _, by simp, by first | exact (bel.setCell (by show w.heap.size ≤ w.heap.size; omega) _).setCell (by show w.heap.size ≤ w.heap.size; omega) _ | exact bel⟩
  | true =>
    cases hT : edgT e0 n xs with
    | false =>
      rw [← hT]
      obtain ⟨hN, hL, hB⟩ := g_no (b := edgT e0 n xs) (n := e0) (xs := tabOf (e0) (fun s => edgTo cntDir xs s n)) (by simp [hT, hT])
      rw [hN, hL, hB]
      clear hN hL hB
      go_enter Try.func43, Try.ntmps43
      go_wp2_with fail
      refine (c_l1In _ _ _ _).mono ?_
      rw [hi]
      rintro e w' ⟨rfl, rfl⟩
      go_wp2_with fail
      refine (c_l4Edges _ _ _ _ _ _ (h.below bel) hn hi).mono ?_
      rw [hT]
      rintro e w1 ⟨rfl, hb1⟩
      replace bel := bel.trans (hb1.mono bel.size)
      replace fr := fr.below hb1
      replace kr0 := fr.c0
      replace kr1 := fr.c1
      replace krf := fr.free
      go_wp2_with fail
      refine bodyPost_ret (v := .tuple #[.agg #[.int .i64 0, .slice none 0 0], .bool false]) (by simp [results, Try.results43, go_sem, kr0, kr1]) rfl ?_
      exact ⟨none, 0, rfl, OwnI.nil _ _ _ _, by simp, by first | exact (bel.setCell (by show w.heap.size ≤ w.heap.size; omega) _).setCell (by show w.heap.size ≤ w.heap.size; omega) _ | exact bel⟩
    | true =>
      obtain ⟨hib, h20, hbk⟩ := edgT_true hT
      have HBK := Lib.hid hbk
      have HE5 := Lib.hid hib.2
      obtain ⟨j, rfl⟩ := Int.eq_ofNat_of_zero_le hib.1
      rw [← hT]
      have HT := Lib.hid hT
      obtain ⟨p, hp⟩ : ∃ p, p = 2 ^ j := ⟨_, rfl⟩
      have hp32 := pow5 (n := (j : Int)) hib.1 hib.2
      rw [Int.toNat_natCast, ← hp] at hp32
      have htab : tabOf (j : Int) (fun s => edgTo cntDir xs s n) = tabTo (fun s => edgTo cntDir xs s n) p := by simp [tabOf, hp]
      rw [htab]
      have HTL := Lib.hid (tabTo_length (fun s => edgTo cntDir xs s n))
      have HP := Lib.hid hp
      clear htab hp hbk
      go_enter Try.func43, Try.ntmps43
      go_wp2_with fail
      refine (c_l1In _ _ _ _).mono ?_
      rw [hi]
      rintro e w' ⟨rfl, rfl⟩
      go_wp2_with fail
      refine (c_l4Edges _ _ _ _ _ _ (h.below bel) hn hi).mono ?_
      rw [hT]
      rintro e w1 ⟨rfl, hb1⟩
      replace bel := bel.trans (hb1.mono bel.size)
      replace fr := fr.below hb1
      replace kr0 := fr.c0
      replace kr1 := fr.c1
      replace krf := fr.free
      go_wp2_with fail
      go_loopw [6, 7] (fun v i wr => ∃ s : Nat, i = .int .i64 s ∧ s ≤ p ∧ OwnI wr (w.heap.size + 1) 3 .i64 v (tabTo (fun s => edgTo cntDir xs s n) s) ∧ Below w.heap.size w wr ∧ FBox wr (w.heap.size) 27 0 none 0 0) (fun _ i _ => p - (intOf i).toNat)
      case atStart => exact ⟨0, rfl, Nat.zero_le _, by (first | exact World.ownsRow_made w1 #[] 0 fr.lt (by decide) rfl | (have h := World.ownsRow_made (base := w.heap.size + 1) (e := 3) (size := 1) w1 #[] 0 (by have := fr.lt; first | omega | (simp only [World.size_alloc] at *; omega)) (by decide) rfl; (try simp only [World.size_alloc] at h); exact h)), bel.alloc bel.size _, fr.alloc _⟩
      case round =>
        clear bel fr kr0 kr1 krf hb1
        obtain ⟨s, rfl, hs, hown, hb, fr⟩ := hrel
        have hB : w.heap.size + 1 ≤ wr.heap.size := fr.lt
        by_cases hlt2 : s < p
        · have HBD := Lib.hid (edg_bd (cnt := cntDir) (s := s) HBK.out)
          have HSC := Lib.hid (tabTo_succ (fun s => edgTo cntDir xs s n) s)
          have hlen := HTL.out s
          obtain ⟨hz, hs1, hs2⟩ := shl_facts j p HP.out (by omega)
          go_wp2_with fail
          clear hz hs1 hs2
          go_loopw [8, 9] (fun v i wr' => ∃ k : Nat, i = .int .i64 k ∧ k ≤ n ∧ v = .int .i64 (edgTo cntDir xs s k) ∧ OwnI wr' (w.heap.size + 1) 3 .i64 u6 (tabTo (fun s => edgTo cntDir xs s n) s) ∧ Below w.heap.size w wr' ∧ FBox wr' w.heap.size 27 0 none 0 0) (fun _ i _ => n - (intOf i).toNat)
          case atStart => exact ⟨0, rfl, Nat.zero_le _, rfl, hown, hb, fr⟩
          case round =>
            clear hown hb fr hB
            obtain ⟨k, rfl, hk, rfl, hown, hb, fr⟩ := hrel
            have hB : w.heap.size + 1 ≤ wr.heap.size := fr.lt
            by_cases hlt3 : k < n
            · skip
              obtain ⟨b3, off3, rfl, hblt3, hc3⟩ := (h.below hb).at_ (by omega)
              have g0 : wr.cell? ⟨b3, off3 + k * 3, none⟩ = some (.int .i64 (xs.getD (k * 3) 0)) := hc3 (k * 3) (by omega)
              have g1 : wr.cell? ⟨b3, off3 + k * 3 + 1, none⟩ = some (.int .i64 (xs.getD (k * 3 + 1) 0)) := hc3 (k * 3 + 1) (by omega)
              have g2 : wr.cell? ⟨b3, off3 + k * 3 + 2, none⟩ = some (.int .i64 (xs.getD (k * 3 + 2) 0)) := hc3 (k * 3 + 2) (by omega)
              obtain ⟨t0, t1, t2, t3⟩ := edg_in (HBK.out k (by omega)) HE5.out
              have hbd := HBD.out k (by omega)
              have hY := fun h => edg_yes (cnt := cntDir) (xs := xs) (s := s) (k := k) h
              have hN := fun h => edg_no (cnt := cntDir) (xs := xs) (s := s) (k := k) h
              obtain ⟨x, hx⟩ : ∃ x, x = xs.getD (k * 3) 0 := ⟨_, rfl⟩
              obtain ⟨y, hy⟩ : ∃ y, y = xs.getD (k * 3 + 1) 0 := ⟨_, rfl⟩
              obtain ⟨z, hz⟩ : ∃ z, z = xs.getD (k * 3 + 2) 0 := ⟨_, rfl⟩
              obtain ⟨q, hq⟩ : ∃ q, q = edgTo cntDir xs s k := ⟨_, rfl⟩
              rw [← hx] at g0 t0 hY hN
              rw [← hy] at g1 t1 hY hN
              rw [← hz] at g2 t2 t3 hY
              rw [← hq] at hbd hY hN ⊢
              obtain ⟨f, rfl⟩ := Int.eq_ofNat_of_zero_le t0.1
              obtain ⟨t, rfl⟩ := Int.eq_ofNat_of_zero_le t1.1
              rw [Int.toNat_natCast, Int.toNat_natCast] at hY hN
              have hbf := bit_val s f (by omega)
              have hbt := bit_val s t (by omega)
              have hwq : IntKind.i64.wrap (q + z) = q + z := IntWalk.i64_in _ (by omega)
              have hwf : IntKind.u64.wrap (f : Int) = f := IntWalk.u64_in _ (by omega)
              have hwt : IntKind.u64.wrap (t : Int) = t := IntWalk.u64_in _ (by omega)
              have hf0 : (0 : Int) ≤ f := by omega
              have ht0 : (0 : Int) ≤ t := by omega
              have hi0 : (0 : Int) ≤ k := by omega
              have hi1 : (k : Int) < (n : Int) := by omega
              clear hc3 hx hy hz hq
              cases hcf : bitB (s : Int) f with
              | true =>
                rw [hcf] at hbf hY hN
                cases hct : bitB (s : Int) t with
                | true =>
                  rw [hct] at hbt hY hN
                  have HS := Lib.hid (hN rfl)
                  simp only [if_pos, if_neg, Bool.false_eq_true, if_false, if_true] at hbf hbt
                  clear hY hN hcf hct
                  go_wp2
                  go_roundw
                  case rel => exact ⟨k + 1, by go_num, by omega, by rw [HS.out], hown, hb, fr⟩
                  case measure => simp [intOf]; omega
                | false =>
                  rw [hct] at hbt hY hN
                  have HS := Lib.hid (hY rfl)
                  simp only [if_pos, if_neg, Bool.false_eq_true, if_false, if_true] at hbf hbt
                  clear hY hN hcf hct
                  go_wp2
                  go_roundw
                  case rel => exact ⟨k + 1, by go_num, by omega, by rw [HS.out], hown, hb, fr⟩
                  case measure => simp [intOf]; omega
              | false =>
                rw [hcf] at hbf hY hN
                cases hct : bitB (s : Int) t with
                | true =>
                  rw [hct] at hbt hY hN
                  have HS := Lib.hid (hN rfl)
                  simp only [if_pos, if_neg, Bool.false_eq_true, if_false, if_true] at hbf hbt
                  clear hY hN hcf hct
                  go_wp2
                  go_roundw
                  case rel => exact ⟨k + 1, by go_num, by omega, by rw [HS.out], hown, hb, fr⟩
                  case measure => simp [intOf]; omega
                | false =>
                  rw [hct] at hbt hY hN
                  have HS := Lib.hid (hN rfl)
                  simp only [if_pos, if_neg, Bool.false_eq_true, if_false, if_true] at hbf hbt
                  clear hY hN hcf hct
                  go_wp2
                  go_roundw
                  case rel => exact ⟨k + 1, by go_num, by omega, by rw [HS.out], hown, hb, fr⟩
                  case measure => simp [intOf]; omega
            · obtain rfl : k = n := by omega
              go_wp2_with (at_builtin; (refine wpList_app EI (base := w.heap.size + 1) (v := u6) (xs := tabTo (fun s => edgTo cntDir xs s k) s) (us := [edgTo cntDir xs s k]) (g := wr.heap.size) (n := 1) (c := 1) rfl (.tmp 62) (.tmp 64) rfl ?_ ?_ rfl rfl rfl ?_ ?_ ?_; (exact hown.alloc _); (exact heap_alloc_new wr _); (show _ + 1 ≤ _; omega); (exact le_alloc hB _); intro v' w2 hown1 hgrow))
              have hb1 : Below w.heap.size w w2 := below_grown (hb.alloc hb.size _) (hown.alloc _) hgrow (by omega) (by simp; omega)
              have fr' := (fr.alloc _).grown hgrow (row_apart hown.range (.inl (by omega)))
              go_roundw
              case rel => exact ⟨s + 1, by go_num, by omega, by rw [HSC.out]; exact hown1, hb1, fr'⟩
              case measure => simp [intOf]; omega
        · obtain rfl : s = p := by omega
          obtain ⟨hz, hs1, hs2⟩ := shl_facts j s HP.out (by omega)
          obtain ⟨a2, c2, hv, _⟩ := hown.form
          rw [HTL.out] at hv
          subst hv
          cases hI : isFun ((j : Int)) (tabTo (fun s => edgTo cntDir xs s n) s) with
          | false =>
            go_wp2_with fail
            refine (c_l2Made_no _ _ _ _ _ _ hown.row (by omega) hI).mono ?_
            rintro e w2 ⟨rfl, hb2⟩
            replace fr := fr.below hb2
            have kr0 := fr.c0
            have kr1 := fr.c1
            have krf := fr.free
            replace hown := hown.below hb2
            replace hb := hb.trans (hb2.mono hb.size)
            have hlt2 := fr.lt
            go_wp2_with fail
            refine bodyPost_ret (v := .tuple #[.agg #[.int .i64 0, .slice none 0 0], .bool false]) (by simp [results, Try.results43, go_sem, kr0, kr1, hlt2]) rfl ?_
            obtain ⟨hN, hL, hB'⟩ := g_bad (b := edgT (j : Int) n xs) hI
            rw [hN, hL, hB']
            exact ⟨none, 0, rfl, OwnI.nil _ _ _ _, by simp, below_set2a hb (by omega) _ _ _⟩
          | true =>
            go_wp2_with fail
            refine (c_l2Made_yes _ _ _ _ _ _ hown.row (by omega) hI).mono ?_
            rintro e w2 ⟨rfl, hb2⟩
            replace fr := fr.below hb2
            have kr0 := fr.c0
            have kr1 := fr.c1
            have krf := fr.free
            replace hown := hown.below hb2
            replace hb := hb.trans (hb2.mono hb.size)
            have hlt2 := fr.lt
            go_wp2_with fail
            refine bodyPost_ret (v := .tuple #[.agg #[.int .i64 ((j : Int)), .slice a2 s c2], .bool true]) (by simp [results, Try.results43, go_sem, kr0, kr1, hlt2]) rfl ?_
            obtain ⟨hN, hL, hB'⟩ := g_yes (n := (j : Int)) HT.out hI
            rw [hN, hL, hB']
            refine ⟨a2, c2, by rw [HTL.out], ?_, by rw [HTL.out]; omega, below_set2a hb (by omega) _ _ _⟩
            rw [HTL.out]
            exact (((own_set2 hown (by omega) _ _).alloc _).base (by omega))
end Go.Proofs.Ythiokplkimdojaa
