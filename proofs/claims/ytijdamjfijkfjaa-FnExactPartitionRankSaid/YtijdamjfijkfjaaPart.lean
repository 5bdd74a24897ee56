/- Contracts of PartitionRank, both packages. -/
import Derived.Test.YtijdamjfijkfjaaBox
import Derived.Test.YtijdamjfijkfjaaWeigh
namespace Go.Proofs.Ytijdamjfijkfjaa
set_option linter.unusedSimpArgs false
set_option linter.unusedVariables false
open Go.RowKit

def cntTo (gs : List Int) (s g : Nat) : Nat → Nat
  | 0 => 0
  | k + 1 => if (gs.getD k 0 == (g : Int)) && bitB (s : Int) k then cntTo gs s g k + 1 else cntTo gs s g k
theorem cntTo_le (gs : List Int) (s g : Nat) : ∀ k, cntTo gs s g k ≤ k
  | 0 => Nat.le_refl _
  | k + 1 => by
    have := cntTo_le gs s g k
    rw [cntTo]
    split <;> omega
theorem cntTo_yes {gs : List Int} {s g k : Nat} (h : (gs.getD k 0 == (g : Int)) = true) (h' : bitB (s : Int) k = true) : cntTo gs s g (k + 1) = cntTo gs s g k + 1 := by rw [cntTo, h, h']; rfl
theorem cntTo_no {gs : List Int} {s g k : Nat} (h : (gs.getD k 0 == (g : Int)) = false ∨ bitB (s : Int) k = false) : cntTo gs s g (k + 1) = cntTo gs s g k := by
  rw [cntTo]
  rcases h with h | h <;> rw [h] <;> simp
def parTo (gs ms : List Int) (s : Nat) : Nat → Int
  | 0 => 0
  | k + 1 => parTo gs ms s k + min ((cntTo gs s k gs.length : Nat) : Int) (ms.getD k 0)
def parV (gs ms : List Int) (s : Nat) : Int := parTo gs ms s ms.length
theorem parTo_succ (gs ms : List Int) (s k : Nat) : parTo gs ms s (k + 1) = parTo gs ms s k + min ((cntTo gs s k gs.length : Nat) : Int) (ms.getD k 0) := rfl
theorem parTo_bd {gs ms : List Int} {s : Nat} (hx : ∀ j, j < ms.length → 0 ≤ ms.getD j 0 ∧ ms.getD j 0 ≤ 5) : ∀ k : Nat, k ≤ ms.length → 0 ≤ parTo gs ms s k ∧ parTo gs ms s k ≤ 5 * (k : Int)
  | 0, _ => by simp [parTo]
  | k + 1, h => by
    have h1 := parTo_bd (gs := gs) (s := s) hx k (by omega)
    have h2 := hx k (by omega)
    rw [parTo]
    omega
theorem ival_eq {a b : Int} (h : a = b) : Value.int .i64 a = Value.int .i64 b := by rw [h]
def parT (gs ms : List Int) : Bool := decide (gs.length ≤ 5) && decide (ms.length ≤ 5) && allIn ms 0 5 && allIn gs 0 ((ms.length : Int) - 1)
set_option maxHeartbeats 1000000 in
theorem c_par1 (a : Option Addr) (n c : Nat) (gs : List Int) (b : Option Addr) (m d : Nat) (ms : List Int) (g1 g2 s : Nat) (w : World) (b1 : VBox w g1 22 (.slice b m d)) (b2 : VBox w g2 22 (.slice a n c)) (h : Row .i64 w a n gs) (h' : Row .i64 w b m ms) (h5 : n ≤ 5) (h5' : m ≤ 5) (hs : s < 32) (hmb : ∀ j, j < ms.length → 0 ≤ ms.getD j 0 ∧ ms.getD j 0 ≤ 5) :
    Calls Try.prog 70 #[.int .i64 s, .pointer (some ⟨g1, 0, none⟩), .pointer (some ⟨g2, 0, none⟩)] w fun e w' => e = .returned (.int .i64 (parV gs ms s)) ∧ Below w.heap.size w w' := by
  have k1 := b1.c0
  have k2 := b2.c0
  have hl := h.len
  have hl' := h'.len
  subst hl hl'
  have HBD := Lib.hid (parTo_bd (gs := gs) (s := s) hmb)
  have HMB := Lib.hid hmb
  have HV := Lib.hid (show parV gs ms s = parTo gs ms s ms.length from rfl)
  clear hmb
  go_enter Try.func70, Try.ntmps70
  go_wp2_with fail
  go_loopw [5, 13] (fun v i wr => ∃ g : Nat, i = .int .i64 g ∧ g ≤ ms.length ∧ v = .int .i64 (parTo gs ms s g) ∧ wr = w) (fun _ i _ => ms.length - (intOf i).toNat)
  case atStart => exact ⟨0, rfl, Nat.zero_le _, rfl, rfl⟩
  case round =>
    obtain ⟨g, rfl, hg, rfl, rfl⟩ := hrel
    by_cases hltg : g < ms.length
    · obtain ⟨b3, off3, rfl, _, hcm⟩ := h'.at_ (by omega)
      have HCM := Lib.hid hcm
      have gmm := hcm g hltg
      obtain ⟨y0, hy0⟩ : ∃ y, y = ms.getD g 0 := ⟨_, rfl⟩
      rw [← hy0] at gmm
      have HY0 := Lib.hid hy0
      clear hy0 hcm
      have hi0 : (0 : Int) ≤ g := by omega
      have hi1 : (g : Int) < (ms.length : Int) := by omega
      go_wp2_with fail
      first
        | go_loopw [8, 20] (fun v i wr' => ∃ k : Nat, i = .int .i64 k ∧ k ≤ gs.length ∧ v = .int .i64 (cntTo gs s g k) ∧ wr' = wr) (fun _ i _ => gs.length - (intOf i).toNat)
        | go_loopw [8, 20] (fun v i wr' => ∃ k : Nat, i = .int .i64 k ∧ k ≤ gs.length ∧ v = .int .i64 (cntTo gs s g k) ∧ wr' = w) (fun _ i _ => gs.length - (intOf i).toNat)
      case atStart => exact ⟨0, rfl, Nat.zero_le _, rfl, rfl⟩
      case round =>
        obtain ⟨k, rfl, hk, rfl, rfl⟩ := hrel
        have hcle := cntTo_le gs s g k
        by_cases hltk : k < gs.length
        · obtain ⟨b4, off4, rfl, _, hcg⟩ := (h).at_ (by omega)
          have ge := hcg k hltk
          clear hcg
          obtain ⟨hb1, hb2⟩ := bit_facts1 s k (by omega)
          have hj0 : (0 : Int) ≤ k := by omega
          have hj1 : (k : Int) < (gs.length : Int) := by omega
          have hCY := fun h h' => cntTo_yes (gs := gs) (s := s) (g := g) (k := k) h h'
          have hCN := fun h => cntTo_no (gs := gs) (s := s) (g := g) (k := k) h
          obtain ⟨x, hx⟩ : ∃ x, x = gs.getD k 0 := ⟨_, rfl⟩
          obtain ⟨q, hq⟩ : ∃ q, q = cntTo gs s g k := ⟨_, rfl⟩
          rw [← hx] at ge hCY hCN
          rw [← hq] at hCY hCN hcle ⊢
          have hw : IntKind.i64.wrap ((q : Int) + 1) = (q : Int) + 1 := IntWalk.i64_in _ (by omega)
          clear hx hq
          cases hxg : (x == (g : Int)) with
          | true =>
            cases hbit : bitB (s : Int) k with
            | true =>
              rw [hbit] at hb2
              have HS := Lib.hid (hCY hxg hbit)
              clear hCY hCN hbit
              go_wp2
              go_roundw
              case rel => exact ⟨k + 1, by go_num, by omega, by rw [HS.out]; first | rfl | exact ival_eq (by omega), by first | rfl | trivial⟩
              case measure => simp [intOf]; omega
            | false =>
              rw [hbit] at hb2
              have HS := Lib.hid (hCN (.inr hbit))
              clear hCY hCN hbit
              go_wp2
              go_roundw
              case rel => exact ⟨k + 1, by go_num, by omega, by rw [HS.out], by first | rfl | trivial⟩
              case measure => simp [intOf]; omega
          | false =>
            have HS := Lib.hid (hCN (.inl hxg))
            clear hCY hCN
            cases hbit : bitB (s : Int) k with
            | true =>
              rw [hbit] at hb2
              clear hbit
              go_wp2
              go_roundw
              case rel => exact ⟨k + 1, by go_num, by omega, by rw [HS.out], by first | rfl | trivial⟩
              case measure => simp [intOf]; omega
            | false =>
              rw [hbit] at hb2
              clear hbit
              go_wp2
              go_roundw
              case rel => exact ⟨k + 1, by go_num, by omega, by rw [HS.out], by first | rfl | trivial⟩
              case measure => simp [intOf]; omega
        · have hkn : k = gs.length := by omega
          have HPS := Lib.hid (parTo_succ gs ms s g)
          have hbdg := HBD.out g (by omega)
          have hmb := HMB.out g (by omega)
          obtain ⟨y, hy⟩ : ∃ y, y = ms.getD g 0 := ⟨_, rfl⟩
          obtain ⟨q, hq⟩ : ∃ q, q = cntTo gs s g k := ⟨_, rfl⟩
          obtain ⟨v, hv⟩ : ∃ v, v = parTo gs ms s g := ⟨_, rfl⟩
          have hps : parTo gs ms s (g + 1) = v + min (q : Int) y := by rw [HPS.out, hv, hq, hy, hkn]
          have gm := HCM.out g hltg
          rw [← hy] at gm hmb
          rw [← hq] at hcle ⊢
          rw [← hv] at hbdg ⊢
          have HPZ := Lib.hid hps
          have hw1 : IntKind.i64.wrap (v + (q : Int)) = v + (q : Int) := IntWalk.i64_in _ (by omega)
          have hw2 : IntKind.i64.wrap (v + y) = v + y := IntWalk.i64_in _ (by omega)
          have hw3 : wrap64 (v + if y < (q : Int) then y else (q : Int)) = v + if y < (q : Int) then y else (q : Int) := IntWalk.wrap64_in _ (by split <;> omega)
          have hw4 : IntKind.i64.wrap (v + if y < (q : Int) then y else (q : Int)) = v + if y < (q : Int) then y else (q : Int) := IntWalk.i64_in _ (by split <;> omega)
          (try (have hyy := HY0.out; rw [← hy] at hyy; subst hyy))
          clear hps hy hq hv
          have HKN := Lib.hid hkn
          clear hkn
          go_wp2
          all_goals
            go_roundw
            case rel => exact ⟨g + 1, by go_num, by omega, by rw [HPZ.out]; exact ival_eq (by first | omega | (split <;> omega) | (trace_state; omega)), by first | rfl | trivial⟩
            case measure => simp [intOf]; omega
    · obtain rfl : g = ms.length := by omega
      rw [← HV.out]
      go_wp2
      go_ret
      exact ⟨rfl, Below.refl _ _⟩
set_option maxHeartbeats 1000000 in
theorem c_impl_PartitionRank (a : Option Addr) (n c : Nat) (gs : List Int) (b : Option Addr) (m d : Nat) (ms : List Int) (w : World) (h : Row .i64 w a n gs) (hn : n ≤ 1048576) (h' : Row .i64 w b m ms) (hm : m ≤ 1048576) :
    Calls Try.prog 39 #[.slice a n c, .slice b m d] w (RetFun 3 (gN (parT gs ms) ((gs.length : Int)) (tabOf ((gs.length : Int)) (parV gs ms))) (gL (parT gs ms) ((gs.length : Int)) (tabOf ((gs.length : Int)) (parV gs ms))) (gB (parT gs ms) ((gs.length : Int)) (tabOf ((gs.length : Int)) (parV gs ms))) w) := by
  have hmf : ∀ (fn : Fn) (first cap : Array Value) (w : World), (Instr.makeFunc fn first cap).run Try.prog w = .ok (.func fn first cap) w := fun _ _ _ _ => rfl
  have hl := h.len
  have hl' := h'.len
  subst hl hl'
  have bel := Below.refl w.heap.size w
  have bg := VBox.new w 22 (.slice a gs.length c)
  replace bel := bel.alloc bel.size (.cells #[.slice a gs.length c] 22)
  have bm := VBox.new (w.alloc (.cells #[.slice a gs.length c] 22)) 22 (.slice b ms.length d)
  rw [World.size_alloc] at bm
  replace bg := bg.alloc (.cells #[.slice b ms.length d] 22)
  replace bel := bel.alloc bel.size (.cells #[.slice b ms.length d] 22)
  have fr := FBox.new ((w.alloc (.cells #[.slice a gs.length c] 22)).alloc (.cells #[.slice b ms.length d] 22)) 26 0 none 0 0
  rw [World.size_alloc, World.size_alloc] at fr
  replace bg := bg.alloc (.cells #[.int .i64 0, .slice none 0 0] 26)
  replace bm := bm.alloc (.cells #[.int .i64 0, .slice none 0 0] 26)
  replace bel := bel.alloc bel.size (.cells #[.int .i64 0, .slice none 0 0] 26)
  have kbg0 := bg.c0
  have kbm0 := bm.c0
  have kr0 := fr.c0
  have kr1 := fr.c1
  have krf := fr.free
  by_cases h5 : gs.length ≤ 5
  · by_cases h5' : ms.length ≤ 5
    · cases hA : allIn ms 0 5 with
      | false =>
        obtain ⟨hN, hL, hB⟩ := g_no (b := parT gs ms) (n := (gs.length : Int)) (xs := tabOf ((gs.length : Int)) (parV gs ms)) (by simp [parT, hA])
        rw [hN, hL, hB]
        clear hN hL hB
        go_enter Try.func39, Try.ntmps39
        go_wp2_with fail
        refine (below_of (c_areWithin _ _ _ _ _ _ _ (h'.below bel) hm)).mono ?_
        rw [hA]
        rintro e w1 ⟨rfl, hb1⟩
        replace bel := bel.trans (hb1.mono bel.size)
        replace bg := bg.below hb1
        replace bm := bm.below hb1
        replace fr := fr.below hb1
        replace kbg0 := bg.c0
        replace kbm0 := bm.c0
        replace kr0 := fr.c0
        replace kr1 := fr.c1
        replace krf := fr.free
        go_wp2_with fail
        refine bodyPost_ret (v := .tuple #[.agg #[.int .i64 0, .slice none 0 0], .bool false]) (by simp [results, Try.results39, go_sem, kr0, kr1]) rfl ?_
        exact ⟨none, 0, rfl, OwnI.nil _ _ _ _, by simp, by first | exact (bel.setCell (by show w.heap.size ≤ w.heap.size + 1 + 1; omega) _).setCell (by show w.heap.size ≤ w.heap.size + 1 + 1; omega) _ | exact bel⟩
      | true =>
        have hwm : IntKind.i64.wrap ((ms.length : Int) - 1) = (ms.length : Int) - 1 := IntWalk.i64_in _ (by omega)
        cases hG : allIn gs 0 ((ms.length : Int) - 1) with
        | false =>
          obtain ⟨hN, hL, hB⟩ := g_no (b := parT gs ms) (n := (gs.length : Int)) (xs := tabOf ((gs.length : Int)) (parV gs ms)) (by simp [parT, hG])
          rw [hN, hL, hB]
          clear hN hL hB
          go_enter Try.func39, Try.ntmps39
          go_wp2_with fail
          refine (below_of (c_areWithin _ _ _ _ _ _ _ (h'.below bel) hm)).mono ?_
          rw [hA]
          rintro e w1 ⟨rfl, hb1⟩
          replace bel := bel.trans (hb1.mono bel.size)
          replace bg := bg.below hb1
          replace bm := bm.below hb1
          replace fr := fr.below hb1
          replace kbg0 := bg.c0
          replace kbm0 := bm.c0
          replace kr0 := fr.c0
          replace kr1 := fr.c1
          replace krf := fr.free
          go_wp2_with fail
          refine (below_of (c_areWithin _ _ _ _ _ _ _ (h.below bel) hn)).mono ?_
          rw [hG]
          rintro e w2 ⟨rfl, hb2⟩
          replace bel := bel.trans (hb2.mono bel.size)
          replace bg := bg.below hb2
          replace bm := bm.below hb2
          replace fr := fr.below hb2
          replace kbg0 := bg.c0
          replace kbm0 := bm.c0
          replace kr0 := fr.c0
          replace kr1 := fr.c1
          replace krf := fr.free
          go_wp2_with fail
          refine bodyPost_ret (v := .tuple #[.agg #[.int .i64 0, .slice none 0 0], .bool false]) (by simp [results, Try.results39, go_sem, kr0, kr1]) rfl ?_
          exact ⟨none, 0, rfl, OwnI.nil _ _ _ _, by simp, by first | exact (bel.setCell (by show w.heap.size ≤ w.heap.size + 1 + 1; omega) _).setCell (by show w.heap.size ≤ w.heap.size + 1 + 1; omega) _ | exact bel⟩
        | true =>
          have hp32 := pow5 (n := (gs.length : Int)) (by omega) (by omega)
          have HX := Lib.hid (allIn_getD hA)
          obtain ⟨hN, hL, hB⟩ := g_mid (b := parT gs ms) (n := (gs.length : Int)) (xs := tabOf ((gs.length : Int)) (parV gs ms)) (by simp [parT, hA, hG, h5, h5'])
          rw [hN, hL, hB]
          clear hN hL hB
          obtain ⟨tab, htab⟩ : ∃ t, t = tabOf ((gs.length : Int)) (parV gs ms) := ⟨_, rfl⟩
          rw [← htab]
          have HTAB := Lib.hid htab
          clear htab
          go_enter Try.func39, Try.ntmps39
          go_wp2_with fail
          refine (below_of (c_areWithin _ _ _ _ _ _ _ (h'.below bel) hm)).mono ?_
          rw [hA]
          rintro e w1 ⟨rfl, hb1⟩
          replace bel := bel.trans (hb1.mono bel.size)
          replace bg := bg.below hb1
          replace bm := bm.below hb1
          replace fr := fr.below hb1
          replace kbg0 := bg.c0
          replace kbm0 := bm.c0
          replace kr0 := fr.c0
          replace kr1 := fr.c1
          replace krf := fr.free
          go_wp2_with fail
          refine (below_of (c_areWithin _ _ _ _ _ _ _ (h.below bel) hn)).mono ?_
          rw [hG]
          rintro e w2 ⟨rfl, hb2⟩
          replace bel := bel.trans (hb2.mono bel.size)
          replace bg := bg.below hb2
          replace bm := bm.below hb2
          replace fr := fr.below hb2
          replace kbg0 := bg.c0
          replace kbm0 := bm.c0
          replace kr0 := fr.c0
          replace kr1 := fr.c1
          replace krf := fr.free
          have hlt1 := fr.lt
          go_wp2_with fail
          refine (c_makeFunction _ _ _ (parV gs ms) _ (by omega) (by omega) (enters_of Try.func70 (by kernel_rfl) rfl) (fun s w' hs hb => by rw [app2]; exact c_par1 a gs.length c gs b ms.length d ms (w.heap.size + 1) w.heap.size s w' (bm.below hb) (bg.below hb) ((h.below bel).below hb) ((h'.below bel).below hb) h5 h5' (by omega) HX.out)).mono ?_
          rw [← HTAB.out]
          rintro e w2 ⟨a2, c2, rfl, ho, hlen, hb2⟩
          obtain ⟨wB, hwB⟩ : ∃ z, z = fr.lt := ⟨_, rfl⟩
          clear hwB
          have hfr := fr.lt
          replace bel := bel.trans (hb2.mono bel.size)
          replace fr := fr.below hb2
          replace kr0 := fr.c0
          replace kr1 := fr.c1
          replace krf := fr.free
          go_wp2_with fail
          refine bodyPost_ret (v := .tuple #[.agg #[.int .i64 (madeN ((gs.length : Int)) tab), .slice a2 (madeL ((gs.length : Int)) tab).length c2], .bool (isFun ((gs.length : Int)) tab)]) (by simp [results, Try.results39, go_sem, kr0, kr1]) rfl ?_
          refine ⟨a2, c2, rfl, ?_, hlen, (bel.setCell (by show w.heap.size ≤ w.heap.size + 1 + 1; omega) _).setCell (by show w.heap.size ≤ w.heap.size + 1 + 1; omega) _⟩
          exact ((ho.base (by omega)).setFar ⟨w.heap.size + 1 + 1, 0, none⟩ _ (.inr (row_apart ho.range (.inl (by show w.heap.size + 1 + 1 < _; omega))))).setFar ⟨w.heap.size + 1 + 1, 1, none⟩ _ (.inr (row_apart ho.range (.inl (by show w.heap.size + 1 + 1 < _; omega))))
    · have H5 : decide (ms.length ≤ 5) = false := by simp [h5']
      obtain ⟨hN, hL, hB⟩ := g_no (b := parT gs ms) (n := (gs.length : Int)) (xs := tabOf ((gs.length : Int)) (parV gs ms)) (by simp [parT, H5])
      rw [hN, hL, hB]
      clear hN hL hB
      go_enter Try.func39, Try.ntmps39
      go_wp2_with fail
      refine bodyPost_ret (v := .tuple #[.agg #[.int .i64 0, .slice none 0 0], .bool false]) (by simp [results, Try.results39, go_sem, kr0, kr1]) rfl ?_
      exact ⟨none, 0, rfl, OwnI.nil _ _ _ _, by simp, by first | exact (bel.setCell (by show w.heap.size ≤ w.heap.size + 1 + 1; omega) _).setCell (by show w.heap.size ≤ w.heap.size + 1 + 1; omega) _ | exact bel⟩
  · have H5 : decide (gs.length ≤ 5) = false := by simp [h5]
    obtain ⟨hN, hL, hB⟩ := g_no (b := parT gs ms) (n := (gs.length : Int)) (xs := tabOf ((gs.length : Int)) (parV gs ms)) (by simp [parT, H5])
    rw [hN, hL, hB]
    clear hN hL hB
    go_enter Try.func39, Try.ntmps39
    go_wp2_with fail
    refine bodyPost_ret (v := .tuple #[.agg #[.int .i64 0, .slice none 0 0], .bool false]) (by simp [results, Try.results39, go_sem, kr0, kr1]) rfl ?_
    exact ⟨none, 0, rfl, OwnI.nil _ _ _ _, by simp, by first | exact (bel.setCell (by show w.heap.size ≤ w.heap.size + 1 + 1; omega) _).setCell (by show w.heap.size ≤ w.heap.size + 1 + 1; omega) _ | exact bel⟩
set_option maxHeartbeats 4000000 in
theorem c_spec_PartitionRank (a : Option Addr) (n c : Nat) (gs : List Int) (b : Option Addr) (m d : Nat) (ms : List Int) (w : World) (h : Row .i64 w a n gs) (hn : n ≤ 1048576) (h' : Row .i64 w b m ms) (hm : m ≤ 1048576) :
    Calls Try.prog 38 #[.slice a n c, .slice b m d] w (RetFun 3 (gN (parT gs ms) ((gs.length : Int)) (tabOf ((gs.length : Int)) (parV gs ms))) (gL (parT gs ms) ((gs.length : Int)) (tabOf ((gs.length : Int)) (parV gs ms))) (gB (parT gs ms) ((gs.length : Int)) (tabOf ((gs.length : Int)) (parV gs ms))) w) := by
  have hl := h.len
  have hl' := h'.len
  subst hl hl'
  have bel := Below.refl w.heap.size w
  have fr := FBox.new w 26 0 none 0 0
  replace bel := bel.alloc bel.size (.cells #[.int .i64 0, .slice none 0 0] 26)
  have kr0 := fr.c0
  have kr1 := fr.c1
  have krf := fr.free
  have hw1 := h.alloc (.cells #[.int .i64 0, .slice none 0 0] 26)
  have hw1' := h'.alloc (.cells #[.int .i64 0, .slice none 0 0] 26)
  by_cases h5 : gs.length ≤ 5
  · by_cases h5' : ms.length ≤ 5
    · obtain ⟨p, hp⟩ : ∃ p, p = 2 ^ gs.length := ⟨_, rfl⟩
      have hp32 := pow5 (n := (gs.length : Int)) (by omega) (by omega)
      rw [Int.toNat_natCast, ← hp] at hp32
      have htab : tabOf (gs.length : Int) (parV gs ms) = tabTo (parV gs ms) p := by simp [tabOf, hp]
      rw [htab]
      have HTAB := Lib.hid htab
      have HTL := Lib.hid (tabTo_length (parV gs ms))
      have HP := Lib.hid hp
      have hwm : IntKind.i64.wrap ((ms.length : Int) - 1) = (ms.length : Int) - 1 := IntWalk.i64_in _ (by omega)
      clear htab hp
      go_enter Try.func38, Try.ntmps38
      go_wp2_with fail
      go_loopw [6] (fun i wr => ∃ j : Nat, i = .int .i64 j ∧ j ≤ gs.length ∧ (∀ t, t < j → inB (gs.getD t 0) 0 ((ms.length : Int) - 1) = true) ∧ wr = w.alloc (.cells #[.int .i64 0, .slice none 0 0] 26)) (fun i _ => gs.length - (intOf i).toNat)
      case atStart => exact ⟨0, rfl, Nat.zero_le _, fun t ht => by omega, rfl⟩
      case round =>
        obtain ⟨j, rfl, hj, hall, rfl⟩ := hrel
        have HA := Lib.hid hall
        clear hall
        by_cases hlt : j < gs.length
        · obtain ⟨b3, off, rfl, hblt, hc⟩ := (hw1).at_ (by omega)
          have g1 := hc j hlt
          have hi0 : (0 : Int) ≤ j := by omega
          have hi1 : (j : Int) < (gs.length : Int) := by omega
          cases hin : inB (gs.getD j 0) 0 ((ms.length : Int) - 1) with
          | false =>
            have hA : allIn gs 0 ((ms.length : Int) - 1) = false := allIn_false_of j hlt hin
            rw [← HTAB.out]
            obtain ⟨hN, hL, hB⟩ := g_no (b := parT gs ms) (n := (gs.length : Int)) (xs := tabOf ((gs.length : Int)) (parV gs ms)) (by simp [parT, hA])
            rw [hN, hL, hB]
            clear hN hL hB
            obtain ⟨x, hx⟩ : ∃ x, x = gs.getD j 0 := ⟨_, rfl⟩
            rw [← hx] at g1 hin
            clear hx hc
            go_wp2_with fail
            refine (c_l1In _ _ _ _).mono ?_
            rw [hin]
            rintro e w' ⟨rfl, rfl⟩
            go_wp2_with fail
            refine bodyPost_ret (v := .tuple #[.agg #[.int .i64 0, .slice none 0 0], .bool false]) (by simp [results, Try.results38, go_sem, kr0, kr1]) rfl ?_
            exact ⟨none, 0, rfl, OwnI.nil _ _ _ _, by simp, by first | exact (bel.setCell (by show w.heap.size ≤ w.heap.size; omega) _).setCell (by show w.heap.size ≤ w.heap.size; omega) _ | exact bel⟩
          | true =>
            have hall : ∀ t, t < j + 1 → inB (gs.getD t 0) 0 ((ms.length : Int) - 1) = true := fun t ht => by
              rcases Nat.lt_or_eq_of_le (Nat.le_of_lt_succ ht) with h | rfl
              · exact HA.out t h
              · exact hin
            have HB := Lib.hid hall
            clear hall
            obtain ⟨x, hx⟩ : ∃ x, x = gs.getD j 0 := ⟨_, rfl⟩
            rw [← hx] at g1 hin
            clear hx hc
            go_wp2_with fail
            refine (c_l1In _ _ _ _).mono ?_
            rw [hin]
            rintro e w' ⟨rfl, rfl⟩
            go_wp2
            go_roundw
            case rel => exact ⟨j + 1, by go_num, by omega, HB.out, by first | rfl | trivial⟩
            case measure => simp [intOf]; omega
        · obtain rfl : j = gs.length := by omega
          have hG2 : allIn gs 0 ((ms.length : Int) - 1) = true := allIn_of HA.out
          clear HA
          go_wp2_with fail
          go_loopw [7] (fun i wr => ∃ j : Nat, i = .int .i64 j ∧ j ≤ ms.length ∧ (∀ t, t < j → inB (ms.getD t 0) 0 5 = true) ∧ wr = w.alloc (.cells #[.int .i64 0, .slice none 0 0] 26)) (fun i _ => ms.length - (intOf i).toNat)
          case atStart => exact ⟨0, rfl, Nat.zero_le _, fun t ht => by omega, rfl⟩
          case round =>
            obtain ⟨j, rfl, hj, hall, rfl⟩ := hrel
            have HA := Lib.hid hall
            clear hall
            by_cases hlt : j < ms.length
            · obtain ⟨b3, off, rfl, hblt, hc⟩ := (hw1').at_ (by omega)
              have g1 := hc j hlt
              have hi0 : (0 : Int) ≤ j := by omega
              have hi1 : (j : Int) < (ms.length : Int) := by omega
              cases hin : inB (ms.getD j 0) 0 5 with
              | false =>
                have hA : allIn ms 0 5 = false := allIn_false_of j hlt hin
                rw [← HTAB.out]
                obtain ⟨hN, hL, hB⟩ := g_no (b := parT gs ms) (n := (gs.length : Int)) (xs := tabOf ((gs.length : Int)) (parV gs ms)) (by simp [parT, hA])
                rw [hN, hL, hB]
                clear hN hL hB
                obtain ⟨x, hx⟩ : ∃ x, x = ms.getD j 0 := ⟨_, rfl⟩
                rw [← hx] at g1 hin
                clear hx hc
                go_wp2_with fail
                refine (c_l1In _ _ _ _).mono ?_
                rw [hin]
                rintro e w' ⟨rfl, rfl⟩
                go_wp2_with fail
                refine bodyPost_ret (v := .tuple #[.agg #[.int .i64 0, .slice none 0 0], .bool false]) (by simp [results, Try.results38, go_sem, kr0, kr1]) rfl ?_
                exact ⟨none, 0, rfl, OwnI.nil _ _ _ _, by simp, by first | exact (bel.setCell (by show w.heap.size ≤ w.heap.size; omega) _).setCell (by show w.heap.size ≤ w.heap.size; omega) _ | exact bel⟩
              | true =>
                have hall : ∀ t, t < j + 1 → inB (ms.getD t 0) 0 5 = true := fun t ht => by
                  rcases Nat.lt_or_eq_of_le (Nat.le_of_lt_succ ht) with h | rfl
                  · exact HA.out t h
                  · exact hin
                have HB := Lib.hid hall
                clear hall
                obtain ⟨x, hx⟩ : ∃ x, x = ms.getD j 0 := ⟨_, rfl⟩
                rw [← hx] at g1 hin
                clear hx hc
                go_wp2_with fail
                refine (c_l1In _ _ _ _).mono ?_
                rw [hin]
                rintro e w' ⟨rfl, rfl⟩
                go_wp2
                go_roundw
                case rel => exact ⟨j + 1, by go_num, by omega, HB.out, by first | rfl | trivial⟩
                case measure => simp [intOf]; omega
            · obtain rfl : j = ms.length := by omega
              have hA2 : allIn ms 0 5 = true := allIn_of HA.out
              clear HA
              have hT : parT gs ms = true := by simp [parT, hA2, hG2, h5, h5']
              have HT := Lib.hid hT
              have hmb := allIn_getD hA2
              have HMB := Lib.hid hmb
              clear hT hA2 hG2 hmb
              go_wp2_with fail
              go_loopw [8, 9] (fun v i wr => ∃ s : Nat, i = .int .i64 s ∧ s ≤ p ∧ OwnI wr (w.heap.size + 1) 3 .i64 v (tabTo (parV gs ms) s) ∧ Below w.heap.size w wr ∧ FBox wr (w.heap.size) 26 0 none 0 0) (fun _ i _ => p - (intOf i).toNat)
              case atStart => exact ⟨0, rfl, Nat.zero_le _, by (first | exact World.ownsRow_made (w.alloc (.cells #[.int .i64 0, .slice none 0 0] 26)) #[] 0 fr.lt (by decide) rfl | (have h := World.ownsRow_made (base := w.heap.size + 1) (e := 3) (size := 1) (w.alloc (.cells #[.int .i64 0, .slice none 0 0] 26)) #[] 0 (by have := fr.lt; first | omega | (simp only [World.size_alloc] at *; omega)) (by decide) rfl; (try simp only [World.size_alloc] at h); exact h)), bel.alloc bel.size _, fr.alloc _⟩
              case round =>
                clear bel fr kr0 kr1 krf hw1 hw1'
                obtain ⟨s, rfl, hs, hown, hb, fr⟩ := hrel
                have hB : w.heap.size + 1 ≤ wr.heap.size := fr.lt
                by_cases hlt2 : s < p
                · have HBD := Lib.hid (parTo_bd (gs := gs) (s := s) HMB.out)
                  have HSC := Lib.hid (tabTo_succ (parV gs ms) s)
                  have hlen := HTL.out s
                  obtain ⟨hz, hs1, hs2⟩ := shl_facts gs.length p HP.out (by omega)
                  go_wp2_with fail
                  clear hz hs1 hs2
                  go_loopw [10, 11] (fun v i wr' => ∃ g : Nat, i = .int .i64 g ∧ g ≤ ms.length ∧ v = .int .i64 (parTo gs ms s g) ∧ wr' = wr) (fun _ i _ => ms.length - (intOf i).toNat)
                  case atStart => exact ⟨0, rfl, Nat.zero_le _, rfl, rfl⟩
                  case round =>
                    obtain ⟨g, rfl, hg, rfl, rfl⟩ := hrel
                    by_cases hltg : g < ms.length
                    · obtain ⟨b3, off3, rfl, _, hcm⟩ := (h'.below hb).at_ (by omega)
                      have HCM := Lib.hid hcm
                      have hi0 : (0 : Int) ≤ g := by omega
                      have hi1 : (g : Int) < (ms.length : Int) := by omega
                      clear hcm
                      go_wp2_with fail
                      first
                        | go_loopw [12, 13] (fun v i wr' => ∃ k : Nat, i = .int .i64 k ∧ k ≤ gs.length ∧ v = .int .i64 (cntTo gs s g k) ∧ wr' = wr) (fun _ i _ => gs.length - (intOf i).toNat)
                        | go_loopw [12, 13] (fun v i wr' => ∃ k : Nat, i = .int .i64 k ∧ k ≤ gs.length ∧ v = .int .i64 (cntTo gs s g k) ∧ wr' = w) (fun _ i _ => gs.length - (intOf i).toNat)
                      case atStart => exact ⟨0, rfl, Nat.zero_le _, rfl, rfl⟩
                      case round =>
                        obtain ⟨k, rfl, hk, rfl, rfl⟩ := hrel
                        have hcle := cntTo_le gs s g k
                        by_cases hltk : k < gs.length
                        · obtain ⟨b4, off4, rfl, _, hcg⟩ := (h.below hb).at_ (by omega)
                          have ge := hcg k hltk
                          clear hcg
                          obtain ⟨hb1, hb2⟩ := bit_facts1 s k (by omega)
                          have hj0 : (0 : Int) ≤ k := by omega
                          have hj1 : (k : Int) < (gs.length : Int) := by omega
                          have hCY := fun h h' => cntTo_yes (gs := gs) (s := s) (g := g) (k := k) h h'
                          have hCN := fun h => cntTo_no (gs := gs) (s := s) (g := g) (k := k) h
                          obtain ⟨x, hx⟩ : ∃ x, x = gs.getD k 0 := ⟨_, rfl⟩
                          obtain ⟨q, hq⟩ : ∃ q, q = cntTo gs s g k := ⟨_, rfl⟩
                          rw [← hx] at ge hCY hCN
                          rw [← hq] at hCY hCN hcle ⊢
                          have hw : IntKind.i64.wrap ((q : Int) + 1) = (q : Int) + 1 := IntWalk.i64_in _ (by omega)
                          clear hx hq
                          cases hxg : (x == (g : Int)) with
                          | true =>
                            cases hbit : bitB (s : Int) k with
                            | true =>
                              rw [hbit] at hb2
                              have HS := Lib.hid (hCY hxg hbit)
                              clear hCY hCN hbit
                              go_wp2
                              go_roundw
                              case rel => exact ⟨k + 1, by go_num, by omega, by rw [HS.out]; first | rfl | exact ival_eq (by omega), by first | rfl | trivial⟩
                              case measure => simp [intOf]; omega
                            | false =>
                              rw [hbit] at hb2
                              have HS := Lib.hid (hCN (.inr hbit))
                              clear hCY hCN hbit
                              go_wp2
                              go_roundw
                              case rel => exact ⟨k + 1, by go_num, by omega, by rw [HS.out], by first | rfl | trivial⟩
                              case measure => simp [intOf]; omega
                          | false =>
                            have HS := Lib.hid (hCN (.inl hxg))
                            clear hCY hCN
                            cases hbit : bitB (s : Int) k with
                            | true =>
                              rw [hbit] at hb2
                              clear hbit
                              go_wp2
                              go_roundw
                              case rel => exact ⟨k + 1, by go_num, by omega, by rw [HS.out], by first | rfl | trivial⟩
                              case measure => simp [intOf]; omega
                            | false =>
                              rw [hbit] at hb2
                              clear hbit
                              go_wp2
                              go_roundw
                              case rel => exact ⟨k + 1, by go_num, by omega, by rw [HS.out], by first | rfl | trivial⟩
                              case measure => simp [intOf]; omega
                        · have hkn : k = gs.length := by omega
                          have HPS := Lib.hid (parTo_succ gs ms s g)
                          have hbdg := HBD.out g (by omega)
                          have hmb := HMB.out g (by omega)
                          obtain ⟨y, hy⟩ : ∃ y, y = ms.getD g 0 := ⟨_, rfl⟩
                          obtain ⟨q, hq⟩ : ∃ q, q = cntTo gs s g k := ⟨_, rfl⟩
                          obtain ⟨v, hv⟩ : ∃ v, v = parTo gs ms s g := ⟨_, rfl⟩
                          have hps : parTo gs ms s (g + 1) = v + min (q : Int) y := by rw [HPS.out, hv, hq, hy, hkn]
                          have gm := HCM.out g hltg
                          rw [← hy] at gm hmb
                          rw [← hq] at hcle ⊢
                          rw [← hv] at hbdg ⊢
                          have HPZ := Lib.hid hps
                          have hw1 : IntKind.i64.wrap (v + (q : Int)) = v + (q : Int) := IntWalk.i64_in _ (by omega)
                          have hw2 : IntKind.i64.wrap (v + y) = v + y := IntWalk.i64_in _ (by omega)
                          have hw3 : wrap64 (v + if y < (q : Int) then y else (q : Int)) = v + if y < (q : Int) then y else (q : Int) := IntWalk.wrap64_in _ (by split <;> omega)
                          have hw4 : IntKind.i64.wrap (v + if y < (q : Int) then y else (q : Int)) = v + if y < (q : Int) then y else (q : Int) := IntWalk.i64_in _ (by split <;> omega)
                          (try (have hyy := HY0.out; rw [← hy] at hyy; subst hyy))
                          clear hps hy hq hv
                          have HKN := Lib.hid hkn
                          clear hkn
                          go_wp2
                          all_goals
                            go_roundw
                            case rel => exact ⟨g + 1, by go_num, by omega, by rw [HPZ.out]; exact ival_eq (by first | omega | (split <;> omega) | (trace_state; omega)), by first | rfl | trivial⟩
                            case measure => simp [intOf]; omega
                    · obtain rfl : g = ms.length := by omega
                      have HST := Lib.hid (show parV gs ms s = parTo gs ms s ms.length from rfl)
                      go_wp2_with (at_builtin; (refine wpList_app EI (base := w.heap.size + 1) (v := u8) (xs := tabTo (parV gs ms) s) (us := [parTo gs ms s ms.length]) (g := wr.heap.size) (n := 1) (c := 1) rfl (.tmp 97) (.tmp 99) rfl ?_ ?_ rfl rfl rfl ?_ ?_ ?_; (exact hown.alloc _); (exact heap_alloc_new wr _); (show _ + 1 ≤ _; omega); (exact le_alloc hB _); intro v' w2 hown1 hgrow))
                      have hb1 : Below w.heap.size w w2 := below_grown (hb.alloc hb.size _) (hown.alloc _) hgrow (by omega) (by simp; omega)
                      have fr' := (fr.alloc _).grown hgrow (row_apart hown.range (.inl (by omega)))
                      go_roundw
                      case rel => exact ⟨s + 1, by go_num, by omega, by rw [HSC.out, HST.out]; exact hown1, hb1, fr'⟩
                      case measure => simp [intOf]; omega
                · obtain rfl : s = p := by omega
                  obtain ⟨hz, hs1, hs2⟩ := shl_facts gs.length s HP.out (by omega)
                  obtain ⟨a2, c2, hv, _⟩ := hown.form
                  rw [HTL.out] at hv
                  subst hv
                  cases hI : isFun ((gs.length : Int)) (tabTo (parV gs ms) s) with
                  | false =>
                    go_wp2_with fail
                    refine (c_l2Made_no _ _ _ _ _ _ hown.row (by omega) hI).mono ?_
                    rintro e w2 ⟨rfl, hb2⟩
                    replace fr := fr.below hb2
                    have kr0 := fr.c0
                    have kr1 := fr.c1
                    have krf := fr.free
                    replace hown := hown.below hb2
                    replace hb := hb.trans (hb2.mono hb.size)
                    have hlt2 := fr.lt
                    go_wp2_with fail
                    refine bodyPost_ret (v := .tuple #[.agg #[.int .i64 0, .slice none 0 0], .bool false]) (by simp [results, Try.results38, go_sem, kr0, kr1, hlt2]) rfl ?_
                    obtain ⟨hN, hL, hB'⟩ := g_bad (b := parT gs ms) hI
                    rw [hN, hL, hB']
                    exact ⟨none, 0, rfl, OwnI.nil _ _ _ _, by simp, below_set2a hb (by omega) _ _ _⟩
                  | true =>
                    go_wp2_with fail
                    refine (c_l2Made_yes _ _ _ _ _ _ hown.row (by omega) hI).mono ?_
                    rintro e w2 ⟨rfl, hb2⟩
                    replace fr := fr.below hb2
                    have kr0 := fr.c0
                    have kr1 := fr.c1
                    have krf := fr.free
                    replace hown := hown.below hb2
                    replace hb := hb.trans (hb2.mono hb.size)
                    have hlt2 := fr.lt
                    go_wp2_with fail
                    refine bodyPost_ret (v := .tuple #[.agg #[.int .i64 ((gs.length : Int)), .slice a2 s c2], .bool true]) (by simp [results, Try.results38, go_sem, kr0, kr1, hlt2]) rfl ?_
                    obtain ⟨hN, hL, hB'⟩ := g_yes (n := (gs.length : Int)) HT.out hI
                    rw [hN, hL, hB']
                    refine ⟨a2, c2, by rw [HTL.out], ?_, by rw [HTL.out]; omega, below_set2a hb (by omega) _ _ _⟩
                    rw [HTL.out]
                    exact (((own_set2 hown (by omega) _ _).alloc _).base (by omega))
    · have H5 : decide (ms.length ≤ 5) = false := by simp [h5']
      obtain ⟨hN, hL, hB⟩ := g_no (b := parT gs ms) (n := (gs.length : Int)) (xs := tabOf ((gs.length : Int)) (parV gs ms)) (by simp [parT, H5])
      rw [hN, hL, hB]
      clear hN hL hB
      go_enter Try.func38, Try.ntmps38
      go_wp2_with fail
      refine bodyPost_ret (v := .tuple #[.agg #[.int .i64 0, .slice none 0 0], .bool false]) (by simp [results, Try.results38, go_sem, kr0, kr1]) rfl ?_
      exact ⟨none, 0, rfl, OwnI.nil _ _ _ _, by simp, by first | exact (bel.setCell (by show w.heap.size ≤ w.heap.size; omega) _).setCell (by show w.heap.size ≤ w.heap.size; omega) _ | exact bel⟩
  · have H5 : decide (gs.length ≤ 5) = false := by simp [h5]
    obtain ⟨hN, hL, hB⟩ := g_no (b := parT gs ms) (n := (gs.length : Int)) (xs := tabOf ((gs.length : Int)) (parV gs ms)) (by simp [parT, H5])
    rw [hN, hL, hB]
    clear hN hL hB
    go_enter Try.func38, Try.ntmps38
    go_wp2_with fail
    refine bodyPost_ret (v := .tuple #[.agg #[.int .i64 0, .slice none 0 0], .bool false]) (by simp [results, Try.results38, go_sem, kr0, kr1]) rfl ?_
    exact ⟨none, 0, rfl, OwnI.nil _ _ _ _, by simp, by first | exact (bel.setCell (by show w.heap.size ≤ w.heap.size; omega) _).setCell (by show w.heap.size ≤ w.heap.size; omega) _ | exact bel⟩
end Go.Proofs.Ytijdamjfijkfjaa
