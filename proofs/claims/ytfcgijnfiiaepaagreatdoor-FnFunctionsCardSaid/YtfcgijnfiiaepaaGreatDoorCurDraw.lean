/- Contracts of spec's l2Draw and l2Any: whatever is drawn, it is a function with some values in memory of the call's own. -/
import Derived.Test.YtfcgijnfiiaepaaGreatDoorCurFun
import Derived.Test.YtfcgijnfiiaepaaGreatDoorWeigh
namespace Go.Proofs.YtfcgijnfiiaepaaGreatDoor
set_option linter.unusedSimpArgs false
set_option linter.unusedVariables false
open Go.RowKit

theorem FBox.cur {w w' : World} {g g' : Nat} {t : TypeId} {n : Int} {a : Option Addr} {l c : Nat} (h : FBox w g t n a l c) (hg : w.grownBy w' (some g')) (hne : g' ≠ g) : FBox w' g t n a l c := h.grown hg (fun e => hne (by injection e))
theorem FBox.row {w w' : World} {g B : Nat} {t : TypeId} {n : Int} {a : Option Addr} {l c : Nat} {v : Value} (h : FBox w g t n a l c) (hg : w.grownBy w' v.ownBlock) (hv : ∀ j, v.ownBlock = some j → B ≤ j) (hlt : g < B) : FBox w' g t n a l c := h.grown hg (fun e => by have := hv g e; omega)
/-- A function with 2 ^ j values, memory of the call's own. -/
def RetD (t et : TypeId) (g most : Nat) (w : World) (e : Ending) (w' : World) : Prop := ∃ (j : Nat) (a : Option Addr) (c : Nat) (xs : List Int), j ≤ most ∧ xs.length = 2 ^ j ∧ e = .returned (.agg #[.int .i64 (j : Int), .slice a xs.length c]) ∧ OwnI w' w.heap.size et .i64 (.slice a xs.length c) xs ∧ Cur t w' g ∧ w.grownBy w' (some g)
/-- A function with some values, memory of the call's own. -/
def RetAny (t et : TypeId) (g : Nat) (w : World) (e : Ending) (w' : World) : Prop := ∃ (m : Int) (a : Option Addr) (c : Nat) (xs : List Int), (-9223372036854775808 ≤ m ∧ m ≤ 9223372036854775807) ∧ 1 ≤ xs.length ∧ xs.length ≤ 32 ∧ e = .returned (.agg #[.int .i64 m, .slice a xs.length c]) ∧ OwnI w' w.heap.size et .i64 (.slice a xs.length c) xs ∧ Cur t w' g ∧ w.grownBy w' (some g)
theorem cur_far2 {t : TypeId} {w : World} {g g' : Nat} (f : Cur t w g) (hne : g < g') (u v : Value) : Cur t ((w.setCell ⟨g', 0, none⟩ u).setCell ⟨g', 1, none⟩ v) g :=
  (f.grown (grownBy_set w ⟨g', 0, none⟩ u) (fun j e => by have e2 : g' = j := Option.some.inj e; omega)).grown (grownBy_set _ ⟨g', 1, none⟩ v) (fun j e => by have e2 : g' = j := Option.some.inj e; omega)
theorem grownBy_far2 {a w : World} {row : Option Nat} (h : a.grownBy w row) (g' : Nat) (hg : a.heap.size ≤ g') (u v : Value) : a.grownBy ((w.setCell ⟨g', 0, none⟩ u).setCell ⟨g', 1, none⟩ v) row :=
  grownBy_own (grownBy_own h (grownBy_set w ⟨g', 0, none⟩ u) (fun j e => by have e2 : g' = j := Option.some.inj e; omega)) (grownBy_set _ ⟨g', 1, none⟩ v) (fun j e => by have e2 : g' = j := Option.some.inj e; omega)
set_option maxRecDepth 40000 in
set_option maxHeartbeats 4000000 in
theorem c_l2Draw (g most : Nat) (w : World) (f : Cur 85 w g) (hm : most ≤ 5) :
    Calls Tryz.prog 79 #[.pointer (some ⟨g, 0, none⟩), .int .i64 most] w (RetD 85 3 g most w) := by
  have hgs := f.lt
  have fr := FBox.new w 26 0 none 0 0
  have hwm : IntKind.i64.wrap ((most : Int) + 1) = (most : Int) + 1 := IntWalk.i64_in _ (by omega)
  go_enter Tryz.func79, Tryz.ntmps79
  go_wp2_with fail
  refine (c_l1Below g _ _ (f.alloc _) (by omega) (by omega)).mono ?_
  rintro e w1 ⟨n0, rfl, hn0, hn1, f1, hg1⟩
  obtain ⟨n, rfl⟩ := Int.eq_ofNat_of_zero_le hn0
  have HN := Lib.hid (show n ≤ most by omega)
  have hn5 : n ≤ 5 := by omega
  clear hwm hn0 hn1 f
  replace fr := fr.cur hg1 (by omega)
  have hg := grownBy_trans (grownBy_alloc w (.cells #[.int .i64 0, .slice none 0 0] 26) (some g)) hg1
  have hB1 : w.heap.size + 1 ≤ w1.heap.size := by have := fr.lt; omega
  have hv := OwnI.lit w1 (w.heap.size + 1) 3 .i64 [] hB1 (by decide)
  have f := f1.alloc (.cells #[] 3)
  replace fr := fr.alloc (.cells #[] 3)
  replace hg := grownBy_trans hg (grownBy_alloc w1 (.cells #[] 3) (some g))
  clear f1 hg1 hB1
  obtain ⟨p, hp⟩ : ∃ p, p = 2 ^ n := ⟨_, rfl⟩
  have hp32 : p ≤ 32 := by rw [hp]; exact Nat.le_trans (Nat.pow_le_pow_right (by decide : 0 < 2) hn5) (by decide)
  have hp0 : 0 < p := by rw [hp]; exact Nat.pow_pos (by decide)
  have HSH := Lib.hid (shl_facts n p hp (by omega))
  have HP := Lib.hid hp
  clear hp
  go_wp2_with fail
  refine (c_l1Below g _ _ f (by decide) (by decide)).mono ?_
  rintro e w2 ⟨x, rfl, hx0, hx1, f2, hg2⟩
  clear f
  have f := f2
  clear f2
  replace hv := hv.cur hg2 (by omega)
  replace fr := fr.cur hg2 (by omega)
  replace hg := grownBy_trans hg hg2
  clear hg2
  have hx : x = 0 ∨ x = 1 ∨ 2 ≤ x := by omega
  clear hx0 hx1
  rcases hx with rfl | rfl | hx
  · skip
    go_wp2_with fail
    go_loopw [6, 7] (fun v sv wr => ∃ (s : Nat) (zs : List Int), sv = .int .i64 (s : Int) ∧ s ≤ p ∧ zs.length = s ∧ OwnI wr (w.heap.size + 1) 3 .i64 v zs ∧ FBox wr w.heap.size 26 0 none 0 0 ∧ Cur 85 wr g ∧ w.grownBy wr (some g)) (fun _ sv _ => p - (intOf sv).toNat)
    case atStart => exact ⟨0, [], rfl, Nat.zero_le _, rfl, hv, fr, f, hg⟩
    case round =>
      clear hv fr f hg
      obtain ⟨s, zs, rfl, hsp, hzl, hv, fr, f, hg⟩ := hrel
      have HZ := Lib.hid hzl
      have hz33 : zs.length ≤ 32 := by omega
      clear hzl
      by_cases hlt : s < p
      · have hlz : (s : Int) < (p : Int) := by omega
        have hs32 : s < 32 := by omega
        obtain ⟨q1, q2, q3⟩ := HSH.out
        go_wp2_with fail
        clear q1 q2 q3
        refine (c_l1Below g _ _ f (by decide) (by decide)).mono ?_
        rintro e w4 ⟨y, rfl, hy0, hy1, f4, hg4⟩
        have hwy : IntKind.i64.wrap (y - 1) = y - 1 := IntWalk.i64_in _ (by omega)
        clear hy0 hy1 f
        have f := f4
        replace hv := hv.cur hg4 (by omega)
        replace fr := fr.cur hg4 (by omega)
        replace hg := grownBy_trans hg hg4
        clear hg4
        have hBB : w.heap.size + 1 ≤ w4.heap.size := by have := fr.lt; omega
        go_wp2_with (at_builtin; refine wpList_appAt EI (base := w.heap.size + 1) (v := u6) (xs := zs) (us := [y - 1]) (g := w4.heap.size) (n := 1) (c := 1) rfl (.tmp 32) (.tmp 36) rfl ?_ ?_ rfl rfl rfl ?_ ?_ ?_; (exact hv.alloc _); (exact heap_alloc_new w4 _); (show _ + 1 ≤ _; omega); (exact le_alloc hBB _); intro v6 w6 hv6 hgrow hloc)
        have hR := fun j hj => (hv.range j hj).1
        have f6 := (f.alloc (.cells #[.int .i64 (y - 1)] 3)).grown hgrow (fun i hi => by have := hR i hi; omega)
        have fr6 := (fr.alloc (.cells #[.int .i64 (y - 1)] 3)).row hgrow hR (Nat.lt_succ_self _)
        have hg6 := grownBy_own (grownBy_trans hg (grownBy_alloc w4 (.cells #[.int .i64 (y - 1)] 3) (some g))) hgrow (fun j hj => by have := hR j hj; omega)
        go_roundw
        case rel => first | exact ⟨s + 1, _, by go_num, by omega, by simp [HZ.out], hv6, fr6, f6, hg6⟩ | ((repeat apply Exists.intro); exact ⟨⟨s + 1, _, by go_num, by omega, by simp [HZ.out], hv6, fr6, f6, hg6⟩, rfl⟩)
        case measure => simp [intOf]; omega
      · obtain rfl : p = s := by omega
        obtain ⟨a8, c8, rfl, _⟩ := hv.form
        rw [HZ.out] at hv
        rw [HZ.out]
        obtain ⟨q1, q2, q3⟩ := HSH.out
        have kr0 := fr.c0
        have kr1 := fr.c1
        have krf := fr.free
        go_wp2_with fail
        refine bodyPost_ret (v := .agg #[.int .i64 (n : Int), .slice a8 p c8]) (by simp [results, Tryz.results79, go_sem, kr0, kr1, krf]) rfl ?_
        refine ⟨n, a8, c8, zs, HN.out, by rw [HZ.out, HP.out], by rw [HZ.out], ?_, cur_far2 f hgs _ _, grownBy_far2 hg _ (Nat.le_refl _) _ _⟩
        rw [HZ.out]
        exact (own_set2 hv (Nat.lt_succ_self _) _ _).base (Nat.le_succ _)
  · skip
    have hwn : IntKind.i64.wrap ((n : Int) + 1) = (n : Int) + 1 := IntWalk.i64_in _ (by omega)
    go_wp2_with fail
    refine (c_l1Below g _ _ f (by omega) (by omega)).mono ?_
    rintro e w3 ⟨top, rfl, ht0, ht1, f3, hg3⟩
    clear hwn f ht0 ht1
    skip
    have f := f3
    clear f3
    replace hv := hv.cur hg3 (by omega)
    replace fr := fr.cur hg3 (by omega)
    replace hg := grownBy_trans hg hg3
    clear hg3
    go_wp2_with fail
    go_loopw [6, 9] (fun v sv wr => ∃ (s : Nat) (zs : List Int), sv = .int .i64 (s : Int) ∧ s ≤ p ∧ zs.length = s ∧ OwnI wr (w.heap.size + 1) 3 .i64 v zs ∧ FBox wr w.heap.size 26 0 none 0 0 ∧ Cur 85 wr g ∧ w.grownBy wr (some g)) (fun _ sv _ => p - (intOf sv).toNat)
    case atStart => exact ⟨0, [], rfl, Nat.zero_le _, rfl, hv, fr, f, hg⟩
    case round =>
      clear hv fr f hg
      obtain ⟨s, zs, rfl, hsp, hzl, hv, fr, f, hg⟩ := hrel
      have HZ := Lib.hid hzl
      have hz33 : zs.length ≤ 32 := by omega
      clear hzl
      by_cases hlt : s < p
      · have hlz : (s : Int) < (p : Int) := by omega
        have hs32 : s < 32 := by omega
        skip
        have hBB : w.heap.size + 1 ≤ wr.heap.size := by have := fr.lt; omega
        rcases (show top ≤ (sizeN s : Int) ∨ (sizeN s : Int) < top by omega) with hmn | hmn
        · obtain ⟨q1, q2, q3⟩ := HSH.out
          go_wp2_with fail
          clear q1 q2 q3
          refine (c_l2Size s _ hs32).mono ?_
          rintro e w4 ⟨rfl, rfl⟩
          go_wp2_with (at_builtin; refine wpList_appAt EI (base := w.heap.size + 1) (v := u6) (xs := zs) (us := [top]) (g := wr.heap.size) (n := 1) (c := 1) rfl (.tmp 53) (.tmp 58) rfl ?_ ?_ rfl rfl rfl ?_ ?_ ?_; (exact hv.alloc _); (exact heap_alloc_new wr _); (show _ + 1 ≤ _; omega); (exact le_alloc hBB _); intro v6 w6 hv6 hgrow hloc)
          have hR := fun j hj => (hv.range j hj).1
          have f6 := (f.alloc (.cells #[.int .i64 (top)] 3)).grown hgrow (fun i hi => by have := hR i hi; omega)
          have fr6 := (fr.alloc (.cells #[.int .i64 (top)] 3)).row hgrow hR (Nat.lt_succ_self _)
          have hg6 := grownBy_own (grownBy_trans hg (grownBy_alloc wr (.cells #[.int .i64 (top)] 3) (some g))) hgrow (fun j hj => by have := hR j hj; omega)
          go_roundw
          case rel => first | exact ⟨s + 1, _, by go_num, by omega, by simp [HZ.out], hv6, fr6, f6, hg6⟩ | ((repeat apply Exists.intro); exact ⟨⟨s + 1, _, by go_num, by omega, by simp [HZ.out], hv6, fr6, f6, hg6⟩, rfl⟩)
          case measure => simp [intOf]; omega
        · obtain ⟨q1, q2, q3⟩ := HSH.out
          go_wp2_with fail
          clear q1 q2 q3
          refine (c_l2Size s _ hs32).mono ?_
          rintro e w4 ⟨rfl, rfl⟩
          go_wp2_with (at_builtin; refine wpList_appAt EI (base := w.heap.size + 1) (v := u6) (xs := zs) (us := [(sizeN s : Int)]) (g := wr.heap.size) (n := 1) (c := 1) rfl (.tmp 53) (.tmp 58) rfl ?_ ?_ rfl rfl rfl ?_ ?_ ?_; (exact hv.alloc _); (exact heap_alloc_new wr _); (show _ + 1 ≤ _; omega); (exact le_alloc hBB _); intro v6 w6 hv6 hgrow hloc)
          have hR := fun j hj => (hv.range j hj).1
          have f6 := (f.alloc (.cells #[.int .i64 ((sizeN s : Int))] 3)).grown hgrow (fun i hi => by have := hR i hi; omega)
          have fr6 := (fr.alloc (.cells #[.int .i64 ((sizeN s : Int))] 3)).row hgrow hR (Nat.lt_succ_self _)
          have hg6 := grownBy_own (grownBy_trans hg (grownBy_alloc wr (.cells #[.int .i64 ((sizeN s : Int))] 3) (some g))) hgrow (fun j hj => by have := hR j hj; omega)
          go_roundw
          case rel => first | exact ⟨s + 1, _, by go_num, by omega, by simp [HZ.out], hv6, fr6, f6, hg6⟩ | ((repeat apply Exists.intro); exact ⟨⟨s + 1, _, by go_num, by omega, by simp [HZ.out], hv6, fr6, f6, hg6⟩, rfl⟩)
          case measure => simp [intOf]; omega
      · obtain rfl : p = s := by omega
        obtain ⟨a8, c8, rfl, _⟩ := hv.form
        rw [HZ.out] at hv
        rw [HZ.out]
        obtain ⟨q1, q2, q3⟩ := HSH.out
        go_wp2_with fail
        (try clear q1 q2 q3)
        refine (c_l1Once g _ _ f (by decide) (by decide)).mono ?_
        rintro e w5 ⟨b, rfl, f5, hg5⟩
        clear f
        have f := f5
        clear f5
        replace hv := hv.cur hg5 (by omega)
        replace fr := fr.cur hg5 (by omega)
        replace hg := grownBy_trans hg hg5
        clear hg5
        cases b with
        | false =>
          have kr0 := fr.c0
          have kr1 := fr.c1
          have krf := fr.free
          go_wp2_with fail
          refine bodyPost_ret (v := .agg #[.int .i64 (n : Int), .slice a8 p c8]) (by simp [results, Tryz.results79, go_sem, kr0, kr1, krf]) rfl ?_
          refine ⟨n, a8, c8, zs, HN.out, by rw [HZ.out, HP.out], by rw [HZ.out], ?_, cur_far2 f hgs _ _, grownBy_far2 hg _ (Nat.le_refl _) _ _⟩
          rw [HZ.out]
          exact (own_set2 hv (Nat.lt_succ_self _) _ _).base (Nat.le_succ _)
        | true =>
          have hBB : w.heap.size + 1 ≤ w5.heap.size := by have := fr.lt; omega
          have hw0 := OwnI.lit w5 (w.heap.size + 1) 3 .i64 [] hBB (by decide)
          have hap0 : Apart (.slice a8 p c8) (.slice (some ⟨w5.heap.size, 0, none⟩) 0 0) := Apart.late hv (fun j hj => by simp [Value.ownBlock] at hj; omega)
          clear hBB
          go_wp2_with fail
          go_loopw [10, 11] (fun wv iv wr => ∃ (i : Nat) (ws : List Int), iv = .int .i64 (i : Int) ∧ i ≤ n ∧ ws.length = i ∧ OwnI wr (w.heap.size + 1) 3 .i64 wv ws ∧ OwnI wr (w.heap.size + 1) 3 .i64 (.slice a8 p c8) zs ∧ Apart (.slice a8 p c8) wv ∧ FBox wr w.heap.size 26 0 none 0 0 ∧ Cur 85 wr g ∧ w.grownBy wr (some g)) (fun _ iv _ => n - (intOf iv).toNat)
          case atStart => exact ⟨0, [], rfl, Nat.zero_le _, rfl, hw0, hv.alloc _, hap0, fr.alloc _, f.alloc _, grownBy_trans hg (grownBy_alloc _ _ _)⟩
          case round =>
            clear hv fr f hg hw0 hap0
            obtain ⟨i, ws, rfl, hin, hwl, hw, hv, hap, fr, f, hg⟩ := hrel
            have HW := Lib.hid hwl
            have hw33 : ws.length ≤ 32 := by omega
            clear hwl
            by_cases hlt : i < n
            · have hiz : (i : Int) < (n : Int) := by omega
              go_wp2_with fail
              refine (c_l1Below g _ _ f (by decide) (by decide)).mono ?_
              rintro e w7 ⟨y, rfl, hy0, hy1, f7, hg7⟩
              clear hy0 hy1 f
              have f := f7
              replace hw := hw.cur hg7 (by omega)
              replace hv := hv.cur hg7 (by omega)
              replace fr := fr.cur hg7 (by omega)
              replace hg := grownBy_trans hg hg7
              clear hg7
              have hBB : w.heap.size + 1 ≤ w7.heap.size := by have := fr.lt; omega
              go_wp2_with (at_builtin; refine wpList_appAt EI (base := w.heap.size + 1) (v := u10) (xs := ws) (us := [y]) (g := w7.heap.size) (n := 1) (c := 1) rfl (.tmp 68) (.tmp 71) rfl ?_ ?_ rfl rfl rfl ?_ ?_ ?_; (exact hw.alloc _); (exact heap_alloc_new w7 _); (show _ + 1 ≤ _; omega); (exact le_alloc hBB _); intro v6 w6 hv6 hgrow hloc)
              have hR := fun j hj => (hw.range j hj).1
              have hap6 := hap.next hloc (fun j hj => (hv.alloc (.cells #[.int .i64 y] 3)).range j hj |>.2)
              have hvv6 := (hv.alloc (.cells #[.int .i64 y] 3)).grown hgrow hap
              have f6 := (f.alloc (.cells #[.int .i64 y] 3)).grown hgrow (fun i hi => by have := hR i hi; omega)
              have fr6 := (fr.alloc (.cells #[.int .i64 y] 3)).row hgrow hR (Nat.lt_succ_self _)
              have hg6 := grownBy_own (grownBy_trans hg (grownBy_alloc w7 (.cells #[.int .i64 y] 3) (some g))) hgrow (fun j hj => by have := hR j hj; omega)
              go_roundw
              case rel => exact ⟨i + 1, _, by go_num, by omega, by simp [HW.out], hv6, hvv6, hap6, fr6, f6, hg6⟩
              case measure => simp [intOf]; omega
            · obtain rfl : n = i := by omega
              obtain ⟨a10, c10, rfl, _⟩ := hw.form
              rw [HW.out] at hw hap
              rw [HW.out]
              go_wp2_with fail
              go_loopw [12] (fun sv wr => ∃ (s : Nat) (zs : List Int), sv = .int .i64 (s : Int) ∧ s ≤ p ∧ zs.length = p ∧ OwnI wr (w.heap.size + 1) 3 .i64 (.slice a10 n c10) ws ∧ OwnI wr (w.heap.size + 1) 3 .i64 (.slice a8 p c8) zs ∧ FBox wr w.heap.size 26 0 none 0 0 ∧ Cur 85 wr g ∧ w.grownBy wr (some g)) (fun sv _ => p - (intOf sv).toNat)
              case atStart => exact ⟨0, zs, rfl, Nat.zero_le _, HZ.out, hw, hv, fr, f, hg⟩
              case round =>
                clear hv fr f hg hw HZ
                obtain ⟨s, zs, rfl, hsp, hzl, hw, hv, fr, f, hg⟩ := hrel
                have HZ := Lib.hid hzl
                clear hzl
                by_cases hlt : s < p
                · have hlz : (s : Int) < (p : Int) := by omega
                  obtain ⟨q1, q2, q3⟩ := HSH.out
                  go_wp2_with fail
                  clear q1 q2 q3 hlz
                  go_loopw [13] (fun jv wr => ∃ (j : Nat) (zs : List Int), jv = .int .i64 (j : Int) ∧ j ≤ n ∧ zs.length = p ∧ OwnI wr (w.heap.size + 1) 3 .i64 (.slice a10 n c10) ws ∧ OwnI wr (w.heap.size + 1) 3 .i64 (.slice a8 p c8) zs ∧ FBox wr w.heap.size 26 0 none 0 0 ∧ Cur 85 wr g ∧ w.grownBy wr (some g)) (fun jv _ => n - (intOf jv).toNat)
                  case atStart => exact ⟨0, zs, rfl, Nat.zero_le _, HZ.out, hw, hv, fr, f, hg⟩
                  case round =>
                    clear hv fr f hg hw HZ
                    obtain ⟨j, zs, rfl, hji, hzl, hw, hv, fr, f, hg⟩ := hrel
                    have HZ := Lib.hid hzl
                    clear hzl
                    by_cases hlj : j < n
                    · have hjz : (j : Int) < (n : Int) := by omega
                      have hlz : (s : Int) < (p : Int) := by omega
                      obtain ⟨hb1, hb2⟩ := bit_facts1 s j (by omega)
                      have hofw := hw
                      have hofv := hv
                      obtain ⟨b1, o1, rfl, hblt1, hc1⟩ := hw.row.at_ (by omega)
                      obtain ⟨b2, o2, rfl, hblt2, hc2⟩ := hv.row.at_ (by omega)
                      obtain rfl : o2 = 0 := hofv.off.1
                      have hbv : w.heap.size + 1 ≤ b2 := hofv.off.2.2.1
                      have hfre := hv.free s
                      have g1 := hc1 j hlj
                      have g2 := hc2 s hlt
                      generalize ws.getD j 0 = X1 at g1
                      generalize zs.getD s 0 = Y1 at g2
                      rw [Nat.zero_add] at g2
                      obtain ⟨Z, hZ⟩ : ∃ Z, IntKind.i64.wrap (Y1 - X1) = Z := ⟨_, rfl⟩
                      have hZ2 : wrap64 (Y1 - X1) = Z := (IntWalk.i64_left _).symm.trans hZ
                      have hset := hv.set s Z
                      have hws := hw.setFar ⟨b2, s, none⟩ (.int .i64 Z) (by rcases hap with h | h; exact .inl (by simp [Value.ownBlock] at h); exact .inr (fun e => h e.symm))
                      cases hbit : bitB (s : Int) j with
                      | true =>
                        rw [hbit] at hb2
                        clear hbit hc1 hc2 hofw hofv
                        go_wp2_with fail
                        replace hset := hset.drew
                        replace hws := hws.drew
                        have fr2 := (fr.setFar ⟨b2, s, none⟩ (.int .i64 Z) (by simp; omega)).drew
                        have f2 := (f.grown (grownBy_set wr ⟨b2, s, none⟩ (.int .i64 Z)) (fun j e => by have e2 : b2 = j := Option.some.inj e; omega)).drew
                        have hg2 := grownBy_drew (grownBy_own hg (grownBy_set wr ⟨b2, s, none⟩ (.int .i64 Z)) (fun j e => by have e2 : b2 = j := Option.some.inj e; omega))
                        go_region_law (first | fail)
                        all_goals
                          go_wp2
                          go_roundw
                          case rel => exact ⟨j + 1, _, by go_num, by omega, by rw [List.length_set]; exact HZ.out, hws, hset, fr2, f2, hg2⟩
                          case measure => simp [intOf]; omega
                      | false =>
                        rw [hbit] at hb2
                        clear hbit hc1 hc2 hofw hofv
                        go_wp2
                        go_roundw
                        case rel => exact ⟨j + 1, _, by go_num, by omega, HZ.out, hw, hv, fr, f, hg⟩
                        case measure => simp [intOf]; omega
                    · obtain rfl : n = j := by omega
                      go_wp2
                      go_roundw
                      case rel => first | exact ⟨s + 1, _, by go_num, by omega, HZ.out, hw, hv, fr, f, hg⟩ | ((repeat apply Exists.intro); exact ⟨⟨s + 1, _, by go_num, by omega, HZ.out, hw, hv, fr, f, hg⟩, rfl⟩)
                      case measure => simp [intOf]; omega
                · obtain rfl : p = s := by omega
                  obtain ⟨q1, q2, q3⟩ := HSH.out
                  have kr0 := fr.c0
                  have kr1 := fr.c1
                  have krf := fr.free
                  go_wp2_with fail
                  refine bodyPost_ret (v := .agg #[.int .i64 (n : Int), .slice a8 p c8]) (by simp [results, Tryz.results79, go_sem, kr0, kr1, krf]) rfl ?_
                  refine ⟨n, a8, c8, zs, HN.out, by rw [HZ.out, HP.out], by rw [HZ.out], ?_, cur_far2 f hgs _ _, grownBy_far2 hg _ (Nat.le_refl _) _ _⟩
                  rw [HZ.out]
                  exact (own_set2 hv (Nat.lt_succ_self _) _ _).base (Nat.le_succ _)
  · skip
    have hx0 : (x == 0) = false := by rw [beq_eq_false_iff_ne]; omega
    have hx1 : (x == 1) = false := by rw [beq_eq_false_iff_ne]; omega
    clear hx hv
    go_wp2_with fail
    refine (c_l2Cover g n _ f hn5).mono ?_
    rintro e w3 ⟨a8, c8, zs, hzl, rfl, hv, f3, hg3⟩
    rw [← HP.out] at hzl hv ⊢
    have HZ := Lib.hid hzl
    replace hv := hv.base (base' := w.heap.size + 1) (by have := fr.lt; omega)
    clear hx0 hx1 f hzl
    have f := f3
    clear f3
    replace fr := fr.cur hg3 (by omega)
    replace hg := grownBy_trans hg hg3
    clear hg3
    go_wp2_with fail
    (try clear q1 q2 q3)
    refine (c_l1Once g _ _ f (by decide) (by decide)).mono ?_
    rintro e w5 ⟨b, rfl, f5, hg5⟩
    clear f
    have f := f5
    clear f5
    replace hv := hv.cur hg5 (by omega)
    replace fr := fr.cur hg5 (by omega)
    replace hg := grownBy_trans hg hg5
    clear hg5
    cases b with
    | false =>
      have kr0 := fr.c0
      have kr1 := fr.c1
      have krf := fr.free
      go_wp2_with fail
      refine bodyPost_ret (v := .agg #[.int .i64 (n : Int), .slice a8 p c8]) (by simp [results, Tryz.results79, go_sem, kr0, kr1, krf]) rfl ?_
      refine ⟨n, a8, c8, zs, HN.out, by rw [HZ.out, HP.out], by rw [HZ.out], ?_, cur_far2 f hgs _ _, grownBy_far2 hg _ (Nat.le_refl _) _ _⟩
      rw [HZ.out]
      exact (own_set2 hv (Nat.lt_succ_self _) _ _).base (Nat.le_succ _)
    | true =>
      have hBB : w.heap.size + 1 ≤ w5.heap.size := by have := fr.lt; omega
      have hw0 := OwnI.lit w5 (w.heap.size + 1) 3 .i64 [] hBB (by decide)
      have hap0 : Apart (.slice a8 p c8) (.slice (some ⟨w5.heap.size, 0, none⟩) 0 0) := Apart.late hv (fun j hj => by simp [Value.ownBlock] at hj; omega)
      clear hBB
      go_wp2_with fail
      go_loopw [10, 11] (fun wv iv wr => ∃ (i : Nat) (ws : List Int), iv = .int .i64 (i : Int) ∧ i ≤ n ∧ ws.length = i ∧ OwnI wr (w.heap.size + 1) 3 .i64 wv ws ∧ OwnI wr (w.heap.size + 1) 3 .i64 (.slice a8 p c8) zs ∧ Apart (.slice a8 p c8) wv ∧ FBox wr w.heap.size 26 0 none 0 0 ∧ Cur 85 wr g ∧ w.grownBy wr (some g)) (fun _ iv _ => n - (intOf iv).toNat)
      case atStart => exact ⟨0, [], rfl, Nat.zero_le _, rfl, hw0, hv.alloc _, hap0, fr.alloc _, f.alloc _, grownBy_trans hg (grownBy_alloc _ _ _)⟩
      case round =>
        clear hv fr f hg hw0 hap0
        obtain ⟨i, ws, rfl, hin, hwl, hw, hv, hap, fr, f, hg⟩ := hrel
        have HW := Lib.hid hwl
        have hw33 : ws.length ≤ 32 := by omega
        clear hwl
        by_cases hlt : i < n
        · have hiz : (i : Int) < (n : Int) := by omega
          go_wp2_with fail
          refine (c_l1Below g _ _ f (by decide) (by decide)).mono ?_
          rintro e w7 ⟨y, rfl, hy0, hy1, f7, hg7⟩
          clear hy0 hy1 f
          have f := f7
          replace hw := hw.cur hg7 (by omega)
          replace hv := hv.cur hg7 (by omega)
          replace fr := fr.cur hg7 (by omega)
          replace hg := grownBy_trans hg hg7
          clear hg7
          have hBB : w.heap.size + 1 ≤ w7.heap.size := by have := fr.lt; omega
          go_wp2_with (at_builtin; refine wpList_appAt EI (base := w.heap.size + 1) (v := u10) (xs := ws) (us := [y]) (g := w7.heap.size) (n := 1) (c := 1) rfl (.tmp 68) (.tmp 71) rfl ?_ ?_ rfl rfl rfl ?_ ?_ ?_; (exact hw.alloc _); (exact heap_alloc_new w7 _); (show _ + 1 ≤ _; omega); (exact le_alloc hBB _); intro v6 w6 hv6 hgrow hloc)
          have hR := fun j hj => (hw.range j hj).1
          have hap6 := hap.next hloc (fun j hj => (hv.alloc (.cells #[.int .i64 y] 3)).range j hj |>.2)
          have hvv6 := (hv.alloc (.cells #[.int .i64 y] 3)).grown hgrow hap
          have f6 := (f.alloc (.cells #[.int .i64 y] 3)).grown hgrow (fun i hi => by have := hR i hi; omega)
          have fr6 := (fr.alloc (.cells #[.int .i64 y] 3)).row hgrow hR (Nat.lt_succ_self _)
          have hg6 := grownBy_own (grownBy_trans hg (grownBy_alloc w7 (.cells #[.int .i64 y] 3) (some g))) hgrow (fun j hj => by have := hR j hj; omega)
          go_roundw
          case rel => exact ⟨i + 1, _, by go_num, by omega, by simp [HW.out], hv6, hvv6, hap6, fr6, f6, hg6⟩
          case measure => simp [intOf]; omega
        · obtain rfl : n = i := by omega
          obtain ⟨a10, c10, rfl, _⟩ := hw.form
          rw [HW.out] at hw hap
          rw [HW.out]
          go_wp2_with fail
          go_loopw [12] (fun sv wr => ∃ (s : Nat) (zs : List Int), sv = .int .i64 (s : Int) ∧ s ≤ p ∧ zs.length = p ∧ OwnI wr (w.heap.size + 1) 3 .i64 (.slice a10 n c10) ws ∧ OwnI wr (w.heap.size + 1) 3 .i64 (.slice a8 p c8) zs ∧ FBox wr w.heap.size 26 0 none 0 0 ∧ Cur 85 wr g ∧ w.grownBy wr (some g)) (fun sv _ => p - (intOf sv).toNat)
          case atStart => exact ⟨0, zs, rfl, Nat.zero_le _, HZ.out, hw, hv, fr, f, hg⟩
          case round =>
            clear hv fr f hg hw HZ
            obtain ⟨s, zs, rfl, hsp, hzl, hw, hv, fr, f, hg⟩ := hrel
            have HZ := Lib.hid hzl
            clear hzl
            by_cases hlt : s < p
            · have hlz : (s : Int) < (p : Int) := by omega
              obtain ⟨q1, q2, q3⟩ := HSH.out
              go_wp2_with fail
              clear q1 q2 q3 hlz
              go_loopw [13] (fun jv wr => ∃ (j : Nat) (zs : List Int), jv = .int .i64 (j : Int) ∧ j ≤ n ∧ zs.length = p ∧ OwnI wr (w.heap.size + 1) 3 .i64 (.slice a10 n c10) ws ∧ OwnI wr (w.heap.size + 1) 3 .i64 (.slice a8 p c8) zs ∧ FBox wr w.heap.size 26 0 none 0 0 ∧ Cur 85 wr g ∧ w.grownBy wr (some g)) (fun jv _ => n - (intOf jv).toNat)
              case atStart => exact ⟨0, zs, rfl, Nat.zero_le _, HZ.out, hw, hv, fr, f, hg⟩
              case round =>
                clear hv fr f hg hw HZ
                obtain ⟨j, zs, rfl, hji, hzl, hw, hv, fr, f, hg⟩ := hrel
                have HZ := Lib.hid hzl
                clear hzl
                by_cases hlj : j < n
                · have hjz : (j : Int) < (n : Int) := by omega
                  have hlz : (s : Int) < (p : Int) := by omega
                  obtain ⟨hb1, hb2⟩ := bit_facts1 s j (by omega)
                  have hofw := hw
                  have hofv := hv
                  obtain ⟨b1, o1, rfl, hblt1, hc1⟩ := hw.row.at_ (by omega)
                  obtain ⟨b2, o2, rfl, hblt2, hc2⟩ := hv.row.at_ (by omega)
                  obtain rfl : o2 = 0 := hofv.off.1
                  have hbv : w.heap.size + 1 ≤ b2 := hofv.off.2.2.1
                  have hfre := hv.free s
                  have g1 := hc1 j hlj
                  have g2 := hc2 s hlt
                  generalize ws.getD j 0 = X1 at g1
                  generalize zs.getD s 0 = Y1 at g2
                  rw [Nat.zero_add] at g2
                  obtain ⟨Z, hZ⟩ : ∃ Z, IntKind.i64.wrap (Y1 - X1) = Z := ⟨_, rfl⟩
                  have hZ2 : wrap64 (Y1 - X1) = Z := (IntWalk.i64_left _).symm.trans hZ
                  have hset := hv.set s Z
                  have hws := hw.setFar ⟨b2, s, none⟩ (.int .i64 Z) (by rcases hap with h | h; exact .inl (by simp [Value.ownBlock] at h); exact .inr (fun e => h e.symm))
                  cases hbit : bitB (s : Int) j with
                  | true =>
                    rw [hbit] at hb2
                    clear hbit hc1 hc2 hofw hofv
                    go_wp2_with fail
                    replace hset := hset.drew
                    replace hws := hws.drew
                    have fr2 := (fr.setFar ⟨b2, s, none⟩ (.int .i64 Z) (by simp; omega)).drew
                    have f2 := (f.grown (grownBy_set wr ⟨b2, s, none⟩ (.int .i64 Z)) (fun j e => by have e2 : b2 = j := Option.some.inj e; omega)).drew
                    have hg2 := grownBy_drew (grownBy_own hg (grownBy_set wr ⟨b2, s, none⟩ (.int .i64 Z)) (fun j e => by have e2 : b2 = j := Option.some.inj e; omega))
                    go_region_law (first | fail)
                    all_goals
                      go_wp2
                      go_roundw
                      case rel => exact ⟨j + 1, _, by go_num, by omega, by rw [List.length_set]; exact HZ.out, hws, hset, fr2, f2, hg2⟩
                      case measure => simp [intOf]; omega
                  | false =>
                    rw [hbit] at hb2
                    clear hbit hc1 hc2 hofw hofv
                    go_wp2
                    go_roundw
                    case rel => exact ⟨j + 1, _, by go_num, by omega, HZ.out, hw, hv, fr, f, hg⟩
                    case measure => simp [intOf]; omega
                · obtain rfl : n = j := by omega
                  go_wp2
                  go_roundw
                  case rel => first | exact ⟨s + 1, _, by go_num, by omega, HZ.out, hw, hv, fr, f, hg⟩ | ((repeat apply Exists.intro); exact ⟨⟨s + 1, _, by go_num, by omega, HZ.out, hw, hv, fr, f, hg⟩, rfl⟩)
                  case measure => simp [intOf]; omega
            · obtain rfl : p = s := by omega
              obtain ⟨q1, q2, q3⟩ := HSH.out
              have kr0 := fr.c0
              have kr1 := fr.c1
              have krf := fr.free
              go_wp2_with fail
              refine bodyPost_ret (v := .agg #[.int .i64 (n : Int), .slice a8 p c8]) (by simp [results, Tryz.results79, go_sem, kr0, kr1, krf]) rfl ?_
              refine ⟨n, a8, c8, zs, HN.out, by rw [HZ.out, HP.out], by rw [HZ.out], ?_, cur_far2 f hgs _ _, grownBy_far2 hg _ (Nat.le_refl _) _ _⟩
              rw [HZ.out]
              exact (own_set2 hv (Nat.lt_succ_self _) _ _).base (Nat.le_succ _)
end Go.Proofs.YtfcgijnfiiaepaaGreatDoor
