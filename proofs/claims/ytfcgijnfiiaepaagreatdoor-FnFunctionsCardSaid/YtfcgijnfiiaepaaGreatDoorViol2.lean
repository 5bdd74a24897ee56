/- Contracts of impl's ViolationOf (a visitor with a closure), and of IsSubmodular. -/
import Derived.Test.YtfcgijnfiiaepaaGreatDoorViol
import Derived.Test.YtfcgijnfiiaepaaGreatDoorMake
namespace Go.Proofs.YtfcgijnfiiaepaaGreatDoor
set_option linter.unusedSimpArgs false
set_option linter.unusedVariables false
open Go.RowKit

/-- The block of a captured variable that holds a slice. -/
def SBox (w : World) (g : Nat) (t : TypeId) (a : Option Addr) (l c : Nat) : Prop := w.heap[g]? = some (.cells #[.slice a l c] t (0, 0))
theorem SBox.lt {w : World} {g : Nat} {t : TypeId} {a : Option Addr} {l c : Nat} (h : SBox w g t a l c) : g < w.heap.size := (Array.getElem?_eq_some_iff.1 h).1
theorem SBox.below {w w' : World} {g : Nat} {t : TypeId} {a : Option Addr} {l c : Nat} (h : SBox w g t a l c) (hb : Below w.heap.size w w') : SBox w' g t a l c := (hb.block g h.lt).trans h
theorem SBox.alloc {w : World} {g : Nat} {t : TypeId} {a : Option Addr} {l c : Nat} (h : SBox w g t a l c) (o : Obj) : SBox (w.alloc o) g t a l c := (Below.heap_alloc w o g h.lt).trans h
theorem SBox.c0 {w : World} {g : Nat} {t : TypeId} {a : Option Addr} {l c : Nat} (h : SBox w g t a l c) : w.cell? ⟨g, 0, none⟩ = some (.slice a l c) := cell_of_row w g 0 _ t (0, 0) h
theorem SBox.free {w : World} {g : Nat} {t : TypeId} {a : Option Addr} {l c : Nat} (h : SBox w g t a l c) (j : Nat) : w.frozen? ⟨g, j, none⟩ = false := frozen_of_row w g j _ t h
theorem SBox.set {w : World} {g : Nat} {t : TypeId} {a : Option Addr} {l c : Nat} (h : SBox w g t a l c) (a' : Option Addr) (l' c' : Nat) : SBox (w.setCell ⟨g, 0, none⟩ (.slice a' l' c')) g t a' l' c' := one_setCell h
/-- What is known where the visitor has found a violation. -/
def Found (xs : List Int) (g : Nat) (w w' : World) : Prop :=
  ∃ h, SBox w' g 24 (some ⟨h, 0, none⟩) 3 3 ∧ OwnI w' w.heap.size 3 .i64 (.slice (some ⟨h, 0, none⟩) 3 3) xs ∧ w.grownBy w' (some g)
theorem c_viol1_no (e0 : Int) (a : Option Addr) (n c : Nat) (xs : List Int) (s i k g1 g2 : Nat) (w : World) (f : FBox w g1 26 e0 a n c) (o : SBox w g2 24 none 0 0) (h : Row .i64 w a n xs) (hf : isFun e0 xs = true) (hs : s < n) (hi : (i : Int) < e0) (hk : (k : Int) < e0)
    (hx : decide (0 < exc xs s i k) = false) :
    Calls Tryz.prog 71 #[.int .i64 s, .int .i64 i, .int .i64 k, .pointer (some ⟨g1, 0, none⟩), .pointer (some ⟨g2, 0, none⟩)] w fun e w' => e = .returned (.bool true) ∧ Below w.heap.size w w' := by
  have k0 := f.c0
  have k1 := f.c1
  have hx' : ¬ (0 < exc xs s i k) := by simpa using hx
  go_enter Tryz.func71, Tryz.ntmps71
  go_wp2_with fail
  refine (c_excess _ _ _ _ _ _ _ _ _ h hf hs hi hk).mono ?_
  rintro e w1 ⟨rfl, hb1⟩
  have o1 := (o.below hb1).c0
  go_wp2
  go_ret
  exact ⟨rfl, hb1⟩
theorem c_viol1_yes (e0 : Int) (a : Option Addr) (n c : Nat) (xs : List Int) (s i k g1 g2 : Nat) (w : World) (f : FBox w g1 26 e0 a n c) (o : SBox w g2 24 none 0 0) (h : Row .i64 w a n xs) (hf : isFun e0 xs = true) (hs : s < n) (hi : (i : Int) < e0) (hk : (k : Int) < e0)
    (hx : decide (0 < exc xs s i k) = true) :
    Calls Tryz.prog 71 #[.int .i64 s, .int .i64 i, .int .i64 k, .pointer (some ⟨g1, 0, none⟩), .pointer (some ⟨g2, 0, none⟩)] w fun e w' => e = .returned (.bool false) ∧ Found [(s : Int), (i : Int), (k : Int)] g2 w w' := by
  have k0 := f.c0
  have k1 := f.c1
  have hx' : 0 < exc xs s i k := by simpa using hx
  go_enter Tryz.func71, Tryz.ntmps71
  go_wp2_with fail
  refine (c_excess _ _ _ _ _ _ _ _ _ h hf hs hi hk).mono ?_
  rintro e w1 ⟨rfl, hb1⟩
  have hg2 := o.lt
  have o1 := o.below hb1
  have hlt1 := o1.lt
  have p0 := o1.c0
  have p1 := o1.free
  have hsz : (w1.setCell ⟨g2, 0, none⟩ (.slice (some ⟨w1.heap.size, 0, none⟩) 3 3)).heap.size = w1.heap.size := by simp
  have hown := OwnI.lit (w1.setCell ⟨g2, 0, none⟩ (.slice (some ⟨w1.heap.size, 0, none⟩) 3 3)) w.heap.size 3 .i64 [(s : Int), (i : Int), (k : Int)] (by rw [hsz]; exact hb1.size) (by simp)
  rw [hsz] at hown
  have hg : w.grownBy w1 (some g2) := ⟨hb1.os, hb1.tape, hb1.output, hb1.size, fun i hi _ => hb1.block i hi⟩
  go_wp2
  go_ret
  exact ⟨rfl, _, (o1.set _ _ _).alloc _, hown, grownBy_trans (grownBy_trans hg (grownBy_set _ ⟨g2, 0, none⟩ _)) (grownBy_alloc _ _ _)⟩
set_option maxRecDepth 20000 in
set_option maxHeartbeats 1000000 in
theorem c_visitPairs (e0 : Int) (a : Option Addr) (n c : Nat) (xs : List Int) (g1 g2 : Nat) (w : World) (f : FBox w g1 26 e0 a n c) (o : SBox w g2 24 none 0 0) (h : Row .i64 w a n xs) (hn : n ≤ 1048576) (hf : isFun e0 xs = true) :
    Calls Tryz.prog 70 #[.agg #[.int .i64 e0, .slice a n c], .func (.func 71) #[] #[.pointer (some ⟨g1, 0, none⟩), .pointer (some ⟨g2, 0, none⟩)]] w fun e w' =>
      e = .returned (.tuple #[]) ∧ ((violB e0 xs = false ∧ violL e0 xs = [] ∧ Below w.heap.size w w') ∨ (violB e0 xs = true ∧ (violL e0 xs).length = 3 ∧ Found (violL e0 xs) g2 w w')) := by
  have bel := (Below.refl w.heap.size w).alloc (Nat.le_refl _) (.cells #[.int .i64 e0, .slice a n c] 26)
  have fp := FBox.new w 26 e0 a n c
  have hl := h.len
  have hle := isFun_le hf
  obtain ⟨⟨q0, q1⟩, _, _⟩ := isFun_true hf
  obtain ⟨j, rfl⟩ := Int.eq_ofNat_of_zero_le q0
  go_enter Tryz.func70, Tryz.ntmps70
  go_wp2_with fail
  go_loopw [10] (fun i wr => ∃ s : Nat, i = .int .i64 s ∧ s ≤ n ∧ (∀ c, c < s * 64 → badC (j : Int) xs c = false) ∧ Below w.heap.size w wr ∧ FBox wr w.heap.size 26 j a n c) (fun i _ => n - (intOf i).toNat)
  case atStart => exact ⟨0, rfl, Nat.zero_le _, fun c hc => by omega, bel, fp⟩
  case round =>
    clear bel fp
    obtain ⟨s, rfl, hs, hall, bel, fp⟩ := hrel
    have HA := Lib.hid hall; clear hall
    have k0 := fp.c0
    have k1 := fp.c1
    by_cases hlt : s < n
    · go_wp2_with fail
      go_loopw [15] (fun i wr => ∃ i' : Nat, i = .int .i64 i' ∧ i' ≤ j ∧ (∀ c, c < s * 64 + i' * 8 → badC (j : Int) xs c = false) ∧ Below w.heap.size w wr ∧ FBox wr w.heap.size 26 j a n c) (fun i _ => j - (intOf i).toNat)
      case atStart => exact ⟨0, rfl, Nat.zero_le _, fun c hc => HA.out c (by omega), bel, fp⟩
      case round =>
        clear bel fp k0 k1 HA
        obtain ⟨i, rfl, hi, hall, bel, fp⟩ := hrel
        have HI := Lib.hid hall; clear hall
        have k0 := fp.c0
        have k1 := fp.c1
        by_cases hlt2 : i < j
        · go_wp2_with fail
          go_loopw [6] (fun v wr => ∃ k' : Nat, v = .int .i64 k' ∧ i + 1 ≤ k' ∧ k' ≤ j ∧ (∀ c, c < s * 64 + i * 8 + k' → badC (j : Int) xs c = false) ∧ Below w.heap.size w wr ∧ FBox wr w.heap.size 26 j a n c) (fun v _ => j - (intOf v).toNat)
          case atStart => exact ⟨i + 1, by go_num, Nat.le_refl _, by omega, viol_startK (by omega) HI.out, bel, fp⟩
          case round =>
            clear bel fp k0 k1 HI
            obtain ⟨k, rfl, hk0, hk, hall, bel, fp⟩ := hrel
            have HK := Lib.hid hall; clear hall
            have k0 := fp.c0
            have k1 := fp.c1
            by_cases hlt3 : k < j
            · have hbc := badC_eq (n := (j : Int)) (xs := xs) (s := s) (i := i) (k := k) (by omega) (by omega)
              rw [decide_eq_true (show i < k by omega), decide_eq_true (show (k : Int) < (j : Int) by omega), Bool.true_and, Bool.true_and] at hbc
              obtain ⟨b1, b1'⟩ := bit_facts s i (by omega)
              obtain ⟨b2, b2'⟩ := bit_facts s k (by omega)
              have p0 : (0 : Int) ≤ s := by omega
              have p1 : (0 : Int) ≤ i := by omega
              have p2 : (0 : Int) ≤ k := by omega
              cases t1 : bitB (s : Int) i with
              | true =>
                rw [t1] at hbc b1'
                have HN := Lib.hid (viol_nextK HK.out (by rw [hbc]; rfl))
                clear hbc t1
                go_wp2_with fail
                go_roundw
                case rel => exact ⟨k + 1, by go_num, by omega, by omega, HN.out, bel, fp⟩
                case measure => simp [intOf]; omega
              | false =>
                rw [t1] at hbc b1'
                cases t2 : bitB (s : Int) k with
                | true =>
                  rw [t2] at hbc b2'
                  have HN := Lib.hid (viol_nextK HK.out (by rw [hbc]; rfl))
                  clear hbc t1 t2
                  go_wp2_with fail
                  go_roundw
                  case rel => exact ⟨k + 1, by go_num, by omega, by omega, HN.out, bel, fp⟩
                  case measure => simp [intOf]; omega
                | false =>
                  rw [t2] at hbc b2'
                  simp only [Bool.not_false, Bool.true_and] at hbc b1' b2'
                  cases t3 : decide (0 < exc xs s i k) with
                  | false =>
                    have hbc' := hbc
                    rw [t3] at hbc'
                    have HN := Lib.hid (viol_nextK HK.out hbc')
                    have T3 := Lib.hid t3
                    clear hbc hbc' t1 t2 t3
                    go_wp2_with fail
                    refine (c_viol1_no _ _ _ _ _ _ _ _ _ _ _ (f.below (bel.mono (Nat.le_refl _))) (o.below bel) (h.below bel) hf hlt (by omega) (by omega) T3.out).mono ?_
                    rintro e w2 ⟨rfl, hb2⟩
                    replace bel := bel.trans (hb2.mono bel.size)
                    replace fp := fp.below hb2
                    go_wp2
                    go_roundw
                    case rel => exact ⟨k + 1, by go_num, by omega, by omega, HN.out, bel, fp⟩
                    case measure => simp [intOf]; omega
                  | true =>
                    have hbc' := hbc
                    rw [t3] at hbc'
                    obtain ⟨hL, hB⟩ := viol_some hf (show s < xs.length by omega) (by omega) (by omega) hbc' HK.out
                    have HL := Lib.hid hL
                    have HB := Lib.hid hB
                    have T3 := Lib.hid t3
                    clear hbc hbc' t1 t2 t3 hL hB
                    go_wp2_with fail
                    refine (c_viol1_yes _ _ _ _ _ _ _ _ _ _ _ (f.below bel) (o.below bel) (h.below bel) hf hlt (by omega) (by omega) T3.out).mono ?_
                    rintro e w2 ⟨rfl, hh, ob, ow, hg⟩
                    have hg0 : w.grownBy wr (some g2) := ⟨bel.os, bel.tape, bel.output, bel.size, fun i hi _ => bel.block i hi⟩
                    go_wp2
                    refine bodyPost_ret (results_none rfl _ _ _) rfl ?_
                    exact ⟨rfl, .inr ⟨HB.out, by rw [HL.out]; rfl, hh, ob, by rw [HL.out]; exact ow.base bel.size, grownBy_trans hg0 hg⟩⟩
            · obtain rfl : k = j := by omega
              have HN := Lib.hid (viol_endK (by omega) (Nat.le_refl _) HK.out)
              go_wp2
              go_roundw
              case rel => exact ⟨i + 1, by go_num, by omega, HN.out, bel, fp⟩
              case measure => simp [intOf]; omega
        · obtain rfl : i = j := by omega
          have HN := Lib.hid (viol_endI (Nat.le_refl _) HI.out)
          go_wp2
          go_roundw
          case rel => exact ⟨s + 1, by go_num, by omega, HN.out, bel, fp⟩
          case measure => simp [intOf]; omega
    · obtain ⟨hL, hB⟩ := viol_none (n := (j : Int)) (xs := xs) (fun c hc => HA.out c (by omega))
      have HL := Lib.hid hL
      have HB := Lib.hid hB
      clear hL hB
      go_wp2
      go_end0
      exact ⟨rfl, .inl ⟨HB.out, HL.out, bel⟩⟩
set_option maxRecDepth 20000 in
set_option maxHeartbeats 400000 in
theorem c_impl_ViolationOf (e0 : Int) (a : Option Addr) (n c : Nat) (xs : List Int) (w : World) (h : Row .i64 w a n xs) (hn : n ≤ 1048576) :
    Calls Tryz.prog 44 #[.agg #[.int .i64 e0, .slice a n c]] w (RetIntsB 3 (violL e0 xs) (violB e0 xs) w) := by
  have hmf : ∀ (fn : Fn) (first cap : Array Value) (w : World), (Instr.makeFunc fn first cap).run Tryz.prog w = .ok (.func fn first cap) w := fun _ _ _ _ => rfl
  have bel := (Below.refl w.heap.size w).alloc (Nat.le_refl _) (.cells #[.int .i64 e0, .slice a n c] 26)
  have f := FBox.new w 26 e0 a n c
  cases hf : isFun e0 xs with
  | false =>
    obtain ⟨hL, hB⟩ := viol_notFun hf
    rw [hL, hB]
    clear hL hB
    go_enter Tryz.func44, Tryz.ntmps44
    go_wp2_with fail
    refine (c_impl_IsFunction _ _ _ _ _ _ (h.alloc _) hn).mono ?_
    rw [hf]
    rintro e w1 ⟨rfl, hb1⟩
    replace bel := bel.trans (hb1.mono bel.size)
    go_wp2
    go_ret2
    exact ⟨none, 0, rfl, OwnI.nil _ _ _ _, by simp, bel⟩
  | true =>
    go_enter Tryz.func44, Tryz.ntmps44
    go_wp2_with fail
    refine (c_impl_IsFunction _ _ _ _ _ _ (h.alloc _) hn).mono ?_
    rw [hf]
    rintro e w1 ⟨rfl, hb1⟩
    replace bel := bel.trans (hb1.mono bel.size)
    replace f := f.below hb1
    have k0 := f.c0
    have k1 := f.c1
    have hlt1 := f.lt
    have o : SBox (w1.alloc (.cells #[.slice none 0 0] 24)) w1.heap.size 24 none 0 0 := heap_alloc_new w1 _
    have f2 := f.alloc (.cells #[.slice none 0 0] 24)
    have bel2 := bel.alloc bel.size (.cells #[.slice none 0 0] 24)
    go_wp2_with fail
    refine (c_visitPairs _ _ _ _ _ _ _ _ f2 o (h.below bel2) hn hf).mono ?_
    rintro e w2 ⟨rfl, ⟨hB, hL, hb2⟩ | ⟨hB, hL, hh, ob, ow, hg⟩⟩
    · have o2 := (o.below hb2).c0
      have HB := Lib.hid hB
      have HL := Lib.hid hL
      clear hB hL
      go_wp2_with fail
      go_quiet (fail)
      go_wp2
      go_ret2
      exact ⟨none, 0, by rw [HB.out, HL.out]; rfl, by rw [HL.out]; exact OwnI.nil _ _ _ _, by rw [HL.out]; simp, below_drewN (bel2.trans (hb2.mono bel2.size)) _⟩
    · have o2 := ob.c0
      have HB := Lib.hid hB
      have HL := Lib.hid hL
      clear hB hL
      have hbel : Below w.heap.size w w2 := bel2.grown hg bel2.size (fun k hk => by cases hk; exact bel.size)
      go_wp2_with fail
      go_quiet (fail)
      go_wp2
      go_ret2
      exact ⟨some ⟨hh, 0, none⟩, 3, by rw [HB.out, HL.out]; rfl, by rw [HL.out]; exact (ow.base bel2.size).drewN _, by rw [HL.out]; omega, below_drewN hbel _⟩
set_option maxRecDepth 20000 in
set_option maxHeartbeats 400000 in
theorem c_spec_IsSubmodular (e0 : Int) (a : Option Addr) (n c : Nat) (xs : List Int) (w : World) (h : Row .i64 w a n xs) (hn : n ≤ 1048576) :
    Calls Tryz.prog 9 #[.agg #[.int .i64 e0, .slice a n c]] w fun e w' => e = .returned (.bool (subB e0 xs)) ∧ Below w.heap.size w w' := by
  have bel := (Below.refl w.heap.size w).alloc (Nat.le_refl _) (.cells #[.int .i64 e0, .slice a n c] 26)
  have f := FBox.new w 26 e0 a n c
  cases hf : isFun e0 xs with
  | false =>
    have hr : subB e0 xs = false := by simp [subB, hf]
    rw [hr]
    clear hr
    go_enter Tryz.func9, Tryz.ntmps9
    go_wp2_with fail
    refine (c_spec_ViolationOf _ _ _ _ _ _ (h.alloc _) hn).mono ?_
    rintro e w1 ⟨a1, c1, rfl, _, _, hb1⟩
    replace bel := bel.trans (hb1.mono bel.size)
    replace f := f.below hb1
    have k0 := f.c0
    have k1 := f.c1
    go_wp2_with fail
    refine (c_spec_IsFunction _ _ _ _ _ _ (h.below bel) hn).mono ?_
    rw [hf]
    rintro e w2 ⟨rfl, hb2⟩
    go_wp2
    go_ret
    exact ⟨rfl, bel.trans (hb2.mono bel.size)⟩
  | true =>
    have hr : subB e0 xs = !violB e0 xs := by simp [subB, hf]
    rw [hr]
    clear hr
    go_enter Tryz.func9, Tryz.ntmps9
    go_wp2_with fail
    refine (c_spec_ViolationOf _ _ _ _ _ _ (h.alloc _) hn).mono ?_
    rintro e w1 ⟨a1, c1, rfl, _, _, hb1⟩
    replace bel := bel.trans (hb1.mono bel.size)
    replace f := f.below hb1
    have k0 := f.c0
    have k1 := f.c1
    go_wp2_with fail
    refine (c_spec_IsFunction _ _ _ _ _ _ (h.below bel) hn).mono ?_
    rw [hf]
    rintro e w2 ⟨rfl, hb2⟩
    go_wp2
    go_ret
    exact ⟨rfl, bel.trans (hb2.mono bel.size)⟩
set_option maxRecDepth 20000 in
set_option maxHeartbeats 400000 in
theorem c_impl_IsSubmodular (e0 : Int) (a : Option Addr) (n c : Nat) (xs : List Int) (w : World) (h : Row .i64 w a n xs) (hn : n ≤ 1048576) :
    Calls Tryz.prog 10 #[.agg #[.int .i64 e0, .slice a n c]] w fun e w' => e = .returned (.bool (subB e0 xs)) ∧ Below w.heap.size w w' := by
  have bel := (Below.refl w.heap.size w).alloc (Nat.le_refl _) (.cells #[.int .i64 e0, .slice a n c] 26)
  have f := FBox.new w 26 e0 a n c
  cases hf : isFun e0 xs with
  | false =>
    have hr : subB e0 xs = false := by simp [subB, hf]
    rw [hr]
    clear hr
    go_enter Tryz.func10, Tryz.ntmps10
    go_wp2_with fail
    refine (c_impl_ViolationOf _ _ _ _ _ _ (h.alloc _) hn).mono ?_
    rintro e w1 ⟨a1, c1, rfl, _, _, hb1⟩
    replace bel := bel.trans (hb1.mono bel.size)
    replace f := f.below hb1
    have k0 := f.c0
    have k1 := f.c1
    go_wp2_with fail
    refine (c_impl_IsFunction _ _ _ _ _ _ (h.below bel) hn).mono ?_
    rw [hf]
    rintro e w2 ⟨rfl, hb2⟩
    go_wp2
    go_ret
    exact ⟨rfl, bel.trans (hb2.mono bel.size)⟩
  | true =>
    have hr : subB e0 xs = !violB e0 xs := by simp [subB, hf]
    rw [hr]
    clear hr
    go_enter Tryz.func10, Tryz.ntmps10
    go_wp2_with fail
    refine (c_impl_ViolationOf _ _ _ _ _ _ (h.alloc _) hn).mono ?_
    rintro e w1 ⟨a1, c1, rfl, _, _, hb1⟩
    replace bel := bel.trans (hb1.mono bel.size)
    replace f := f.below hb1
    have k0 := f.c0
    have k1 := f.c1
    go_wp2_with fail
    refine (c_impl_IsFunction _ _ _ _ _ _ (h.below bel) hn).mono ?_
    rw [hf]
    rintro e w2 ⟨rfl, hb2⟩
    go_wp2
    go_ret
    exact ⟨rfl, bel.trans (hb2.mono bel.size)⟩
end Go.Proofs.YtfcgijnfiiaepaaGreatDoor
