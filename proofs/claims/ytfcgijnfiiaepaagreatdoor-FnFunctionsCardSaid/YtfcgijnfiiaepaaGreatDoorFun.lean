/- Contracts of the laws' helpers on a function of sets (struct of a number and a slice), and of IsFunction. -/
import Derived.Test.YtfcgijnfiiaepaaGreatDoorVec
import Derived.Test.YtfcgijnfiiaepaaGreatDoorSets
namespace Go.Proofs.YtfcgijnfiiaepaaGreatDoor
set_option linter.unusedSimpArgs false
set_option linter.unusedVariables false
open Go.RowKit

/-- A block that holds a function of sets: its number of elements, its values. -/
def FBox (w : World) (g : Nat) (t : TypeId) (n : Int) (a : Option Addr) (l c : Nat) : Prop := w.heap[g]? = some (.cells #[.int .i64 n, .slice a l c] t (0, 0))
theorem FBox.new (w : World) (t : TypeId) (n : Int) (a : Option Addr) (l c : Nat) : FBox (w.alloc (.cells #[.int .i64 n, .slice a l c] t)) w.heap.size t n a l c := heap_alloc_new w _
theorem FBox.lt {w : World} {g : Nat} {t : TypeId} {n : Int} {a : Option Addr} {l c : Nat} (h : FBox w g t n a l c) : g < w.heap.size := (Array.getElem?_eq_some_iff.1 h).1
theorem FBox.alloc {w : World} {g : Nat} {t : TypeId} {n : Int} {a : Option Addr} {l c : Nat} (h : FBox w g t n a l c) (o : Obj) : FBox (w.alloc o) g t n a l c := (Below.heap_alloc w o g h.lt).trans h
theorem FBox.drewN {w : World} {g : Nat} {t : TypeId} {n : Int} {a : Option Addr} {l c : Nat} (h : FBox w g t n a l c) (q : Nat) : FBox (w.drewN q) g t n a l c := h
theorem FBox.drew {w : World} {g : Nat} {t : TypeId} {n : Int} {a : Option Addr} {l c : Nat} (h : FBox w g t n a l c) : FBox w.drew g t n a l c := h
theorem FBox.below {w w' : World} {g : Nat} {t : TypeId} {n : Int} {a : Option Addr} {l c : Nat} (h : FBox w g t n a l c) (hb : Below w.heap.size w w') : FBox w' g t n a l c := (hb.block g h.lt).trans h
theorem FBox.c0 {w : World} {g : Nat} {t : TypeId} {n : Int} {a : Option Addr} {l c : Nat} (h : FBox w g t n a l c) : w.cell? ⟨g, 0, none⟩ = some (.int .i64 n) := cell_of_row w g 0 _ t (0, 0) h
theorem FBox.c1 {w : World} {g : Nat} {t : TypeId} {n : Int} {a : Option Addr} {l c : Nat} (h : FBox w g t n a l c) : w.cell? ⟨g, 1, none⟩ = some (.slice a l c) := cell_of_row w g 1 _ t (0, 0) h
theorem FBox.free {w : World} {g : Nat} {t : TypeId} {n : Int} {a : Option Addr} {l c : Nat} (h : FBox w g t n a l c) (j : Nat) : w.frozen? ⟨g, j, none⟩ = false := frozen_of_row w g j _ t h

theorem grownBy_set (w : World) (p : Addr) (v : Value) : w.grownBy (w.setCell p v) (some p.block) := by
  have h := World.grownBy.refl w (some p.block)
  exact ⟨h.os, h.tape, h.output, by simp, fun i hi hne => Below.heap_setCell w p v i (fun e => hne (by rw [e]))⟩
theorem OwnI.setFar {w : World} {base : Nat} {e : TypeId} {k : IntKind} {v : Value} {xs : List Int} (h : OwnI w base e k v xs) (p : Addr) (u : Value) (hne : v.ownBlock = none ∨ v.ownBlock ≠ some p.block) : OwnI (w.setCell p u) base e k v xs := h.grown (grownBy_set w p u) hne

theorem grownBy_alloc (w : World) (o : Obj) (row : Option Nat) : w.grownBy (w.alloc o) row := by
  have h := World.grownBy.refl w row
  exact ⟨h.os, h.tape, h.output, by simp, fun i hi _ => Below.heap_alloc w o i hi⟩
theorem grownBy_trans {a b c : World} {row : Option Nat} (h : a.grownBy b row) (k : b.grownBy c row) : a.grownBy c row :=
  ⟨k.os.trans h.os, k.tape.trans h.tape, k.output.trans h.output, Nat.le_trans h.size k.size, fun i hi hne => (k.block i (Nat.lt_of_lt_of_le hi h.size) hne).trans (h.block i hi hne)⟩
theorem FBox.grown {w w' : World} {g : Nat} {t : TypeId} {n : Int} {a : Option Addr} {l c : Nat} {row : Option Nat} (h : FBox w g t n a l c) (hg : w.grownBy w' row) (hne : row ≠ some g) : FBox w' g t n a l c :=
  (hg.block g h.lt (fun e => hne e.symm)).trans h
/-- Where the memory of two slices lies apart. -/
theorem own_apart {v v' : Value} {lo hi lo' hi' : Nat} (hv : ∀ j, v.ownBlock = some j → lo ≤ j ∧ j < hi) (hv' : ∀ j, v'.ownBlock = some j → lo' ≤ j ∧ j < hi') (h : hi ≤ lo' ∨ hi' ≤ lo) : v'.ownBlock = none ∨ v'.ownBlock ≠ v.ownBlock := by
  cases e : v'.ownBlock with
  | none => exact .inl rfl
  | some j =>
    refine .inr fun e' => ?_
    have := hv j e'.symm
    have := hv' j e
    omega
theorem row_apart {v : Value} {lo hi g : Nat} (hv : ∀ j, v.ownBlock = some j → lo ≤ j ∧ j < hi) (h : g < lo ∨ hi ≤ g) : v.ownBlock ≠ some g := fun e => by
  have := hv g e
  omega
theorem OwnI.range {w : World} {base : Nat} {e : TypeId} {k : IntKind} {v : Value} {xs : List Int} (h : OwnI w base e k v xs) : ∀ j, v.ownBlock = some j → base ≤ j ∧ j < w.heap.size := fun j hj => World.ownsRow.lt h j hj
theorem below_of {P : Program} {f : FuncId} {args : Array Value} {w : World} {v : Value} (h : Calls P f args w fun e w' => e = .returned v ∧ ∃ q, w' = w.drewN q) : Calls P f args w fun e w' => e = .returned v ∧ Below w.heap.size w w' :=
  h.mono fun _ _ ⟨he, q, hq⟩ => ⟨he, by rw [hq]; exact below_drewN (Below.refl _ _) q⟩
theorem below_of_same {P : Program} {f : FuncId} {args : Array Value} {w : World} {v : Value} (h : Calls P f args w fun e w' => e = .returned v ∧ w = w') : Calls P f args w fun e w' => e = .returned v ∧ Below w.heap.size w w' :=
  h.mono fun _ _ ⟨he, hq⟩ => ⟨he, by rw [← hq]; exact Below.refl _ _⟩
/-- A function of sets in memory that the call made, whether it is one, and the world behind it. -/
def RetFun (et : TypeId) (m : Int) (xs : List Int) (b : Bool) (w : World) (e : Ending) (w' : World) : Prop :=
  ∃ a c, e = .returned (.tuple #[.agg #[.int .i64 m, .slice a xs.length c], .bool b]) ∧ OwnI w' w.heap.size et .i64 (.slice a xs.length c) xs ∧ xs.length ≤ 1048576 ∧ Below w.heap.size w w'

/-- A function of the sets of n elements. -/
def isFun (n : Int) (xs : List Int) : Bool := inB n 0 5 && decide (xs.length = 2 ^ n.toNat) && allIn xs (-1000) 1000
theorem isFun_true {n : Int} {xs : List Int} (h : isFun n xs = true) : (0 ≤ n ∧ n ≤ 5) ∧ xs.length = 2 ^ n.toNat ∧ ∀ j, j < xs.length → -1000 ≤ xs.getD j 0 ∧ xs.getD j 0 ≤ 1000 := by
  simp only [isFun, Bool.and_eq_true, decide_eq_true_eq] at h
  exact ⟨inB_true.1 h.1.1, h.1.2, fun j hj => allIn_getD h.2 j hj⟩
theorem cases5 {n : Int} (h : inB n 0 5 = true) : n = 0 ∨ n = 1 ∨ n = 2 ∨ n = 3 ∨ n = 4 ∨ n = 5 := by
  have := inB_true.1 h; omega
set_option maxRecDepth 20000 in
set_option maxHeartbeats 400000 in
theorem c_impl_IsFunction (e0 : Int) (a : Option Addr) (n c : Nat) (xs : List Int) (w : World) (h : Row .i64 w a n xs) (hn : n ≤ 1048576) :
    Calls Tryz.prog 14 #[.agg #[.int .i64 e0, .slice a n c]] w fun e w' => e = .returned (.bool (isFun e0 xs)) ∧ Below w.heap.size w w' := by
  have hb := (Below.refl w.heap.size w).alloc (Nat.le_refl _) (.cells #[.int .i64 e0, .slice a n c] 26)
  have hl := h.len
  cases hin : inB e0 0 5 with
  | false =>
    have hr : isFun e0 xs = false := by simp [isFun, hin]
    rw [hr]
    clear hr hl
    go_enter Tryz.func14, Tryz.ntmps14
    go_wp2_with fail
    refine (c_within _ _ _ _).mono ?_
    rintro e w' ⟨rfl, rfl⟩
    go_wp2_with fail
    go_ret
    exact ⟨rfl, hb⟩
  | true =>
    by_cases hsz : (n : Int) = 2 ^ e0.toNat
    · have hr : isFun e0 xs = allIn xs (-1000) 1000 := by
        have : xs.length = 2 ^ e0.toNat := by rw [hl]; exact_mod_cast hsz
        simp [isFun, hin, this]
      rw [hr]
      clear hr hl
      have hcs := cases5 hin
      have hsz' : ((n : Int) != 2 ^ e0.toNat) = false := by rw [bne_eq_false_iff_eq]; exact hsz
      clear hsz
      rcases hcs with rfl | rfl | rfl | rfl | rfl | rfl
      all_goals
        have hq := hsz'
        clear hsz'
        simp only [Int.reduceToNat, Int.reducePow] at hq
        go_enter Tryz.func14, Tryz.ntmps14
        go_wp2_with fail
        refine (c_within _ _ _ _).mono ?_
        rintro e w' ⟨rfl, rfl⟩
        go_wp2_with fail
        refine (c_areWithin _ _ _ _ _ _ _ (h.alloc _) hn).mono ?_
        rintro e w' ⟨rfl, q, rfl⟩
        go_wp2_with fail
        go_ret
        exact ⟨rfl, below_drewN hb _⟩
    · have hr : isFun e0 xs = false := by
        have : ¬ xs.length = 2 ^ e0.toNat := by rw [hl]; intro hc; exact hsz (by exact_mod_cast hc)
        simp [isFun, this]
      rw [hr]
      clear hr hl
      have hcs := cases5 hin
      have hsz' : ((n : Int) != 2 ^ e0.toNat) = true := by rw [bne_iff_ne]; exact hsz
      clear hsz
      rcases hcs with rfl | rfl | rfl | rfl | rfl | rfl
      all_goals
        have hq := hsz'
        clear hsz'
        simp only [Int.reduceToNat, Int.reducePow] at hq
        go_enter Tryz.func14, Tryz.ntmps14
        go_wp2_with fail
        refine (c_within _ _ _ _).mono ?_
        rintro e w' ⟨rfl, rfl⟩
        go_wp2_with fail
        go_ret
        exact ⟨rfl, hb⟩
set_option maxRecDepth 20000 in
set_option maxHeartbeats 400000 in
theorem c_spec_IsFunction (e0 : Int) (a : Option Addr) (n c : Nat) (xs : List Int) (w : World) (h : Row .i64 w a n xs) (hn : n ≤ 1048576) :
    Calls Tryz.prog 15 #[.agg #[.int .i64 e0, .slice a n c]] w fun e w' => e = .returned (.bool (isFun e0 xs)) ∧ Below w.heap.size w w' := by
  have hb := (Below.refl w.heap.size w).alloc (Nat.le_refl _) (.cells #[.int .i64 e0, .slice a n c] 26)
  have hl := h.len
  have C : ∀ w, Calls Tryz.prog 52 #[.int .i64 e0, .int .i64 0, .int .i64 5] w fun e w' => e = .returned (.bool (inB e0 0 5)) ∧ w' = w := fun w => (c_l1In e0 0 5 w).mono fun _ _ h => ⟨h.1, h.2.symm⟩
  cases hin : inB e0 0 5 with
  | false =>
    have hr : isFun e0 xs = false := by simp [isFun, hin]
    rw [hr]
    rw [hin] at C
    clear hr hl
    go_enter Tryz.func15, Tryz.ntmps15
    go_wp2_with fail
    go_quiet (exact Calls.quiet_of_same (C _))
    go_wp2
    go_ret
    exact ⟨rfl, below_drewN hb _⟩
  | true =>
    rw [hin] at C
    by_cases hsz : (n : Int) = 2 ^ e0.toNat
    · have hr : isFun e0 xs = allIn xs (-1000) 1000 := by
        have : xs.length = 2 ^ e0.toNat := by rw [hl]; exact_mod_cast hsz
        simp [isFun, hin, this]
      rw [hr]
      clear hr
      have hcs := cases5 hin
      have hsz' : ((n : Int) != 2 ^ e0.toNat) = false := by rw [bne_eq_false_iff_eq]; exact hsz
      clear hsz
      obtain ⟨_, hrow⟩ := h
      subst hl
      rcases hcs with rfl | rfl | rfl | rfl | rfl | rfl
      all_goals
        have hq := hsz'
        clear hsz'
        simp only [Int.reduceToNat, Int.reducePow] at hq
        go_enter Tryz.func15, Tryz.ntmps15
        go_wp2_with fail
        go_quiet (exact Calls.quiet_of_same (C _))
        go_wp2_with fail
        go_loopw [3] (fun i wr => ∃ k : Nat, i = .int .i64 k ∧ k ≤ xs.length ∧ (∀ j, j < k → inB (xs.getD j 0) (-1000) 1000 = true) ∧ ∃ q, wr = (w.alloc (.cells #[.int .i64 _, .slice a xs.length c] 26)).drewN q) (fun i _ => xs.length - (intOf i).toNat)
        case atStart => exact ⟨0, rfl, Nat.zero_le _, fun j hj => by omega, _, rfl⟩
        case round =>
          obtain ⟨k, rfl, hk, hall, q, rfl⟩ := hrel
          have HA := Lib.hid hall; clear hall
          have HB := Lib.hid hb; clear hb
          by_cases hlt : k < xs.length
          · obtain ⟨b, off, rfl, hblt, hc⟩ := hrow (by omega)
            have g1 : w.cell? ⟨b, off + k, none⟩ = some (.int .i64 (xs.getD k 0)) := hc k hlt
            obtain ⟨x, hx⟩ : ∃ x, x = xs.getD k 0 := ⟨_, rfl⟩
            rw [← hx] at g1
            clear hc hrow
            cases hin : inB x (-1000) 1000 with
            | true =>
              have HX := Lib.hid hx; clear hx
              go_wp2_with (go_at_call 52; refine (c_l1In _ _ _ _).mono ?_; rintro e w' ⟨rfl, rfl⟩)
              go_roundw
              case rel =>
                refine ⟨k + 1, by go_num, by omega, fun j hj => ?_, by first | exact ⟨_, rfl⟩ | exact drewN_ex _ _ _⟩
                rcases Nat.lt_or_eq_of_le (Nat.le_of_lt_succ hj) with h | rfl
                · exact HA.out j h
                · rw [← HX.out]; exact hin
              case measure => simp [intOf]; omega
            | false =>
              have hf := allIn_false_of (xs := xs) k hlt (by rw [← hx]; exact hin)
              have HF := Lib.hid hf; clear hf hx
              go_wp2_with (go_at_call 52; refine (c_l1In _ _ _ _).mono ?_; rintro e w' ⟨rfl, rfl⟩)
              go_ret
              exact ⟨ret_bool HF.out.symm, below_drewN HB.out _⟩
          · have hf : allIn xs (-1000) 1000 = true := allIn_of (fun j hj => HA.out j (by omega))
            have HF := Lib.hid hf; clear hf
            go_wp2
            go_ret
            exact ⟨ret_bool HF.out.symm, below_drewN HB.out _⟩
    · have hr : isFun e0 xs = false := by
        have : ¬ xs.length = 2 ^ e0.toNat := by rw [hl]; intro hc; exact hsz (by exact_mod_cast hc)
        simp [isFun, this]
      rw [hr]
      clear hr hl
      have hcs := cases5 hin
      have hsz' : ((n : Int) != 2 ^ e0.toNat) = true := by rw [bne_iff_ne]; exact hsz
      clear hsz
      rcases hcs with rfl | rfl | rfl | rfl | rfl | rfl
      all_goals
        have hq := hsz'
        clear hsz'
        simp only [Int.reduceToNat, Int.reducePow] at hq
        go_enter Tryz.func15, Tryz.ntmps15
        go_wp2_with fail
        go_quiet (exact Calls.quiet_of_same (C _))
        go_wp2
        go_ret
        exact ⟨rfl, below_drewN hb _⟩
end Go.Proofs.YtfcgijnfiiaepaaGreatDoor
