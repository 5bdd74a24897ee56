/- The cursor of spec's draws: contracts of l1New, l1Byte, l1Below. What is drawn is left open: some number in its range. -/
import Derived.Test.YtfcgijnfiiaepaaGreatDoorKit
import Derived.Test.YtfcgijnfiiaepaaGreatDoorInRows
import Derived.Test.YtfcgijnfiiaepaaGreatDoorFun
namespace Go.Proofs.YtfcgijnfiiaepaaGreatDoor
set_option linter.unusedSimpArgs false
set_option linter.unusedVariables false
open Go.RowKit

/-- Block g holds a cursor: bytes, place, state. -/
def CurAt (w : World) (g : Nat) (t : TypeId) (a : Option Addr) (n c : Nat) (i h : Int) : Prop := w.heap[g]? = some (.cells #[.slice a n c, .int .i64 i, .int .i64 h] t (0, 0))
theorem CurAt.lt {w : World} {g : Nat} {t : TypeId} {a : Option Addr} {n c : Nat} {i h : Int} (f : CurAt w g t a n c i h) : g < w.heap.size := (Array.getElem?_eq_some_iff.1 f).1
theorem CurAt.c0 {w : World} {g : Nat} {t : TypeId} {a : Option Addr} {n c : Nat} {i h : Int} (f : CurAt w g t a n c i h) : w.cell? ⟨g, 0, none⟩ = some (.slice a n c) := cell_of_row w g 0 _ t (0, 0) f
theorem CurAt.c1 {w : World} {g : Nat} {t : TypeId} {a : Option Addr} {n c : Nat} {i h : Int} (f : CurAt w g t a n c i h) : w.cell? ⟨g, 1, none⟩ = some (.int .i64 i) := cell_of_row w g 1 _ t (0, 0) f
theorem CurAt.c2 {w : World} {g : Nat} {t : TypeId} {a : Option Addr} {n c : Nat} {i h : Int} (f : CurAt w g t a n c i h) : w.cell? ⟨g, 2, none⟩ = some (.int .i64 h) := cell_of_row w g 2 _ t (0, 0) f
theorem CurAt.free {w : World} {g : Nat} {t : TypeId} {a : Option Addr} {n c : Nat} {i h : Int} (f : CurAt w g t a n c i h) (j : Nat) : w.frozen? ⟨g, j, none⟩ = false := frozen_of_row w g j _ t f
theorem CurAt.set1 {w : World} {g : Nat} {t : TypeId} {a : Option Addr} {n c : Nat} {i h : Int} (f : CurAt w g t a n c i h) (x : Int) : CurAt (w.setCell ⟨g, 1, none⟩ (.int .i64 x)) g t a n c x h := by
  unfold CurAt at f ⊢
  have hlt := (Array.getElem?_eq_some_iff.1 f).1
  have f' : w.heap[g] = .cells #[.slice a n c, .int .i64 i, .int .i64 h] t (0, 0) := by simpa [Array.getElem?_eq_getElem hlt] using f
  show (w.heap.modify g _)[g]? = _
  rw [Array.getElem?_eq_getElem (by simpa using hlt), Array.getElem_modify_self, f']
  rfl
theorem CurAt.set2 {w : World} {g : Nat} {t : TypeId} {a : Option Addr} {n c : Nat} {i h : Int} (f : CurAt w g t a n c i h) (x : Int) : CurAt (w.setCell ⟨g, 2, none⟩ (.int .i64 x)) g t a n c i x := by
  unfold CurAt at f ⊢
  have hlt := (Array.getElem?_eq_some_iff.1 f).1
  have f' : w.heap[g] = .cells #[.slice a n c, .int .i64 i, .int .i64 h] t (0, 0) := by simpa [Array.getElem?_eq_getElem hlt] using f
  show (w.heap.modify g _)[g]? = _
  rw [Array.getElem?_eq_getElem (by simpa using hlt), Array.getElem_modify_self, f']
  rfl
/-- The cursor in block g, over the bytes of a slice that lies in an earlier block. -/
def Cur (t : TypeId) (w : World) (g : Nat) : Prop := ∃ (a : Option Addr) (n c i : Nat) (h : Int) (z : List Int), i ≤ n ∧ n ≤ maxLen ∧ CurAt w g t a n c (i : Int) h ∧ Row .u8 w a n z ∧ ∀ ad, a = some ad → 0 < n → ad.block < g
theorem Cur.lt {t : TypeId} {w : World} {g : Nat} (f : Cur t w g) : g < w.heap.size := by
  obtain ⟨a, n, c, i, h, z, _, _, f, _⟩ := f
  exact f.lt
theorem Row.kept {k : IntKind} {w w' : World} {a : Option Addr} {n : Nat} {xs : List Int} {row : Option Nat} (h : Row k w a n xs) (hg : w.grownBy w' row) (hne : ∀ ad, a = some ad → 0 < n → row ≠ some ad.block) : Row k w' a n xs :=
  ⟨h.1, fun hn => by
    obtain ⟨b, off, e, hlt, hc⟩ := h.2 hn
    subst e
    exact ⟨b, off, rfl, Nat.lt_of_lt_of_le hlt hg.size, fun j hj => (World.cell?_of_block (a := ⟨b, off + j, none⟩) (hg.block b hlt (fun e => hne _ rfl hn e.symm))).trans (hc j hj)⟩⟩
/-- It stays where another block is written that lies behind it. -/
theorem Cur.grown {t : TypeId} {w w' : World} {g : Nat} {row : Option Nat} (f : Cur t w g) (hg : w.grownBy w' row) (hne : ∀ j, row = some j → g < j) : Cur t w' g := by
  obtain ⟨a, n, c, i, h, z, hi, hn, f, hr, hb⟩ := f
  refine ⟨a, n, c, i, h, z, hi, hn, (hg.block g f.lt (fun e => by have := hne g e.symm; omega)).trans f, hr.kept hg (fun ad e h0 e2 => ?_), hb⟩
  have := hne _ e2
  have := hb ad e h0
  omega
theorem grownBy_of_below {w w' : World} (hb : Below w.heap.size w w') (row : Option Nat) : w.grownBy w' row := ⟨hb.os, hb.tape, hb.output, hb.size, fun i hi _ => hb.block i hi⟩
theorem Cur.below {t : TypeId} {w w' : World} {g : Nat} (f : Cur t w g) (hb : Below w.heap.size w w') : Cur t w' g := f.grown (grownBy_of_below hb none) (fun _ h => by cases h)
theorem Cur.alloc {t : TypeId} {w : World} {g : Nat} (f : Cur t w g) (o : Obj) : Cur t (w.alloc o) g := f.grown (grownBy_alloc w o none) (fun _ h => by cases h)
theorem Cur.drew {t : TypeId} {w : World} {g : Nat} (f : Cur t w g) : Cur t w.drew g := f
theorem grownBy_drewN {a w : World} {row : Option Nat} (h : a.grownBy w row) (q : Nat) : a.grownBy (w.drewN q) row := ⟨h.os, h.tape, h.output, h.size, h.block⟩
theorem grownBy_drew {a w : World} {row : Option Nat} (h : a.grownBy w row) : a.grownBy w.drew row := ⟨h.os, h.tape, h.output, h.size, h.block⟩
/-- What a function that draws a number returns: some number of the range, the cursor stays one, nothing else that was there is written. -/
def RetCur (t : TypeId) (g : Nat) (lo hi : Int) (w : World) (e : Ending) (w' : World) : Prop := ∃ x : Int, e = .returned (.int .i64 x) ∧ lo ≤ x ∧ x ≤ hi ∧ Cur t w' g ∧ w.grownBy w' (some g)
theorem i64_mask (a : Int) (m : Nat) (hm : m < 9223372036854775808) : 0 ≤ bits .and .i64 a (m : Int) ∧ bits .and .i64 a (m : Int) ≤ m := by
  have ofI : (BitVec.ofInt 64 (m : Int)).toNat = m := by
    rw [BitVec.ofInt_natCast, BitVec.toNat_ofNat]; exact Nat.mod_eq_of_lt (by omega)
  have hx : (BitVec.ofInt 64 a).toNat &&& m ≤ m := Nat.and_le_right
  have e : bits .and .i64 a (m : Int) = (((BitVec.ofInt 64 a).toNat &&& m : Nat) : Int) := by
    show IntKind.i64.wrap ((BitVec.ofInt 64 a &&& BitVec.ofInt 64 (m : Int)).toNat : Int) = _
    rw [BitVec.toNat_and, ofI, IntKind.wrap_i64]
    omega
  rw [e]
  omega
theorem mask255 (a : Int) : 0 ≤ bits .and .i64 a 255 ∧ bits .and .i64 a 255 ≤ 255 := i64_mask a 255 (by decide)
set_option maxRecDepth 20000 in
set_option maxHeartbeats 400000 in
theorem c_l1Byte (g : Nat) (w : World) (f : Cur 85 w g) :
    Calls Tryz.prog 82 #[.pointer (some ⟨g, 0, none⟩)] w (RetCur 85 g 0 255 w) := by
  obtain ⟨a, n, c, i, h, z, hi, hn, f, hr, hb⟩ := f
  have k0 := f.c0
  have k1 := f.c1
  have k2 := f.c2
  have hfr := f.free
  go_enter Tryz.func82, Tryz.ntmps82
  go_wp2_with fail
  go_quiet (fail)
  generalize wrap64 (wrap64 (h * 6364136223846793005) + 1442695040888963407) = H
  obtain ⟨x, hx⟩ : ∃ x, x = bits BinOp.and IntKind.i64 (bits BinOp.xor IntKind.i64 (H / 8589934592) (H / 35184372088832)) 255 := ⟨_, rfl⟩
  have hxb := mask255 (bits BinOp.xor IntKind.i64 (H / 8589934592) (H / 35184372088832))
  have f1 : CurAt ((w.setCell ⟨g, 2, none⟩ (.int .i64 H)).drewN nq) g 85 a n c i H := f.set2 H
  have hg1 : w.grownBy ((w.setCell ⟨g, 2, none⟩ (.int .i64 H)).drewN nq) (some g) := grownBy_drewN (grownBy_set w ⟨g, 2, none⟩ _) nq
  rw [← hx] at hxb
  rw [← hx]
  clear hx
  have hr1 := hr.kept hg1 (fun ad e h0 e2 => by have := hb ad e h0; have e3 : g = ad.block := Option.some.inj e2; omega)
  have hs1 := hg1.size
  generalize (w.setCell ⟨g, 2, none⟩ (.int .i64 H)).drewN nq = w1 at f1 hg1 hr1 hs1 ⊢
  clear k0 k1 k2 hfr f hr
  have k0 := f1.c0
  have k1 := f1.c1
  have k2 := f1.c2
  have hfr := f1.free
  by_cases hlt : i < n
  · obtain ⟨b, off, rfl, hblt, hc⟩ := hr1.at_ (by omega)
    have g1 := hc i hlt
    have hi1 : (i : Int) < (n : Int) := by omega
    obtain ⟨y, hy⟩ : ∃ y, y = z.getD i 0 := ⟨_, rfl⟩
    rw [← hy] at g1
    have HC := Lib.hid hr1
    clear hc hy hr1
    go_wp2_with fail
    go_quiet (fail)
    go_wp2_with fail
    go_quiet (fail)
    go_wp2_with fail
    go_ret
    have hw : wrap64 ((i : Int) + 1) = ((i + 1 : Nat) : Int) := by rw [IntWalk.wrap64_in _ (by unfold maxLen at hn; omega)]; push_cast; rfl
    rw [hw]
    refine ⟨_, rfl, (mask255 _).1, (mask255 _).2, ⟨some ⟨b, off, none⟩, n, c, i + 1, H, z, by omega, hn, CurAt.set1 (w := w1.drewN _) f1 _, ?_, hb⟩, grownBy_trans (grownBy_drewN hg1 _) (grownBy_set _ ⟨g, 1, none⟩ _)⟩
    exact Row.kept (w := w1.drewN _) HC.out (grownBy_set _ ⟨g, 1, none⟩ _) (fun ad e h0 e2 => by have := hb ad e h0; have e3 : g = ad.block := Option.some.inj e2; omega)
  · have hi1 : ¬ (i : Int) < (n : Int) := by omega
    have HC := Lib.hid hr1
    clear hr1
    go_wp2_with fail
    go_quiet (fail)
    go_wp2
    go_ret
    exact ⟨x, rfl, hxb.1, hxb.2, ⟨a, n, c, i, H, z, hi, hn, f1, HC.out, hb⟩, grownBy_drewN hg1 _⟩
set_option maxRecDepth 20000 in
set_option maxHeartbeats 400000 in
theorem c_l1New (a : Option Addr) (n c : Nat) (z : List Int) (w : World) (h : Row .u8 w a n z) (hn : n ≤ 1048576) :
    Calls Tryz.prog 60 #[.slice a n c] w fun e w' => ∃ g, e = .returned (.pointer (some ⟨g, 0, none⟩)) ∧ w.heap.size ≤ g ∧ Cur 85 w' g ∧ Below w.heap.size w w' := by
  go_enter Tryz.func60, Tryz.ntmps60
  go_wp2
  go_loopw [3, 4] (fun hv iv wr => ∃ (k : Nat) (H : Int), iv = .int .i64 (k : Int) ∧ k ≤ n ∧ hv = .int .i64 H ∧ wr = w) (fun _ iv _ => n - (intOf iv).toNat)
  case atStart => exact ⟨0, _, rfl, by omega, rfl, rfl⟩
  case round =>
    obtain ⟨k, H, rfl, hk, rfl, rfl⟩ := hrel
    have fin : ∀ H : Int, ∃ g, (Ending.returned (Value.pointer (some ⟨wr.heap.size, 0, none⟩))) = .returned (.pointer (some ⟨g, 0, none⟩)) ∧ wr.heap.size ≤ g ∧ Cur 85 (wr.alloc (.cells #[.slice a n c, .int .i64 0, .int .i64 H] 85)) g ∧ Below wr.heap.size wr (wr.alloc (.cells #[.slice a n c, .int .i64 0, .int .i64 H] 85)) := fun H => by
      refine ⟨_, rfl, Nat.le_refl _, ⟨a, n, c, 0, H, z, Nat.zero_le _, by unfold maxLen; omega, heap_alloc_new wr _, h.alloc _, fun ad e h0 => ?_⟩, (Below.refl _ _).alloc (Nat.le_refl _) _⟩
      obtain ⟨b, off, e2, hlt, _⟩ := h.at_ h0
      rw [e] at e2
      injection e2 with e2
      rw [e2]
      exact hlt
    have FIN := Lib.hid fin
    clear fin
    by_cases hlt : k < n
    · by_cases h4 : k < 4000
      · obtain ⟨b, off, rfl, hblt, hc⟩ := h.at_ (by omega)
        have g1 := hc k hlt
        have hi1 : (k : Int) < (n : Int) := by omega
        obtain ⟨y, hy⟩ : ∃ y, y = z.getD k 0 := ⟨_, rfl⟩
        rw [← hy] at g1
        clear hc hy
        go_wp2
        go_roundw
        case rel => exact ⟨k + 1, _, by go_num, by omega, rfl, by first | rfl | trivial⟩
        case measure => simp [intOf]; omega
      · go_wp2
        go_ret
        exact FIN.out _
    · go_wp2
      go_ret
      exact FIN.out _
theorem emod_bd (x m : Int) (hm : 0 < m) : 0 ≤ x % m ∧ x % m ≤ m - 1 := by
  have := Int.emod_nonneg x (show m ≠ 0 by omega)
  have := Int.emod_lt_of_pos x hm
  omega
theorem tmod_bd (x m : Int) (h0 : 0 ≤ x) (hm : 0 < m) : 0 ≤ Int.tmod x m ∧ Int.tmod x m ≤ m - 1 := by
  rw [Int.tmod_eq_emod_of_nonneg h0]
  have := Int.emod_nonneg x (show m ≠ 0 by omega)
  have := Int.emod_lt_of_pos x hm
  omega
set_option maxRecDepth 20000 in
set_option maxHeartbeats 400000 in
theorem c_l1Below (g : Nat) (m : Int) (w : World) (f : Cur 85 w g) (hm0 : 0 < m) (hm1 : m ≤ 1000000000) :
    Calls Tryz.prog 65 #[.pointer (some ⟨g, 0, none⟩), .int .i64 m] w (RetCur 85 g 0 (m - 1) w) := by
  have hmz : ¬ m ≤ 0 := by omega
  have hm2 : (m == 0) = false := by rw [beq_eq_false_iff_ne]; omega
  have hm3 : m ≠ 0 := by omega
  by_cases hs : m ≤ 256
  · go_enter Tryz.func65, Tryz.ntmps65
    go_wp2_with fail
    refine (c_l1Byte g _ f).mono ?_
    rintro e w1 ⟨x, rfl, hx0, hx1, f1, hg1⟩
    have hb := tmod_bd x m hx0 hm0
    have hw : wrap64 (Int.tmod x m) = Int.tmod x m := IntWalk.wrap64_in _ (by omega)
    have hw' : IntKind.i64.wrap (Int.tmod x m) = Int.tmod x m := IntWalk.i64_in _ (by omega)
    have HB := Lib.hid hb
    clear hb
    go_wp2
    go_ret
    exact ⟨_, rfl, by first | exact HB.out.1 | exact (emod_bd _ _ hm0).1, by first | exact HB.out.2 | exact (emod_bd _ _ hm0).2, f1, hg1⟩
  · go_enter Tryz.func65, Tryz.ntmps65
    go_wp2_with fail
    refine (c_l1Byte g _ f).mono ?_
    rintro e w1 ⟨x1, rfl, hx10, hx11, f1, hg1⟩
    go_wp2_with fail
    refine (c_l1Byte g _ f1).mono ?_
    rintro e w2 ⟨x2, rfl, hx20, hx21, f2, hg2⟩
    go_wp2_with fail
    refine (c_l1Byte g _ f2).mono ?_
    rintro e w3 ⟨x3, rfl, hx30, hx31, f3, hg3⟩
    go_wp2_with fail
    refine (c_l1Byte g _ f3).mono ?_
    rintro e w4 ⟨x4, rfl, hx40, hx41, f4, hg4⟩
    have hg := grownBy_trans hg1 (grownBy_trans hg2 (grownBy_trans hg3 hg4))
    clear f f1 f2 f3 hg1 hg2 hg3 hg4
    have hw1 : IntKind.i64.wrap (x1 * 16777216) = x1 * 16777216 := IntWalk.i64_in _ (by omega)
    have hw2 : IntKind.i64.wrap (x2 * 65536) = x2 * 65536 := IntWalk.i64_in _ (by omega)
    have hw3 : IntKind.i64.wrap (x1 * 16777216 + x2 * 65536) = x1 * 16777216 + x2 * 65536 := IntWalk.i64_in _ (by omega)
    have hw4 : IntKind.i64.wrap (x3 * 256) = x3 * 256 := IntWalk.i64_in _ (by omega)
    have hw5 : IntKind.i64.wrap (x1 * 16777216 + x2 * 65536 + x3 * 256) = x1 * 16777216 + x2 * 65536 + x3 * 256 := IntWalk.i64_in _ (by omega)
    have hw6 : IntKind.i64.wrap (x1 * 16777216 + x2 * 65536 + x3 * 256 + x4) = x1 * 16777216 + x2 * 65536 + x3 * 256 + x4 := IntWalk.i64_in _ (by omega)
    have hb := tmod_bd (x1 * 16777216 + x2 * 65536 + x3 * 256 + x4) m (by omega) hm0
    have hw : wrap64 (Int.tmod (x1 * 16777216 + x2 * 65536 + x3 * 256 + x4) m) = Int.tmod (x1 * 16777216 + x2 * 65536 + x3 * 256 + x4) m := IntWalk.wrap64_in _ (by omega)
    have hw' : IntKind.i64.wrap (Int.tmod (x1 * 16777216 + x2 * 65536 + x3 * 256 + x4) m) = Int.tmod (x1 * 16777216 + x2 * 65536 + x3 * 256 + x4) m := IntWalk.i64_in _ (by omega)
    have HB := Lib.hid hb
    clear hb hx10 hx11 hx20 hx21 hx30 hx31 hx40 hx41
    go_wp2
    go_ret
    exact ⟨_, rfl, by first | exact HB.out.1 | exact (emod_bd _ _ hm0).1, by first | exact HB.out.2 | exact (emod_bd _ _ hm0).2, f4, hg⟩
end Go.Proofs.YtfcgijnfiiaepaaGreatDoor
