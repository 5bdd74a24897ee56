/- Contracts of spec's draws of numbers and texts. -/
import Derived.Test.YtfcgijnfiiaepaaDoorCur
namespace Go.Proofs.YtfcgijnfiiaepaaDoor
set_option linter.unusedSimpArgs false
set_option linter.unusedVariables false
open Go.RowKit

theorem grownBy_own {a b c : World} {row row' : Option Nat} (h : a.grownBy b row) (k : b.grownBy c row') (hr : ∀ j, row' = some j → a.heap.size ≤ j) : a.grownBy c row :=
  ⟨k.os.trans h.os, k.tape.trans h.tape, k.output.trans h.output, Nat.le_trans h.size k.size, fun i hi hne => (k.block i (Nat.lt_of_lt_of_le hi h.size) (fun e => by have := hr i e.symm; omega)).trans (h.block i hi hne)⟩
theorem OwnI.cur {w w' : World} {base g : Nat} {e : TypeId} {k : IntKind} {v : Value} {xs : List Int} (h : OwnI w base e k v xs) (hg : w.grownBy w' (some g)) (hlt : g < base) : OwnI w' base e k v xs := by
  refine h.grown hg ?_
  cases hv : v.ownBlock with
  | none => exact .inl rfl
  | some j => exact .inr (fun e2 => by have := (h.range j hv).1; have e3 : j = g := Option.some.inj e2; omega)
theorem below_cur {B g : Nat} {a w w' : World} (h : Below B a w) (hg : w.grownBy w' (some g)) (hB : B ≤ g) (hs : B ≤ w.heap.size) : Below B a w' := h.grown hg hs (fun j e => by have e2 : g = j := Option.some.inj e; omega)
theorem wrap64_bd (v : Int) : -9223372036854775808 ≤ wrap64 v ∧ wrap64 v ≤ 9223372036854775807 := by
  unfold wrap64
  omega
/-- Some number of a list is returned. -/
def RetPick (t : TypeId) (g : Nat) (xs : List Int) (w : World) (e : Ending) (w' : World) : Prop := ∃ x : Int, x ∈ xs ∧ e = .returned (.int .i64 x) ∧ Cur t w' g ∧ w.grownBy w' (some g)
set_option maxHeartbeats 400000 in
theorem c_l1PickInt (g : Nat) (a : Option Addr) (n c : Nat) (xs : List Int) (w : World) (f : Cur 68 w g) (h : Row .i64 w a n xs) (hne : ∀ ad, a = some ad → ad.block ≠ g) (h0 : 0 < n) (h1 : n ≤ 1000) :
    Calls Tryd.prog 46 #[.pointer (some ⟨g, 0, none⟩), .slice a n c] w (RetPick 68 g xs w) := by
  have hl := h.len
  go_enter Tryd.func46, Tryd.ntmps46
  go_wp2_with fail
  refine (c_l1Below g _ _ f (by omega) (by omega)).mono ?_
  rintro e w1 ⟨x, rfl, hx0, hx1, f1, hg1⟩
  have hr := h.kept hg1 (fun ad e _ e2 => hne ad e (Option.some.inj e2).symm)
  obtain ⟨k, rfl⟩ := Int.eq_ofNat_of_zero_le hx0
  have hk : k < n := by omega
  obtain ⟨b, off, rfl, hblt, hc⟩ := hr.at_ (by omega)
  have g1 := hc k hk
  have hm : xs.getD k 0 ∈ xs := by
    rw [List.getD_eq_getElem?_getD, List.getElem?_eq_getElem (by omega)]
    exact List.getElem_mem _
  obtain ⟨y, hy⟩ : ∃ y, y = xs.getD k 0 := ⟨_, rfl⟩
  rw [← hy] at g1 hm
  have hi1 : (k : Int) < (n : Int) := by omega
  have HM := Lib.hid hm
  clear hm hy hc hr hx0 hx1 h hne
  go_wp2
  go_ret
  exact ⟨y, HM.out, rfl, f1, hg1⟩
set_option maxHeartbeats 1000000 in
set_option maxRecDepth 20000 in
theorem c_l1Num (g : Nat) (w : World) (f : Cur 68 w g) :
    Calls Tryd.prog 33 #[.pointer (some ⟨g, 0, none⟩)] w (RetCur 68 g (-9223372036854775808) 9223372036854775807 w) := by
  go_enter Tryd.func33, Tryd.ntmps33
  go_wp2_with fail
  refine (c_l1Below g _ _ f (by decide) (by decide)).mono ?_
  rintro e w1 ⟨x, rfl, hx0, hx1, f1, hg1⟩
  have hx : x = 0 ∨ x = 1 ∨ x = 2 ∨ 3 ≤ x := by omega
  clear hx0 hx1
  rcases hx with rfl | rfl | rfl | hx
  · have hin : ∀ x ∈ [(-1 : Int), 0, 127, 128, 255, 256, 16383, 16384, 65535, 65536, 562949953421311, 562949953421312, 999999999, 1000000000, -999999999, 9223372036854775807, -9223372036854775808], -9223372036854775808 ≤ x ∧ x ≤ 9223372036854775807 := by decide
    have hlit := OwnI.lit w1 w1.heap.size 3 .i64 [(-1 : Int), 0, 127, 128, 255, 256, 16383, 16384, 65535, 65536, 562949953421311, 562949953421312, 999999999, 1000000000, -999999999, 9223372036854775807, -9223372036854775808] (Nat.le_refl _) (by decide)
    have HIN := Lib.hid hin
    clear hin
    go_wp2_with fail
    refine (c_l1PickInt g _ _ _ _ _ (f1.alloc _) hlit.row (fun ad e => by cases e; have := f1.lt; show w1.heap.size ≠ g; omega) (by decide) (by decide)).mono ?_
    rintro e w2 ⟨y, hy, rfl, f2, hg2⟩
    have hyb := HIN.out y hy
    have hg := grownBy_trans hg1 (grownBy_trans (grownBy_alloc _ _ _) hg2)
    clear hy HIN hlit
    go_wp2
    go_ret
    exact ⟨y, rfl, hyb.1, hyb.2, f2, hg⟩
  · go_wp2_with (go_at_call 35; (first | refine (c_l1Below g _ _ f2 (by decide) (by decide)).mono ?_ | refine (c_l1Below g _ _ f1 (by decide) (by decide)).mono ?_); (first | (have := f2; rintro e w3 ⟨y2, rfl, hy20, hy21, f3, hg3⟩) | rintro e w2 ⟨y1, rfl, hy10, hy11, f2, hg2⟩))
    go_ret
    exact ⟨_, rfl, by first | exact (wrap64_bd _).1 | omega, by first | exact (wrap64_bd _).2 | omega, f3, grownBy_trans hg1 (grownBy_trans hg2 hg3)⟩
  · go_wp2_with fail
    refine (c_l1Below g _ _ f1 (by decide) (by decide)).mono ?_
    rintro e w2 ⟨y, rfl, hy0, hy1, f2, hg2⟩
    have hw : IntKind.i64.wrap (-y) = -y := IntWalk.i64_in _ (by omega)
    have hyb : -9223372036854775808 ≤ -y ∧ -y ≤ 9223372036854775807 := by omega
    have HB := Lib.hid hyb
    clear hyb hy0 hy1
    go_wp2
    go_ret
    exact ⟨_, rfl, HB.out.1, HB.out.2, f2, grownBy_trans hg1 hg2⟩
  · have h0 : (x == 0) = false := by rw [beq_eq_false_iff_ne]; omega
    have h1 : (x == 1) = false := by rw [beq_eq_false_iff_ne]; omega
    have h2 : (x == 2) = false := by rw [beq_eq_false_iff_ne]; omega
    clear hx
    go_wp2_with fail
    refine (c_l1Below g _ _ f1 (by decide) (by decide)).mono ?_
    rintro e w2 ⟨y, rfl, hy0, hy1, f2, hg2⟩
    have hyb : -9223372036854775808 ≤ y ∧ y ≤ 9223372036854775807 := by omega
    have HB := Lib.hid hyb
    clear hyb hy0 hy1
    go_wp2
    go_ret
    exact ⟨_, rfl, HB.out.1, HB.out.2, f2, grownBy_trans hg1 hg2⟩
theorem EBc : IntElem Tryd.prog 30 5 .u8 1 := ⟨Tryd.underlying30, Tryd.underlying5, by kernel_rfl, by decide⟩
/-- Some text is returned. -/
def RetText (t : TypeId) (g most : Nat) (w : World) (e : Ending) (w' : World) : Prop := ∃ s : ByteArray, e = .returned (.string s) ∧ s.size ≤ most ∧ Cur t w' g ∧ w.grownBy w' (some g)
set_option maxHeartbeats 1000000 in
theorem c_l1Text (g most : Nat) (w : World) (f : Cur 68 w g) (hm : most ≤ 1000) :
    Calls Tryd.prog 34 #[.pointer (some ⟨g, 0, none⟩), .int .i64 most] w (RetText 68 g most w) := by
  have hgs := f.lt
  have hown0 := OwnI.lit w w.heap.size 5 .u8 [] (Nat.le_refl _) (by decide)
  have hw0 : IntKind.i64.wrap ((most : Int) + 1) = (most : Int) + 1 := IntWalk.i64_in _ (by omega)
  go_enter Tryd.func34, Tryd.ntmps34
  go_wp2_with fail
  refine (c_l1Below g _ _ (f.alloc _) (by decide) (by decide)).mono ?_
  rintro e w1 ⟨st, rfl, hst0, hst1, f1, hg1⟩
  replace hown0 := hown0.cur hg1 hgs
  replace hg1 := grownBy_trans (grownBy_alloc w _ (some g)) hg1
  go_wp2_with fail
  refine (c_l1Below g _ _ f1 (by omega) (by omega)).mono ?_
  rintro e w2 ⟨k0, rfl, hk0, hk1, f2, hg2⟩
  replace hown0 := hown0.cur hg2 hgs
  replace hg2 := grownBy_trans hg1 hg2
  clear hg1 f1 f hw0
  go_wp2_with fail
  go_loopw [5, 7] (fun v nv wr => ∃ (k : Nat) (xs : List Int), nv = .int .i64 (k : Int) ∧ OwnI wr w.heap.size 5 .u8 v xs ∧ xs.length + k ≤ most ∧ Cur 68 wr g ∧ w.grownBy wr (some g)) (fun _ nv _ => (intOf nv).toNat)
  case atStart => exact ⟨k0.toNat, [], by rw [Int.toNat_of_nonneg hk0], hown0, by simp; omega, f2, hg2⟩
  case round =>
    clear hown0 f2 hg2
    obtain ⟨k, xs, rfl, hown, hlen, f2, hg2⟩ := hrel
    by_cases hk : 0 < k
    · have hkz : (0 : Int) < (k : Int) := by omega
      go_wp2_with fail
      refine (c_l1Byte g _ f2).mono ?_
      rintro e w3 ⟨b, rfl, hb0, hb1, f3, hg3⟩
      replace hown := hown.cur hg3 hgs
      replace hg3 := grownBy_trans hg2 hg3
      clear f2 hg2
      have hB3 : w.heap.size ≤ w3.heap.size := hg3.size
      have hc : st = 1 ∨ st = 2 ∨ ((st == 1) = false ∧ (st == 2) = false) := by
        simp only [beq_eq_false_iff_ne]
        omega
      have hlen1 : xs.length ≤ 1000 := by omega
      have hwk : IntKind.i64.wrap ((k : Int) - 1) = (k : Int) - 1 := IntWalk.i64_in _ (by omega)
      have HL := Lib.hid hlen
      clear hlen hst0 hst1 hm
      rcases hc with rfl | rfl | ⟨hs1, hs2⟩
      · have hr1 := emod_bd b 2 (by decide)
        have he := Int.tmod_eq_emod_of_nonneg (b := 2) hb0
        have hw1 : IntKind.u8.wrap (b % 2) = b % 2 := IntWalk.u8_in _ (by omega)
        have hv := fun j hj => (hown.range j hj).1
        go_wp2_with (at_builtin; refine wpList_app EBc (base := w.heap.size) (v := u5) (xs := xs) (us := [b % 2]) (g := w3.heap.size) (n := 1) (c := 1) rfl (.tmp 31) (.tmp 34) rfl ?_ ?_ rfl rfl rfl ?_ ?_ ?_; (exact hown.alloc _); (exact heap_alloc_new w3 _); (show _ + 1 ≤ _; omega); (exact le_alloc hB3 _); intro v' w4 hown4 hgrow)
        have hgf := grownBy_own (grownBy_trans hg3 (grownBy_alloc w3 _ (some g))) hgrow hv
        have f4 := (f3.alloc _).grown hgrow (fun j hj => by have := hv j hj; omega)
        go_roundw
        case rel => exact ⟨k - 1, _, by go_num, hown4, by have := HL.out; simp; omega, f4, hgf⟩
        case measure => simp [intOf]; omega
      · have hr1 := emod_bd b 4 (by decide)
        have he := Int.tmod_eq_emod_of_nonneg (b := 4) hb0
        have hw0 : IntKind.i64.wrap (97 + b % 4) = 97 + b % 4 := IntWalk.i64_in _ (by omega)
        have hw1 : IntKind.u8.wrap (97 + b % 4) = 97 + b % 4 := IntWalk.u8_in _ (by omega)
        have hv := fun j hj => (hown.range j hj).1
        go_wp2_with (at_builtin; refine wpList_app EBc (base := w.heap.size) (v := u5) (xs := xs) (us := [97 + b % 4]) (g := w3.heap.size) (n := 1) (c := 1) rfl (.tmp 31) (.tmp 34) rfl ?_ ?_ rfl rfl rfl ?_ ?_ ?_; (exact hown.alloc _); (exact heap_alloc_new w3 _); (show _ + 1 ≤ _; omega); (exact le_alloc hB3 _); intro v' w4 hown4 hgrow)
        have hgf := grownBy_own (grownBy_trans hg3 (grownBy_alloc w3 _ (some g))) hgrow hv
        have f4 := (f3.alloc _).grown hgrow (fun j hj => by have := hv j hj; omega)
        go_roundw
        case rel => exact ⟨k - 1, _, by go_num, hown4, by have := HL.out; simp; omega, f4, hgf⟩
        case measure => simp [intOf]; omega
      · have hw1 : IntKind.u8.wrap b = b := IntWalk.u8_in _ (by omega)
        have hv := fun j hj => (hown.range j hj).1
        go_wp2_with (at_builtin; refine wpList_app EBc (base := w.heap.size) (v := u5) (xs := xs) (us := [b]) (g := w3.heap.size) (n := 1) (c := 1) rfl (.tmp 31) (.tmp 34) rfl ?_ ?_ rfl rfl rfl ?_ ?_ ?_; (exact hown.alloc _); (exact heap_alloc_new w3 _); (show _ + 1 ≤ _; omega); (exact le_alloc hB3 _); intro v' w4 hown4 hgrow)
        have hgf := grownBy_own (grownBy_trans hg3 (grownBy_alloc w3 _ (some g))) hgrow hv
        have f4 := (f3.alloc _).grown hgrow (fun j hj => by have := hv j hj; omega)
        go_roundw
        case rel => exact ⟨k - 1, _, by go_num, hown4, by have := HL.out; simp; omega, f4, hgf⟩
        case measure => simp [intOf]; omega
    · obtain rfl : k = 0 := by omega
      have hc1 := run_string_own Tryd.underlying30 Tryd.underlying5 hown 9 Tryd.underlying9
      have hsz : (strOfNums xs).size ≤ most := by rw [strOfNums_size]; omega
      have HS := Lib.hid hsz
      clear hsz hlen
      go_wp2
      go_ret
      exact ⟨_, rfl, HS.out, f2, hg2⟩
/-- Some number of the range is returned by a function of the bytes. -/
def RetInt (lo hi : Int) (w : World) (e : Ending) (w' : World) : Prop := ∃ x : Int, e = .returned (.int .i64 x) ∧ lo ≤ x ∧ x ≤ hi ∧ Below w.heap.size w w'
theorem c_DrawEncodeVarint (a : Option Addr) (n c : Nat) (z : List Int) (w : World) (h : Row .u8 w a n z) (hn : n ≤ 1048576) :
    Calls Tryd.prog 11 #[.slice a n c] w (RetInt (-9223372036854775808) 9223372036854775807 w) := by
  go_enter Tryd.func11, Tryd.ntmps11
  go_wp2_with fail
  refine (c_l1New _ _ _ _ _ h hn).mono ?_
  rintro e w1 ⟨g, rfl, hg, f, hb⟩
  go_wp2_with fail
  refine (c_l1Num g _ f).mono ?_
  rintro e w2 ⟨x, rfl, h0, h1, f2, hg2⟩
  have hb2 := below_cur hb hg2 hg hb.size
  have HX := Lib.hid (And.intro h0 h1)
  clear h0 h1
  go_wp2
  go_ret
  exact ⟨x, rfl, HX.out.1, HX.out.2, hb2⟩
theorem c_DrawEncodeHex (a : Option Addr) (n c : Nat) (z : List Int) (w : World) (h : Row .u8 w a n z) (hn : n ≤ 1048576) :
    Calls Tryd.prog 12 #[.slice a n c] w fun e w' => ∃ s : ByteArray, e = .returned (.string s) ∧ s.size ≤ 40 ∧ Below w.heap.size w w' := by
  go_enter Tryd.func12, Tryd.ntmps12
  go_wp2_with fail
  refine (c_l1New _ _ _ _ _ h hn).mono ?_
  rintro e w1 ⟨g, rfl, hg, f, hb⟩
  go_wp2_with fail
  refine (c_l1Text g 40 _ f (by decide)).mono ?_
  rintro e w2 ⟨x, rfl, h0, f2, hg2⟩
  have hb2 := below_cur hb hg2 hg hb.size
  have HX := Lib.hid h0
  clear h0
  go_wp2
  go_ret
  exact ⟨x, rfl, HX.out, hb2⟩
theorem c_DrawEncodeFixed (a : Option Addr) (n c : Nat) (z : List Int) (w : World) (h : Row .u8 w a n z) (hn : n ≤ 1048576) :
    Calls Tryd.prog 15 #[.slice a n c] w fun e w' => ∃ x y : Int, e = .returned (.tuple #[.int .i64 x, .int .i64 y]) ∧ (-9223372036854775808 ≤ x ∧ x ≤ 9223372036854775807) ∧ (-1 ≤ y ∧ y ≤ 8) ∧ Below w.heap.size w w' := by
  go_enter Tryd.func15, Tryd.ntmps15
  go_wp2_with fail
  refine (c_l1New _ _ _ _ _ h hn).mono ?_
  rintro e w1 ⟨g, rfl, hg, f, hb⟩
  go_wp2_with fail
  refine (c_l1Num g _ f).mono ?_
  rintro e w2 ⟨x, rfl, h0, h1, f2, hg2⟩
  have hb2 := below_cur hb hg2 hg hb.size
  have HX := Lib.hid (And.intro h0 h1)
  clear h0 h1
  go_wp2_with fail
  refine (c_l1Below g _ _ f2 (by decide) (by decide)).mono ?_
  rintro e w3 ⟨y, rfl, h0, h1, f3, hg3⟩
  have hb3 := below_cur hb2 hg3 hg hb2.size
  have hw : IntKind.i64.wrap (y - 1) = y - 1 := IntWalk.i64_in _ (by omega)
  have HY := Lib.hid (show -1 ≤ y - 1 ∧ y - 1 ≤ 8 by omega)
  clear h0 h1
  go_wp2
  go_ret2
  exact ⟨x, y - 1, rfl, HX.out, HY.out, hb3⟩
theorem c_big (a : Option Addr) (n c : Nat) (w : World) (hn : n ≤ maxLen) :
    Calls Tryd.prog 10 #[.slice a n c] w fun e w' => e = .returned (.bool (decide (1048576 < (n : Int)))) ∧ w = w' := by
  go_enter Tryd.func10, Tryd.ntmps10
  go_wp2
  go_ret
  exact ⟨rfl, rfl⟩
end Go.Proofs.YtfcgijnfiiaepaaDoor
