/- Contracts of spec's draws of numbers and texts. -/
import Derived.Test.YtfcgijnfiiaepaaGreatDoorCur
namespace Go.Proofs.YtfcgijnfiiaepaaGreatDoor
set_option linter.unusedSimpArgs false
set_option linter.unusedVariables false
open Go.RowKit

theorem grownBy_own {a b c : World} {row row' : Option Nat} (h : a.grownBy b row) (k : b.grownBy c row') (hr : ∀ j, row' = some j → a.heap.size ≤ j) : a.grownBy c row :=
  ⟨k.os.trans h.os, k.tape.trans h.tape, k.output.trans h.output, Nat.le_trans h.size k.size, fun i hi hne => (k.block i (Nat.lt_of_lt_of_le hi h.size) (fun e => by have := hr i e.symm; omega)).trans (h.block i hi hne)⟩
theorem OwnI.cur {w w' : World} {base g : Nat} {e : TypeId} {k : IntKind} {v : Value} {xs : List Int} (h : OwnI w base e k v xs) (hg : w.grownBy w' (some g)) (hlt : g < base) : OwnI w' base e k v xs := by
  refine h.grown hg ?_
  cases hv : v.ownBlock with
  | none => exact .inl rfl
  | some j => exact .inr (fun e2 => by have := (h.range j hv).1; have e3 : j = g := Option.some.inj e2; omega)
theorem below_cur {B g : Nat} {a w w' : World} (h : Below B a w) (hg : w.grownBy w' (some g)) (hB : B ≤ g) (hs : B ≤ w.heap.size) : Below B a w' := h.grown hg hs (fun j e => by have e2 : g = j := Option.some.inj e; omega)
theorem wrap64_bd (v : Int) : -9223372036854775808 ≤ wrap64 v ∧ wrap64 v ≤ 9223372036854775807 := by
  unfold wrap64
  omega
/-- Some number of a list is returned. -/
def RetPick (t : TypeId) (g : Nat) (xs : List Int) (w : World) (e : Ending) (w' : World) : Prop := ∃ x : Int, x ∈ xs ∧ e = .returned (.int .i64 x) ∧ Cur t w' g ∧ w.grownBy w' (some g)
set_option maxRecDepth 20000 in
set_option maxHeartbeats 400000 in
theorem c_l1PickInt (g : Nat) (a : Option Addr) (n c : Nat) (xs : List Int) (w : World) (f : Cur 85 w g) (h : Row .i64 w a n xs) (hne : ∀ ad, a = some ad → ad.block ≠ g) (h0 : 0 < n) (h1 : n ≤ 1000) :
    Calls Tryz.prog 80 #[.pointer (some ⟨g, 0, none⟩), .slice a n c] w (RetPick 85 g xs w) := by
  have hl := h.len
  go_enter Tryz.func80, Tryz.ntmps80
  go_wp2_with fail
  refine (c_l1Below g _ _ f (by omega) (by omega)).mono ?_
  rintro e w1 ⟨x, rfl, hx0, hx1, f1, hg1⟩
  have hr := h.kept hg1 (fun ad e _ e2 => hne ad e (Option.some.inj e2).symm)
  obtain ⟨k, rfl⟩ := Int.eq_ofNat_of_zero_le hx0
  have hk : k < n := by omega
  obtain ⟨b, off, rfl, hblt, hc⟩ := hr.at_ (by omega)
  have g1 := hc k hk
  have hm : xs.getD k 0 ∈ xs := by
    rw [List.getD_eq_getElem?_getD, List.getElem?_eq_getElem (by omega)]
    exact List.getElem_mem _
  obtain ⟨y, hy⟩ : ∃ y, y = xs.getD k 0 := ⟨_, rfl⟩
  rw [← hy] at g1 hm
  have hi1 : (k : Int) < (n : Int) := by omega
  have HM := Lib.hid hm
  clear hm hy hc hr hx0 hx1 h hne
  go_wp2
  go_ret
  exact ⟨y, HM.out, rfl, f1, hg1⟩
theorem EBc : IntElem Tryz.prog 22 5 .u8 1 := ⟨Tryz.underlying22, Tryz.underlying5, by kernel_rfl, by decide⟩
/-- Some text is returned. -/
def RetText (t : TypeId) (g most : Nat) (w : World) (e : Ending) (w' : World) : Prop := ∃ s : ByteArray, e = .returned (.string s) ∧ s.size ≤ most ∧ Cur t w' g ∧ w.grownBy w' (some g)
set_option maxRecDepth 20000 in
set_option maxHeartbeats 1000000 in
theorem c_l1Text (g most : Nat) (w : World) (f : Cur 85 w g) (hm : most ≤ 1000) :
    Calls Tryz.prog 81 #[.pointer (some ⟨g, 0, none⟩), .int .i64 most] w (RetText 85 g most w) := by
  have hgs := f.lt
  have hown0 := OwnI.lit w w.heap.size 5 .u8 [] (Nat.le_refl _) (by decide)
  have hw0 : IntKind.i64.wrap ((most : Int) + 1) = (most : Int) + 1 := IntWalk.i64_in _ (by omega)
  go_enter Tryz.func81, Tryz.ntmps81
  go_wp2_with fail
  refine (c_l1Below g _ _ (f.alloc _) (by decide) (by decide)).mono ?_
  rintro e w1 ⟨st, rfl, hst0, hst1, f1, hg1⟩
  replace hown0 := hown0.cur hg1 hgs
  replace hg1 := grownBy_trans (grownBy_alloc w _ (some g)) hg1
  go_wp2_with fail
  refine (c_l1Below g _ _ f1 (by omega) (by omega)).mono ?_
  rintro e w2 ⟨k0, rfl, hk0, hk1, f2, hg2⟩
  replace hown0 := hown0.cur hg2 hgs
  replace hg2 := grownBy_trans hg1 hg2
  clear hg1 f1 f hw0
  go_wp2_with fail
  go_loopw [5, 7] (fun v nv wr => ∃ (k : Nat) (xs : List Int), nv = .int .i64 (k : Int) ∧ OwnI wr w.heap.size 5 .u8 v xs ∧ xs.length + k ≤ most ∧ Cur 85 wr g ∧ w.grownBy wr (some g)) (fun _ nv _ => (intOf nv).toNat)
  case atStart => exact ⟨k0.toNat, [], by rw [Int.toNat_of_nonneg hk0], hown0, by simp; omega, f2, hg2⟩
  case round =>
    clear hown0 f2 hg2
    obtain ⟨k, xs, rfl, hown, hlen, f2, hg2⟩ := hrel
    by_cases hk : 0 < k
    · have hkz : (0 : Int) < (k : Int) := by omega
      go_wp2_with fail
      refine (c_l1Byte g _ f2).mono ?_
      rintro e w3 ⟨b, rfl, hb0, hb1, f3, hg3⟩
      replace hown := hown.cur hg3 hgs
      replace hg3 := grownBy_trans hg2 hg3
      clear f2 hg2
      have hB3 : w.heap.size ≤ w3.heap.size := hg3.size
      have hc : st = 1 ∨ st = 2 ∨ ((st == 1) = false ∧ (st == 2) = false) := by
        simp only [beq_eq_false_iff_ne]
        omega
      have hlen1 : xs.length ≤ 1000 := by omega
      have hwk : IntKind.i64.wrap ((k : Int) - 1) = (k : Int) - 1 := IntWalk.i64_in _ (by omega)
      have HL := Lib.hid hlen
      clear hlen hst0 hst1 hm
      rcases hc with rfl | rfl | ⟨hs1, hs2⟩
      · have hr1 := emod_bd b 2 (by decide)
        have he := Int.tmod_eq_emod_of_nonneg (b := 2) hb0
        have hw1 : IntKind.u8.wrap (b % 2) = b % 2 := IntWalk.u8_in _ (by omega)
        have hv := fun j hj => (hown.range j hj).1
        go_wp2_with (at_builtin; refine wpList_app EBc (base := w.heap.size) (v := u5) (xs := xs) (us := [b % 2]) (g := w3.heap.size) (n := 1) (c := 1) rfl (.tmp 31) (.tmp 34) rfl ?_ ?_ rfl rfl rfl ?_ ?_ ?_; (exact hown.alloc _); (exact heap_alloc_new w3 _); (show _ + 1 ≤ _; omega); (exact le_alloc hB3 _); intro v' w4 hown4 hgrow)
        have hgf := grownBy_own (grownBy_trans hg3 (grownBy_alloc w3 _ (some g))) hgrow hv
        have f4 := (f3.alloc _).grown hgrow (fun j hj => by have := hv j hj; omega)
        go_roundw
        case rel => exact ⟨k - 1, _, by go_num, hown4, by have := HL.out; simp; omega, f4, hgf⟩
        case measure => simp [intOf]; omega
      · have hr1 := emod_bd b 4 (by decide)
        have he := Int.tmod_eq_emod_of_nonneg (b := 4) hb0
        have hw0 : IntKind.i64.wrap (97 + b % 4) = 97 + b % 4 := IntWalk.i64_in _ (by omega)
        have hw1 : IntKind.u8.wrap (97 + b % 4) = 97 + b % 4 := IntWalk.u8_in _ (by omega)
        have hv := fun j hj => (hown.range j hj).1
        go_wp2_with (at_builtin; refine wpList_app EBc (base := w.heap.size) (v := u5) (xs := xs) (us := [97 + b % 4]) (g := w3.heap.size) (n := 1) (c := 1) rfl (.tmp 31) (.tmp 34) rfl ?_ ?_ rfl rfl rfl ?_ ?_ ?_; (exact hown.alloc _); (exact heap_alloc_new w3 _); (show _ + 1 ≤ _; omega); (exact le_alloc hB3 _); intro v' w4 hown4 hgrow)
        have hgf := grownBy_own (grownBy_trans hg3 (grownBy_alloc w3 _ (some g))) hgrow hv
        have f4 := (f3.alloc _).grown hgrow (fun j hj => by have := hv j hj; omega)
        go_roundw
        case rel => exact ⟨k - 1, _, by go_num, hown4, by have := HL.out; simp; omega, f4, hgf⟩
        case measure => simp [intOf]; omega
      · have hw1 : IntKind.u8.wrap b = b := IntWalk.u8_in _ (by omega)
        have hv := fun j hj => (hown.range j hj).1
        go_wp2_with (at_builtin; refine wpList_app EBc (base := w.heap.size) (v := u5) (xs := xs) (us := [b]) (g := w3.heap.size) (n := 1) (c := 1) rfl (.tmp 31) (.tmp 34) rfl ?_ ?_ rfl rfl rfl ?_ ?_ ?_; (exact hown.alloc _); (exact heap_alloc_new w3 _); (show _ + 1 ≤ _; omega); (exact le_alloc hB3 _); intro v' w4 hown4 hgrow)
        have hgf := grownBy_own (grownBy_trans hg3 (grownBy_alloc w3 _ (some g))) hgrow hv
        have f4 := (f3.alloc _).grown hgrow (fun j hj => by have := hv j hj; omega)
        go_roundw
        case rel => exact ⟨k - 1, _, by go_num, hown4, by have := HL.out; simp; omega, f4, hgf⟩
        case measure => simp [intOf]; omega
    · obtain rfl : k = 0 := by omega
      have hc1 := run_string_own Tryz.underlying22 Tryz.underlying5 hown 9 Tryz.underlying9
      have hsz : (strOfNums xs).size ≤ most := by rw [strOfNums_size]; omega
      have HS := Lib.hid hsz
      clear hsz hlen
      go_wp2
      go_ret
      exact ⟨_, rfl, HS.out, f2, hg2⟩
theorem c_big (a : Option Addr) (n c : Nat) (w : World) (hn : n ≤ maxLen) :
    Calls Tryz.prog 4 #[.slice a n c] w fun e w' => e = .returned (.bool (decide (1048576 < (n : Int)))) ∧ w = w' := by
  go_enter Tryz.func4, Tryz.ntmps4
  go_wp2
  go_ret
  exact ⟨rfl, rfl⟩
end Go.Proofs.YtfcgijnfiiaepaaGreatDoor
