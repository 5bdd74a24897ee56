/- Contract of makeFunction, whatever closure it is handed. -/
import Derived.Test.YtfcgijnfiiaepaaGreatDoorFun2
import Derived.Deep.RegionLaw
import Derived.Shelf.Abstract
namespace Go.Proofs.YtfcgijnfiiaepaaGreatDoor
set_option linter.unusedSimpArgs false
set_option linter.unusedVariables false
open Go.RowKit

theorem FBox.setFar {w : World} {g : Nat} {t : TypeId} {n : Int} {a : Option Addr} {l c : Nat} (h : FBox w g t n a l c) (p : Addr) (v : Value) (hne : g ≠ p.block) : FBox (w.setCell p v) g t n a l c :=
  (Below.heap_setCell w p v g hne).trans h
theorem FBox.set1 {w : World} {g : Nat} {t : TypeId} {n : Int} {a : Option Addr} {l c : Nat} (h : FBox w g t n a l c) (a' : Option Addr) (l' c' : Nat) : FBox (w.setCell ⟨g, 1, none⟩ (.slice a' l' c')) g t n a' l' c' := by
  unfold FBox at h ⊢
  have hlt := (Array.getElem?_eq_some_iff.1 h).1
  have h' : w.heap[g] = .cells #[.int .i64 n, .slice a l c] t (0, 0) := by simpa [Array.getElem?_eq_getElem hlt] using h
  show (w.heap.modify g _)[g]? = _
  rw [Array.getElem?_eq_getElem (by simpa using hlt), Array.getElem_modify_self, h']
  rfl
theorem app1 (x y : Value) : #[x] ++ #[y] = #[x, y] := rfl
theorem app2 (x y z : Value) : #[x] ++ #[y, z] = #[x, y, z] := rfl
theorem app3 (x y z u : Value) : #[x] ++ #[y, z, u] = #[x, y, z, u] := rfl
/-- The values of a function, set by set. -/
def tabTo (val : Nat → Int) (k : Nat) : List Int := (List.range k).map val
theorem tabTo_succ (val : Nat → Int) (k : Nat) : tabTo val (k + 1) = tabTo val k ++ [val k] := by simp [tabTo, List.range_succ]
theorem tabTo_length (val : Nat → Int) (k : Nat) : (tabTo val k).length = k := by simp [tabTo]
theorem tabTo_congr {val val' : Nat → Int} {k : Nat} (h : ∀ j, j < k → val j = val' j) : tabTo val k = tabTo val' k := by
  apply List.map_congr_left
  intro j hj
  exact h j (by simpa using hj)
/-- The number of sets of n elements. -/
def tabOf (n : Int) (val : Nat → Int) : List Int := tabTo val (2 ^ n.toNat)
def madeN (n : Int) (xs : List Int) : Int := if isFun n xs then n else 0
def madeL (n : Int) (xs : List Int) : List Int := if isFun n xs then xs else []
theorem made_no {n : Int} {xs : List Int} (h : isFun n xs = false) : madeN n xs = 0 ∧ madeL n xs = [] := by simp [madeN, madeL, h]
theorem made_yes {n : Int} {xs : List Int} (h : isFun n xs = true) : madeN n xs = n ∧ madeL n xs = xs := by simp [madeN, madeL, h]
theorem pow5 {n : Int} (h0 : 0 ≤ n) (h1 : n ≤ 5) : 2 ^ n.toNat ≤ 32 := by
  have : n.toNat = 0 ∨ n.toNat = 1 ∨ n.toNat = 2 ∨ n.toNat = 3 ∨ n.toNat = 4 ∨ n.toNat = 5 := by omega
  rcases this with h | h | h | h | h | h <;> rw [h] <;> decide
theorem tabTo_getD (val : Nat → Int) (k j : Nat) (h : j < k) : (tabTo val k).getD j 0 = val j := by simp [tabTo, List.getD, h]
theorem isFun_tab {n : Int} {val : Nat → Int} (h0 : 0 ≤ n) (h1 : n ≤ 5) (h : ∀ s, s < 2 ^ n.toNat → -1000 ≤ val s ∧ val s ≤ 1000) : isFun n (tabOf n val) = true := by
  have hl : (tabOf n val).length = 2 ^ n.toNat := tabTo_length _ _
  have ha : allIn (tabOf n val) (-1000) 1000 = true := allIn_of fun j hj => by
    rw [hl] at hj
    rw [tabOf, tabTo_getD _ _ _ hj]
    exact inB_true.2 (h j hj)
  simp [isFun, ha, hl, inB_true.2 ⟨h0, h1⟩]
theorem isFun_tab_val {n : Int} {val : Nat → Int} (h : isFun n (tabOf n val) = true) (s : Nat) (hs : s < 2 ^ n.toNat) : -1000 ≤ val s ∧ val s ≤ 1000 := by
  obtain ⟨_, hl, hx⟩ := isFun_true h
  have := hx s (by rw [hl]; exact hs)
  rwa [tabOf, tabTo_getD _ _ _ hs] at this
set_option maxRecDepth 20000 in
set_option maxHeartbeats 1000000 in
theorem c_makeFunction (fid : Nat) (caps : Array Value) (e0 : Int) (val : Nat → Int) (w : World) (h0 : 0 ≤ e0) (h1 : e0 ≤ 5) (eg : ∀ args w, (callFunc fid args).run Tryz.prog w = .ok (.enter fid args) w)
    (hcall : ∀ (s : Nat) (w' : World), s < 2 ^ e0.toNat → Below w.heap.size w w' → Calls Tryz.prog fid (#[.int .i64 s] ++ caps) w' fun e w'' => e = .returned (.int .i64 (val s)) ∧ Below w'.heap.size w' w'') :
    Calls Tryz.prog 39 #[.int .i64 e0, .func (.func fid) #[] caps] w (RetFun 3 (madeN e0 (tabOf e0 val)) (madeL e0 (tabOf e0 val)) (isFun e0 (tabOf e0 val)) w) := by
  obtain ⟨j, rfl⟩ := Int.eq_ofNat_of_zero_le h0
  obtain ⟨p, hp⟩ : ∃ p, p = 2 ^ j := ⟨_, rfl⟩
  obtain ⟨hz, hs1, hs2⟩ := shl_facts j p hp (by omega)
  have hp5 : p ≤ 32 := by rw [hp]; exact pow5 h0 h1
  have htab : tabOf (j : Int) val = tabTo val p := by simp [tabOf, hp]
  rw [htab]
  rw [show 2 ^ (j : Int).toNat = p by rw [hp, Int.toNat_natCast]] at hcall
  have hj0 : (0 : Int) ≤ j := h0
  have HP := Lib.hid hp; clear hp htab
  go_enter Tryz.func39, Tryz.ntmps39
  go_wp2_with fail
  go_loopw [13] (fun i wr => ∃ k : Nat, i = .int .i64 k ∧ k ≤ p ∧ ∃ a c, FBox wr w.heap.size 26 0 none 0 0 ∧ FBox wr (w.heap.size + 1) 26 j a k c ∧ OwnI wr (w.heap.size + 2) 3 .i64 (.slice a k c) (tabTo val k) ∧ Below w.heap.size w wr) (fun i _ => p - (intOf i).toNat)
  case atStart => exact ⟨0, rfl, Nat.zero_le _, none, 0, (FBox.new w _ _ _ _ _).alloc _, by have h := FBox.new (w.alloc (.cells #[.int .i64 0, .slice none 0 0] 26)) 26 j none 0 0; rw [World.size_alloc] at h; exact h, OwnI.nil _ _ _ _, ((Below.refl _ _).alloc (Nat.le_refl _) _).alloc (by simp) _⟩
  case round =>
    obtain ⟨k, rfl, hk, a, c, f0, f1, hown, hb⟩ := hrel
    by_cases hlt : k < p
    · have k00 := f0.c0
      have k01 := f0.c1
      have k10 := f1.c0
      have k11 := f1.c1
      have f1 := f1.drew
      have f0 := f0.drew
      have hown := hown.drew
      have hb := hb.drew
      have hB := hb.size
      have hsz := f1.lt
      go_wp2_with fail
      go_region_law (first
        | (refine step_app EI (base := w.heap.size + 2) (v := .slice a k c) (xs := tabTo val k) (us := [val k]) (g := w1.heap.size) (n := 1) (c := 1) rfl (.tmp 17) (.tmp 21) rfl ?_ ?_ rfl rfl rfl ?_ ?_ ?_; (exact hown1.alloc _); (exact heap_alloc_new w1 _); (rw [tabTo_length]; show k + 1 ≤ _; omega); (exact le_alloc (by omega) _); intro v' w2 hown2 hgrow; rw [← tabTo_succ] at hown2; obtain ⟨a', c', hv', _⟩ := hown2.form; rw [tabTo_length] at hv'; subst hv'; have f1'' := (f1'.alloc _).grown hgrow (row_apart hown1.range (.inl (by omega))); have k10 := f1''.c0; have k11 := f1''.c1; have k1f := f1''.free)
        | (go_simp; refine (hcall k _ hlt hb).mono ?_; rintro e w1 ⟨rfl, hb1⟩; have hown1 := hown.below hb1; have f1' := f1.below hb1; have k10 := f1'.c0; have k11 := f1'.c1; have hsz1 := f1'.lt))
      all_goals
        have hb2 : Below w.heap.size w w2 := below_grown ((hb.trans (hb1.mono hb.size)).alloc (by have := hb1.size; omega) _) (hown1.alloc _) hgrow (by omega) (by simp; omega)
        have g0 := (((f0.below hb1).alloc _).grown hgrow (row_apart hown1.range (.inl (by omega)))).setFar ⟨w.heap.size + 1, 1, none⟩ (.slice a' (k + 1) c') (by simp)
        have g1 := f1''.set1 a' (k + 1) c'
        have g2 := hown2.setFar ⟨w.heap.size + 1, 1, none⟩ (.slice a' (k + 1) c') (.inr (row_apart hown2.range (.inl (by simp))))
        have g3 := hb2.setCell (p := ⟨w.heap.size + 1, 1, none⟩) (by simp) (.slice a' (k + 1) c')
        go_wp2
        go_roundw
        case rel => exact ⟨k + 1, by go_num, by omega, a', c', g0, g1, g2, g3⟩
        case measure => simp [intOf]; omega
    · obtain rfl : k = p := by omega
      have k00 := f0.c0
      have k01 := f0.c1
      have k10 := f1.c0
      have k11 := f1.c1
      have hl := tabTo_length val k
      have hlen : (tabTo val k).length ≤ 1048576 := by omega
      cases hf : isFun (j : Int) (tabTo val k) with
      | false =>
        go_wp2_with fail
        refine (c_impl_IsFunction _ _ _ _ _ _ hown.row (by omega)).mono ?_
        rw [hf]
        rintro e w1 ⟨rfl, hb1⟩
        have f0' := f0.below hb1
        have k00 := f0'.c0
        have k01 := f0'.c1
        have k0f := f0'.free
        go_wp2_with fail
        refine bodyPost_ret (v := .tuple #[.agg #[.int .i64 0, .slice none 0 0], .bool false]) (by simp [results, Tryz.results39, go_sem, k00, k01]) rfl ?_
        rw [(made_no hf).1, (made_no hf).2, hf]
        refine ⟨none, 0, rfl, OwnI.nil _ _ _ _, by simp, ?_⟩
        exact ((hb.trans (hb1.mono hb.size)).setCell (by simp) _).setCell (by simp) _
      | true =>
        go_wp2_with fail
        refine (c_impl_IsFunction _ _ _ _ _ _ hown.row (by omega)).mono ?_
        rw [hf]
        rintro e w1 ⟨rfl, hb1⟩
        have f0' := f0.below hb1
        have k00 := f0'.c0
        have k01 := f0'.c1
        have k0f := f0'.free
        have f1' := f1.below hb1
        have k10 := f1'.c0
        have k11 := f1'.c1
        have hown1 := hown.below hb1
        go_wp2_with fail
        refine bodyPost_ret (v := .tuple #[.agg #[.int .i64 j, .slice a k c], .bool true]) (by simp [results, Tryz.results39, go_sem, k00, k01]) rfl ?_
        rw [(made_yes hf).1, (made_yes hf).2, hf]
        refine ⟨a, c, by rw [hl], ?_, hlen, ?_⟩
        · rw [hl]
          exact ((hown1.base (by omega)).setFar ⟨w.heap.size, 0, none⟩ _ (.inr (row_apart hown1.range (.inl (by simp))))).setFar ⟨w.heap.size, 1, none⟩ _ (.inr (row_apart hown1.range (.inl (by simp))))
        · exact ((hb.trans (hb1.mono hb.size)).setCell (by simp) _).setCell (by simp) _
end Go.Proofs.YtfcgijnfiiaepaaGreatDoor
