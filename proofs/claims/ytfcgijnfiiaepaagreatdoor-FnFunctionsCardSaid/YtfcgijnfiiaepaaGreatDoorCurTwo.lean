/- Contracts of spec's draws of functions of sets, with numbers and lists beside them, off the bytes. -/
import Derived.Test.YtfcgijnfiiaepaaGreatDoorCurAny
namespace Go.Proofs.YtfcgijnfiiaepaaGreatDoor
set_option linter.unusedSimpArgs false
set_option linter.unusedVariables false
open Go.RowKit

/-- Values that a drawn function may have. -/
def Fine (m : Int) (z : List Int) : Prop := (-9223372036854775808 ≤ m ∧ m ≤ 9223372036854775807) ∧ 1 ≤ z.length ∧ z.length ≤ 32
def DrF (et : TypeId) (w : World) (e : Ending) (w' : World) : Prop := ∃ (m1 : Int) (a1 : Option Addr) (c1 : Nat) (z1 : List Int), Fine m1 z1 ∧ e = .returned (.agg #[.int .i64 m1, .slice a1 z1.length c1]) ∧ OwnI w' w.heap.size et .i64 (.slice a1 z1.length c1) z1 ∧ Below w.heap.size w w'
def DrFF (et : TypeId) (w : World) (e : Ending) (w' : World) : Prop := ∃ (m1 : Int) (a1 : Option Addr) (c1 : Nat) (z1 : List Int) (m2 : Int) (a2 : Option Addr) (c2 : Nat) (z2 : List Int), Fine m1 z1 ∧ Fine m2 z2 ∧ e = .returned (.tuple #[.agg #[.int .i64 m1, .slice a1 z1.length c1], .agg #[.int .i64 m2, .slice a2 z2.length c2]]) ∧ OwnI w' w.heap.size et .i64 (.slice a1 z1.length c1) z1 ∧ OwnI w' w.heap.size et .i64 (.slice a2 z2.length c2) z2 ∧ Below w.heap.size w w'
def DrFI (et : TypeId) (w : World) (e : Ending) (w' : World) : Prop := ∃ (m1 : Int) (a1 : Option Addr) (c1 : Nat) (z1 : List Int) (x2 : Int), Fine m1 z1 ∧ e = .returned (.tuple #[.agg #[.int .i64 m1, .slice a1 z1.length c1], .int .i64 x2]) ∧ OwnI w' w.heap.size et .i64 (.slice a1 z1.length c1) z1 ∧ Below w.heap.size w w'
def DrFFI (et : TypeId) (w : World) (e : Ending) (w' : World) : Prop := ∃ (m1 : Int) (a1 : Option Addr) (c1 : Nat) (z1 : List Int) (m2 : Int) (a2 : Option Addr) (c2 : Nat) (z2 : List Int) (x3 : Int), Fine m1 z1 ∧ Fine m2 z2 ∧ e = .returned (.tuple #[.agg #[.int .i64 m1, .slice a1 z1.length c1], .agg #[.int .i64 m2, .slice a2 z2.length c2], .int .i64 x3]) ∧ OwnI w' w.heap.size et .i64 (.slice a1 z1.length c1) z1 ∧ OwnI w' w.heap.size et .i64 (.slice a2 z2.length c2) z2 ∧ Below w.heap.size w w'
def DrFII (et : TypeId) (w : World) (e : Ending) (w' : World) : Prop := ∃ (m1 : Int) (a1 : Option Addr) (c1 : Nat) (z1 : List Int) (x2 : Int) (x3 : Int), Fine m1 z1 ∧ e = .returned (.tuple #[.agg #[.int .i64 m1, .slice a1 z1.length c1], .int .i64 x2, .int .i64 x3]) ∧ OwnI w' w.heap.size et .i64 (.slice a1 z1.length c1) z1 ∧ Below w.heap.size w w'
def DrFL (et : TypeId) (w : World) (e : Ending) (w' : World) : Prop := ∃ (m1 : Int) (a1 : Option Addr) (c1 : Nat) (z1 : List Int) (a2 : Option Addr) (c2 : Nat) (z2 : List Int), Fine m1 z1 ∧ z2.length ≤ 32 ∧ e = .returned (.tuple #[.agg #[.int .i64 m1, .slice a1 z1.length c1], .slice a2 z2.length c2]) ∧ OwnI w' w.heap.size et .i64 (.slice a1 z1.length c1) z1 ∧ OwnI w' w.heap.size et .i64 (.slice a2 z2.length c2) z2 ∧ Below w.heap.size w w'
def DrII (et : TypeId) (w : World) (e : Ending) (w' : World) : Prop := ∃ (x1 : Int) (x2 : Int), e = .returned (.tuple #[.int .i64 x1, .int .i64 x2]) ∧ Below w.heap.size w w'
theorem grownBy_of_below1 {w w' : World} {B : Nat} (hb : Below B w w') (hs : w.heap.size = B + 1) : w.grownBy w' (some B) := ⟨hb.os, hb.tape, hb.output, hb.size, fun i hi hne => hb.block i (by have : i ≠ B := fun e => hne (by rw [e]); omega)⟩
theorem own_setr {w : World} {base : Nat} {e : TypeId} {k : IntKind} {x : Value} {xs : List Int} (h : OwnI w base e k x xs) (g : Nat) {lo hi : Nat} (hr : ∀ j, x.ownBlock = some j → lo ≤ j ∧ j < hi) (hg : g < lo ∨ hi ≤ g) (u v : Value) : OwnI ((w.setCell ⟨g, 0, none⟩ u).setCell ⟨g, 1, none⟩ v) base e k x xs :=
  (h.setFar ⟨g, 0, none⟩ u (.inr (row_apart hr hg))).setFar ⟨g, 1, none⟩ v (.inr (row_apart hr hg))
set_option maxRecDepth 40000 in
set_option maxHeartbeats 4000000 in
theorem c_l2Two (a : Option Addr) (n c : Nat) (z : List Int) (w : World) (h : Row .u8 w a n z) (hn : n ≤ 1048576) :
    Calls Tryz.prog 37 #[.slice a n c] w (DrFF 3 w) := by
  have bel := Below.refl w.heap.size w
  have r1 := FBox.new w 26 0 none 0 0
  replace bel := bel.alloc bel.size (.cells #[.int .i64 0, .slice none 0 0] 26)
  have r2 := FBox.new (w.alloc (.cells #[.int .i64 0, .slice none 0 0] 26)) 26 0 none 0 0
  rw [World.size_alloc] at r2
  replace r1 := r1.alloc (.cells #[.int .i64 0, .slice none 0 0] 26)
  replace bel := bel.alloc bel.size (.cells #[.int .i64 0, .slice none 0 0] 26)
  go_enter Tryz.func37, Tryz.ntmps37
  go_wp2_with fail
  refine (c_l1New _ _ _ _ _ (h.below bel) hn).mono ?_
  rintro e w1 ⟨g, rfl, hg, f, hb⟩
  (try simp only [World.size_alloc] at hg)
  replace r1 := r1.below hb
  have nr1 : g ≠ w.heap.size := by omega
  replace r2 := r2.below hb
  have nr2 : g ≠ w.heap.size + 1 := by omega
  replace bel := bel.trans (hb.mono bel.size)
  have hgB : w.heap.size ≤ g := by omega
  have lg1 := f.lt
  clear hb
  go_wp2_with fail
  refine (c_l2Any g _ f).mono ?_
  rintro e w2 ⟨m1, a1, c1, z1, hf1, hl1, hu1, rfl, ho1, f2, hg2⟩
  have hF1 : Fine m1 z1 := ⟨hf1, hl1, hu1⟩
  clear hf1 hl1 hu1
  (try simp only [World.size_alloc] at ho1)
  replace r1 := r1.cur hg2 nr1
  replace r2 := r2.cur hg2 nr2
  replace bel := below_cur bel hg2 hgB bel.size
  clear f
  have f := f2
  clear hg2 f2
  have := f.lt
  have og1 : g < w1.heap.size := by omega
  have v1 := FBox.new w2 26 m1 a1 z1.length c1
  have nv1 : g ≠ w2.heap.size := by have := f.lt; omega
  have lv1 := f.lt
  replace r1 := r1.alloc (.cells #[.int .i64 m1, .slice a1 z1.length c1] 26)
  replace r2 := r2.alloc (.cells #[.int .i64 m1, .slice a1 z1.length c1] 26)
  replace ho1 := ho1.alloc (.cells #[.int .i64 m1, .slice a1 z1.length c1] 26)
  replace f := f.alloc (.cells #[.int .i64 m1, .slice a1 z1.length c1] 26)
  replace bel := bel.alloc bel.size (.cells #[.int .i64 m1, .slice a1 z1.length c1] 26)
  go_wp2_with fail
  refine (c_l2Any g _ f).mono ?_
  rintro e w3 ⟨m2, a2, c2, z2, hf2, hl2, hu2, rfl, ho2, f2, hg2⟩
  have hF2 : Fine m2 z2 := ⟨hf2, hl2, hu2⟩
  clear hf2 hl2 hu2
  (try simp only [World.size_alloc] at ho2)
  replace r1 := r1.cur hg2 nr1
  replace r2 := r2.cur hg2 nr2
  replace v1 := v1.cur hg2 nv1
  replace ho1 := ho1.cur hg2 og1
  replace bel := below_cur bel hg2 hgB bel.size
  clear f
  have f := f2
  clear hg2 f2
  have := f.lt
  have og2 : g < w2.heap.size + 1 := by omega
  have v2 := FBox.new w3 26 m2 a2 z2.length c2
  have nv2 : g ≠ w3.heap.size := by have := f.lt; omega
  have lv2 := f.lt
  replace r1 := r1.alloc (.cells #[.int .i64 m2, .slice a2 z2.length c2] 26)
  replace r2 := r2.alloc (.cells #[.int .i64 m2, .slice a2 z2.length c2] 26)
  replace v1 := v1.alloc (.cells #[.int .i64 m2, .slice a2 z2.length c2] 26)
  replace ho1 := ho1.alloc (.cells #[.int .i64 m2, .slice a2 z2.length c2] 26)
  replace ho2 := ho2.alloc (.cells #[.int .i64 m2, .slice a2 z2.length c2] 26)
  replace f := f.alloc (.cells #[.int .i64 m2, .slice a2 z2.length c2] 26)
  replace bel := bel.alloc bel.size (.cells #[.int .i64 m2, .slice a2 z2.length c2] 26)
  cases hI1 : isFun m1 z1 with
  | false =>
    have k10 := v1.c0
    have k11 := v1.c1
    go_wp2_with fail
    refine (c_spec_IsFunction _ _ _ _ _ _ ho1.row (by have := hF1.2.2; omega)).mono ?_
    rw [hI1]
    rintro e w4 ⟨rfl, hb⟩
    clear k10 k11
    replace r1 := r1.below hb
    replace r2 := r2.below hb
    replace v1 := v1.below hb
    replace v2 := v2.below hb
    replace ho1 := ho1.below hb
    replace ho2 := ho2.below hb
    replace f := f.below hb
    replace bel := bel.trans (hb.mono bel.size)
    clear hb
    have l1 := r1.lt
    have l2 := r2.lt
    have n11 : w2.heap.size ≠ w.heap.size := by omega
    have n11' : w.heap.size ≠ w2.heap.size := by omega
    have n12 : w2.heap.size ≠ w.heap.size + 1 := by omega
    have n12' : w.heap.size + 1 ≠ w2.heap.size := by omega
    have n21 : w3.heap.size ≠ w.heap.size := by omega
    have n21' : w.heap.size ≠ w3.heap.size := by omega
    have n22 : w3.heap.size ≠ w.heap.size + 1 := by omega
    have n22' : w.heap.size + 1 ≠ w3.heap.size := by omega
    have p10 := r1.c0
    have p11 := r1.c1
    have p1f := r1.free
    have p20 := r2.c0
    have p21 := r2.c1
    have p2f := r2.free
    have k10 := v1.c0
    have k20 := v2.c0
    have k11 := v1.c1
    have k21 := v2.c1
    go_wp2_with fail
    go_region_held3 (fun w' => w'.cell? ⟨w2.heap.size, 0, none⟩ = some (.int .i64 m1) ∧ w'.cell? ⟨w2.heap.size, 1, none⟩ = some (.slice a1 z1.length c1) ∧ w'.cell? ⟨w3.heap.size, 0, none⟩ = some (.int .i64 m2) ∧ w'.cell? ⟨w3.heap.size, 1, none⟩ = some (.slice a2 z2.length c2)) (go_keep) (first | fail)
    all_goals
      go_wp2_with fail
      refine bodyPost_ret (v := .tuple #[.agg #[.int .i64 m1, .slice a1 z1.length c1], .agg #[.int .i64 m2, .slice a2 z2.length c2]]) (by simp [results, Tryz.results37, go_sem, p10, p11, p1f, p20, p21, p2f]) rfl ?_
      exact ⟨m1, a1, c1, z1, m2, a2, c2, z2, hF1, hF2, rfl, OwnI.drew ((own_setr (own_setr ho1 (w.heap.size) ho1.range (by (try simp only [World.size_alloc, World.size_drew, World.size_setCell]); omega) _ _) (w.heap.size + 1) ho1.range (by (try simp only [World.size_alloc, World.size_drew, World.size_setCell]); omega) _ _).base (base' := w.heap.size) (by omega)), OwnI.drew ((own_setr (own_setr ho2 (w.heap.size) ho2.range (by (try simp only [World.size_alloc, World.size_drew, World.size_setCell]); omega) _ _) (w.heap.size + 1) ho2.range (by (try simp only [World.size_alloc, World.size_drew, World.size_setCell]); omega) _ _).base (base' := w.heap.size) (by omega)), Below.drew ((below_set2 (below_set2 bel (show w.heap.size ≤ w.heap.size by omega) _ _) (show w.heap.size ≤ w.heap.size + 1 by omega) _ _))⟩
  | true =>
    have k10 := v1.c0
    have k11 := v1.c1
    go_wp2_with fail
    refine (c_spec_IsFunction _ _ _ _ _ _ ho1.row (by have := hF1.2.2; omega)).mono ?_
    rw [hI1]
    rintro e w4 ⟨rfl, hb⟩
    clear k10 k11
    replace r1 := r1.below hb
    replace r2 := r2.below hb
    replace v1 := v1.below hb
    replace v2 := v2.below hb
    replace ho1 := ho1.below hb
    replace ho2 := ho2.below hb
    replace f := f.below hb
    replace bel := bel.trans (hb.mono bel.size)
    clear hb
    cases hI2 : isFun m2 z2 with
    | false =>
      have k20 := v2.c0
      have k21 := v2.c1
      go_wp2_with fail
      refine (c_spec_IsFunction _ _ _ _ _ _ ho2.row (by have := hF2.2.2; omega)).mono ?_
      rw [hI2]
      rintro e w5 ⟨rfl, hb⟩
      clear k20 k21
      replace r1 := r1.below hb
      replace r2 := r2.below hb
      replace v1 := v1.below hb
      replace v2 := v2.below hb
      replace ho1 := ho1.below hb
      replace ho2 := ho2.below hb
      replace f := f.below hb
      replace bel := bel.trans (hb.mono bel.size)
      clear hb
      have l1 := r1.lt
      have l2 := r2.lt
      have n11 : w2.heap.size ≠ w.heap.size := by omega
      have n11' : w.heap.size ≠ w2.heap.size := by omega
      have n12 : w2.heap.size ≠ w.heap.size + 1 := by omega
      have n12' : w.heap.size + 1 ≠ w2.heap.size := by omega
      have n21 : w3.heap.size ≠ w.heap.size := by omega
      have n21' : w.heap.size ≠ w3.heap.size := by omega
      have n22 : w3.heap.size ≠ w.heap.size + 1 := by omega
      have n22' : w.heap.size + 1 ≠ w3.heap.size := by omega
      have p10 := r1.c0
      have p11 := r1.c1
      have p1f := r1.free
      have p20 := r2.c0
      have p21 := r2.c1
      have p2f := r2.free
      have k10 := v1.c0
      have k20 := v2.c0
      have k11 := v1.c1
      have k21 := v2.c1
      go_wp2_with fail
      go_region_held3 (fun w' => w'.cell? ⟨w2.heap.size, 0, none⟩ = some (.int .i64 m1) ∧ w'.cell? ⟨w2.heap.size, 1, none⟩ = some (.slice a1 z1.length c1) ∧ w'.cell? ⟨w3.heap.size, 0, none⟩ = some (.int .i64 m2) ∧ w'.cell? ⟨w3.heap.size, 1, none⟩ = some (.slice a2 z2.length c2)) (go_keep) (first | fail)
      all_goals
        go_wp2_with fail
        refine bodyPost_ret (v := .tuple #[.agg #[.int .i64 m1, .slice a1 z1.length c1], .agg #[.int .i64 m2, .slice a2 z2.length c2]]) (by simp [results, Tryz.results37, go_sem, p10, p11, p1f, p20, p21, p2f]) rfl ?_
        exact ⟨m1, a1, c1, z1, m2, a2, c2, z2, hF1, hF2, rfl, OwnI.drew ((own_setr (own_setr ho1 (w.heap.size) ho1.range (by (try simp only [World.size_alloc, World.size_drew, World.size_setCell]); omega) _ _) (w.heap.size + 1) ho1.range (by (try simp only [World.size_alloc, World.size_drew, World.size_setCell]); omega) _ _).base (base' := w.heap.size) (by omega)), OwnI.drew ((own_setr (own_setr ho2 (w.heap.size) ho2.range (by (try simp only [World.size_alloc, World.size_drew, World.size_setCell]); omega) _ _) (w.heap.size + 1) ho2.range (by (try simp only [World.size_alloc, World.size_drew, World.size_setCell]); omega) _ _).base (base' := w.heap.size) (by omega)), Below.drew ((below_set2 (below_set2 bel (show w.heap.size ≤ w.heap.size by omega) _ _) (show w.heap.size ≤ w.heap.size + 1 by omega) _ _))⟩
    | true =>
      have k20 := v2.c0
      have k21 := v2.c1
      go_wp2_with fail
      refine (c_spec_IsFunction _ _ _ _ _ _ ho2.row (by have := hF2.2.2; omega)).mono ?_
      rw [hI2]
      rintro e w5 ⟨rfl, hb⟩
      clear k20 k21
      replace r1 := r1.below hb
      replace r2 := r2.below hb
      replace v1 := v1.below hb
      replace v2 := v2.below hb
      replace ho1 := ho1.below hb
      replace ho2 := ho2.below hb
      replace f := f.below hb
      replace bel := bel.trans (hb.mono bel.size)
      clear hb
      go_wp2_with fail
      refine (c_l1Once g _ _ f (by decide) (by decide)).mono ?_
      rintro e w6 ⟨b, rfl, f2, hg2⟩
      replace r1 := r1.cur hg2 nr1
      replace r2 := r2.cur hg2 nr2
      replace v1 := v1.cur hg2 nv1
      replace v2 := v2.cur hg2 nv2
      replace ho1 := ho1.cur hg2 og1
      replace ho2 := ho2.cur hg2 og2
      replace bel := below_cur bel hg2 hgB bel.size
      clear f
      have f := f2
      clear hg2 f2
      have := f.lt
      cases b with
      | true =>
        have l1 := r1.lt
        have l2 := r2.lt
        have n11 : w2.heap.size ≠ w.heap.size := by omega
        have n11' : w.heap.size ≠ w2.heap.size := by omega
        have n12 : w2.heap.size ≠ w.heap.size + 1 := by omega
        have n12' : w.heap.size + 1 ≠ w2.heap.size := by omega
        have n21 : w3.heap.size ≠ w.heap.size := by omega
        have n21' : w.heap.size ≠ w3.heap.size := by omega
        have n22 : w3.heap.size ≠ w.heap.size + 1 := by omega
        have n22' : w.heap.size + 1 ≠ w3.heap.size := by omega
        have p10 := r1.c0
        have p11 := r1.c1
        have p1f := r1.free
        have p20 := r2.c0
        have p21 := r2.c1
        have p2f := r2.free
        have k10 := v1.c0
        have k20 := v2.c0
        have k11 := v1.c1
        have k21 := v2.c1
        go_wp2_with fail
        go_region_held3 (fun w' => w'.cell? ⟨w2.heap.size, 0, none⟩ = some (.int .i64 m1) ∧ w'.cell? ⟨w2.heap.size, 1, none⟩ = some (.slice a1 z1.length c1) ∧ w'.cell? ⟨w3.heap.size, 0, none⟩ = some (.int .i64 m2) ∧ w'.cell? ⟨w3.heap.size, 1, none⟩ = some (.slice a2 z2.length c2)) (go_keep) (first | fail)
        all_goals
          go_wp2_with fail
          refine bodyPost_ret (v := .tuple #[.agg #[.int .i64 m1, .slice a1 z1.length c1], .agg #[.int .i64 m2, .slice a2 z2.length c2]]) (by simp [results, Tryz.results37, go_sem, p10, p11, p1f, p20, p21, p2f]) rfl ?_
          exact ⟨m1, a1, c1, z1, m2, a2, c2, z2, hF1, hF2, rfl, OwnI.drew ((own_setr (own_setr ho1 (w.heap.size) ho1.range (by (try simp only [World.size_alloc, World.size_drew, World.size_setCell]); omega) _ _) (w.heap.size + 1) ho1.range (by (try simp only [World.size_alloc, World.size_drew, World.size_setCell]); omega) _ _).base (base' := w.heap.size) (by omega)), OwnI.drew ((own_setr (own_setr ho2 (w.heap.size) ho2.range (by (try simp only [World.size_alloc, World.size_drew, World.size_setCell]); omega) _ _) (w.heap.size + 1) ho2.range (by (try simp only [World.size_alloc, World.size_drew, World.size_setCell]); omega) _ _).base (base' := w.heap.size) (by omega)), Below.drew ((below_set2 (below_set2 bel (show w.heap.size ≤ w.heap.size by omega) _ _) (show w.heap.size ≤ w.heap.size + 1 by omega) _ _))⟩
      | false =>
        have HRG1 := Lib.hid ho1.range
        have HRA := ho2.range
        have l26 : w2.heap.size < w6.heap.size := v1.lt
        have l36 : w3.heap.size < w6.heap.size := v2.lt
        have hz2u : z2.length ≤ 32 := hF2.2.2
        have l06 : w.heap.size ≤ w6.heap.size := bel.size
        have l1 := r1.lt
        have l2 := r2.lt
        have hlv := v2.lt
        have hv0 := OwnI.lit w6 w6.heap.size 3 .i64 [] (Nat.le_refl _) (by decide)
        replace r1 := r1.alloc (.cells #[] 3)
        replace r2 := r2.alloc (.cells #[] 3)
        replace v1 := v1.alloc (.cells #[] 3)
        replace v2 := v2.alloc (.cells #[] 3)
        replace ho1 := ho1.alloc (.cells #[] 3)
        replace ho2 := ho2.alloc (.cells #[] 3)
        replace bel := bel.alloc bel.size (.cells #[] 3)
        have hz1p : 1 ≤ z1.length := hF1.2.1
        have hz2p : 1 ≤ z2.length := hF2.2.1
        have hz1u : z1.length ≤ 32 := hF1.2.2
        have HRG2 := Lib.hid (show ∀ j, (Value.slice a2 z2.length c2).ownBlock = some j → w2.heap.size ≤ j ∧ j < w6.heap.size from fun j h => ⟨by have := (HRA j h).1; omega, (HRA j h).2⟩)
        have HB := Lib.hid bel
        have HO1 := Lib.hid ho1
        have HO2 := Lib.hid ho2
        have HR1 := Lib.hid r1
        have HR2 := Lib.hid r2
        have HV1 := Lib.hid v1
        have HV2 := Lib.hid v2
        obtain ⟨W6, hW6⟩ : ∃ W, W = w6.alloc (.cells #[] 3) := ⟨_, rfl⟩
        have hs6 : W6.heap.size = w6.heap.size + 1 := by rw [hW6]; simp
        change OwnI (w6.alloc (.cells #[] 3)) w6.heap.size 3 .i64 (.slice (some ⟨w6.heap.size, 0, none⟩) 0 0) [] at hv0
        rw [← hW6] at HB HO1 HO2 HR1 HR2 HV1 HV2 hv0
        clear ho1 ho2 r1 r2 v1 v2 bel
        have kv11 := HV1.out.c1
        rw [hW6] at kv11
        have HW6 := Lib.hid hW6
        clear hW6 HRA
        go_wp2_with fail
        go_loopw [7, 8] (fun v sv wr => ∃ (s : Nat) (zs : List Int), sv = .int .i64 (s : Int) ∧ s ≤ z1.length ∧ zs.length = s ∧ OwnI wr w6.heap.size 3 .i64 v zs ∧ Below w6.heap.size W6 wr) (fun _ sv _ => z1.length - (intOf sv).toNat)
        case atStart => exact ⟨0, [], rfl, Nat.zero_le _, rfl, by rw [← HW6.out]; exact hv0, by rw [HW6.out]; exact Below.refl _ _⟩
        case round =>
          clear hv0 kv11
          obtain ⟨s, zs, rfl, hsz, hzl, hv, hbw⟩ := hrel
          have HZ := Lib.hid hzl
          have hz33 : zs.length ≤ 32 := by omega
          clear hzl
          have e1 := (hbw.cell (p := ⟨w2.heap.size, 0, none⟩) (show w2.heap.size < w6.heap.size by omega)).trans HV1.out.c0
          have e2 := (hbw.cell (p := ⟨w2.heap.size, 1, none⟩) (show w2.heap.size < w6.heap.size by omega)).trans HV1.out.c1
          have e3 := (hbw.cell (p := ⟨w3.heap.size, 1, none⟩) (show w3.heap.size < w6.heap.size by omega)).trans HV2.out.c1
          by_cases hlt : s < z1.length
          · have hlz : (s : Int) < (z1.length : Int) := by omega
            obtain ⟨b2, o2, hA2, hb2, hc2⟩ := HO2.out.row.at_ (by omega)
            have hb26 : b2 < w6.heap.size := (HRG2.out b2 (by rw [hA2]; rfl)).2
            subst hA2
            have ht : s % z2.length < z2.length := Nat.mod_lt _ (by omega)
            obtain ⟨t, htt⟩ : ∃ t, t = s % z2.length := ⟨_, rfl⟩
            rw [← htt] at ht
            have g2 := (hbw.cell (p := ⟨b2, o2 + t, none⟩) hb26).trans (hc2 t ht)
            have HG2 := Lib.hid (hc2 t ht)
            obtain ⟨X, hX⟩ : ∃ X, z2.getD t 0 = X := ⟨_, rfl⟩
            rw [hX] at g2
            replace HG2 := Lib.hid (show W6.cell? ⟨b2, o2 + t, none⟩ = some (.int .i64 X) by rw [← hX]; exact HG2.out)
            clear hX
            have q1 : Int.tmod (s : Int) (z2.length : Int) = (t : Int) := by rw [htt]; exact (Int.ofNat_tmod _ _).symm
            have q2 : (s : Int) % (z2.length : Int) = (t : Int) := by rw [htt]; push_cast; rfl
            have q3 : ((z2.length : Int) == 0) = false := by rw [beq_eq_false_iff_ne]; omega
            have q4 : (z2.length : Int) ≠ 0 := by omega
            have q8 : z2 ≠ [] := by intro h; rw [h] at hz2p; simp at hz2p
            have q9 : z2.length ≠ 0 := by omega
            have q10 : ¬ (z2.length : Int) = 0 := by omega
            have q5 : (t : Int) < (z2.length : Int) := by omega
            have q6 : (0 : Int) ≤ (t : Int) := by omega
            have q7 : IntKind.i64.wrap (t : Int) = (t : Int) := IntWalk.i64_in _ (by omega)
            have HTT := Lib.hid htt
            clear htt hc2
            have hB := hbw.size
            have hvd := hv.drew
            have hbwd := hbw.drew
            go_wp2_with fail
            go_region_held3 (fun w' => w'.cell? ⟨w3.heap.size, 1, none⟩ = some (.slice (some ⟨b2, o2, none⟩) z2.length c2) ∧ w'.cell? ⟨b2, o2 + t, none⟩ = some (.int .i64 X)) (go_keep) (first | (refine step_app EI (base := w6.heap.size) (v := u7) (xs := zs) (us := [X]) (g := wr.heap.size) (n := 1) (c := 1) rfl (.tmp 34) (.tmp 44) rfl ?_ ?_ rfl rfl rfl ?_ ?_ ?_; (exact hvd.alloc _); (exact heap_alloc_new wr.drew _); (show _ + 1 ≤ _; omega); (exact le_alloc (by show w6.heap.size ≤ wr.heap.size; omega) _); intro v' w8 hv8 hgrow; have hb8 : Below w6.heap.size W6 w8 := below_grown (hbwd.alloc (by show w6.heap.size ≤ wr.heap.size; omega) _) (hvd.alloc _) hgrow (Nat.le_refl _) (le_alloc (by show w6.heap.size ≤ wr.heap.size; omega) _); have e3 := (hb8.cell (p := ⟨w3.heap.size, 1, none⟩) (show w3.heap.size < w6.heap.size by omega)).trans HV2.out.c1; have g2 := (hb8.cell (p := ⟨b2, o2 + t, none⟩) hb26).trans HG2.out))
            all_goals
              go_wp2
              go_roundw
              case rel => exact ⟨s + 1, _, by go_num, by omega, by simp [HZ.out], hv8, hb8⟩
              case measure => simp [intOf]; omega
          · have hle : z1.length ≤ s := by omega
            have hseq : s = z1.length := by omega
            subst hseq
            obtain ⟨a3, c3, rfl, _⟩ := hv.form
            rw [HZ.out] at hv
            rw [HZ.out]
            have r1 := HR1.out.upto hbw (by omega)
            have r2 := HR2.out.upto hbw (by omega)
            have v1 := HV1.out.upto hbw l26
            have v2 := HV2.out.upto hbw l36
            have ho1 := HO1.out.grown (grownBy_of_below1 hbw hs6) (.inr (row_apart HRG1.out (.inr (Nat.le_refl _))))
            have ho3 := hv
            have hF3 : Fine m1 zs := ⟨hF1.1, by rw [HZ.out]; exact hF1.2.1, by rw [HZ.out]; exact hF1.2.2⟩
            have bel := HB.out.trans (hbw.mono (by omega))
            clear e1 e2 e3
            have n11 : w2.heap.size ≠ w.heap.size := by omega
            have n11' : w.heap.size ≠ w2.heap.size := by omega
            have n12 : w2.heap.size ≠ w.heap.size + 1 := by omega
            have n12' : w.heap.size + 1 ≠ w2.heap.size := by omega
            have p10 := r1.c0
            have p11 := r1.c1
            have p1f := r1.free
            have p20 := r2.c0
            have p21 := r2.c1
            have p2f := r2.free
            have k10 := v1.c0
            have k11 := v1.c1
            go_wp2_with fail
            go_region_held3 (fun w' => w'.cell? ⟨w2.heap.size, 0, none⟩ = some (.int .i64 m1) ∧ w'.cell? ⟨w2.heap.size, 1, none⟩ = some (.slice a1 z1.length c1)) (go_keep) (first | fail)
            all_goals
              go_wp2_with fail
              refine bodyPost_ret (v := .tuple #[.agg #[.int .i64 m1, .slice a1 z1.length c1], .agg #[.int .i64 m1, .slice a3 z1.length c3]]) (by simp [results, Tryz.results37, go_sem, p10, p11, p1f, p20, p21, p2f]) rfl ?_
              exact ⟨m1, a1, c1, z1, m1, a3, c3, zs, hF1, hF3, by rw [HZ.out], OwnI.drew ((own_setr (own_setr ho1 (w.heap.size) ho1.range (by (try simp only [World.size_alloc, World.size_drew, World.size_setCell]); omega) _ _) (w.heap.size + 1) ho1.range (by (try simp only [World.size_alloc, World.size_drew, World.size_setCell]); omega) _ _).base (base' := w.heap.size) (by omega)), by rw [HZ.out]; exact OwnI.drew ((own_setr (own_setr ho3 (w.heap.size) ho3.range (by (try simp only [World.size_alloc, World.size_drew, World.size_setCell]); omega) _ _) (w.heap.size + 1) ho3.range (by (try simp only [World.size_alloc, World.size_drew, World.size_setCell]); omega) _ _).base (base' := w.heap.size) (by omega)), Below.drew ((below_set2 (below_set2 bel (show w.heap.size ≤ w.heap.size by omega) _ _) (show w.heap.size ≤ w.heap.size + 1 by omega) _ _))⟩
set_option maxRecDepth 40000 in
set_option maxHeartbeats 2000000 in
theorem c_l2Set (a : Option Addr) (n c : Nat) (z : List Int) (w : World) (h : Row .u8 w a n z) (hn : n ≤ 1048576) :
    Calls Tryz.prog 53 #[.slice a n c] w (DrFI 3 w) := by
  have bel := Below.refl w.heap.size w
  have r1 := FBox.new w 26 0 none 0 0
  replace bel := bel.alloc bel.size (.cells #[.int .i64 0, .slice none 0 0] 26)
  go_enter Tryz.func53, Tryz.ntmps53
  go_wp2_with fail
  refine (c_l1New _ _ _ _ _ (h.below bel) hn).mono ?_
  rintro e w1 ⟨g, rfl, hg, f, hb⟩
  (try simp only [World.size_alloc] at hg)
  replace r1 := r1.below hb
  have nr1 : g ≠ w.heap.size := by omega
  replace bel := bel.trans (hb.mono bel.size)
  have hgB : w.heap.size ≤ g := by omega
  have lg1 := f.lt
  clear hb
  go_wp2_with fail
  refine (c_l2Any g _ f).mono ?_
  rintro e w2 ⟨m1, a1, c1, z1, hf1, hl1, hu1, rfl, ho1, f2, hg2⟩
  have hF1 : Fine m1 z1 := ⟨hf1, hl1, hu1⟩
  clear hf1 hl1 hu1
  (try simp only [World.size_alloc] at ho1)
  replace r1 := r1.cur hg2 nr1
  replace bel := below_cur bel hg2 hgB bel.size
  clear f
  have f := f2
  clear hg2 f2
  have := f.lt
  have og1 : g < w1.heap.size := by omega
  have LR1 := Lib.hid r1.lt
  have v1 := FBox.new w2 26 m1 a1 z1.length c1
  have nv1 : g ≠ w2.heap.size := by have := f.lt; omega
  have lv1 := f.lt
  replace r1 := r1.alloc (.cells #[.int .i64 m1, .slice a1 z1.length c1] 26)
  replace ho1 := ho1.alloc (.cells #[.int .i64 m1, .slice a1 z1.length c1] 26)
  replace f := f.alloc (.cells #[.int .i64 m1, .slice a1 z1.length c1] 26)
  replace bel := bel.alloc bel.size (.cells #[.int .i64 m1, .slice a1 z1.length c1] 26)
  skip
  have l1 := r1.lt
  skip
  replace r1 := r1.drew
  replace v1 := v1.drew
  replace ho1 := ho1.drew
  replace f := f.drew
  replace bel := bel.drew
  have k10 := v1.c0
  have k11 := v1.c1
  have p10 := r1.c0
  have p11 := r1.c1
  have p1f := r1.free
  have l12 : w.heap.size < w2.heap.size := LR1.out
  have n11 : w2.heap.size ≠ w.heap.size := by omega
  have n11' : w.heap.size ≠ w2.heap.size := by omega
  go_wp2_with fail
  go_region_held3 (fun w' => w'.cell? ⟨w2.heap.size, 0, none⟩ = some (.int .i64 m1) ∧ w'.cell? ⟨w2.heap.size, 1, none⟩ = some (.slice a1 z1.length c1)) (go_keep)
    (first | (go_at_call 65; refine (c_l1Below g _ _ f (by decide) (by decide)).mono ?_; rintro e w3 ⟨x, rfl, hx0, hx1, f2, hg2⟩; replace r1 := r1.cur hg2 nr1; replace v1 := v1.cur hg2 nv1; replace ho1 := ho1.cur hg2 og1; replace bel := below_cur bel hg2 hgB bel.size; clear f; have f := f2; clear hg2 f2; have := f.lt; have hwx : IntKind.i64.wrap (x - 1) = x - 1 := IntWalk.i64_in _ (by omega); clear hx0 hx1; replace k10 := v1.c0; replace k11 := v1.c1; replace p10 := r1.c0; replace p11 := r1.c1; replace p1f := r1.free))
  all_goals
    go_wp2_with fail
    refine bodyPost_ret (v := .tuple #[.agg #[.int .i64 m1, .slice a1 z1.length c1], .int .i64 (x - 1)]) (by simp [results, Tryz.results53, go_sem, p10, p11, p1f]) rfl ?_
    exact ⟨m1, a1, c1, z1, _, hF1, rfl, (own_setr ho1 (w.heap.size) ho1.range (by (try simp only [World.size_alloc, World.size_drew, World.size_setCell]); omega) _ _).base (base' := w.heap.size) (by omega), (below_set2 bel (show w.heap.size ≤ w.heap.size by omega) _ _)⟩
set_option maxRecDepth 40000 in
set_option maxHeartbeats 1000000 in
theorem c_DrawLowerFunction (a : Option Addr) (n c : Nat) (z : List Int) (w : World) (h : Row .u8 w a n z) (hn : n ≤ 1048576) :
    Calls Tryz.prog 23 #[.slice a n c] w (DrF 3 w) := by
  have bel := Below.refl w.heap.size w
  have r1 := FBox.new w 26 0 none 0 0
  replace bel := bel.alloc bel.size (.cells #[.int .i64 0, .slice none 0 0] 26)
  go_enter Tryz.func23, Tryz.ntmps23
  go_wp2_with fail
  refine (c_l1New _ _ _ _ _ (h.below bel) hn).mono ?_
  rintro e w1 ⟨g, rfl, hg, f, hb⟩
  (try simp only [World.size_alloc] at hg)
  replace r1 := r1.below hb
  have nr1 : g ≠ w.heap.size := by omega
  replace bel := bel.trans (hb.mono bel.size)
  have hgB : w.heap.size ≤ g := by omega
  have lg1 := f.lt
  clear hb
  go_wp2_with fail
  refine (c_l2Any g _ f).mono ?_
  rintro e w2 ⟨m1, a1, c1, z1, hf1, hl1, hu1, rfl, ho1, f2, hg2⟩
  have hF1 : Fine m1 z1 := ⟨hf1, hl1, hu1⟩
  clear hf1 hl1 hu1
  (try simp only [World.size_alloc] at ho1)
  replace r1 := r1.cur hg2 nr1
  replace bel := below_cur bel hg2 hgB bel.size
  clear f
  have f := f2
  clear hg2 f2
  have := f.lt
  have og1 : g < w1.heap.size := by omega
  have l1 := r1.lt
  have p10 := r1.c0
  have p11 := r1.c1
  have p1f := r1.free
  go_wp2_with fail
  refine bodyPost_ret (v := .agg #[.int .i64 m1, .slice a1 z1.length c1]) (by simp [results, Tryz.results23, go_sem, p10, p11, p1f]) rfl ?_
  exact ⟨m1, a1, c1, z1, hF1, rfl, (own_setr ho1 (w.heap.size) ho1.range (by (try simp only [World.size_alloc, World.size_drew, World.size_setCell]); omega) _ _).base (base' := w.heap.size) (by omega), (below_set2 bel (show w.heap.size ≤ w.heap.size by omega) _ _)⟩
set_option maxRecDepth 40000 in
set_option maxHeartbeats 1000000 in
theorem c_DrawAddFunctions (a : Option Addr) (n c : Nat) (z : List Int) (w : World) (h : Row .u8 w a n z) (hn : n ≤ 1048576) :
    Calls Tryz.prog 5 #[.slice a n c] w (DrFF 3 w) := by
  have bel := Below.refl w.heap.size w
  have r1 := FBox.new w 26 0 none 0 0
  replace bel := bel.alloc bel.size (.cells #[.int .i64 0, .slice none 0 0] 26)
  have r2 := FBox.new (w.alloc (.cells #[.int .i64 0, .slice none 0 0] 26)) 26 0 none 0 0
  rw [World.size_alloc] at r2
  replace r1 := r1.alloc (.cells #[.int .i64 0, .slice none 0 0] 26)
  replace bel := bel.alloc bel.size (.cells #[.int .i64 0, .slice none 0 0] 26)
  go_enter Tryz.func5, Tryz.ntmps5
  go_wp2_with fail
  refine (c_l2Two _ _ _ _ _ (h.below bel) hn).mono ?_
  rintro e w1 ⟨m1, a1, c1, z1, m2, a2, c2, z2, hf1, hf2, rfl, ho1, ho2, hb⟩
  replace r1 := r1.below hb
  replace r2 := r2.below hb
  replace bel := bel.trans (hb.mono bel.size)
  have hs1 : w.heap.size + 1 + 1 ≤ w1.heap.size := by have := hb.size; simpa using this
  have hzho1 := ho1.range
  (try simp only [World.size_alloc] at hzho1)
  replace ho1 := ho1.base (base' := w.heap.size) (by first | omega | (simp only [World.size_alloc]; omega))
  have hzho2 := ho2.range
  (try simp only [World.size_alloc] at hzho2)
  replace ho2 := ho2.base (base' := w.heap.size) (by first | omega | (simp only [World.size_alloc]; omega))
  have v1 := FBox.new w1 26 m1 a1 z1.length c1
  replace r1 := r1.alloc (.cells #[.int .i64 m1, .slice a1 z1.length c1] 26)
  replace r2 := r2.alloc (.cells #[.int .i64 m1, .slice a1 z1.length c1] 26)
  replace ho1 := ho1.alloc (.cells #[.int .i64 m1, .slice a1 z1.length c1] 26)
  replace ho2 := ho2.alloc (.cells #[.int .i64 m1, .slice a1 z1.length c1] 26)
  replace bel := bel.alloc bel.size (.cells #[.int .i64 m1, .slice a1 z1.length c1] 26)
  have v2 := FBox.new (w1.alloc (.cells #[.int .i64 m1, .slice a1 z1.length c1] 26)) 26 m2 a2 z2.length c2
  rw [World.size_alloc] at v2
  replace r1 := r1.alloc (.cells #[.int .i64 m2, .slice a2 z2.length c2] 26)
  replace r2 := r2.alloc (.cells #[.int .i64 m2, .slice a2 z2.length c2] 26)
  replace ho1 := ho1.alloc (.cells #[.int .i64 m2, .slice a2 z2.length c2] 26)
  replace ho2 := ho2.alloc (.cells #[.int .i64 m2, .slice a2 z2.length c2] 26)
  replace v1 := v1.alloc (.cells #[.int .i64 m2, .slice a2 z2.length c2] 26)
  replace bel := bel.alloc bel.size (.cells #[.int .i64 m2, .slice a2 z2.length c2] 26)
  have n11 : w1.heap.size ≠ w.heap.size := by omega
  have n11' : w.heap.size ≠ w1.heap.size := by omega
  have n12 : w1.heap.size ≠ w.heap.size + 1 := by omega
  have n12' : w.heap.size + 1 ≠ w1.heap.size := by omega
  have n21 : w1.heap.size + 1 ≠ w.heap.size := by omega
  have n21' : w.heap.size ≠ w1.heap.size + 1 := by omega
  have n22 : w1.heap.size + 1 ≠ w.heap.size + 1 := by omega
  have n22' : w.heap.size + 1 ≠ w1.heap.size + 1 := by omega
  have k10 := v1.c0
  have k11 := v1.c1
  have k20 := v2.c0
  have k21 := v2.c1
  have p10 := r1.c0
  have p11 := r1.c1
  have p1f := r1.free
  have p20 := r2.c0
  have p21 := r2.c1
  have p2f := r2.free
  go_wp2_with fail
  go_region_held3 (fun w' => w'.cell? ⟨w1.heap.size, 0, none⟩ = some (.int .i64 m1) ∧ w'.cell? ⟨w1.heap.size, 1, none⟩ = some (.slice a1 z1.length c1) ∧ w'.cell? ⟨w1.heap.size + 1, 0, none⟩ = some (.int .i64 m2) ∧ w'.cell? ⟨w1.heap.size + 1, 1, none⟩ = some (.slice a2 z2.length c2)) (go_keep) (first | fail)
  all_goals
    go_wp2_with fail
    refine bodyPost_ret (v := .tuple #[.agg #[.int .i64 m1, .slice a1 z1.length c1], .agg #[.int .i64 m2, .slice a2 z2.length c2]]) (by simp [results, Tryz.results5, go_sem, p10, p11, p1f, p20, p21, p2f]) rfl ?_
    exact ⟨m1, a1, c1, z1, m2, a2, c2, z2, hf1, hf2, rfl, OwnI.drew (own_setr (own_setr ho1 (w.heap.size) hzho1 (by omega) _ _) (w.heap.size + 1) hzho1 (by omega) _ _), OwnI.drew (own_setr (own_setr ho2 (w.heap.size) hzho2 (by omega) _ _) (w.heap.size + 1) hzho2 (by omega) _ _), Below.drew (below_set2 (below_set2 bel (show w.heap.size ≤ w.heap.size by omega) _ _) (show w.heap.size ≤ w.heap.size + 1 by omega) _ _)⟩
set_option maxRecDepth 40000 in
set_option maxHeartbeats 1000000 in
theorem c_DrawValueOf (a : Option Addr) (n c : Nat) (z : List Int) (w : World) (h : Row .u8 w a n z) (hn : n ≤ 1048576) :
    Calls Tryz.prog 30 #[.slice a n c] w (DrFI 3 w) := by
  have bel := Below.refl w.heap.size w
  have r1 := FBox.new w 26 0 none 0 0
  replace bel := bel.alloc bel.size (.cells #[.int .i64 0, .slice none 0 0] 26)
  go_enter Tryz.func30, Tryz.ntmps30
  go_wp2_with fail
  refine (c_l2Set _ _ _ _ _ (h.below bel) hn).mono ?_
  rintro e w1 ⟨m1, a1, c1, z1, x2, hf1, rfl, ho1, hb⟩
  replace r1 := r1.below hb
  replace bel := bel.trans (hb.mono bel.size)
  have hs1 : w.heap.size + 1 ≤ w1.heap.size := by have := hb.size; simpa using this
  have hzho1 := ho1.range
  (try simp only [World.size_alloc] at hzho1)
  replace ho1 := ho1.base (base' := w.heap.size) (by first | omega | (simp only [World.size_alloc]; omega))
  have v1 := FBox.new w1 26 m1 a1 z1.length c1
  replace r1 := r1.alloc (.cells #[.int .i64 m1, .slice a1 z1.length c1] 26)
  replace ho1 := ho1.alloc (.cells #[.int .i64 m1, .slice a1 z1.length c1] 26)
  replace bel := bel.alloc bel.size (.cells #[.int .i64 m1, .slice a1 z1.length c1] 26)
  have n11 : w1.heap.size ≠ w.heap.size := by omega
  have n11' : w.heap.size ≠ w1.heap.size := by omega
  have k10 := v1.c0
  have k11 := v1.c1
  have p10 := r1.c0
  have p11 := r1.c1
  have p1f := r1.free
  all_goals
    go_wp2_with fail
    refine bodyPost_ret (v := .tuple #[.agg #[.int .i64 m1, .slice a1 z1.length c1], .int .i64 x2]) (by simp [results, Tryz.results30, go_sem, p10, p11, p1f]) rfl ?_
    exact ⟨m1, a1, c1, z1, _, hf1, rfl, (own_setr ho1 (w.heap.size) hzho1 (by omega) _ _), (below_set2 bel (show w.heap.size ≤ w.heap.size by omega) _ _)⟩
set_option maxRecDepth 40000 in
set_option maxHeartbeats 1000000 in
theorem c_DrawGainOf (a : Option Addr) (n c : Nat) (z : List Int) (w : World) (h : Row .u8 w a n z) (hn : n ≤ 1048576) :
    Calls Tryz.prog 16 #[.slice a n c] w (DrFII 3 w) := by
  have bel := Below.refl w.heap.size w
  have r1 := FBox.new w 26 0 none 0 0
  replace bel := bel.alloc bel.size (.cells #[.int .i64 0, .slice none 0 0] 26)
  go_enter Tryz.func16, Tryz.ntmps16
  go_wp2_with fail
  refine (c_l2Set _ _ _ _ _ (h.below bel) hn).mono ?_
  rintro e w1 ⟨m1, a1, c1, z1, x2, hf1, rfl, ho1, hb⟩
  replace r1 := r1.below hb
  replace bel := bel.trans (hb.mono bel.size)
  have hs1 : w.heap.size + 1 ≤ w1.heap.size := by have := hb.size; simpa using this
  have hzho1 := ho1.range
  (try simp only [World.size_alloc] at hzho1)
  replace ho1 := ho1.base (base' := w.heap.size) (by first | omega | (simp only [World.size_alloc]; omega))
  have v1 := FBox.new w1 26 m1 a1 z1.length c1
  replace r1 := r1.alloc (.cells #[.int .i64 m1, .slice a1 z1.length c1] 26)
  replace ho1 := ho1.alloc (.cells #[.int .i64 m1, .slice a1 z1.length c1] 26)
  replace bel := bel.alloc bel.size (.cells #[.int .i64 m1, .slice a1 z1.length c1] 26)
  have n11 : w1.heap.size ≠ w.heap.size := by omega
  have n11' : w.heap.size ≠ w1.heap.size := by omega
  have k10 := v1.c0
  have k11 := v1.c1
  have p10 := r1.c0
  have p11 := r1.c1
  have p1f := r1.free
  obtain ⟨t, ht⟩ : ∃ t, t = n % 6 := ⟨_, rfl⟩
  have ht0 : t < 6 := by rw [ht]; exact Nat.mod_lt _ (by decide)
  have q1 : Int.tmod (n : Int) 6 = (t : Int) := by rw [ht]; exact (Int.ofNat_tmod _ _).symm
  have q2 : (n : Int) % 6 = (t : Int) := by rw [ht]; push_cast; rfl
  have q3 : IntKind.i64.wrap (t : Int) = (t : Int) := IntWalk.i64_in _ (by omega)
  have q5 : (0 : Int) ≤ (t : Int) := by omega
  have q6 : (t : Int) < 6 := by omega
  have HTT := Lib.hid ht
  clear ht
  have q4 : IntKind.i64.wrap ((t : Int) - 1) = (t : Int) - 1 := IntWalk.i64_in _ (by omega)
  all_goals
    go_wp2_with fail
    refine bodyPost_ret (v := .tuple #[.agg #[.int .i64 m1, .slice a1 z1.length c1], .int .i64 x2, .int .i64 ((t : Int) - 1)]) (by simp [results, Tryz.results16, go_sem, p10, p11, p1f]) rfl ?_
    exact ⟨m1, a1, c1, z1, _, _, hf1, rfl, (own_setr ho1 (w.heap.size) hzho1 (by omega) _ _), (below_set2 bel (show w.heap.size ≤ w.heap.size by omega) _ _)⟩
end Go.Proofs.YtfcgijnfiiaepaaGreatDoor
