/- More on slices of structs of integers: three fields; what a mark leaves as it was. No program is in sight. -/
import Derived.Test.YthiokplkimdojaaFlat
namespace Go.Proofs.Ythiokplkimdojaa
set_option linter.unusedSimpArgs false
set_option linter.unusedVariables false
open Go.RowKit

theorem below_grownF {B : Nat} {a w w' : World} {base m n : Nat} {e : TypeId} {v : Value} {xs : List Int} (h : Below B a w) (hown : OwnF w base e m v n xs) (hg : w.grownBy w' v.ownBlock) (hB : B ≤ base) (hs : B ≤ w.heap.size) : Below B a w' :=
  h.grown hg hs (fun j hj => by have := (World.ownsRow.lt hown j hj).1; omega)
section
open Go.ChangeShapes Go.WideShapes Go.ChangeAt Go.Joins Go.Deep
variable {H : Type} {enc : TypeId × Value → H} {P : Program} {w : World} {base : Nat} {held : Bool}
theorem inRows3_open {r : Reach} {b0 : Nat} {t e ti : TypeId} {f0 f1 f2 : Field} {v : Value} {d : DataW H} {p : List MemPlace} (ht : P.underlying t = some (.slice e)) (hs : P.underlying e = some (.struct #[f0, f1, f2])) (e0 : f0.type = ti) (e1 : f1.type = ti) (e2 : f2.type = ti)
    (o0 : f0.offset = 0) (o1 : f1.offset = 1) (o2 : f2.offset = 2) (hi : P.underlying ti = some (.int .i64)) (hC : P.cellsOf e = 3) (hc : P.cellsOf ti = 1)
    (hval : Value.okWide P w r b0 t v) (h : DataW.Trod enc P w base (fun _ => true) held t v d p) : ∃ a n c z, v = .slice a n c ∧ InRows 3 w a n c z := by
  obtain ⟨a, n, c, rfl⟩ := okWide_slice ht hval
  obtain ⟨fuel, hf0⟩ := h
  have hf : DataW.trod enc P w base (fun _ => true) held fuel t [.slice a n c] = some (d, p) := hf0
  rcases open_slice ht hf with ⟨hcs, _⟩ | ⟨ad, l, cc, m, n', D, Pl, hcs, _, hl, hm, hz, _, hx⟩
  · simp at hcs
    obtain ⟨rfl, rfl, rfl⟩ := hcs
    exact ⟨none, 0, 0, [], rfl, ⟨by simp, fun h => absurd h (by omega)⟩, Nat.le_refl _, Nat.zero_le _⟩
  · simp at hcs
    obtain ⟨rfl, rfl, rfl⟩ := hcs
    simp at hz
    rw [hC] at hx
    have each0 : ∀ i, i < n → ∃ x0 x1 x2 : Int, w.cell? (ad.add (i * 3)) = some (.int .i64 x0) ∧ w.cell? (ad.add (i * 3 + 1)) = some (.int .i64 x1) ∧ w.cell? (ad.add (i * 3 + 2)) = some (.int .i64 x2) := fun i hi' => by
      obtain ⟨cs', h1, h2⟩ := hx i (by omega)
      obtain ⟨_, hlen, hcell⟩ := World.cells?_some h1
      obtain ⟨xs, k, hk, hxy, _, hxl, hfs⟩ := DataW.trod_struct hs h2
      match xs, hxl, cs', hlen with
      | [y0, y1, y2], _, [v0, v1, v2], _ =>
        have g0 := hfs 0 f0 rfl
        have g1 := hfs 1 f1 rfl
        have g2 := hfs 2 f2 rfl
        simp [o0, o1, o2, e0, e1, e2, hc] at g0 g1 g2
        obtain ⟨x0, hx0, _, _⟩ := DataW.trod_int hi g0
        obtain ⟨x1, hx1, _, _⟩ := DataW.trod_int hi g1
        obtain ⟨x2, hx2, _, _⟩ := DataW.trod_int hi g2
        simp at hx0 hx1 hx2
        have c0 := hcell 0 (by omega)
        have c1 := hcell 1 (by omega)
        have c2 := hcell 2 (by omega)
        rw [add_add] at c0 c1 c2
        simp [hx0, hx1, hx2] at c0 c1 c2
        exact ⟨x0, x1, x2, c0, c1, c2⟩
    obtain ⟨b, off, sp⟩ := ad
    by_cases hn : n = 0
    · subst hn
      exact ⟨_, 0, c, [], rfl, ⟨by simp, fun h => absurd h (by omega)⟩, Nat.zero_le _, hm⟩
    · obtain ⟨_, _, _, h00, _, _⟩ := each0 0 (by omega)
      have hsp : sp = none := by simpa [Addr.add] using World.cell?_spot h00
      subst hsp
      have hlt : b < w.heap.size := World.block_lt_of_cell? w _ h00
      have each : ∀ j, j < n * 3 → ∃ x, w.cell? ⟨b, off + j, none⟩ = some (.int .i64 x) := fun j hj => by
        obtain ⟨x0, x1, x2, c0, c1, c2⟩ := each0 (j / 3) (by omega)
        rw [Addr.add_lit] at c0 c1 c2
        have h3 : j % 3 = 0 ∨ j % 3 = 1 ∨ j % 3 = 2 := by omega
        rcases h3 with h3 | h3 | h3
        · refine ⟨x0, ?_⟩
          rw [show off + j = off + j / 3 * 3 by omega, c0]
        · refine ⟨x1, ?_⟩
          rw [show off + j = off + (j / 3 * 3 + 1) by omega, c1]
        · refine ⟨x2, ?_⟩
          rw [show off + j = off + (j / 3 * 3 + 2) by omega, c2]
      obtain ⟨z, hzl, hzc⟩ := row_choose (n * 3) each
      exact ⟨_, n, c, z, rfl, ⟨hzl, fun _ => ⟨b, off, rfl, hlt, hzc⟩⟩, hl, hm⟩
end
end Go.Proofs.Ythiokplkimdojaa
