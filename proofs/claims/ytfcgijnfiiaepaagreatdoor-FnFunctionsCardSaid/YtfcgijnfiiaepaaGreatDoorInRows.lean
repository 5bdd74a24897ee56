/- Arguments as the row's reading hands them: slices of integers, a struct of an integer and such a slice. No program is in sight. -/
import Derived.Test.YtfcgijnfiiaepaaGreatDoorKit
import Derived.ProofKit
import Derived.OpenShut
import Derived.Lib.SmallJoins
import Derived.Deep.Slices
namespace Go.Proofs.YtfcgijnfiiaepaaGreatDoor
set_option linter.unusedSimpArgs false
set_option linter.unusedVariables false
open Go.ChangeShapes Go.WideShapes Go.ChangeAt Go.RowKit Go.Joins Go.Deep

/-- A slice that came in: the numbers that it reads as, each fitting its kind. -/
def InRow (k : IntKind) (w : World) (a : Option Addr) (n c : Nat) (z : List Int) : Prop :=
  Row k w a n z ∧ n ≤ c ∧ c ≤ maxLen ∧ ∀ x ∈ z, (Lit.int k x).wf = true


section
variable {H : Type} {enc : TypeId × Value → H} {P : Program} {w : World} {base : Nat} {held : Bool}

theorem inRow_of {t e : TypeId} {k : IntKind} {fuel : Nat} {a0 : Option Addr} {n0 c0 : Nat} {x : DataW H × List MemPlace} (ht : P.underlying t = some (.slice e)) (he : P.underlying e = some (.int k)) (hc : P.cellsOf e = 1)
    (h : DataW.trod enc P w base (fun _ => true) held fuel t [.slice a0 n0 c0] = some x) : ∃ z, InRow k w a0 n0 c0 z := by
  rcases open_ints ht he hc h with ⟨hcs, _⟩ | ⟨ad, l, c, zs, hcs, _, hl, hm, hz, _, hcell, hwz⟩
  · simp at hcs
    obtain ⟨rfl, rfl, rfl⟩ := hcs
    exact ⟨[], Row.nil _ _ _, Nat.le_refl _, Nat.zero_le _, fun _ h => by simp at h⟩
  · simp at hcs
    obtain ⟨rfl, rfl, rfl⟩ := hcs
    simp at hz
    have htl : (zs.take n0).length = n0 := by rw [List.length_take]; omega
    refine ⟨zs.take n0, ⟨htl, fun hn => ?_⟩, hl, hm, fun y hy => hwz y (List.mem_of_mem_take hy)⟩
    obtain ⟨b, off, sp⟩ := ad
    have h0 := hcell 0 (by omega)
    have hsp : sp = none := by simpa [Addr.add] using World.cell?_spot h0
    subst hsp
    refine ⟨b, off, rfl, World.block_lt_of_cell? w _ h0, fun j hj => ?_⟩
    have hj' := hcell j (by omega)
    rw [Addr.add_lit] at hj'
    rw [hj']
    simp [List.getD, List.getElem?_take, hj]

theorem inRow_open {r : Reach} {b0 : Nat} {t e : TypeId} {k : IntKind} {v : Value} {d : DataW H} {p : List MemPlace} (ht : P.underlying t = some (.slice e)) (he : P.underlying e = some (.int k)) (hc : P.cellsOf e = 1)
    (hval : Value.okWide P w r b0 t v) (h : DataW.Trod enc P w base (fun _ => true) held t v d p) : ∃ a n c z, v = .slice a n c ∧ InRow k w a n c z := by
  obtain ⟨a, n, c, rfl⟩ := okWide_slice ht hval
  obtain ⟨fuel, hf⟩ := h
  obtain ⟨z, hz⟩ := inRow_of ht he hc (a0 := a) (n0 := n) (c0 := c) hf
  exact ⟨a, n, c, z, rfl, hz⟩

theorem inFun_open {r : Reach} {b0 : Nat} {t ts ti te : TypeId} {f0 f1 : Field} {v : Value} {d : DataW H} {p : List MemPlace} (hs : P.underlying t = some (.struct #[f0, f1])) (hone : oneCellFields P #[f0, f1] = true) (hC : P.cellsOf t = 2)
    (e0 : f0.type = ti) (e1 : f1.type = ts) (hi : P.underlying ti = some (.int .i64)) (hsl : P.underlying ts = some (.slice te)) (he : P.underlying te = some (.int .i64)) (hc : P.cellsOf te = 1)
    (hval : Value.okWide P w r b0 t v) (h : DataW.Trod enc P w base (fun _ => true) held t v d p) :
    ∃ e a n c z, v = .agg #[.int .i64 e, .slice a n c] ∧ (Lit.int .i64 e).wf = true ∧ InRow .i64 w a n c z := by
  obtain ⟨v0, v1, y0, y1, m, rfl, _, _, h0, h1⟩ := open_agg2 hs hone hC hval h
  subst e0 e1
  obtain ⟨e, he0, _, hw⟩ := DataW.trod_int hi h0
  simp at he0
  subst he0
  rcases DataW.trod_slice hsl h1 with ⟨hcs, _⟩ | ⟨a, len, cap, elems, rest, n', _, hcs, _⟩
  · simp at hcs
    subst hcs
    obtain ⟨z, hz⟩ := inRow_of hsl he hc h1
    exact ⟨e, _, _, _, z, rfl, hw, hz⟩
  · simp at hcs
    subst hcs
    obtain ⟨z, hz⟩ := inRow_of hsl he hc h1
    exact ⟨e, _, _, _, z, rfl, hw, hz⟩
end

end Go.Proofs.YtfcgijnfiiaepaaGreatDoor
