/- Slices of structs whose fields are integers: they read as one row of integers. No program is in sight. -/
import Derived.Test.YthiokplkimdojaaInRows
import Derived.Test.YthiokplkimdojaaFun
import Derived.Deep.SlicePairs
namespace Go.Proofs.Ythiokplkimdojaa
set_option linter.unusedSimpArgs false
set_option linter.unusedVariables false
open Go.RowKit

/-- The slice v of n structs of m integers is the call's own from block 'base' on and holds the numbers xs, struct by struct. -/
def OwnF (w : World) (base : Nat) (e : TypeId) (m : Nat) (v : Value) (n : Nat) (xs : List Int) : Prop := w.ownsRow base e m v n (xs.map (Value.int .i64))
theorem grown_trans {w w1 w2 : World} {row : Option Nat} (h : w.grownBy w1 row) (h2 : w1.grownBy w2 row) : w.grownBy w2 row :=
  ⟨h2.os.trans h.os, h2.tape.trans h.tape, h2.output.trans h.output, Nat.le_trans h.size h2.size, fun k hk hne => (h2.block k (Nat.lt_of_lt_of_le hk h.size) hne).trans (h.block k hk hne)⟩
section
variable {w w' : World} {base m n : Nat} {e : TypeId} {v : Value} {xs : List Int}
theorem OwnF.alloc (h : OwnF w base e m v n xs) (o : Obj) : OwnF (w.alloc o) base e m v n xs := World.ownsRow.alloc h o
theorem OwnF.drew (h : OwnF w base e m v n xs) : OwnF w.drew base e m v n xs := h
theorem OwnF.grown {row : Option Nat} (h : OwnF w base e m v n xs) (hg : w.grownBy w' row) (hne : v.ownBlock = none ∨ v.ownBlock ≠ row) : OwnF w' base e m v n xs := World.ownsRow.kept h hg hne
theorem OwnF.below (h : OwnF w base e m v n xs) (hb : Below w.heap.size w w') : OwnF w' base e m v n xs := by
  refine World.ownsRow.kept h (row := none) ⟨hb.os, hb.tape, hb.output, hb.size, fun i hi _ => hb.block i hi⟩ ?_
  cases hv : v.ownBlock <;> simp
theorem OwnF.range (h : OwnF w base e m v n xs) : ∀ j, v.ownBlock = some j → base ≤ j ∧ j < w.heap.size := fun j hj => World.ownsRow.lt h j hj
theorem OwnF.setFar (h : OwnF w base e m v n xs) (p : Addr) (u : Value) (hne : v.ownBlock = none ∨ v.ownBlock ≠ some p.block) : OwnF (w.setCell p u) base e m v n xs := h.grown (grownBy_set w p u) hne
theorem OwnF.length (h : OwnF w base e m v n xs) : xs.length = n * m := by have := h.1; simpa using this
theorem OwnF.lt {g c : Nat} (h : OwnF w base e m (.slice (some ⟨g, 0, none⟩) n c) n xs) : base ≤ g ∧ g < w.heap.size := World.ownsRow.lt h g rfl
theorem OwnF.cell {g c : Nat} (h : OwnF w base e m (.slice (some ⟨g, 0, none⟩) n c) n xs) {j : Nat} (hj : j < n * m) : w.cell? ⟨g, j, none⟩ = some (.int .i64 (xs.getD j 0)) := by
  have hl := h.length
  have := World.ownsRow.cellAt h j hj
  rw [this]
  simp [List.getD, List.getElem?_eq_getElem (show j < xs.length by omega)]
theorem OwnF.free {g c : Nat} (h : OwnF w base e m (.slice (some ⟨g, 0, none⟩) n c) n xs) (j : Nat) : w.frozen? ⟨g, j, none⟩ = false := World.ownsRow.frozenAt h j
theorem OwnF.set {g c : Nat} (h : OwnF w base e m (.slice (some ⟨g, 0, none⟩) n c) n xs) (j : Nat) (u : Int) : OwnF (w.setCell ⟨g, j, none⟩ (.int .i64 u)) base e m (.slice (some ⟨g, 0, none⟩) n c) n (xs.set j u) := by
  have := World.ownsRow.stored h j (.int .i64 u)
  unfold OwnF
  rw [List.map_set]
  exact this.1
theorem OwnF.row {g c : Nat} (h : OwnF w base e m (.slice (some ⟨g, 0, none⟩) n c) n xs) : Row .i64 w (some ⟨g, 0, none⟩) (n * m) xs :=
  ⟨h.length, fun _ => ⟨g, 0, rfl, h.lt.2, fun j hj => by rw [Nat.zero_add]; exact h.cell hj⟩⟩
end
/-- What the program's table says of a slice type of structs of m integers. -/
structure FlatElem (P : Program) (t e : TypeId) (m bytes : Nat) : Prop where
  under : P.underlying t = some (.slice e)
  info : (P.info? e).map (fun i => (i.zero, i.size, i.bytes)) = some (some (.agg (Array.replicate m (.int .i64 0))), m, bytes)
  small : bytes ≤ 1000
  pos : 0 < m
theorem madeCells_same (z : Array Value) (v : Value) (h0 : 0 < z.size) (h : ∀ i, i < z.size → z[i]! = v) (N : Nat) : (madeCells z N).toList = List.replicate N v := by
  apply List.ext_getElem
  · simp [madeCells]
  · intro i h1 h2
    simp only [madeCells, Array.getElem_toList, Array.getElem_map, Array.getElem_range, List.getElem_replicate]
    exact h _ (Nat.mod_lt _ h0)
theorem wpList_makeF {P : Program} {t e : TypeId} {m bytes : Nat} (E : FlatElem P t e m bytes) {ops : Array Oper} {rest : List Oper} {o : Oper} {a : Act} {Q : Exit → Act → World → Prop} (hgd : o.guard = none) (l c : Operand)
    (hop : o.op = Op.makeSlice t l c) {w : World} {base : Nat} {kl kc : IntKind} {L C : Int} {n : Nat} (hl : a.eval l = .int kl L) (hc : a.eval c = .int kc C) (hL : L = (n : Int)) (hC : C = (n : Int)) (hn : n ≤ 1048576) (hbase : base ≤ w.heap.size)
    (h : ∀ w', OwnF w' base e m (.slice (some ⟨w.heap.size, 0, none⟩) n n) n (List.replicate (n * m) 0) → w.grownBy w' none → wpList P ops Q rest (a.put o.dst (.slice (some ⟨w.heap.size, 0, none⟩) n n)) w') : wpList P ops Q (o :: rest) a w := by
  obtain ⟨i, hi, hz, hsz, hby⟩ := info_parts E.info
  have hsm := E.small
  refine wpList_make_full w hgd l c t hop base e i _ m E.under hi hz hsz kl kc L C n hl hc hL hC ?_ ?_ hbase fun w' h1 h2 => h w' ?_ h2
  · have : bytes * n ≤ 1000 * n := Nat.mul_le_mul_right _ hsm
    rw [hby]; omega
  · simp only [maxLen]; omega
  · unfold OwnF
    rw [List.map_replicate]
    rw [show (Value.agg (Array.replicate m (.int .i64 0))).cells = Array.replicate m (.int .i64 0) from rfl, madeCells_same _ (.int .i64 0) (by simpa using E.pos) (fun j hj => by
      have hj' : j < m := by simpa using hj
      simp [Array.getElem!_eq_getD, hj'])] at h1
    exact h1
/-- The first k numbers of xs, the rest of N zero. -/
def mixL (xs : List Int) (N k : Nat) : List Int := (List.range N).map fun j => if j < k then xs.getD j 0 else 0
theorem mixL_length (xs : List Int) (N k : Nat) : (mixL xs N k).length = N := by simp [mixL]
theorem mixL_zero (xs : List Int) (N : Nat) : mixL xs N 0 = List.replicate N 0 := by
  apply List.ext_getElem
  · simp [mixL]
  · intro i h1 h2
    simp [mixL]
theorem mixL_all {xs : List Int} {N : Nat} (h : xs.length = N) : mixL xs N N = xs := by
  apply List.ext_getElem
  · simp [mixL, h]
  · intro i h1 h2
    simp [mixL] at h1 ⊢
    simp [h1, List.getElem?_eq_getElem h2]
theorem mixL_set (xs : List Int) (N k : Nat) : (mixL xs N k).set k (xs.getD k 0) = mixL xs N (k + 1) := by
  apply List.ext_getElem
  · simp [mixL]
  · intro i h1 h2
    simp only [List.getElem_set, mixL, List.getElem_map, List.getElem_range]
    by_cases hik : k = i
    · subst hik; simp
    · rw [if_neg hik]
      by_cases h3 : i < k
      · rw [if_pos h3, if_pos (by omega)]
      · rw [if_neg h3, if_neg (by omega)]
/-- A slice of structs that came in. -/
def InRows (m : Nat) (w : World) (a : Option Addr) (n c : Nat) (z : List Int) : Prop := Row .i64 w a (n * m) z ∧ n ≤ c ∧ c ≤ maxLen
theorem row_choose {w : World} {b off : Nat} : ∀ N, (∀ j, j < N → ∃ x, w.cell? ⟨b, off + j, none⟩ = some (.int .i64 x)) → ∃ z : List Int, z.length = N ∧ ∀ j, j < N → w.cell? ⟨b, off + j, none⟩ = some (.int .i64 (z.getD j 0))
  | 0, _ => ⟨[], rfl, fun j hj => by omega⟩
  | N + 1, h => by
    obtain ⟨z, hz, hc⟩ := row_choose N fun j hj => h j (by omega)
    obtain ⟨x, hx⟩ := h N (by omega)
    refine ⟨z ++ [x], by simp [hz], fun j hj => ?_⟩
    rcases Nat.lt_or_eq_of_le (Nat.le_of_lt_succ hj) with hlt | rfl
    · rw [hc j hlt]
      simp [List.getD, List.getElem?_append_left (show j < z.length by omega)]
    · rw [hx]
      simp [List.getD, ← hz]
section
open Go.ChangeShapes Go.WideShapes Go.ChangeAt Go.Joins Go.Deep
variable {H : Type} {enc : TypeId × Value → H} {P : Program} {w : World} {base : Nat} {held : Bool}
theorem inRows2_open {r : Reach} {b0 : Nat} {t e ti : TypeId} {f0 f1 : Field} {v : Value} {d : DataW H} {p : List MemPlace} (ht : P.underlying t = some (.slice e)) (hs : P.underlying e = some (.struct #[f0, f1])) (e0 : f0.type = ti) (e1 : f1.type = ti)
    (o0 : f0.offset = 0) (o1 : f1.offset = 1) (hi : P.underlying ti = some (.int .i64)) (hC : P.cellsOf e = 2) (hc : P.cellsOf ti = 1)
    (hval : Value.okWide P w r b0 t v) (h : DataW.Trod enc P w base (fun _ => true) held t v d p) : ∃ a n c z, v = .slice a n c ∧ InRows 2 w a n c z := by
  obtain ⟨a, n, c, rfl⟩ := okWide_slice ht hval
  obtain ⟨fuel, hf0⟩ := h
  have hf : DataW.trod enc P w base (fun _ => true) held fuel t [.slice a n c] = some (d, p) := hf0
  rcases open_slice_pairs ht hs hC o0 o1 (by rw [e0, hc]) (by rw [e1, hc]) hf with ⟨hcs, _⟩ | ⟨ad, l, cc, m, n', V0, V1, D0, D1, P0, P1, hcs, _, hl, hm, hz, _, hx⟩
  · simp at hcs
    obtain ⟨rfl, rfl, rfl⟩ := hcs
    exact ⟨none, 0, 0, [], rfl, ⟨by simp, fun h => absurd h (by omega)⟩, Nat.le_refl _, Nat.zero_le _⟩
  · simp at hcs
    obtain ⟨rfl, rfl, rfl⟩ := hcs
    simp at hz
    obtain ⟨b, off, sp⟩ := ad
    by_cases hn : n = 0
    · subst hn
      exact ⟨_, 0, c, [], rfl, ⟨by simp, fun h => absurd h (by omega)⟩, Nat.zero_le _, hm⟩
    · have h00 := (hx 0 (by omega)).1
      have hsp : sp = none := by simpa [Addr.add] using World.cell?_spot h00
      subst hsp
      have hlt : b < w.heap.size := World.block_lt_of_cell? w _ h00
      have each : ∀ j, j < n * 2 → ∃ x, w.cell? ⟨b, off + j, none⟩ = some (.int .i64 x) := fun j hj => by
        obtain ⟨c0, c1, t0, t1⟩ := hx (j / 2) (by omega)
        rw [e0] at t0
        rw [e1] at t1
        obtain ⟨x0, hx0, _, _⟩ := DataW.trod_int hi t0
        obtain ⟨x1, hx1, _, _⟩ := DataW.trod_int hi t1
        simp at hx0 hx1
        rw [Addr.add_lit] at c0 c1
        rcases Nat.mod_two_eq_zero_or_one j with h2 | h2
        · refine ⟨x0, ?_⟩
          rw [show j = j / 2 * 2 by omega, c0, hx0]
        · refine ⟨x1, ?_⟩
          rw [show off + j = off + (j / 2 * 2 + 1) by omega, c1, hx1]
      obtain ⟨z, hzl, hzc⟩ := row_choose (n * 2) each
      exact ⟨_, n, c, z, rfl, ⟨hzl, fun _ => ⟨b, off, rfl, hlt, hzc⟩⟩, hl, hm⟩
end
end Go.Proofs.Ythiokplkimdojaa
