/- Slices of strings that the call owns: make, append. No program in sight. -/
import Derived.Test.YtfcgijnfiiaepaaGreatDoorKit
namespace Go.Proofs.YtfcgijnfiiaepaaGreatDoor
set_option linter.unusedSimpArgs false
set_option linter.unusedVariables false
open Go.RowKit

/-- What the program's table says of a slice of strings. -/
structure StrElem (P : Program) (t e : TypeId) (bytes : Nat) : Prop where
  under : P.underlying t = some (.slice e)
  elem : P.underlying e = some .string
  info : (P.info? e).map (fun i => (i.zero, i.size, i.bytes)) = some (some (.string ⟨#[]⟩), 1, bytes)
  small : bytes ≤ 16
/-- The slice value v is the call's own from block 'base' on (or nil) and holds the strings xs. -/
def OwnS (w : World) (base : Nat) (e : TypeId) (v : Value) (xs : List ByteArray) : Prop := w.ownsRow base e 1 v xs.length (xs.map Value.string)
theorem OwnS.nil (w : World) (base : Nat) (e : TypeId) : OwnS w base e (.slice none 0 0) [] := World.ownsRow_nil _ _ _ _
theorem OwnS.alloc {w : World} {base : Nat} {e : TypeId} {v : Value} {xs : List ByteArray} (h : OwnS w base e v xs) (o : Obj) : OwnS (w.alloc o) base e v xs := World.ownsRow.alloc h o
theorem OwnS.drew {w : World} {base : Nat} {e : TypeId} {v : Value} {xs : List ByteArray} (h : OwnS w base e v xs) : OwnS w.drew base e v xs := h
theorem OwnS.grown {w w' : World} {base : Nat} {e : TypeId} {v : Value} {xs : List ByteArray} {row : Option Nat} (h : OwnS w base e v xs) (hg : w.grownBy w' row) (hne : v.ownBlock = none ∨ v.ownBlock ≠ row) : OwnS w' base e v xs := World.ownsRow.kept h hg hne
theorem OwnS.below {w w' : World} {base : Nat} {e : TypeId} {v : Value} {xs : List ByteArray} (h : OwnS w base e v xs) (hb : Below w.heap.size w w') : OwnS w' base e v xs := by
  refine World.ownsRow.kept h (row := none) ⟨hb.os, hb.tape, hb.output, hb.size, fun i hi _ => hb.block i hi⟩ ?_
  cases hv : v.ownBlock <;> simp
theorem below_grownS {B : Nat} {a w w' : World} {base : Nat} {e : TypeId} {v : Value} {xs : List ByteArray} (h : Below B a w) (hown : OwnS w base e v xs) (hg : w.grownBy w' v.ownBlock) (hB : B ≤ base) (hs : B ≤ w.heap.size) : Below B a w' :=
  h.grown hg hs (fun j hj => by have := (World.ownsRow.lt hown j hj).1; omega)
/-- Its form: nil and empty, or a block whose cells hold the strings. -/
theorem OwnS.form {w : World} {base : Nat} {e : TypeId} {v : Value} {xs : List ByteArray} (h : OwnS w base e v xs) :
    (v = .slice none 0 0 ∧ xs = []) ∨ ∃ g c, v = .slice (some ⟨g, 0, none⟩) xs.length c ∧ base ≤ g ∧ g < w.heap.size ∧ xs.length ≤ c ∧ ∀ j x, xs[j]? = some x → w.cell? ⟨g, 0 + j, none⟩ = some (.string x) := by
  obtain ⟨hl, h2⟩ := h
  rcases h2 with ⟨rfl, h0⟩ | ⟨g, cap, cur, rfl, hb, hg, hnc, hcm, hcs, htake⟩
  · exact .inl ⟨rfl, List.eq_nil_of_length_eq_zero h0⟩
  · refine .inr ⟨g, cap, rfl, hb, (Array.getElem?_eq_some_iff.1 hg).1, hnc, fun j x hj => ?_⟩
    have hlt : j < xs.length := (List.getElem?_eq_some_iff.1 hj).1
    have hj' : (xs.map Value.string)[j]? = some (.string x) := by rw [List.getElem?_map, hj]; rfl
    rw [Nat.zero_add, cell_of_row w g j cur e (0, 0) hg]
    rw [← htake, List.getElem?_take] at hj'
    split at hj'
    · simpa using hj'
    · cases hj'
section
variable {P : Program} {t e : TypeId} {bytes : Nat}
theorem strs_oneCell (us : List ByteArray) : ∀ y ∈ us.map Value.string, y.oneCell' = true := by
  intro y hy
  obtain ⟨x, _, rfl⟩ := List.mem_map.1 hy
  rfl
theorem wp_appS (E : StrElem P t e bytes) {o : Oper} {a : Act} {K : Act → World → Prop} {Q : Exit → Act → World → Prop} (s x : Operand)
    (ho : o.op = .call { callee := .builtin .append, args := #[s, x], argTypes := #[t, t] }) {w : World} {base : Nat} {v : Value} {xs us : List ByteArray} {g n c : Nat}
    (hown : OwnS w base e v xs) (hblk : w.heap[g]? = some (.cells (us.map Value.string).toArray e (0, 0))) (hs : a.eval s = v) (hx : a.eval x = .slice (some ⟨g, 0, none⟩) n c) (hn : us.length = n)
    (hlen : xs.length + us.length ≤ 1000000000000) (hbase : base ≤ w.heap.size)
    (h : ∀ v' w', OwnS w' base e v' (xs ++ us) → w.grownBy w' v.ownBlock → K (a.put o.dst v') w') : o.wp P a w K Q := by
  obtain ⟨i, hi, hz, hsz, hby⟩ := info_parts E.info
  have hsm := E.small
  subst hn
  refine wp_append_own _ s x t ho base e i (.string ⟨#[]⟩) 1 bytes E.under hi hz hsz hby rfl (by decide) v xs.length _ hs hown ⟨g, 0, none⟩ us.length c (us.map Value.string) hx (by simp) ?_ (strs_oneCell us) ?_ ?_ hbase ?_
  · intro j y hj
    have hadd : (⟨g, 0, none⟩ : Addr).add j = ⟨g, j, none⟩ := by unfold Addr.add; split <;> simp_all
    rw [hadd, cell_of_row w g j _ e (0, 0) hblk]
    simpa using hj
  · simp only [maxLen]; omega
  · have : (xs.length + us.length) * bytes ≤ (xs.length + us.length) * 16 := Nat.mul_le_mul_left _ hsm
    omega
  · intro v' w1 h1 h2 _
    exact h v' w1 (by unfold OwnS; simpa using h1) h2
theorem wpList_appS (E : StrElem P t e bytes) {ops : Array Oper} {rest : List Oper} {o : Oper} {a : Act} {Q : Exit → Act → World → Prop} (hgd : o.guard = none) (s x : Operand)
    (ho : o.op = .call { callee := .builtin .append, args := #[s, x], argTypes := #[t, t] }) {w : World} {base : Nat} {v : Value} {xs us : List ByteArray} {g n c : Nat}
    (hown : OwnS w base e v xs) (hblk : w.heap[g]? = some (.cells (us.map Value.string).toArray e (0, 0))) (hs : a.eval s = v) (hx : a.eval x = .slice (some ⟨g, 0, none⟩) n c) (hn : us.length = n)
    (hlen : xs.length + us.length ≤ 1000000000000) (hbase : base ≤ w.heap.size)
    (h : ∀ v' w', OwnS w' base e v' (xs ++ us) → w.grownBy w' v.ownBlock → wpList P ops Q rest (a.put o.dst v') w') : wpList P ops Q (o :: rest) a w :=
  wpList_plain hgd fun _ hK => wp_appS E s x ho hown hblk hs hx hn hlen hbase fun v' w' h1 h2 => hK _ _ (h v' w' h1 h2)
theorem wpList_make0S (E : StrElem P t e bytes) {ops : Array Oper} {rest : List Oper} {o : Oper} {a : Act} {Q : Exit → Act → World → Prop} (hgd : o.guard = none) (l c : Operand)
    (hop : o.op = Op.makeSlice t l c) {w : World} {base : Nat} {kl kc : IntKind} {C : Int} {n : Nat} (hl : a.eval l = .int kl 0) (hc : a.eval c = .int kc C) (hC : C = (n : Int)) (hn : n ≤ 1000000000000) (hbase : base ≤ w.heap.size)
    (h : ∀ w', OwnS w' base e (.slice (some ⟨w.heap.size, 0, none⟩) 0 n) [] → w.grownBy w' none → wpList P ops Q rest (a.put o.dst (.slice (some ⟨w.heap.size, 0, none⟩) 0 n)) w') : wpList P ops Q (o :: rest) a w := by
  obtain ⟨i, hi, hz, hsz, hby⟩ := info_parts E.info
  have hsm := E.small
  refine wpList_make_own w hgd l c t hop base e i (.string ⟨#[]⟩) 1 E.under hi hz hsz kl kc C n hl hc hC ?_ ?_ hbase fun w' h1 h2 => h w' (by unfold OwnS; simpa using h1) h2
  · have : bytes * n ≤ 16 * n := Nat.mul_le_mul_right _ hsm
    rw [hby]; omega
  · simp only [maxLen]; omega
end
end Go.Proofs.YtfcgijnfiiaepaaGreatDoor
