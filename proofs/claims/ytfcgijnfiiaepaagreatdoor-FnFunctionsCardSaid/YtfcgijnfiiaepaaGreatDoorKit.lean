/- My kit: words on slices of numbers that came in (Row) and that the call owns (OwnI), and the law of 'append(out, x)' in these words. No program is in sight. -/
import Derived.WalkKit
import Derived.KernelRfl
import Derived.Lib.Hide
import Derived.Laws.BytesArg
import Derived.Deep.QuietTactic
import Derived.BigQuiet
import Derived.StillTailTactics
import Derived.Deep.Draws
import Derived.Deep.RegionHeld3
import Derived.Deep.DrawnRows
namespace Go.Proofs.YtfcgijnfiiaepaaGreatDoor
set_option linter.unusedSimpArgs false
set_option linter.unusedVariables false
open Go.RowKit

/-- A slice 'slice a n _' reads as the numbers xs of kind k. -/
def Row (k : IntKind) (w : World) (a : Option Addr) (n : Nat) (xs : List Int) : Prop :=
  xs.length = n ∧ (0 < n → ∃ b off, a = some ⟨b, off, none⟩ ∧ b < w.heap.size ∧ ∀ j, j < n → w.cell? ⟨b, off + j, none⟩ = some (.int k (xs.getD j 0)))

theorem Row.nil (k : IntKind) (w : World) (a : Option Addr) : Row k w a 0 [] := ⟨rfl, fun h => absurd h (by omega)⟩
theorem Row.len {k : IntKind} {w : World} {a : Option Addr} {n : Nat} {xs : List Int} (h : Row k w a n xs) : xs.length = n := h.1
theorem Row.at_ {k : IntKind} {w : World} {a : Option Addr} {n : Nat} {xs : List Int} (h : Row k w a n xs) (hn : 0 < n) :
    ∃ b off, a = some ⟨b, off, none⟩ ∧ b < w.heap.size ∧ ∀ j, j < n → w.cell? ⟨b, off + j, none⟩ = some (.int k (xs.getD j 0)) := h.2 hn
theorem Row.below {k : IntKind} {w w' : World} {a : Option Addr} {n : Nat} {xs : List Int} (h : Row k w a n xs) (hb : Below w.heap.size w w') : Row k w' a n xs :=
  ⟨h.1, fun hn => by
    obtain ⟨b, off, e, hlt, hc⟩ := h.2 hn
    exact ⟨b, off, e, Nat.lt_of_lt_of_le hlt hb.size, fun j hj => (hb.cell (p := ⟨b, off + j, none⟩) hlt).trans (hc j hj)⟩⟩
theorem Row.alloc {k : IntKind} {w : World} {a : Option Addr} {n : Nat} {xs : List Int} (h : Row k w a n xs) (o : Obj) : Row k (w.alloc o) a n xs :=
  h.below ((Below.refl _ _).alloc (Nat.le_refl _) o)
theorem Row.drewN {k : IntKind} {w : World} {a : Option Addr} {n : Nat} {xs : List Int} (h : Row k w a n xs) (m : Nat) : Row k (w.drewN m) a n xs := h
theorem Row.drew {k : IntKind} {w : World} {a : Option Addr} {n : Nat} {xs : List Int} (h : Row k w a n xs) : Row k w.drew a n xs := h

theorem drewN_ex (w : World) (a b : Nat) : ∃ q, (w.drewN a).drewN b = w.drewN q := ⟨a + b, World.drewN_drewN _ _ _⟩
theorem le_alloc {n : Nat} {w : World} (h : n ≤ w.heap.size) (o : Obj) : n ≤ (w.alloc o).heap.size := by rw [World.size_alloc]; omega
theorem below_drewN {B : Nat} {a w : World} (h : Below B a w) (n : Nat) : Below B a (w.drewN n) := ⟨h.os, h.tape, h.output, h.size, h.block⟩

/-- What the program's table says of a slice type of an integer kind. -/
structure IntElem (P : Program) (t e : TypeId) (k : IntKind) (bytes : Nat) : Prop where
  under : P.underlying t = some (.slice e)
  elem : P.underlying e = some (.int k)
  info : (P.info? e).map (fun i => (i.zero, i.size, i.bytes)) = some (some (.int k 0), 1, bytes)
  small : bytes ≤ 8

/-- The slice value v is the call's own from block 'base' on (or nil) and holds the numbers xs. -/
def OwnI (w : World) (base : Nat) (e : TypeId) (k : IntKind) (v : Value) (xs : List Int) : Prop :=
  w.ownsRow base e 1 v xs.length (xs.map (Value.int k))

theorem OwnI.nil (w : World) (base : Nat) (e : TypeId) (k : IntKind) : OwnI w base e k (.slice none 0 0) [] := World.ownsRow_nil _ _ _ _
theorem OwnI.alloc {w : World} {base : Nat} {e : TypeId} {k : IntKind} {v : Value} {xs : List Int} (h : OwnI w base e k v xs) (o : Obj) : OwnI (w.alloc o) base e k v xs := World.ownsRow.alloc h o
theorem OwnI.drew {w : World} {base : Nat} {e : TypeId} {k : IntKind} {v : Value} {xs : List Int} (h : OwnI w base e k v xs) : OwnI w.drew base e k v xs := h
theorem OwnI.drewN {w : World} {base : Nat} {e : TypeId} {k : IntKind} {v : Value} {xs : List Int} (h : OwnI w base e k v xs) (n : Nat) : OwnI (w.drewN n) base e k v xs := h
theorem OwnI.form {w : World} {base : Nat} {e : TypeId} {k : IntKind} {v : Value} {xs : List Int} (h : OwnI w base e k v xs) :
    ∃ a c, v = .slice a xs.length c ∧ Row k w a xs.length xs ∧ (∀ ad, a = some ad → base ≤ ad.block ∧ ad.block < w.heap.size ∧ ad.off = 0 ∧ ad.spot = none) ∧ c ≤ maxLen ∧ xs.length ≤ c ∧
      ∀ g, a = some g → ∀ j, w.frozen? ⟨g.block, j, none⟩ = false := by
  obtain ⟨hl, h2⟩ := h
  rcases h2 with ⟨rfl, h0⟩ | ⟨g, cap, cur, rfl, hb, hg, hnc, hcm, hcs, htake⟩
  · exact ⟨none, 0, by rw [h0], ⟨rfl, fun hn => absurd hn (by omega)⟩, (fun _ h => by cases h), Nat.zero_le _, by omega, (fun _ h => by cases h)⟩
  · refine ⟨some ⟨g, 0, none⟩, cap, rfl, ⟨rfl, fun _ => ⟨g, 0, rfl, (Array.getElem?_eq_some_iff.1 hg).1, fun j hj => ?_⟩⟩, (fun ad h => by cases h; exact ⟨hb, (Array.getElem?_eq_some_iff.1 hg).1, rfl, rfl⟩), hcm, hnc, fun g' h j => ?_⟩
    · have hj' : (xs.map (Value.int k))[j]? = some (.int k (xs.getD j 0)) := by
        simp [List.getD, List.getElem?_eq_getElem hj]
      rw [Nat.zero_add, cell_of_row w g j cur e (0, 0) hg]
      rw [← htake, List.getElem?_take] at hj'
      split at hj'
      · simpa using hj'
      · cases hj'
    · cases h; simp [World.frozen?, hg]
theorem OwnI.grown {w w' : World} {base : Nat} {e : TypeId} {k : IntKind} {v : Value} {xs : List Int} {row : Option Nat} (h : OwnI w base e k v xs) (hg : w.grownBy w' row) (hne : v.ownBlock = none ∨ v.ownBlock ≠ row) : OwnI w' base e k v xs :=
  World.ownsRow.kept h hg hne
theorem OwnI.below {w w' : World} {base : Nat} {e : TypeId} {k : IntKind} {v : Value} {xs : List Int} (h : OwnI w base e k v xs) (hb : Below w.heap.size w w') : OwnI w' base e k v xs := by
  refine World.ownsRow.kept h (row := none) ⟨hb.os, hb.tape, hb.output, hb.size, fun i hi _ => hb.block i hi⟩ ?_
  cases hv : v.ownBlock <;> simp
theorem OwnI.base {w : World} {base base' : Nat} {e : TypeId} {k : IntKind} {v : Value} {xs : List Int} (h : OwnI w base e k v xs) (hb : base' ≤ base) : OwnI w base' e k v xs := by
  obtain ⟨hl, h2⟩ := h
  refine ⟨hl, ?_⟩
  rcases h2 with h2 | ⟨g, cap, cur, hv, hg, r⟩
  · exact .inl h2
  · exact .inr ⟨g, cap, cur, hv, Nat.le_trans hb hg, r⟩

/-- A literal slice that has just been built. -/
theorem OwnI.lit (w : World) (base : Nat) (e : TypeId) (k : IntKind) (us : List Int) (hb : base ≤ w.heap.size) (hl : us.length ≤ 1000000000000) :
    OwnI (w.alloc (.cells (us.map (Value.int k)).toArray e)) base e k (.slice (some ⟨w.heap.size, 0, none⟩) us.length us.length) us := by
  have := World.ownsRow_lit (base := base) (e := e) (size := 1) w (us.map (Value.int k)).toArray us.length hb (by simp only [maxLen]; omega) (by simp)
  unfold OwnI
  simpa using this
theorem OwnI.cell {w : World} {base : Nat} {e : TypeId} {k : IntKind} {g n c : Nat} {xs : List Int} (h : OwnI w base e k (.slice (some ⟨g, 0, none⟩) n c) xs) {j : Nat} (hj : j < xs.length) : w.cell? ⟨g, j, none⟩ = some (.int k (xs.getD j 0)) := by
  have hn : n = xs.length := by obtain ⟨a, c', hv, _⟩ := h.form; cases hv; rfl
  subst hn
  have := World.ownsRow.cellAt h j (by omega)
  rw [this]
  simp [List.getD, List.getElem?_eq_getElem hj]
theorem OwnI.free {w : World} {base : Nat} {e : TypeId} {k : IntKind} {g n c : Nat} {xs : List Int} (h : OwnI w base e k (.slice (some ⟨g, 0, none⟩) n c) xs) (j : Nat) : w.frozen? ⟨g, j, none⟩ = false := by
  have hn : n = xs.length := by obtain ⟨a, c', hv, _⟩ := h.form; cases hv; rfl
  subst hn
  exact World.ownsRow.frozenAt h j
theorem OwnI.lt {w : World} {base : Nat} {e : TypeId} {k : IntKind} {g n c : Nat} {xs : List Int} (h : OwnI w base e k (.slice (some ⟨g, 0, none⟩) n c) xs) : base ≤ g ∧ g < w.heap.size := World.ownsRow.lt h g rfl
theorem OwnI.set {w : World} {base : Nat} {e : TypeId} {k : IntKind} {g n c : Nat} {xs : List Int} (h : OwnI w base e k (.slice (some ⟨g, 0, none⟩) n c) xs) (j : Nat) (u : Int) : OwnI (w.setCell ⟨g, j, none⟩ (.int k u)) base e k (.slice (some ⟨g, 0, none⟩) n c) (xs.set j u) := by
  have hn : n = xs.length := by obtain ⟨a, c', hv, _⟩ := h.form; cases hv; rfl
  subst hn
  have := World.ownsRow.stored h j (.int k u)
  unfold OwnI
  rw [List.length_set, List.map_set]
  exact this.1
theorem below_grown {B : Nat} {a w w' : World} {base : Nat} {e : TypeId} {k : IntKind} {v : Value} {xs : List Int} (h : Below B a w) (hown : OwnI w base e k v xs) (hg : w.grownBy w' v.ownBlock) (hB : B ≤ base) (hs : B ≤ w.heap.size) : Below B a w' :=
  h.grown hg hs (fun j hj => by have := (World.ownsRow.lt hown j hj).1; omega)

/-- A slice of integers in memory that the call made, and the world behind it. -/
def RetOwn (et : TypeId) (k : IntKind) (xs : List Int) (w : World) (e : Ending) (w' : World) : Prop :=
  ∃ a c, e = .returned (.slice a xs.length c) ∧ OwnI w' w.heap.size et k (.slice a xs.length c) xs ∧ Below w.heap.size w w'
theorem OwnI.off {w : World} {base : Nat} {e : TypeId} {k : IntKind} {ad : Addr} {n c : Nat} {xs : List Int} (h : OwnI w base e k (.slice (some ad) n c) xs) : ad.off = 0 ∧ ad.spot = none ∧ base ≤ ad.block ∧ ad.block < w.heap.size := by
  obtain ⟨a', c', hv, _, hb, _⟩ := h.form
  injection hv with e1 e2 e3
  have := hb ad e1.symm
  exact ⟨this.2.2.1, this.2.2.2, this.1, this.2.1⟩
theorem OwnI.row {w : World} {base : Nat} {e : TypeId} {k : IntKind} {a : Option Addr} {n c : Nat} {xs : List Int} (h : OwnI w base e k (.slice a n c) xs) : Row k w a n xs := by
  obtain ⟨a', c', hv, hr, _⟩ := h.form
  cases hv
  exact hr
theorem OwnI.len {w : World} {base : Nat} {e : TypeId} {k : IntKind} {a : Option Addr} {n c : Nat} {xs : List Int} (h : OwnI w base e k (.slice a n c) xs) : xs.length = n := h.row.len
/-- Two owned slices of which the second was made later lie in different blocks. -/
theorem OwnI.ne_ {w w' : World} {base base' : Nat} {e e' : TypeId} {k k' : IntKind} {v v' : Value} {xs ys : List Int} (h : OwnI w base e k v xs) (h' : OwnI w' base' e' k' v' ys) (hlt : w.heap.size ≤ base') : v.ownBlock = none ∨ v.ownBlock ≠ v'.ownBlock := by
  cases hv : v.ownBlock with
  | none => exact .inl rfl
  | some j =>
    right
    intro he
    have h1 := (World.ownsRow.lt h j hv).2
    have h2 := (World.ownsRow.lt h' j he.symm).1
    omega
theorem OwnI.ne_' {w w' : World} {base base' : Nat} {e e' : TypeId} {k k' : IntKind} {v v' : Value} {xs ys : List Int} (h : OwnI w base e k v xs) (h' : OwnI w' base' e' k' v' ys) (hlt : w'.heap.size ≤ base) : v.ownBlock = none ∨ v.ownBlock ≠ v'.ownBlock := by
  cases hv : v.ownBlock with
  | none => exact .inl rfl
  | some j =>
    right
    intro he
    have h1 := (World.ownsRow.lt h j hv).1
    have h2 := (World.ownsRow.lt h' j he.symm).2
    omega

section
variable {P : Program} {t e : TypeId} {k : IntKind} {bytes : Nat}

/-- 'out = append(out, x)', out nil or the call's own: x lies in the block just made. -/
theorem wpList_app1 (E : IntElem P t e k bytes) {ops : Array Oper} {rest : List Oper} {o : Oper} {a : Act} {Q : Exit → Act → World → Prop} (hgd : o.guard = none) (s x : Operand)
    (ho : o.op = .call { callee := .builtin .append, args := #[s, x], argTypes := #[t, t] }) {w : World} {base : Nat} {v : Value} {xs : List Int} {u : Int} {c : Nat}
    (hown : OwnI w base e k v xs) (hs : a.eval s = v) (hx : a.eval x = .slice (some ⟨w.heap.size, 0, none⟩) 1 c) (hlen : xs.length ≤ 1000000000000) (hbase : base ≤ w.heap.size)
    (h : ∀ v' w', OwnI w' base e k v' (xs ++ [u]) → (w.alloc (.cells #[.int k u] e)).grownBy w' v.ownBlock → wpList P ops Q rest (a.put o.dst v') w') :
    wpList P ops Q (o :: rest) a (w.alloc (.cells #[.int k u] e)) := by
  obtain ⟨i, hi, hz, hsz, hby⟩ := info_parts E.info
  have hsm := E.small
  refine wpList_append_own _ hgd s x t ho base e i (.int k 0) 1 bytes E.under hi hz hsz hby rfl (by decide) v xs.length _ hs (World.ownsRow.alloc hown _) ⟨w.heap.size, 0, none⟩ 1 c [.int k u] hx rfl ?_ ?_ ?_ ?_ ?_ ?_
  · intro j y hj
    match j, hj with
    | 0, hj => simp at hj; subst hj; simp [Addr.add]
  · intro y hy; simp at hy; subst hy; rfl
  · simp only [maxLen]; omega
  · have : (xs.length + 1) * bytes ≤ (xs.length + 1) * 8 := Nat.mul_le_mul_left _ hsm
    omega
  · simp; omega
  · intro v' w1 h1 h2 _
    exact h v' w1 (by unfold OwnI; simpa using h1) h2

/-- 'append(out, u, ..)', out nil or the call's own: what is appended lies in a block that is known whole. -/
theorem wp_app (E : IntElem P t e k bytes) {o : Oper} {a : Act} {K : Act → World → Prop} {Q : Exit → Act → World → Prop} (s x : Operand)
    (ho : o.op = .call { callee := .builtin .append, args := #[s, x], argTypes := #[t, t] }) {w : World} {base : Nat} {v : Value} {xs us : List Int} {g n c : Nat}
    (hown : OwnI w base e k v xs) (hblk : w.heap[g]? = some (.cells (us.map (Value.int k)).toArray e (0, 0))) (hs : a.eval s = v) (hx : a.eval x = .slice (some ⟨g, 0, none⟩) n c) (hn : us.length = n)
    (hlen : xs.length + us.length ≤ 1000000000000) (hbase : base ≤ w.heap.size)
    (h : ∀ v' w', OwnI w' base e k v' (xs ++ us) → w.grownBy w' v.ownBlock → K (a.put o.dst v') w') : o.wp P a w K Q := by
  obtain ⟨i, hi, hz, hsz, hby⟩ := info_parts E.info
  have hsm := E.small
  subst hn
  refine wp_append_own _ s x t ho base e i (.int k 0) 1 bytes E.under hi hz hsz hby rfl (by decide) v xs.length _ hs hown ⟨g, 0, none⟩ us.length c (us.map (Value.int k)) hx (by simp) ?_ (ints_oneCell k us) ?_ ?_ hbase ?_
  · intro j y hj
    have hadd : (⟨g, 0, none⟩ : Addr).add j = ⟨g, j, none⟩ := by unfold Addr.add; split <;> simp_all
    rw [hadd, cell_of_row w g j _ e (0, 0) hblk]
    simpa using hj
  · simp only [maxLen]; omega
  · have : (xs.length + us.length) * bytes ≤ (xs.length + us.length) * 8 := Nat.mul_le_mul_left _ hsm
    omega
  · intro v' w1 h1 h2 _
    exact h v' w1 (by unfold OwnI; simpa using h1) h2

theorem step_app (E : IntElem P t e k bytes) {ops : Array Oper} {o : Oper} {a : Act} {K : Act → World → Prop} {Q : Exit → Act → World → Prop} {R : Prop} (hgd : o.guard = none) (s x : Operand)
    (ho : o.op = .call { callee := .builtin .append, args := #[s, x], argTypes := #[t, t] }) {w : World} {base : Nat} {v : Value} {xs us : List Int} {g n c : Nat}
    (hown : OwnI w base e k v xs) (hblk : w.heap[g]? = some (.cells (us.map (Value.int k)).toArray e (0, 0))) (hs : a.eval s = v) (hx : a.eval x = .slice (some ⟨g, 0, none⟩) n c) (hn : us.length = n)
    (hlen : xs.length + us.length ≤ 1000000000000) (hbase : base ≤ w.heap.size)
    (h : ∀ v' w', OwnI w' base e k v' (xs ++ us) → w.grownBy w' v.ownBlock → K (a.put o.dst v') w') :
    if Region.wanted o (yielded ops a.tmps) = true then Oper.wp P o a w K Q else R := by
  have hw : Region.wanted o (yielded ops a.tmps) = true := by simp [Region.wanted, hgd]
  rw [if_pos hw]
  exact wp_app E s x ho hown hblk hs hx hn hlen hbase h

theorem wpList_app (E : IntElem P t e k bytes) {ops : Array Oper} {rest : List Oper} {o : Oper} {a : Act} {Q : Exit → Act → World → Prop} (hgd : o.guard = none) (s x : Operand)
    (ho : o.op = .call { callee := .builtin .append, args := #[s, x], argTypes := #[t, t] }) {w : World} {base : Nat} {v : Value} {xs us : List Int} {g n c : Nat}
    (hown : OwnI w base e k v xs) (hblk : w.heap[g]? = some (.cells (us.map (Value.int k)).toArray e (0, 0))) (hs : a.eval s = v) (hx : a.eval x = .slice (some ⟨g, 0, none⟩) n c) (hn : us.length = n)
    (hlen : xs.length + us.length ≤ 1000000000000) (hbase : base ≤ w.heap.size)
    (h : ∀ v' w', OwnI w' base e k v' (xs ++ us) → w.grownBy w' v.ownBlock → wpList P ops Q rest (a.put o.dst v') w') : wpList P ops Q (o :: rest) a w :=
  wpList_plain hgd fun _ hK => wp_app E s x ho hown hblk hs hx hn hlen hbase fun v' w' h1 h2 => hK _ _ (h v' w' h1 h2)

/-- 'make([]T, 0, n)'. -/
theorem wpList_make0 (E : IntElem P t e k bytes) {ops : Array Oper} {rest : List Oper} {o : Oper} {a : Act} {Q : Exit → Act → World → Prop} (hgd : o.guard = none) (l c : Operand)
    (hop : o.op = Op.makeSlice t l c) {w : World} {base : Nat} {kl kc : IntKind} {C : Int} {n : Nat} (hl : a.eval l = .int kl 0) (hc : a.eval c = .int kc C) (hC : C = (n : Int)) (hn : n ≤ 1000000000000) (hbase : base ≤ w.heap.size)
    (h : ∀ w', OwnI w' base e k (.slice (some ⟨w.heap.size, 0, none⟩) 0 n) [] → w.grownBy w' none → wpList P ops Q rest (a.put o.dst (.slice (some ⟨w.heap.size, 0, none⟩) 0 n)) w') : wpList P ops Q (o :: rest) a w := by
  obtain ⟨i, hi, hz, hsz, hby⟩ := info_parts E.info
  have hsm := E.small
  refine wpList_make_own w hgd l c t hop base e i (.int k 0) 1 E.under hi hz hsz kl kc C n hl hc hC ?_ ?_ hbase fun w' h1 h2 => h w' (by unfold OwnI; simpa using h1) h2
  · have : bytes * n ≤ 8 * n := Nat.mul_le_mul_right _ hsm
    rw [hby]; omega
  · simp only [maxLen]; omega

/-- 'make([]T, n)'. -/
theorem wpList_makeN (E : IntElem P t e k bytes) {ops : Array Oper} {rest : List Oper} {o : Oper} {a : Act} {Q : Exit → Act → World → Prop} (hgd : o.guard = none) (l c : Operand)
    (hop : o.op = Op.makeSlice t l c) {w : World} {base : Nat} {kl kc : IntKind} {L C : Int} {n : Nat} (hl : a.eval l = .int kl L) (hc : a.eval c = .int kc C) (hL : L = (n : Int)) (hC : C = (n : Int)) (hn : n ≤ 1000000000000) (hbase : base ≤ w.heap.size)
    (h : ∀ w', OwnI w' base e k (.slice (some ⟨w.heap.size, 0, none⟩) n n) (List.replicate n 0) → w.grownBy w' none → wpList P ops Q rest (a.put o.dst (.slice (some ⟨w.heap.size, 0, none⟩) n n)) w') : wpList P ops Q (o :: rest) a w := by
  obtain ⟨i, hi, hz, hsz, hby⟩ := info_parts E.info
  have hsm := E.small
  refine wpList_make_full w hgd l c t hop base e i (.int k 0) 1 E.under hi hz hsz kl kc L C n hl hc hL hC ?_ ?_ hbase fun w' h1 h2 => h w' ?_ h2
  · have : bytes * n ≤ 8 * n := Nat.mul_le_mul_right _ hsm
    rw [hby]; omega
  · simp only [maxLen]; omega
  · have e0 : (Value.int k 0).cells = #[.int k 0] := rfl
    rw [Nat.mul_one, e0, toList_madeCells_one] at h1
    unfold OwnI
    rw [List.length_replicate, List.map_replicate]
    exact h1

/-- 'string(b)', b owned. -/
theorem run_string_own (hs : P.underlying t = some (.slice e)) (he : P.underlying e = some (.int .u8)) {w : World} {base : Nat} {v : Value} {xs : List Int} (hown : OwnI w base e .u8 v xs) :
    ∀ dst, P.underlying dst = some .string → (convert t dst v).run P w = .ok (.string (strOfNums xs)) w := by
  intro dst hd
  obtain ⟨a, c, rfl, hrow, hb, _⟩ := hown.form
  cases a with
  | none =>
    have h0 : xs = [] := by
      cases xs with
      | nil => rfl
      | cons x xs => obtain ⟨b, off, h, _⟩ := hrow.at_ (by simp); cases h
    subst h0
    rw [run_convert_bytes_nil w t e hs he _ _ dst hd]
    rfl
  | some ad =>
    obtain ⟨_, hlt, h0, h1⟩ := hb ad rfl
    obtain ⟨b, off, sp⟩ := ad
    simp only at h0 h1
    subst h0 h1
    refine run_convert_bytes_arg w t e hs he b 0 xs.length c xs rfl (fun i hi => ?_) dst hd
    obtain ⟨b', off', hE, _, hc⟩ := hrow.at_ (by omega)
    cases hE
    exact hc i hi
end

theorem i64_or_nat (a b : Nat) (ha : a < 9223372036854775808) (hb : b < 9223372036854775808) : bits .or .i64 (a : Int) (b : Int) = ((a ||| b : Nat) : Int) := by
  have hx : a ||| b < 2 ^ 63 := Nat.or_lt_two_pow (by omega) (by omega)
  have ofI : ∀ a : Nat, a < 9223372036854775808 → (BitVec.ofInt 64 (a : Int)).toNat = a := fun a ha => by
    rw [BitVec.ofInt_natCast, BitVec.toNat_ofNat]; exact Nat.mod_eq_of_lt (by omega)
  show IntKind.i64.wrap ((BitVec.ofInt 64 (a : Int) ||| BitVec.ofInt 64 (b : Int)).toNat : Int) = _
  rw [BitVec.toNat_or, ofI a ha, ofI b hb, IntKind.wrap_i64]
  omega
theorem i64_and_nat (a b : Nat) (ha : a < 9223372036854775808) (hb : b < 9223372036854775808) : bits .and .i64 (a : Int) (b : Int) = ((a &&& b : Nat) : Int) := by
  have hx : a &&& b < 2 ^ 63 := Nat.and_lt_two_pow _ (by omega)
  have ofI : ∀ a : Nat, a < 9223372036854775808 → (BitVec.ofInt 64 (a : Int)).toNat = a := fun a ha => by
    rw [BitVec.ofInt_natCast, BitVec.toNat_ofNat]; exact Nat.mod_eq_of_lt (by omega)
  show IntKind.i64.wrap ((BitVec.ofInt 64 (a : Int) &&& BitVec.ofInt 64 (b : Int)).toNat : Int) = _
  rw [BitVec.toNat_and, ofI a ha, ofI b hb, IntKind.wrap_i64]
  omega
/-- The bytes of a string, as numbers. -/
def numsOf (s : ByteArray) : List Int := s.data.toList.map fun b => (b.toNat : Int)
theorem strOfNums_append (xs ys : List Int) : strOfNums xs ++ strOfNums ys = strOfNums (xs ++ ys) := by
  unfold strOfNums
  rw [ByteArray.mk_append_mk, List.map_append]
theorem numsOf_length (s : ByteArray) : (numsOf s).length = s.size := by simp [numsOf]
theorem numsOf_getElem (s : ByteArray) (k : Nat) (h : k < s.size) : (numsOf s)[k]'(by rw [numsOf_length]; exact h) = (s[k].toNat : Int) := by
  simp [numsOf]; rfl
theorem numsOf_getD (s : ByteArray) (k : Nat) (h : k < s.size) : (numsOf s).getD k 0 = (s[k].toNat : Int) := by
  have := numsOf_getElem s k h
  simp only [List.getD, List.getElem?_eq_getElem (show k < (numsOf s).length by rw [numsOf_length]; exact h), Option.getD_some]
  exact this

end Go.Proofs.YtfcgijnfiiaepaaGreatDoor
