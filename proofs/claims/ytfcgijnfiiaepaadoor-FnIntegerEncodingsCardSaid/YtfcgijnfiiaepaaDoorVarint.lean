/- Contracts of EncodeVarint, DecodeVarint of both packages. -/
import Derived.Test.YtfcgijnfiiaepaaDoorSmall
import Derived.Test.YtfcgijnfiiaepaaDoorKit
import Derived.WalkLawsBesides
namespace Go.Proofs.YtfcgijnfiiaepaaDoor
set_option linter.unusedSimpArgs false
set_option linter.unusedVariables false
open Go.RowKit

theorem EBv : IntElem Tryd.prog 30 5 .u8 1 := ⟨Tryd.underlying30, Tryd.underlying5, by kernel_rfl, by decide⟩

/-- The bytes of the varint of n, with fuel. -/
def vlF : Nat → Int → List Int
  | 0, n => [n]
  | f + 1, n => if 128 ≤ n then (128 + n % 128) :: vlF f (n / 128) else [n]
theorem vlF_small (f : Nat) (n : Int) (h : n < 128) : vlF f n = [n] := by
  cases f with
  | zero => rfl
  | succ f => simp [vlF]; omega
theorem vlF_big (f : Nat) (n : Int) (h : 128 ≤ n) : vlF (f + 1) n = (128 + n % 128) :: vlF f (n / 128) := by simp [vlF, h]
/-- What EncodeVarint returns. -/
def encV (n : Int) : ByteArray := if inB n 0 562949953421311 then strOfNums (vlF 6 n) else ⟨#[]⟩

/-- The loop's relation: what has been put out, the number still to be put out, its fuel. -/
def VRel (n0 : Int) (xs : List Int) (n : Int) : Prop := ∃ f : Nat, 0 ≤ n ∧ n < 128 ^ (f + 1) ∧ f + xs.length ≤ 6 ∧ xs ++ vlF f n = vlF 6 n0
theorem VRel.start (n0 : Int) (h0 : 0 ≤ n0) (h1 : n0 ≤ 562949953421311) : VRel n0 [] n0 := ⟨6, h0, by omega, by simp, rfl⟩
theorem VRel.pos {n0 n : Int} {xs : List Int} (h : VRel n0 xs n) : 0 ≤ n ∧ n < 562949953421312 ∧ xs.length ≤ 6 := by
  obtain ⟨f, h0, h1, h2, _⟩ := h
  refine ⟨h0, ?_, by omega⟩
  have hf : f = 0 ∨ f = 1 ∨ f = 2 ∨ f = 3 ∨ f = 4 ∨ f = 5 ∨ f = 6 := by omega
  rcases hf with rfl | rfl | rfl | rfl | rfl | rfl | rfl <;> exact Int.lt_of_lt_of_le h1 (by decide)
theorem VRel.step {n0 n : Int} {xs : List Int} (h : VRel n0 xs n) (hn : 128 ≤ n) : VRel n0 (xs ++ [128 + n % 128]) (n / 128) := by
  obtain ⟨f, h0, h1, h2, h3⟩ := h
  cases f with
  | zero => simp at h1; omega
  | succ f =>
    rw [vlF_big f n hn] at h3
    refine ⟨f, by omega, ?_, by simp; omega, by simpa using h3⟩
    rw [Int.pow_succ] at h1
    omega
theorem VRel.done {n0 n : Int} {xs : List Int} (h : VRel n0 xs n) (hn : n < 128) : xs ++ [n] = vlF 6 n0 := by
  obtain ⟨f, h0, h1, h2, h3⟩ := h
  rw [vlF_small f n hn] at h3
  exact h3

set_option maxHeartbeats 400000 in
theorem c_impl_EncodeVarint (n0 : Int) (w : World) :
    Calls Tryd.prog 13 #[.int .i64 n0] w fun e w' => e = .returned (.string (encV n0)) ∧ Below w.heap.size w w' := by
  cases hin : inB n0 0 562949953421311 with
  | false =>
    have hd : encV n0 = ⟨#[]⟩ := by simp [encV, hin]
    rw [hd]
    clear hd
    rcases inB_false.1 hin with h | h
    all_goals
      clear hin
      go_enter Tryd.func13, Tryd.ntmps13
      go_wp2
      go_ret
      exact ⟨rfl, Below.refl _ _⟩
  | true =>
    have hb0 := inB_true.1 hin
    have hd : encV n0 = strOfNums (vlF 6 n0) := by simp [encV, hin]
    rw [hd]
    clear hd hin
    go_enter Tryd.func13, Tryd.ntmps13
    go_wp2
    go_loopw [0, 3] (fun nv v wr => ∃ n xs, nv = .int .i64 n ∧ VRel n0 xs n ∧ OwnI wr w.heap.size 5 .u8 v xs ∧ Below w.heap.size w wr) (fun nv _ _ => (intOf nv).toNat)
    case atStart => exact ⟨n0, [], rfl, VRel.start n0 hb0.1 hb0.2, OwnI.nil _ _ _ _, Below.refl _ _⟩
    case round =>
      clear hb0
      obtain ⟨n, xs, rfl, hv, hown, hb⟩ := hrel
      have hpos := hv.pos
      have hB : w.heap.size ≤ wr.heap.size := hb.size
      by_cases hlt : 128 ≤ n
      · go_wp2_with (at_builtin; refine wpList_app EBv (base := w.heap.size) (v := u3) (xs := xs) (us := [128 + n % 128]) (g := wr.heap.size) (n := 1) (c := 1) rfl (.tmp 12) (.tmp 17) rfl ?_ ?_ rfl rfl rfl ?_ ?_ ?_; (exact hown.alloc _); (exact heap_alloc_new wr _); (show _ + 1 ≤ _; omega); (exact le_alloc hB _); intro v' w1 hown1 hgrow)
        have hb1 : Below w.heap.size w w1 := below_grown (hb.alloc hB _) (hown.alloc _) hgrow (Nat.le_refl _) (le_alloc hB _)
        have hv1 := hv.step hlt
        clear hgrow hown hb hv
        go_roundw
        case rel => exact ⟨n / 128, _, rfl, hv1, hown1, hb1⟩
        case measure => simp [intOf]; omega
      · have hd := hv.done (by omega)
        go_wp2_with (at_builtin; refine wpList_app EBv (base := w.heap.size) (v := u3) (xs := xs) (us := [n]) (g := wr.heap.size) (n := 1) (c := 1) rfl (.tmp 21) (.tmp 24) rfl ?_ ?_ rfl rfl rfl ?_ ?_ ?_; (exact hown.alloc _); (exact heap_alloc_new wr _); (show _ + 1 ≤ _; omega); (exact le_alloc hB _); intro v' w1 hown1 hgrow; have hc1 := run_string_own Tryd.underlying30 Tryd.underlying5 hown1 9 Tryd.underlying9)
        have hb1 : Below w.heap.size w w1 := below_grown (hb.alloc hB _) (hown.alloc _) hgrow (Nat.le_refl _) (le_alloc hB _)
        go_ret
        exact ⟨rfl, hb1⟩
/-! The plain law: which prefix of a string is a varint. -/
/-- The number whose varint's bytes are these. -/
def val : List Int → Int
  | [] => 0
  | b :: r => b % 128 + 128 * val r
theorem val_bound : ∀ l : List Int, 0 ≤ val l ∧ val l < 128 ^ l.length
  | [] => by simp [val]
  | b :: r => by
    have := val_bound r
    simp only [val, List.length_cons, Int.pow_succ]
    omega
theorem val_small (l : List Int) (h : l.length ≤ 7) : 0 ≤ val l ∧ val l < 562949953421312 := by
  have h1 := val_bound l
  have hf : l.length = 0 ∨ l.length = 1 ∨ l.length = 2 ∨ l.length = 3 ∨ l.length = 4 ∨ l.length = 5 ∨ l.length = 6 ∨ l.length = 7 := by omega
  rcases hf with h | h | h | h | h | h | h | h <;> rw [h] at h1 <;> exact ⟨h1.1, Int.lt_of_lt_of_le h1.2 (by decide)⟩
theorem val_small6 (l : List Int) (h : l.length ≤ 6) : 0 ≤ val l ∧ val l < 4398046511104 := by
  have h1 := val_bound l
  have hf : l.length = 0 ∨ l.length = 1 ∨ l.length = 2 ∨ l.length = 3 ∨ l.length = 4 ∨ l.length = 5 ∨ l.length = 6 := by omega
  rcases hf with h | h | h | h | h | h | h <;> rw [h] at h1 <;> exact ⟨h1.1, Int.lt_of_lt_of_le h1.2 (by decide)⟩
def CanonN : List Int → Prop
  | [] => False
  | [b] => 0 < b ∧ b < 128
  | b :: c :: r => 128 ≤ b ∧ CanonN (c :: r)
def CanonL : List Int → Prop
  | [] => False
  | [b] => b < 128
  | b :: c :: r => 128 ≤ b ∧ CanonN (c :: r)
theorem enc_canonN : ∀ (f : Nat) (l : List Int), l.length ≤ f + 1 → (∀ x ∈ l, 0 ≤ x ∧ x < 256) → CanonN l → vlF f (val l) = l ∧ 1 ≤ val l
  | _, [], _, _, h => h.elim
  | f, [b], _, hx, h => by
    have hb : val [b] = b := by simp [val]; have := h; simp only [CanonN] at this; omega
    rw [hb, vlF_small f b h.2]
    exact ⟨rfl, h.1⟩
  | 0, b :: c :: r, hl, _, _ => by simp at hl
  | f + 1, b :: c :: r, hl, hx, h => by
    obtain ⟨h1, h2⟩ := h
    have ih := enc_canonN f (c :: r) (by simp at hl ⊢; omega) (fun x hm => hx x (List.mem_cons_of_mem _ hm)) h2
    have hb := hx b (List.mem_cons_self)
    have hv : val (b :: c :: r) = b % 128 + 128 * val (c :: r) := rfl
    rw [vlF_big f _ (by omega), hv]
    have e1 : (b % 128 + 128 * val (c :: r)) / 128 = val (c :: r) := by omega
    have e2 : 128 + (b % 128 + 128 * val (c :: r)) % 128 = b := by omega
    rw [e1, e2, ih.1]
    exact ⟨rfl, by omega⟩
theorem enc_canonL (f : Nat) (l : List Int) (hl : l.length ≤ f + 1) (hx : ∀ x ∈ l, 0 ≤ x ∧ x < 256) (h : CanonL l) : vlF f (val l) = l := by
  match l, h with
  | [b], h =>
    have hb := hx b (List.mem_cons_self)
    have h' : b < 128 := h
    have hv : val [b] = b := by simp [val]; omega
    rw [hv, vlF_small f b h']
  | b :: c :: r, h =>
    obtain ⟨h1, h2⟩ := h
    exact (enc_canonN f (b :: c :: r) hl hx ⟨h1, h2⟩).1
theorem canonN_enc : ∀ (f : Nat) (n : Int) (l : List Int), 0 < n → n < 128 ^ (f + 1) → vlF f n = l → CanonN l
  | 0, n, l, h0, h1, h => by
    subst h
    exact ⟨h0, by simpa using h1⟩
  | f + 1, n, l, h0, h1, h => by
    by_cases hn : 128 ≤ n
    · rw [vlF_big f n hn] at h
      subst h
      rw [Int.pow_succ] at h1
      have := canonN_enc f (n / 128) _ (by omega) (by omega) rfl
      cases hv : vlF f (n / 128) with
      | nil => rw [hv] at this; exact this.elim
      | cons c r => rw [hv] at this; exact ⟨by omega, this⟩
    · rw [vlF_small _ n (by omega)] at h
      subst h
      exact ⟨h0, by omega⟩
theorem canonL_enc (f : Nat) (n : Int) (l : List Int) (h0 : 0 ≤ n) (h1 : n < 128 ^ (f + 1)) (h : vlF f n = l) : CanonL l := by
  by_cases hn : n < 128
  · rw [vlF_small f n hn] at h
    subst h
    exact hn
  · have := canonN_enc f n l (by omega) h1 h
    match l, this with
    | [b], h' => exact h'.2
    | b :: c :: r, h' => exact h'
theorem canonN_take : ∀ (l : List Int) (k : Nat), 1 ≤ k → k ≤ l.length → (CanonN (l.take k) ↔ (∀ j, j + 1 < k → 128 ≤ l.getD j 0) ∧ 0 < l.getD (k - 1) 0 ∧ l.getD (k - 1) 0 < 128)
  | [], k, h1, h2 => by simp at h2; omega
  | b :: t, 0, h1, _ => by omega
  | b :: t, 1, _, _ => by simp [CanonN]
  | [b], k + 2, _, h2 => by simp at h2
  | b :: c :: t, k + 2, _, h2 => by
    have ih := canonN_take (c :: t) (k + 1) (by omega) (by simp at h2 ⊢; omega)
    have e : (b :: c :: t).take (k + 2) = b :: c :: t.take k := by simp
    have e2 : (c :: t).take (k + 1) = c :: t.take k := by simp
    rw [e]
    rw [e2] at ih
    show (128 ≤ b ∧ CanonN (c :: t.take k)) ↔ _
    rw [ih]
    constructor
    · rintro ⟨hb, h3, h4⟩
      refine ⟨fun j hj => ?_, h4⟩
      cases j with
      | zero => exact hb
      | succ j => exact h3 j (by omega)
    · rintro ⟨h3, h4⟩
      exact ⟨h3 0 (by omega), fun j hj => h3 (j + 1) (by omega), h4⟩
/-- The first k numbers are a varint's bytes. -/
def Canon (l : List Int) (k : Nat) : Prop := (∀ j, j + 1 < k → 128 ≤ l.getD j 0) ∧ l.getD (k - 1) 0 < 128 ∧ (k = 1 ∨ 0 < l.getD (k - 1) 0)
theorem canonL_take (l : List Int) (k : Nat) (h1 : 1 ≤ k) (h2 : k ≤ l.length) : CanonL (l.take k) ↔ Canon l k := by
  match l, k, h1, h2 with
  | [], k, h1, h2 => simp at h2; omega
  | b :: t, 1, _, _ => simp [CanonL, Canon]
  | [b], k + 2, _, h2 => simp at h2
  | b :: c :: t, k + 2, _, h2 =>
    have h := canonN_take (b :: c :: t) (k + 2) (by omega) h2
    have e : CanonL ((b :: c :: t).take (k + 2)) = CanonN ((b :: c :: t).take (k + 2)) := by simp [CanonL, CanonN]
    rw [e, h, Canon]
    constructor
    · rintro ⟨a1, a2, a3⟩; exact ⟨a1, a3, .inr a2⟩
    · rintro ⟨a1, a2, a3⟩
      refine ⟨a1, ?_, a2⟩
      rcases a3 with a3 | a3
      · omega
      · exact a3
theorem Canon.unique {l : List Int} {k k' : Nat} (h : Canon l k) (h' : Canon l k') (h1 : 1 ≤ k) (h1' : 1 ≤ k') : k = k' := by
  rcases Nat.lt_trichotomy k k' with hlt | rfl | hlt
  · have := h'.1 (k - 1) (by omega); have := h.2.1; omega
  · rfl
  · have := h.1 (k' - 1) (by omega); have := h'.2.1; omega
/-- What DecodeVarint returns of the bytes l: the number and how many bytes. -/
def DV (l : List Int) (n k : Int) : Prop :=
  (∃ m : Nat, k = m ∧ 1 ≤ m ∧ m ≤ 7 ∧ m ≤ l.length ∧ Canon l m ∧ n = val (l.take m)) ∨ (n = 0 ∧ k = 0 ∧ ∀ m : Nat, 1 ≤ m → m ≤ 7 → m ≤ l.length → ¬ Canon l m)
theorem DV.unique {l : List Int} {n k n' k' : Int} (h : DV l n k) (h' : DV l n' k') : n = n' ∧ k = k' := by
  rcases h with ⟨m, rfl, h1, h7, hl, hc, rfl⟩ | ⟨rfl, rfl, hn⟩ <;> rcases h' with ⟨m', rfl, h1', h7', hl', hc', rfl⟩ | ⟨rfl, rfl, hn'⟩
  · obtain rfl := hc.unique hc' h1 h1'; exact ⟨rfl, rfl⟩
  · exact absurd hc (hn' m h1 h7 hl)
  · exact absurd hc' (hn m' h1' h7' hl')
  · exact ⟨rfl, rfl⟩
/-- The pair that DecodeVarint returns, and the world behind it. -/
def RetDV (s : ByteArray) (w : World) (e : Ending) (w' : World) : Prop := ∃ n k : Int, e = .returned (.tuple #[.int .i64 n, .int .i64 k]) ∧ DV (numsOf s) n k ∧ Below w.heap.size w w'
theorem numsOf_mem (s : ByteArray) : ∀ x ∈ numsOf s, 0 ≤ x ∧ x < 256 := by
  intro x hx
  obtain ⟨b, _, rfl⟩ := List.mem_map.1 hx
  have := b.toNat_lt
  omega
theorem ofNat_numsOf (s : ByteArray) : (numsOf s).map (fun n => UInt8.ofNat n.toNat) = s.data.toList := by
  unfold numsOf
  rw [List.map_map]
  conv => rhs; rw [← List.map_id s.data.toList]
  apply List.map_congr_left
  intro b _
  simp [Function.comp]
theorem strOfNums_inj {xs ys : List Int} (hx : ∀ x ∈ xs, 0 ≤ x ∧ x < 256) (hy : ∀ y ∈ ys, 0 ≤ y ∧ y < 256) (h : (xs.map fun n => UInt8.ofNat n.toNat) = (ys.map fun n => UInt8.ofNat n.toNat)) : xs = ys := by
  induction xs generalizing ys with
  | nil => cases ys with
    | nil => rfl
    | cons y ys => simp at h
  | cons x xs ih =>
    cases ys with
    | nil => simp at h
    | cons y ys =>
      simp only [List.map_cons, List.cons.injEq] at h
      have hx0 := hx x List.mem_cons_self
      have hy0 := hy y List.mem_cons_self
      have e := congrArg UInt8.toNat h.1
      simp only [UInt8.toNat_ofNat'] at e
      rw [ih (fun z hz => hx z (List.mem_cons_of_mem _ hz)) (fun z hz => hy z (List.mem_cons_of_mem _ hz)) h.2]
      congr 1
      omega
theorem vlF_mem : ∀ (f : Nat) (n : Int), 0 ≤ n → n < 128 ^ (f + 1) → ∀ x ∈ vlF f n, 0 ≤ x ∧ x < 256
  | 0, n, h0, h1, x, hx => by simp [vlF] at hx; subst hx; simp at h1; omega
  | f + 1, n, h0, h1, x, hx => by
    by_cases hn : 128 ≤ n
    · rw [vlF_big f n hn] at hx
      rw [Int.pow_succ] at h1
      rcases List.mem_cons.1 hx with rfl | hx
      · omega
      · exact vlF_mem f (n / 128) (by omega) (by omega) x hx
    · rw [vlF_small _ n (by omega)] at hx
      simp at hx; subst hx; omega
/-- The test of the reference: the encoded number is the prefix. -/
theorem enc_test (s : ByteArray) (k : Nat) (h1 : 1 ≤ k) (h7 : k ≤ 7) (hk : k ≤ s.size) :
    ((encV (val ((numsOf s).take k))).toList == (s.extract 0 k).toList) = true ↔ Canon (numsOf s) k := by
  have hl : ((numsOf s).take k).length = k := by rw [List.length_take, numsOf_length]; omega
  have hv := val_small ((numsOf s).take k) (by omega)
  have hvb : val ((numsOf s).take k) < 128 ^ (6 + 1) := Int.lt_of_lt_of_le hv.2 (by decide)
  have hin : inB (val ((numsOf s).take k)) 0 562949953421311 = true := inB_true.2 (by omega)
  have hx : ∀ x ∈ (numsOf s).take k, 0 ≤ x ∧ x < 256 := fun x hx => numsOf_mem s x (List.mem_of_mem_take hx)
  have hb : (s.extract 0 k).toList = ((numsOf s).take k).map (fun n => UInt8.ofNat n.toNat) := by
    rw [ByteArray.toList_eq, List.map_take, ofNat_numsOf]
    obtain ⟨⟨l⟩⟩ := s
    rw [ByteArray.extract_mk]
    simp
  have ha : (encV (val ((numsOf s).take k))).toList = (vlF 6 (val ((numsOf s).take k))).map (fun n => UInt8.ofNat n.toNat) := by
    rw [encV, if_pos hin, ByteArray.toList_eq, strOfNums_data]
  rw [beq_iff_eq, ha, hb, ← canonL_take _ k h1 (by rw [numsOf_length]; exact hk)]
  constructor
  · intro h
    exact canonL_enc 6 _ _ hv.1 hvb (strOfNums_inj (vlF_mem 6 _ hv.1 hvb) hx h)
  · intro h
    rw [enc_canonL 6 _ (by omega) hx h]
theorem val_drop (l : List Int) (j : Nat) (h : j < l.length) : val (l.drop j) = l.getD j 0 % 128 + 128 * val (l.drop (j + 1)) := by
  rw [List.drop_eq_getElem_cons h]
  simp [val, List.getD, List.getElem?_eq_getElem h]

theorem i64_or_high (n c : Int) (i : Nat) (hi : i ≤ 6) (h0 : 0 ≤ n) (h1 : n < 128 ^ i) (h2 : 0 ≤ c) (h3 : c < 128) : bits .or .i64 n (c * 2 ^ (7 * i)) = n + c * 128 ^ i := by
  obtain ⟨a, rfl⟩ := Int.eq_ofNat_of_zero_le h0
  obtain ⟨b, rfl⟩ := Int.eq_ofNat_of_zero_le h2
  have hp : (128 : Int) ^ i = ((2 ^ (7 * i) : Nat) : Int) := by rw [Nat.pow_mul]; push_cast; rfl
  have hp2 : (2 : Int) ^ (7 * i) = ((2 ^ (7 * i) : Nat) : Int) := by push_cast; rfl
  have hlt : a < 2 ^ (7 * i) := by rw [hp] at h1; exact_mod_cast h1
  have hle : 2 ^ (7 * i) ≤ 2 ^ 42 := Nat.pow_le_pow_right (by decide) (by omega)
  have hb : b * 2 ^ (7 * i) ≤ 127 * 2 ^ 42 := Nat.mul_le_mul (by omega) hle
  have e : (b : Int) * 2 ^ (7 * i) = ((b * 2 ^ (7 * i) : Nat) : Int) := by rw [hp2]; push_cast; rfl
  have hm : (127 * 2 ^ 42 : Nat) < 9223372036854775808 := by decide
  have hm2 : (2 ^ 42 : Nat) < 9223372036854775808 := by decide
  rw [e, i64_or_nat _ _ (by omega) (by omega), hp]
  have := Nat.two_pow_add_eq_or_of_lt hlt b
  rw [Nat.or_comm, Nat.mul_comm b, ← this, Nat.mul_comm]
  push_cast
  omega
theorem val_take_succ (l : List Int) (i : Nat) (h : i < l.length) : val (l.take (i + 1)) = val (l.take i) + (l.getD i 0 % 128) * 128 ^ i := by
  induction l generalizing i with
  | nil => simp at h
  | cons b t ih =>
    cases i with
    | zero => simp [val]
    | succ i =>
      have := ih i (by simpa using h)
      simp only [List.take_succ_cons, val, List.getD_cons_succ, Int.pow_succ] at this ⊢
      rw [this, Int.mul_add]
      have e : t.getD i 0 % 128 * (128 ^ i * 128) = 128 * (t.getD i 0 % 128 * 128 ^ i) := by
        rw [← Int.mul_assoc, Int.mul_comm]
      omega
theorem shl_small (c : Int) (i : Nat) (hi : i ≤ 6) (h0 : 0 ≤ c) (h1 : c < 128) : wrap64 (c * 2 ^ (7 * i)) = c * 2 ^ (7 * i) := by
  have hp2 : (2 : Int) ^ (7 * i) = ((2 ^ (7 * i) : Nat) : Int) := by push_cast; rfl
  have hle : 2 ^ (7 * i) ≤ 2 ^ 42 := Nat.pow_le_pow_right (by decide) (by omega)
  obtain ⟨b, rfl⟩ := Int.eq_ofNat_of_zero_le h0
  have hb : b * 2 ^ (7 * i) ≤ 127 * 2 ^ 42 := Nat.mul_le_mul (by omega) hle
  have e : (b : Int) * 2 ^ (7 * i) = ((b * 2 ^ (7 * i) : Nat) : Int) := by rw [hp2]; push_cast; rfl
  have hm : (127 * 2 ^ 42 : Nat) < 9223372036854775808 := by decide
  rw [e]
  exact IntWalk.wrap64_in _ ⟨by omega, by omega⟩
set_option maxHeartbeats 800000 in
set_option maxRecDepth 100000 in
theorem c_impl_DecodeVarint (s : ByteArray) (w : World) (hs : s.size ≤ 1048576) :
    Calls Tryd.prog 14 #[.string s] w (RetDV s w) := by
  go_enter Tryd.func14, Tryd.ntmps14
  go_wp2
  go_loop [4, 5] (fun nv iv => ∃ i : Nat, iv = .int .i64 i ∧ i ≤ 7 ∧ i ≤ s.size ∧ nv = .int .i64 (val ((numsOf s).take i)) ∧ (∀ m : Nat, m < i → 128 ≤ (numsOf s).getD m 0)) (fun _ iv => 7 - (intOf iv).toNat)
  case atStart => exact ⟨0, rfl, by omega, by omega, rfl, fun m hm => by omega⟩
  case round =>
    obtain ⟨i, rfl, hi7, his, rfl, hge⟩ := hrel
    have HG := Lib.hid hge; clear hge
    by_cases hlt : i < 7 ∧ i < s.size
    · obtain ⟨hi, hsz⟩ := hlt
      have hc0 : 0 ≤ ((s[i].toNat : Int)) ∧ (s[i].toNat : Int) ≤ 255 := by have := s[i].toNat_lt; omega
      have hvb := val_bound ((numsOf s).take i)
      rw [show ((numsOf s).take i).length = i by rw [List.length_take, numsOf_length]; omega] at hvb
      have hg := numsOf_getD s i hsz
      have hst := val_take_succ (numsOf s) i (by rw [numsOf_length]; exact hsz)
      rw [hg] at hst
      have hor := i64_or_high (val ((numsOf s).take i)) ((s[i].toNat : Int) % 128) i (by omega) hvb.1 hvb.2 (by omega) (by omega)
      have hand : bits BinOp.and IntKind.u8 (s[i].toNat : Int) 127 = (s[i].toNat : Int) % 128 := bits_mask .u8 8 (by decide) wraps_u8 7 (by decide) _ hc0.1 (by omega)
      have hwr : wrap64 ((s[i].toNat : Int) % 128 * 2 ^ (7 * i)) = (s[i].toNat : Int) % 128 * 2 ^ (7 * i) := shl_small _ i (by omega) (by omega) (by omega)
      rw [← hst, ← hwr] at hor
      have HO := Lib.hid hor; clear hor
      clear hwr
      have HS := Lib.hid hst; clear hst
      have hv7 := val_small ((numsOf s).take (i + 1)) (by rw [List.length_take]; omega)
      have hv6 := val_small ((numsOf s).take i) (by rw [List.length_take]; omega)
      clear hvb
      have HGI := Lib.hid hg; clear hg
      go_wp2
      · go_round
        case rel =>
          refine ⟨i + 1, by go_num, by omega, by omega, congrArg _ HO.out, fun m hm => ?_⟩
          rcases Nat.lt_or_eq_of_le (Nat.le_of_lt_succ hm) with h | rfl
          · exact HG.out m h
          · rw [HGI.out]; assumption
        case measure => simp [intOf]; omega
      · go_ret2
        have hz : s[i].toNat = 0 := by assumption
        have hpos : 0 < i := by assumption
        refine ⟨0, 0, rfl, .inr ⟨rfl, rfl, fun m hm1 hm7 hml hc => ?_⟩, Below.refl _ _⟩
        have hg := HGI.out
        rcases Nat.lt_trichotomy (m - 1) i with h | h | h
        · have h1 := HG.out (m - 1) h
          have h2 := hc.2.1
          omega
        · have h2 := hc.2.2
          rw [h] at h2
          omega
        · have h2 := hc.1 i (by omega)
          omega
      · go_ret2
        have hz : s[i].toNat = 0 := by assumption
        have hpos : ¬ 0 < i := by assumption
        obtain rfl : i = 0 := by omega
        have hg := HGI.out
        refine ⟨_, 1, rfl, .inl ⟨1, rfl, by omega, by omega, by rw [numsOf_length]; omega, ⟨fun j hj => by omega, by show (numsOf s).getD 0 0 < 128; omega, .inl rfl⟩, ?_⟩, Below.refl _ _⟩
        rw [HS.out, hz, List.take_zero, show wrap64 0 = 0 from IntWalk.wrap64_in 0 ⟨by decide, by decide⟩]
        exact (i64_or_nat 0 0 (by decide) (by decide)).trans (by decide)
      · go_ret2
        have hz : ¬ s[i].toNat = 0 := by assumption
        have hlt : (s[i].toNat : Int) < 128 := by assumption
        have hg := HGI.out
        refine ⟨_, _, rfl, .inl ⟨i + 1, by omega, by omega, by omega, by rw [numsOf_length]; omega, ⟨fun j hj => HG.out j (by omega), by show (numsOf s).getD i 0 < 128; omega, .inr (by show 0 < (numsOf s).getD i 0; omega)⟩, ?_⟩, Below.refl _ _⟩
        exact HO.out
    · have hend : ∀ m : Nat, 1 ≤ m → m ≤ 7 → m ≤ (numsOf s).length → ¬ Canon (numsOf s) m := fun m hm1 hm7 hml hc => by
        rw [numsOf_length] at hml
        have h1 := HG.out (m - 1) (by omega)
        have h2 := hc.2.1
        omega
      have HE := Lib.hid hend; clear hend HG
      by_cases hi : i < 7
      · have : ¬ i < s.size := fun h => hlt ⟨hi, h⟩
        clear hlt
        go_wp2
        go_ret2
        exact ⟨0, 0, rfl, .inr ⟨rfl, rfl, HE.out⟩, Below.refl _ _⟩
      · clear hlt
        go_wp2
        go_ret2
        exact ⟨0, 0, rfl, .inr ⟨rfl, rfl, HE.out⟩, Below.refl _ _⟩
end Go.Proofs.YtfcgijnfiiaepaaDoor
