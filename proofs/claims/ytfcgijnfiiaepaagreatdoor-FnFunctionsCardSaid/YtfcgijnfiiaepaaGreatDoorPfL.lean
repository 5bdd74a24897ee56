/- What ParseFunction reads: a text cut at its commas, each part a numeral; no program in sight. -/
import Derived.Lib.SplitLaws
import Derived.Test.YtfcgijnfiiaepaaGreatDoorNumL
import Derived.Test.YtfcgijnfiiaepaaGreatDoorMade
namespace Go.Proofs.YtfcgijnfiiaepaaGreatDoor
set_option linter.unusedSimpArgs false
set_option linter.unusedVariables false
open Go.RowKit

/-- A text cut at its commas, a part begun. -/
def cutP : List UInt8 → List UInt8 → List (List UInt8)
  | [], part => [part]
  | b :: r, part => if b = 44 then part :: cutP r [] else cutP r (part ++ [b])
theorem splitK_eq (k : Nat) (l : List UInt8) : Go.Lib.splitK [44] 0 (k + 1) (44 :: l) = [] :: Go.Lib.splitK [44] 0 k l := by
  have hix : Go.Lib.index (44 :: l) [44] = 0 := by rw [Go.Lib.index]; simp [List.isPrefixOf]
  rw [Go.Lib.splitK, hix]
  rfl
theorem splitK_ne {b : UInt8} (h : b ≠ 44) (l : List UInt8) : ∀ k, ∃ p ps, Go.Lib.splitK [44] 0 k l = p :: ps ∧ Go.Lib.splitK [44] 0 k (b :: l) = (b :: p) :: ps
  | 0 => ⟨l, [], rfl, rfl⟩
  | k + 1 => by
    have hp : ([44] : List UInt8).isPrefixOf (b :: l) = false := by simp [List.isPrefixOf, Ne.symm h]
    have hix : Go.Lib.index (b :: l) [44] = if Go.Lib.index l [44] == -1 then -1 else Go.Lib.index l [44] + 1 := by rw [Go.Lib.index, hp]; simp
    by_cases hm : Go.Lib.index l [44] = -1
    · refine ⟨l, [], ?_, ?_⟩
      · rw [Go.Lib.splitK, hm]; rfl
      · rw [Go.Lib.splitK, hix, hm]; rfl
    · have hge := Go.Lib.index_ge l [44]
      obtain ⟨j, hj⟩ : ∃ j : Nat, Go.Lib.index l [44] = j := ⟨(Go.Lib.index l [44]).toNat, by omega⟩
      have hne : (((j : Nat) : Int) == -1) = false := by rw [beq_eq_false_iff_ne]; omega
      have hne2 : (((j : Nat) : Int) + 1 == -1) = false := by rw [beq_eq_false_iff_ne]; omega
      refine ⟨l.take j, Go.Lib.splitK [44] 0 k (l.drop (j + 1)), ?_, ?_⟩
      · rw [Go.Lib.splitK, hj, hne]; simp
      · rw [Go.Lib.splitK, hix, hj, hne]
        simp only [Bool.false_eq_true, if_false, hne2]
        have e : ((j : Int) + 1).toNat = j + 1 := by omega
        rw [e]
        simp
theorem split_cut (l : List UInt8) : ∀ part, ∃ p ps, Go.Lib.splitK [44] 0 (Go.Lib.count l [44]) l = p :: ps ∧ cutP l part = (part ++ p) :: ps := by
  induction l with
  | nil => intro part; exact ⟨[], [], by simp [Go.Lib.count_one, Go.Lib.splitK], by simp [cutP]⟩
  | cons b r ih =>
    intro part
    by_cases h : b = 44
    · subst h
      obtain ⟨p, ps, h1, h2⟩ := ih []
      refine ⟨[], p :: ps, ?_, ?_⟩
      · rw [Go.Lib.count_cons_eq, Nat.add_comm, splitK_eq, h1]
      · rw [cutP, if_pos rfl, h2]; simp
    · obtain ⟨p, ps, h1, h2⟩ := splitK_ne h r (Go.Lib.count r [44])
      obtain ⟨p', ps', h3, h4⟩ := ih (part ++ [b])
      rw [h3] at h1
      injection h1 with e1 e2
      subst e1 e2
      refine ⟨b :: p', ps', ?_, ?_⟩
      · rw [Go.Lib.count_cons_ne b 44 r h]; exact h2
      · rw [cutP, if_neg h, h4]; simp
def bytesOf (l : List UInt8) : ByteArray := ⟨l.toArray⟩
theorem bytesOf_data (s : ByteArray) : bytesOf s.data.toList = s := by obtain ⟨⟨l⟩⟩ := s; rfl
theorem split_parts (s : ByteArray) : Go.Lib.splitB ⟨#[44]⟩ 0 (Go.Lib.countB s ⟨#[44]⟩) s = (cutP s.data.toList []).map bytesOf := by
  have h1 := Go.Lib.splitB_data ⟨#[44]⟩ 0 (Go.Lib.countB s ⟨#[44]⟩) s
  obtain ⟨p, ps, h2, h3⟩ := split_cut s.data.toList []
  have h4 : (Go.Lib.splitB ⟨#[44]⟩ 0 (Go.Lib.countB s ⟨#[44]⟩) s).map (·.data.toList) = cutP s.data.toList [] := by
    rw [h1, h3]
    simpa using h2
  rw [← h4, List.map_map]
  conv => lhs; rw [← List.map_id (Go.Lib.splitB ⟨#[44]⟩ 0 (Go.Lib.countB s ⟨#[44]⟩) s)]
  apply List.map_congr_left
  intro x _
  exact (bytesOf_data x).symm
theorem cutP_length (l : List UInt8) : ∀ part, (cutP l part).length ≤ l.length + 1 := by
  induction l with
  | nil => intro part; simp [cutP]
  | cons b r ih =>
    intro part
    rw [cutP]
    split
    · have := ih []; simp; omega
    · have := ih (part ++ [b]); simp; omega
theorem cutP_sizes (l : List UInt8) : ∀ part, ∀ p ∈ cutP l part, p.length ≤ part.length + l.length := by
  induction l with
  | nil => intro part p hp; simp [cutP] at hp; subst hp; simp
  | cons b r ih =>
    intro part p hp
    rw [cutP] at hp
    split at hp
    · rcases List.mem_cons.1 hp with h | h
      · subst h; simp
      · have := ih [] p h; simp at this ⊢; omega
    · have := ih _ p hp; simp at this ⊢; omega
/-- The numbers of the parts, one after the other, till a part is no numeral. -/
def plRun : List ByteArray → List Int → Option (List Int)
  | [], vs => some vs
  | p :: ps, vs => if parseOk p then plRun ps (vs ++ [parseV p]) else none
/-- The same, read byte by byte. -/
def pfRun : List UInt8 → List UInt8 → List Int → Option (List Int)
  | [], part, vs => if parseOk (bytesOf part) then some (vs ++ [parseV (bytesOf part)]) else none
  | b :: r, part, vs => if b = 44 then (if parseOk (bytesOf part) then pfRun r [] (vs ++ [parseV (bytesOf part)]) else none) else pfRun r (part ++ [b]) vs
theorem pf_pl (l : List UInt8) : ∀ part vs, pfRun l part vs = plRun ((cutP l part).map bytesOf) vs := by
  induction l with
  | nil => intro part vs; simp [pfRun, cutP, plRun]
  | cons b r ih =>
    intro part vs
    rw [pfRun, cutP]
    by_cases h : b = 44
    · rw [if_pos h, if_pos h]
      simp only [List.map_cons, plRun, ih]
    · rw [if_neg h, if_neg h, ih]
/-- The numbers that a text names; none where it names none. -/
def pfR (s : ByteArray) : Option (List Int) := if s.size ≤ 200 then pfRun s.data.toList [] [] else none
theorem plRun_len : ∀ (ps : List ByteArray) (vs us : List Int), plRun ps vs = some us → us.length = vs.length + ps.length
  | [], vs, us, h => by simp [plRun] at h; subst h; simp
  | p :: ps, vs, us, h => by
    rw [plRun] at h
    split at h
    · have := plRun_len ps _ us h; simp at this ⊢; omega
    · cases h
theorem cutP_ne (l : List UInt8) : ∀ part, cutP l part ≠ [] := by
  induction l with
  | nil => intro part; simp [cutP]
  | cons b r ih => intro part; rw [cutP]; split <;> simp [ih]
theorem pfR_len {s : ByteArray} {us : List Int} (h : pfR s = some us) : 1 ≤ us.length ∧ us.length ≤ 201 := by
  unfold pfR at h
  split at h
  · rename_i hs
    rw [pf_pl] at h
    have h1 := plRun_len _ _ _ h
    have h2 := cutP_length s.data.toList []
    have h3 : (cutP s.data.toList []).length ≠ 0 := fun e => cutP_ne _ _ (List.eq_nil_of_length_eq_zero e)
    have h4 : s.data.toList.length = s.size := by simp
    simp at h1
    omega
  · cases h
/-- What ParseFunction returns. -/
def pfN (s : ByteArray) : Int := match pfR s with | some us => madeN (Nat.log2 us.length : Int) us | none => 0
def pfL (s : ByteArray) : List Int := match pfR s with | some us => madeL (Nat.log2 us.length : Int) us | none => []
def pfB (s : ByteArray) : Bool := match pfR s with | some us => isFun (Nat.log2 us.length : Int) us | none => false
end Go.Proofs.YtfcgijnfiiaepaaGreatDoor
