/- Contract of impl's ParseInt. -/
import Derived.Test.YtfcgijnfiiaepaaGreatDoorParse
namespace Go.Proofs.YtfcgijnfiiaepaaGreatDoor
set_option linter.unusedSimpArgs false
set_option linter.unusedVariables false
open Go.RowKit

/-- s without a leading minus. -/
def TrimRel (s t : ByteArray) : Prop := (numsOf s = 45 :: numsOf t ∧ s.size = t.size + 1) ∨ ((numsOf s).getD 0 0 ≠ 45 ∧ t = s)
theorem trim_minus (s : ByteArray) : TrimRel s ⟨(Go.Lib.trimPrefix s.data.toList [45]).toArray⟩ := by
  obtain ⟨⟨l⟩⟩ := s
  show TrimRel _ ⟨(if ([45] : List UInt8).isPrefixOf l then l.drop 1 else l).toArray⟩
  cases l with
  | nil => exact .inr ⟨by decide, rfl⟩
  | cons x r =>
    by_cases hx : x = 45
    · subst hx
      left
      exact ⟨rfl, by show (List.toArray (45 :: r)).size = _; rfl⟩
    · right
      have hb : ([45] : List UInt8).isPrefixOf (x :: r) = false := by
        show ((45 : UInt8) == x && List.isPrefixOf [] r) = false
        have : ((45 : UInt8) == x) = false := by rw [beq_eq_false_iff_ne]; exact fun h => hx h.symm
        rw [this]; rfl
      rw [hb]
      refine ⟨?_, rfl⟩
      show (x.toNat : Int) ≠ 45
      intro h
      apply hx
      apply UInt8.toNat_inj.1
      show x.toNat = 45
      omega
/-- The digits of a number. -/
def absL (n : Int) : List Int := if n = 0 then [48] else digL n.natAbs
theorem trim_itoa {s t : ByteArray} {n : Int} (h : TrimRel s t) (he : s = itoaS n) : numsOf t = absL n ∧ (t.size ≠ s.size ↔ n < 0) := by
  subst he
  unfold TrimRel at h
  rw [numsOf_itoa] at h
  have hh := numL_head n
  rcases h with ⟨h, hs⟩ | ⟨h, rfl⟩
  · have hn : n < 0 := hh.1 (by rw [h]; rfl)
    have e : numL n = 45 :: digL (-n).toNat := by unfold numL; rw [if_neg (by omega), if_neg (by omega)]
    rw [e] at h
    injection h with _ h2
    refine ⟨?_, fun _ => hn, fun _ => by omega⟩
    unfold absL
    rw [if_neg (by omega), ← h2]
    congr 1
    omega
  · have hn : ¬ n < 0 := fun h2 => h (hh.2 h2)
    refine ⟨?_, fun h3 => absurd rfl h3, fun h3 => absurd h3 hn⟩
    rw [numsOf_itoa]
    unfold numL absL
    split
    · rfl
    · rw [if_pos (by omega)]
      congr 1
      omega
theorem absL_facts (n : Int) (h0 : -1000000000 < n) (h1 : n < 1000000000) : 1 ≤ (absL n).length ∧ (absL n).length ≤ 9 ∧ (∀ b ∈ absL n, 48 ≤ b ∧ b ≤ 57) ∧ (dfold (absL n)).1 = n.natAbs := by
  unfold absL
  split
  · rename_i h; subst h; exact ⟨by decide, by decide, fun b hb => by simp at hb; omega, rfl⟩
  · refine ⟨digL_pos (by omega), digL_length 9 _ (by omega), digL_mem _, by rw [digL_fold]⟩
theorem parse_no_len {s t : ByteArray} (h : TrimRel s t) (hl : t.size < 1 ∨ 9 < t.size) : parseOk s = false ∧ parseV s = 0 := by
  refine parse_no fun n h0 h1 e => ?_
  have h2 := (trim_itoa h e).1
  have h3 := absL_facts n h0 h1
  rw [← h2, numsOf_length] at h3
  omega
theorem parse_no_digit {s t : ByteArray} (h : TrimRel s t) (j : Nat) (hj : j < t.size) (hd : (t[j].toNat : Int) < 48 ∨ 57 < (t[j].toNat : Int)) : parseOk s = false ∧ parseV s = 0 := by
  refine parse_no fun n h0 h1 e => ?_
  have h2 := (trim_itoa h e).1
  have h3 := (absL_facts n h0 h1).2.2.1
  have hm : (t[j].toNat : Int) ∈ absL n := by
    rw [← h2, ← numsOf_getElem t j hj]
    exact List.getElem_mem _
  have := h3 _ hm
  omega
theorem parse_fin {s t : ByteArray} (h : TrimRel s t) (hl : t.size ≤ 9) (n : Nat) (hd : dfold (numsOf t) = (n, t.size)) (v : Int) (hv : v = if t.size = s.size then (n : Int) else -(n : Int)) :
    (parseOk s = true ↔ itoaS v = s) ∧ (parseOk s = true → parseV s = v) := by
  have hn := dfold_lt (numsOf t)
  rw [hd] at hn
  have hn9 : n < 1000000000 := Nat.lt_of_lt_of_le hn (Nat.le_trans (Nat.pow_le_pow_right (by decide) hl) (by decide))
  have hvb : -1000000000 < v ∧ v < 1000000000 := by rw [hv]; split <;> omega
  have hval : ∀ m : Int, s = itoaS m → m = v := by
    intro m e
    have h2 := trim_itoa h e
    have hm : m.natAbs = n := by
      have hx : (dfold (absL m)).1 = m.natAbs := by
        unfold absL
        split
        · rename_i h; subst h; rfl
        · rw [digL_fold]
      rw [← hx, ← h2.1, hd]
    rw [hv]
    split
    · rename_i h3
      have : ¬ m < 0 := fun h4 => h2.2.2 h4 h3
      omega
    · rename_i h3
      have := h2.2.1 h3
      omega
  constructor
  · constructor
    · intro hp
      obtain ⟨m, _, _, e⟩ := parseOk_eq hp
      rw [← hval m e, e]
    · intro he
      rw [← he, parseOk_itoa]
      simp [hvb.1, hvb.2]
  · intro hp
    obtain ⟨m, m0, m1, e⟩ := parseOk_eq hp
    rw [← hval m e, e]
    exact parseV_itoa m m0 m1
theorem c_trimMinus (s : ByteArray) (w : World) :
    Calls Tryz.prog 76 #[.string s, .string ⟨#[45]⟩] w fun e w' => ∃ t, e = .returned (.string t) ∧ w = w' ∧ TrimRel s t := by
  refine (Tryz.strings_TrimPrefix s ⟨#[45]⟩ w).mono ?_
  rintro e w' ⟨rfl, rfl⟩
  exact ⟨_, rfl, rfl, trim_minus s⟩
set_option maxRecDepth 20000 in
set_option maxHeartbeats 1000000 in
theorem c_impl_ParseInt (s : ByteArray) (w : World) (B : Nat) (hB : B ≤ w.heap.size) (hs : s.size ≤ 1048576) (ht : TabB B w) :
    Calls Tryz.prog 47 #[.string s] w fun e w' => e = .returned (.tuple #[.int .i64 (parseV s), .bool (parseOk s)]) ∧ Below w.heap.size w w' := by
  have HT := Lib.hid ht
  clear ht
  go_enter Tryz.func47, Tryz.ntmps47
  go_wp2_with fail
  refine (c_trimMinus s w).mono ?_
  rintro e w' ⟨t, rfl, rfl, hrel⟩
  have HR := Lib.hid hrel
  clear hrel
  by_cases hl1 : t.size < 1
  · obtain ⟨hp, hv⟩ := parse_no_len HR.out (.inl hl1)
    have HP := Lib.hid hp
    have HV := Lib.hid hv
    clear hp hv
    go_wp2
    go_ret2
    exact ⟨by rw [HP.out, HV.out]; rfl, Below.refl _ _⟩
  · by_cases hl9 : 9 < t.size
    · obtain ⟨hp, hv⟩ := parse_no_len HR.out (.inr hl9)
      have HP := Lib.hid hp
      have HV := Lib.hid hv
      clear hp hv
      go_wp2
      go_ret2
      exact ⟨by rw [HP.out, HV.out]; rfl, Below.refl _ _⟩
    · go_wp2
      go_loopw [5, 6] (fun nv iv wr => ∃ (j n : Nat), iv = .int .i64 (j : Int) ∧ j ≤ t.size ∧ dfold ((numsOf t).take j) = (n, j) ∧ nv = .int .i64 (n : Int) ∧ wr = w) (fun _ iv _ => 9 - (intOf iv).toNat)
      case atStart => exact ⟨0, 0, rfl, by omega, rfl, rfl, rfl⟩
      case round =>
        obtain ⟨j, n, rfl, hj, hd, rfl, rfl⟩ := hrel
        by_cases hl : j < t.size
        · have hst := dfold_take t j hl
          rw [hd] at hst
          have hn1 := dfold_lt ((numsOf t).take j)
          rw [hd] at hn1
          have hn2 : n < 1000000000 := Nat.lt_of_lt_of_le hn1 (Nat.le_trans (Nat.pow_le_pow_right (by decide) (show j ≤ 9 by omega)) (by decide))
          have hc0 : 0 ≤ ((t[j].toNat : Int)) ∧ (t[j].toNat : Int) ≤ 255 := by have := t[j].toNat_lt; omega
          have hl2 : (j : Int) < (t.size : Int) := by omega
          by_cases hlo : (t[j].toNat : Int) < 48
          · obtain ⟨hp, hv⟩ := parse_no_digit HR.out j hl (.inl hlo)
            have HP := Lib.hid hp
            have HV := Lib.hid hv
            clear hp hv hst hd hn1 hn2
            go_wp2
            go_ret2
            exact ⟨by rw [HP.out, HV.out]; rfl, Below.refl _ _⟩
          · by_cases hhi : 57 < (t[j].toNat : Int)
            · obtain ⟨hp, hv⟩ := parse_no_digit HR.out j hl (.inr hhi)
              have HP := Lib.hid hp
              have HV := Lib.hid hv
              clear hp hv hst hd hn1 hn2
              go_wp2
              go_ret2
              exact ⟨by rw [HP.out, HV.out]; rfl, Below.refl _ _⟩
            · rw [dstep_yes n j _ (by omega) (by omega)] at hst
              have hw0 : IntKind.u8.wrap ((t[j].toNat : Int) - 48) = (t[j].toNat : Int) - 48 := IntWalk.u8_in _ (by omega)
              have hw1 : IntKind.i64.wrap ((n : Int) * 10) = (n : Int) * 10 := IntWalk.i64_in _ (by omega)
              have hw2 : IntKind.i64.wrap ((t[j].toNat : Int) - 48) = (t[j].toNat : Int) - 48 := IntWalk.i64_in _ (by omega)
              have hw3 : IntKind.i64.wrap ((n : Int) * 10 + ((t[j].toNat : Int) - 48)) = (n : Int) * 10 + ((t[j].toNat : Int) - 48) := IntWalk.i64_in _ (by omega)
              have HS := Lib.hid hst
              have HE := Lib.hid (show ((n * 10 + ((t[j].toNat : Int) - 48).toNat : Nat) : Int) = (n : Int) * 10 + ((t[j].toNat : Int) - 48) by omega)
              clear hst hd hn1 hn2
              go_wp2
              go_roundw
              case rel => exact ⟨j + 1, n * 10 + ((t[j].toNat : Int) - 48).toNat, by go_num, by omega, HS.out, by rw [HE.out], by first | rfl | trivial⟩
              case measure => simp [intOf]; omega
        · obtain rfl : j = t.size := by omega
          have hall : (numsOf t).take t.size = numsOf t := List.take_of_length_le (by rw [numsOf_length]; exact Nat.le_refl _)
          rw [hall] at hd
          have hn1 := dfold_lt (numsOf t)
          rw [hd] at hn1
          have hn2 : n < lim11 := Nat.lt_of_lt_of_le hn1 (Nat.le_trans (Nat.pow_le_pow_right (by decide) (show t.size ≤ 9 by omega)) (by decide))
          have HBN := Lib.hid hn2
          have hfin : ∀ v : Int, v = (if t.size = s.size then (n : Int) else -(n : Int)) → ((parseOk s = true ↔ itoaS v = s) ∧ (parseOk s = true → parseV s = v)) := parse_fin HR.out (by omega) n hd
          have FIN := Lib.hid hfin
          clear hfin hd hn1 hn2 hall
          cases hsz : ((t.size : Int) != (s.size : Int)) with
          | true =>
            have hwn : IntKind.i64.wrap (-(n : Int)) = -(n : Int) := IntWalk.i64_in _ (by have := HBN.out; simp only [lim11] at this; omega)
            obtain ⟨f1, f2⟩ := FIN.out (-(n : Int)) (by rw [if_neg]; intro e; rw [e] at hsz; simp at hsz)
            clear FIN
            cases hq : ((itoaS (-(n : Int))).toList == s.toList) with
            | false =>
              have hp : parseOk s = false := by
                cases hb : parseOk s with
                | false => rfl
                | true => exact absurd (f1.1 hb) (str_ne hq)
              have hv : parseV s = 0 := by rw [parseV, hp]; rfl
              have HP := Lib.hid hp
              have HV := Lib.hid hv
              clear f1 f2 hp hv
              go_wp2_with (go_at_call 73; refine (c_impl_FormatInt _ _ B hB (by have := HBN.out; simp only [lim11] at this; omega) (by have := HBN.out; simp only [lim11] at this; omega) HT.out).mono ?_; rintro e w1 ⟨rfl, hb1⟩)
              go_ret2
              exact ⟨by rw [HP.out, HV.out]; rfl, hb1⟩
            | true =>
              have hp : parseOk s = true := f1.2 (str_eq hq)
              have hv := f2 hp
              have HP := Lib.hid hp
              have HV := Lib.hid hv
              clear f1 f2 hp hv
              go_wp2_with (go_at_call 73; refine (c_impl_FormatInt _ _ B hB (by have := HBN.out; simp only [lim11] at this; omega) (by have := HBN.out; simp only [lim11] at this; omega) HT.out).mono ?_; rintro e w1 ⟨rfl, hb1⟩)
              go_ret2
              exact ⟨by rw [HP.out, HV.out]; rfl, hb1⟩
          | false =>
            obtain ⟨f1, f2⟩ := FIN.out (n : Int) (by rw [if_pos]; simp at hsz; omega)
            clear FIN
            cases hq : ((itoaS (n : Int)).toList == s.toList) with
            | false =>
              have hp : parseOk s = false := by
                cases hb : parseOk s with
                | false => rfl
                | true => exact absurd (f1.1 hb) (str_ne hq)
              have hv : parseV s = 0 := by rw [parseV, hp]; rfl
              have HP := Lib.hid hp
              have HV := Lib.hid hv
              clear f1 f2 hp hv
              go_wp2_with (go_at_call 73; refine (c_impl_FormatInt _ _ B hB (by have := HBN.out; simp only [lim11] at this; omega) (by have := HBN.out; simp only [lim11] at this; omega) HT.out).mono ?_; rintro e w1 ⟨rfl, hb1⟩)
              go_ret2
              exact ⟨by rw [HP.out, HV.out]; rfl, hb1⟩
            | true =>
              have hp : parseOk s = true := f1.2 (str_eq hq)
              have hv := f2 hp
              have HP := Lib.hid hp
              have HV := Lib.hid hv
              clear f1 f2 hp hv
              go_wp2_with (go_at_call 73; refine (c_impl_FormatInt _ _ B hB (by have := HBN.out; simp only [lim11] at this; omega) (by have := HBN.out; simp only [lim11] at this; omega) HT.out).mono ?_; rintro e w1 ⟨rfl, hb1⟩)
              go_ret2
              exact ⟨by rw [HP.out, HV.out]; rfl, hb1⟩
end Go.Proofs.YtfcgijnfiiaepaaGreatDoor
