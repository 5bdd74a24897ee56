/- Contracts of both packages' ParseInt. -/
import Derived.Test.YtfcgijnfiiaepaaGreatDoorNumL
namespace Go.Proofs.YtfcgijnfiiaepaaGreatDoor
set_option linter.unusedSimpArgs false
set_option linter.unusedVariables false
open Go.RowKit

theorem dfold_take (s : ByteArray) (k : Nat) (h : k < s.size) : dfold ((numsOf s).take (k + 1)) = dstep (dfold ((numsOf s).take k)) (s[k].toNat : Int) := by
  rw [List.take_succ_eq_append_getElem (by rw [numsOf_length]; exact h), numsOf_getElem s k h, dfold_snoc]
theorem dfold_small (s : ByteArray) (k : Nat) (hk : k ≤ 10) : (dfold ((numsOf s).take k)).1 < 10000000000 ∧ (dfold ((numsOf s).take k)).2 ≤ k := by
  have h1 := dfold_lt ((numsOf s).take k)
  have h2 := dfold_le ((numsOf s).take k)
  rw [List.length_take] at h2
  refine ⟨Nat.lt_of_lt_of_le h1 ?_, by omega⟩
  exact Nat.le_trans (Nat.pow_le_pow_right (by decide) (show _ ≤ 10 by omega)) (by decide)
theorem dstep_yes (n k : Nat) (x : Int) (h0 : 48 ≤ x) (h1 : x ≤ 57) : dstep (n, k) x = (n * 10 + (x - 48).toNat, k + 1) := by unfold dstep; rw [if_pos ⟨h0, h1⟩]
theorem dstep_no (n k : Nat) (x : Int) (h : x < 48 ∨ 57 < x) : dstep (n, k) x = (n, k) := by unfold dstep; rw [if_neg (by omega)]
theorem str_eq {a b : ByteArray} (h : (a.toList == b.toList) = true) : a = b := by
  rw [beq_iff_eq, ByteArray.toList_eq, ByteArray.toList_eq] at h
  obtain ⟨⟨a⟩⟩ := a
  obtain ⟨⟨b⟩⟩ := b
  have e : a = b := h
  rw [e]
theorem str_ne {a b : ByteArray} (h : (a.toList == b.toList) = false) : a ≠ b := by
  rintro rfl
  simp at h
def lim11 : Nat := 100000000000
/-- The end of spec's ParseInt: what it has counted decides. -/
theorem parse_end (s : ByteArray) (k : Nat) (hk : k = min s.size 11) (n c : Nat) (h : dfold ((numsOf s).take k) = (n, c)) (v : Int) (hv : v = if (numsOf s).getD 0 0 = 45 then -(n : Int) else n) :
    (parseOk s = true ↔ (c ≤ 9 ∧ s.size ≤ 10 ∧ itoaS v = s)) ∧ (parseOk s = true → parseV s = v) := by
  have hall : s.size ≤ 10 → dfold (numsOf s) = (n, c) ∧ valL (numsOf s) = v := by
    intro h10
    have : (numsOf s).take k = numsOf s := by rw [List.take_of_length_le]; rw [numsOf_length]; omega
    rw [this] at h
    refine ⟨h, ?_⟩
    rw [hv, valL, h]
  have hsize : parseOk s = true → c ≤ 9 ∧ s.size ≤ 10 ∧ itoaS v = s := by
    intro hp
    obtain ⟨m, m0, m1, e⟩ := parseOk_eq hp
    have hs := numL_short m m0 m1
    have h10 : s.size ≤ 10 := by rw [e, itoaS_size]; exact hs.1
    obtain ⟨h1, h2⟩ := hall h10
    have hn : numsOf s = numL m := by rw [e, numsOf_itoa]
    rw [hn] at h1 h2
    rw [valL_numL] at h2
    rw [h1] at hs
    exact ⟨hs.2, h10, by rw [← h2, e]⟩
  refine ⟨⟨hsize, fun ⟨h9, h10, he⟩ => ?_⟩, fun hp => ?_⟩
  · obtain ⟨h1, h2⟩ := hall h10
    exact (parse_yes (by rw [h1]; exact h9) (by rw [h2]; exact he)).1
  · obtain ⟨h9, h10, he⟩ := hsize hp
    rw [parseV, if_pos hp, (hall h10).2]
set_option maxRecDepth 20000 in
set_option maxHeartbeats 1000000 in
theorem c_spec_ParseInt (s : ByteArray) (w : World) (hs : s.size ≤ 1048576) :
    Calls Tryz.prog 64 #[.string s] w fun e w' => e = .returned (.tuple #[.int .i64 (parseV s), .bool (parseOk s)]) ∧ Below w.heap.size w w' := by
  go_enter Tryz.func64, Tryz.ntmps64
  go_wp2
  go_loopw [4, 5, 6] (fun nv kv iv wr => ∃ (j n k : Nat), iv = .int .i64 (j : Int) ∧ j ≤ s.size ∧ j ≤ 11 ∧ dfold ((numsOf s).take j) = (n, k) ∧ nv = .int .i64 (n : Int) ∧ kv = .int .i64 (k : Int) ∧ wr = w) (fun _ _ iv _ => 11 - (intOf iv).toNat)
  case atStart => exact ⟨0, 0, 0, rfl, by omega, by omega, rfl, rfl, rfl, rfl⟩
  case round =>
    obtain ⟨j, n, k, rfl, hj, hj11, hd, rfl, rfl, rfl⟩ := hrel
    by_cases hlt : j < s.size ∧ j < 11
    · obtain ⟨hl, h11⟩ := hlt
      have hsm := dfold_small s j (by omega)
      rw [hd] at hsm
      simp only at hsm
      obtain ⟨hn, hk⟩ := hsm
      have hst := dfold_take s j hl
      rw [hd] at hst
      have hc0 : 0 ≤ ((s[j].toNat : Int)) ∧ (s[j].toNat : Int) ≤ 255 := by have := s[j].toNat_lt; omega
      have hl2 : (j : Int) < (s.size : Int) := by omega
      by_cases hlo : (s[j].toNat : Int) < 48
      · rw [dstep_no n k _ (.inl hlo)] at hst
        have HS := Lib.hid hst
        clear hst hd hn hk
        go_wp2
        go_roundw
        case rel => exact ⟨j + 1, n, k, by go_num, by omega, by omega, HS.out, rfl, rfl, by first | rfl | trivial⟩
        case measure => simp [intOf]; omega
      · by_cases hhi : 57 < (s[j].toNat : Int)
        · rw [dstep_no n k _ (.inr hhi)] at hst
          have HS := Lib.hid hst
          clear hst hd hn hk
          go_wp2
          go_roundw
          case rel => exact ⟨j + 1, n, k, by go_num, by omega, by omega, HS.out, rfl, rfl, by first | rfl | trivial⟩
          case measure => simp [intOf]; omega
        · have g0 : 48 ≤ (s[j].toNat : Int) := by omega
          have g1 : (s[j].toNat : Int) ≤ 57 := by omega
          rw [dstep_yes n k _ g0 g1] at hst
          have hw0 : IntKind.u8.wrap ((s[j].toNat : Int) - 48) = (s[j].toNat : Int) - 48 := IntWalk.u8_in _ (by omega)
          have hw1 : IntKind.i64.wrap ((n : Int) * 10) = (n : Int) * 10 := IntWalk.i64_in _ (by omega)
          have hw2 : IntKind.i64.wrap ((s[j].toNat : Int) - 48) = (s[j].toNat : Int) - 48 := IntWalk.i64_in _ (by omega)
          have hw3 : IntKind.i64.wrap ((n : Int) * 10 + ((s[j].toNat : Int) - 48)) = (n : Int) * 10 + ((s[j].toNat : Int) - 48) := IntWalk.i64_in _ (by omega)
          have hw4 : IntKind.i64.wrap ((k : Int) + 1) = (k : Int) + 1 := IntWalk.i64_in _ (by omega)
          have HS := Lib.hid hst
          have HE := Lib.hid (show ((n * 10 + ((s[j].toNat : Int) - 48).toNat : Nat) : Int) = (n : Int) * 10 + ((s[j].toNat : Int) - 48) by omega)
          clear hst hd hn hk hlo hhi
          go_wp2
          go_roundw
          case rel => exact ⟨j + 1, n * 10 + ((s[j].toNat : Int) - 48).toNat, k + 1, by go_num, by omega, by omega, HS.out, by rw [HE.out], by go_num, by first | rfl | trivial⟩
          case measure => simp [intOf]; omega
    · have hjm : j = min s.size 11 := by omega
      have hsm := dfold_lt ((numsOf s).take j)
      have hse := dfold_le ((numsOf s).take j)
      rw [List.length_take] at hse
      rw [hd] at hsm hse
      simp only at hsm hse
      have hn : n < 100000000000 := Nat.lt_of_lt_of_le hsm (Nat.le_trans (Nat.pow_le_pow_right (by decide) (show k ≤ 11 by omega)) (by decide))
      have hend := parse_end s j hjm n k hd
      have fin : ∀ (v : Int), v = (if (numsOf s).getD 0 0 = 45 then -(n : Int) else n) → ((parseOk s = true ↔ (k ≤ 9 ∧ s.size ≤ 10 ∧ itoaS v = s)) ∧ (parseOk s = true → parseV s = v)) := hend
      clear hend hsm hse hd hjm
      have FIN := Lib.hid fin
      clear fin
      have HBN := Lib.hid (show n < lim11 from hn)
      clear hn
      have hex : ¬ ((j : Int) < (s.size : Int)) ∨ (((j : Int) < (s.size : Int)) ∧ ¬ ((j : Int) < 11)) := by omega
      clear hlt hj hj11
      rcases hex with hA | ⟨hA, hB⟩
      all_goals
        rcases Nat.eq_zero_or_pos s.size with h0 | h0
        · have hz : (numsOf s).getD 0 0 = 0 := by
            have : numsOf s = [] := List.eq_nil_of_length_eq_zero (by rw [numsOf_length]; exact h0)
            rw [this]; rfl
          have HZ := Lib.hid hz
          clear hz
          obtain ⟨f1, f2⟩ := FIN.out (n : Int) (by rw [if_neg (by rw [HZ.out]; decide)])
          clear FIN
          by_cases hk9 : 9 < k
          · have hp : parseOk s = false := by
              cases hb : parseOk s with
              | false => rfl
              | true => exact absurd (f1.1 hb).1 (by omega)
            have hv : parseV s = 0 := by rw [parseV, hp]; rfl
            have HP := Lib.hid hp
            have HV := Lib.hid hv
            clear f1 f2 hp hv
            go_wp2
            all_goals (go_ret2; exact ⟨by rw [HP.out, HV.out]; rfl, Below.refl _ _⟩)
          · by_cases h10 : 10 < s.size
            · have hp : parseOk s = false := by
                cases hb : parseOk s with
                | false => rfl
                | true => exact absurd (f1.1 hb).2.1 (by omega)
              have hv : parseV s = 0 := by rw [parseV, hp]; rfl
              have HP := Lib.hid hp
              have HV := Lib.hid hv
              clear f1 f2 hp hv
              go_wp2
              all_goals (go_ret2; exact ⟨by rw [HP.out, HV.out]; rfl, Below.refl _ _⟩)
            · cases hq : ((itoaS (n : Int)).toList == s.toList) with
              | false =>
                have hp : parseOk s = false := by
                  cases hb : parseOk s with
                  | false => rfl
                  | true => exact absurd (f1.1 hb).2.2 (str_ne hq)
                have hv : parseV s = 0 := by rw [parseV, hp]; rfl
                have HP := Lib.hid hp
                have HV := Lib.hid hv
                clear f1 f2 hp hv
                go_wp2_with (go_at_call 49; refine (c_spec_FormatInt _ _ (by have := HBN.out; simp only [lim11] at this; omega) (by have := HBN.out; simp only [lim11] at this; omega)).mono ?_; rintro e w1 ⟨rfl, hb1⟩)
                all_goals (go_ret2; exact ⟨by rw [HP.out, HV.out]; rfl, hb1⟩)
              | true =>
                have hp : parseOk s = true := f1.2 ⟨by omega, by omega, str_eq hq⟩
                have hv := f2 hp
                have HP := Lib.hid hp
                have HV := Lib.hid hv
                clear f1 f2 hp hv
                go_wp2_with (go_at_call 49; refine (c_spec_FormatInt _ _ (by have := HBN.out; simp only [lim11] at this; omega) (by have := HBN.out; simp only [lim11] at this; omega)).mono ?_; rintro e w1 ⟨rfl, hb1⟩)
                all_goals (go_ret2; exact ⟨by rw [HP.out, HV.out]; rfl, hb1⟩)
        · have e0 := numsOf_getD s 0 h0
          have HZ := Lib.hid e0
          clear e0
          have hc0 : 0 ≤ ((s[0].toNat : Int)) ∧ (s[0].toNat : Int) ≤ 255 := by have := s[0].toNat_lt; omega
          cases h45 : ((s[0].toNat : Int) == 45) with
          | true =>
            have hwn : IntKind.i64.wrap (-(n : Int)) = -(n : Int) := IntWalk.i64_in _ (by have := HBN.out; simp only [lim11] at this; omega)
            obtain ⟨f1, f2⟩ := FIN.out (-(n : Int)) (by rw [HZ.out, if_pos (by simpa using h45)])
            clear FIN
            by_cases hk9 : 9 < k
            · have hp : parseOk s = false := by
                cases hb : parseOk s with
                | false => rfl
                | true => exact absurd (f1.1 hb).1 (by omega)
              have hv : parseV s = 0 := by rw [parseV, hp]; rfl
              have HP := Lib.hid hp
              have HV := Lib.hid hv
              clear f1 f2 hp hv
              go_wp2
              all_goals (go_ret2; exact ⟨by rw [HP.out, HV.out]; rfl, Below.refl _ _⟩)
            · by_cases h10 : 10 < s.size
              · have hp : parseOk s = false := by
                  cases hb : parseOk s with
                  | false => rfl
                  | true => exact absurd (f1.1 hb).2.1 (by omega)
                have hv : parseV s = 0 := by rw [parseV, hp]; rfl
                have HP := Lib.hid hp
                have HV := Lib.hid hv
                clear f1 f2 hp hv
                go_wp2
                all_goals (go_ret2; exact ⟨by rw [HP.out, HV.out]; rfl, Below.refl _ _⟩)
              · cases hq : ((itoaS (-(n : Int))).toList == s.toList) with
                | false =>
                  have hp : parseOk s = false := by
                    cases hb : parseOk s with
                    | false => rfl
                    | true => exact absurd (f1.1 hb).2.2 (str_ne hq)
                  have hv : parseV s = 0 := by rw [parseV, hp]; rfl
                  have HP := Lib.hid hp
                  have HV := Lib.hid hv
                  clear f1 f2 hp hv
                  go_wp2_with (go_at_call 49; refine (c_spec_FormatInt _ _ (by have := HBN.out; simp only [lim11] at this; omega) (by have := HBN.out; simp only [lim11] at this; omega)).mono ?_; rintro e w1 ⟨rfl, hb1⟩)
                  all_goals (go_ret2; exact ⟨by rw [HP.out, HV.out]; rfl, hb1⟩)
                | true =>
                  have hp : parseOk s = true := f1.2 ⟨by omega, by omega, str_eq hq⟩
                  have hv := f2 hp
                  have HP := Lib.hid hp
                  have HV := Lib.hid hv
                  clear f1 f2 hp hv
                  go_wp2_with (go_at_call 49; refine (c_spec_FormatInt _ _ (by have := HBN.out; simp only [lim11] at this; omega) (by have := HBN.out; simp only [lim11] at this; omega)).mono ?_; rintro e w1 ⟨rfl, hb1⟩)
                  all_goals (go_ret2; exact ⟨by rw [HP.out, HV.out]; rfl, hb1⟩)
          | false =>
            obtain ⟨f1, f2⟩ := FIN.out (n : Int) (by rw [HZ.out, if_neg (by simpa using h45)])
            clear FIN
            by_cases hk9 : 9 < k
            · have hp : parseOk s = false := by
                cases hb : parseOk s with
                | false => rfl
                | true => exact absurd (f1.1 hb).1 (by omega)
              have hv : parseV s = 0 := by rw [parseV, hp]; rfl
              have HP := Lib.hid hp
              have HV := Lib.hid hv
              clear f1 f2 hp hv
              go_wp2
              all_goals (go_ret2; exact ⟨by rw [HP.out, HV.out]; rfl, Below.refl _ _⟩)
            · by_cases h10 : 10 < s.size
              · have hp : parseOk s = false := by
                  cases hb : parseOk s with
                  | false => rfl
                  | true => exact absurd (f1.1 hb).2.1 (by omega)
                have hv : parseV s = 0 := by rw [parseV, hp]; rfl
                have HP := Lib.hid hp
                have HV := Lib.hid hv
                clear f1 f2 hp hv
                go_wp2
                all_goals (go_ret2; exact ⟨by rw [HP.out, HV.out]; rfl, Below.refl _ _⟩)
              · cases hq : ((itoaS (n : Int)).toList == s.toList) with
                | false =>
                  have hp : parseOk s = false := by
                    cases hb : parseOk s with
                    | false => rfl
                    | true => exact absurd (f1.1 hb).2.2 (str_ne hq)
                  have hv : parseV s = 0 := by rw [parseV, hp]; rfl
                  have HP := Lib.hid hp
                  have HV := Lib.hid hv
                  clear f1 f2 hp hv
                  go_wp2_with (go_at_call 49; refine (c_spec_FormatInt _ _ (by have := HBN.out; simp only [lim11] at this; omega) (by have := HBN.out; simp only [lim11] at this; omega)).mono ?_; rintro e w1 ⟨rfl, hb1⟩)
                  all_goals (go_ret2; exact ⟨by rw [HP.out, HV.out]; rfl, hb1⟩)
                | true =>
                  have hp : parseOk s = true := f1.2 ⟨by omega, by omega, str_eq hq⟩
                  have hv := f2 hp
                  have HP := Lib.hid hp
                  have HV := Lib.hid hv
                  clear f1 f2 hp hv
                  go_wp2_with (go_at_call 49; refine (c_spec_FormatInt _ _ (by have := HBN.out; simp only [lim11] at this; omega) (by have := HBN.out; simp only [lim11] at this; omega)).mono ?_; rintro e w1 ⟨rfl, hb1⟩)
                  all_goals (go_ret2; exact ⟨by rw [HP.out, HV.out]; rfl, hb1⟩)
end Go.Proofs.YtfcgijnfiiaepaaGreatDoor
