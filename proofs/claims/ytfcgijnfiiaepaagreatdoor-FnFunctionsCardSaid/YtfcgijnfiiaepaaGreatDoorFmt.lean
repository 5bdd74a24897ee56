/- Contract of spec's FormatInt: the decimal numeral. -/
import Derived.Test.YtfcgijnfiiaepaaGreatDoorKit
import Derived.Test.YtfcgijnfiiaepaaGreatDoorProg
import Derived.Lib.ItoaNum
namespace Go.Proofs.YtfcgijnfiiaepaaGreatDoor
set_option linter.unusedSimpArgs false
set_option linter.unusedVariables false
open Go.RowKit

/-- The digits of u, as numbers; of 0 none. -/
def digL (u : Nat) : List Int := if u = 0 then [] else (Go.Lib.decDigits u).map fun b => (b.toNat : Int)
theorem digL_zero : digL 0 = [] := rfl
theorem digit_nat {d : Nat} (h : d < 10) : ((UInt8.ofNat (48 + d)).toNat : Int) = 48 + (d : Int) := by
  have : (UInt8.ofNat (48 + d)).toNat = 48 + d := by
    rw [UInt8.toNat_ofNat']
    omega
  rw [this]
  push_cast
  rfl
theorem digL_step {u : Nat} (h : 0 < u) : digL u = digL (u / 10) ++ [48 + ((u % 10 : Nat) : Int)] := by
  unfold digL
  rw [if_neg (by omega), Go.Lib.decDigits]
  by_cases h10 : u < 10
  · rw [dif_pos h10, if_pos (by omega)]
    have hu : u % 10 = u := by omega
    simp only [List.map_cons, List.map_nil, List.nil_append, hu]
    rw [digit_nat h10]
  · rw [dif_neg h10, if_neg (by omega), List.map_append]
    simp only [List.map_cons, List.map_nil]
    rw [digit_nat (by omega)]
theorem digL_str {u : Nat} (h : 0 < u) : strOfNums (digL u) = ⟨(Go.Lib.decDigits u).toArray⟩ := by
  unfold digL strOfNums
  rw [if_neg (by omega), List.map_map]
  congr 2
  conv => rhs; rw [← List.map_id (Go.Lib.decDigits u)]
  apply List.map_congr_left
  intro b _
  simp
theorem itoa_pos {u : Nat} (h : 0 < u) : Go.Lib.itoa (u : Int) = Go.Lib.decDigits u := by
  rw [Go.Lib.itoa, if_neg (by omega)]
  rfl
theorem itoa_neg {u : Nat} (h : 0 < u) : Go.Lib.itoa (-(u : Int)) = 45 :: Go.Lib.decDigits u := by
  rw [Go.Lib.itoa, if_pos (by omega)]
  simp
theorem tdiv_neg (u : Nat) : Int.tdiv (-(u : Int)) 10 = -((u / 10 : Nat) : Int) := by
  rw [Int.neg_tdiv, Int.tdiv_eq_ediv_of_nonneg (by omega)]
  push_cast
  rfl
theorem tmod_neg (u : Nat) : Int.tmod (-(u : Int)) 10 = -((u % 10 : Nat) : Int) := by
  rw [Int.neg_tmod, Int.tmod_eq_emod_of_nonneg (by omega)]
  push_cast
  rfl
set_option maxRecDepth 20000 in
set_option maxHeartbeats 1000000 in
theorem c_spec_FormatInt_pos (N : Nat) (w : World) (h0 : 0 < N) (h1 : N ≤ 9223372036854775807) :
    Calls Tryz.prog 49 #[.int .i64 N] w fun e w' => e = .returned (.string ⟨(Go.Lib.itoa (N : Int)).toArray⟩) ∧ Below w.heap.size w w' := by
  rw [itoa_pos h0, ← digL_str h0]
  have hne : ((N : Int) == 0) = false := by rw [beq_eq_false_iff_ne]; omega
  have hlt : ¬ (N : Int) < 0 := by omega
  go_enter Tryz.func49, Tryz.ntmps49
  go_wp2_with fail
  go_loopw [0, 3] (fun nv sv wr => ∃ (k u : Nat) (l : List Int), nv = .int .i64 (u : Int) ∧ u = N / 10 ^ k ∧ sv = .string (strOfNums l) ∧ l.length = k ∧ digL u ++ l = digL N ∧ Below w.heap.size w wr) (fun nv _ _ => (intOf nv).toNat)
  case atStart => exact ⟨0, N, [], rfl, by simp, rfl, rfl, by simp, Below.refl _ _⟩
  case round =>
    clear hne hlt
    obtain ⟨k, u, l, rfl, hu, rfl, hl, hd, hb⟩ := hrel
    have hB : w.heap.size ≤ wr.heap.size := hb.size
    by_cases hz : u = 0
    · subst hz
      rw [digL_zero, List.nil_append] at hd
      subst hd
      clear hu hl
      go_wp2
      go_ret
      exact ⟨rfl, hb⟩
    · have hk : k < 19 := by
        rcases Nat.lt_or_ge k 19 with h | h
        · exact h
        · exfalso
          apply hz
          rw [hu]
          apply Nat.div_eq_of_lt
          exact Nat.lt_of_lt_of_le (by omega : N < 10 ^ 19) (Nat.pow_le_pow_right (by decide) h)
      have hun : u ≤ N := by rw [hu]; exact Nat.div_le_self _ _
      have hnext : u / 10 = N / 10 ^ (k + 1) := by rw [hu, Nat.div_div_eq_div_mul, Nat.pow_succ]
      have hst := digL_step (u := u) (by omega)
      obtain ⟨d, hdd⟩ : ∃ d, d = u % 10 := ⟨_, rfl⟩
      obtain ⟨v, hv⟩ : ∃ v, v = u / 10 := ⟨_, rfl⟩
      rw [← hdd, ← hv] at hst
      rw [← hv] at hnext
      rw [hst, List.append_assoc] at hd
      have hmod : Int.tmod (u : Int) 10 = (d : Int) := by rw [Int.tmod_eq_emod_of_nonneg (by omega), hdd]; push_cast; rfl
      have hmod' : (u : Int) % 10 = (d : Int) := by rw [hdd]; push_cast; rfl
      have hdiv : Int.tdiv (u : Int) 10 = (v : Int) := by rw [Int.tdiv_eq_ediv_of_nonneg (by omega), hv]; push_cast; rfl
      have hdiv' : (u : Int) / 10 = (v : Int) := by rw [hv]; push_cast; rfl
      have hd10 : d < 10 := by rw [hdd]; exact Nat.mod_lt _ (by decide)
      have hvu : v < u := by omega
      have hune : ((u : Int) != 0) = true := by rw [bne_iff_ne]; omega
      have hdn : ¬ (d : Int) < 0 := by omega
      have hw1 : IntKind.i64.wrap (48 + (d : Int)) = 48 + (d : Int) := IntWalk.i64_in _ (by omega)
      have hw2 : IntKind.u8.wrap (48 + (d : Int)) = 48 + (d : Int) := IntWalk.u8_in _ (by omega)
      have hw3 : IntKind.i64.wrap (v : Int) = v := IntWalk.i64_in _ (by omega)
      have hlit := OwnI.lit wr w.heap.size 5 .u8 [48 + (d : Int)] hB (by simp)
      have hc1 : (convert 22 9 (.slice (some ⟨wr.heap.size, 0, none⟩) 1 1)).run Tryz.prog (wr.alloc (.cells #[.int .u8 (48 + (d : Int))] 5)) = .ok (.string (strOfNums [48 + (d : Int)])) (wr.alloc (.cells #[.int .u8 (48 + (d : Int))] 5)) :=
        run_string_own Tryz.underlying22 Tryz.underlying5 hlit 9 Tryz.underlying9
      have hb1 := hb.alloc hB (.cells #[.int .u8 (48 + (d : Int))] 5)
      have hsz : (strOfNums l).size = k := by rw [strOfNums_size, hl]
      have hsz1 : (strOfNums [48 + (d : Int)]).size = 1 := by rw [strOfNums_size]; rfl
      have hadd := run_string_add_sum (P := Tryz.prog) (wr.alloc (.cells #[.int .u8 (48 + (d : Int))] 5)) (strOfNums [48 + (d : Int)]) (strOfNums l) (by omega)
      rw [strOfNums_append] at hadd
      have HNX := Lib.hid hnext
      have HDL := Lib.hid hd
      have HL := Lib.hid (show ([48 + (d : Int)] ++ l).length = k + 1 by simp [hl])
      have HB := Lib.hid hb1
      clear hb1 hb hlit hsz hsz1 hst hd hnext hdd hv hu hl
      go_wp2
      go_roundw
      case rel => exact ⟨k + 1, v, [48 + (d : Int)] ++ l, rfl, HNX.out, rfl, HL.out, HDL.out, HB.out⟩
      case measure => simp [intOf]; omega
set_option maxRecDepth 20000 in
set_option maxHeartbeats 1000000 in
theorem c_spec_FormatInt_neg (N : Nat) (w : World) (h0 : 0 < N) (h1 : N ≤ 9223372036854775808) :
    Calls Tryz.prog 49 #[.int .i64 (-(N : Int))] w fun e w' => e = .returned (.string ⟨(Go.Lib.itoa (-(N : Int))).toArray⟩) ∧ Below w.heap.size w w' := by
  have hfin : (⟨(Go.Lib.itoa (-(N : Int))).toArray⟩ : ByteArray) = strOfNums ([45] ++ digL N) := by rw [itoa_neg h0, ← strOfNums_append, digL_str h0]; rfl
  rw [hfin]
  clear hfin
  have hne : ((-(N : Int)) == 0) = false := by rw [beq_eq_false_iff_ne]; omega
  have hlt : (-(N : Int)) < 0 := by omega
  go_enter Tryz.func49, Tryz.ntmps49
  go_wp2_with fail
  go_loopw [0, 3] (fun nv sv wr => ∃ (k u : Nat) (l : List Int), nv = .int .i64 (-(u : Int)) ∧ u = N / 10 ^ k ∧ sv = .string (strOfNums l) ∧ l.length = k ∧ k < 20 ∧ digL u ++ l = digL N ∧ Below w.heap.size w wr) (fun nv _ _ => (intOf nv).natAbs)
  case atStart => exact ⟨0, N, [], rfl, by simp, rfl, rfl, by omega, by simp, Below.refl _ _⟩
  case round =>
    clear hne hlt
    obtain ⟨k, u, l, rfl, hu, rfl, hl, hk20, hd, hb⟩ := hrel
    have hB : w.heap.size ≤ wr.heap.size := hb.size
    by_cases hz : u = 0
    · subst hz
      rw [digL_zero, List.nil_append] at hd
      subst hd
      have hadd := run_string_add_sum (P := Tryz.prog) wr (strOfNums [45]) (strOfNums (digL N)) (by rw [strOfNums_size, strOfNums_size, hl]; have : k < 20 := hk20; simp; omega)
      rw [strOfNums_append] at hadd
      have h45 : strOfNums [45] = ⟨#[45]⟩ := rfl
      rw [h45] at hadd
      clear hu hl
      go_wp2
      go_ret
      exact ⟨rfl, hb⟩
    · have hk : k < 19 := by
        rcases Nat.lt_or_ge k 19 with h | h
        · exact h
        · exfalso
          apply hz
          rw [hu]
          apply Nat.div_eq_of_lt
          exact Nat.lt_of_lt_of_le (by omega : N < 10 ^ 19) (Nat.pow_le_pow_right (by decide) h)
      have hun : u ≤ N := by rw [hu]; exact Nat.div_le_self _ _
      have hnext : u / 10 = N / 10 ^ (k + 1) := by rw [hu, Nat.div_div_eq_div_mul, Nat.pow_succ]
      have hst := digL_step (u := u) (by omega)
      obtain ⟨d, hdd⟩ : ∃ d, d = u % 10 := ⟨_, rfl⟩
      obtain ⟨v, hv⟩ : ∃ v, v = u / 10 := ⟨_, rfl⟩
      rw [← hdd, ← hv] at hst
      rw [← hv] at hnext
      rw [hst, List.append_assoc] at hd
      have hmod : Int.tmod (-(u : Int)) 10 = -(d : Int) := by rw [tmod_neg, hdd]
      have hdiv : Int.tdiv (-(u : Int)) 10 = -(v : Int) := by rw [tdiv_neg, hv]
      have hd10 : d < 10 := by rw [hdd]; exact Nat.mod_lt _ (by decide)
      have hvu : v < u := by omega
      have hune : ((-(u : Int)) != 0) = true := by rw [bne_iff_ne]; omega
      have hw1 : IntKind.i64.wrap (48 + (d : Int)) = 48 + (d : Int) := IntWalk.i64_in _ (by omega)
      have hw2 : IntKind.u8.wrap (48 + (d : Int)) = 48 + (d : Int) := IntWalk.u8_in _ (by omega)
      have hw3 : IntKind.i64.wrap (-(v : Int)) = -(v : Int) := IntWalk.i64_in _ (by omega)
      have hw4 : IntKind.i64.wrap (d : Int) = d := IntWalk.i64_in _ (by omega)
      have hlit := OwnI.lit wr w.heap.size 5 .u8 [48 + (d : Int)] hB (by simp)
      have hc1 : (convert 22 9 (.slice (some ⟨wr.heap.size, 0, none⟩) 1 1)).run Tryz.prog (wr.alloc (.cells #[.int .u8 (48 + (d : Int))] 5)) = .ok (.string (strOfNums [48 + (d : Int)])) (wr.alloc (.cells #[.int .u8 (48 + (d : Int))] 5)) :=
        run_string_own Tryz.underlying22 Tryz.underlying5 hlit 9 Tryz.underlying9
      have hb1 := hb.alloc hB (.cells #[.int .u8 (48 + (d : Int))] 5)
      have hsz : (strOfNums l).size = k := by rw [strOfNums_size, hl]
      have hsz1 : (strOfNums [48 + (d : Int)]).size = 1 := by rw [strOfNums_size]; rfl
      have hadd := run_string_add_sum (P := Tryz.prog) (wr.alloc (.cells #[.int .u8 (48 + (d : Int))] 5)) (strOfNums [48 + (d : Int)]) (strOfNums l) (by omega)
      rw [strOfNums_append] at hadd
      have HNX := Lib.hid hnext
      have HDL := Lib.hid hd
      have HL := Lib.hid (show ([48 + (d : Int)] ++ l).length = k + 1 by simp [hl])
      have HB := Lib.hid hb1
      clear hb1 hb hlit hsz hsz1 hst hd hnext hdd hv hu hl
      by_cases hd0 : d = 0
      · have hnd : -(d : Int) = (d : Int) := by omega
        have hdn : ¬ (d : Int) < 0 := by omega
        clear hd0
        go_wp2
        go_roundw
        case rel => exact ⟨k + 1, v, [48 + (d : Int)] ++ l, rfl, HNX.out, rfl, HL.out, by omega, HDL.out, HB.out⟩
        case measure => simp [intOf]; omega
      · have hdn : (-(d : Int)) < 0 := by omega
        go_wp2
        go_roundw
        case rel => exact ⟨k + 1, v, [48 + (d : Int)] ++ l, rfl, HNX.out, rfl, HL.out, by omega, HDL.out, HB.out⟩
        case measure => simp [intOf]; omega
end Go.Proofs.YtfcgijnfiiaepaaGreatDoor
