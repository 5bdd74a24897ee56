/- Contracts of DecodeHex of both packages. -/
import Derived.Test.YtfcgijnfiiaepaaDoorHex
import Derived.Test.YtfcgijnfiiaepaaDoorShelf
namespace Go.Proofs.YtfcgijnfiiaepaaDoor
set_option linter.unusedSimpArgs false
set_option linter.unusedVariables false
open Go.RowKit

/-- The value of a lowercase hexadecimal digit, -1 for any other byte. -/
def hexV (c : Int) : Int := if 48 ≤ c ∧ c ≤ 57 then c - 48 else if 97 ≤ c ∧ c ≤ 102 then c - 87 else -1
theorem hexV_of (k c : Int) (h0 : 0 ≤ k) (h1 : k < 16) (h : hexD k = c) : hexV c = k := by
  unfold hexD at h; unfold hexV
  split at h
  · rw [if_pos (by omega)]; omega
  · rw [if_neg (by omega), if_pos (by omega)]; omega
theorem hexV_none (c : Int) (h : ∀ k : Nat, k < 16 → hexD k ≠ c) : hexV c = -1 := by
  unfold hexV
  split
  · exact absurd (by unfold hexD; rw [if_pos (by omega)]; omega) (h (c - 48).toNat (by omega))
  · split
    · exact absurd (by unfold hexD; rw [if_neg (by omega)]; omega) (h (c - 87).toNat (by omega))
    · rfl
theorem hexV_bd (c : Int) : -1 ≤ hexV c ∧ hexV c < 16 := by
  unfold hexV
  split
  · omega
  · split <;> omega
/-- Pair j of the numbers l is two digits. -/
def pairOk (l : List Int) (j : Nat) : Bool := decide (0 ≤ hexV (l.getD (2 * j) 0)) && decide (0 ≤ hexV (l.getD (2 * j + 1) 0))
def pairV (l : List Int) (j : Nat) : Int := 16 * hexV (l.getD (2 * j) 0) + hexV (l.getD (2 * j + 1) 0)
def hexOk (l : List Int) : Bool := decide (l.length % 2 = 0) && (List.range (l.length / 2)).all (pairOk l)
def pairs (l : List Int) (k : Nat) : List Int := (List.range k).map (pairV l)
theorem pairs_succ (l : List Int) (k : Nat) : pairs l (k + 1) = pairs l k ++ [pairV l k] := by simp [pairs, List.range_succ]
theorem pairs_length (l : List Int) (k : Nat) : (pairs l k).length = k := by simp [pairs]
/-- What DecodeHex returns. -/
def decHex (s : ByteArray) : ByteArray := if hexOk (numsOf s) then strOfNums (pairs (numsOf s) (s.size / 2)) else ⟨#[]⟩
theorem hexOk_odd (s : ByteArray) (h : s.size % 2 = 1) : hexOk (numsOf s) = false := by
  simp [hexOk, numsOf_length]; omega
theorem hexOk_bad (s : ByteArray) (k : Nat) (hk : 2 * k + 1 < s.size) (h : pairOk (numsOf s) k = false) : hexOk (numsOf s) = false := by
  have : ¬ hexOk (numsOf s) = true := fun h2 => by
    simp only [hexOk, Bool.and_eq_true, List.all_eq_true, List.mem_range] at h2
    rw [h2.2 k (by rw [numsOf_length]; omega)] at h
    cases h
  simpa using this
theorem hexOk_all (s : ByteArray) (h : s.size % 2 = 0) (ha : ∀ j, j < s.size / 2 → pairOk (numsOf s) j = true) : hexOk (numsOf s) = true := by
  simp only [hexOk, Bool.and_eq_true, List.all_eq_true, List.mem_range, decide_eq_true_eq, numsOf_length]
  exact ⟨h, ha⟩

theorem indexByte_hex (c : Int) (h0 : 0 ≤ c) (h1 : c < 256) : Lib.indexByte [48, 49, 50, 51, 52, 53, 54, 55, 56, 57, 97, 98, 99, 100, 101, 102] c.toNat.toUInt8 = hexV c := by
  have key : ∀ k : Fin 256, Lib.indexByte [48, 49, 50, 51, 52, 53, 54, 55, 56, 57, 97, 98, 99, 100, 101, 102] k.val.toUInt8 = hexV (k.val : Int) := by decide +kernel
  have := key ⟨c.toNat, by omega⟩
  rw [this]
  congr 1
  show (c.toNat : Int) = c
  omega
theorem c_IndexHex (c : Int) (h0 : 0 ≤ c) (h1 : c < 256) (w : World) :
    Calls Tryd.prog 37 #[.string ⟨#[48, 49, 50, 51, 52, 53, 54, 55, 56, 57, 97, 98, 99, 100, 101, 102]⟩, .int .u8 c] w fun e w' => e = .returned (.int .i64 (hexV c)) ∧ w = w' := by
  refine (Tryd.strings_IndexByte ⟨#[48, 49, 50, 51, 52, 53, 54, 55, 56, 57, 97, 98, 99, 100, 101, 102]⟩ c w).mono ?_
  rintro e w' ⟨rfl, rfl⟩
  exact ⟨ret_int (indexByte_hex c h0 h1), rfl⟩
theorem i64_or_16 (a b : Int) (h0 : 0 ≤ a) (h1 : a < 16) (h2 : 0 ≤ b) (h3 : b < 16) : bits .or .i64 (a * 16) b = 16 * a + b := by
  obtain ⟨a, rfl⟩ := Int.eq_ofNat_of_zero_le h0
  obtain ⟨b, rfl⟩ := Int.eq_ofNat_of_zero_le h2
  have e : ((a : Int) * 16) = ((a * 16 : Nat) : Int) := by omega
  rw [e, i64_or_nat _ _ (by omega) (by omega)]
  have := Nat.two_pow_add_eq_or_of_lt (i := 4) (b := b) (by omega) a
  have e2 : 2 ^ 4 * a = a * 16 := by omega
  rw [e2] at this
  omega
set_option maxHeartbeats 400000 in
theorem c_impl_DecodeHex (s : ByteArray) (w : World) (hs : s.size ≤ 1048576) :
    Calls Tryd.prog 20 #[.string s] w fun e w' => e = .returned (.tuple #[.string (decHex s), .bool (hexOk (numsOf s))]) ∧ Below w.heap.size w w' := by
  by_cases hodd : s.size % 2 = 1
  · have hok := hexOk_odd s hodd
    have hd : decHex s = ⟨#[]⟩ := by simp [decHex, hok]
    rw [hok, hd]
    clear hok hd
    have ht : ((s.size : Int) % 2 != 0) = true := by rw [bne_iff_ne]; omega
    clear hodd
    go_enter Tryd.func20, Tryd.ntmps20
    go_wp2
    go_ret2
    exact ⟨rfl, Below.refl _ _⟩
  · have ht : ((s.size : Int) % 2 != 0) = false := by rw [bne_eq_false_iff_eq]; omega
    have HO := Lib.hid hodd; clear hodd
    go_enter Tryd.func20, Tryd.ntmps20
    go_wp2_with (at_make; refine wpList_make0 EB rfl (.const (.int .i64 0)) (.tmp 14) rfl rfl rfl (base := w.heap.size) (n := s.size / 2) ?_ ?_ ?_ ?_; (omega); (omega); (exact Nat.le_refl _); intro w1 hown hgrow)
    go_loopw [4, 5] (fun v i wr => ∃ k m : Nat, i = .int .i64 m ∧ m ≤ 2 * k ∧ 2 * k ≤ m ∧ m ≤ s.size ∧ OwnI wr w.heap.size 5 .u8 v (pairs (numsOf s) k) ∧ (∀ j, j < k → pairOk (numsOf s) j = true) ∧ Below w.heap.size w wr) (fun _ i _ => s.size - (intOf i).toNat)
    case atStart => exact ⟨0, 0, rfl, by omega, by omega, by omega, hown, fun j hj => by omega, (Below.refl _ _).grown hgrow (Nat.le_refl _) (fun _ h => by cases h)⟩
    case round =>
      clear hown hgrow
      obtain ⟨k, m, rfl, hm1, hm2, hms, hown, hall, hb⟩ := hrel
      have HA := Lib.hid hall; clear hall
      have hB : w.heap.size ≤ wr.heap.size := hb.size
      have hplen := pairs_length (numsOf s) k
      by_cases hlt : m < s.size
      · have hlt1 : m + 1 < s.size := by have := HO.out; omega
        have e0 := numsOf_getD s m hlt
        have e1 := numsOf_getD s (m + 1) hlt1
        have hmk : m = 2 * k := by omega
        have hv0 := hexV_bd (s[m].toNat : Int)
        have hv1 := hexV_bd (s[m + 1].toNat : Int)
        have hc0 : 0 ≤ ((s[m].toNat : Int)) ∧ (s[m].toNat : Int) ≤ 255 := by have := s[m].toNat_lt; omega
        have hc1 : 0 ≤ ((s[m + 1].toNat : Int)) ∧ (s[m + 1].toNat : Int) ≤ 255 := by have := s[m + 1].toNat_lt; omega
        by_cases hbad : hexV (s[m].toNat : Int) < 0 ∨ hexV (s[m + 1].toNat : Int) < 0
        · have hp : pairOk (numsOf s) k = false := by
            simp only [pairOk, Bool.and_eq_false_iff, decide_eq_false_iff_not, ← hmk, e0, e1]
            omega
          have hok := hexOk_bad s k (by omega) hp
          have hd : decHex s = ⟨#[]⟩ := by simp [decHex, hok]
          have HOK := Lib.hid hok
          have HD := Lib.hid hd
          clear hok hd hp hmk e0 e1 hplen
          by_cases hneg : hexV (s[m].toNat : Int) < 0
          · clear hbad
            go_wp2_with (go_at_call 37; refine (c_IndexHex _ (by omega) (by omega) _).mono ?_; rintro e w' ⟨rfl, rfl⟩)
            go_ret2
            exact ⟨by rw [HOK.out, HD.out]; rfl, hb⟩
          · have hneg1 : hexV (s[m + 1].toNat : Int) < 0 := by omega
            clear hbad
            go_wp2_with (go_at_call 37; refine (c_IndexHex _ (by omega) (by omega) _).mono ?_; rintro e w' ⟨rfl, rfl⟩)
            go_ret2
            exact ⟨by rw [HOK.out, HD.out]; rfl, hb⟩
        · have hp : pairOk (numsOf s) k = true := by
            simp only [pairOk, Bool.and_eq_true, decide_eq_true_eq, ← hmk, e0, e1]
            omega
          have hpv : pairV (numsOf s) k = 16 * hexV (s[m].toNat : Int) + hexV (s[m + 1].toNat : Int) := by
            simp only [pairV, ← hmk, e0, e1]
          have HP := Lib.hid hp
          have HPV := Lib.hid hpv
          have hg0 : 0 ≤ hexV (s[m].toNat : Int) := by omega
          have hg1 : 0 ≤ hexV (s[m + 1].toNat : Int) := by omega
          have hplen' : (pairs (numsOf s) k).length ≤ k := by omega
          have hor := i64_or_16 _ _ hg0 hv0.2 hg1 hv1.2
          clear hp hpv hmk e0 e1 hbad hplen
          go_wp2_with (first | (go_at_call 37; refine (c_IndexHex _ (by omega) (by omega) _).mono ?_; rintro e w' ⟨rfl, rfl⟩) | (at_builtin; refine wpList_app EB (base := w.heap.size) (v := u4) (xs := pairs (numsOf s) k) (us := [16 * hexV (s[m].toNat : Int) + hexV (s[m + 1].toNat : Int)]) (g := wr.heap.size) (n := 1) (c := 1) rfl (.tmp 37) (.tmp 43) rfl ?_ ?_ rfl rfl rfl ?_ ?_ ?_; (exact hown.alloc _); (exact heap_alloc_new wr _); (show _ + 1 ≤ _; omega); (exact le_alloc hB _); intro v' w1 hown1 hgrow))
          have hb1 : Below w.heap.size w w1 := below_grown (hb.alloc hB _) (hown.alloc _) hgrow (Nat.le_refl _) (le_alloc hB _)
          rw [← HPV.out, ← pairs_succ] at hown1
          go_roundw
          case rel =>
            refine ⟨k + 1, m + 2, by go_num, by omega, by omega, by omega, hown1, fun j hj => ?_, hb1⟩
            rcases Nat.lt_or_eq_of_le (Nat.le_of_lt_succ hj) with h | rfl
            · exact HA.out j h
            · exact HP.out
          case measure => simp [intOf]; omega
      · obtain rfl : m = s.size := by omega
        have hk : k = s.size / 2 := by omega
        have hok := hexOk_all s (by have := HO.out; omega) (fun j hj => HA.out j (by omega))
        have hd : decHex s = strOfNums (pairs (numsOf s) k) := by rw [decHex, if_pos hok, hk]
        have HOK := Lib.hid hok
        have HD := Lib.hid hd
        clear hok hd hk hplen
        have hc1 := run_string_own Tryd.underlying30 Tryd.underlying5 hown 9 Tryd.underlying9
        go_wp2
        go_ret2
        exact ⟨by rw [HOK.out, HD.out]; rfl, hb⟩
end Go.Proofs.YtfcgijnfiiaepaaDoor
