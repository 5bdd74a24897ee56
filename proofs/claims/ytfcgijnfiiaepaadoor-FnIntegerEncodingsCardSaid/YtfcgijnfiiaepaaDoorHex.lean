/- Contracts of EncodeHex, DecodeHex of both packages. -/
import Derived.Test.YtfcgijnfiiaepaaDoorSmall
import Derived.Test.YtfcgijnfiiaepaaDoorKit
import Derived.WalkLawsBesides
namespace Go.Proofs.YtfcgijnfiiaepaaDoor
set_option linter.unusedSimpArgs false
set_option linter.unusedVariables false
open Go.RowKit

theorem EB : IntElem Tryd.prog 30 5 .u8 1 := ⟨Tryd.underlying30, Tryd.underlying5, by kernel_rfl, by decide⟩

/-- The lowercase hexadecimal digit of a number from 0 to 15. -/
def hexD (n : Int) : Int := if n < 10 then 48 + n else 87 + n

def hexL (l : List Int) : List Int := l.flatMap fun b => [hexD (b / 16), hexD (b % 16)]

theorem hexL_length (l : List Int) : (hexL l).length = 2 * l.length := by
  induction l with
  | nil => rfl
  | cons x l ih => simp only [hexL, List.flatMap_cons, List.length_append, List.length_cons, List.length_nil] at ih ⊢; omega
theorem hexL_snoc (s : ByteArray) (k : Nat) (h : k < s.size) : hexL ((numsOf s).take (k + 1)) = hexL ((numsOf s).take k) ++ [hexD ((s[k].toNat : Int) / 16), hexD ((s[k].toNat : Int) % 16)] := by
  rw [List.take_succ_eq_append_getElem (by rw [numsOf_length]; exact h), numsOf_getElem s k h]
  simp [hexL]

theorem idx_hex (n : Int) (h0 : 0 ≤ n) (h1 : n < 16) (w : World) :
    (Instr.index 9 (.string ⟨#[48, 49, 50, 51, 52, 53, 54, 55, 56, 57, 97, 98, 99, 100, 101, 102]⟩) (.int .u8 n)).run Tryd.prog w = .ok (.int .u8 (hexD n)) w := by
  have : n = 0 ∨ n = 1 ∨ n = 2 ∨ n = 3 ∨ n = 4 ∨ n = 5 ∨ n = 6 ∨ n = 7 ∨ n = 8 ∨ n = 9 ∨ n = 10 ∨ n = 11 ∨ n = 12 ∨ n = 13 ∨ n = 14 ∨ n = 15 := by omega
  clear h0 h1
  rcases this with rfl | rfl | rfl | rfl | rfl | rfl | rfl | rfl | rfl | rfl | rfl | rfl | rfl | rfl | rfl | rfl <;> rfl
set_option maxHeartbeats 400000 in
set_option maxRecDepth 100000 in
theorem c_impl_EncodeHex (s : ByteArray) (w : World) (hs : s.size ≤ 1048576) :
    Calls Tryd.prog 19 #[.string s] w fun e w' => e = .returned (.string (strOfNums (hexL (numsOf s)))) ∧ Below w.heap.size w w' := by
  go_enter Tryd.func19, Tryd.ntmps19
  go_wp2_with (at_make; refine wpList_make0 EB rfl (.const (.int .i64 0)) (.tmp 8) rfl rfl rfl (base := w.heap.size) (n := 2 * s.size) ?_ ?_ ?_ ?_; (push_cast; rfl); (omega); (exact Nat.le_refl _); intro w1 hown hgrow)
  go_loopw [4, 5] (fun v i wr => ∃ k : Nat, k ≤ s.size ∧ i = .int .i64 k ∧ OwnI wr w.heap.size 5 .u8 v (hexL ((numsOf s).take k)) ∧ Below w.heap.size w wr) (fun _ i _ => s.size - (intOf i).toNat)
  case atStart => exact ⟨0, Nat.zero_le _, rfl, hown, (Below.refl _ _).grown hgrow (Nat.le_refl _) (fun _ h => by cases h)⟩
  case round =>
    clear hown hgrow
    obtain ⟨k, hk, rfl, hown, hb⟩ := hrel
    by_cases hlt : k < s.size
    · have hki : (k : Int) < (s.size : Int) := by omega
      have hk0 : (0 : Int) ≤ (k : Int) := by omega
      have hc0 : 0 ≤ ((s[k].toNat : Int)) ∧ (s[k].toNat : Int) ≤ 255 := by have := s[k].toNat_lt; omega
      have hB : w.heap.size ≤ wr.heap.size := hb.size
      have hlen := hexL_length ((numsOf s).take k)
      have htl : ((numsOf s).take k).length ≤ k := List.length_take_le _ _
      have hi1 := fun w => idx_hex ((s[k].toNat : Int) / 16) (by omega) (by omega) w
      have hi2 := fun w => idx_hex ((s[k].toNat : Int) % 16) (by omega) (by omega) w
      have hand : bits BinOp.and IntKind.u8 (s[k].toNat : Int) 15 = (s[k].toNat : Int) % 16 := u8_and15 _ hc0.1 (by omega)
      go_wp2_with fail
      go_region_held3 (fun w' => True) (trivial)
        (first
          | ((refine step_app EB (base := w.heap.size) (v := u4) (xs := hexL ((numsOf s).take k)) (us := [hexD (s[k].toNat / 16), hexD (s[k].toNat % 16)]) (g := wr.heap.size) (n := 2) (c := 2) rfl (.tmp 16) (.tmp 29) rfl ?_ ?_ rfl rfl rfl ?_ ?_ ?_; (exact (hown.drew).alloc _); (exact heap_alloc_new wr.drew _); (show _ + 2 ≤ _; omega); (exact le_alloc hB _); intro v' w1 hown1 hgrow)))
      all_goals
        have hb1 : Below w.heap.size w w1 := below_grown ((hb.drew).alloc hB _) (hown.drew.alloc _) hgrow (Nat.le_refl _) (by simp; omega)
        rw [← hexL_snoc s k hlt] at hown1
        clear hgrow hown hb hand hi1 hi2
        go_wp2
        go_roundw
        case rel => exact ⟨k + 1, by omega, by go_num, hown1, hb1⟩
        case measure => simp [intOf]; omega
    · obtain rfl : k = s.size := by omega
      rw [List.take_of_length_le (by rw [numsOf_length]; exact Nat.le_refl _)] at hown
      have hconv := fun (d : TypeId) hd => run_string_own Tryd.underlying30 Tryd.underlying5 hown d hd
      have hc1 := hconv 9 Tryd.underlying9
      clear hconv
      go_wp2
      go_ret
      exact ⟨rfl, hb⟩
end Go.Proofs.YtfcgijnfiiaepaaDoor
