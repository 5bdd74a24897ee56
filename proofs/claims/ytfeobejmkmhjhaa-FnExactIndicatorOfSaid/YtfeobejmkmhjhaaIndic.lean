/- Contracts of IndicatorOf of both packages. -/
import Derived.Test.YtfeobejmkmhjhaaSets
namespace Go.Proofs.Ytfeobejmkmhjhaa
set_option linter.unusedSimpArgs false
set_option linter.unusedVariables false
open Go.RowKit

def indic (s : Int) (k : Nat) : List Int := (List.range k).map fun (i : Nat) => s / 2 ^ i % 2
theorem indic_succ (s : Int) (k : Nat) : indic s (k + 1) = indic s k ++ [s / 2 ^ k % 2] := by simp [indic, List.range_succ]
theorem indic_length (s : Int) (k : Nat) : (indic s k).length = k := by simp [indic]
/-- What IndicatorOf returns. -/
def indOk (n s : Int) : Bool := inB n 0 5 && isSet n s
def indR (n s : Int) : List Int := if indOk n s then indic s n.toNat else []
/-- The indicator being filled, element by element. -/
def indFill (s : Int) (n k : Nat) : List Int := ((elems s).take k).foldl (fun l e => l.set e.toNat 1) (List.replicate n 0)
theorem indFill_succ (s : Int) (n k : Nat) (h : k < (elems s).length) : indFill s n (k + 1) = (indFill s n k).set ((elems s).getD k 0).toNat 1 := by
  unfold indFill
  rw [List.take_succ_eq_append_getElem h, List.foldl_append]
  simp [List.getD, List.getElem?_eq_getElem h]
theorem indFill_length (s : Int) (n k : Nat) : (indFill s n k).length = n := by
  unfold indFill
  generalize (elems s).take k = l
  have : ∀ (l : List Int) (xs : List Int), (l.foldl (fun l e => l.set e.toNat 1) xs).length = xs.length := by
    intro l
    induction l with
    | nil => intro xs; rfl
    | cons e l ih => intro xs; rw [List.foldl_cons, ih, List.length_set]
  rw [this, List.length_replicate]
theorem ind_facts : ∀ (n : Fin 6) (s : Fin 32), s.val < 2 ^ n.val → indFill (s.val : Int) n.val (elems (s.val : Int)).length = indic (s.val : Int) n.val ∧ ∀ k : Fin 5, k.val < (elems (s.val : Int)).length → 0 ≤ (elems (s.val : Int)).getD k.val 0 ∧ (elems (s.val : Int)).getD k.val 0 < (n.val : Int) := by
  decide +kernel
theorem elems_len5 : ∀ s : Fin 32, (elems (s.val : Int)).length ≤ 5 := by decide +kernel
theorem ind_of (n : Nat) (s : Int) (hn : n ≤ 5) (h0 : 0 ≤ s) (h1 : s < 2 ^ n) : s < 32 ∧ (elems s).length ≤ 5 ∧ indFill s n (elems s).length = indic s n ∧ ∀ k : Nat, k < (elems s).length → 0 ≤ (elems s).getD k 0 ∧ (elems s).getD k 0 < (n : Int) := by
  obtain ⟨m, rfl⟩ := Int.eq_ofNat_of_zero_le h0
  have h2 : m < 2 ^ n := by exact_mod_cast h1
  have h3 : 2 ^ n ≤ 2 ^ 5 := Nat.pow_le_pow_right (by decide) hn
  have h32 : m < 32 := by omega
  have hl := elems_len5 ⟨m, h32⟩
  have hf := ind_facts ⟨n, by omega⟩ ⟨m, h32⟩ h2
  exact ⟨by omega, hl, hf.1, fun k hk => hf.2 ⟨k, by have : (elems (m : Int)).length ≤ 5 := hl; omega⟩ hk⟩
/-- The pair that IndicatorOf returns, and the world behind it. -/
def RetOwnB (et : TypeId) (k : IntKind) (xs : List Int) (ok : Bool) (w : World) (e : Ending) (w' : World) : Prop :=
  ∃ a c, e = .returned (.tuple #[.slice a xs.length c, .bool ok]) ∧ OwnI w' w.heap.size et k (.slice a xs.length c) xs ∧ Below w.heap.size w w'

set_option maxHeartbeats 400000 in
theorem c_spec_IndicatorOf (n s : Int) (w : World) :
    Calls Try.prog 61 #[.int .i64 n, .int .i64 s] w (RetOwnB 3 .i64 (indR n s) (indOk n s) w) := by
  cases hin : inB n 0 5 with
  | false =>
    have hok : indOk n s = false := by simp [indOk, hin]
    have hd : indR n s = [] := by simp [indR, hok]
    rw [hd, hok]
    clear hd hok
    go_enter Try.func61, Try.ntmps61
    go_wp2_with (go_at_call 68; refine (c_l1In _ _ _ _).mono ?_; rintro e w' ⟨rfl, rfl⟩)
    go_ret2
    exact ⟨_, 0, rfl, World.ownsRow_made w #[] 0 (Nat.le_refl _) (by decide) rfl, (Below.refl _ _).alloc (Nat.le_refl _) _⟩
  | true =>
    have hb := inB_true.1 hin
    have hfull := inB_full n s
    cases hset : isSet n s with
    | false =>
      rw [hset] at hfull
      have hok : indOk n s = false := by simp [indOk, hset]
      have hd : indR n s = [] := by simp [indR, hok]
      rw [hd, hok]
      clear hd hok
      go_enter Try.func61, Try.ntmps61
      go_wp2_with (first | (go_at_call 68; refine (c_l1In _ _ _ _).mono ?_; rintro e w' ⟨rfl, rfl⟩) | (go_at_call 88; refine (c_l2Full _ _ hb.1 (by omega)).mono ?_; rintro e w' ⟨rfl, rfl⟩))
      go_ret2
      exact ⟨_, 0, rfl, World.ownsRow_made w #[] 0 (Nat.le_refl _) (by decide) rfl, (Below.refl _ _).alloc (Nat.le_refl _) _⟩
    | true =>
      rw [hset] at hfull
      have hs := isSet_true.1 hset
      have hs2 : s < 1024 := Int.lt_of_lt_of_le hs.2 (two_pow_le _ (by omega))
      have hs0 := hs.1
      clear hs
      have hok : indOk n s = true := by simp [indOk, hin, hset]
      have hd : indR n s = indic s n.toNat := by simp [indR, hok]
      rw [hd, hok]
      clear hd hok
      obtain ⟨m, rfl⟩ := Int.eq_ofNat_of_zero_le hb.1
      rw [Int.toNat_natCast] at hfull ⊢
      have hm : m ≤ 5 := by omega
      have hil := indic_length s m
      have HIL := Lib.hid hil
      clear hil
      go_enter Try.func61, Try.ntmps61
      go_wp2_with (first | (go_at_call 68; refine (c_l1In _ _ _ _).mono ?_; rintro e w' ⟨rfl, rfl⟩) | (go_at_call 88; refine (c_l2Full _ _ (by omega) (by omega)).mono ?_; rintro e w' ⟨rfl, rfl⟩))
      go_loopw [6, 7] (fun v i wr => ∃ k : Nat, i = .int .i64 k ∧ k ≤ m ∧ OwnI wr w.heap.size 3 .i64 v (indic s k) ∧ Below w.heap.size w wr) (fun _ i _ => m - (intOf i).toNat)
      case atStart => exact ⟨0, rfl, Nat.zero_le _, World.ownsRow_made w #[] 0 (Nat.le_refl _) (by decide) rfl, (Below.refl _ _).alloc (Nat.le_refl _) _⟩
      case round =>
        clear hfull hset hin
        obtain ⟨k, rfl, hk, hown, hbel⟩ := hrel
        have hB : w.heap.size ≤ wr.heap.size := hbel.size
        have hlen := indic_length s k
        have hlen' : (indic s k).length ≤ 5 := by omega
        have hbd := div_pow_bd s k hs0 hs2
        by_cases hlt : k < m
        · have hand := and1 (s / 2 ^ k) hbd.1 (by omega)
          have hsu := indic_succ s k
          have HS := Lib.hid hsu
          clear hsu hlen
          go_wp2_with (at_builtin; refine wpList_app EI (base := w.heap.size) (v := u6) (xs := indic s k) (us := [s / 2 ^ k % 2]) (g := wr.heap.size) (n := 1) (c := 1) rfl (.tmp 25) (.tmp 30) rfl ?_ ?_ rfl rfl rfl ?_ ?_ ?_; (exact hown.alloc _); (exact heap_alloc_new wr _); (show _ + 1 ≤ _; omega); (exact le_alloc hB _); intro v' w1 hown1 hgrow)
          have hb1 : Below w.heap.size w w1 := below_grown (hbel.alloc hB _) (hown.alloc _) hgrow (Nat.le_refl _) (le_alloc hB _)
          go_roundw
          case rel => exact ⟨k + 1, by go_num, by omega, by rw [HS.out]; exact hown1, hb1⟩
          case measure => simp [intOf]; omega
        · obtain rfl : k = m := by omega
          clear hlen
          obtain ⟨a, c, rfl, _⟩ := hown.form
          go_wp2
          go_ret2
          exact ⟨a, c, rfl, hown, hbel⟩
set_option maxHeartbeats 400000 in
theorem c_impl_IndicatorOf (n s : Int) (w : World) :
    Calls Try.prog 62 #[.int .i64 n, .int .i64 s] w (RetOwnB 3 .i64 (indR n s) (indOk n s) w) := by
  cases hin : inB n 0 5 with
  | false =>
    have hok : indOk n s = false := by simp [indOk, hin]
    have hd : indR n s = [] := by simp [indR, hok]
    rw [hd, hok]
    clear hd hok
    go_enter Try.func62, Try.ntmps62
    go_wp2_with (go_at_call 105; refine (c_within _ _ _ _).mono ?_; rintro e w' ⟨rfl, rfl⟩)
    go_ret2
    exact ⟨none, 0, rfl, OwnI.nil _ _ _ _, Below.refl _ _⟩
  | true =>
    have hb := inB_true.1 hin
    cases hset : isSet n s with
    | false =>
      have hok : indOk n s = false := by simp [indOk, hset]
      have hd : indR n s = [] := by simp [indR, hok]
      rw [hd, hok]
      clear hd hok
      go_enter Try.func62, Try.ntmps62
      go_wp2_with (first | (go_at_call 105; refine (c_within _ _ _ _).mono ?_; rintro e w' ⟨rfl, rfl⟩) | (go_at_call 71; refine (c_isSetOf _ _ _ hb.1 (by omega)).mono ?_; rintro e w' ⟨rfl, rfl⟩))
      go_ret2
      exact ⟨none, 0, rfl, OwnI.nil _ _ _ _, Below.refl _ _⟩
    | true =>
      have hs := isSet_true.1 hset
      have hs0 := hs.1
      have hok : indOk n s = true := by simp [indOk, hin, hset]
      have hd : indR n s = indic s n.toNat := by simp [indR, hok]
      rw [hd, hok]
      clear hd hok
      obtain ⟨m, rfl⟩ := Int.eq_ofNat_of_zero_le hb.1
      rw [Int.toNat_natCast] at hs ⊢
      have hm : m ≤ 5 := by omega
      obtain ⟨hs32, hel, hfill, hget⟩ := ind_of m s hm hs.1 hs.2
      have hil := indic_length s m
      have HIL := Lib.hid hil
      have HF := Lib.hid hfill
      have HG := Lib.hid hget
      clear hil hfill hget hs
      go_enter Try.func62, Try.ntmps62
      go_wp2_with (first | (go_at_call 105; refine (c_within _ _ _ _).mono ?_; rintro e w' ⟨rfl, rfl⟩) | (go_at_call 71; refine (c_isSetOf _ _ _ (by omega) (by omega)).mono ?_; rintro e w' ⟨rfl, rfl⟩) | (at_make; refine wpList_makeN EI (base := w.heap.size) (n := m) rfl (.tmp 18) (.tmp 18) rfl rfl rfl rfl rfl ?_ ?_ ?_; (omega); (exact Nat.le_refl _); intro w1 hown hgrow) | (go_at_call 80; refine (c_elementsOf _ _ hs0 (by omega)).mono ?_; rintro e w2 ⟨a, c, rfl, hel2, hbel2⟩))
      have hb1 : Below w.heap.size w w1 := (Below.refl _ _).grown hgrow (Nat.le_refl _) (fun _ h => by cases h)
      have hown2 := hown.below hbel2
      have hne := hown.ne_ hel2 (Nat.le_refl _)
      have hb2 := hb1.trans (hbel2.mono hb1.size)
      have h12 : w.heap.size < w1.heap.size := hown.lt.2
      clear hown hgrow hbel2 hb1 hset hin
      go_loopw [23] (fun i wr => ∃ k : Nat, i = .int .i64 k ∧ k ≤ (elems s).length ∧ OwnI wr w.heap.size 3 .i64 (.slice (some ⟨w.heap.size, 0, none⟩) m m) (indFill s m k) ∧ OwnI wr w1.heap.size 3 .i64 (.slice a (elems s).length c) (elems s) ∧ Below w.heap.size w wr) (fun i _ => (elems s).length - (intOf i).toNat)
      case atStart => exact ⟨0, rfl, Nat.zero_le _, by simpa [indFill] using hown2, hel2, hb2⟩
      case round =>
        clear hown2 hel2 hb2
        obtain ⟨k, rfl, hk, hown, hels, hbel⟩ := hrel
        by_cases hlt : k < (elems s).length
        · obtain ⟨b, off, rfl, hblt, hc⟩ := hels.row.at_ (by omega)
          have g1 := hc k hlt
          have hg := HG.out k hlt
          have hsu := indFill_succ s m k hlt
          have hfl := indFill_length s m k
          obtain ⟨x, hx⟩ : ∃ x, x = (elems s).getD k 0 := ⟨_, rfl⟩
          rw [← hx] at g1 hg hsu
          obtain ⟨y, rfl⟩ := Int.eq_ofNat_of_zero_le hg.1
          rw [Int.toNat_natCast] at hsu
          have hym : y < m := by omega
          have hl : y < (indFill s m k).length := by omega
          have hcell := hown.cell hl
          have hfree := hown.free y
          have hset := hown.set y 1
          rw [← hsu] at hset
          have hboff := hels.off
          have hbase : w1.heap.size ≤ b := hboff.2.2.1
          have hels1 : OwnI (wr.setCell ⟨w.heap.size, y, none⟩ (.int .i64 1)) w1.heap.size 3 .i64 (.slice (some ⟨b, off, none⟩) (elems s).length c) (elems s) :=
            ownsRow_setCell_other hels (by simp [Value.ownBlock]; omega) _
          have hb1 := hbel.setCell (p := ⟨w.heap.size, y, none⟩) (Nat.le_refl _) (.int .i64 1)
          have HS := Lib.hid hset
          have HE := Lib.hid hels1
          have HB := Lib.hid hb1
          clear hset hels1 hb1 hels hown hc hsu hx hfl hl hboff hbel
          go_wp2
          go_roundw
          case rel => exact ⟨k + 1, by go_num, by omega, HS.out, HE.out, HB.out⟩
          case measure => simp [intOf]; omega
        · obtain rfl : k = (elems s).length := by omega
          rw [HF.out] at hown
          have hown' : OwnI wr w.heap.size 3 .i64 (.slice (some ⟨w.heap.size, 0, none⟩) (indic s m).length m) (indic s m) := by rw [HIL.out]; exact hown
          clear hown hels
          go_wp2
          go_ret2
          exact ⟨_, _, by rw [HIL.out]; rfl, hown', hbel⟩
end Go.Proofs.Ytfeobejmkmhjhaa
