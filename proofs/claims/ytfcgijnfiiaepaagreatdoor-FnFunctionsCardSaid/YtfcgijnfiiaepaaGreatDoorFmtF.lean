/- Contracts of both packages' FormatFunction: the numerals, separated by commas. -/
import Derived.Test.YtfcgijnfiiaepaaGreatDoorNumL
import Derived.Test.YtfcgijnfiiaepaaGreatDoorStrs
import Derived.Test.YtfcgijnfiiaepaaGreatDoorFun2
namespace Go.Proofs.YtfcgijnfiiaepaaGreatDoor
set_option linter.unusedSimpArgs false
set_option linter.unusedVariables false
open Go.RowKit

/-- The bytes of the numerals, separated by commas. -/
def fmtN : List Int → List Int
  | [] => []
  | x :: r => numL x ++ (r.flatMap fun y => 44 :: numL y)
def fmtF (xs : List Int) : ByteArray := strOfNums (fmtN xs)
theorem fmtN_one (x : Int) : fmtN [x] = numL x := by simp [fmtN]
theorem fmtN_snoc {l : List Int} (h : l ≠ []) (x : Int) : fmtN (l ++ [x]) = fmtN l ++ [44] ++ numL x := by
  cases l with
  | nil => exact absurd rfl h
  | cons y r => simp [fmtN]
def small3 (xs : List Int) : Prop := ∀ j, j < xs.length → -1000 ≤ xs.getD j 0 ∧ xs.getD j 0 ≤ 1000
theorem small3_mem {xs : List Int} (h : small3 xs) : ∀ x ∈ xs, -1000 ≤ x ∧ x ≤ 1000 := by
  intro x hx
  obtain ⟨j, hj, rfl⟩ := List.getElem_of_mem hx
  have := h j hj
  rwa [List.getD_eq_getElem?_getD, List.getElem?_eq_getElem hj] at this
theorem fmtN_len (xs : List Int) (h : ∀ x ∈ xs, -1000 ≤ x ∧ x ≤ 1000) : (fmtN xs).length ≤ 11 * xs.length := by
  have key : ∀ r : List Int, (∀ x ∈ r, -1000 ≤ x ∧ x ≤ 1000) → (r.flatMap fun y => 44 :: numL y).length ≤ 11 * r.length := by
    intro r
    induction r with
    | nil => intro _; simp
    | cons y r ih =>
      intro hr
      have h1 := ih (fun x hx => hr x (List.mem_cons_of_mem _ hx))
      have hy := hr y List.mem_cons_self
      have h2 := (numL_short y (by omega) (by omega)).1
      simp only [List.flatMap_cons, List.length_append, List.length_cons]
      omega
  cases xs with
  | nil => simp [fmtN]
  | cons x r =>
    have hx := h x List.mem_cons_self
    have h2 := (numL_short x (by omega) (by omega)).1
    have := key r (fun x hx => h x (List.mem_cons_of_mem _ hx))
    simp only [fmtN, List.length_append, List.length_cons]
    omega
theorem fmtF_size (xs : List Int) (h : ∀ x ∈ xs, -1000 ≤ x ∧ x ≤ 1000) : (fmtF xs).size ≤ 11 * xs.length := by rw [fmtF, strOfNums_size]; exact fmtN_len xs h
theorem join_fmtN (xs : List Int) : (⟨(Go.Lib.join ((xs.map itoaS).map (·.data.toList)) [44]).toArray⟩ : ByteArray) = fmtF xs := by
  have hd : ∀ x : Int, (itoaS x).data.toList = (numL x).map fun n => UInt8.ofNat n.toNat := fun x => by rw [itoaS_numL, strOfNums_data]
  unfold fmtF strOfNums
  congr 2
  cases xs with
  | nil => rfl
  | cons x r =>
    simp only [List.map_cons, Go.Lib.join_cons, fmtN, List.map_append, hd]
    congr 1
    unfold Go.Lib.joinTail
    induction r with
    | nil => rfl
    | cons y r ih =>
      simp only [List.map_cons, List.flatten_cons, List.flatMap_cons, List.map_append, hd] at ih ⊢
      rw [ih]
      rfl
theorem join_len (xs : List Int) (h : ∀ x ∈ xs, -1000 ≤ x ∧ x ≤ 1000) : (Go.Lib.join ((xs.map itoaS).map (·.data.toList)) [44]).length ≤ 11 * xs.length := by
  have h1 := congrArg ByteArray.size (join_fmtN xs)
  have h2 := fmtF_size xs h
  have h3 : (⟨(Go.Lib.join ((xs.map itoaS).map (·.data.toList)) [44]).toArray⟩ : ByteArray).size = (Go.Lib.join ((xs.map itoaS).map (·.data.toList)) [44]).length := by
    show (Go.Lib.join ((xs.map itoaS).map (·.data.toList)) [44]).toArray.size = _
    simp
  omega
theorem c_JoinS (v : Value) (xs : List Int) (w : World) (B : Nat) (h : OwnS w B 9 v (xs.map itoaS)) (hx : ∀ x ∈ xs, -1000 ≤ x ∧ x ≤ 1000) (hl : xs.length ≤ 1000) :
    Calls Tryz.prog 74 #[v, .string ⟨#[44]⟩] w fun e w' => e = .returned (.string (fmtF xs)) ∧ Below w.heap.size w w' := by
  have hj := join_len xs hx
  rw [← join_fmtN]
  rcases h.form with ⟨rfl, h0⟩ | ⟨g, c, rfl, hg, hlt, hc, hcell⟩
  · have : xs = [] := by simpa using h0
    subst this
    refine (Tryz.strings_Join_none none 0 ⟨#[44]⟩ w).mono ?_
    rintro e w' ⟨rfl, rfl⟩
    exact ⟨rfl, Below.refl _ _⟩
  · exact Tryz.strings_Join g 0 c (xs.map itoaS) ⟨#[44]⟩ w hcell hlt (by rw [List.length_map]; omega) hc (by show (Go.Lib.join ((xs.map itoaS).map (·.data.toList)) [44]).length ≤ _; omega)
theorem ESj : StrElem Tryz.prog 55 9 16 := ⟨Tryz.underlying55, Tryz.underlying9, by kernel_rfl, by decide⟩
theorem take_snoc (xs : List Int) (k : Nat) (h : k < xs.length) : xs.take (k + 1) = xs.take k ++ [xs.getD k 0] := by
  rw [List.take_succ_eq_append_getElem h, List.getD_eq_getElem?_getD, List.getElem?_eq_getElem h]; rfl
set_option maxRecDepth 20000 in
set_option maxHeartbeats 1000000 in
theorem c_joinInts (a : Option Addr) (n c : Nat) (xs : List Int) (w : World) (B : Nat) (hB : B ≤ w.heap.size) (ht : TabB B w) (h : Row .i64 w a n xs) (hn : n ≤ 1000) (hx : ∀ j, j < xs.length → -1000 ≤ xs.getD j 0 ∧ xs.getD j 0 ≤ 1000) :
    Calls Tryz.prog 45 #[.slice a n c] w fun e w' => e = .returned (.string (fmtF xs)) ∧ Below w.heap.size w w' := by
  have hl := h.len
  have HX := Lib.hid hx
  have HT := Lib.hid ht
  have HM := Lib.hid (small3_mem hx)
  clear hx ht
  go_enter Tryz.func45, Tryz.ntmps45
  go_wp2_with (at_make; refine wpList_make0S ESj rfl (.const (.int .i64 0)) (.tmp 7) rfl rfl rfl (base := w.heap.size) (n := n) ?_ ?_ ?_ ?_; (rfl); (omega); (exact Nat.le_refl _); intro w1 hown hgrow)
  go_loopw [3, 11] (fun v i wr => ∃ k : Nat, i = .int .i64 k ∧ k ≤ n ∧ OwnS wr w.heap.size 9 v ((xs.take k).map itoaS) ∧ Below w.heap.size w wr) (fun _ i _ => n - (intOf i).toNat)
  case atStart => exact ⟨0, rfl, by omega, hown, (Below.refl _ _).grown hgrow (Nat.le_refl _) (fun _ h => by cases h)⟩
  case round =>
    clear hown hgrow
    obtain ⟨k, rfl, hk, hown, hb⟩ := hrel
    have hS : w.heap.size ≤ wr.heap.size := hb.size
    by_cases hlt : k < n
    · obtain ⟨b, off, rfl, hblt, hc⟩ := (h.below hb).at_ (by omega)
      have g1 := hc k hlt
      have hx1 := HX.out k (by omega)
      have HTS := Lib.hid (take_snoc xs k (by omega))
      have hkl : ((xs.take k).map itoaS).length ≤ 1000 := by rw [List.length_map, List.length_take]; omega
      obtain ⟨x, hxx⟩ : ∃ x, x = xs.getD k 0 := ⟨_, rfl⟩
      rw [← hxx] at g1 hx1
      have HXX := Lib.hid hxx
      have hi1 : (k : Int) < (n : Int) := by omega
      obtain ⟨L, hL⟩ : ∃ L, L = (xs.take k).map itoaS := ⟨_, rfl⟩
      rw [← hL] at hown hkl
      have HL := Lib.hid hL
      clear hc hxx hL hl
      go_wp2_with (first
        | (go_at_call 73; refine (c_impl_FormatInt _ _ B (Nat.le_trans hB hS) (by omega) (by omega) (HT.out.on (hb.mono hB))).mono ?_; rintro e w2 ⟨rfl, hb2⟩; replace hown := hown.below hb2; replace hb := hb.trans (hb2.mono hS))
        | (at_builtin; refine wpList_appS ESj (base := w.heap.size) (v := u3) (xs := L) (us := [itoaS x]) (g := w2.heap.size) (n := 1) (c := 1) rfl (.tmp 15) (.tmp 18) rfl ?_ ?_ rfl rfl rfl ?_ ?_ ?_; (exact hown.alloc _); (exact heap_alloc_new w2 _); (show _ + 1 ≤ _; omega); (exact le_alloc hb.size _); intro v' w3 hown3 hgrow3))
      have hb3 : Below w.heap.size w w3 := below_grownS (hb.alloc hb.size _) (hown.alloc _) hgrow3 (Nat.le_refl _) (le_alloc hb.size _)
      have HE := Lib.hid (show L ++ [itoaS x] = (xs.take (k + 1)).map itoaS by rw [HTS.out, List.map_append, ← HL.out, ← HXX.out]; rfl)
      rw [HE.out] at hown3
      go_roundw
      case rel => exact ⟨k + 1, by go_num, by omega, hown3, hb3⟩
      case measure => simp [intOf]; omega
    · have hall : xs.take k = xs := List.take_of_length_le (by omega)
      rw [hall] at hown
      clear hall
      go_wp2_with (go_at_call 74; refine (c_JoinS _ _ _ _ hown HM.out (by omega)).mono ?_; rintro e w2 ⟨rfl, hb2⟩)
      go_ret
      exact ⟨rfl, hb.trans (hb2.mono hS)⟩
/-- What FormatFunction returns. -/
def fmtFn (n : Int) (xs : List Int) : ByteArray := if isFun n xs then fmtF xs else ⟨#[]⟩
set_option maxRecDepth 20000 in
set_option maxHeartbeats 400000 in
theorem c_impl_FormatFunction (e0 : Int) (a : Option Addr) (n c : Nat) (xs : List Int) (w : World) (B : Nat) (hB : B ≤ w.heap.size) (ht : TabB B w) (h : Row .i64 w a n xs) (hn : n ≤ 1048576) :
    Calls Tryz.prog 11 #[.agg #[.int .i64 e0, .slice a n c]] w fun e w' => e = .returned (.string (fmtFn e0 xs)) ∧ Below w.heap.size w w' := by
  have hb := (Below.refl w.heap.size w).alloc (Nat.le_refl _) (.cells #[.int .i64 e0, .slice a n c] 26)
  have f := FBox.new w 26 e0 a n c
  have HT := Lib.hid ht
  clear ht
  cases hf : isFun e0 xs with
  | false =>
    have hr : fmtFn e0 xs = ⟨#[]⟩ := by simp [fmtFn, hf]
    rw [hr]
    clear hr
    go_enter Tryz.func11, Tryz.ntmps11
    go_wp2_with fail
    refine (c_impl_IsFunction _ _ _ _ _ _ (h.alloc _) hn).mono ?_
    rw [hf]
    rintro e w1 ⟨rfl, hb1⟩
    go_wp2
    go_ret
    exact ⟨rfl, hb.trans (hb1.mono hb.size)⟩
  | true =>
    have hr : fmtFn e0 xs = fmtF xs := by simp [fmtFn, hf]
    rw [hr]
    have h32 := isFun_le hf
    have hq := (isFun_true hf).2.2
    have HQ := Lib.hid hq
    have hl := h.len
    clear hr hq
    go_enter Tryz.func11, Tryz.ntmps11
    go_wp2_with fail
    refine (c_impl_IsFunction _ _ _ _ _ _ (h.alloc _) hn).mono ?_
    rw [hf]
    rintro e w1 ⟨rfl, hb1⟩
    have bel := hb.trans (hb1.mono hb.size)
    have f1 := f.below hb1
    have k0 := f1.c0
    have k1 := f1.c1
    clear f hb hb1
    go_wp2_with fail
    refine (c_joinInts _ _ _ _ _ B (Nat.le_trans hB bel.size) (HT.out.on (bel.mono hB)) (h.below bel) (by omega) HQ.out).mono ?_
    rintro e w2 ⟨rfl, hb2⟩
    go_wp2
    go_ret
    exact ⟨rfl, bel.trans (hb2.mono bel.size)⟩
set_option maxRecDepth 20000 in
set_option maxHeartbeats 1000000 in
theorem c_spec_FormatFunction (e0 : Int) (a : Option Addr) (n c : Nat) (xs : List Int) (w : World) (h : Row .i64 w a n xs) (hn : n ≤ 1048576) :
    Calls Tryz.prog 13 #[.agg #[.int .i64 e0, .slice a n c]] w fun e w' => e = .returned (.string (fmtFn e0 xs)) ∧ Below w.heap.size w w' := by
  have hb0 := (Below.refl w.heap.size w).alloc (Nat.le_refl _) (.cells #[.int .i64 e0, .slice a n c] 26)
  have f0 := FBox.new w 26 e0 a n c
  have hl := h.len
  cases hf : isFun e0 xs with
  | false =>
    have hr : fmtFn e0 xs = ⟨#[]⟩ := by simp [fmtFn, hf]
    rw [hr]
    clear hr
    go_enter Tryz.func13, Tryz.ntmps13
    go_wp2_with fail
    go_loopw [3, 4] (fun sv iv wr => sv = .string ⟨#[]⟩ ∧ iv = .int .i64 0 ∧ FBox wr w.heap.size 26 e0 a n c ∧ Below w.heap.size w wr) (fun _ _ _ => 0)
    case atStart => exact ⟨rfl, rfl, f0, hb0⟩
    case round =>
      clear f0 hb0
      obtain ⟨rfl, rfl, f, hb⟩ := hrel
      have k0 := f.c0
      have k1 := f.c1
      go_wp2_with fail
      refine (c_spec_IsFunction _ _ _ _ _ _ (h.below hb) hn).mono ?_
      rw [hf]
      rintro e w1 ⟨rfl, hb1⟩
      go_wp2
      go_ret
      exact ⟨rfl, hb.trans (hb1.mono hb.size)⟩
  | true =>
    have hr : fmtFn e0 xs = fmtF xs := by simp [fmtFn, hf]
    rw [hr]
    have h32 := isFun_le hf
    have hq := (isFun_true hf).2.2
    have HM := Lib.hid (small3_mem hq)
    have HQ := Lib.hid hq
    clear hr hq
    go_enter Tryz.func13, Tryz.ntmps13
    go_wp2_with fail
    go_loopw [3, 4] (fun sv iv wr => ∃ k : Nat, iv = .int .i64 (k : Int) ∧ k ≤ n ∧ sv = .string (fmtF (xs.take k)) ∧ FBox wr w.heap.size 26 e0 a n c ∧ Below w.heap.size w wr) (fun _ iv _ => n - (intOf iv).toNat)
    case atStart => exact ⟨0, rfl, by omega, rfl, f0, hb0⟩
    case round =>
      clear f0 hb0
      obtain ⟨k, rfl, hk, rfl, f, hb⟩ := hrel
      have k0 := f.c0
      have k1 := f.c1
      go_wp2_with fail
      refine (c_spec_IsFunction _ _ _ _ _ _ (h.below hb) hn).mono ?_
      rw [hf]
      rintro e w1 ⟨rfl, hb1⟩
      replace hb := hb.trans (hb1.mono hb.size)
      replace f := f.below hb1
      replace k0 := f.c0
      replace k1 := f.c1
      clear hb1
      by_cases hlt : k < n
      · obtain ⟨b, off, rfl, hblt, hc⟩ := (h.below hb).at_ (by omega)
        have g1 := hc k hlt
        have hx1 := HQ.out k (by omega)
        have hts := take_snoc xs k (by omega)
        have hsz := fmtF_size (xs.take k) (fun x hx => HM.out x (List.mem_of_mem_take hx))
        have hkl : (xs.take k).length = k := by rw [List.length_take]; omega
        obtain ⟨x, hxx⟩ : ∃ x, x = xs.getD k 0 := ⟨_, rfl⟩
        rw [← hxx] at g1 hx1 hts
        have hi1 : (k : Int) < (n : Int) := by omega
        have hit := (numL_short x (by omega) (by omega)).1
        have hsx : (itoaS x).size ≤ 10 := by rw [itoaS_size]; exact hit
        obtain ⟨p, hp⟩ : ∃ p, p = fmtF (xs.take k) := ⟨_, rfl⟩
        obtain ⟨y, hy⟩ : ∃ y, y = itoaS x := ⟨_, rfl⟩
        rw [← hp] at hsz ⊢
        rw [← hy] at hsx
        have hcall : ∀ w', Calls Tryz.prog 49 #[.int .i64 x] w' fun e w2 => e = .returned (.string y) ∧ Below w'.heap.size w' w2 := fun w' => by rw [hy]; exact c_spec_FormatInt x w' (by omega) (by omega)
        rcases Nat.eq_zero_or_pos k with rfl | hkp
        · have hnx : fmtF (xs.take (0 + 1)) = y := by rw [hts, hy, itoaS_numL]; unfold fmtF; rw [List.take_zero, List.nil_append, fmtN_one]
          have hem : p = ⟨#[]⟩ := hp
          replace g1 : _ = some (Value.int .i64 x) := g1
          rw [Nat.add_zero] at g1
          have hadd : ∀ w', (Op.stringOp .add p y).run Tryz.prog w' = .ok (.string y) w' := fun w' => by
            have h1 := run_string_add_sum (P := Tryz.prog) w' p y (by omega)
            rw [h1, hem]
            congr 2
          have HN := Lib.hid hnx
          clear hnx hem hsz hsx hit hts hxx hx1 hc hkl hl hp hy
          go_wp2_with (go_at_call 49; refine (hcall _).mono ?_; rintro e w2 ⟨rfl, hb2⟩; replace f := f.below hb2; replace k0 := f.c0; replace k1 := f.c1; replace hb := hb.trans (hb2.mono hb.size))
          go_roundw
          case rel => exact ⟨0 + 1, by go_num, by omega, by rw [HN.out], f, hb⟩
          case measure => simp [intOf]; omega
        · have hnx : fmtF (xs.take (k + 1)) = p ++ ⟨#[44]⟩ ++ y := by
            rw [hts, hy, hp, itoaS_numL]
            unfold fmtF
            rw [fmtN_snoc (by intro h0; rw [h0] at hkl; simp at hkl; omega), ← strOfNums_append, ← strOfNums_append]
            rfl
          have hs44 : (⟨#[44]⟩ : ByteArray).size = 1 := rfl
          have hadd1 : ∀ w', (Op.stringOp .add p ⟨#[44]⟩).run Tryz.prog w' = .ok (.string (p ++ ⟨#[44]⟩)) w' := fun w' => run_string_add_sum (P := Tryz.prog) w' _ _ (by omega)
          have hsz2 : (p ++ ⟨#[44]⟩).size = p.size + 1 := by rw [ByteArray.size_append]; rfl
          obtain ⟨q, hq⟩ : ∃ q, q = p ++ (⟨#[44]⟩ : ByteArray) := ⟨_, rfl⟩
          rw [← hq] at hnx hadd1 hsz2
          have hadd2 : ∀ w', (Op.stringOp .add q y).run Tryz.prog w' = .ok (.string (q ++ y)) w' := fun w' => run_string_add_sum (P := Tryz.prog) w' _ _ (by omega)
          have HN := Lib.hid hnx
          clear hnx hsz hsz2 hsx hit hts hxx hx1 hc hkl hl hp hy hq hs44
          go_wp2_with (go_at_call 49; refine (hcall _).mono ?_; rintro e w2 ⟨rfl, hb2⟩; replace f := f.below hb2; replace k0 := f.c0; replace k1 := f.c1; replace hb := hb.trans (hb2.mono hb.size))
          go_roundw
          case rel => exact ⟨k + 1, by go_num, by omega, by rw [HN.out], f, hb⟩
          case measure => simp [intOf]; omega
      · have hall : fmtF (xs.take k) = fmtF xs := by rw [List.take_of_length_le (by omega)]
        rw [hall]
        clear hall
        go_wp2
        go_ret
        exact ⟨rfl, hb⟩
end Go.Proofs.YtfcgijnfiiaepaaGreatDoor
