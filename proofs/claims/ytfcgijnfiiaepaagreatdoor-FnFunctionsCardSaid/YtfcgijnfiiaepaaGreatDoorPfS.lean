/- Contract of spec's ParseFunction. -/
import Derived.Test.YtfcgijnfiiaepaaGreatDoorPfL
import Derived.Test.YtfcgijnfiiaepaaGreatDoorParseI
namespace Go.Proofs.YtfcgijnfiiaepaaGreatDoor
set_option linter.unusedSimpArgs false
set_option linter.unusedVariables false
open Go.RowKit

theorem bitLen_fin : ∀ n : Fin 256, 1 ≤ n.val → Go.Lib.bitLen n.val = Nat.log2 n.val + 1 := by decide +kernel
theorem pf_none {s : ByteArray} (h : pfR s = none) : pfN s = 0 ∧ pfL s = [] ∧ pfB s = false := by simp [pfN, pfL, pfB, h]
theorem pf_some {s : ByteArray} {us : List Int} (h : pfR s = some us) : pfN s = madeN (Nat.log2 us.length : Int) us ∧ pfL s = madeL (Nat.log2 us.length : Int) us ∧ pfB s = isFun (Nat.log2 us.length : Int) us := by simp [pfN, pfL, pfB, h]
theorem pf_pow {us : List Int} {k : Nat} (h : us.length = 2 ^ k) : (Nat.log2 us.length : Int) = (k : Int) := by rw [h, Nat.log2_two_pow]
/-- No power of two: no function. -/
theorem pf_no {us : List Int} (h : ∀ k, k < 6 → us.length ≠ 2 ^ k) (n : Int) : isFun n us = false := by
  cases hf : isFun n us with
  | false => rfl
  | true =>
    obtain ⟨h1, h2, _⟩ := isFun_true hf
    exact absurd h2 (h n.toNat (by omega))
theorem pf_bad {s : ByteArray} {us : List Int} (h : pfR s = some us) (hf : isFun (Nat.log2 us.length : Int) us = false) : pfN s = 0 ∧ pfL s = [] ∧ pfB s = false := by
  obtain ⟨h1, h2, h3⟩ := pf_some h
  rw [h1, h2, h3, (made_no hf).1, (made_no hf).2]
  exact ⟨rfl, rfl, hf⟩
theorem pf_good {s : ByteArray} {us : List Int} (h : pfR s = some us) (hf : isFun (Nat.log2 us.length : Int) us = true) : pfN s = (Nat.log2 us.length : Int) ∧ pfL s = us ∧ pfB s = true := by
  obtain ⟨h1, h2, h3⟩ := pf_some h
  rw [h1, h2, h3, (made_yes hf).1, (made_yes hf).2]
  exact ⟨rfl, rfl, hf⟩
theorem drop_at (s : ByteArray) (j : Nat) (h : j < s.size) : s.data.toList.drop j = s[j] :: s.data.toList.drop (j + 1) := by
  rw [List.drop_eq_getElem_cons (by simpa using h)]
  rfl
theorem bytesOf_snoc (s : ByteArray) (part : List UInt8) (j : Nat) (h : j < s.size) : bytesOf part ++ s.extract j (j + 1) = bytesOf (part ++ [s[j]]) := by
  apply ByteArray.ext
  have h2 : (s.extract j (j + 1)).data.toList = [s[j]] := by
    rw [ByteArray.data_extract, Array.toList_extract, List.extract_eq_take_drop, drop_at s j h]
    simp
  have : (bytesOf part ++ s.extract j (j + 1)).data.toList = (bytesOf (part ++ [s[j]])).data.toList := by
    rw [ByteArray.data_append, Array.toList_append, h2]
    rfl
  exact Array.toList_inj.1 this
/-- Where the reading stands: j bytes are read, part is begun, vs are read. -/
def PfInv (s : ByteArray) (j : Nat) (part : List UInt8) (vs : List Int) : Prop := j ≤ s.size + 1 ∧ part.length ≤ j ∧ vs.length ≤ j ∧ ((j ≤ s.size ∧ pfRun (s.data.toList.drop j) part vs = pfRun s.data.toList [] []) ∨ (j = s.size + 1 ∧ some vs = pfRun s.data.toList [] []))
set_option maxRecDepth 20000 in
set_option maxHeartbeats 8000000 in
theorem c_spec_ParseFunction (s : ByteArray) (w : World) (hs : s.size ≤ 1048576) :
    Calls Tryz.prog 27 #[.string s] w (RetFun 3 (pfN s) (pfL s) (pfB s) w) := by
  have bel := Below.refl w.heap.size w
  have fr := FBox.new w 26 0 none 0 0
  replace bel := bel.alloc bel.size (.cells #[.int .i64 0, .slice none 0 0] 26)
  have hv := OwnI.lit (w.alloc (.cells #[.int .i64 0, .slice none 0 0] 26)) (w.heap.size + 1) 3 .i64 [] (by simp) (by decide)
  replace fr := fr.alloc (.cells #[] 3)
  replace bel := bel.alloc bel.size (.cells #[] 3)
  rw [World.size_alloc] at hv
  have hsz : s.data.toList.length = s.size := by simp
  by_cases h200 : s.size ≤ 200
  · have h200z : (s.size : Int) ≤ 200 := by omega
    go_enter Tryz.func27, Tryz.ntmps27
    go_wp2_with fail
    go_loopw [4, 5, 6, 7, 8] (fun vv pv iv nv bv wr => ∃ (j : Nat) (part : List UInt8) (vs : List Int), iv = .int .i64 (j : Int) ∧ pv = .string (bytesOf part) ∧ PfInv s j part vs ∧ OwnI wr (w.heap.size + 1) 3 .i64 vv vs ∧ FBox wr w.heap.size 26 0 none 0 0 ∧ Below w.heap.size w wr) (fun _ _ iv _ _ _ => s.size + 1 - (intOf iv).toNat)
    case atStart => exact ⟨0, [], [], rfl, rfl, ⟨by omega, by simp, by simp, .inl ⟨by omega, rfl⟩⟩, hv, fr, bel⟩
    case round =>
      clear hv fr bel
      obtain ⟨j, part, vs, rfl, rfl, ⟨hj, hpl, hvl, hinv⟩, hv, fr, bel⟩ := hrel
      by_cases hjs : j ≤ s.size
      · have hI : pfRun (s.data.toList.drop j) part vs = pfRun s.data.toList [] [] := by
          rcases hinv with ⟨_, h⟩ | ⟨h, _⟩
          · exact h
          · omega
        have HI := Lib.hid hI
        clear hinv hI
        have hjz : (j : Int) ≤ (s.size : Int) := by omega
        by_cases hlt : j < s.size
        · have hltz : (j : Int) < (s.size : Int) := by omega
          have HD := Lib.hid (drop_at s j hlt)
          by_cases h44 : s[j] = 44
          · have hbe : ((s[j].toNat : Int) != 44) = false := by rw [h44]; rfl
            have HC := Lib.hid h44
            clear h44
            have hps : (bytesOf part).size ≤ 1048576 := by show part.toArray.size ≤ _; simp; omega
            go_wp2_with fail
            refine (c_spec_ParseInt _ _ hps).mono ?_
            rintro e w3 ⟨rfl, hb3⟩
            replace fr := fr.below hb3
            replace hv := hv.below hb3
            replace bel := bel.trans (hb3.mono bel.size)
            clear hb3 hps
            cases hok : parseOk (bytesOf part) with
            | false =>
              have HB := Lib.hid (pf_none (by rw [pfR, if_pos h200, ← HI.out, HD.out, pfRun, if_pos HC.out, hok]; rfl))
              have kr0 := fr.c0
              have kr1 := fr.c1
              have krf := fr.free
              go_wp2_with fail
              refine bodyPost_ret (v := .tuple #[.agg #[.int .i64 0, .slice none 0 0], .bool false]) (by simp [results, Tryz.results27, go_sem, kr0, kr1]) rfl ?_
              rw [HB.out.1, HB.out.2.1, HB.out.2.2]
              exact ⟨none, 0, rfl, OwnI.nil _ _ _ _, by simp, (bel.setCell (by show w.heap.size ≤ w.heap.size; omega) _).setCell (by show w.heap.size ≤ w.heap.size; omega) _⟩
            | true =>
              have HN := Lib.hid (show pfRun (s.data.toList.drop (j + 1)) [] (vs ++ [parseV (bytesOf part)]) = pfRun s.data.toList [] [] by rw [← HI.out, HD.out, pfRun, if_pos HC.out, hok]; rfl)
              obtain ⟨y, hy⟩ : ∃ y, y = parseV (bytesOf part) := ⟨_, rfl⟩
              rw [← hy]
              have HYV := Lib.hid hy
              clear hok hy
              have hBB : w.heap.size + 1 ≤ w3.heap.size := fr.lt
              go_wp2_with (at_builtin; refine wpList_app EI (base := w.heap.size + 1) (v := u4) (xs := vs) (us := [y]) (g := w3.heap.size) (n := 1) (c := 1) rfl (.tmp 49) (.tmp 51) rfl ?_ ?_ rfl rfl rfl ?_ ?_ ?_; (exact hv.alloc _); (exact heap_alloc_new w3 _); (show _ + 1 ≤ _; omega); (exact le_alloc hBB _); intro v6 w6 hv6 hgrow)
              have hR := fun j hj => (hv.range j hj).1
              have fr6 := (fr.alloc (.cells #[.int .i64 y] 3)).grown hgrow (fun e => by have := hR _ e; omega)
              have bel6 := below_grown (bel.alloc (by omega) (.cells #[.int .i64 y] 3)) (hv.alloc (.cells #[.int .i64 y] 3)) hgrow (Nat.le_succ _) (by simp; omega)
              go_roundw
              case rel => exact ⟨j + 1, [], vs ++ [y], by go_num, rfl, ⟨by omega, by simp, by simp; omega, .inl ⟨by omega, by rw [HYV.out]; exact HN.out⟩⟩, hv6, fr6, bel6⟩
              case measure => simp [intOf] <;> omega
          · have hbe : ((s[j].toNat : Int) != 44) = true := by
              rw [bne_iff_ne]
              intro e
              exact h44 (UInt8.toNat_inj.1 (by show s[j].toNat = 44; omega))
            have HN := Lib.hid (show pfRun (s.data.toList.drop (j + 1)) (part ++ [s[j]]) vs = pfRun s.data.toList [] [] by rw [← HI.out, HD.out, pfRun, if_neg h44])
            have HSN := Lib.hid (bytesOf_snoc s part j hlt)
            clear h44
            have hwj : IntKind.i64.wrap ((j : Int) + 1) = ((j + 1 : Nat) : Int) := by rw [IntWalk.i64_in _ (by omega)]; push_cast; rfl
            have hsl : ∀ wx, (Instr.slice 9 (.string s) (some (.int .i64 (j : Int))) (some (.int .i64 ((j : Int) + 1))) none).run Tryz.prog wx = .ok (.string (s.extract j (j + 1))) wx := fun wx => by
              have := run_slice_string (P := Tryz.prog) wx 9 s .i64 .i64 (j : Int) ((j : Int) + 1) (by kernel_rfl) (by omega) (by omega) (by omega)
              rw [this]
              congr 3
            have hcc : ¬ 9223372036854775807 < (bytesOf part).size + (min (j + 1) s.size - j) := by
              have : (bytesOf part).size = part.length := by show part.toArray.size = _; simp
              omega
            go_wp2_with fail
            go_roundw
            case rel => exact ⟨j + 1, part ++ [s[j]], vs, by go_num, by rw [← HSN.out], ⟨by omega, by simp; omega, by omega, .inl ⟨by omega, HN.out⟩⟩, hv, fr, bel⟩
            case measure => simp [intOf]; omega
        · obtain rfl : j = s.size := by omega
          have HD := Lib.hid (show s.data.toList.drop s.size = [] by rw [List.drop_eq_nil_iff, hsz]; first | done | exact Nat.le_refl _)
          have hps : (bytesOf part).size ≤ 1048576 := by show part.toArray.size ≤ _; simp; omega
          go_wp2_with fail
          refine (c_spec_ParseInt _ _ hps).mono ?_
          rintro e w3 ⟨rfl, hb3⟩
          replace fr := fr.below hb3
          replace hv := hv.below hb3
          replace bel := bel.trans (hb3.mono bel.size)
          clear hb3 hps
          cases hok : parseOk (bytesOf part) with
          | false =>
            have HB := Lib.hid (pf_none (by rw [pfR, if_pos h200, ← HI.out, HD.out, pfRun, hok]; rfl))
            have kr0 := fr.c0
            have kr1 := fr.c1
            have krf := fr.free
            go_wp2_with fail
            refine bodyPost_ret (v := .tuple #[.agg #[.int .i64 0, .slice none 0 0], .bool false]) (by simp [results, Tryz.results27, go_sem, kr0, kr1]) rfl ?_
            rw [HB.out.1, HB.out.2.1, HB.out.2.2]
            exact ⟨none, 0, rfl, OwnI.nil _ _ _ _, by simp, (bel.setCell (by show w.heap.size ≤ w.heap.size; omega) _).setCell (by show w.heap.size ≤ w.heap.size; omega) _⟩
          | true =>
            have HN := Lib.hid (show some (vs ++ [parseV (bytesOf part)]) = pfRun s.data.toList [] [] by rw [← HI.out, HD.out, pfRun, hok]; rfl)
            obtain ⟨y, hy⟩ : ∃ y, y = parseV (bytesOf part) := ⟨_, rfl⟩
            rw [← hy]
            have HYV := Lib.hid hy
            clear hok hy
            have hBB : w.heap.size + 1 ≤ w3.heap.size := fr.lt
            go_wp2_with (at_builtin; refine wpList_app EI (base := w.heap.size + 1) (v := u4) (xs := vs) (us := [y]) (g := w3.heap.size) (n := 1) (c := 1) rfl (.tmp 49) (.tmp 51) rfl ?_ ?_ rfl rfl rfl ?_ ?_ ?_; (exact hv.alloc _); (exact heap_alloc_new w3 _); (show _ + 1 ≤ _; omega); (exact le_alloc hBB _); intro v6 w6 hv6 hgrow)
            have hR := fun j hj => (hv.range j hj).1
            have fr6 := (fr.alloc (.cells #[.int .i64 y] 3)).grown hgrow (fun e => by have := hR _ e; omega)
            have bel6 := below_grown (bel.alloc (by omega) (.cells #[.int .i64 y] 3)) (hv.alloc (.cells #[.int .i64 y] 3)) hgrow (Nat.le_succ _) (by simp; omega)
            go_roundw
            case rel => exact ⟨s.size + 1, [], vs ++ [y], by first | go_num | rfl | (push_cast; rfl), rfl, ⟨by omega, by simp, by simp; omega, .inr ⟨rfl, by rw [HYV.out]; exact HN.out⟩⟩, hv6, fr6, bel6⟩
            case measure => simp [intOf] <;> omega
      · have hI : some vs = pfRun s.data.toList [] [] := by
          rcases hinv with ⟨h, _⟩ | ⟨_, h⟩
          · exact absurd h hjs
          · exact h
        have hR : pfR s = some vs := by rw [pfR, if_pos h200]; exact hI.symm
        have HY := Lib.hid (show ∀ k, k < 6 → vs.length = 2 ^ k → pfR s = some vs from fun _ _ _ => hR)
        have HX := Lib.hid (show (∀ k, k < 6 → vs.length ≠ 2 ^ k) → pfN s = 0 ∧ pfL s = [] ∧ pfB s = false from fun h => pf_bad hR (pf_no h _))
        clear hinv hI hR
        obtain ⟨a2, c2, rfl, _⟩ := hv.form
        go_wp2_with fail
        go_loopw [9] (fun nv wr2 => ∃ k : Nat, nv = .int .i64 (k : Int) ∧ k ≤ 6 ∧ (∀ i, i < k → vs.length ≠ 2 ^ i) ∧ wr2 = wr) (fun nv _ => 6 - (intOf nv).toNat)
        case atStart => exact ⟨0, rfl, by omega, fun i hi => by omega, rfl⟩
        case round =>
          obtain ⟨k, rfl, hk, hall, rfl⟩ := hrel
          have HA := Lib.hid hall
          clear hall
          have kr0 := fr.c0
          have kr1 := fr.c1
          have krf := fr.free
          have hlt2 := fr.lt
          by_cases hlt : k < 6
          · have hk5 : (k : Int) ≤ 5 := by omega
            obtain ⟨p, hp⟩ : ∃ p, p = 2 ^ k := ⟨_, rfl⟩
            have HSH := Lib.hid (shl_facts k p hp (by omega))
            have HP := Lib.hid hp
            clear hp
            by_cases heq : vs.length = p
            · have hR := HY.out k hlt (heq.trans HP.out)
              have hlg := pf_pow (heq.trans HP.out)
              cases hI : isFun (k : Int) vs with
              | false =>
                have HB := Lib.hid (pf_bad hR (by rw [hlg]; exact hI))
                have heqb : ((vs.length : Int) == (p : Int)) = true := by rw [beq_iff_eq]; omega
                obtain ⟨q1, q2, q3⟩ := HSH.out
                clear hR hlg heq
                go_wp2_with fail
                clear q1 q2 q3 heqb
                refine (c_l2Made_no _ _ _ _ _ _ hv.row (by omega) hI).mono ?_
                rintro e w2 ⟨rfl, hb2⟩
                replace fr := fr.below hb2
                replace bel := bel.trans (hb2.mono bel.size)
                replace kr0 := fr.c0
                replace kr1 := fr.c1
                replace krf := fr.free
                replace hlt2 := fr.lt
                go_wp2_with fail
                refine bodyPost_ret (v := .tuple #[.agg #[.int .i64 0, .slice none 0 0], .bool false]) (by simp [results, Tryz.results27, go_sem, kr0, kr1, krf, hlt2]) rfl ?_
                rw [HB.out.1, HB.out.2.1, HB.out.2.2]
                exact ⟨none, 0, rfl, OwnI.nil _ _ _ _, by simp, below_set2a bel (Nat.le_refl _) _ _ _⟩
              | true =>
                have HB := Lib.hid (pf_good hR (by rw [hlg]; exact hI))
                have HLG := Lib.hid hlg
                have heqb : ((vs.length : Int) == (p : Int)) = true := by rw [beq_iff_eq]; omega
                obtain ⟨q1, q2, q3⟩ := HSH.out
                clear hR hlg heq
                go_wp2_with fail
                clear q1 q2 q3 heqb
                refine (c_l2Made_yes _ _ _ _ _ _ hv.row (by omega) hI).mono ?_
                rintro e w2 ⟨rfl, hb2⟩
                replace fr := fr.below hb2
                replace hv := hv.below hb2
                replace bel := bel.trans (hb2.mono bel.size)
                replace kr0 := fr.c0
                replace kr1 := fr.c1
                replace krf := fr.free
                replace hlt2 := fr.lt
                go_wp2_with fail
                refine bodyPost_ret (v := .tuple #[.agg #[.int .i64 (k : Int), .slice a2 vs.length c2], .bool true]) (by simp [results, Tryz.results27, go_sem, kr0, kr1, krf, hlt2]) rfl ?_
                rw [HB.out.1, HB.out.2.1, HB.out.2.2, HLG.out]
                exact ⟨a2, c2, rfl, (((own_set2 hv (by omega) _ _).alloc _).base (by omega)), by omega, below_set2a bel (Nat.le_refl _) _ _ _⟩
            · have heqb : ((vs.length : Int) == (p : Int)) = false := by rw [beq_eq_false_iff_ne]; omega
              have HE := Lib.hid (show vs.length ≠ 2 ^ k from fun e => heq (e.trans HP.out.symm))
              obtain ⟨q1, q2, q3⟩ := HSH.out
              clear heq
              go_wp2_with fail
              clear q1 q2 q3 heqb
              go_roundw
              case rel =>
                refine ⟨k + 1, by go_num, by omega, fun i hi => ?_, by first | rfl | trivial⟩
                rcases Nat.lt_or_eq_of_le (Nat.le_of_lt_succ hi) with h | rfl
                · exact HA.out i h
                · exact HE.out
              case measure => simp [intOf]; omega
          · have hk5 : ¬ (k : Int) ≤ 5 := by omega
            have HB := Lib.hid (HX.out fun i hi => HA.out i (by omega))
            go_wp2_with fail
            refine bodyPost_ret (v := .tuple #[.agg #[.int .i64 0, .slice none 0 0], .bool false]) (by simp [results, Tryz.results27, go_sem, kr0, kr1]) rfl ?_
            rw [HB.out.1, HB.out.2.1, HB.out.2.2]
            exact ⟨none, 0, rfl, OwnI.nil _ _ _ _, by simp, (bel.setCell (by show w.heap.size ≤ w.heap.size; omega) _).setCell (by show w.heap.size ≤ w.heap.size; omega) _⟩
  · have h200z : ¬ (s.size : Int) ≤ 200 := by omega
    have h0z : (0 : Int) ≤ (s.size : Int) := by omega
    have hR : pfR s = none := by rw [pfR, if_neg h200]
    obtain ⟨vs, hvs⟩ : ∃ vs : List Int, vs = [] := ⟨_, rfl⟩
    have hvl0 : vs.length = 0 := by rw [hvs]; rfl
    have HY := Lib.hid (show ∀ k, k < 6 → vs.length = 2 ^ k → pfR s = some vs from fun k _ h => by have := Nat.pow_pos (n := k) (show 0 < 2 by decide); omega)
    have HX := Lib.hid (show (∀ k, k < 6 → vs.length ≠ 2 ^ k) → pfN s = 0 ∧ pfL s = [] ∧ pfB s = false from fun _ => pf_none hR)
    obtain ⟨J, hvl, hJ⟩ : ∃ J : Nat, vs.length ≤ J ∧ J ≤ 200 := ⟨200, by omega, Nat.le_refl _⟩
    clear hR hvl0
    go_enter Tryz.func27, Tryz.ntmps27
    go_wp2_with fail
    go_loopw [4, 5, 6, 7, 8] (fun vv pv iv nv bv wr => iv = .int .i64 0 ∧ OwnI wr (w.heap.size + 1) 3 .i64 vv vs ∧ FBox wr w.heap.size 26 0 none 0 0 ∧ Below w.heap.size w wr) (fun _ _ iv _ _ _ => 0)
    case atStart => exact ⟨rfl, by rw [hvs]; exact hv, fr, bel⟩
    case round =>
      clear hv fr bel hvs
      obtain ⟨rfl, hv, fr, bel⟩ := hrel
      obtain ⟨a2, c2, rfl, _⟩ := hv.form
      go_wp2_with fail
      go_loopw [9] (fun nv wr2 => ∃ k : Nat, nv = .int .i64 (k : Int) ∧ k ≤ 6 ∧ (∀ i, i < k → vs.length ≠ 2 ^ i) ∧ wr2 = wr) (fun nv _ => 6 - (intOf nv).toNat)
      case atStart => exact ⟨0, rfl, by omega, fun i hi => by omega, rfl⟩
      case round =>
        obtain ⟨k, rfl, hk, hall, rfl⟩ := hrel
        have HA := Lib.hid hall
        clear hall
        have kr0 := fr.c0
        have kr1 := fr.c1
        have krf := fr.free
        have hlt2 := fr.lt
        by_cases hlt : k < 6
        · have hk5 : (k : Int) ≤ 5 := by omega
          obtain ⟨p, hp⟩ : ∃ p, p = 2 ^ k := ⟨_, rfl⟩
          have HSH := Lib.hid (shl_facts k p hp (by omega))
          have HP := Lib.hid hp
          clear hp
          by_cases heq : vs.length = p
          · have hR := HY.out k hlt (heq.trans HP.out)
            have hlg := pf_pow (heq.trans HP.out)
            cases hI : isFun (k : Int) vs with
            | false =>
              have HB := Lib.hid (pf_bad hR (by rw [hlg]; exact hI))
              have heqb : ((vs.length : Int) == (p : Int)) = true := by rw [beq_iff_eq]; omega
              obtain ⟨q1, q2, q3⟩ := HSH.out
              clear hR hlg heq
              go_wp2_with fail
              clear q1 q2 q3 heqb
              refine (c_l2Made_no _ _ _ _ _ _ hv.row (by omega) hI).mono ?_
              rintro e w2 ⟨rfl, hb2⟩
              replace fr := fr.below hb2
              replace bel := bel.trans (hb2.mono bel.size)
              replace kr0 := fr.c0
              replace kr1 := fr.c1
              replace krf := fr.free
              replace hlt2 := fr.lt
              go_wp2_with fail
              refine bodyPost_ret (v := .tuple #[.agg #[.int .i64 0, .slice none 0 0], .bool false]) (by simp [results, Tryz.results27, go_sem, kr0, kr1, krf, hlt2]) rfl ?_
              rw [HB.out.1, HB.out.2.1, HB.out.2.2]
              exact ⟨none, 0, rfl, OwnI.nil _ _ _ _, by simp, below_set2a bel (Nat.le_refl _) _ _ _⟩
            | true =>
              have HB := Lib.hid (pf_good hR (by rw [hlg]; exact hI))
              have HLG := Lib.hid hlg
              have heqb : ((vs.length : Int) == (p : Int)) = true := by rw [beq_iff_eq]; omega
              obtain ⟨q1, q2, q3⟩ := HSH.out
              clear hR hlg heq
              go_wp2_with fail
              clear q1 q2 q3 heqb
              refine (c_l2Made_yes _ _ _ _ _ _ hv.row (by omega) hI).mono ?_
              rintro e w2 ⟨rfl, hb2⟩
              replace fr := fr.below hb2
              replace hv := hv.below hb2
              replace bel := bel.trans (hb2.mono bel.size)
              replace kr0 := fr.c0
              replace kr1 := fr.c1
              replace krf := fr.free
              replace hlt2 := fr.lt
              go_wp2_with fail
              refine bodyPost_ret (v := .tuple #[.agg #[.int .i64 (k : Int), .slice a2 vs.length c2], .bool true]) (by simp [results, Tryz.results27, go_sem, kr0, kr1, krf, hlt2]) rfl ?_
              rw [HB.out.1, HB.out.2.1, HB.out.2.2, HLG.out]
              exact ⟨a2, c2, rfl, (((own_set2 hv (by omega) _ _).alloc _).base (by omega)), by omega, below_set2a bel (Nat.le_refl _) _ _ _⟩
          · have heqb : ((vs.length : Int) == (p : Int)) = false := by rw [beq_eq_false_iff_ne]; omega
            have HE := Lib.hid (show vs.length ≠ 2 ^ k from fun e => heq (e.trans HP.out.symm))
            obtain ⟨q1, q2, q3⟩ := HSH.out
            clear heq
            go_wp2_with fail
            clear q1 q2 q3 heqb
            go_roundw
            case rel =>
              refine ⟨k + 1, by go_num, by omega, fun i hi => ?_, by first | rfl | trivial⟩
              rcases Nat.lt_or_eq_of_le (Nat.le_of_lt_succ hi) with h | rfl
              · exact HA.out i h
              · exact HE.out
            case measure => simp [intOf]; omega
        · have hk5 : ¬ (k : Int) ≤ 5 := by omega
          have HB := Lib.hid (HX.out fun i hi => HA.out i (by omega))
          go_wp2_with fail
          refine bodyPost_ret (v := .tuple #[.agg #[.int .i64 0, .slice none 0 0], .bool false]) (by simp [results, Tryz.results27, go_sem, kr0, kr1]) rfl ?_
          rw [HB.out.1, HB.out.2.1, HB.out.2.2]
          exact ⟨none, 0, rfl, OwnI.nil _ _ _ _, by simp, (bel.setCell (by show w.heap.size ≤ w.heap.size; omega) _).setCell (by show w.heap.size ≤ w.heap.size; omega) _⟩
end Go.Proofs.YtfcgijnfiiaepaaGreatDoor
