/- The walk of FnClosures: it returns true. -/
import Derived.Test.YtfcgijnfiiaepaaLawC
import Derived.Test.YtfcgijnfiiaepaaCurPoly
import Derived.Test.YtfcgijnfiiaepaaHas
import Derived.Deep.DeepCutAuto
import Derived.Deep.CutBlock
namespace Go.Proofs.Ytfcgijnfiiaepaa
set_option linter.unusedSimpArgs false
set_option linter.unusedVariables false
open Go.RowKit

theorem takeH {P : Program} {ops : Array Oper} {Q : Exit → Act → World → Prop} {md : Region.Mode} {S : World → Prop} {i : Nat} {oi : Oper} {d : Option Nat} {v : Value} {fuel : Nat} {listed : Array Bool} {a : Act} {w : World} (hi : ops[i]? = some oi) (hd : oi.dst = d)
    (hs : Region.noSelect ops = true) (hf : Region.free md ops listed i = true) (hr : (Region.ready md ops listed).contains i = true)
    (hQ : ∀ c a w, Q (.panic c) (a.put d v) w → Q (.panic c) a w) (hy : YieldsIf P ops S oi v a) (hS : S w)
    (h : wpAnyH P md ops Q S fuel (listed.setIfInBounds i true) (a.put d v) w) : wpAnyH P md ops Q S (fuel + 1) listed a w := by
  subst hd
  exact wpAnyH_take hi hs hf hr hQ hy hS h
theorem sameF_self (n : Int) (xs : List Int) : sameF n xs n xs = true := by simp [sameF, eqL]
theorem getD_mem {xs : List Int} {i : Nat} (h : i < xs.length) : xs.getD i 0 ∈ xs := by
  rw [List.getD_eq_getElem?_getD, List.getElem?_eq_getElem h]
  exact List.getElem_mem h
set_option maxHeartbeats 200000000 in
set_option maxRecDepth 100000 in
theorem walk_FnClosures (a0 : Option Addr) (n0 c0 : Nat) (z0 : List Int) (w : World) (w0 : InRow .u8 w a0 n0 c0 z0) :
    Calls Try.prog 3 #[.slice a0 n0 c0] w fun e w' => e = .returned (.bool true) ∧ Below w.heap.size w w' := by
  obtain ⟨hr0, hnc0, hcm0, _⟩ := w0
  have hm0 : n0 ≤ maxLen := Nat.le_trans hnc0 hcm0
  have bel := Below.refl w.heap.size w
  by_cases hn : n0 ≤ 1048576
  · have hbig : decide (1048576 < (n0 : Int)) = false := by simp; omega
    go_enter Try.func3, Try.ntmps3
    go_wp2_with fail
    refine (c_big _ _ _ _ hm0).mono ?_
    rw [hbig]
    rintro e w' ⟨rfl, rfl⟩
    clear hbig
    go_wp2_with fail
    refine (c_DrawClosureOf _ _ _ _ _ (hr0.below bel) hn).mono ?_
    rintro e wa1 ⟨m1, a1, c1, z1, x2, hf1, rfl, ho1, hb⟩
    replace bel := bel.trans (hb.mono bel.size)
    clear hb
    have f1 := FBox.new wa1 26 m1 a1 (z1.length) c1
    replace ho1 := ho1.alloc (.cells #[.int .i64 m1, .slice a1 z1.length c1] 26)
    replace bel := bel.alloc bel.size (.cells #[.int .i64 m1, .slice a1 z1.length c1] 26)
    obtain ⟨K, hK⟩ : ∃ x, x = cloR m1 z1 x2 := ⟨_, rfl⟩
    have HK := Lib.hid hK
    clear hK
    have kf10 := f1.c0
    have kf11 := f1.c1
    go_wp2_with fail
    clear kf10 kf11
    refine (c_impl_ClosureOf _ _ _ _ _ _ _ ho1.row (by have := hf1.2.2; omega)).mono ?_
    rw [← HK.out]
    rintro e wa2 ⟨rfl, hb⟩
    replace f1 := f1.below hb
    replace ho1 := ho1.below hb
    replace bel := bel.trans (hb.mono bel.size)
    clear hb
    go_upto_region 5 with fail
    go_cut [4, 5, 83] from 36 (fun s4 s5 s83 wx => s83 = .bool false ∧ Below w.heap.size w wx)
    case first =>
      as_aux_lemma =>
        cases hP : (polyB m1 z1 && isSet m1 x2) with
        | false =>
          as_aux_lemma =>
            have hK : K = -1 := HK.out.trans (clo_none hP)
            subst hK
            clear hP
            replace f1 := f1.drew
            replace ho1 := ho1.drew
            replace bel := bel.drew
            have kf10 := f1.c0
            have kf11 := f1.c1
            go_upto_region 5 with fail
            refine wp_region_held_drew (S := fun w' => w'.cell? ⟨wa1.heap.size, 0, none⟩ = some (.int .i64 m1) ∧ w'.cell? ⟨wa1.heap.size, 1, none⟩ = some (.slice a1 (z1.length) c1)) (by kernel_rfl) ?_ (fun hHeld => ?_)
            · exact ⟨kf10, kf11⟩
            refine takeH (i := 0) (d := some 46) (v := ?_) rfl rfl (by kernel_rfl) (by kernel_rfl) (by kernel_rfl) (fun _ _ _ h => h) (Or.inl ⟨by rfl, ?_⟩) (by assumption) ?_
            rotate_left
            · (intro w' hSw; (try dsimp only at hSw); go_simp; (try with_reducible rfl))
            (try simp only [Act.put, List.setIfInBounds_toArray, List.set_cons_zero, List.set_cons_succ])
            refine takeH (i := 1) (d := some 47) (v := ?_) rfl rfl (by kernel_rfl) (by kernel_rfl) (by kernel_rfl) (fun _ _ _ h => h) (Or.inl ⟨by rfl, ?_⟩) (by assumption) ?_
            rotate_left
            · (intro w' hSw; (try dsimp only at hSw); go_simp; (try with_reducible rfl))
            (try simp only [Act.put, List.setIfInBounds_toArray, List.set_cons_zero, List.set_cons_succ])
            refine takeH (i := 2) (d := some 48) (v := ?_) rfl rfl (by kernel_rfl) (by kernel_rfl) (by kernel_rfl) (fun _ _ _ h => h) (Or.inl ⟨by rfl, ?_⟩) (by assumption) ?_
            rotate_left
            · (intro w' hSw; (try dsimp only at hSw); go_simp; (try with_reducible rfl))
            (try simp only [Act.put, List.setIfInBounds_toArray, List.set_cons_zero, List.set_cons_succ])
            refine wpAnyH_ready (rs := [3]) (by kernel_rfl) (by simp) ?_
            refine AllReadyH.cons rfl (fun K hK => ?_) AllReadyH.nil
            go_simp
            refine (c_spec_ClosureOf _ _ _ _ _ _ _ ho1.row (by have := hf1.2.2; omega)).mono ?_
            rw [← HK.out]
            rintro e w9 ⟨rfl, hb⟩
            replace f1 := f1.below hb
            replace ho1 := ho1.below hb
            replace bel := bel.trans (hb.mono bel.size)
            clear hb
            replace kf10 := f1.c0
            replace kf11 := f1.c1
            (try go_wp2_with fail)
            refine hK.out _ _ ?_ (fun hHeld => ?_)
            · exact ⟨kf10, kf11⟩
            clear hK K
            (try simp only [Act.put, List.setIfInBounds_toArray, List.set_cons_zero, List.set_cons_succ])
            refine takeH (i := 4) (d := some 50) (v := ?_) rfl rfl (by kernel_rfl) (by kernel_rfl) (by kernel_rfl) (fun _ _ _ h => h) (Or.inl ⟨by rfl, ?_⟩) (by assumption) ?_
            rotate_left
            · (intro w' hSw; (try dsimp only at hSw); go_simp; (try with_reducible rfl))
            (try simp only [Act.put, List.setIfInBounds_toArray, List.set_cons_zero, List.set_cons_succ])
            refine takeH (i := 5) (d := some 51) (v := ?_) rfl rfl (by kernel_rfl) (by kernel_rfl) (by kernel_rfl) (fun _ _ _ h => h) (Or.inl ⟨by rfl, ?_⟩) (by assumption) ?_
            rotate_left
            · (intro w' hSw; (try dsimp only at hSw); go_simp; (try with_reducible rfl))
            (try simp only [Act.put, List.setIfInBounds_toArray, List.set_cons_zero, List.set_cons_succ])
            refine takeH (i := 6) (d := some 52) (v := ?_) rfl rfl (by kernel_rfl) (by kernel_rfl) (by kernel_rfl) (fun _ _ _ h => h) (Or.inl ⟨by rfl, ?_⟩) (by assumption) ?_
            rotate_left
            · (intro w' hSw; (try dsimp only at hSw); go_simp; (try with_reducible rfl))
            (try simp only [Act.put, List.setIfInBounds_toArray, List.set_cons_zero, List.set_cons_succ])
            refine takeH (i := 7) (d := some 53) (v := ?_) rfl rfl (by kernel_rfl) (by kernel_rfl) (by kernel_rfl) (fun _ _ _ h => h) (Or.inl ⟨by rfl, ?_⟩) (by assumption) ?_
            rotate_left
            · (intro w' hSw; (try dsimp only at hSw); go_simp; (try with_reducible rfl))
            (try simp only [Act.put, List.setIfInBounds_toArray, List.set_cons_zero, List.set_cons_succ])
            refine takeH (i := 8) (d := some 54) (v := ?_) rfl rfl (by kernel_rfl) (by kernel_rfl) (by kernel_rfl) (fun _ _ _ h => h) (Or.inl ⟨by rfl, ?_⟩) (by assumption) ?_
            rotate_left
            · (intro w' hSw; (try dsimp only at hSw); go_simp; (try with_reducible rfl))
            (try simp only [Act.put, List.setIfInBounds_toArray, List.set_cons_zero, List.set_cons_succ])
            refine takeH (i := 9) (d := some 55) (v := undef) rfl rfl (by kernel_rfl) (by kernel_rfl) (by kernel_rfl) (fun _ _ _ h => h) (Or.inr ⟨by rfl, rfl⟩) (by assumption) ?_
            (try simp only [Act.put, List.setIfInBounds_toArray, List.set_cons_zero, List.set_cons_succ])
            refine takeH (i := 10) (d := some 56) (v := undef) rfl rfl (by kernel_rfl) (by kernel_rfl) (by kernel_rfl) (fun _ _ _ h => h) (Or.inr ⟨by rfl, rfl⟩) (by assumption) ?_
            (try simp only [Act.put, List.setIfInBounds_toArray, List.set_cons_zero, List.set_cons_succ])
            refine takeH (i := 11) (d := some 57) (v := undef) rfl rfl (by kernel_rfl) (by kernel_rfl) (by kernel_rfl) (fun _ _ _ h => h) (Or.inr ⟨by rfl, rfl⟩) (by assumption) ?_
            (try simp only [Act.put, List.setIfInBounds_toArray, List.set_cons_zero, List.set_cons_succ])
            refine takeH (i := 12) (d := some 58) (v := undef) rfl rfl (by kernel_rfl) (by kernel_rfl) (by kernel_rfl) (fun _ _ _ h => h) (Or.inr ⟨by rfl, rfl⟩) (by assumption) ?_
            (try simp only [Act.put, List.setIfInBounds_toArray, List.set_cons_zero, List.set_cons_succ])
            refine takeH (i := 13) (d := some 59) (v := undef) rfl rfl (by kernel_rfl) (by kernel_rfl) (by kernel_rfl) (fun _ _ _ h => h) (Or.inr ⟨by rfl, rfl⟩) (by assumption) ?_
            (try simp only [Act.put, List.setIfInBounds_toArray, List.set_cons_zero, List.set_cons_succ])
            refine takeH (i := 14) (d := some 60) (v := undef) rfl rfl (by kernel_rfl) (by kernel_rfl) (by kernel_rfl) (fun _ _ _ h => h) (Or.inr ⟨by rfl, rfl⟩) (by assumption) ?_
            (try simp only [Act.put, List.setIfInBounds_toArray, List.set_cons_zero, List.set_cons_succ])
            refine takeH (i := 15) (d := some 61) (v := undef) rfl rfl (by kernel_rfl) (by kernel_rfl) (by kernel_rfl) (fun _ _ _ h => h) (Or.inr ⟨by rfl, rfl⟩) (by assumption) ?_
            (try simp only [Act.put, List.setIfInBounds_toArray, List.set_cons_zero, List.set_cons_succ])
            refine takeH (i := 16) (d := some 62) (v := undef) rfl rfl (by kernel_rfl) (by kernel_rfl) (by kernel_rfl) (fun _ _ _ h => h) (Or.inr ⟨by rfl, rfl⟩) (by assumption) ?_
            (try simp only [Act.put, List.setIfInBounds_toArray, List.set_cons_zero, List.set_cons_succ])
            refine takeH (i := 17) (d := some 63) (v := undef) rfl rfl (by kernel_rfl) (by kernel_rfl) (by kernel_rfl) (fun _ _ _ h => h) (Or.inr ⟨by rfl, rfl⟩) (by assumption) ?_
            (try simp only [Act.put, List.setIfInBounds_toArray, List.set_cons_zero, List.set_cons_succ])
            refine takeH (i := 18) (d := some 64) (v := undef) rfl rfl (by kernel_rfl) (by kernel_rfl) (by kernel_rfl) (fun _ _ _ h => h) (Or.inr ⟨by rfl, rfl⟩) (by assumption) ?_
            (try simp only [Act.put, List.setIfInBounds_toArray, List.set_cons_zero, List.set_cons_succ])
            refine takeH (i := 19) (d := some 65) (v := undef) rfl rfl (by kernel_rfl) (by kernel_rfl) (by kernel_rfl) (fun _ _ _ h => h) (Or.inr ⟨by rfl, rfl⟩) (by assumption) ?_
            (try simp only [Act.put, List.setIfInBounds_toArray, List.set_cons_zero, List.set_cons_succ])
            refine takeH (i := 20) (d := some 66) (v := undef) rfl rfl (by kernel_rfl) (by kernel_rfl) (by kernel_rfl) (fun _ _ _ h => h) (Or.inr ⟨by rfl, rfl⟩) (by assumption) ?_
            (try simp only [Act.put, List.setIfInBounds_toArray, List.set_cons_zero, List.set_cons_succ])
            refine takeH (i := 21) (d := some 67) (v := undef) rfl rfl (by kernel_rfl) (by kernel_rfl) (by kernel_rfl) (fun _ _ _ h => h) (Or.inr ⟨by rfl, rfl⟩) (by assumption) ?_
            (try simp only [Act.put, List.setIfInBounds_toArray, List.set_cons_zero, List.set_cons_succ])
            refine takeH (i := 22) (d := some 68) (v := undef) rfl rfl (by kernel_rfl) (by kernel_rfl) (by kernel_rfl) (fun _ _ _ h => h) (Or.inr ⟨by rfl, rfl⟩) (by assumption) ?_
            (try simp only [Act.put, List.setIfInBounds_toArray, List.set_cons_zero, List.set_cons_succ])
            refine takeH (i := 23) (d := some 69) (v := undef) rfl rfl (by kernel_rfl) (by kernel_rfl) (by kernel_rfl) (fun _ _ _ h => h) (Or.inr ⟨by rfl, rfl⟩) (by assumption) ?_
            (try simp only [Act.put, List.setIfInBounds_toArray, List.set_cons_zero, List.set_cons_succ])
            refine takeH (i := 24) (d := some 70) (v := undef) rfl rfl (by kernel_rfl) (by kernel_rfl) (by kernel_rfl) (fun _ _ _ h => h) (Or.inr ⟨by rfl, rfl⟩) (by assumption) ?_
            (try simp only [Act.put, List.setIfInBounds_toArray, List.set_cons_zero, List.set_cons_succ])
            refine takeH (i := 25) (d := some 71) (v := undef) rfl rfl (by kernel_rfl) (by kernel_rfl) (by kernel_rfl) (fun _ _ _ h => h) (Or.inr ⟨by rfl, rfl⟩) (by assumption) ?_
            (try simp only [Act.put, List.setIfInBounds_toArray, List.set_cons_zero, List.set_cons_succ])
            refine takeH (i := 26) (d := some 72) (v := undef) rfl rfl (by kernel_rfl) (by kernel_rfl) (by kernel_rfl) (fun _ _ _ h => h) (Or.inr ⟨by rfl, rfl⟩) (by assumption) ?_
            (try simp only [Act.put, List.setIfInBounds_toArray, List.set_cons_zero, List.set_cons_succ])
            refine takeH (i := 27) (d := some 73) (v := undef) rfl rfl (by kernel_rfl) (by kernel_rfl) (by kernel_rfl) (fun _ _ _ h => h) (Or.inr ⟨by rfl, rfl⟩) (by assumption) ?_
            (try simp only [Act.put, List.setIfInBounds_toArray, List.set_cons_zero, List.set_cons_succ])
            refine takeH (i := 28) (d := some 74) (v := undef) rfl rfl (by kernel_rfl) (by kernel_rfl) (by kernel_rfl) (fun _ _ _ h => h) (Or.inr ⟨by rfl, rfl⟩) (by assumption) ?_
            (try simp only [Act.put, List.setIfInBounds_toArray, List.set_cons_zero, List.set_cons_succ])
            refine takeH (i := 29) (d := some 75) (v := undef) rfl rfl (by kernel_rfl) (by kernel_rfl) (by kernel_rfl) (fun _ _ _ h => h) (Or.inr ⟨by rfl, rfl⟩) (by assumption) ?_
            (try simp only [Act.put, List.setIfInBounds_toArray, List.set_cons_zero, List.set_cons_succ])
            refine takeH (i := 30) (d := some 76) (v := undef) rfl rfl (by kernel_rfl) (by kernel_rfl) (by kernel_rfl) (fun _ _ _ h => h) (Or.inr ⟨by rfl, rfl⟩) (by assumption) ?_
            (try simp only [Act.put, List.setIfInBounds_toArray, List.set_cons_zero, List.set_cons_succ])
            refine takeH (i := 31) (d := some 77) (v := undef) rfl rfl (by kernel_rfl) (by kernel_rfl) (by kernel_rfl) (fun _ _ _ h => h) (Or.inr ⟨by rfl, rfl⟩) (by assumption) ?_
            (try simp only [Act.put, List.setIfInBounds_toArray, List.set_cons_zero, List.set_cons_succ])
            refine takeH (i := 32) (d := some 78) (v := undef) rfl rfl (by kernel_rfl) (by kernel_rfl) (by kernel_rfl) (fun _ _ _ h => h) (Or.inr ⟨by rfl, rfl⟩) (by assumption) ?_
            (try simp only [Act.put, List.setIfInBounds_toArray, List.set_cons_zero, List.set_cons_succ])
            refine takeH (i := 33) (d := some 79) (v := undef) rfl rfl (by kernel_rfl) (by kernel_rfl) (by kernel_rfl) (fun _ _ _ h => h) (Or.inr ⟨by rfl, rfl⟩) (by assumption) ?_
            (try simp only [Act.put, List.setIfInBounds_toArray, List.set_cons_zero, List.set_cons_succ])
            refine takeH (i := 34) (d := some 80) (v := undef) rfl rfl (by kernel_rfl) (by kernel_rfl) (by kernel_rfl) (fun _ _ _ h => h) (Or.inr ⟨by rfl, rfl⟩) (by assumption) ?_
            (try simp only [Act.put, List.setIfInBounds_toArray, List.set_cons_zero, List.set_cons_succ])
            refine takeH (i := 35) (d := some 81) (v := undef) rfl rfl (by kernel_rfl) (by kernel_rfl) (by kernel_rfl) (fun _ _ _ h => h) (Or.inr ⟨by rfl, rfl⟩) (by assumption) ?_
            (try simp only [Act.put, List.setIfInBounds_toArray, List.set_cons_zero, List.set_cons_succ])
            refine takeH (i := 36) (d := some 82) (v := ?_) rfl rfl (by kernel_rfl) (by kernel_rfl) (by kernel_rfl) (fun _ _ _ h => h) (Or.inl ⟨by rfl, ?_⟩) (by assumption) ?_
            rotate_left
            · (intro w' hSw; (try dsimp only at hSw); go_simp; (try with_reducible rfl))
            (try simp only [Act.put, List.setIfInBounds_toArray, List.set_cons_zero, List.set_cons_succ])
            refine takeH (i := 37) (d := some 83) (v := ?_) rfl rfl (by kernel_rfl) (by kernel_rfl) (by kernel_rfl) (fun _ _ _ h => h) (Or.inl ⟨by rfl, ?_⟩) (by assumption) ?_
            rotate_left
            · (intro w' hSw; (try dsimp only at hSw); go_simp; (try with_reducible rfl))
            (try simp only [Act.put, List.setIfInBounds_toArray, List.set_cons_zero, List.set_cons_succ])
            refine wpAnyH_done (by kernel_rfl) ?_ _
            all_goals
              go_wp2_with fail
              go_meet
              exact ⟨rfl, bel⟩
        | true =>
          as_aux_lemma =>
            have hP2 : polyB m1 z1 = true ∧ isSet m1 x2 = true := by simpa using hP
            obtain ⟨k, e1, hk32, e3, e4, e5, e6⟩ := clo_facts hP2.1 hP2.2
            have hK : K = (k : Int) := HK.out.trans e1
            subst hK
            clear hP hP2 e1
            have hk0 : (0 : Int) ≤ (k : Int) := by omega
            obtain ⟨V, hV⟩ : ∃ V, V = valR m1 z1 x2 := ⟨_, rfl⟩
            rw [← hV] at e6
            have H4 := Lib.hid e4
            have H5 := Lib.hid e5
            have H6 := Lib.hid e6
            have HV := Lib.hid hV
            clear e4 e5 e6 hV
            replace f1 := f1.drew
            replace ho1 := ho1.drew
            replace bel := bel.drew
            have kf10 := f1.c0
            have kf11 := f1.c1
            go_wp2_with fail
            go_region_held3 (fun w' => w'.cell? ⟨wa1.heap.size, 0, none⟩ = some (.int .i64 m1) ∧ w'.cell? ⟨wa1.heap.size, 1, none⟩ = some (.slice a1 (z1.length) c1)) (go_keep)
              (first
                | (go_at_call 8; refine (c_spec_ClosureOf _ _ _ _ _ _ _ ho1.row (by have := hf1.2.2; omega)).mono ?_; rw [← HK.out]; rintro e w9 ⟨rfl, hb⟩; replace f1 := f1.below hb; replace ho1 := ho1.below hb; replace bel := bel.trans (hb.mono bel.size); clear hb; replace kf10 := f1.c0; replace kf11 := f1.c1)
                | (go_at_call 7; refine (c_impl_ClosureOf _ _ _ _ _ _ _ ho1.row (by have := hf1.2.2; omega)).mono ?_; rw [H4.out]; rintro e w9 ⟨rfl, hb⟩; replace f1 := f1.below hb; replace ho1 := ho1.below hb; replace bel := bel.trans (hb.mono bel.size); clear hb; replace kf10 := f1.c0; replace kf11 := f1.c1)
                | (go_at_call 9; refine (c_impl_IsFlat _ _ _ _ _ _ _ ho1.row (by have := hf1.2.2; omega)).mono ?_; rw [H5.out]; rintro e w9 ⟨rfl, hb⟩; replace f1 := f1.below hb; replace ho1 := ho1.below hb; replace bel := bel.trans (hb.mono bel.size); clear hb; replace kf10 := f1.c0; replace kf11 := f1.c1)
                | (go_at_call_of 10 k; refine (c_impl_ValueOf _ _ _ _ _ _ _ ho1.row (by have := hf1.2.2; omega)).mono ?_; rw [H6.out]; rintro e w9 ⟨rfl, hb⟩; replace f1 := f1.below hb; replace ho1 := ho1.below hb; replace bel := bel.trans (hb.mono bel.size); clear hb; replace kf10 := f1.c0; replace kf11 := f1.c1)
                | (go_at_call_of 10 x2; refine (c_impl_ValueOf _ _ _ _ _ _ _ ho1.row (by have := hf1.2.2; omega)).mono ?_; rw [← HV.out]; rintro e w9 ⟨rfl, hb⟩; replace f1 := f1.below hb; replace ho1 := ho1.below hb; replace bel := bel.trans (hb.mono bel.size); clear hb; replace kf10 := f1.c0; replace kf11 := f1.c1))
            all_goals
              go_wp2_with fail
              go_meet
              exact ⟨rfl, bel⟩
    case rest =>
      as_aux_lemma =>
        clear f1 ho1 bel HK hf1
        obtain ⟨rfl, bel⟩ := hcut
        go_wp2_with fail
        refine (c_DrawFlatsOf _ _ _ _ _ (hr0.below bel) hn).mono ?_
        rintro e wr1 ⟨m1, a1, c1, z1, hf1, rfl, ho1, hb⟩
        replace bel := bel.trans (hb.mono bel.size)
        clear hb
        have f1 := FBox.new wr1 26 m1 a1 (z1.length) c1
        replace ho1 := ho1.alloc (.cells #[.int .i64 m1, .slice a1 z1.length c1] 26)
        replace bel := bel.alloc bel.size (.cells #[.int .i64 m1, .slice a1 z1.length c1] 26)
        obtain ⟨FL, hFL⟩ : ∃ x, x = flatL m1 z1 := ⟨_, rfl⟩
        have HFL := Lib.hid hFL
        clear hFL
        obtain ⟨PB, hPB⟩ : ∃ x, x = polyB m1 z1 := ⟨_, rfl⟩
        have HPB := Lib.hid hPB
        clear hPB
        have kf10 := f1.c0
        have kf11 := f1.c1
        go_wp2_with fail
        clear kf10 kf11
        refine (c_impl_FlatsOf _ _ _ _ _ _ ho1.row (by have := hf1.2.2; omega)).mono ?_
        rw [← HFL.out, ← HPB.out]
        rintro e wr2 ⟨a3, c3, rfl, ho3, hl3, hb⟩
        replace f1 := f1.below hb
        replace ho1 := ho1.below hb
        replace bel := bel.trans (hb.mono bel.size)
        clear hb
        have kf10 := f1.c0
        have kf11 := f1.c1
        go_wp2_with fail
        clear kf10 kf11
        refine (c_spec_FlatsOf _ _ _ _ _ _ ho1.row (by have := hf1.2.2; omega)).mono ?_
        rw [← HFL.out, ← HPB.out]
        rintro e wr3 ⟨a4, c4, rfl, ho4, hl4, hb⟩
        replace f1 := f1.below hb
        replace ho1 := ho1.below hb
        replace ho3 := ho3.below hb
        replace bel := bel.trans (hb.mono bel.size)
        clear hb
        go_wp2_with fail
        refine (c_sameInts_self _ _ _ _ _ _ _ _ ho3.row ho4.row hl3 hl4).mono ?_
        rintro e wr4 ⟨rfl, hb⟩
        replace f1 := f1.below hb
        replace ho1 := ho1.below hb
        replace ho3 := ho3.below hb
        replace ho4 := ho4.below hb
        replace bel := bel.trans (hb.mono bel.size)
        clear hb
        go_upto_block 0 with fail
        go_cut [11, 12] from 36 (fun s11 s12 wx => Below w.heap.size w wx)
        case first =>
          as_aux_lemma =>
            have HBEL := Lib.hid bel
            have Hho4 := Lib.hid ho4
            have l4 := ho4.range
            clear f1 ho1 ho3 ho4 bel
            go_wp2_with fail
            go_loopw [11, 12] (fun iv kv wr => ∃ i : Nat, iv = .int .i64 (i : Int) ∧ i ≤ FL.length ∧ Below wr4.heap.size wr4 wr) (fun iv _ _ => FL.length - (intOf iv).toNat)
            case atStart => exact ⟨0, rfl, Nat.zero_le _, Below.refl _ _⟩
            case round =>
              obtain ⟨i, rfl, hi, hbw⟩ := hrel
              by_cases hlt : i < FL.length
              · have hiz : (i : Int) < (FL.length : Int) := by omega
                have hB2 := hbw.size
                go_wp2_with fail
                go_loopw [12] (fun kv w2 => ∃ k : Nat, kv = .int .i64 (k : Int) ∧ k ≤ i ∧ Below wr4.heap.size wr4 w2) (fun kv _ => i - (intOf kv).toNat)
                case atStart => exact ⟨0, rfl, Nat.zero_le _, hbw⟩
                case round =>
                  clear hbw hB2
                  obtain ⟨k, rfl, hk, hbw⟩ := hrel
                  by_cases hkt : k < i
                  · have hkz : (k : Int) < (i : Int) := by omega
                    have hkz2 : (k : Int) < (FL.length : Int) := by omega
                    have ho4 := Hho4.out.below hbw
                    have hrw := ho4.row
                    obtain ⟨b, off, rfl, hblt, hc⟩ := ho4.row.at_ (by omega)
                    have g1 := hc i hlt
                    have g2 := hc k (by omega)
                    have hm := flat_meet (by rw [← HFL.out]; exact getD_mem hlt) (by rw [← HFL.out]; exact getD_mem (show k < FL.length by omega))
                    rw [← HFL.out] at hm
                    obtain ⟨x, hx⟩ : ∃ x, x = FL.getD i 0 := ⟨_, rfl⟩
                    obtain ⟨y, hy⟩ : ∃ y, y = FL.getD k 0 := ⟨_, rfl⟩
                    rw [← hx] at g1 hm
                    rw [← hy] at g2 hm
                    have HM := Lib.hid hm
                    have HRW := Lib.hid hrw
                    clear hx hy hm hc hrw ho4
                    have hbwd := hbw.drew
                    go_wp2_with fail
                    go_region_held3 (fun w' => w'.cell? ⟨b, off + i, none⟩ = some (.int .i64 x) ∧ w'.cell? ⟨b, off + k, none⟩ = some (.int .i64 y)) (go_keep) (first | (go_at_call 15; refine (c_has _ _ _ _ _ _ (Row.drew HRW.out) (by omega) HM.out).mono ?_; rintro e w9 ⟨rfl, rfl⟩))
                    all_goals
                      go_wp2
                      go_roundw
                      case rel => exact ⟨k + 1, by go_num, by omega, hbwd⟩
                      case measure => simp [intOf]; omega
                  · go_wp2
                    go_roundw
                    case rel => first | exact ⟨i + 1, by go_num, by omega, hbw⟩ | exact ⟨_, i + 1, by go_num, by omega, hbw⟩ | ((repeat apply Exists.intro); exact ⟨⟨i + 1, by go_num, by omega, hbw⟩, rfl⟩)
                    case measure => simp [intOf]; omega
              · go_wp2_with fail
                go_meet
                exact HBEL.out.trans (hbw.mono HBEL.out.size)
        case rest =>
          as_aux_lemma =>
            clear f1 ho1 ho3 ho4 bel HFL HPB hf1 hl3 hl4
            have bel := hcut
            clear hcut
            go_wp2_with fail
            refine (c_DrawRestrictFunction _ _ _ _ _ (hr0.below bel) hn).mono ?_
            rintro e wq1 ⟨m1, a1, c1, z1, x2, hf1, rfl, ho1, hb⟩
            replace bel := bel.trans (hb.mono bel.size)
            clear hb
            have f1 := FBox.new wq1 26 m1 a1 (z1.length) c1
            replace ho1 := ho1.alloc (.cells #[.int .i64 m1, .slice a1 z1.length c1] 26)
            replace bel := bel.alloc bel.size (.cells #[.int .i64 m1, .slice a1 z1.length c1] 26)
            obtain ⟨N, hN⟩ : ∃ x, x = gN (in5 m1 z1 x2) (sizeN x2.toNat : Int) (tabOf (sizeN x2.toNat : Int) (resV z1 x2.toNat)) := ⟨_, rfl⟩
            have HN := Lib.hid hN
            clear hN
            obtain ⟨L, hL⟩ : ∃ x, x = gL (in5 m1 z1 x2) (sizeN x2.toNat : Int) (tabOf (sizeN x2.toNat : Int) (resV z1 x2.toNat)) := ⟨_, rfl⟩
            have HL := Lib.hid hL
            clear hL
            obtain ⟨B, hB⟩ : ∃ x, x = gB (in5 m1 z1 x2) (sizeN x2.toNat : Int) (tabOf (sizeN x2.toNat : Int) (resV z1 x2.toNat)) := ⟨_, rfl⟩
            have HB := Lib.hid hB
            clear hB
            obtain ⟨M, hM⟩ : ∃ x, x = gN (in5 m1 z1 x2) (sizeN (restN m1 x2) : Int) (tabOf (sizeN (restN m1 x2) : Int) (conV z1 x2.toNat (restN m1 x2))) := ⟨_, rfl⟩
            have HM := Lib.hid hM
            clear hM
            obtain ⟨J, hJ⟩ : ∃ x, x = gL (in5 m1 z1 x2) (sizeN (restN m1 x2) : Int) (tabOf (sizeN (restN m1 x2) : Int) (conV z1 x2.toNat (restN m1 x2))) := ⟨_, rfl⟩
            have HJ := Lib.hid hJ
            clear hJ
            obtain ⟨C, hC⟩ : ∃ x, x = gB (in5 m1 z1 x2) (sizeN (restN m1 x2) : Int) (tabOf (sizeN (restN m1 x2) : Int) (conV z1 x2.toNat (restN m1 x2))) := ⟨_, rfl⟩
            have HC := Lib.hid hC
            clear hC
            have kf10 := f1.c0
            have kf11 := f1.c1
            go_wp2_with fail
            clear kf10 kf11
            refine (c_impl_RestrictFunction _ _ _ _ _ _ _ ho1.row (by have := hf1.2.2; omega)).mono ?_
            rw [← HN.out, ← HL.out, ← HB.out]
            rintro e wq2 ⟨a3, c3, rfl, ho3, hl3, hb⟩
            replace f1 := f1.below hb
            replace ho1 := ho1.below hb
            replace bel := bel.trans (hb.mono bel.size)
            clear hb
            have f3 := FBox.new wq2 26 N a3 (L.length) c3
            replace f1 := f1.alloc (.cells #[.int .i64 N, .slice a3 L.length c3] 26)
            replace ho1 := ho1.alloc (.cells #[.int .i64 N, .slice a3 L.length c3] 26)
            replace ho3 := ho3.alloc (.cells #[.int .i64 N, .slice a3 L.length c3] 26)
            replace bel := bel.alloc bel.size (.cells #[.int .i64 N, .slice a3 L.length c3] 26)
            have kf10 := f1.c0
            have kf11 := f1.c1
            go_wp2_with fail
            clear kf10 kf11
            refine (c_spec_RestrictFunction _ _ _ _ _ _ _ ho1.row (by have := hf1.2.2; omega)).mono ?_
            rw [← HN.out, ← HL.out, ← HB.out]
            rintro e wq3 ⟨a4, c4, rfl, ho4, hl4, hb⟩
            replace f1 := f1.below hb
            replace f3 := f3.below hb
            replace ho1 := ho1.below hb
            replace ho3 := ho3.below hb
            replace bel := bel.trans (hb.mono bel.size)
            clear hb
            have f4 := FBox.new wq3 26 N a4 (L.length) c4
            replace f1 := f1.alloc (.cells #[.int .i64 N, .slice a4 L.length c4] 26)
            replace f3 := f3.alloc (.cells #[.int .i64 N, .slice a4 L.length c4] 26)
            replace ho1 := ho1.alloc (.cells #[.int .i64 N, .slice a4 L.length c4] 26)
            replace ho3 := ho3.alloc (.cells #[.int .i64 N, .slice a4 L.length c4] 26)
            replace ho4 := ho4.alloc (.cells #[.int .i64 N, .slice a4 L.length c4] 26)
            replace bel := bel.alloc bel.size (.cells #[.int .i64 N, .slice a4 L.length c4] 26)
            have kf10 := f1.c0
            have kf11 := f1.c1
            go_wp2_with fail
            clear kf10 kf11
            refine (c_impl_ContractFunction _ _ _ _ _ _ _ ho1.row (by have := hf1.2.2; omega)).mono ?_
            rw [← HM.out, ← HJ.out, ← HC.out]
            rintro e wq4 ⟨a5, c5, rfl, ho5, hl5, hb⟩
            replace f1 := f1.below hb
            replace f3 := f3.below hb
            replace f4 := f4.below hb
            replace ho1 := ho1.below hb
            replace ho3 := ho3.below hb
            replace ho4 := ho4.below hb
            replace bel := bel.trans (hb.mono bel.size)
            clear hb
            have f5 := FBox.new wq4 26 M a5 (J.length) c5
            replace f1 := f1.alloc (.cells #[.int .i64 M, .slice a5 J.length c5] 26)
            replace f3 := f3.alloc (.cells #[.int .i64 M, .slice a5 J.length c5] 26)
            replace f4 := f4.alloc (.cells #[.int .i64 M, .slice a5 J.length c5] 26)
            replace ho1 := ho1.alloc (.cells #[.int .i64 M, .slice a5 J.length c5] 26)
            replace ho3 := ho3.alloc (.cells #[.int .i64 M, .slice a5 J.length c5] 26)
            replace ho4 := ho4.alloc (.cells #[.int .i64 M, .slice a5 J.length c5] 26)
            replace ho5 := ho5.alloc (.cells #[.int .i64 M, .slice a5 J.length c5] 26)
            replace bel := bel.alloc bel.size (.cells #[.int .i64 M, .slice a5 J.length c5] 26)
            have kf10 := f1.c0
            have kf11 := f1.c1
            go_wp2_with fail
            clear kf10 kf11
            refine (c_spec_ContractFunction _ _ _ _ _ _ _ ho1.row (by have := hf1.2.2; omega)).mono ?_
            rw [← HM.out, ← HJ.out, ← HC.out]
            rintro e wq5 ⟨a6, c6, rfl, ho6, hl6, hb⟩
            replace f1 := f1.below hb
            replace f3 := f3.below hb
            replace f4 := f4.below hb
            replace f5 := f5.below hb
            replace ho1 := ho1.below hb
            replace ho3 := ho3.below hb
            replace ho4 := ho4.below hb
            replace ho5 := ho5.below hb
            replace bel := bel.trans (hb.mono bel.size)
            clear hb
            have f6 := FBox.new wq5 26 M a6 (J.length) c6
            replace f1 := f1.alloc (.cells #[.int .i64 M, .slice a6 J.length c6] 26)
            replace f3 := f3.alloc (.cells #[.int .i64 M, .slice a6 J.length c6] 26)
            replace f4 := f4.alloc (.cells #[.int .i64 M, .slice a6 J.length c6] 26)
            replace f5 := f5.alloc (.cells #[.int .i64 M, .slice a6 J.length c6] 26)
            replace ho1 := ho1.alloc (.cells #[.int .i64 M, .slice a6 J.length c6] 26)
            replace ho3 := ho3.alloc (.cells #[.int .i64 M, .slice a6 J.length c6] 26)
            replace ho4 := ho4.alloc (.cells #[.int .i64 M, .slice a6 J.length c6] 26)
            replace ho5 := ho5.alloc (.cells #[.int .i64 M, .slice a6 J.length c6] 26)
            replace ho6 := ho6.alloc (.cells #[.int .i64 M, .slice a6 J.length c6] 26)
            replace bel := bel.alloc bel.size (.cells #[.int .i64 M, .slice a6 J.length c6] 26)
            go_upto_region 25 with fail
            go_cut [16, 18, 20, 22, 201] from 36 (fun s16 s18 s20 s22 s201 wx => s201 = .bool false ∧ Below w.heap.size w wx)
            case first =>
              as_aux_lemma =>
                cases hBB : B with
                | false =>
                  have kf30 := f3.c0
                  have kf31 := f3.c1
                  have kf40 := f4.c0
                  have kf41 := f4.c1
                  go_wp2_with fail
                  clear kf30 kf31 kf40 kf41
                  refine (c_spec_EqualFunctions _ _ _ _ _ _ _ _ _ _ _ ho3.row hl3 ho4.row hl4).mono ?_
                  rw [sameF_self]
                  rintro e wq6 ⟨rfl, hb⟩
                  replace f1 := f1.below hb
                  replace f3 := f3.below hb
                  replace f4 := f4.below hb
                  replace f5 := f5.below hb
                  replace f6 := f6.below hb
                  replace ho1 := ho1.below hb
                  replace ho3 := ho3.below hb
                  replace ho4 := ho4.below hb
                  replace ho5 := ho5.below hb
                  replace ho6 := ho6.below hb
                  replace bel := bel.trans (hb.mono bel.size)
                  clear hb
                  have kf50 := f5.c0
                  have kf51 := f5.c1
                  have kf60 := f6.c0
                  have kf61 := f6.c1
                  go_wp2_with fail
                  clear kf50 kf51 kf60 kf61
                  refine (c_spec_EqualFunctions _ _ _ _ _ _ _ _ _ _ _ ho5.row hl5 ho6.row hl6).mono ?_
                  rw [sameF_self]
                  rintro e wq7 ⟨rfl, hb⟩
                  replace f1 := f1.below hb
                  replace f3 := f3.below hb
                  replace f4 := f4.below hb
                  replace f5 := f5.below hb
                  replace f6 := f6.below hb
                  replace ho1 := ho1.below hb
                  replace ho3 := ho3.below hb
                  replace ho4 := ho4.below hb
                  replace ho5 := ho5.below hb
                  replace ho6 := ho6.below hb
                  replace bel := bel.trans (hb.mono bel.size)
                  clear hb
                  go_wp2_with fail
                  go_meet
                  exact ⟨rfl, bel⟩
                | true =>
                  have kf30 := f3.c0
                  have kf31 := f3.c1
                  have kf40 := f4.c0
                  have kf41 := f4.c1
                  go_wp2_with fail
                  clear kf30 kf31 kf40 kf41
                  refine (c_spec_EqualFunctions _ _ _ _ _ _ _ _ _ _ _ ho3.row hl3 ho4.row hl4).mono ?_
                  rw [sameF_self]
                  rintro e wq6 ⟨rfl, hb⟩
                  replace f1 := f1.below hb
                  replace f3 := f3.below hb
                  replace f4 := f4.below hb
                  replace f5 := f5.below hb
                  replace f6 := f6.below hb
                  replace ho1 := ho1.below hb
                  replace ho3 := ho3.below hb
                  replace ho4 := ho4.below hb
                  replace ho5 := ho5.below hb
                  replace ho6 := ho6.below hb
                  replace bel := bel.trans (hb.mono bel.size)
                  clear hb
                  have kf50 := f5.c0
                  have kf51 := f5.c1
                  have kf60 := f6.c0
                  have kf61 := f6.c1
                  go_wp2_with fail
                  clear kf50 kf51 kf60 kf61
                  refine (c_spec_EqualFunctions _ _ _ _ _ _ _ _ _ _ _ ho5.row hl5 ho6.row hl6).mono ?_
                  rw [sameF_self]
                  rintro e wq7 ⟨rfl, hb⟩
                  replace f1 := f1.below hb
                  replace f3 := f3.below hb
                  replace f4 := f4.below hb
                  replace f5 := f5.below hb
                  replace f6 := f6.below hb
                  replace ho1 := ho1.below hb
                  replace ho3 := ho3.below hb
                  replace ho4 := ho4.below hb
                  replace ho5 := ho5.below hb
                  replace ho6 := ho6.below hb
                  replace bel := bel.trans (hb.mono bel.size)
                  clear hb
                  cases hS : subB m1 z1 with
                  | false =>
                    have kf10 := f1.c0
                    have kf11 := f1.c1
                    go_wp2_with fail
                    clear kf10 kf11
                    refine (c_spec_IsSubmodular _ _ _ _ _ _ ho1.row (by have := hf1.2.2; omega)).mono ?_
                    rw [hS]
                    rintro e wq8 ⟨rfl, hb⟩
                    replace f1 := f1.below hb
                    replace f3 := f3.below hb
                    replace f4 := f4.below hb
                    replace f5 := f5.below hb
                    replace f6 := f6.below hb
                    replace ho1 := ho1.below hb
                    replace ho3 := ho3.below hb
                    replace ho4 := ho4.below hb
                    replace ho5 := ho5.below hb
                    replace ho6 := ho6.below hb
                    replace bel := bel.trans (hb.mono bel.size)
                    clear hb
                    go_wp2_with fail
                    go_meet
                    exact ⟨rfl, bel⟩
                  | true =>
                    have kf10 := f1.c0
                    have kf11 := f1.c1
                    go_wp2_with fail
                    clear kf10 kf11
                    refine (c_spec_IsSubmodular _ _ _ _ _ _ ho1.row (by have := hf1.2.2; omega)).mono ?_
                    rw [hS]
                    rintro e wq8 ⟨rfl, hb⟩
                    replace f1 := f1.below hb
                    replace f3 := f3.below hb
                    replace f4 := f4.below hb
                    replace f5 := f5.below hb
                    replace f6 := f6.below hb
                    replace ho1 := ho1.below hb
                    replace ho3 := ho3.below hb
                    replace ho4 := ho4.below hb
                    replace ho5 := ho5.below hb
                    replace ho6 := ho6.below hb
                    replace bel := bel.trans (hb.mono bel.size)
                    clear hb
                    have hNL : subB N L = true := by rw [HN.out, HL.out, (g_true (HB.out.symm.trans hBB)).2.2.1, (g_true (HB.out.symm.trans hBB)).2.2.2]; exact res_sub (HB.out.symm.trans hBB) hS
                    have kf40 := f4.c0
                    have kf41 := f4.c1
                    go_wp2_with fail
                    clear kf40 kf41
                    refine (c_impl_IsSubmodular _ _ _ _ _ _ ho4.row hl4).mono ?_
                    rw [hNL]
                    rintro e wq9 ⟨rfl, hb⟩
                    replace f1 := f1.below hb
                    replace f3 := f3.below hb
                    replace f4 := f4.below hb
                    replace f5 := f5.below hb
                    replace f6 := f6.below hb
                    replace ho1 := ho1.below hb
                    replace ho3 := ho3.below hb
                    replace ho4 := ho4.below hb
                    replace ho5 := ho5.below hb
                    replace ho6 := ho6.below hb
                    replace bel := bel.trans (hb.mono bel.size)
                    clear hb
                    clear hNL
                    cases hCC : C with
                    | false =>
                      go_wp2_with fail
                      go_meet
                      exact ⟨rfl, bel⟩
                    | true =>
                      have hc : gB (in5 m1 z1 x2) (sizeN (restN m1 x2) : Int) (tabOf (sizeN (restN m1 x2) : Int) (conV z1 x2.toNat (restN m1 x2))) = true := HC.out.symm.trans hCC
                      have hMJ : subB M J = true := by rw [HM.out, HJ.out, (g_true hc).2.2.1, (g_true hc).2.2.2]; exact con_sub hc hS
                      have hGR : groundB M J = true := by rw [HM.out, HJ.out, (g_true hc).2.2.1, (g_true hc).2.2.2]; exact con_ground hc
                      have HMJ := Lib.hid hMJ
                      have HGR := Lib.hid hGR
                      clear hMJ hGR hc
                      have kf60 := f6.c0
                      have kf61 := f6.c1
                      go_wp2_with fail
                      clear kf60 kf61
                      refine (c_impl_IsSubmodular _ _ _ _ _ _ ho6.row hl6).mono ?_
                      rw [HMJ.out]
                      rintro e wq10 ⟨rfl, hb⟩
                      replace f1 := f1.below hb
                      replace f3 := f3.below hb
                      replace f4 := f4.below hb
                      replace f5 := f5.below hb
                      replace f6 := f6.below hb
                      replace ho1 := ho1.below hb
                      replace ho3 := ho3.below hb
                      replace ho4 := ho4.below hb
                      replace ho5 := ho5.below hb
                      replace ho6 := ho6.below hb
                      replace bel := bel.trans (hb.mono bel.size)
                      clear hb
                      have kf60 := f6.c0
                      have kf61 := f6.c1
                      go_wp2_with fail
                      clear kf60 kf61
                      refine (c_impl_IsGrounded _ _ _ _ _ _ ho6.row hl6).mono ?_
                      rw [HGR.out]
                      rintro e wq11 ⟨rfl, hb⟩
                      replace f1 := f1.below hb
                      replace f3 := f3.below hb
                      replace f4 := f4.below hb
                      replace f5 := f5.below hb
                      replace f6 := f6.below hb
                      replace ho1 := ho1.below hb
                      replace ho3 := ho3.below hb
                      replace ho4 := ho4.below hb
                      replace ho5 := ho5.below hb
                      replace ho6 := ho6.below hb
                      replace bel := bel.trans (hb.mono bel.size)
                      clear hb
                      go_wp2_with fail
                      go_meet
                      exact ⟨rfl, bel⟩
            case rest =>
              as_aux_lemma =>
                clear f1 f3 f4 f5 f6 ho1 ho3 ho4 ho5 ho6 bel HN HL HB HM HJ HC hf1 hl3 hl4 hl5 hl6
                obtain ⟨rfl, bel⟩ := hcut
                go_wp2_with fail
                refine (c_DrawOppositeFunction _ _ _ _ _ (hr0.below bel) hn).mono ?_
                rintro e wp1 ⟨m1, a1, c1, z1, hf1, rfl, ho1, hb⟩
                replace bel := bel.trans (hb.mono bel.size)
                clear hb
                have f1 := FBox.new wp1 26 m1 a1 (z1.length) c1
                replace ho1 := ho1.alloc (.cells #[.int .i64 m1, .slice a1 z1.length c1] 26)
                replace bel := bel.alloc bel.size (.cells #[.int .i64 m1, .slice a1 z1.length c1] 26)
                obtain ⟨N, hN⟩ : ∃ x, x = gN (oppT m1 z1) m1 (tabOf m1 (oppV z1)) := ⟨_, rfl⟩
                have HN := Lib.hid hN
                clear hN
                obtain ⟨L, hL⟩ : ∃ x, x = gL (oppT m1 z1) m1 (tabOf m1 (oppV z1)) := ⟨_, rfl⟩
                have HL := Lib.hid hL
                clear hL
                obtain ⟨B, hB⟩ : ∃ x, x = gB (oppT m1 z1) m1 (tabOf m1 (oppV z1)) := ⟨_, rfl⟩
                have HB := Lib.hid hB
                clear hB
                have kf10 := f1.c0
                have kf11 := f1.c1
                go_wp2_with fail
                clear kf10 kf11
                refine (c_impl_OppositeFunction _ _ _ _ _ _ ho1.row (by have := hf1.2.2; omega)).mono ?_
                rw [← HN.out, ← HL.out, ← HB.out]
                rintro e wp2 ⟨a3, c3, rfl, ho3, hl3, hb⟩
                replace f1 := f1.below hb
                replace ho1 := ho1.below hb
                replace bel := bel.trans (hb.mono bel.size)
                clear hb
                have f3 := FBox.new wp2 26 N a3 (L.length) c3
                replace f1 := f1.alloc (.cells #[.int .i64 N, .slice a3 L.length c3] 26)
                replace ho1 := ho1.alloc (.cells #[.int .i64 N, .slice a3 L.length c3] 26)
                replace ho3 := ho3.alloc (.cells #[.int .i64 N, .slice a3 L.length c3] 26)
                replace bel := bel.alloc bel.size (.cells #[.int .i64 N, .slice a3 L.length c3] 26)
                have kf10 := f1.c0
                have kf11 := f1.c1
                go_wp2_with fail
                clear kf10 kf11
                refine (c_spec_OppositeFunction _ _ _ _ _ _ ho1.row (by have := hf1.2.2; omega)).mono ?_
                rw [← HN.out, ← HL.out, ← HB.out]
                rintro e wp3 ⟨a4, c4, rfl, ho4, hl4, hb⟩
                replace f1 := f1.below hb
                replace f3 := f3.below hb
                replace ho1 := ho1.below hb
                replace ho3 := ho3.below hb
                replace bel := bel.trans (hb.mono bel.size)
                clear hb
                have f4 := FBox.new wp3 26 N a4 (L.length) c4
                replace f1 := f1.alloc (.cells #[.int .i64 N, .slice a4 L.length c4] 26)
                replace f3 := f3.alloc (.cells #[.int .i64 N, .slice a4 L.length c4] 26)
                replace ho1 := ho1.alloc (.cells #[.int .i64 N, .slice a4 L.length c4] 26)
                replace ho3 := ho3.alloc (.cells #[.int .i64 N, .slice a4 L.length c4] 26)
                replace ho4 := ho4.alloc (.cells #[.int .i64 N, .slice a4 L.length c4] 26)
                replace bel := bel.alloc bel.size (.cells #[.int .i64 N, .slice a4 L.length c4] 26)
                go_upto_region 30 with fail
                go_cut [25, 27, 232] from 36 (fun s25 s27 s232 wx => s232 = .bool false ∧ Below w.heap.size w wx)
                case first =>
                  as_aux_lemma =>
                    cases hBB : B with
                    | false =>
                      as_aux_lemma =>
                        replace f1 := f1.drew
                        replace f3 := f3.drew
                        replace f4 := f4.drew
                        replace ho1 := ho1.drew
                        replace ho3 := ho3.drew
                        replace ho4 := ho4.drew
                        replace bel := bel.drew
                        have kf10 := f1.c0
                        have kf30 := f3.c0
                        have kf40 := f4.c0
                        have kf11 := f1.c1
                        have kf31 := f3.c1
                        have kf41 := f4.c1
                        go_upto_region 30 with fail
                        refine wp_region_held_drew (S := fun w' => w'.cell? ⟨wp1.heap.size, 0, none⟩ = some (.int .i64 m1) ∧ w'.cell? ⟨wp1.heap.size, 1, none⟩ = some (.slice a1 (z1.length) c1) ∧ w'.cell? ⟨wp2.heap.size, 0, none⟩ = some (.int .i64 N) ∧ w'.cell? ⟨wp2.heap.size, 1, none⟩ = some (.slice a3 (L.length) c3) ∧ w'.cell? ⟨wp3.heap.size, 0, none⟩ = some (.int .i64 N) ∧ w'.cell? ⟨wp3.heap.size, 1, none⟩ = some (.slice a4 (L.length) c4)) (by kernel_rfl) ?_ (fun hHeld => ?_)
                        · exact ⟨kf10, kf11, kf30, kf31, kf40, kf41⟩
                        refine takeH (i := 0) (d := some 214) (v := ?_) rfl rfl (by kernel_rfl) (by kernel_rfl) (by kernel_rfl) (fun _ _ _ h => h) (Or.inl ⟨by rfl, ?_⟩) (by assumption) ?_
                        rotate_left
                        · (intro w' hSw; (try dsimp only at hSw); go_simp; (try with_reducible rfl))
                        (try simp only [Act.put, List.setIfInBounds_toArray, List.set_cons_zero, List.set_cons_succ])
                        refine takeH (i := 1) (d := some 215) (v := ?_) rfl rfl (by kernel_rfl) (by kernel_rfl) (by kernel_rfl) (fun _ _ _ h => h) (Or.inl ⟨by rfl, ?_⟩) (by assumption) ?_
                        rotate_left
                        · (intro w' hSw; (try dsimp only at hSw); go_simp; (try with_reducible rfl))
                        (try simp only [Act.put, List.setIfInBounds_toArray, List.set_cons_zero, List.set_cons_succ])
                        refine takeH (i := 2) (d := some 216) (v := ?_) rfl rfl (by kernel_rfl) (by kernel_rfl) (by kernel_rfl) (fun _ _ _ h => h) (Or.inl ⟨by rfl, ?_⟩) (by assumption) ?_
                        rotate_left
                        · (intro w' hSw; (try dsimp only at hSw); go_simp; (try with_reducible rfl))
                        (try simp only [Act.put, List.setIfInBounds_toArray, List.set_cons_zero, List.set_cons_succ])
                        refine takeH (i := 3) (d := some 217) (v := ?_) rfl rfl (by kernel_rfl) (by kernel_rfl) (by kernel_rfl) (fun _ _ _ h => h) (Or.inl ⟨by rfl, ?_⟩) (by assumption) ?_
                        rotate_left
                        · (intro w' hSw; (try dsimp only at hSw); go_simp; (try with_reducible rfl))
                        (try simp only [Act.put, List.setIfInBounds_toArray, List.set_cons_zero, List.set_cons_succ])
                        refine takeH (i := 4) (d := some 218) (v := ?_) rfl rfl (by kernel_rfl) (by kernel_rfl) (by kernel_rfl) (fun _ _ _ h => h) (Or.inl ⟨by rfl, ?_⟩) (by assumption) ?_
                        rotate_left
                        · (intro w' hSw; (try dsimp only at hSw); go_simp; (try with_reducible rfl))
                        (try simp only [Act.put, List.setIfInBounds_toArray, List.set_cons_zero, List.set_cons_succ])
                        refine takeH (i := 5) (d := some 219) (v := ?_) rfl rfl (by kernel_rfl) (by kernel_rfl) (by kernel_rfl) (fun _ _ _ h => h) (Or.inl ⟨by rfl, ?_⟩) (by assumption) ?_
                        rotate_left
                        · (intro w' hSw; (try dsimp only at hSw); go_simp; (try with_reducible rfl))
                        (try simp only [Act.put, List.setIfInBounds_toArray, List.set_cons_zero, List.set_cons_succ])
                        refine wpAnyH_ready (rs := [6]) (by kernel_rfl) (by simp) ?_
                        refine AllReadyH.cons rfl (fun K hK => ?_) AllReadyH.nil
                        go_simp
                        refine (c_spec_EqualFunctions _ _ _ _ _ _ _ _ _ _ _ ho3.row hl3 ho4.row hl4).mono ?_
                        rw [sameF_self]
                        rintro e w9 ⟨rfl, hb⟩
                        replace f1 := f1.below hb
                        replace f3 := f3.below hb
                        replace f4 := f4.below hb
                        replace ho1 := ho1.below hb
                        replace ho3 := ho3.below hb
                        replace ho4 := ho4.below hb
                        replace bel := bel.trans (hb.mono bel.size)
                        clear hb
                        replace kf10 := f1.c0
                        replace kf30 := f3.c0
                        replace kf40 := f4.c0
                        replace kf11 := f1.c1
                        replace kf31 := f3.c1
                        replace kf41 := f4.c1
                        (try go_wp2_with fail)
                        refine hK.out _ _ ?_ (fun hHeld => ?_)
                        · exact ⟨kf10, kf11, kf30, kf31, kf40, kf41⟩
                        clear hK K
                        (try simp only [Act.put, List.setIfInBounds_toArray, List.set_cons_zero, List.set_cons_succ])
                        refine takeH (i := 7) (d := some 221) (v := ?_) rfl rfl (by kernel_rfl) (by kernel_rfl) (by kernel_rfl) (fun _ _ _ h => h) (Or.inl ⟨by rfl, ?_⟩) (by assumption) ?_
                        rotate_left
                        · (intro w' hSw; (try dsimp only at hSw); go_simp; (try with_reducible rfl))
                        (try simp only [Act.put, List.setIfInBounds_toArray, List.set_cons_zero, List.set_cons_succ])
                        refine takeH (i := 8) (d := some 222) (v := ?_) rfl rfl (by kernel_rfl) (by kernel_rfl) (by kernel_rfl) (fun _ _ _ h => h) (Or.inl ⟨by rfl, ?_⟩) (by assumption) ?_
                        rotate_left
                        · (intro w' hSw; (try dsimp only at hSw); go_simp; (try with_reducible rfl))
                        (try simp only [Act.put, List.setIfInBounds_toArray, List.set_cons_zero, List.set_cons_succ])
                        refine takeH (i := 9) (d := some 223) (v := ?_) rfl rfl (by kernel_rfl) (by kernel_rfl) (by kernel_rfl) (fun _ _ _ h => h) (Or.inl ⟨by rfl, ?_⟩) (by assumption) ?_
                        rotate_left
                        · (intro w' hSw; (try dsimp only at hSw); go_simp; (try with_reducible rfl))
                        (try simp only [Act.put, List.setIfInBounds_toArray, List.set_cons_zero, List.set_cons_succ])
                        refine takeH (i := 10) (d := some 224) (v := ?_) rfl rfl (by kernel_rfl) (by kernel_rfl) (by kernel_rfl) (fun _ _ _ h => h) (Or.inl ⟨by rfl, ?_⟩) (by assumption) ?_
                        rotate_left
                        · (intro w' hSw; (try dsimp only at hSw); go_simp; (try with_reducible rfl))
                        (try simp only [Act.put, List.setIfInBounds_toArray, List.set_cons_zero, List.set_cons_succ])
                        refine takeH (i := 11) (d := some 225) (v := ?_) rfl rfl (by kernel_rfl) (by kernel_rfl) (by kernel_rfl) (fun _ _ _ h => h) (Or.inl ⟨by rfl, ?_⟩) (by assumption) ?_
                        rotate_left
                        · (intro w' hSw; (try dsimp only at hSw); go_simp; (try with_reducible rfl))
                        (try simp only [Act.put, List.setIfInBounds_toArray, List.set_cons_zero, List.set_cons_succ])
                        refine takeH (i := 12) (d := some 226) (v := undef) rfl rfl (by kernel_rfl) (by kernel_rfl) (by kernel_rfl) (fun _ _ _ h => h) (Or.inr ⟨by rfl, rfl⟩) (by assumption) ?_
                        (try simp only [Act.put, List.setIfInBounds_toArray, List.set_cons_zero, List.set_cons_succ])
                        refine takeH (i := 13) (d := some 227) (v := undef) rfl rfl (by kernel_rfl) (by kernel_rfl) (by kernel_rfl) (fun _ _ _ h => h) (Or.inr ⟨by rfl, rfl⟩) (by assumption) ?_
                        (try simp only [Act.put, List.setIfInBounds_toArray, List.set_cons_zero, List.set_cons_succ])
                        refine takeH (i := 14) (d := some 228) (v := undef) rfl rfl (by kernel_rfl) (by kernel_rfl) (by kernel_rfl) (fun _ _ _ h => h) (Or.inr ⟨by rfl, rfl⟩) (by assumption) ?_
                        (try simp only [Act.put, List.setIfInBounds_toArray, List.set_cons_zero, List.set_cons_succ])
                        refine takeH (i := 15) (d := some 229) (v := undef) rfl rfl (by kernel_rfl) (by kernel_rfl) (by kernel_rfl) (fun _ _ _ h => h) (Or.inr ⟨by rfl, rfl⟩) (by assumption) ?_
                        (try simp only [Act.put, List.setIfInBounds_toArray, List.set_cons_zero, List.set_cons_succ])
                        refine takeH (i := 16) (d := some 230) (v := undef) rfl rfl (by kernel_rfl) (by kernel_rfl) (by kernel_rfl) (fun _ _ _ h => h) (Or.inr ⟨by rfl, rfl⟩) (by assumption) ?_
                        (try simp only [Act.put, List.setIfInBounds_toArray, List.set_cons_zero, List.set_cons_succ])
                        refine takeH (i := 17) (d := some 231) (v := ?_) rfl rfl (by kernel_rfl) (by kernel_rfl) (by kernel_rfl) (fun _ _ _ h => h) (Or.inl ⟨by rfl, ?_⟩) (by assumption) ?_
                        rotate_left
                        · (intro w' hSw; (try dsimp only at hSw); go_simp; (try with_reducible rfl))
                        (try simp only [Act.put, List.setIfInBounds_toArray, List.set_cons_zero, List.set_cons_succ])
                        refine takeH (i := 18) (d := some 232) (v := ?_) rfl rfl (by kernel_rfl) (by kernel_rfl) (by kernel_rfl) (fun _ _ _ h => h) (Or.inl ⟨by rfl, ?_⟩) (by assumption) ?_
                        rotate_left
                        · (intro w' hSw; (try dsimp only at hSw); go_simp; (try with_reducible rfl))
                        (try simp only [Act.put, List.setIfInBounds_toArray, List.set_cons_zero, List.set_cons_succ])
                        refine wpAnyH_done (by kernel_rfl) ?_ _
                        all_goals
                          go_wp2_with fail
                          go_meet
                          exact ⟨rfl, bel⟩
                    | true =>
                      as_aux_lemma =>
                        have hb1 : gB (oppT m1 z1) m1 (tabOf m1 (oppV z1)) = true := HB.out.symm.trans hBB
                        have hsb : subB N L = subB m1 z1 := by rw [HN.out, HL.out, (g_true hb1).2.2.1, (g_true hb1).2.2.2]; exact opp_sub (by have := (g_true hb1).1; simpa [oppT] using this)
                        obtain ⟨Sb, hSb⟩ : ∃ x, x = subB m1 z1 := ⟨_, rfl⟩
                        rw [← hSb] at hsb
                        have H1 := Lib.hid hsb
                        have H2 := Lib.hid hSb
                        clear hsb hSb hb1
                        replace f1 := f1.drew
                        replace f3 := f3.drew
                        replace f4 := f4.drew
                        replace ho1 := ho1.drew
                        replace ho3 := ho3.drew
                        replace ho4 := ho4.drew
                        replace bel := bel.drew
                        have kf10 := f1.c0
                        have kf30 := f3.c0
                        have kf40 := f4.c0
                        have kf11 := f1.c1
                        have kf31 := f3.c1
                        have kf41 := f4.c1
                        go_wp2_with fail
                        go_region_held3 (fun w' => w'.cell? ⟨wp1.heap.size, 0, none⟩ = some (.int .i64 m1) ∧ w'.cell? ⟨wp1.heap.size, 1, none⟩ = some (.slice a1 (z1.length) c1) ∧ w'.cell? ⟨wp2.heap.size, 0, none⟩ = some (.int .i64 N) ∧ w'.cell? ⟨wp2.heap.size, 1, none⟩ = some (.slice a3 (L.length) c3) ∧ w'.cell? ⟨wp3.heap.size, 0, none⟩ = some (.int .i64 N) ∧ w'.cell? ⟨wp3.heap.size, 1, none⟩ = some (.slice a4 (L.length) c4)) (go_keep)
                          (first
                            | (go_at_call_of 21 a3; refine (c_spec_EqualFunctions _ _ _ _ _ _ _ _ _ _ _ ho3.row hl3 ho4.row hl4).mono ?_; rw [sameF_self]; rintro e w9 ⟨rfl, hb⟩; replace f1 := f1.below hb; replace f3 := f3.below hb; replace f4 := f4.below hb; replace ho1 := ho1.below hb; replace ho3 := ho3.below hb; replace ho4 := ho4.below hb; replace bel := bel.trans (hb.mono bel.size); clear hb; replace kf10 := f1.c0; replace kf30 := f3.c0; replace kf40 := f4.c0; replace kf11 := f1.c1; replace kf31 := f3.c1; replace kf41 := f4.c1)
                            | (go_at_call 23; refine (c_impl_IsSubmodular _ _ _ _ _ _ ho4.row hl4).mono ?_; rw [H1.out]; rintro e w9 ⟨rfl, hb⟩; replace f1 := f1.below hb; replace f3 := f3.below hb; replace f4 := f4.below hb; replace ho1 := ho1.below hb; replace ho3 := ho3.below hb; replace ho4 := ho4.below hb; replace bel := bel.trans (hb.mono bel.size); clear hb; replace kf10 := f1.c0; replace kf30 := f3.c0; replace kf40 := f4.c0; replace kf11 := f1.c1; replace kf31 := f3.c1; replace kf41 := f4.c1)
                            | (go_at_call 22; refine (c_spec_IsSubmodular _ _ _ _ _ _ ho1.row (by have := hf1.2.2; omega)).mono ?_; rw [← H2.out]; rintro e w9 ⟨rfl, hb⟩; replace f1 := f1.below hb; replace f3 := f3.below hb; replace f4 := f4.below hb; replace ho1 := ho1.below hb; replace ho3 := ho3.below hb; replace ho4 := ho4.below hb; replace bel := bel.trans (hb.mono bel.size); clear hb; replace kf10 := f1.c0; replace kf30 := f3.c0; replace kf40 := f4.c0; replace kf11 := f1.c1; replace kf31 := f3.c1; replace kf41 := f4.c1))
                        all_goals
                          go_wp2_with fail
                          go_meet
                          exact ⟨rfl, bel⟩
                case rest =>
                  as_aux_lemma =>
                    clear f1 f3 f4 ho1 ho3 ho4 bel HN HL HB hf1 hl3 hl4
                    obtain ⟨rfl, bel⟩ := hcut
                    go_wp2_with fail
                    refine (c_DrawDualFunction _ _ _ _ _ (hr0.below bel) hn).mono ?_
                    rintro e wd1 ⟨m1, a1, c1, z1, a2, c2, z2, hf1, hf2, rfl, ho1, ho2, hb⟩
                    replace bel := bel.trans (hb.mono bel.size)
                    clear hb
                    have f1 := FBox.new wd1 26 m1 a1 (z1.length) c1
                    replace ho1 := ho1.alloc (.cells #[.int .i64 m1, .slice a1 z1.length c1] 26)
                    replace ho2 := ho2.alloc (.cells #[.int .i64 m1, .slice a1 z1.length c1] 26)
                    replace bel := bel.alloc bel.size (.cells #[.int .i64 m1, .slice a1 z1.length c1] 26)
                    obtain ⟨N, hN⟩ : ∃ x, x = gN (dualT m1 z1 z2) m1 (tabOf m1 (dualV z1 z2)) := ⟨_, rfl⟩
                    have HN := Lib.hid hN
                    clear hN
                    obtain ⟨L, hL⟩ : ∃ x, x = gL (dualT m1 z1 z2) m1 (tabOf m1 (dualV z1 z2)) := ⟨_, rfl⟩
                    have HL := Lib.hid hL
                    clear hL
                    obtain ⟨B, hB⟩ : ∃ x, x = gB (dualT m1 z1 z2) m1 (tabOf m1 (dualV z1 z2)) := ⟨_, rfl⟩
                    have HB := Lib.hid hB
                    clear hB
                    have kf10 := f1.c0
                    have kf11 := f1.c1
                    go_wp2_with fail
                    clear kf10 kf11
                    refine (c_impl_DualFunction _ _ _ _ _ _ _ _ _ _ ho1.row (by have := hf1.2.2; omega) ho2.row (by omega)).mono ?_
                    rw [← HN.out, ← HL.out, ← HB.out]
                    rintro e wd2 ⟨a3, c3, rfl, ho3, hl3, hb⟩
                    replace f1 := f1.below hb
                    replace ho1 := ho1.below hb
                    replace ho2 := ho2.below hb
                    replace bel := bel.trans (hb.mono bel.size)
                    clear hb
                    have f3 := FBox.new wd2 26 N a3 (L.length) c3
                    replace f1 := f1.alloc (.cells #[.int .i64 N, .slice a3 L.length c3] 26)
                    replace ho1 := ho1.alloc (.cells #[.int .i64 N, .slice a3 L.length c3] 26)
                    replace ho2 := ho2.alloc (.cells #[.int .i64 N, .slice a3 L.length c3] 26)
                    replace ho3 := ho3.alloc (.cells #[.int .i64 N, .slice a3 L.length c3] 26)
                    replace bel := bel.alloc bel.size (.cells #[.int .i64 N, .slice a3 L.length c3] 26)
                    have kf10 := f1.c0
                    have kf11 := f1.c1
                    go_wp2_with fail
                    clear kf10 kf11
                    refine (c_spec_DualFunction _ _ _ _ _ _ _ _ _ _ ho1.row (by have := hf1.2.2; omega) ho2.row (by omega)).mono ?_
                    rw [← HN.out, ← HL.out, ← HB.out]
                    rintro e wd3 ⟨a4, c4, rfl, ho4, hl4, hb⟩
                    replace f1 := f1.below hb
                    replace f3 := f3.below hb
                    replace ho1 := ho1.below hb
                    replace ho2 := ho2.below hb
                    replace ho3 := ho3.below hb
                    replace bel := bel.trans (hb.mono bel.size)
                    clear hb
                    have f4 := FBox.new wd3 26 N a4 (L.length) c4
                    replace f1 := f1.alloc (.cells #[.int .i64 N, .slice a4 L.length c4] 26)
                    replace f3 := f3.alloc (.cells #[.int .i64 N, .slice a4 L.length c4] 26)
                    replace ho1 := ho1.alloc (.cells #[.int .i64 N, .slice a4 L.length c4] 26)
                    replace ho2 := ho2.alloc (.cells #[.int .i64 N, .slice a4 L.length c4] 26)
                    replace ho3 := ho3.alloc (.cells #[.int .i64 N, .slice a4 L.length c4] 26)
                    replace ho4 := ho4.alloc (.cells #[.int .i64 N, .slice a4 L.length c4] 26)
                    replace bel := bel.alloc bel.size (.cells #[.int .i64 N, .slice a4 L.length c4] 26)
                    go_wp2_with fail
                    refine (c_DrawIsFlat _ _ _ _ _ (hr0.below bel) hn).mono ?_
                    rintro e wd4 ⟨m5, a5, c5, z5, x6, hf5, rfl, ho5, hb⟩
                    replace f1 := f1.below hb
                    replace f3 := f3.below hb
                    replace f4 := f4.below hb
                    replace ho1 := ho1.below hb
                    replace ho2 := ho2.below hb
                    replace ho3 := ho3.below hb
                    replace ho4 := ho4.below hb
                    replace bel := bel.trans (hb.mono bel.size)
                    clear hb
                    have f5 := FBox.new wd4 26 m5 a5 (z5.length) c5
                    replace f1 := f1.alloc (.cells #[.int .i64 m5, .slice a5 z5.length c5] 26)
                    replace f3 := f3.alloc (.cells #[.int .i64 m5, .slice a5 z5.length c5] 26)
                    replace f4 := f4.alloc (.cells #[.int .i64 m5, .slice a5 z5.length c5] 26)
                    replace ho1 := ho1.alloc (.cells #[.int .i64 m5, .slice a5 z5.length c5] 26)
                    replace ho2 := ho2.alloc (.cells #[.int .i64 m5, .slice a5 z5.length c5] 26)
                    replace ho3 := ho3.alloc (.cells #[.int .i64 m5, .slice a5 z5.length c5] 26)
                    replace ho4 := ho4.alloc (.cells #[.int .i64 m5, .slice a5 z5.length c5] 26)
                    replace ho5 := ho5.alloc (.cells #[.int .i64 m5, .slice a5 z5.length c5] 26)
                    replace bel := bel.alloc bel.size (.cells #[.int .i64 m5, .slice a5 z5.length c5] 26)
                    obtain ⟨FB, hFB⟩ : ∃ x, x = flatB m5 z5 x6 := ⟨_, rfl⟩
                    have HFB := Lib.hid hFB
                    clear hFB
                    cases hBB : B with
                    | false =>
                      as_aux_lemma =>
                        replace f1 := f1.drew
                        replace f3 := f3.drew
                        replace f4 := f4.drew
                        replace f5 := f5.drew
                        replace ho1 := ho1.drew
                        replace ho2 := ho2.drew
                        replace ho3 := ho3.drew
                        replace ho4 := ho4.drew
                        replace ho5 := ho5.drew
                        replace bel := bel.drew
                        have kf10 := f1.c0
                        have kf30 := f3.c0
                        have kf40 := f4.c0
                        have kf50 := f5.c0
                        have kf11 := f1.c1
                        have kf31 := f3.c1
                        have kf41 := f4.c1
                        have kf51 := f5.c1
                        go_upto_region 36 with fail
                        refine wp_region_held_drew (S := fun w' => w'.cell? ⟨wd1.heap.size, 0, none⟩ = some (.int .i64 m1) ∧ w'.cell? ⟨wd1.heap.size, 1, none⟩ = some (.slice a1 (z1.length) c1) ∧ w'.cell? ⟨wd2.heap.size, 0, none⟩ = some (.int .i64 N) ∧ w'.cell? ⟨wd2.heap.size, 1, none⟩ = some (.slice a3 (L.length) c3) ∧ w'.cell? ⟨wd3.heap.size, 0, none⟩ = some (.int .i64 N) ∧ w'.cell? ⟨wd3.heap.size, 1, none⟩ = some (.slice a4 (L.length) c4) ∧ w'.cell? ⟨wd4.heap.size, 0, none⟩ = some (.int .i64 m5) ∧ w'.cell? ⟨wd4.heap.size, 1, none⟩ = some (.slice a5 (z5.length) c5)) (by kernel_rfl) ?_ (fun hHeld => ?_)
                        · exact ⟨kf10, kf11, kf30, kf31, kf40, kf41, kf50, kf51⟩
                        refine takeH (i := 0) (d := some 255) (v := ?_) rfl rfl (by kernel_rfl) (by kernel_rfl) (by kernel_rfl) (fun _ _ _ h => h) (Or.inl ⟨by rfl, ?_⟩) (by assumption) ?_
                        rotate_left
                        · (intro w' hSw; (try dsimp only at hSw); go_simp; (try with_reducible rfl))
                        (try simp only [Act.put, List.setIfInBounds_toArray, List.set_cons_zero, List.set_cons_succ])
                        refine takeH (i := 1) (d := some 256) (v := ?_) rfl rfl (by kernel_rfl) (by kernel_rfl) (by kernel_rfl) (fun _ _ _ h => h) (Or.inl ⟨by rfl, ?_⟩) (by assumption) ?_
                        rotate_left
                        · (intro w' hSw; (try dsimp only at hSw); go_simp; (try with_reducible rfl))
                        (try simp only [Act.put, List.setIfInBounds_toArray, List.set_cons_zero, List.set_cons_succ])
                        refine takeH (i := 2) (d := some 257) (v := ?_) rfl rfl (by kernel_rfl) (by kernel_rfl) (by kernel_rfl) (fun _ _ _ h => h) (Or.inl ⟨by rfl, ?_⟩) (by assumption) ?_
                        rotate_left
                        · (intro w' hSw; (try dsimp only at hSw); go_simp; (try with_reducible rfl))
                        (try simp only [Act.put, List.setIfInBounds_toArray, List.set_cons_zero, List.set_cons_succ])
                        refine takeH (i := 3) (d := some 258) (v := ?_) rfl rfl (by kernel_rfl) (by kernel_rfl) (by kernel_rfl) (fun _ _ _ h => h) (Or.inl ⟨by rfl, ?_⟩) (by assumption) ?_
                        rotate_left
                        · (intro w' hSw; (try dsimp only at hSw); go_simp; (try with_reducible rfl))
                        (try simp only [Act.put, List.setIfInBounds_toArray, List.set_cons_zero, List.set_cons_succ])
                        refine takeH (i := 4) (d := some 259) (v := ?_) rfl rfl (by kernel_rfl) (by kernel_rfl) (by kernel_rfl) (fun _ _ _ h => h) (Or.inl ⟨by rfl, ?_⟩) (by assumption) ?_
                        rotate_left
                        · (intro w' hSw; (try dsimp only at hSw); go_simp; (try with_reducible rfl))
                        (try simp only [Act.put, List.setIfInBounds_toArray, List.set_cons_zero, List.set_cons_succ])
                        refine takeH (i := 5) (d := some 260) (v := ?_) rfl rfl (by kernel_rfl) (by kernel_rfl) (by kernel_rfl) (fun _ _ _ h => h) (Or.inl ⟨by rfl, ?_⟩) (by assumption) ?_
                        rotate_left
                        · (intro w' hSw; (try dsimp only at hSw); go_simp; (try with_reducible rfl))
                        (try simp only [Act.put, List.setIfInBounds_toArray, List.set_cons_zero, List.set_cons_succ])
                        refine wpAnyH_ready (rs := [6]) (by kernel_rfl) (by simp) ?_
                        refine AllReadyH.cons rfl (fun K hK => ?_) AllReadyH.nil
                        go_simp
                        refine (c_spec_EqualFunctions _ _ _ _ _ _ _ _ _ _ _ ho3.row hl3 ho4.row hl4).mono ?_
                        rw [sameF_self]
                        rintro e w9 ⟨rfl, hb⟩
                        replace f1 := f1.below hb
                        replace f3 := f3.below hb
                        replace f4 := f4.below hb
                        replace f5 := f5.below hb
                        replace ho1 := ho1.below hb
                        replace ho2 := ho2.below hb
                        replace ho3 := ho3.below hb
                        replace ho4 := ho4.below hb
                        replace ho5 := ho5.below hb
                        replace bel := bel.trans (hb.mono bel.size)
                        clear hb
                        replace kf10 := f1.c0
                        replace kf30 := f3.c0
                        replace kf40 := f4.c0
                        replace kf50 := f5.c0
                        replace kf11 := f1.c1
                        replace kf31 := f3.c1
                        replace kf41 := f4.c1
                        replace kf51 := f5.c1
                        (try go_wp2_with fail)
                        refine hK.out _ _ ?_ (fun hHeld => ?_)
                        · exact ⟨kf10, kf11, kf30, kf31, kf40, kf41, kf50, kf51⟩
                        clear hK K
                        (try simp only [Act.put, List.setIfInBounds_toArray, List.set_cons_zero, List.set_cons_succ])
                        refine takeH (i := 7) (d := some 262) (v := ?_) rfl rfl (by kernel_rfl) (by kernel_rfl) (by kernel_rfl) (fun _ _ _ h => h) (Or.inl ⟨by rfl, ?_⟩) (by assumption) ?_
                        rotate_left
                        · (intro w' hSw; (try dsimp only at hSw); go_simp; (try with_reducible rfl))
                        (try simp only [Act.put, List.setIfInBounds_toArray, List.set_cons_zero, List.set_cons_succ])
                        refine takeH (i := 8) (d := some 263) (v := ?_) rfl rfl (by kernel_rfl) (by kernel_rfl) (by kernel_rfl) (fun _ _ _ h => h) (Or.inl ⟨by rfl, ?_⟩) (by assumption) ?_
                        rotate_left
                        · (intro w' hSw; (try dsimp only at hSw); go_simp; (try with_reducible rfl))
                        (try simp only [Act.put, List.setIfInBounds_toArray, List.set_cons_zero, List.set_cons_succ])
                        refine takeH (i := 9) (d := some 264) (v := ?_) rfl rfl (by kernel_rfl) (by kernel_rfl) (by kernel_rfl) (fun _ _ _ h => h) (Or.inl ⟨by rfl, ?_⟩) (by assumption) ?_
                        rotate_left
                        · (intro w' hSw; (try dsimp only at hSw); go_simp; (try with_reducible rfl))
                        (try simp only [Act.put, List.setIfInBounds_toArray, List.set_cons_zero, List.set_cons_succ])
                        refine takeH (i := 10) (d := some 265) (v := ?_) rfl rfl (by kernel_rfl) (by kernel_rfl) (by kernel_rfl) (fun _ _ _ h => h) (Or.inl ⟨by rfl, ?_⟩) (by assumption) ?_
                        rotate_left
                        · (intro w' hSw; (try dsimp only at hSw); go_simp; (try with_reducible rfl))
                        (try simp only [Act.put, List.setIfInBounds_toArray, List.set_cons_zero, List.set_cons_succ])
                        refine takeH (i := 11) (d := some 266) (v := ?_) rfl rfl (by kernel_rfl) (by kernel_rfl) (by kernel_rfl) (fun _ _ _ h => h) (Or.inl ⟨by rfl, ?_⟩) (by assumption) ?_
                        rotate_left
                        · (intro w' hSw; (try dsimp only at hSw); go_simp; (try with_reducible rfl))
                        (try simp only [Act.put, List.setIfInBounds_toArray, List.set_cons_zero, List.set_cons_succ])
                        refine takeH (i := 12) (d := some 267) (v := undef) rfl rfl (by kernel_rfl) (by kernel_rfl) (by kernel_rfl) (fun _ _ _ h => h) (Or.inr ⟨by rfl, rfl⟩) (by assumption) ?_
                        (try simp only [Act.put, List.setIfInBounds_toArray, List.set_cons_zero, List.set_cons_succ])
                        refine takeH (i := 13) (d := some 268) (v := undef) rfl rfl (by kernel_rfl) (by kernel_rfl) (by kernel_rfl) (fun _ _ _ h => h) (Or.inr ⟨by rfl, rfl⟩) (by assumption) ?_
                        (try simp only [Act.put, List.setIfInBounds_toArray, List.set_cons_zero, List.set_cons_succ])
                        refine takeH (i := 14) (d := some 269) (v := undef) rfl rfl (by kernel_rfl) (by kernel_rfl) (by kernel_rfl) (fun _ _ _ h => h) (Or.inr ⟨by rfl, rfl⟩) (by assumption) ?_
                        (try simp only [Act.put, List.setIfInBounds_toArray, List.set_cons_zero, List.set_cons_succ])
                        refine takeH (i := 15) (d := some 270) (v := undef) rfl rfl (by kernel_rfl) (by kernel_rfl) (by kernel_rfl) (fun _ _ _ h => h) (Or.inr ⟨by rfl, rfl⟩) (by assumption) ?_
                        (try simp only [Act.put, List.setIfInBounds_toArray, List.set_cons_zero, List.set_cons_succ])
                        refine takeH (i := 16) (d := some 271) (v := undef) rfl rfl (by kernel_rfl) (by kernel_rfl) (by kernel_rfl) (fun _ _ _ h => h) (Or.inr ⟨by rfl, rfl⟩) (by assumption) ?_
                        (try simp only [Act.put, List.setIfInBounds_toArray, List.set_cons_zero, List.set_cons_succ])
                        refine takeH (i := 17) (d := some 272) (v := ?_) rfl rfl (by kernel_rfl) (by kernel_rfl) (by kernel_rfl) (fun _ _ _ h => h) (Or.inl ⟨by rfl, ?_⟩) (by assumption) ?_
                        rotate_left
                        · (intro w' hSw; (try dsimp only at hSw); go_simp; (try with_reducible rfl))
                        (try simp only [Act.put, List.setIfInBounds_toArray, List.set_cons_zero, List.set_cons_succ])
                        refine takeH (i := 18) (d := some 273) (v := ?_) rfl rfl (by kernel_rfl) (by kernel_rfl) (by kernel_rfl) (fun _ _ _ h => h) (Or.inl ⟨by rfl, ?_⟩) (by assumption) ?_
                        rotate_left
                        · (intro w' hSw; (try dsimp only at hSw); go_simp; (try with_reducible rfl))
                        (try simp only [Act.put, List.setIfInBounds_toArray, List.set_cons_zero, List.set_cons_succ])
                        refine takeH (i := 19) (d := some 274) (v := ?_) rfl rfl (by kernel_rfl) (by kernel_rfl) (by kernel_rfl) (fun _ _ _ h => h) (Or.inl ⟨by rfl, ?_⟩) (by assumption) ?_
                        rotate_left
                        · (intro w' hSw; (try dsimp only at hSw); go_simp; (try with_reducible rfl))
                        (try simp only [Act.put, List.setIfInBounds_toArray, List.set_cons_zero, List.set_cons_succ])
                        refine takeH (i := 20) (d := some 275) (v := ?_) rfl rfl (by kernel_rfl) (by kernel_rfl) (by kernel_rfl) (fun _ _ _ h => h) (Or.inl ⟨by rfl, ?_⟩) (by assumption) ?_
                        rotate_left
                        · (intro w' hSw; (try dsimp only at hSw); go_simp; (try with_reducible rfl))
                        (try simp only [Act.put, List.setIfInBounds_toArray, List.set_cons_zero, List.set_cons_succ])
                        refine takeH (i := 21) (d := some 276) (v := ?_) rfl rfl (by kernel_rfl) (by kernel_rfl) (by kernel_rfl) (fun _ _ _ h => h) (Or.inl ⟨by rfl, ?_⟩) (by assumption) ?_
                        rotate_left
                        · (intro w' hSw; (try dsimp only at hSw); go_simp; (try with_reducible rfl))
                        (try simp only [Act.put, List.setIfInBounds_toArray, List.set_cons_zero, List.set_cons_succ])
                        refine takeH (i := 23) (d := some 278) (v := ?_) rfl rfl (by kernel_rfl) (by kernel_rfl) (by kernel_rfl) (fun _ _ _ h => h) (Or.inl ⟨by rfl, ?_⟩) (by assumption) ?_
                        rotate_left
                        · (intro w' hSw; (try dsimp only at hSw); go_simp; (try with_reducible rfl))
                        (try simp only [Act.put, List.setIfInBounds_toArray, List.set_cons_zero, List.set_cons_succ])
                        refine takeH (i := 24) (d := some 279) (v := ?_) rfl rfl (by kernel_rfl) (by kernel_rfl) (by kernel_rfl) (fun _ _ _ h => h) (Or.inl ⟨by rfl, ?_⟩) (by assumption) ?_
                        rotate_left
                        · (intro w' hSw; (try dsimp only at hSw); go_simp; (try with_reducible rfl))
                        (try simp only [Act.put, List.setIfInBounds_toArray, List.set_cons_zero, List.set_cons_succ])
                        refine wpAnyH_ready (rs := [22]) (by kernel_rfl) (by simp) ?_
                        refine AllReadyH.cons rfl (fun K hK => ?_) AllReadyH.nil
                        go_simp
                        refine (c_impl_IsFlat _ _ _ _ _ _ _ ho5.row (by have := hf5.2.2; omega)).mono ?_
                        rw [← HFB.out]
                        rintro e w9 ⟨rfl, hb⟩
                        replace f1 := f1.below hb
                        replace f3 := f3.below hb
                        replace f4 := f4.below hb
                        replace f5 := f5.below hb
                        replace ho1 := ho1.below hb
                        replace ho2 := ho2.below hb
                        replace ho3 := ho3.below hb
                        replace ho4 := ho4.below hb
                        replace ho5 := ho5.below hb
                        replace bel := bel.trans (hb.mono bel.size)
                        clear hb
                        replace kf10 := f1.c0
                        replace kf30 := f3.c0
                        replace kf40 := f4.c0
                        replace kf50 := f5.c0
                        replace kf11 := f1.c1
                        replace kf31 := f3.c1
                        replace kf41 := f4.c1
                        replace kf51 := f5.c1
                        (try go_wp2_with fail)
                        refine hK.out _ _ ?_ (fun hHeld => ?_)
                        · exact ⟨kf10, kf11, kf30, kf31, kf40, kf41, kf50, kf51⟩
                        clear hK K
                        (try simp only [Act.put, List.setIfInBounds_toArray, List.set_cons_zero, List.set_cons_succ])
                        refine wpAnyH_ready (rs := [25]) (by kernel_rfl) (by simp) ?_
                        refine AllReadyH.cons rfl (fun K hK => ?_) AllReadyH.nil
                        go_simp
                        refine (c_spec_IsFlat _ _ _ _ _ _ _ ho5.row (by have := hf5.2.2; omega)).mono ?_
                        rw [← HFB.out]
                        rintro e w9 ⟨rfl, hb⟩
                        replace f1 := f1.below hb
                        replace f3 := f3.below hb
                        replace f4 := f4.below hb
                        replace f5 := f5.below hb
                        replace ho1 := ho1.below hb
                        replace ho2 := ho2.below hb
                        replace ho3 := ho3.below hb
                        replace ho4 := ho4.below hb
                        replace ho5 := ho5.below hb
                        replace bel := bel.trans (hb.mono bel.size)
                        clear hb
                        replace kf10 := f1.c0
                        replace kf30 := f3.c0
                        replace kf40 := f4.c0
                        replace kf50 := f5.c0
                        replace kf11 := f1.c1
                        replace kf31 := f3.c1
                        replace kf41 := f4.c1
                        replace kf51 := f5.c1
                        (try go_wp2_with fail)
                        refine hK.out _ _ ?_ (fun hHeld => ?_)
                        · exact ⟨kf10, kf11, kf30, kf31, kf40, kf41, kf50, kf51⟩
                        clear hK K
                        (try simp only [Act.put, List.setIfInBounds_toArray, List.set_cons_zero, List.set_cons_succ])
                        refine takeH (i := 26) (d := some 281) (v := ?_) rfl rfl (by kernel_rfl) (by kernel_rfl) (by kernel_rfl) (fun _ _ _ h => h) (Or.inl ⟨by rfl, ?_⟩) (by assumption) ?_
                        rotate_left
                        · (intro w' hSw; (try dsimp only at hSw); go_simp; (try with_reducible rfl))
                        (try simp only [Act.put, List.setIfInBounds_toArray, List.set_cons_zero, List.set_cons_succ])
                        refine takeH (i := 27) (d := some 282) (v := ?_) rfl rfl (by kernel_rfl) (by kernel_rfl) (by kernel_rfl) (fun _ _ _ h => h) (Or.inl ⟨by rfl, ?_⟩) (by assumption) ?_
                        rotate_left
                        · (intro w' hSw; (try dsimp only at hSw); go_simp; (try with_reducible rfl))
                        (try simp only [Act.put, List.setIfInBounds_toArray, List.set_cons_zero, List.set_cons_succ])
                        refine takeH (i := 28) (d := some 2) (v := ?_) rfl rfl (by kernel_rfl) (by kernel_rfl) (by kernel_rfl) (fun _ _ _ h => h) (Or.inl ⟨by rfl, ?_⟩) (by assumption) ?_
                        rotate_left
                        · (intro w' hSw; (try dsimp only at hSw); go_simp; (try with_reducible rfl))
                        (try simp only [Act.put, List.setIfInBounds_toArray, List.set_cons_zero, List.set_cons_succ])
                        refine wpAnyH_done (by kernel_rfl) ?_ _
                        all_goals
                          go_wp2
                          go_ret
                          exact ⟨rfl, bel⟩
                    | true =>
                      as_aux_lemma =>
                        have hb1 : gB (dualT m1 z1 z2) m1 (tabOf m1 (dualV z1 z2)) = true := HB.out.symm.trans hBB
                        have hsb : subB N L = subB m1 z1 := by rw [HN.out, HL.out, (g_true hb1).2.2.1, (g_true hb1).2.2.2]; exact dual_sub hb1
                        obtain ⟨Sb, hSb⟩ : ∃ x, x = subB m1 z1 := ⟨_, rfl⟩
                        rw [← hSb] at hsb
                        have H1 := Lib.hid hsb
                        have H2 := Lib.hid hSb
                        clear hsb hSb hb1
                        replace f1 := f1.drew
                        replace f3 := f3.drew
                        replace f4 := f4.drew
                        replace f5 := f5.drew
                        replace ho1 := ho1.drew
                        replace ho2 := ho2.drew
                        replace ho3 := ho3.drew
                        replace ho4 := ho4.drew
                        replace ho5 := ho5.drew
                        replace bel := bel.drew
                        have kf10 := f1.c0
                        have kf30 := f3.c0
                        have kf40 := f4.c0
                        have kf50 := f5.c0
                        have kf11 := f1.c1
                        have kf31 := f3.c1
                        have kf41 := f4.c1
                        have kf51 := f5.c1
                        go_wp2_with fail
                        go_region_held3 (fun w' => w'.cell? ⟨wd1.heap.size, 0, none⟩ = some (.int .i64 m1) ∧ w'.cell? ⟨wd1.heap.size, 1, none⟩ = some (.slice a1 (z1.length) c1) ∧ w'.cell? ⟨wd2.heap.size, 0, none⟩ = some (.int .i64 N) ∧ w'.cell? ⟨wd2.heap.size, 1, none⟩ = some (.slice a3 (L.length) c3) ∧ w'.cell? ⟨wd3.heap.size, 0, none⟩ = some (.int .i64 N) ∧ w'.cell? ⟨wd3.heap.size, 1, none⟩ = some (.slice a4 (L.length) c4) ∧ w'.cell? ⟨wd4.heap.size, 0, none⟩ = some (.int .i64 m5) ∧ w'.cell? ⟨wd4.heap.size, 1, none⟩ = some (.slice a5 (z5.length) c5)) (go_keep)
                          (first
                            | (go_at_call_of 21 a3; refine (c_spec_EqualFunctions _ _ _ _ _ _ _ _ _ _ _ ho3.row hl3 ho4.row hl4).mono ?_; rw [sameF_self]; rintro e w9 ⟨rfl, hb⟩; replace f1 := f1.below hb; replace f3 := f3.below hb; replace f4 := f4.below hb; replace f5 := f5.below hb; replace ho1 := ho1.below hb; replace ho2 := ho2.below hb; replace ho3 := ho3.below hb; replace ho4 := ho4.below hb; replace ho5 := ho5.below hb; replace bel := bel.trans (hb.mono bel.size); clear hb; replace kf10 := f1.c0; replace kf30 := f3.c0; replace kf40 := f4.c0; replace kf50 := f5.c0; replace kf11 := f1.c1; replace kf31 := f3.c1; replace kf41 := f4.c1; replace kf51 := f5.c1)
                            | (go_at_call 23; refine (c_impl_IsSubmodular _ _ _ _ _ _ ho4.row hl4).mono ?_; rw [H1.out]; rintro e w9 ⟨rfl, hb⟩; replace f1 := f1.below hb; replace f3 := f3.below hb; replace f4 := f4.below hb; replace f5 := f5.below hb; replace ho1 := ho1.below hb; replace ho2 := ho2.below hb; replace ho3 := ho3.below hb; replace ho4 := ho4.below hb; replace ho5 := ho5.below hb; replace bel := bel.trans (hb.mono bel.size); clear hb; replace kf10 := f1.c0; replace kf30 := f3.c0; replace kf40 := f4.c0; replace kf50 := f5.c0; replace kf11 := f1.c1; replace kf31 := f3.c1; replace kf41 := f4.c1; replace kf51 := f5.c1)
                            | (go_at_call 22; refine (c_spec_IsSubmodular _ _ _ _ _ _ ho1.row (by have := hf1.2.2; omega)).mono ?_; rw [← H2.out]; rintro e w9 ⟨rfl, hb⟩; replace f1 := f1.below hb; replace f3 := f3.below hb; replace f4 := f4.below hb; replace f5 := f5.below hb; replace ho1 := ho1.below hb; replace ho2 := ho2.below hb; replace ho3 := ho3.below hb; replace ho4 := ho4.below hb; replace ho5 := ho5.below hb; replace bel := bel.trans (hb.mono bel.size); clear hb; replace kf10 := f1.c0; replace kf30 := f3.c0; replace kf40 := f4.c0; replace kf50 := f5.c0; replace kf11 := f1.c1; replace kf31 := f3.c1; replace kf41 := f4.c1; replace kf51 := f5.c1)
                            | (go_at_call 9; refine (c_impl_IsFlat _ _ _ _ _ _ _ ho5.row (by have := hf5.2.2; omega)).mono ?_; rw [← HFB.out]; rintro e w9 ⟨rfl, hb⟩; replace f1 := f1.below hb; replace f3 := f3.below hb; replace f4 := f4.below hb; replace f5 := f5.below hb; replace ho1 := ho1.below hb; replace ho2 := ho2.below hb; replace ho3 := ho3.below hb; replace ho4 := ho4.below hb; replace ho5 := ho5.below hb; replace bel := bel.trans (hb.mono bel.size); clear hb; replace kf10 := f1.c0; replace kf30 := f3.c0; replace kf40 := f4.c0; replace kf50 := f5.c0; replace kf11 := f1.c1; replace kf31 := f3.c1; replace kf41 := f4.c1; replace kf51 := f5.c1)
                            | (go_at_call 32; refine (c_spec_IsFlat _ _ _ _ _ _ _ ho5.row (by have := hf5.2.2; omega)).mono ?_; rw [← HFB.out]; rintro e w9 ⟨rfl, hb⟩; replace f1 := f1.below hb; replace f3 := f3.below hb; replace f4 := f4.below hb; replace f5 := f5.below hb; replace ho1 := ho1.below hb; replace ho2 := ho2.below hb; replace ho3 := ho3.below hb; replace ho4 := ho4.below hb; replace ho5 := ho5.below hb; replace bel := bel.trans (hb.mono bel.size); clear hb; replace kf10 := f1.c0; replace kf30 := f3.c0; replace kf40 := f4.c0; replace kf50 := f5.c0; replace kf11 := f1.c1; replace kf31 := f3.c1; replace kf41 := f4.c1; replace kf51 := f5.c1))
                        all_goals
                          go_wp2
                          go_ret
                          exact ⟨rfl, bel⟩
  · have hbig : decide (1048576 < (n0 : Int)) = true := by simp; omega
    go_enter Try.func3, Try.ntmps3
    go_wp2_with fail
    refine (c_big _ _ _ _ hm0).mono ?_
    rw [hbig]
    rintro e w' ⟨rfl, rfl⟩
    go_wp2
    go_ret
    exact ⟨rfl, Below.refl _ _⟩
end Go.Proofs.Ytfcgijnfiiaepaa
