/- The walk of FnFunctions: it returns true. -/
import Derived.Test.YtfcgijnfiiaepaaGreatDoorLawF
import Derived.Test.YtfcgijnfiiaepaaGreatDoorCurLit
import Derived.Test.YtfcgijnfiiaepaaGreatDoorCurThree
import Derived.Test.YtfcgijnfiiaepaaGreatDoorScale
import Derived.Test.YtfcgijnfiiaepaaGreatDoorPfI
import Derived.Test.YtfcgijnfiiaepaaGreatDoorHas
import Derived.Test.YtfcgijnfiiaepaaGreatDoorViol2
import Derived.Test.YtfcgijnfiiaepaaGreatDoorHeld
import Derived.Deep.DeepCutAuto
namespace Go.Proofs.YtfcgijnfiiaepaaGreatDoor
set_option linter.unusedSimpArgs false
set_option linter.unusedVariables false
open Go.RowKit

theorem sameF_self (n : Int) (xs : List Int) : sameF n xs n xs = true := by simp [sameF, eqL]
theorem elementsR_len (n s : Int) : (elementsR n s).length ≤ 10 := by
  unfold elementsR
  split
  · exact elemsTo_le s 10
  · simp
set_option maxRecDepth 20000 in
set_option maxHeartbeats 200000000 in
set_option maxRecDepth 100000 in
theorem walk_FnFunctions (a0 : Option Addr) (n0 c0 : Nat) (z0 : List Int) (w : World) (w0 : InRow .u8 w a0 n0 c0 z0) (htab : Go.Lib.TabIs Tryz.prog w "internal/strconv.uint64pow10" .u64 Go.Lib.pow10Tab) (hmax : MaxB w.heap.size w) :
    Calls Tryz.prog 3 #[.slice a0 n0 c0] w fun e w' => e = .returned (.bool true) ∧ Below w.heap.size w w' := by
  obtain ⟨hr0, hnc0, hcm0, _⟩ := w0
  have hm0 : n0 ≤ maxLen := Nat.le_trans hnc0 hcm0
  have HT := Lib.hid (TabB.of htab)
  have HM := Lib.hid hmax
  clear htab hmax
  have bel := Below.refl w.heap.size w
  by_cases hn : n0 ≤ 1048576
  · have hbig : decide (1048576 < (n0 : Int)) = false := by simp; omega
    go_enter Tryz.func3, Tryz.ntmps3
    go_wp2_with fail
    refine (c_big _ _ _ _ hm0).mono ?_
    rw [hbig]
    rintro e w' ⟨rfl, rfl⟩
    clear hbig
    go_wp2_with fail
    refine (c_DrawAddFunctions _ _ _ _ _ (hr0.below bel) hn).mono ?_
    rintro e wa1 ⟨m1, a1, c1, z1, m2, a2, c2, z2, hf1, hf2, rfl, ho1, ho2, hb⟩
    replace bel := bel.trans (hb.mono bel.size)
    clear hb
    have f1 := FBox.new wa1 26 m1 a1 (z1.length) c1
    replace ho1 := ho1.alloc (.cells #[.int .i64 m1, .slice a1 z1.length c1] 26)
    replace ho2 := ho2.alloc (.cells #[.int .i64 m1, .slice a1 z1.length c1] 26)
    replace bel := bel.alloc bel.size (.cells #[.int .i64 m1, .slice a1 z1.length c1] 26)
    have f2 := FBox.new (wa1.alloc (.cells #[.int .i64 m1, .slice a1 z1.length c1] 26)) 26 m2 a2 (z2.length) c2
    (try simp only [World.size_alloc] at f2)
    replace f1 := f1.alloc (.cells #[.int .i64 m2, .slice a2 z2.length c2] 26)
    replace ho1 := ho1.alloc (.cells #[.int .i64 m2, .slice a2 z2.length c2] 26)
    replace ho2 := ho2.alloc (.cells #[.int .i64 m2, .slice a2 z2.length c2] 26)
    replace bel := bel.alloc bel.size (.cells #[.int .i64 m2, .slice a2 z2.length c2] 26)
    obtain ⟨N, hN⟩ : ∃ x, x = gN (alikeB m1 z1 m2 z2) m1 (tabOf m1 (addV z1 z2)) := ⟨_, rfl⟩
    have HN := Lib.hid hN
    clear hN
    obtain ⟨L, hL⟩ : ∃ x, x = gL (alikeB m1 z1 m2 z2) m1 (tabOf m1 (addV z1 z2)) := ⟨_, rfl⟩
    have HL := Lib.hid hL
    clear hL
    obtain ⟨B, hB⟩ : ∃ x, x = gB (alikeB m1 z1 m2 z2) m1 (tabOf m1 (addV z1 z2)) := ⟨_, rfl⟩
    have HB := Lib.hid hB
    clear hB
    have kf10 := f1.c0
    have kf11 := f1.c1
    have kf20 := f2.c0
    have kf21 := f2.c1
    go_wp2_with fail
    clear kf10 kf11 kf20 kf21
    refine (c_impl_AddFunctions _ _ _ _ _ _ _ _ _ _ _ ho1.row (by have := hf1.2.2; omega) ho2.row (by have := hf2.2.2; omega)).mono ?_
    rw [← HN.out, ← HL.out, ← HB.out]
    rintro e wa2 ⟨a3, c3, rfl, ho3, hl3, hb⟩
    replace f1 := f1.below hb
    replace f2 := f2.below hb
    replace ho1 := ho1.below hb
    replace ho2 := ho2.below hb
    replace bel := bel.trans (hb.mono bel.size)
    clear hb
    have f3 := FBox.new wa2 26 N a3 (L.length) c3
    replace f1 := f1.alloc (.cells #[.int .i64 N, .slice a3 L.length c3] 26)
    replace f2 := f2.alloc (.cells #[.int .i64 N, .slice a3 L.length c3] 26)
    replace ho1 := ho1.alloc (.cells #[.int .i64 N, .slice a3 L.length c3] 26)
    replace ho2 := ho2.alloc (.cells #[.int .i64 N, .slice a3 L.length c3] 26)
    replace ho3 := ho3.alloc (.cells #[.int .i64 N, .slice a3 L.length c3] 26)
    replace bel := bel.alloc bel.size (.cells #[.int .i64 N, .slice a3 L.length c3] 26)
    have kf10 := f1.c0
    have kf11 := f1.c1
    have kf20 := f2.c0
    have kf21 := f2.c1
    go_wp2_with fail
    clear kf10 kf11 kf20 kf21
    refine (c_spec_AddFunctions _ _ _ _ _ _ _ _ _ _ _ ho1.row (by have := hf1.2.2; omega) ho2.row (by have := hf2.2.2; omega)).mono ?_
    rw [← HN.out, ← HL.out, ← HB.out]
    rintro e wa3 ⟨a4, c4, rfl, ho4, hl4, hb⟩
    replace f1 := f1.below hb
    replace f2 := f2.below hb
    replace f3 := f3.below hb
    replace ho1 := ho1.below hb
    replace ho2 := ho2.below hb
    replace ho3 := ho3.below hb
    replace bel := bel.trans (hb.mono bel.size)
    clear hb
    have f4 := FBox.new wa3 26 N a4 (L.length) c4
    replace f1 := f1.alloc (.cells #[.int .i64 N, .slice a4 L.length c4] 26)
    replace f2 := f2.alloc (.cells #[.int .i64 N, .slice a4 L.length c4] 26)
    replace f3 := f3.alloc (.cells #[.int .i64 N, .slice a4 L.length c4] 26)
    replace ho1 := ho1.alloc (.cells #[.int .i64 N, .slice a4 L.length c4] 26)
    replace ho2 := ho2.alloc (.cells #[.int .i64 N, .slice a4 L.length c4] 26)
    replace ho3 := ho3.alloc (.cells #[.int .i64 N, .slice a4 L.length c4] 26)
    replace ho4 := ho4.alloc (.cells #[.int .i64 N, .slice a4 L.length c4] 26)
    replace bel := bel.alloc bel.size (.cells #[.int .i64 N, .slice a4 L.length c4] 26)
    go_upto_region 6 with fail
    go_cut [6, 8, 81] from 38 (fun s6 s8 s81 wx => s81 = .bool false ∧ Below w.heap.size w wx ∧ FBox wx wa1.heap.size 26 m1 a1 z1.length c1 ∧ OwnI wx w.heap.size 3 .i64 (.slice a1 z1.length c1) z1)
    case first =>
      as_aux_lemma =>
        cases hBB : B with
        | false =>
          have kf30 := f3.c0
          have kf31 := f3.c1
          have kf40 := f4.c0
          have kf41 := f4.c1
          go_wp2_with fail
          clear kf30 kf31 kf40 kf41
          refine (c_spec_EqualFunctions _ _ _ _ _ _ _ _ _ _ _ ho3.row hl3 ho4.row hl4).mono ?_
          rw [sameF_self]
          rintro e wa4 ⟨rfl, hb⟩
          replace f1 := f1.below hb
          replace f2 := f2.below hb
          replace f3 := f3.below hb
          replace f4 := f4.below hb
          replace ho1 := ho1.below hb
          replace ho2 := ho2.below hb
          replace ho3 := ho3.below hb
          replace ho4 := ho4.below hb
          replace bel := bel.trans (hb.mono bel.size)
          clear hb
          go_wp2_with fail
          go_meet
          exact ⟨rfl, bel, f1, ho1⟩
        | true =>
          have kf30 := f3.c0
          have kf31 := f3.c1
          have kf40 := f4.c0
          have kf41 := f4.c1
          go_wp2_with fail
          clear kf30 kf31 kf40 kf41
          refine (c_spec_EqualFunctions _ _ _ _ _ _ _ _ _ _ _ ho3.row hl3 ho4.row hl4).mono ?_
          rw [sameF_self]
          rintro e wa4 ⟨rfl, hb⟩
          replace f1 := f1.below hb
          replace f2 := f2.below hb
          replace f3 := f3.below hb
          replace f4 := f4.below hb
          replace ho1 := ho1.below hb
          replace ho2 := ho2.below hb
          replace ho3 := ho3.below hb
          replace ho4 := ho4.below hb
          replace bel := bel.trans (hb.mono bel.size)
          clear hb
          cases hS : subB m1 z1 with
          | false =>
            have kf10 := f1.c0
            have kf11 := f1.c1
            go_wp2_with fail
            clear kf10 kf11
            refine (c_spec_IsSubmodular _ _ _ _ _ _ ho1.row (by have := hf1.2.2; omega)).mono ?_
            rw [hS]
            rintro e wa5 ⟨rfl, hb⟩
            replace f1 := f1.below hb
            replace f2 := f2.below hb
            replace f3 := f3.below hb
            replace f4 := f4.below hb
            replace ho1 := ho1.below hb
            replace ho2 := ho2.below hb
            replace ho3 := ho3.below hb
            replace ho4 := ho4.below hb
            replace bel := bel.trans (hb.mono bel.size)
            clear hb
            go_wp2_with fail
            go_meet
            exact ⟨rfl, bel, f1, ho1⟩
          | true =>
            have kf10 := f1.c0
            have kf11 := f1.c1
            go_wp2_with fail
            clear kf10 kf11
            refine (c_spec_IsSubmodular _ _ _ _ _ _ ho1.row (by have := hf1.2.2; omega)).mono ?_
            rw [hS]
            rintro e wa5 ⟨rfl, hb⟩
            replace f1 := f1.below hb
            replace f2 := f2.below hb
            replace f3 := f3.below hb
            replace f4 := f4.below hb
            replace ho1 := ho1.below hb
            replace ho2 := ho2.below hb
            replace ho3 := ho3.below hb
            replace ho4 := ho4.below hb
            replace bel := bel.trans (hb.mono bel.size)
            clear hb
            cases hS2 : subB m2 z2 with
            | false =>
              have kf20 := f2.c0
              have kf21 := f2.c1
              go_wp2_with fail
              clear kf20 kf21
              refine (c_spec_IsSubmodular _ _ _ _ _ _ ho2.row (by have := hf2.2.2; omega)).mono ?_
              rw [hS2]
              rintro e wa6 ⟨rfl, hb⟩
              replace f1 := f1.below hb
              replace f2 := f2.below hb
              replace f3 := f3.below hb
              replace f4 := f4.below hb
              replace ho1 := ho1.below hb
              replace ho2 := ho2.below hb
              replace ho3 := ho3.below hb
              replace ho4 := ho4.below hb
              replace bel := bel.trans (hb.mono bel.size)
              clear hb
              go_wp2_with fail
              go_meet
              exact ⟨rfl, bel, f1, ho1⟩
            | true =>
              have kf20 := f2.c0
              have kf21 := f2.c1
              go_wp2_with fail
              clear kf20 kf21
              refine (c_spec_IsSubmodular _ _ _ _ _ _ ho2.row (by have := hf2.2.2; omega)).mono ?_
              rw [hS2]
              rintro e wa6 ⟨rfl, hb⟩
              replace f1 := f1.below hb
              replace f2 := f2.below hb
              replace f3 := f3.below hb
              replace f4 := f4.below hb
              replace ho1 := ho1.below hb
              replace ho2 := ho2.below hb
              replace ho3 := ho3.below hb
              replace ho4 := ho4.below hb
              replace bel := bel.trans (hb.mono bel.size)
              clear hb
              have hNL : subB N L = true := by rw [HN.out, HL.out, (g_true (HB.out.symm.trans hBB)).2.2.1, (g_true (HB.out.symm.trans hBB)).2.2.2]; exact add_sub (HB.out.symm.trans hBB) hS hS2
              have kf40 := f4.c0
              have kf41 := f4.c1
              go_wp2_with fail
              clear kf40 kf41
              refine (c_impl_IsSubmodular _ _ _ _ _ _ ho4.row hl4).mono ?_
              rw [hNL]
              rintro e wa7 ⟨rfl, hb⟩
              replace f1 := f1.below hb
              replace f2 := f2.below hb
              replace f3 := f3.below hb
              replace f4 := f4.below hb
              replace ho1 := ho1.below hb
              replace ho2 := ho2.below hb
              replace ho3 := ho3.below hb
              replace ho4 := ho4.below hb
              replace bel := bel.trans (hb.mono bel.size)
              clear hb
              go_wp2_with fail
              go_meet
              exact ⟨rfl, bel, f1, ho1⟩
    case rest =>
      as_aux_lemma =>
        clear f1 f2 f3 f4 ho1 ho2 ho3 ho4 bel HN HL HB hl3 hl4 hf2
        obtain ⟨rfl, bel, f1, ho1⟩ := hcut
        obtain ⟨TX, hTX⟩ : ∃ x, x = fmtFn m1 z1 := ⟨_, rfl⟩
        have HTX := Lib.hid hTX
        clear hTX
        have hsm : TX.size ≤ 352 := by rw [HTX.out]; exact fmt_small _ _ hf1.2.2
        have kf10 := f1.c0
        have kf11 := f1.c1
        go_wp2_with fail
        clear kf10 kf11
        refine (c_impl_FormatFunction _ _ _ _ _ _ w.heap.size bel.size (HT.out.on bel) ho1.row (by have := hf1.2.2; omega)).mono ?_
        rw [← HTX.out]
        rintro e wr1 ⟨rfl, hb⟩
        replace f1 := f1.below hb
        replace ho1 := ho1.below hb
        replace bel := bel.trans (hb.mono bel.size)
        clear hb
        obtain ⟨N, hN⟩ : ∃ x, x = pfN TX := ⟨_, rfl⟩
        have HN := Lib.hid hN
        clear hN
        obtain ⟨L, hL⟩ : ∃ x, x = pfL TX := ⟨_, rfl⟩
        have HL := Lib.hid hL
        clear hL
        obtain ⟨B, hB⟩ : ∃ x, x = pfB TX := ⟨_, rfl⟩
        have HB := Lib.hid hB
        clear hB
        go_wp2_with fail
        refine (c_impl_ParseFunction TX _ w.heap.size bel.size (by omega) (HT.out.on bel) (HM.out.on bel)).mono ?_
        rw [← HN.out, ← HL.out, ← HB.out]
        rintro e wr2 ⟨a3, c3, rfl, ho3, hl3, hb⟩
        replace f1 := f1.below hb
        replace ho1 := ho1.below hb
        replace bel := bel.trans (hb.mono bel.size)
        clear hb
        have f3 := FBox.new wr2 26 N a3 (L.length) c3
        replace f1 := f1.alloc (.cells #[.int .i64 N, .slice a3 L.length c3] 26)
        replace ho1 := ho1.alloc (.cells #[.int .i64 N, .slice a3 L.length c3] 26)
        replace ho3 := ho3.alloc (.cells #[.int .i64 N, .slice a3 L.length c3] 26)
        replace bel := bel.alloc bel.size (.cells #[.int .i64 N, .slice a3 L.length c3] 26)
        go_upto_region 10 with fail
        go_cut [9, 11, 119] from 38 (fun s9 s11 s119 wx => s119 = .bool false ∧ Below w.heap.size w wx)
        case first =>
          as_aux_lemma =>
            cases hF : isFun m1 z1 with
            | false =>
              as_aux_lemma =>
                have hTX : ⟨#[]⟩ = TX := (HTX.out.trans (fmt_empty hF)).symm
                subst hTX
                have hB : false = B := (HB.out.trans pf_empty.2.2).symm
                subst hB
                replace f1 := f1.drew
                replace f3 := f3.drew
                replace ho1 := ho1.drew
                replace ho3 := ho3.drew
                replace bel := bel.drew
                have kf10 := f1.c0
                have kf30 := f3.c0
                have kf11 := f1.c1
                have kf31 := f3.c1
                go_upto_region 10 with fail
                refine wp_region_held_drew (S := fun w' => w'.cell? ⟨wa1.heap.size, 0, none⟩ = some (.int .i64 m1) ∧ w'.cell? ⟨wa1.heap.size, 1, none⟩ = some (.slice a1 (z1.length) c1) ∧ w'.cell? ⟨wr2.heap.size, 0, none⟩ = some (.int .i64 N) ∧ w'.cell? ⟨wr2.heap.size, 1, none⟩ = some (.slice a3 (L.length) c3)) (by kernel_rfl) ?_ (fun hHeld => ?_)
                · exact ⟨kf10, kf11, kf30, kf31⟩
                refine takeH (i := 0) (d := some 89) (v := ?_) rfl rfl (by kernel_rfl) (by kernel_rfl) (by kernel_rfl) (fun _ _ _ h => h) (Or.inl ⟨by rfl, ?_⟩) (by assumption) ?_
                rotate_left
                · (intro w' hSw; (try dsimp only at hSw); go_simp; (try with_reducible rfl))
                (try simp only [Act.put, List.setIfInBounds_toArray, List.set_cons_zero, List.set_cons_succ])
                refine takeH (i := 1) (d := some 90) (v := ?_) rfl rfl (by kernel_rfl) (by kernel_rfl) (by kernel_rfl) (fun _ _ _ h => h) (Or.inl ⟨by rfl, ?_⟩) (by assumption) ?_
                rotate_left
                · (intro w' hSw; (try dsimp only at hSw); go_simp; (try with_reducible rfl))
                (try simp only [Act.put, List.setIfInBounds_toArray, List.set_cons_zero, List.set_cons_succ])
                refine wpAnyH_ready (rs := [2]) (by kernel_rfl) (by simp) ?_
                refine AllReadyH.cons rfl (fun K hK => ?_) AllReadyH.nil
                go_simp
                refine (c_spec_FormatFunction _ _ _ _ _ _ ho1.row (by have := hf1.2.2; omega)).mono ?_
                rw [← HTX.out]
                rintro e w9 ⟨rfl, hb⟩
                replace f1 := f1.below hb
                replace f3 := f3.below hb
                replace ho1 := ho1.below hb
                replace ho3 := ho3.below hb
                replace bel := bel.trans (hb.mono bel.size)
                clear hb
                replace kf10 := f1.c0
                replace kf30 := f3.c0
                replace kf11 := f1.c1
                replace kf31 := f3.c1
                (try go_wp2_with fail)
                refine hK.out _ _ ?_ (fun hHeld => ?_)
                · exact ⟨kf10, kf11, kf30, kf31⟩
                clear hK K
                (try simp only [Act.put, List.setIfInBounds_toArray, List.set_cons_zero, List.set_cons_succ])
                refine takeH (i := 3) (d := some 92) (v := ?_) rfl rfl (by kernel_rfl) (by kernel_rfl) (by kernel_rfl) (fun _ _ _ h => h) (Or.inl ⟨by rfl, ?_⟩) (by assumption) ?_
                rotate_left
                · (intro w' hSw; (try dsimp only at hSw); go_simp; (try with_reducible rfl))
                (try simp only [Act.put, List.setIfInBounds_toArray, List.set_cons_zero, List.set_cons_succ])
                refine takeH (i := 4) (d := some 93) (v := ?_) rfl rfl (by kernel_rfl) (by kernel_rfl) (by kernel_rfl) (fun _ _ _ h => h) (Or.inl ⟨by rfl, ?_⟩) (by assumption) ?_
                rotate_left
                · (intro w' hSw; (try dsimp only at hSw); go_simp; (try with_reducible rfl))
                (try simp only [Act.put, List.setIfInBounds_toArray, List.set_cons_zero, List.set_cons_succ])
                refine takeH (i := 5) (d := some 94) (v := ?_) rfl rfl (by kernel_rfl) (by kernel_rfl) (by kernel_rfl) (fun _ _ _ h => h) (Or.inl ⟨by rfl, ?_⟩) (by assumption) ?_
                rotate_left
                · (intro w' hSw; (try dsimp only at hSw); go_simp; (try with_reducible rfl))
                (try simp only [Act.put, List.setIfInBounds_toArray, List.set_cons_zero, List.set_cons_succ])
                refine takeH (i := 7) (d := some 96) (v := ?_) rfl rfl (by kernel_rfl) (by kernel_rfl) (by kernel_rfl) (fun _ _ _ h => h) (Or.inl ⟨by rfl, ?_⟩) (by assumption) ?_
                rotate_left
                · (intro w' hSw; (try dsimp only at hSw); go_simp; (try with_reducible rfl))
                (try simp only [Act.put, List.setIfInBounds_toArray, List.set_cons_zero, List.set_cons_succ])
                refine wpAnyH_ready (rs := [6]) (by kernel_rfl) (by simp) ?_
                refine AllReadyH.cons rfl (fun K hK => ?_) AllReadyH.nil
                go_simp
                refine (c_impl_IsFunction _ _ _ _ _ _ ho1.row (by have := hf1.2.2; omega)).mono ?_
                rw [hF]
                rintro e w9 ⟨rfl, hb⟩
                replace f1 := f1.below hb
                replace f3 := f3.below hb
                replace ho1 := ho1.below hb
                replace ho3 := ho3.below hb
                replace bel := bel.trans (hb.mono bel.size)
                clear hb
                replace kf10 := f1.c0
                replace kf30 := f3.c0
                replace kf11 := f1.c1
                replace kf31 := f3.c1
                (try go_wp2_with fail)
                refine hK.out _ _ ?_ (fun hHeld => ?_)
                · exact ⟨kf10, kf11, kf30, kf31⟩
                clear hK K
                (try simp only [Act.put, List.setIfInBounds_toArray, List.set_cons_zero, List.set_cons_succ])
                refine wpAnyH_ready (rs := [8]) (by kernel_rfl) (by simp) ?_
                refine AllReadyH.cons rfl (fun K hK => ?_) AllReadyH.nil
                go_simp
                refine (c_spec_IsFunction _ _ _ _ _ _ ho1.row (by have := hf1.2.2; omega)).mono ?_
                rw [hF]
                rintro e w9 ⟨rfl, hb⟩
                replace f1 := f1.below hb
                replace f3 := f3.below hb
                replace ho1 := ho1.below hb
                replace ho3 := ho3.below hb
                replace bel := bel.trans (hb.mono bel.size)
                clear hb
                replace kf10 := f1.c0
                replace kf30 := f3.c0
                replace kf11 := f1.c1
                replace kf31 := f3.c1
                (try go_wp2_with fail)
                refine hK.out _ _ ?_ (fun hHeld => ?_)
                · exact ⟨kf10, kf11, kf30, kf31⟩
                clear hK K
                (try simp only [Act.put, List.setIfInBounds_toArray, List.set_cons_zero, List.set_cons_succ])
                refine takeH (i := 9) (d := some 98) (v := ?_) rfl rfl (by kernel_rfl) (by kernel_rfl) (by kernel_rfl) (fun _ _ _ h => h) (Or.inl ⟨by rfl, ?_⟩) (by assumption) ?_
                rotate_left
                · (intro w' hSw; (try dsimp only at hSw); go_simp; (try with_reducible rfl))
                (try simp only [Act.put, List.setIfInBounds_toArray, List.set_cons_zero, List.set_cons_succ])
                refine takeH (i := 10) (d := some 99) (v := ?_) rfl rfl (by kernel_rfl) (by kernel_rfl) (by kernel_rfl) (fun _ _ _ h => h) (Or.inl ⟨by rfl, ?_⟩) (by assumption) ?_
                rotate_left
                · (intro w' hSw; (try dsimp only at hSw); go_simp; (try with_reducible rfl))
                (try simp only [Act.put, List.setIfInBounds_toArray, List.set_cons_zero, List.set_cons_succ])
                refine takeH (i := 11) (d := some 100) (v := ?_) rfl rfl (by kernel_rfl) (by kernel_rfl) (by kernel_rfl) (fun _ _ _ h => h) (Or.inl ⟨by rfl, ?_⟩) (by assumption) ?_
                rotate_left
                · (intro w' hSw; (try dsimp only at hSw); go_simp; (try with_reducible rfl))
                (try simp only [Act.put, List.setIfInBounds_toArray, List.set_cons_zero, List.set_cons_succ])
                refine takeH (i := 12) (d := some 101) (v := ?_) rfl rfl (by kernel_rfl) (by kernel_rfl) (by kernel_rfl) (fun _ _ _ h => h) (Or.inl ⟨by rfl, ?_⟩) (by assumption) ?_
                rotate_left
                · (intro w' hSw; (try dsimp only at hSw); go_simp; (try with_reducible rfl))
                (try simp only [Act.put, List.setIfInBounds_toArray, List.set_cons_zero, List.set_cons_succ])
                refine takeH (i := 13) (d := some 102) (v := ?_) rfl rfl (by kernel_rfl) (by kernel_rfl) (by kernel_rfl) (fun _ _ _ h => h) (Or.inl ⟨by rfl, ?_⟩) (by assumption) ?_
                rotate_left
                · (intro w' hSw; (try dsimp only at hSw); go_simp; (try with_reducible rfl))
                (try simp only [Act.put, List.setIfInBounds_toArray, List.set_cons_zero, List.set_cons_succ])
                refine takeH (i := 14) (d := some 103) (v := ?_) rfl rfl (by kernel_rfl) (by kernel_rfl) (by kernel_rfl) (fun _ _ _ h => h) (Or.inl ⟨by rfl, ?_⟩) (by assumption) ?_
                rotate_left
                · (intro w' hSw; (try dsimp only at hSw); go_simp; (try with_reducible rfl))
                (try simp only [Act.put, List.setIfInBounds_toArray, List.set_cons_zero, List.set_cons_succ])
                refine takeH (i := 15) (d := some 104) (v := ?_) rfl rfl (by kernel_rfl) (by kernel_rfl) (by kernel_rfl) (fun _ _ _ h => h) (Or.inl ⟨by rfl, ?_⟩) (by assumption) ?_
                rotate_left
                · (intro w' hSw; (try dsimp only at hSw); go_simp; (try with_reducible rfl))
                (try simp only [Act.put, List.setIfInBounds_toArray, List.set_cons_zero, List.set_cons_succ])
                refine takeH (i := 16) (d := some 105) (v := ?_) rfl rfl (by kernel_rfl) (by kernel_rfl) (by kernel_rfl) (fun _ _ _ h => h) (Or.inl ⟨by rfl, ?_⟩) (by assumption) ?_
                rotate_left
                · (intro w' hSw; (try dsimp only at hSw); go_simp; (try with_reducible rfl))
                (try simp only [Act.put, List.setIfInBounds_toArray, List.set_cons_zero, List.set_cons_succ])
                refine takeH (i := 17) (d := some 106) (v := ?_) rfl rfl (by kernel_rfl) (by kernel_rfl) (by kernel_rfl) (fun _ _ _ h => h) (Or.inl ⟨by rfl, ?_⟩) (by assumption) ?_
                rotate_left
                · (intro w' hSw; (try dsimp only at hSw); go_simp; (try with_reducible rfl))
                (try simp only [Act.put, List.setIfInBounds_toArray, List.set_cons_zero, List.set_cons_succ])
                refine wpAnyH_ready (rs := [18]) (by kernel_rfl) (by simp) ?_
                refine AllReadyH.cons rfl (fun K hK => ?_) AllReadyH.nil
                go_simp
                refine (c_spec_IsFunction _ _ _ _ _ _ ho1.row (by have := hf1.2.2; omega)).mono ?_
                rw [hF]
                rintro e w9 ⟨rfl, hb⟩
                replace f1 := f1.below hb
                replace f3 := f3.below hb
                replace ho1 := ho1.below hb
                replace ho3 := ho3.below hb
                replace bel := bel.trans (hb.mono bel.size)
                clear hb
                replace kf10 := f1.c0
                replace kf30 := f3.c0
                replace kf11 := f1.c1
                replace kf31 := f3.c1
                (try go_wp2_with fail)
                refine hK.out _ _ ?_ (fun hHeld => ?_)
                · exact ⟨kf10, kf11, kf30, kf31⟩
                clear hK K
                (try simp only [Act.put, List.setIfInBounds_toArray, List.set_cons_zero, List.set_cons_succ])
                refine takeH (i := 19) (d := some 108) (v := ?_) rfl rfl (by kernel_rfl) (by kernel_rfl) (by kernel_rfl) (fun _ _ _ h => h) (Or.inl ⟨by rfl, ?_⟩) (by assumption) ?_
                rotate_left
                · (intro w' hSw; (try dsimp only at hSw); go_simp; (try with_reducible rfl))
                (try simp only [Act.put, List.setIfInBounds_toArray, List.set_cons_zero, List.set_cons_succ])
                refine takeH (i := 20) (d := some 109) (v := ?_) rfl rfl (by kernel_rfl) (by kernel_rfl) (by kernel_rfl) (fun _ _ _ h => h) (Or.inl ⟨by rfl, ?_⟩) (by assumption) ?_
                rotate_left
                · (intro w' hSw; (try dsimp only at hSw); go_simp; (try with_reducible rfl))
                (try simp only [Act.put, List.setIfInBounds_toArray, List.set_cons_zero, List.set_cons_succ])
                refine takeH (i := 21) (d := some 110) (v := ?_) rfl rfl (by kernel_rfl) (by kernel_rfl) (by kernel_rfl) (fun _ _ _ h => h) (Or.inl ⟨by rfl, ?_⟩) (by assumption) ?_
                rotate_left
                · (intro w' hSw; (try dsimp only at hSw); go_simp; (try with_reducible rfl))
                (try simp only [Act.put, List.setIfInBounds_toArray, List.set_cons_zero, List.set_cons_succ])
                refine takeH (i := 22) (d := some 111) (v := ?_) rfl rfl (by kernel_rfl) (by kernel_rfl) (by kernel_rfl) (fun _ _ _ h => h) (Or.inl ⟨by rfl, ?_⟩) (by assumption) ?_
                rotate_left
                · (intro w' hSw; (try dsimp only at hSw); go_simp; (try with_reducible rfl))
                (try simp only [Act.put, List.setIfInBounds_toArray, List.set_cons_zero, List.set_cons_succ])
                refine takeH (i := 23) (d := some 112) (v := undef) rfl rfl (by kernel_rfl) (by kernel_rfl) (by kernel_rfl) (fun _ _ _ h => h) (Or.inr ⟨by rfl, rfl⟩) (by assumption) ?_
                (try simp only [Act.put, List.setIfInBounds_toArray, List.set_cons_zero, List.set_cons_succ])
                refine takeH (i := 24) (d := some 113) (v := undef) rfl rfl (by kernel_rfl) (by kernel_rfl) (by kernel_rfl) (fun _ _ _ h => h) (Or.inr ⟨by rfl, rfl⟩) (by assumption) ?_
                (try simp only [Act.put, List.setIfInBounds_toArray, List.set_cons_zero, List.set_cons_succ])
                refine takeH (i := 25) (d := some 114) (v := undef) rfl rfl (by kernel_rfl) (by kernel_rfl) (by kernel_rfl) (fun _ _ _ h => h) (Or.inr ⟨by rfl, rfl⟩) (by assumption) ?_
                (try simp only [Act.put, List.setIfInBounds_toArray, List.set_cons_zero, List.set_cons_succ])
                refine takeH (i := 26) (d := some 115) (v := undef) rfl rfl (by kernel_rfl) (by kernel_rfl) (by kernel_rfl) (fun _ _ _ h => h) (Or.inr ⟨by rfl, rfl⟩) (by assumption) ?_
                (try simp only [Act.put, List.setIfInBounds_toArray, List.set_cons_zero, List.set_cons_succ])
                refine takeH (i := 27) (d := some 116) (v := ?_) rfl rfl (by kernel_rfl) (by kernel_rfl) (by kernel_rfl) (fun _ _ _ h => h) (Or.inl ⟨by rfl, ?_⟩) (by assumption) ?_
                rotate_left
                · (intro w' hSw; (try dsimp only at hSw); go_simp; (try with_reducible rfl))
                (try simp only [Act.put, List.setIfInBounds_toArray, List.set_cons_zero, List.set_cons_succ])
                refine takeH (i := 28) (d := some 117) (v := ?_) rfl rfl (by kernel_rfl) (by kernel_rfl) (by kernel_rfl) (fun _ _ _ h => h) (Or.inl ⟨by rfl, ?_⟩) (by assumption) ?_
                rotate_left
                · (intro w' hSw; (try dsimp only at hSw); go_simp; (try with_reducible rfl))
                (try simp only [Act.put, List.setIfInBounds_toArray, List.set_cons_zero, List.set_cons_succ])
                refine takeH (i := 29) (d := some 118) (v := ?_) rfl rfl (by kernel_rfl) (by kernel_rfl) (by kernel_rfl) (fun _ _ _ h => h) (Or.inl ⟨by rfl, ?_⟩) (by assumption) ?_
                rotate_left
                · (intro w' hSw; (try dsimp only at hSw); go_simp; (try with_reducible rfl))
                (try simp only [Act.put, List.setIfInBounds_toArray, List.set_cons_zero, List.set_cons_succ])
                refine takeH (i := 30) (d := some 119) (v := ?_) rfl rfl (by kernel_rfl) (by kernel_rfl) (by kernel_rfl) (fun _ _ _ h => h) (Or.inl ⟨by rfl, ?_⟩) (by assumption) ?_
                rotate_left
                · (intro w' hSw; (try dsimp only at hSw); go_simp; (try with_reducible rfl))
                (try simp only [Act.put, List.setIfInBounds_toArray, List.set_cons_zero, List.set_cons_succ])
                refine wpAnyH_done (by kernel_rfl) ?_ _
                all_goals
                  go_wp2_with fail
                  go_meet
                  exact ⟨rfl, bel⟩
            | true =>
              by_cases hz : TX.size ≤ 200
              · as_aux_lemma =>
                  have hfr := fmt_read hF (by rw [← HTX.out]; exact hz)
                  rw [← HTX.out] at hfr
                  have hN : m1 = N := (HN.out.trans hfr.1).symm
                  have hL : z1 = L := (HL.out.trans hfr.2.1).symm
                  have hB : true = B := (HB.out.trans hfr.2.2).symm
                  clear hfr
                  subst hN
                  subst hL
                  subst hB
                  have hzz : (TX.size : Int) ≤ 200 := by omega
                  replace f1 := f1.drew
                  replace f3 := f3.drew
                  replace ho1 := ho1.drew
                  replace ho3 := ho3.drew
                  replace bel := bel.drew
                  have kf10 := f1.c0
                  have kf30 := f3.c0
                  have kf11 := f1.c1
                  have kf31 := f3.c1
                  go_wp2_with fail
                  go_region_held3 (fun w' => w'.cell? ⟨wa1.heap.size, 0, none⟩ = some (.int .i64 m1) ∧ w'.cell? ⟨wa1.heap.size, 1, none⟩ = some (.slice a1 (z1.length) c1) ∧ w'.cell? ⟨wr2.heap.size, 0, none⟩ = some (.int .i64 m1) ∧ w'.cell? ⟨wr2.heap.size, 1, none⟩ = some (.slice a3 (z1.length) c3)) (go_keep)
                    (first
                      | (go_at_call 13; refine (c_spec_FormatFunction _ _ _ _ _ _ ho1.row (by have := hf1.2.2; omega)).mono ?_; rw [← HTX.out]; rintro e w9 ⟨rfl, hb⟩; replace f1 := f1.below hb; replace f3 := f3.below hb; replace ho1 := ho1.below hb; replace ho3 := ho3.below hb; replace bel := bel.trans (hb.mono bel.size); clear hb; replace kf10 := f1.c0; replace kf30 := f3.c0; replace kf11 := f1.c1; replace kf31 := f3.c1)
                      | (go_at_call 14; refine (c_impl_IsFunction _ _ _ _ _ _ ho1.row (by have := hf1.2.2; omega)).mono ?_; rw [hF]; rintro e w9 ⟨rfl, hb⟩; replace f1 := f1.below hb; replace f3 := f3.below hb; replace ho1 := ho1.below hb; replace ho3 := ho3.below hb; replace bel := bel.trans (hb.mono bel.size); clear hb; replace kf10 := f1.c0; replace kf30 := f3.c0; replace kf11 := f1.c1; replace kf31 := f3.c1)
                      | (go_at_call 15; refine (c_spec_IsFunction _ _ _ _ _ _ ho1.row (by have := hf1.2.2; omega)).mono ?_; rw [hF]; rintro e w9 ⟨rfl, hb⟩; replace f1 := f1.below hb; replace f3 := f3.below hb; replace ho1 := ho1.below hb; replace ho3 := ho3.below hb; replace bel := bel.trans (hb.mono bel.size); clear hb; replace kf10 := f1.c0; replace kf30 := f3.c0; replace kf11 := f1.c1; replace kf31 := f3.c1)
                      | (go_at_call 8; refine (c_spec_EqualFunctions _ _ _ _ _ _ _ _ _ _ _ ho3.row hl3 ho1.row (by have := hf1.2.2; omega)).mono ?_; rw [sameF_self]; rintro e w9 ⟨rfl, hb⟩; replace f1 := f1.below hb; replace f3 := f3.below hb; replace ho1 := ho1.below hb; replace ho3 := ho3.below hb; replace bel := bel.trans (hb.mono bel.size); clear hb; replace kf10 := f1.c0; replace kf30 := f3.c0; replace kf11 := f1.c1; replace kf31 := f3.c1))
                  all_goals
                    go_wp2_with fail
                    go_meet
                    exact ⟨rfl, bel⟩
              · as_aux_lemma =>
                  have hB : false = B := (HB.out.trans (pf_none (by rw [pfR, if_neg hz])).2.2).symm
                  subst hB
                  have hzz : ((TX.size : Int) ≤ 200) = False := by simp; omega
                  have hzz2 : (TX.size ≤ 200) = False := by simp; omega
                  replace f1 := f1.drew
                  replace f3 := f3.drew
                  replace ho1 := ho1.drew
                  replace ho3 := ho3.drew
                  replace bel := bel.drew
                  have kf10 := f1.c0
                  have kf30 := f3.c0
                  have kf11 := f1.c1
                  have kf31 := f3.c1
                  go_upto_region 10 with fail
                  refine wp_region_held_drew (S := fun w' => w'.cell? ⟨wa1.heap.size, 0, none⟩ = some (.int .i64 m1) ∧ w'.cell? ⟨wa1.heap.size, 1, none⟩ = some (.slice a1 (z1.length) c1) ∧ w'.cell? ⟨wr2.heap.size, 0, none⟩ = some (.int .i64 N) ∧ w'.cell? ⟨wr2.heap.size, 1, none⟩ = some (.slice a3 (L.length) c3)) (by kernel_rfl) ?_ (fun hHeld => ?_)
                  · exact ⟨kf10, kf11, kf30, kf31⟩
                  refine takeH (i := 0) (d := some 89) (v := ?_) rfl rfl (by kernel_rfl) (by kernel_rfl) (by kernel_rfl) (fun _ _ _ h => h) (Or.inl ⟨by rfl, ?_⟩) (by assumption) ?_
                  rotate_left
                  · (intro w' hSw; (try dsimp only at hSw); go_simp; (try with_reducible rfl))
                  (try simp only [Act.put, List.setIfInBounds_toArray, List.set_cons_zero, List.set_cons_succ])
                  refine takeH (i := 1) (d := some 90) (v := ?_) rfl rfl (by kernel_rfl) (by kernel_rfl) (by kernel_rfl) (fun _ _ _ h => h) (Or.inl ⟨by rfl, ?_⟩) (by assumption) ?_
                  rotate_left
                  · (intro w' hSw; (try dsimp only at hSw); go_simp; (try with_reducible rfl))
                  (try simp only [Act.put, List.setIfInBounds_toArray, List.set_cons_zero, List.set_cons_succ])
                  refine wpAnyH_ready (rs := [2]) (by kernel_rfl) (by simp) ?_
                  refine AllReadyH.cons rfl (fun K hK => ?_) AllReadyH.nil
                  go_simp
                  refine (c_spec_FormatFunction _ _ _ _ _ _ ho1.row (by have := hf1.2.2; omega)).mono ?_
                  rw [← HTX.out]
                  rintro e w9 ⟨rfl, hb⟩
                  replace f1 := f1.below hb
                  replace f3 := f3.below hb
                  replace ho1 := ho1.below hb
                  replace ho3 := ho3.below hb
                  replace bel := bel.trans (hb.mono bel.size)
                  clear hb
                  replace kf10 := f1.c0
                  replace kf30 := f3.c0
                  replace kf11 := f1.c1
                  replace kf31 := f3.c1
                  (try go_wp2_with fail)
                  refine hK.out _ _ ?_ (fun hHeld => ?_)
                  · exact ⟨kf10, kf11, kf30, kf31⟩
                  clear hK K
                  (try simp only [Act.put, List.setIfInBounds_toArray, List.set_cons_zero, List.set_cons_succ])
                  refine takeH (i := 3) (d := some 92) (v := ?_) rfl rfl (by kernel_rfl) (by kernel_rfl) (by kernel_rfl) (fun _ _ _ h => h) (Or.inl ⟨by rfl, ?_⟩) (by assumption) ?_
                  rotate_left
                  · (intro w' hSw; (try dsimp only at hSw); go_simp; (try with_reducible rfl))
                  (try simp only [Act.put, List.setIfInBounds_toArray, List.set_cons_zero, List.set_cons_succ])
                  refine takeH (i := 4) (d := some 93) (v := ?_) rfl rfl (by kernel_rfl) (by kernel_rfl) (by kernel_rfl) (fun _ _ _ h => h) (Or.inl ⟨by rfl, ?_⟩) (by assumption) ?_
                  rotate_left
                  · (intro w' hSw; (try dsimp only at hSw); go_simp; (try with_reducible rfl))
                  (try simp only [Act.put, List.setIfInBounds_toArray, List.set_cons_zero, List.set_cons_succ])
                  refine takeH (i := 5) (d := some 94) (v := ?_) rfl rfl (by kernel_rfl) (by kernel_rfl) (by kernel_rfl) (fun _ _ _ h => h) (Or.inl ⟨by rfl, ?_⟩) (by assumption) ?_
                  rotate_left
                  · (intro w' hSw; (try dsimp only at hSw); go_simp; (try with_reducible rfl))
                  (try simp only [Act.put, List.setIfInBounds_toArray, List.set_cons_zero, List.set_cons_succ])
                  refine takeH (i := 7) (d := some 96) (v := ?_) rfl rfl (by kernel_rfl) (by kernel_rfl) (by kernel_rfl) (fun _ _ _ h => h) (Or.inl ⟨by rfl, ?_⟩) (by assumption) ?_
                  rotate_left
                  · (intro w' hSw; (try dsimp only at hSw); go_simp; (try with_reducible rfl))
                  (try simp only [Act.put, List.setIfInBounds_toArray, List.set_cons_zero, List.set_cons_succ])
                  refine wpAnyH_ready (rs := [6]) (by kernel_rfl) (by simp) ?_
                  refine AllReadyH.cons rfl (fun K hK => ?_) AllReadyH.nil
                  go_simp
                  refine (c_impl_IsFunction _ _ _ _ _ _ ho1.row (by have := hf1.2.2; omega)).mono ?_
                  rw [hF]
                  rintro e w9 ⟨rfl, hb⟩
                  replace f1 := f1.below hb
                  replace f3 := f3.below hb
                  replace ho1 := ho1.below hb
                  replace ho3 := ho3.below hb
                  replace bel := bel.trans (hb.mono bel.size)
                  clear hb
                  replace kf10 := f1.c0
                  replace kf30 := f3.c0
                  replace kf11 := f1.c1
                  replace kf31 := f3.c1
                  (try go_wp2_with fail)
                  refine hK.out _ _ ?_ (fun hHeld => ?_)
                  · exact ⟨kf10, kf11, kf30, kf31⟩
                  clear hK K
                  (try simp only [Act.put, List.setIfInBounds_toArray, List.set_cons_zero, List.set_cons_succ])
                  refine wpAnyH_ready (rs := [8]) (by kernel_rfl) (by simp) ?_
                  refine AllReadyH.cons rfl (fun K hK => ?_) AllReadyH.nil
                  go_simp
                  refine (c_spec_IsFunction _ _ _ _ _ _ ho1.row (by have := hf1.2.2; omega)).mono ?_
                  rw [hF]
                  rintro e w9 ⟨rfl, hb⟩
                  replace f1 := f1.below hb
                  replace f3 := f3.below hb
                  replace ho1 := ho1.below hb
                  replace ho3 := ho3.below hb
                  replace bel := bel.trans (hb.mono bel.size)
                  clear hb
                  replace kf10 := f1.c0
                  replace kf30 := f3.c0
                  replace kf11 := f1.c1
                  replace kf31 := f3.c1
                  (try go_wp2_with fail)
                  refine hK.out _ _ ?_ (fun hHeld => ?_)
                  · exact ⟨kf10, kf11, kf30, kf31⟩
                  clear hK K
                  (try simp only [Act.put, List.setIfInBounds_toArray, List.set_cons_zero, List.set_cons_succ])
                  refine takeH (i := 9) (d := some 98) (v := ?_) rfl rfl (by kernel_rfl) (by kernel_rfl) (by kernel_rfl) (fun _ _ _ h => h) (Or.inl ⟨by rfl, ?_⟩) (by assumption) ?_
                  rotate_left
                  · (intro w' hSw; (try dsimp only at hSw); go_simp; (try with_reducible rfl))
                  (try simp only [Act.put, List.setIfInBounds_toArray, List.set_cons_zero, List.set_cons_succ])
                  refine takeH (i := 10) (d := some 99) (v := ?_) rfl rfl (by kernel_rfl) (by kernel_rfl) (by kernel_rfl) (fun _ _ _ h => h) (Or.inl ⟨by rfl, ?_⟩) (by assumption) ?_
                  rotate_left
                  · (intro w' hSw; (try dsimp only at hSw); go_simp; (try with_reducible rfl))
                  (try simp only [Act.put, List.setIfInBounds_toArray, List.set_cons_zero, List.set_cons_succ])
                  refine takeH (i := 11) (d := some 100) (v := ?_) rfl rfl (by kernel_rfl) (by kernel_rfl) (by kernel_rfl) (fun _ _ _ h => h) (Or.inl ⟨by rfl, ?_⟩) (by assumption) ?_
                  rotate_left
                  · (intro w' hSw; (try dsimp only at hSw); go_simp; (try with_reducible rfl))
                  (try simp only [Act.put, List.setIfInBounds_toArray, List.set_cons_zero, List.set_cons_succ])
                  refine takeH (i := 12) (d := some 101) (v := ?_) rfl rfl (by kernel_rfl) (by kernel_rfl) (by kernel_rfl) (fun _ _ _ h => h) (Or.inl ⟨by rfl, ?_⟩) (by assumption) ?_
                  rotate_left
                  · (intro w' hSw; (try dsimp only at hSw); go_simp; (try with_reducible rfl))
                  (try simp only [Act.put, List.setIfInBounds_toArray, List.set_cons_zero, List.set_cons_succ])
                  refine takeH (i := 13) (d := some 102) (v := ?_) rfl rfl (by kernel_rfl) (by kernel_rfl) (by kernel_rfl) (fun _ _ _ h => h) (Or.inl ⟨by rfl, ?_⟩) (by assumption) ?_
                  rotate_left
                  · (intro w' hSw; (try dsimp only at hSw); go_simp; (try with_reducible rfl))
                  (try simp only [Act.put, List.setIfInBounds_toArray, List.set_cons_zero, List.set_cons_succ])
                  refine takeH (i := 14) (d := some 103) (v := ?_) rfl rfl (by kernel_rfl) (by kernel_rfl) (by kernel_rfl) (fun _ _ _ h => h) (Or.inl ⟨by rfl, ?_⟩) (by assumption) ?_
                  rotate_left
                  · (intro w' hSw; (try dsimp only at hSw); go_simp; (try with_reducible rfl))
                  (try simp only [Act.put, List.setIfInBounds_toArray, List.set_cons_zero, List.set_cons_succ])
                  refine takeH (i := 15) (d := some 104) (v := ?_) rfl rfl (by kernel_rfl) (by kernel_rfl) (by kernel_rfl) (fun _ _ _ h => h) (Or.inl ⟨by rfl, ?_⟩) (by assumption) ?_
                  rotate_left
                  · (intro w' hSw; (try dsimp only at hSw); go_simp; (try with_reducible rfl))
                  (try simp only [Act.put, List.setIfInBounds_toArray, List.set_cons_zero, List.set_cons_succ])
                  refine takeH (i := 16) (d := some 105) (v := undef) rfl rfl (by kernel_rfl) (by kernel_rfl) (by kernel_rfl) (fun _ _ _ h => h) (Or.inr ⟨by rfl, rfl⟩) (by assumption) ?_
                  (try simp only [Act.put, List.setIfInBounds_toArray, List.set_cons_zero, List.set_cons_succ])
                  refine takeH (i := 17) (d := some 106) (v := undef) rfl rfl (by kernel_rfl) (by kernel_rfl) (by kernel_rfl) (fun _ _ _ h => h) (Or.inr ⟨by rfl, rfl⟩) (by assumption) ?_
                  (try simp only [Act.put, List.setIfInBounds_toArray, List.set_cons_zero, List.set_cons_succ])
                  refine takeH (i := 18) (d := some 107) (v := undef) rfl rfl (by kernel_rfl) (by kernel_rfl) (by kernel_rfl) (fun _ _ _ h => h) (Or.inr ⟨by rfl, rfl⟩) (by assumption) ?_
                  (try simp only [Act.put, List.setIfInBounds_toArray, List.set_cons_zero, List.set_cons_succ])
                  refine takeH (i := 19) (d := some 108) (v := undef) rfl rfl (by kernel_rfl) (by kernel_rfl) (by kernel_rfl) (fun _ _ _ h => h) (Or.inr ⟨by rfl, rfl⟩) (by assumption) ?_
                  (try simp only [Act.put, List.setIfInBounds_toArray, List.set_cons_zero, List.set_cons_succ])
                  refine takeH (i := 20) (d := some 109) (v := undef) rfl rfl (by kernel_rfl) (by kernel_rfl) (by kernel_rfl) (fun _ _ _ h => h) (Or.inr ⟨by rfl, rfl⟩) (by assumption) ?_
                  (try simp only [Act.put, List.setIfInBounds_toArray, List.set_cons_zero, List.set_cons_succ])
                  refine takeH (i := 21) (d := some 110) (v := undef) rfl rfl (by kernel_rfl) (by kernel_rfl) (by kernel_rfl) (fun _ _ _ h => h) (Or.inr ⟨by rfl, rfl⟩) (by assumption) ?_
                  (try simp only [Act.put, List.setIfInBounds_toArray, List.set_cons_zero, List.set_cons_succ])
                  refine takeH (i := 22) (d := some 111) (v := undef) rfl rfl (by kernel_rfl) (by kernel_rfl) (by kernel_rfl) (fun _ _ _ h => h) (Or.inr ⟨by rfl, rfl⟩) (by assumption) ?_
                  (try simp only [Act.put, List.setIfInBounds_toArray, List.set_cons_zero, List.set_cons_succ])
                  refine takeH (i := 23) (d := some 112) (v := undef) rfl rfl (by kernel_rfl) (by kernel_rfl) (by kernel_rfl) (fun _ _ _ h => h) (Or.inr ⟨by rfl, rfl⟩) (by assumption) ?_
                  (try simp only [Act.put, List.setIfInBounds_toArray, List.set_cons_zero, List.set_cons_succ])
                  refine takeH (i := 24) (d := some 113) (v := undef) rfl rfl (by kernel_rfl) (by kernel_rfl) (by kernel_rfl) (fun _ _ _ h => h) (Or.inr ⟨by rfl, rfl⟩) (by assumption) ?_
                  (try simp only [Act.put, List.setIfInBounds_toArray, List.set_cons_zero, List.set_cons_succ])
                  refine takeH (i := 25) (d := some 114) (v := undef) rfl rfl (by kernel_rfl) (by kernel_rfl) (by kernel_rfl) (fun _ _ _ h => h) (Or.inr ⟨by rfl, rfl⟩) (by assumption) ?_
                  (try simp only [Act.put, List.setIfInBounds_toArray, List.set_cons_zero, List.set_cons_succ])
                  refine takeH (i := 26) (d := some 115) (v := undef) rfl rfl (by kernel_rfl) (by kernel_rfl) (by kernel_rfl) (fun _ _ _ h => h) (Or.inr ⟨by rfl, rfl⟩) (by assumption) ?_
                  (try simp only [Act.put, List.setIfInBounds_toArray, List.set_cons_zero, List.set_cons_succ])
                  refine takeH (i := 27) (d := some 116) (v := undef) rfl rfl (by kernel_rfl) (by kernel_rfl) (by kernel_rfl) (fun _ _ _ h => h) (Or.inr ⟨by rfl, rfl⟩) (by assumption) ?_
                  (try simp only [Act.put, List.setIfInBounds_toArray, List.set_cons_zero, List.set_cons_succ])
                  refine takeH (i := 28) (d := some 117) (v := undef) rfl rfl (by kernel_rfl) (by kernel_rfl) (by kernel_rfl) (fun _ _ _ h => h) (Or.inr ⟨by rfl, rfl⟩) (by assumption) ?_
                  (try simp only [Act.put, List.setIfInBounds_toArray, List.set_cons_zero, List.set_cons_succ])
                  refine takeH (i := 29) (d := some 118) (v := ?_) rfl rfl (by kernel_rfl) (by kernel_rfl) (by kernel_rfl) (fun _ _ _ h => h) (Or.inl ⟨by rfl, ?_⟩) (by assumption) ?_
                  rotate_left
                  · (intro w' hSw; (try dsimp only at hSw); go_simp; (try with_reducible rfl))
                  (try simp only [Act.put, List.setIfInBounds_toArray, List.set_cons_zero, List.set_cons_succ])
                  refine takeH (i := 30) (d := some 119) (v := ?_) rfl rfl (by kernel_rfl) (by kernel_rfl) (by kernel_rfl) (fun _ _ _ h => h) (Or.inl ⟨by rfl, ?_⟩) (by assumption) ?_
                  rotate_left
                  · (intro w' hSw; (try dsimp only at hSw); go_simp; (try with_reducible rfl))
                  (try simp only [Act.put, List.setIfInBounds_toArray, List.set_cons_zero, List.set_cons_succ])
                  refine wpAnyH_done (by kernel_rfl) ?_ _
                  all_goals
                    go_wp2_with fail
                    go_meet
                    exact ⟨rfl, bel⟩
        case rest =>
          as_aux_lemma =>
            clear f1 f3 ho1 ho3 bel HTX hsm HN HL HB hl3 hf1
            obtain ⟨rfl, bel⟩ := hcut
            go_wp2_with fail
            refine (c_DrawGainOf _ _ _ _ _ (hr0.below bel) hn).mono ?_
            rintro e wq1 ⟨m1, a1, c1, z1, x2, x3, hf1, rfl, ho1, hb⟩
            replace bel := bel.trans (hb.mono bel.size)
            clear hb
            have f1 := FBox.new wq1 26 m1 a1 (z1.length) c1
            replace ho1 := ho1.alloc (.cells #[.int .i64 m1, .slice a1 z1.length c1] 26)
            replace bel := bel.alloc bel.size (.cells #[.int .i64 m1, .slice a1 z1.length c1] 26)
            obtain ⟨K, hK⟩ : ∃ x, x = gainR m1 z1 x2 x3 := ⟨_, rfl⟩
            have HK := Lib.hid hK
            clear hK
            have kf10 := f1.c0
            have kf11 := f1.c1
            go_wp2_with fail
            clear kf10 kf11
            refine (c_impl_GainOf _ _ _ _ _ _ _ _ ho1.row (by have := hf1.2.2; omega)).mono ?_
            rw [← HK.out]
            rintro e wq2 ⟨rfl, hb⟩
            replace f1 := f1.below hb
            replace ho1 := ho1.below hb
            replace bel := bel.trans (hb.mono bel.size)
            clear hb
            go_upto_region 14 with fail
            go_cut [13, 14, 15, 153] from 38 (fun s13 s14 s15 s153 wx => s153 = .bool false ∧ Below w.heap.size w wx)
            case first =>
              as_aux_lemma =>
                cases hP : (isFun m1 z1 && isSet m1 x2 && inB x3 0 (m1 - 1)) with
                | false =>
                  as_aux_lemma =>
                    have hK : -9999 = K := (HK.out.trans (gain_none hP)).symm
                    subst hK
                    clear hP
                    replace f1 := f1.drew
                    replace ho1 := ho1.drew
                    replace bel := bel.drew
                    have kf10 := f1.c0
                    have kf11 := f1.c1
                    go_upto_region 14 with fail
                    refine wp_region_held_drew (S := fun w' => w'.cell? ⟨wq1.heap.size, 0, none⟩ = some (.int .i64 m1) ∧ w'.cell? ⟨wq1.heap.size, 1, none⟩ = some (.slice a1 (z1.length) c1)) (by kernel_rfl) ?_ (fun hHeld => ?_)
                    · exact ⟨kf10, kf11⟩
                    refine takeH (i := 0) (d := some 130) (v := ?_) rfl rfl (by kernel_rfl) (by kernel_rfl) (by kernel_rfl) (fun _ _ _ h => h) (Or.inl ⟨by rfl, ?_⟩) (by assumption) ?_
                    rotate_left
                    · (intro w' hSw; (try dsimp only at hSw); go_simp; (try with_reducible rfl))
                    (try simp only [Act.put, List.setIfInBounds_toArray, List.set_cons_zero, List.set_cons_succ])
                    refine takeH (i := 1) (d := some 131) (v := ?_) rfl rfl (by kernel_rfl) (by kernel_rfl) (by kernel_rfl) (fun _ _ _ h => h) (Or.inl ⟨by rfl, ?_⟩) (by assumption) ?_
                    rotate_left
                    · (intro w' hSw; (try dsimp only at hSw); go_simp; (try with_reducible rfl))
                    (try simp only [Act.put, List.setIfInBounds_toArray, List.set_cons_zero, List.set_cons_succ])
                    refine takeH (i := 2) (d := some 132) (v := ?_) rfl rfl (by kernel_rfl) (by kernel_rfl) (by kernel_rfl) (fun _ _ _ h => h) (Or.inl ⟨by rfl, ?_⟩) (by assumption) ?_
                    rotate_left
                    · (intro w' hSw; (try dsimp only at hSw); go_simp; (try with_reducible rfl))
                    (try simp only [Act.put, List.setIfInBounds_toArray, List.set_cons_zero, List.set_cons_succ])
                    refine takeH (i := 3) (d := some 133) (v := ?_) rfl rfl (by kernel_rfl) (by kernel_rfl) (by kernel_rfl) (fun _ _ _ h => h) (Or.inl ⟨by rfl, ?_⟩) (by assumption) ?_
                    rotate_left
                    · (intro w' hSw; (try dsimp only at hSw); go_simp; (try with_reducible rfl))
                    (try simp only [Act.put, List.setIfInBounds_toArray, List.set_cons_zero, List.set_cons_succ])
                    refine wpAnyH_ready (rs := [4]) (by kernel_rfl) (by simp) ?_
                    refine AllReadyH.cons rfl (fun K hK => ?_) AllReadyH.nil
                    go_simp
                    refine (c_spec_GainOf _ _ _ _ _ _ _ _ ho1.row (by have := hf1.2.2; omega)).mono ?_
                    rw [← HK.out]
                    rintro e w9 ⟨rfl, hb⟩
                    replace f1 := f1.below hb
                    replace ho1 := ho1.below hb
                    replace bel := bel.trans (hb.mono bel.size)
                    clear hb
                    replace kf10 := f1.c0
                    replace kf11 := f1.c1
                    (try go_wp2_with fail)
                    refine hK.out _ _ ?_ (fun hHeld => ?_)
                    · exact ⟨kf10, kf11⟩
                    clear hK K
                    (try simp only [Act.put, List.setIfInBounds_toArray, List.set_cons_zero, List.set_cons_succ])
                    refine takeH (i := 5) (d := some 135) (v := ?_) rfl rfl (by kernel_rfl) (by kernel_rfl) (by kernel_rfl) (fun _ _ _ h => h) (Or.inl ⟨by rfl, ?_⟩) (by assumption) ?_
                    rotate_left
                    · (intro w' hSw; (try dsimp only at hSw); go_simp; (try with_reducible rfl))
                    (try simp only [Act.put, List.setIfInBounds_toArray, List.set_cons_zero, List.set_cons_succ])
                    refine takeH (i := 6) (d := some 136) (v := ?_) rfl rfl (by kernel_rfl) (by kernel_rfl) (by kernel_rfl) (fun _ _ _ h => h) (Or.inl ⟨by rfl, ?_⟩) (by assumption) ?_
                    rotate_left
                    · (intro w' hSw; (try dsimp only at hSw); go_simp; (try with_reducible rfl))
                    (try simp only [Act.put, List.setIfInBounds_toArray, List.set_cons_zero, List.set_cons_succ])
                    refine takeH (i := 7) (d := some 137) (v := ?_) rfl rfl (by kernel_rfl) (by kernel_rfl) (by kernel_rfl) (fun _ _ _ h => h) (Or.inl ⟨by rfl, ?_⟩) (by assumption) ?_
                    rotate_left
                    · (intro w' hSw; (try dsimp only at hSw); go_simp; (try with_reducible rfl))
                    (try simp only [Act.put, List.setIfInBounds_toArray, List.set_cons_zero, List.set_cons_succ])
                    refine takeH (i := 8) (d := some 138) (v := ?_) rfl rfl (by kernel_rfl) (by kernel_rfl) (by kernel_rfl) (fun _ _ _ h => h) (Or.inl ⟨by rfl, ?_⟩) (by assumption) ?_
                    rotate_left
                    · (intro w' hSw; (try dsimp only at hSw); go_simp; (try with_reducible rfl))
                    (try simp only [Act.put, List.setIfInBounds_toArray, List.set_cons_zero, List.set_cons_succ])
                    refine takeH (i := 9) (d := some 139) (v := ?_) rfl rfl (by kernel_rfl) (by kernel_rfl) (by kernel_rfl) (fun _ _ _ h => h) (Or.inl ⟨by rfl, ?_⟩) (by assumption) ?_
                    rotate_left
                    · (intro w' hSw; (try dsimp only at hSw); go_simp; (try with_reducible rfl))
                    (try simp only [Act.put, List.setIfInBounds_toArray, List.set_cons_zero, List.set_cons_succ])
                    refine takeH (i := 10) (d := some 140) (v := undef) rfl rfl (by kernel_rfl) (by kernel_rfl) (by kernel_rfl) (fun _ _ _ h => h) (Or.inr ⟨by rfl, rfl⟩) (by assumption) ?_
                    (try simp only [Act.put, List.setIfInBounds_toArray, List.set_cons_zero, List.set_cons_succ])
                    refine takeH (i := 11) (d := some 141) (v := undef) rfl rfl (by kernel_rfl) (by kernel_rfl) (by kernel_rfl) (fun _ _ _ h => h) (Or.inr ⟨by rfl, rfl⟩) (by assumption) ?_
                    (try simp only [Act.put, List.setIfInBounds_toArray, List.set_cons_zero, List.set_cons_succ])
                    refine takeH (i := 12) (d := some 142) (v := undef) rfl rfl (by kernel_rfl) (by kernel_rfl) (by kernel_rfl) (fun _ _ _ h => h) (Or.inr ⟨by rfl, rfl⟩) (by assumption) ?_
                    (try simp only [Act.put, List.setIfInBounds_toArray, List.set_cons_zero, List.set_cons_succ])
                    refine takeH (i := 13) (d := some 143) (v := undef) rfl rfl (by kernel_rfl) (by kernel_rfl) (by kernel_rfl) (fun _ _ _ h => h) (Or.inr ⟨by rfl, rfl⟩) (by assumption) ?_
                    (try simp only [Act.put, List.setIfInBounds_toArray, List.set_cons_zero, List.set_cons_succ])
                    refine takeH (i := 14) (d := some 144) (v := undef) rfl rfl (by kernel_rfl) (by kernel_rfl) (by kernel_rfl) (fun _ _ _ h => h) (Or.inr ⟨by rfl, rfl⟩) (by assumption) ?_
                    (try simp only [Act.put, List.setIfInBounds_toArray, List.set_cons_zero, List.set_cons_succ])
                    refine takeH (i := 15) (d := some 145) (v := undef) rfl rfl (by kernel_rfl) (by kernel_rfl) (by kernel_rfl) (fun _ _ _ h => h) (Or.inr ⟨by rfl, rfl⟩) (by assumption) ?_
                    (try simp only [Act.put, List.setIfInBounds_toArray, List.set_cons_zero, List.set_cons_succ])
                    refine takeH (i := 16) (d := some 146) (v := undef) rfl rfl (by kernel_rfl) (by kernel_rfl) (by kernel_rfl) (fun _ _ _ h => h) (Or.inr ⟨by rfl, rfl⟩) (by assumption) ?_
                    (try simp only [Act.put, List.setIfInBounds_toArray, List.set_cons_zero, List.set_cons_succ])
                    refine takeH (i := 17) (d := some 147) (v := undef) rfl rfl (by kernel_rfl) (by kernel_rfl) (by kernel_rfl) (fun _ _ _ h => h) (Or.inr ⟨by rfl, rfl⟩) (by assumption) ?_
                    (try simp only [Act.put, List.setIfInBounds_toArray, List.set_cons_zero, List.set_cons_succ])
                    refine takeH (i := 18) (d := some 148) (v := undef) rfl rfl (by kernel_rfl) (by kernel_rfl) (by kernel_rfl) (fun _ _ _ h => h) (Or.inr ⟨by rfl, rfl⟩) (by assumption) ?_
                    (try simp only [Act.put, List.setIfInBounds_toArray, List.set_cons_zero, List.set_cons_succ])
                    refine takeH (i := 19) (d := some 149) (v := undef) rfl rfl (by kernel_rfl) (by kernel_rfl) (by kernel_rfl) (fun _ _ _ h => h) (Or.inr ⟨by rfl, rfl⟩) (by assumption) ?_
                    (try simp only [Act.put, List.setIfInBounds_toArray, List.set_cons_zero, List.set_cons_succ])
                    refine takeH (i := 20) (d := some 150) (v := undef) rfl rfl (by kernel_rfl) (by kernel_rfl) (by kernel_rfl) (fun _ _ _ h => h) (Or.inr ⟨by rfl, rfl⟩) (by assumption) ?_
                    (try simp only [Act.put, List.setIfInBounds_toArray, List.set_cons_zero, List.set_cons_succ])
                    refine takeH (i := 21) (d := some 151) (v := undef) rfl rfl (by kernel_rfl) (by kernel_rfl) (by kernel_rfl) (fun _ _ _ h => h) (Or.inr ⟨by rfl, rfl⟩) (by assumption) ?_
                    (try simp only [Act.put, List.setIfInBounds_toArray, List.set_cons_zero, List.set_cons_succ])
                    refine takeH (i := 22) (d := some 152) (v := ?_) rfl rfl (by kernel_rfl) (by kernel_rfl) (by kernel_rfl) (fun _ _ _ h => h) (Or.inl ⟨by rfl, ?_⟩) (by assumption) ?_
                    rotate_left
                    · (intro w' hSw; (try dsimp only at hSw); go_simp; (try with_reducible rfl))
                    (try simp only [Act.put, List.setIfInBounds_toArray, List.set_cons_zero, List.set_cons_succ])
                    refine takeH (i := 23) (d := some 153) (v := ?_) rfl rfl (by kernel_rfl) (by kernel_rfl) (by kernel_rfl) (fun _ _ _ h => h) (Or.inl ⟨by rfl, ?_⟩) (by assumption) ?_
                    rotate_left
                    · (intro w' hSw; (try dsimp only at hSw); go_simp; (try with_reducible rfl))
                    (try simp only [Act.put, List.setIfInBounds_toArray, List.set_cons_zero, List.set_cons_succ])
                    refine wpAnyH_done (by kernel_rfl) ?_ _
                    all_goals
                      go_wp2_with fail
                      go_meet
                      exact ⟨rfl, bel⟩
                | true =>
                  as_aux_lemma =>
                    obtain ⟨k, j, p, u, v, hx2, hx3, hp, hj, hk, hp32, hg, hor, hv1, hv2, hu, hv⟩ := gain_val hP
                    subst hx2 hx3
                    have hK : u - v = K := (HK.out.trans hg).symm
                    subst hK
                    obtain ⟨q, hq⟩ : ∃ q, q = k ||| p := ⟨_, rfl⟩
                    rw [← hq] at hor hv1
                    have H1 := Lib.hid hv1
                    have H2 := Lib.hid hv2
                    have hwz : IntKind.i64.wrap (u - v) = u - v := IntWalk.i64_in _ (by omega)
                    have hgt : -9999 < u - v := by omega
                    have hj0 : (0 : Int) ≤ (j : Int) := by omega
                    have HSH := Lib.hid (shl_facts j p hp (by omega))
                    have hj60 : j < 60 := by omega
                    have hmin : min j 64 = j := by omega
                    clear hP hg hp hq hv1 hv2 hu hv hj hk hp32
                    obtain ⟨q1, q2, q3⟩ := HSH.out
                    replace f1 := f1.drew
                    replace ho1 := ho1.drew
                    replace bel := bel.drew
                    have kf10 := f1.c0
                    have kf11 := f1.c1
                    go_wp2_with fail
                    go_region_held3 (fun w' => w'.cell? ⟨wq1.heap.size, 0, none⟩ = some (.int .i64 m1) ∧ w'.cell? ⟨wq1.heap.size, 1, none⟩ = some (.slice a1 (z1.length) c1)) (go_keep)
                      (first
                        | (go_at_call 18; refine (c_spec_GainOf _ _ _ _ _ _ _ _ ho1.row (by have := hf1.2.2; omega)).mono ?_; rw [← HK.out]; rintro e w9 ⟨rfl, hb⟩; replace f1 := f1.below hb; replace ho1 := ho1.below hb; replace bel := bel.trans (hb.mono bel.size); clear hb; replace kf10 := f1.c0; replace kf11 := f1.c1)
                        | (go_at_call_of 19 q; refine (c_impl_ValueOf _ _ _ _ _ _ _ ho1.row (by have := hf1.2.2; omega)).mono ?_; rw [H1.out]; rintro e w9 ⟨rfl, hb⟩; replace f1 := f1.below hb; replace ho1 := ho1.below hb; replace bel := bel.trans (hb.mono bel.size); clear hb; replace kf10 := f1.c0; replace kf11 := f1.c1)
                        | (go_at_call_of 19 k; refine (c_impl_ValueOf _ _ _ _ _ _ _ ho1.row (by have := hf1.2.2; omega)).mono ?_; rw [H2.out]; rintro e w9 ⟨rfl, hb⟩; replace f1 := f1.below hb; replace ho1 := ho1.below hb; replace bel := bel.trans (hb.mono bel.size); clear hb; replace kf10 := f1.c0; replace kf11 := f1.c1))
                    all_goals
                      go_wp2_with fail
                      go_meet
                      exact ⟨rfl, bel⟩
            case rest =>
              as_aux_lemma =>
                clear f1 ho1 bel HK hf1
                obtain ⟨rfl, bel⟩ := hcut
                go_wp2_with fail
                refine (c_DrawScaleFunction _ _ _ _ _ (hr0.below bel) hn).mono ?_
                rintro e wp1 ⟨m1, a1, c1, z1, x2, hf1, rfl, ho1, hb⟩
                replace bel := bel.trans (hb.mono bel.size)
                clear hb
                have f1 := FBox.new wp1 26 m1 a1 (z1.length) c1
                replace ho1 := ho1.alloc (.cells #[.int .i64 m1, .slice a1 z1.length c1] 26)
                replace bel := bel.alloc bel.size (.cells #[.int .i64 m1, .slice a1 z1.length c1] 26)
                obtain ⟨N, hN⟩ : ∃ x, x = gN (scaT m1 z1 x2) m1 (tabOf m1 (scaV z1 x2)) := ⟨_, rfl⟩
                have HN := Lib.hid hN
                clear hN
                obtain ⟨L, hL⟩ : ∃ x, x = gL (scaT m1 z1 x2) m1 (tabOf m1 (scaV z1 x2)) := ⟨_, rfl⟩
                have HL := Lib.hid hL
                clear hL
                obtain ⟨B, hB⟩ : ∃ x, x = gB (scaT m1 z1 x2) m1 (tabOf m1 (scaV z1 x2)) := ⟨_, rfl⟩
                have HB := Lib.hid hB
                clear hB
                have kf10 := f1.c0
                have kf11 := f1.c1
                go_wp2_with fail
                clear kf10 kf11
                refine (c_impl_ScaleFunction _ _ _ _ _ _ _ ho1.row (by have := hf1.2.2; omega)).mono ?_
                rw [← HN.out, ← HL.out, ← HB.out]
                rintro e wp2 ⟨a3, c3, rfl, ho3, hl3, hb⟩
                replace f1 := f1.below hb
                replace ho1 := ho1.below hb
                replace bel := bel.trans (hb.mono bel.size)
                clear hb
                have f3 := FBox.new wp2 26 N a3 (L.length) c3
                replace f1 := f1.alloc (.cells #[.int .i64 N, .slice a3 L.length c3] 26)
                replace ho1 := ho1.alloc (.cells #[.int .i64 N, .slice a3 L.length c3] 26)
                replace ho3 := ho3.alloc (.cells #[.int .i64 N, .slice a3 L.length c3] 26)
                replace bel := bel.alloc bel.size (.cells #[.int .i64 N, .slice a3 L.length c3] 26)
                have kf10 := f1.c0
                have kf11 := f1.c1
                go_wp2_with fail
                clear kf10 kf11
                refine (c_spec_ScaleFunction _ _ _ _ _ _ _ ho1.row (by have := hf1.2.2; omega)).mono ?_
                rw [← HN.out, ← HL.out, ← HB.out]
                rintro e wp3 ⟨a4, c4, rfl, ho4, hl4, hb⟩
                replace f1 := f1.below hb
                replace f3 := f3.below hb
                replace ho1 := ho1.below hb
                replace ho3 := ho3.below hb
                replace bel := bel.trans (hb.mono bel.size)
                clear hb
                have f4 := FBox.new wp3 26 N a4 (L.length) c4
                replace f1 := f1.alloc (.cells #[.int .i64 N, .slice a4 L.length c4] 26)
                replace f3 := f3.alloc (.cells #[.int .i64 N, .slice a4 L.length c4] 26)
                replace ho1 := ho1.alloc (.cells #[.int .i64 N, .slice a4 L.length c4] 26)
                replace ho3 := ho3.alloc (.cells #[.int .i64 N, .slice a4 L.length c4] 26)
                replace ho4 := ho4.alloc (.cells #[.int .i64 N, .slice a4 L.length c4] 26)
                replace bel := bel.alloc bel.size (.cells #[.int .i64 N, .slice a4 L.length c4] 26)
                clear f1 ho1
                go_wp2_with fail
                refine (c_DrawLowerFunction _ _ _ _ _ (hr0.below bel) hn).mono ?_
                rintro e wp4 ⟨m5, a5, c5, z5, hf5, rfl, ho5, hb⟩
                replace f3 := f3.below hb
                replace f4 := f4.below hb
                replace ho3 := ho3.below hb
                replace ho4 := ho4.below hb
                replace bel := bel.trans (hb.mono bel.size)
                clear hb
                have f5 := FBox.new wp4 26 m5 a5 (z5.length) c5
                replace f3 := f3.alloc (.cells #[.int .i64 m5, .slice a5 z5.length c5] 26)
                replace f4 := f4.alloc (.cells #[.int .i64 m5, .slice a5 z5.length c5] 26)
                replace ho3 := ho3.alloc (.cells #[.int .i64 m5, .slice a5 z5.length c5] 26)
                replace ho4 := ho4.alloc (.cells #[.int .i64 m5, .slice a5 z5.length c5] 26)
                replace ho5 := ho5.alloc (.cells #[.int .i64 m5, .slice a5 z5.length c5] 26)
                replace bel := bel.alloc bel.size (.cells #[.int .i64 m5, .slice a5 z5.length c5] 26)
                obtain ⟨M_, hM_⟩ : ∃ x, x = gN (lowT m5 z5) m5 (tabOf m5 (lowV z5)) := ⟨_, rfl⟩
                have HM_ := Lib.hid hM_
                clear hM_
                obtain ⟨J, hJ⟩ : ∃ x, x = gL (lowT m5 z5) m5 (tabOf m5 (lowV z5)) := ⟨_, rfl⟩
                have HJ := Lib.hid hJ
                clear hJ
                obtain ⟨C, hC⟩ : ∃ x, x = gB (lowT m5 z5) m5 (tabOf m5 (lowV z5)) := ⟨_, rfl⟩
                have HC := Lib.hid hC
                clear hC
                have kf50 := f5.c0
                have kf51 := f5.c1
                go_wp2_with fail
                clear kf50 kf51
                refine (c_impl_LowerFunction _ _ _ _ _ _ ho5.row (by have := hf5.2.2; omega)).mono ?_
                rw [← HM_.out, ← HJ.out, ← HC.out]
                rintro e wp5 ⟨a6, c6, rfl, ho6, hl6, hb⟩
                replace f3 := f3.below hb
                replace f4 := f4.below hb
                replace f5 := f5.below hb
                replace ho3 := ho3.below hb
                replace ho4 := ho4.below hb
                replace ho5 := ho5.below hb
                replace bel := bel.trans (hb.mono bel.size)
                clear hb
                have f6 := FBox.new wp5 26 M_ a6 (J.length) c6
                replace f3 := f3.alloc (.cells #[.int .i64 M_, .slice a6 J.length c6] 26)
                replace f4 := f4.alloc (.cells #[.int .i64 M_, .slice a6 J.length c6] 26)
                replace f5 := f5.alloc (.cells #[.int .i64 M_, .slice a6 J.length c6] 26)
                replace ho3 := ho3.alloc (.cells #[.int .i64 M_, .slice a6 J.length c6] 26)
                replace ho4 := ho4.alloc (.cells #[.int .i64 M_, .slice a6 J.length c6] 26)
                replace ho5 := ho5.alloc (.cells #[.int .i64 M_, .slice a6 J.length c6] 26)
                replace ho6 := ho6.alloc (.cells #[.int .i64 M_, .slice a6 J.length c6] 26)
                replace bel := bel.alloc bel.size (.cells #[.int .i64 M_, .slice a6 J.length c6] 26)
                have kf50 := f5.c0
                have kf51 := f5.c1
                go_wp2_with fail
                clear kf50 kf51
                refine (c_spec_LowerFunction _ _ _ _ _ _ ho5.row (by have := hf5.2.2; omega)).mono ?_
                rw [← HM_.out, ← HJ.out, ← HC.out]
                rintro e wp6 ⟨a7, c7, rfl, ho7, hl7, hb⟩
                replace f3 := f3.below hb
                replace f4 := f4.below hb
                replace f5 := f5.below hb
                replace f6 := f6.below hb
                replace ho3 := ho3.below hb
                replace ho4 := ho4.below hb
                replace ho5 := ho5.below hb
                replace ho6 := ho6.below hb
                replace bel := bel.trans (hb.mono bel.size)
                clear hb
                have f7 := FBox.new wp6 26 M_ a7 (J.length) c7
                replace f3 := f3.alloc (.cells #[.int .i64 M_, .slice a7 J.length c7] 26)
                replace f4 := f4.alloc (.cells #[.int .i64 M_, .slice a7 J.length c7] 26)
                replace f5 := f5.alloc (.cells #[.int .i64 M_, .slice a7 J.length c7] 26)
                replace f6 := f6.alloc (.cells #[.int .i64 M_, .slice a7 J.length c7] 26)
                replace ho3 := ho3.alloc (.cells #[.int .i64 M_, .slice a7 J.length c7] 26)
                replace ho4 := ho4.alloc (.cells #[.int .i64 M_, .slice a7 J.length c7] 26)
                replace ho5 := ho5.alloc (.cells #[.int .i64 M_, .slice a7 J.length c7] 26)
                replace ho6 := ho6.alloc (.cells #[.int .i64 M_, .slice a7 J.length c7] 26)
                replace ho7 := ho7.alloc (.cells #[.int .i64 M_, .slice a7 J.length c7] 26)
                replace bel := bel.alloc bel.size (.cells #[.int .i64 M_, .slice a7 J.length c7] 26)
                clear f5 ho5
                go_wp2_with fail
                refine (c_DrawParseFunction _ _ _ _ _ (hr0.below bel) hn).mono ?_
                rintro e wp7 ⟨TX, rfl, hsm, hb⟩
                replace f3 := f3.below hb
                replace f4 := f4.below hb
                replace f6 := f6.below hb
                replace f7 := f7.below hb
                replace ho3 := ho3.below hb
                replace ho4 := ho4.below hb
                replace ho6 := ho6.below hb
                replace ho7 := ho7.below hb
                replace bel := bel.trans (hb.mono bel.size)
                clear hb
                obtain ⟨E, hE⟩ : ∃ x, x = pfN TX := ⟨_, rfl⟩
                have HE := Lib.hid hE
                clear hE
                obtain ⟨G, hG⟩ : ∃ x, x = pfL TX := ⟨_, rfl⟩
                have HG := Lib.hid hG
                clear hG
                obtain ⟨D, hD⟩ : ∃ x, x = pfB TX := ⟨_, rfl⟩
                have HD := Lib.hid hD
                clear hD
                go_wp2_with fail
                refine (c_impl_ParseFunction TX _ w.heap.size bel.size (by omega) (HT.out.on bel) (HM.out.on bel)).mono ?_
                rw [← HE.out, ← HG.out, ← HD.out]
                rintro e wp8 ⟨a8, c8, rfl, ho8, hl8, hb⟩
                replace f3 := f3.below hb
                replace f4 := f4.below hb
                replace f6 := f6.below hb
                replace f7 := f7.below hb
                replace ho3 := ho3.below hb
                replace ho4 := ho4.below hb
                replace ho6 := ho6.below hb
                replace ho7 := ho7.below hb
                replace bel := bel.trans (hb.mono bel.size)
                clear hb
                have f8 := FBox.new wp8 26 E a8 (G.length) c8
                replace f3 := f3.alloc (.cells #[.int .i64 E, .slice a8 G.length c8] 26)
                replace f4 := f4.alloc (.cells #[.int .i64 E, .slice a8 G.length c8] 26)
                replace f6 := f6.alloc (.cells #[.int .i64 E, .slice a8 G.length c8] 26)
                replace f7 := f7.alloc (.cells #[.int .i64 E, .slice a8 G.length c8] 26)
                replace ho3 := ho3.alloc (.cells #[.int .i64 E, .slice a8 G.length c8] 26)
                replace ho4 := ho4.alloc (.cells #[.int .i64 E, .slice a8 G.length c8] 26)
                replace ho6 := ho6.alloc (.cells #[.int .i64 E, .slice a8 G.length c8] 26)
                replace ho7 := ho7.alloc (.cells #[.int .i64 E, .slice a8 G.length c8] 26)
                replace ho8 := ho8.alloc (.cells #[.int .i64 E, .slice a8 G.length c8] 26)
                replace bel := bel.alloc bel.size (.cells #[.int .i64 E, .slice a8 G.length c8] 26)
                go_wp2_with fail
                refine (c_spec_ParseFunction TX _ (by omega)).mono ?_
                rw [← HE.out, ← HG.out, ← HD.out]
                rintro e wp9 ⟨a9, c9, rfl, ho9, hl9, hb⟩
                replace f3 := f3.below hb
                replace f4 := f4.below hb
                replace f6 := f6.below hb
                replace f7 := f7.below hb
                replace f8 := f8.below hb
                replace ho3 := ho3.below hb
                replace ho4 := ho4.below hb
                replace ho6 := ho6.below hb
                replace ho7 := ho7.below hb
                replace ho8 := ho8.below hb
                replace bel := bel.trans (hb.mono bel.size)
                clear hb
                have f9 := FBox.new wp9 26 E a9 (G.length) c9
                replace f3 := f3.alloc (.cells #[.int .i64 E, .slice a9 G.length c9] 26)
                replace f4 := f4.alloc (.cells #[.int .i64 E, .slice a9 G.length c9] 26)
                replace f6 := f6.alloc (.cells #[.int .i64 E, .slice a9 G.length c9] 26)
                replace f7 := f7.alloc (.cells #[.int .i64 E, .slice a9 G.length c9] 26)
                replace f8 := f8.alloc (.cells #[.int .i64 E, .slice a9 G.length c9] 26)
                replace ho3 := ho3.alloc (.cells #[.int .i64 E, .slice a9 G.length c9] 26)
                replace ho4 := ho4.alloc (.cells #[.int .i64 E, .slice a9 G.length c9] 26)
                replace ho6 := ho6.alloc (.cells #[.int .i64 E, .slice a9 G.length c9] 26)
                replace ho7 := ho7.alloc (.cells #[.int .i64 E, .slice a9 G.length c9] 26)
                replace ho8 := ho8.alloc (.cells #[.int .i64 E, .slice a9 G.length c9] 26)
                replace ho9 := ho9.alloc (.cells #[.int .i64 E, .slice a9 G.length c9] 26)
                replace bel := bel.alloc bel.size (.cells #[.int .i64 E, .slice a9 G.length c9] 26)
                go_wp2_with fail
                refine (c_DrawEqualFunctions _ _ _ _ _ (hr0.below bel) hn).mono ?_
                rintro e wp10 ⟨m10, a10, c10, z10, m11, a11, c11, z11, hf10, hf11, rfl, ho10, ho11, hb⟩
                replace f3 := f3.below hb
                replace f4 := f4.below hb
                replace f6 := f6.below hb
                replace f7 := f7.below hb
                replace f8 := f8.below hb
                replace f9 := f9.below hb
                replace ho3 := ho3.below hb
                replace ho4 := ho4.below hb
                replace ho6 := ho6.below hb
                replace ho7 := ho7.below hb
                replace ho8 := ho8.below hb
                replace ho9 := ho9.below hb
                replace bel := bel.trans (hb.mono bel.size)
                clear hb
                have f10 := FBox.new wp10 26 m10 a10 (z10.length) c10
                replace f3 := f3.alloc (.cells #[.int .i64 m10, .slice a10 z10.length c10] 26)
                replace f4 := f4.alloc (.cells #[.int .i64 m10, .slice a10 z10.length c10] 26)
                replace f6 := f6.alloc (.cells #[.int .i64 m10, .slice a10 z10.length c10] 26)
                replace f7 := f7.alloc (.cells #[.int .i64 m10, .slice a10 z10.length c10] 26)
                replace f8 := f8.alloc (.cells #[.int .i64 m10, .slice a10 z10.length c10] 26)
                replace f9 := f9.alloc (.cells #[.int .i64 m10, .slice a10 z10.length c10] 26)
                replace ho3 := ho3.alloc (.cells #[.int .i64 m10, .slice a10 z10.length c10] 26)
                replace ho4 := ho4.alloc (.cells #[.int .i64 m10, .slice a10 z10.length c10] 26)
                replace ho6 := ho6.alloc (.cells #[.int .i64 m10, .slice a10 z10.length c10] 26)
                replace ho7 := ho7.alloc (.cells #[.int .i64 m10, .slice a10 z10.length c10] 26)
                replace ho8 := ho8.alloc (.cells #[.int .i64 m10, .slice a10 z10.length c10] 26)
                replace ho9 := ho9.alloc (.cells #[.int .i64 m10, .slice a10 z10.length c10] 26)
                replace ho10 := ho10.alloc (.cells #[.int .i64 m10, .slice a10 z10.length c10] 26)
                replace ho11 := ho11.alloc (.cells #[.int .i64 m10, .slice a10 z10.length c10] 26)
                replace bel := bel.alloc bel.size (.cells #[.int .i64 m10, .slice a10 z10.length c10] 26)
                have f11 := FBox.new (wp10.alloc (.cells #[.int .i64 m10, .slice a10 z10.length c10] 26)) 26 m11 a11 (z11.length) c11
                (try simp only [World.size_alloc] at f11)
                replace f3 := f3.alloc (.cells #[.int .i64 m11, .slice a11 z11.length c11] 26)
                replace f4 := f4.alloc (.cells #[.int .i64 m11, .slice a11 z11.length c11] 26)
                replace f6 := f6.alloc (.cells #[.int .i64 m11, .slice a11 z11.length c11] 26)
                replace f7 := f7.alloc (.cells #[.int .i64 m11, .slice a11 z11.length c11] 26)
                replace f8 := f8.alloc (.cells #[.int .i64 m11, .slice a11 z11.length c11] 26)
                replace f9 := f9.alloc (.cells #[.int .i64 m11, .slice a11 z11.length c11] 26)
                replace f10 := f10.alloc (.cells #[.int .i64 m11, .slice a11 z11.length c11] 26)
                replace ho3 := ho3.alloc (.cells #[.int .i64 m11, .slice a11 z11.length c11] 26)
                replace ho4 := ho4.alloc (.cells #[.int .i64 m11, .slice a11 z11.length c11] 26)
                replace ho6 := ho6.alloc (.cells #[.int .i64 m11, .slice a11 z11.length c11] 26)
                replace ho7 := ho7.alloc (.cells #[.int .i64 m11, .slice a11 z11.length c11] 26)
                replace ho8 := ho8.alloc (.cells #[.int .i64 m11, .slice a11 z11.length c11] 26)
                replace ho9 := ho9.alloc (.cells #[.int .i64 m11, .slice a11 z11.length c11] 26)
                replace ho10 := ho10.alloc (.cells #[.int .i64 m11, .slice a11 z11.length c11] 26)
                replace ho11 := ho11.alloc (.cells #[.int .i64 m11, .slice a11 z11.length c11] 26)
                replace bel := bel.alloc bel.size (.cells #[.int .i64 m11, .slice a11 z11.length c11] 26)
                go_wp2_with fail
                refine (c_DrawElementsOf _ _ _ _ _ (hr0.below bel) hn).mono ?_
                rintro e wp11 ⟨y1, y2, rfl, hb⟩
                replace f3 := f3.below hb
                replace f4 := f4.below hb
                replace f6 := f6.below hb
                replace f7 := f7.below hb
                replace f8 := f8.below hb
                replace f9 := f9.below hb
                replace f10 := f10.below hb
                replace f11 := f11.below hb
                replace ho3 := ho3.below hb
                replace ho4 := ho4.below hb
                replace ho6 := ho6.below hb
                replace ho7 := ho7.below hb
                replace ho8 := ho8.below hb
                replace ho9 := ho9.below hb
                replace ho10 := ho10.below hb
                replace ho11 := ho11.below hb
                replace bel := bel.trans (hb.mono bel.size)
                clear hb
                go_wp2_with fail
                refine (c_DrawValueOf _ _ _ _ _ (hr0.below bel) hn).mono ?_
                rintro e wp12 ⟨m12, a12, c12, z12, y3, hf12, rfl, ho12, hb⟩
                replace f3 := f3.below hb
                replace f4 := f4.below hb
                replace f6 := f6.below hb
                replace f7 := f7.below hb
                replace f8 := f8.below hb
                replace f9 := f9.below hb
                replace f10 := f10.below hb
                replace f11 := f11.below hb
                replace ho3 := ho3.below hb
                replace ho4 := ho4.below hb
                replace ho6 := ho6.below hb
                replace ho7 := ho7.below hb
                replace ho8 := ho8.below hb
                replace ho9 := ho9.below hb
                replace ho10 := ho10.below hb
                replace ho11 := ho11.below hb
                replace bel := bel.trans (hb.mono bel.size)
                clear hb
                have f12 := FBox.new wp12 26 m12 a12 (z12.length) c12
                replace f3 := f3.alloc (.cells #[.int .i64 m12, .slice a12 z12.length c12] 26)
                replace f4 := f4.alloc (.cells #[.int .i64 m12, .slice a12 z12.length c12] 26)
                replace f6 := f6.alloc (.cells #[.int .i64 m12, .slice a12 z12.length c12] 26)
                replace f7 := f7.alloc (.cells #[.int .i64 m12, .slice a12 z12.length c12] 26)
                replace f8 := f8.alloc (.cells #[.int .i64 m12, .slice a12 z12.length c12] 26)
                replace f9 := f9.alloc (.cells #[.int .i64 m12, .slice a12 z12.length c12] 26)
                replace f10 := f10.alloc (.cells #[.int .i64 m12, .slice a12 z12.length c12] 26)
                replace f11 := f11.alloc (.cells #[.int .i64 m12, .slice a12 z12.length c12] 26)
                replace ho3 := ho3.alloc (.cells #[.int .i64 m12, .slice a12 z12.length c12] 26)
                replace ho4 := ho4.alloc (.cells #[.int .i64 m12, .slice a12 z12.length c12] 26)
                replace ho6 := ho6.alloc (.cells #[.int .i64 m12, .slice a12 z12.length c12] 26)
                replace ho7 := ho7.alloc (.cells #[.int .i64 m12, .slice a12 z12.length c12] 26)
                replace ho8 := ho8.alloc (.cells #[.int .i64 m12, .slice a12 z12.length c12] 26)
                replace ho9 := ho9.alloc (.cells #[.int .i64 m12, .slice a12 z12.length c12] 26)
                replace ho10 := ho10.alloc (.cells #[.int .i64 m12, .slice a12 z12.length c12] 26)
                replace ho11 := ho11.alloc (.cells #[.int .i64 m12, .slice a12 z12.length c12] 26)
                replace ho12 := ho12.alloc (.cells #[.int .i64 m12, .slice a12 z12.length c12] 26)
                replace bel := bel.alloc bel.size (.cells #[.int .i64 m12, .slice a12 z12.length c12] 26)
                obtain ⟨SQ, hSQ⟩ : ∃ x, x = sameF m10 z10 m11 z11 := ⟨_, rfl⟩
                have HSQ := Lib.hid hSQ
                clear hSQ
                obtain ⟨VV, hVV⟩ : ∃ x, x = valR m12 z12 y3 := ⟨_, rfl⟩
                have HVV := Lib.hid hVV
                clear hVV
                obtain ⟨EL, hEL⟩ : ∃ x, x = elementsR y1 y2 := ⟨_, rfl⟩
                have HEL := Lib.hid hEL
                clear hEL
                have hel : EL.length ≤ 1048576 := by rw [HEL.out]; have := elementsR_len y1 y2; omega
                cases hCC : C with
                | false =>
                  as_aux_lemma =>
                    replace f3 := f3.drew
                    replace f4 := f4.drew
                    replace f6 := f6.drew
                    replace f7 := f7.drew
                    replace f8 := f8.drew
                    replace f9 := f9.drew
                    replace f10 := f10.drew
                    replace f11 := f11.drew
                    replace f12 := f12.drew
                    replace ho3 := ho3.drew
                    replace ho4 := ho4.drew
                    replace ho6 := ho6.drew
                    replace ho7 := ho7.drew
                    replace ho8 := ho8.drew
                    replace ho9 := ho9.drew
                    replace ho10 := ho10.drew
                    replace ho11 := ho11.drew
                    replace ho12 := ho12.drew
                    replace bel := bel.drew
                    have kf30 := f3.c0
                    have kf40 := f4.c0
                    have kf60 := f6.c0
                    have kf70 := f7.c0
                    have kf80 := f8.c0
                    have kf90 := f9.c0
                    have kf100 := f10.c0
                    have kf110 := f11.c0
                    have kf120 := f12.c0
                    have kf31 := f3.c1
                    have kf41 := f4.c1
                    have kf61 := f6.c1
                    have kf71 := f7.c1
                    have kf81 := f8.c1
                    have kf91 := f9.c1
                    have kf101 := f10.c1
                    have kf111 := f11.c1
                    have kf121 := f12.c1
                    go_upto_region 28 with fail
                    refine wp_region_held_drew (S := fun w' => w'.cell? ⟨wp2.heap.size, 0, none⟩ = some (.int .i64 N) ∧ w'.cell? ⟨wp2.heap.size, 1, none⟩ = some (.slice a3 (L.length) c3) ∧ w'.cell? ⟨wp3.heap.size, 0, none⟩ = some (.int .i64 N) ∧ w'.cell? ⟨wp3.heap.size, 1, none⟩ = some (.slice a4 (L.length) c4) ∧ w'.cell? ⟨wp5.heap.size, 0, none⟩ = some (.int .i64 M_) ∧ w'.cell? ⟨wp5.heap.size, 1, none⟩ = some (.slice a6 (J.length) c6) ∧ w'.cell? ⟨wp6.heap.size, 0, none⟩ = some (.int .i64 M_) ∧ w'.cell? ⟨wp6.heap.size, 1, none⟩ = some (.slice a7 (J.length) c7) ∧ w'.cell? ⟨wp8.heap.size, 0, none⟩ = some (.int .i64 E) ∧ w'.cell? ⟨wp8.heap.size, 1, none⟩ = some (.slice a8 (G.length) c8) ∧ w'.cell? ⟨wp9.heap.size, 0, none⟩ = some (.int .i64 E) ∧ w'.cell? ⟨wp9.heap.size, 1, none⟩ = some (.slice a9 (G.length) c9) ∧ w'.cell? ⟨wp10.heap.size, 0, none⟩ = some (.int .i64 m10) ∧ w'.cell? ⟨wp10.heap.size, 1, none⟩ = some (.slice a10 (z10.length) c10) ∧ w'.cell? ⟨wp10.heap.size + 1, 0, none⟩ = some (.int .i64 m11) ∧ w'.cell? ⟨wp10.heap.size + 1, 1, none⟩ = some (.slice a11 (z11.length) c11) ∧ w'.cell? ⟨wp12.heap.size, 0, none⟩ = some (.int .i64 m12) ∧ w'.cell? ⟨wp12.heap.size, 1, none⟩ = some (.slice a12 (z12.length) c12)) (by kernel_rfl) ?_ (fun hHeld => ?_)
                    · exact ⟨kf30, kf31, kf40, kf41, kf60, kf61, kf70, kf71, kf80, kf81, kf90, kf91, kf100, kf101, kf110, kf111, kf120, kf121⟩
                    refine takeH (i := 0) (d := some 210) (v := ?_) rfl rfl (by kernel_rfl) (by kernel_rfl) (by kernel_rfl) (fun _ _ _ h => h) (Or.inl ⟨by rfl, ?_⟩) (by assumption) ?_
                    rotate_left
                    · (intro w' hSw; (try dsimp only at hSw); go_simp; (try with_reducible rfl))
                    (try simp only [Act.put, List.setIfInBounds_toArray, List.set_cons_zero, List.set_cons_succ])
                    refine takeH (i := 1) (d := some 211) (v := ?_) rfl rfl (by kernel_rfl) (by kernel_rfl) (by kernel_rfl) (fun _ _ _ h => h) (Or.inl ⟨by rfl, ?_⟩) (by assumption) ?_
                    rotate_left
                    · (intro w' hSw; (try dsimp only at hSw); go_simp; (try with_reducible rfl))
                    (try simp only [Act.put, List.setIfInBounds_toArray, List.set_cons_zero, List.set_cons_succ])
                    refine takeH (i := 2) (d := some 212) (v := ?_) rfl rfl (by kernel_rfl) (by kernel_rfl) (by kernel_rfl) (fun _ _ _ h => h) (Or.inl ⟨by rfl, ?_⟩) (by assumption) ?_
                    rotate_left
                    · (intro w' hSw; (try dsimp only at hSw); go_simp; (try with_reducible rfl))
                    (try simp only [Act.put, List.setIfInBounds_toArray, List.set_cons_zero, List.set_cons_succ])
                    refine takeH (i := 3) (d := some 213) (v := ?_) rfl rfl (by kernel_rfl) (by kernel_rfl) (by kernel_rfl) (fun _ _ _ h => h) (Or.inl ⟨by rfl, ?_⟩) (by assumption) ?_
                    rotate_left
                    · (intro w' hSw; (try dsimp only at hSw); go_simp; (try with_reducible rfl))
                    (try simp only [Act.put, List.setIfInBounds_toArray, List.set_cons_zero, List.set_cons_succ])
                    refine takeH (i := 4) (d := some 214) (v := ?_) rfl rfl (by kernel_rfl) (by kernel_rfl) (by kernel_rfl) (fun _ _ _ h => h) (Or.inl ⟨by rfl, ?_⟩) (by assumption) ?_
                    rotate_left
                    · (intro w' hSw; (try dsimp only at hSw); go_simp; (try with_reducible rfl))
                    (try simp only [Act.put, List.setIfInBounds_toArray, List.set_cons_zero, List.set_cons_succ])
                    refine takeH (i := 5) (d := some 215) (v := ?_) rfl rfl (by kernel_rfl) (by kernel_rfl) (by kernel_rfl) (fun _ _ _ h => h) (Or.inl ⟨by rfl, ?_⟩) (by assumption) ?_
                    rotate_left
                    · (intro w' hSw; (try dsimp only at hSw); go_simp; (try with_reducible rfl))
                    (try simp only [Act.put, List.setIfInBounds_toArray, List.set_cons_zero, List.set_cons_succ])
                    refine wpAnyH_ready (rs := [6]) (by kernel_rfl) (by simp) ?_
                    refine AllReadyH.cons rfl (fun K hK => ?_) AllReadyH.nil
                    go_simp
                    refine (c_spec_EqualFunctions _ _ _ _ _ _ _ _ _ _ _ ho3.row hl3 ho4.row hl4).mono ?_
                    rw [sameF_self]
                    rintro e w9 ⟨rfl, hb⟩
                    replace f3 := f3.below hb
                    replace f4 := f4.below hb
                    replace f6 := f6.below hb
                    replace f7 := f7.below hb
                    replace f8 := f8.below hb
                    replace f9 := f9.below hb
                    replace f10 := f10.below hb
                    replace f11 := f11.below hb
                    replace f12 := f12.below hb
                    replace ho3 := ho3.below hb
                    replace ho4 := ho4.below hb
                    replace ho6 := ho6.below hb
                    replace ho7 := ho7.below hb
                    replace ho8 := ho8.below hb
                    replace ho9 := ho9.below hb
                    replace ho10 := ho10.below hb
                    replace ho11 := ho11.below hb
                    replace ho12 := ho12.below hb
                    replace bel := bel.trans (hb.mono bel.size)
                    clear hb
                    replace kf30 := f3.c0
                    replace kf40 := f4.c0
                    replace kf60 := f6.c0
                    replace kf70 := f7.c0
                    replace kf80 := f8.c0
                    replace kf90 := f9.c0
                    replace kf100 := f10.c0
                    replace kf110 := f11.c0
                    replace kf120 := f12.c0
                    replace kf31 := f3.c1
                    replace kf41 := f4.c1
                    replace kf61 := f6.c1
                    replace kf71 := f7.c1
                    replace kf81 := f8.c1
                    replace kf91 := f9.c1
                    replace kf101 := f10.c1
                    replace kf111 := f11.c1
                    replace kf121 := f12.c1
                    (try go_wp2_with fail)
                    refine hK.out _ _ ?_ (fun hHeld => ?_)
                    · exact ⟨kf30, kf31, kf40, kf41, kf60, kf61, kf70, kf71, kf80, kf81, kf90, kf91, kf100, kf101, kf110, kf111, kf120, kf121⟩
                    clear hK K
                    (try simp only [Act.put, List.setIfInBounds_toArray, List.set_cons_zero, List.set_cons_succ])
                    refine takeH (i := 7) (d := some 217) (v := ?_) rfl rfl (by kernel_rfl) (by kernel_rfl) (by kernel_rfl) (fun _ _ _ h => h) (Or.inl ⟨by rfl, ?_⟩) (by assumption) ?_
                    rotate_left
                    · (intro w' hSw; (try dsimp only at hSw); go_simp; (try with_reducible rfl))
                    (try simp only [Act.put, List.setIfInBounds_toArray, List.set_cons_zero, List.set_cons_succ])
                    refine takeH (i := 8) (d := some 218) (v := ?_) rfl rfl (by kernel_rfl) (by kernel_rfl) (by kernel_rfl) (fun _ _ _ h => h) (Or.inl ⟨by rfl, ?_⟩) (by assumption) ?_
                    rotate_left
                    · (intro w' hSw; (try dsimp only at hSw); go_simp; (try with_reducible rfl))
                    (try simp only [Act.put, List.setIfInBounds_toArray, List.set_cons_zero, List.set_cons_succ])
                    refine takeH (i := 9) (d := some 219) (v := ?_) rfl rfl (by kernel_rfl) (by kernel_rfl) (by kernel_rfl) (fun _ _ _ h => h) (Or.inl ⟨by rfl, ?_⟩) (by assumption) ?_
                    rotate_left
                    · (intro w' hSw; (try dsimp only at hSw); go_simp; (try with_reducible rfl))
                    (try simp only [Act.put, List.setIfInBounds_toArray, List.set_cons_zero, List.set_cons_succ])
                    refine takeH (i := 10) (d := some 220) (v := ?_) rfl rfl (by kernel_rfl) (by kernel_rfl) (by kernel_rfl) (fun _ _ _ h => h) (Or.inl ⟨by rfl, ?_⟩) (by assumption) ?_
                    rotate_left
                    · (intro w' hSw; (try dsimp only at hSw); go_simp; (try with_reducible rfl))
                    (try simp only [Act.put, List.setIfInBounds_toArray, List.set_cons_zero, List.set_cons_succ])
                    refine takeH (i := 11) (d := some 221) (v := ?_) rfl rfl (by kernel_rfl) (by kernel_rfl) (by kernel_rfl) (fun _ _ _ h => h) (Or.inl ⟨by rfl, ?_⟩) (by assumption) ?_
                    rotate_left
                    · (intro w' hSw; (try dsimp only at hSw); go_simp; (try with_reducible rfl))
                    (try simp only [Act.put, List.setIfInBounds_toArray, List.set_cons_zero, List.set_cons_succ])
                    refine takeH (i := 12) (d := some 222) (v := ?_) rfl rfl (by kernel_rfl) (by kernel_rfl) (by kernel_rfl) (fun _ _ _ h => h) (Or.inl ⟨by rfl, ?_⟩) (by assumption) ?_
                    rotate_left
                    · (intro w' hSw; (try dsimp only at hSw); go_simp; (try with_reducible rfl))
                    (try simp only [Act.put, List.setIfInBounds_toArray, List.set_cons_zero, List.set_cons_succ])
                    refine takeH (i := 13) (d := some 223) (v := ?_) rfl rfl (by kernel_rfl) (by kernel_rfl) (by kernel_rfl) (fun _ _ _ h => h) (Or.inl ⟨by rfl, ?_⟩) (by assumption) ?_
                    rotate_left
                    · (intro w' hSw; (try dsimp only at hSw); go_simp; (try with_reducible rfl))
                    (try simp only [Act.put, List.setIfInBounds_toArray, List.set_cons_zero, List.set_cons_succ])
                    refine takeH (i := 14) (d := some 224) (v := ?_) rfl rfl (by kernel_rfl) (by kernel_rfl) (by kernel_rfl) (fun _ _ _ h => h) (Or.inl ⟨by rfl, ?_⟩) (by assumption) ?_
                    rotate_left
                    · (intro w' hSw; (try dsimp only at hSw); go_simp; (try with_reducible rfl))
                    (try simp only [Act.put, List.setIfInBounds_toArray, List.set_cons_zero, List.set_cons_succ])
                    refine takeH (i := 15) (d := some 225) (v := ?_) rfl rfl (by kernel_rfl) (by kernel_rfl) (by kernel_rfl) (fun _ _ _ h => h) (Or.inl ⟨by rfl, ?_⟩) (by assumption) ?_
                    rotate_left
                    · (intro w' hSw; (try dsimp only at hSw); go_simp; (try with_reducible rfl))
                    (try simp only [Act.put, List.setIfInBounds_toArray, List.set_cons_zero, List.set_cons_succ])
                    refine wpAnyH_ready (rs := [16]) (by kernel_rfl) (by simp) ?_
                    refine AllReadyH.cons rfl (fun K hK => ?_) AllReadyH.nil
                    go_simp
                    refine (c_spec_EqualFunctions _ _ _ _ _ _ _ _ _ _ _ ho6.row hl6 ho7.row hl7).mono ?_
                    rw [sameF_self]
                    rintro e w9 ⟨rfl, hb⟩
                    replace f3 := f3.below hb
                    replace f4 := f4.below hb
                    replace f6 := f6.below hb
                    replace f7 := f7.below hb
                    replace f8 := f8.below hb
                    replace f9 := f9.below hb
                    replace f10 := f10.below hb
                    replace f11 := f11.below hb
                    replace f12 := f12.below hb
                    replace ho3 := ho3.below hb
                    replace ho4 := ho4.below hb
                    replace ho6 := ho6.below hb
                    replace ho7 := ho7.below hb
                    replace ho8 := ho8.below hb
                    replace ho9 := ho9.below hb
                    replace ho10 := ho10.below hb
                    replace ho11 := ho11.below hb
                    replace ho12 := ho12.below hb
                    replace bel := bel.trans (hb.mono bel.size)
                    clear hb
                    replace kf30 := f3.c0
                    replace kf40 := f4.c0
                    replace kf60 := f6.c0
                    replace kf70 := f7.c0
                    replace kf80 := f8.c0
                    replace kf90 := f9.c0
                    replace kf100 := f10.c0
                    replace kf110 := f11.c0
                    replace kf120 := f12.c0
                    replace kf31 := f3.c1
                    replace kf41 := f4.c1
                    replace kf61 := f6.c1
                    replace kf71 := f7.c1
                    replace kf81 := f8.c1
                    replace kf91 := f9.c1
                    replace kf101 := f10.c1
                    replace kf111 := f11.c1
                    replace kf121 := f12.c1
                    (try go_wp2_with fail)
                    refine hK.out _ _ ?_ (fun hHeld => ?_)
                    · exact ⟨kf30, kf31, kf40, kf41, kf60, kf61, kf70, kf71, kf80, kf81, kf90, kf91, kf100, kf101, kf110, kf111, kf120, kf121⟩
                    clear hK K
                    (try simp only [Act.put, List.setIfInBounds_toArray, List.set_cons_zero, List.set_cons_succ])
                    refine takeH (i := 17) (d := some 227) (v := ?_) rfl rfl (by kernel_rfl) (by kernel_rfl) (by kernel_rfl) (fun _ _ _ h => h) (Or.inl ⟨by rfl, ?_⟩) (by assumption) ?_
                    rotate_left
                    · (intro w' hSw; (try dsimp only at hSw); go_simp; (try with_reducible rfl))
                    (try simp only [Act.put, List.setIfInBounds_toArray, List.set_cons_zero, List.set_cons_succ])
                    refine takeH (i := 18) (d := some 228) (v := ?_) rfl rfl (by kernel_rfl) (by kernel_rfl) (by kernel_rfl) (fun _ _ _ h => h) (Or.inl ⟨by rfl, ?_⟩) (by assumption) ?_
                    rotate_left
                    · (intro w' hSw; (try dsimp only at hSw); go_simp; (try with_reducible rfl))
                    (try simp only [Act.put, List.setIfInBounds_toArray, List.set_cons_zero, List.set_cons_succ])
                    refine takeH (i := 19) (d := some 229) (v := ?_) rfl rfl (by kernel_rfl) (by kernel_rfl) (by kernel_rfl) (fun _ _ _ h => h) (Or.inl ⟨by rfl, ?_⟩) (by assumption) ?_
                    rotate_left
                    · (intro w' hSw; (try dsimp only at hSw); go_simp; (try with_reducible rfl))
                    (try simp only [Act.put, List.setIfInBounds_toArray, List.set_cons_zero, List.set_cons_succ])
                    refine takeH (i := 20) (d := some 230) (v := ?_) rfl rfl (by kernel_rfl) (by kernel_rfl) (by kernel_rfl) (fun _ _ _ h => h) (Or.inl ⟨by rfl, ?_⟩) (by assumption) ?_
                    rotate_left
                    · (intro w' hSw; (try dsimp only at hSw); go_simp; (try with_reducible rfl))
                    (try simp only [Act.put, List.setIfInBounds_toArray, List.set_cons_zero, List.set_cons_succ])
                    refine takeH (i := 21) (d := some 231) (v := ?_) rfl rfl (by kernel_rfl) (by kernel_rfl) (by kernel_rfl) (fun _ _ _ h => h) (Or.inl ⟨by rfl, ?_⟩) (by assumption) ?_
                    rotate_left
                    · (intro w' hSw; (try dsimp only at hSw); go_simp; (try with_reducible rfl))
                    (try simp only [Act.put, List.setIfInBounds_toArray, List.set_cons_zero, List.set_cons_succ])
                    refine takeH (i := 22) (d := some 232) (v := undef) rfl rfl (by kernel_rfl) (by kernel_rfl) (by kernel_rfl) (fun _ _ _ h => h) (Or.inr ⟨by rfl, rfl⟩) (by assumption) ?_
                    (try simp only [Act.put, List.setIfInBounds_toArray, List.set_cons_zero, List.set_cons_succ])
                    refine takeH (i := 23) (d := some 233) (v := undef) rfl rfl (by kernel_rfl) (by kernel_rfl) (by kernel_rfl) (fun _ _ _ h => h) (Or.inr ⟨by rfl, rfl⟩) (by assumption) ?_
                    (try simp only [Act.put, List.setIfInBounds_toArray, List.set_cons_zero, List.set_cons_succ])
                    refine takeH (i := 24) (d := some 234) (v := ?_) rfl rfl (by kernel_rfl) (by kernel_rfl) (by kernel_rfl) (fun _ _ _ h => h) (Or.inl ⟨by rfl, ?_⟩) (by assumption) ?_
                    rotate_left
                    · (intro w' hSw; (try dsimp only at hSw); go_simp; (try with_reducible rfl))
                    (try simp only [Act.put, List.setIfInBounds_toArray, List.set_cons_zero, List.set_cons_succ])
                    refine takeH (i := 25) (d := some 235) (v := ?_) rfl rfl (by kernel_rfl) (by kernel_rfl) (by kernel_rfl) (fun _ _ _ h => h) (Or.inl ⟨by rfl, ?_⟩) (by assumption) ?_
                    rotate_left
                    · (intro w' hSw; (try dsimp only at hSw); go_simp; (try with_reducible rfl))
                    (try simp only [Act.put, List.setIfInBounds_toArray, List.set_cons_zero, List.set_cons_succ])
                    refine takeH (i := 26) (d := some 236) (v := ?_) rfl rfl (by kernel_rfl) (by kernel_rfl) (by kernel_rfl) (fun _ _ _ h => h) (Or.inl ⟨by rfl, ?_⟩) (by assumption) ?_
                    rotate_left
                    · (intro w' hSw; (try dsimp only at hSw); go_simp; (try with_reducible rfl))
                    (try simp only [Act.put, List.setIfInBounds_toArray, List.set_cons_zero, List.set_cons_succ])
                    refine takeH (i := 27) (d := some 237) (v := ?_) rfl rfl (by kernel_rfl) (by kernel_rfl) (by kernel_rfl) (fun _ _ _ h => h) (Or.inl ⟨by rfl, ?_⟩) (by assumption) ?_
                    rotate_left
                    · (intro w' hSw; (try dsimp only at hSw); go_simp; (try with_reducible rfl))
                    (try simp only [Act.put, List.setIfInBounds_toArray, List.set_cons_zero, List.set_cons_succ])
                    refine takeH (i := 28) (d := some 238) (v := ?_) rfl rfl (by kernel_rfl) (by kernel_rfl) (by kernel_rfl) (fun _ _ _ h => h) (Or.inl ⟨by rfl, ?_⟩) (by assumption) ?_
                    rotate_left
                    · (intro w' hSw; (try dsimp only at hSw); go_simp; (try with_reducible rfl))
                    (try simp only [Act.put, List.setIfInBounds_toArray, List.set_cons_zero, List.set_cons_succ])
                    refine takeH (i := 29) (d := some 239) (v := ?_) rfl rfl (by kernel_rfl) (by kernel_rfl) (by kernel_rfl) (fun _ _ _ h => h) (Or.inl ⟨by rfl, ?_⟩) (by assumption) ?_
                    rotate_left
                    · (intro w' hSw; (try dsimp only at hSw); go_simp; (try with_reducible rfl))
                    (try simp only [Act.put, List.setIfInBounds_toArray, List.set_cons_zero, List.set_cons_succ])
                    refine takeH (i := 30) (d := some 240) (v := ?_) rfl rfl (by kernel_rfl) (by kernel_rfl) (by kernel_rfl) (fun _ _ _ h => h) (Or.inl ⟨by rfl, ?_⟩) (by assumption) ?_
                    rotate_left
                    · (intro w' hSw; (try dsimp only at hSw); go_simp; (try with_reducible rfl))
                    (try simp only [Act.put, List.setIfInBounds_toArray, List.set_cons_zero, List.set_cons_succ])
                    refine takeH (i := 31) (d := some 241) (v := ?_) rfl rfl (by kernel_rfl) (by kernel_rfl) (by kernel_rfl) (fun _ _ _ h => h) (Or.inl ⟨by rfl, ?_⟩) (by assumption) ?_
                    rotate_left
                    · (intro w' hSw; (try dsimp only at hSw); go_simp; (try with_reducible rfl))
                    (try simp only [Act.put, List.setIfInBounds_toArray, List.set_cons_zero, List.set_cons_succ])
                    refine takeH (i := 32) (d := some 242) (v := ?_) rfl rfl (by kernel_rfl) (by kernel_rfl) (by kernel_rfl) (fun _ _ _ h => h) (Or.inl ⟨by rfl, ?_⟩) (by assumption) ?_
                    rotate_left
                    · (intro w' hSw; (try dsimp only at hSw); go_simp; (try with_reducible rfl))
                    (try simp only [Act.put, List.setIfInBounds_toArray, List.set_cons_zero, List.set_cons_succ])
                    refine takeH (i := 33) (d := some 243) (v := ?_) rfl rfl (by kernel_rfl) (by kernel_rfl) (by kernel_rfl) (fun _ _ _ h => h) (Or.inl ⟨by rfl, ?_⟩) (by assumption) ?_
                    rotate_left
                    · (intro w' hSw; (try dsimp only at hSw); go_simp; (try with_reducible rfl))
                    (try simp only [Act.put, List.setIfInBounds_toArray, List.set_cons_zero, List.set_cons_succ])
                    refine wpAnyH_ready (rs := [34]) (by kernel_rfl) (by simp) ?_
                    refine AllReadyH.cons rfl (fun K hK => ?_) AllReadyH.nil
                    go_simp
                    refine (c_spec_EqualFunctions _ _ _ _ _ _ _ _ _ _ _ ho8.row hl8 ho9.row hl9).mono ?_
                    rw [sameF_self]
                    rintro e w9 ⟨rfl, hb⟩
                    replace f3 := f3.below hb
                    replace f4 := f4.below hb
                    replace f6 := f6.below hb
                    replace f7 := f7.below hb
                    replace f8 := f8.below hb
                    replace f9 := f9.below hb
                    replace f10 := f10.below hb
                    replace f11 := f11.below hb
                    replace f12 := f12.below hb
                    replace ho3 := ho3.below hb
                    replace ho4 := ho4.below hb
                    replace ho6 := ho6.below hb
                    replace ho7 := ho7.below hb
                    replace ho8 := ho8.below hb
                    replace ho9 := ho9.below hb
                    replace ho10 := ho10.below hb
                    replace ho11 := ho11.below hb
                    replace ho12 := ho12.below hb
                    replace bel := bel.trans (hb.mono bel.size)
                    clear hb
                    replace kf30 := f3.c0
                    replace kf40 := f4.c0
                    replace kf60 := f6.c0
                    replace kf70 := f7.c0
                    replace kf80 := f8.c0
                    replace kf90 := f9.c0
                    replace kf100 := f10.c0
                    replace kf110 := f11.c0
                    replace kf120 := f12.c0
                    replace kf31 := f3.c1
                    replace kf41 := f4.c1
                    replace kf61 := f6.c1
                    replace kf71 := f7.c1
                    replace kf81 := f8.c1
                    replace kf91 := f9.c1
                    replace kf101 := f10.c1
                    replace kf111 := f11.c1
                    replace kf121 := f12.c1
                    (try go_wp2_with fail)
                    refine hK.out _ _ ?_ (fun hHeld => ?_)
                    · exact ⟨kf30, kf31, kf40, kf41, kf60, kf61, kf70, kf71, kf80, kf81, kf90, kf91, kf100, kf101, kf110, kf111, kf120, kf121⟩
                    clear hK K
                    (try simp only [Act.put, List.setIfInBounds_toArray, List.set_cons_zero, List.set_cons_succ])
                    refine takeH (i := 35) (d := some 245) (v := ?_) rfl rfl (by kernel_rfl) (by kernel_rfl) (by kernel_rfl) (fun _ _ _ h => h) (Or.inl ⟨by rfl, ?_⟩) (by assumption) ?_
                    rotate_left
                    · (intro w' hSw; (try dsimp only at hSw); go_simp; (try with_reducible rfl))
                    (try simp only [Act.put, List.setIfInBounds_toArray, List.set_cons_zero, List.set_cons_succ])
                    refine takeH (i := 36) (d := some 246) (v := ?_) rfl rfl (by kernel_rfl) (by kernel_rfl) (by kernel_rfl) (fun _ _ _ h => h) (Or.inl ⟨by rfl, ?_⟩) (by assumption) ?_
                    rotate_left
                    · (intro w' hSw; (try dsimp only at hSw); go_simp; (try with_reducible rfl))
                    (try simp only [Act.put, List.setIfInBounds_toArray, List.set_cons_zero, List.set_cons_succ])
                    refine takeH (i := 37) (d := some 247) (v := ?_) rfl rfl (by kernel_rfl) (by kernel_rfl) (by kernel_rfl) (fun _ _ _ h => h) (Or.inl ⟨by rfl, ?_⟩) (by assumption) ?_
                    rotate_left
                    · (intro w' hSw; (try dsimp only at hSw); go_simp; (try with_reducible rfl))
                    (try simp only [Act.put, List.setIfInBounds_toArray, List.set_cons_zero, List.set_cons_succ])
                    refine takeH (i := 38) (d := some 248) (v := ?_) rfl rfl (by kernel_rfl) (by kernel_rfl) (by kernel_rfl) (fun _ _ _ h => h) (Or.inl ⟨by rfl, ?_⟩) (by assumption) ?_
                    rotate_left
                    · (intro w' hSw; (try dsimp only at hSw); go_simp; (try with_reducible rfl))
                    (try simp only [Act.put, List.setIfInBounds_toArray, List.set_cons_zero, List.set_cons_succ])
                    refine takeH (i := 40) (d := some 250) (v := ?_) rfl rfl (by kernel_rfl) (by kernel_rfl) (by kernel_rfl) (fun _ _ _ h => h) (Or.inl ⟨by rfl, ?_⟩) (by assumption) ?_
                    rotate_left
                    · (intro w' hSw; (try dsimp only at hSw); go_simp; (try with_reducible rfl))
                    (try simp only [Act.put, List.setIfInBounds_toArray, List.set_cons_zero, List.set_cons_succ])
                    refine takeH (i := 41) (d := some 251) (v := ?_) rfl rfl (by kernel_rfl) (by kernel_rfl) (by kernel_rfl) (fun _ _ _ h => h) (Or.inl ⟨by rfl, ?_⟩) (by assumption) ?_
                    rotate_left
                    · (intro w' hSw; (try dsimp only at hSw); go_simp; (try with_reducible rfl))
                    (try simp only [Act.put, List.setIfInBounds_toArray, List.set_cons_zero, List.set_cons_succ])
                    refine wpAnyH_ready (rs := [39]) (by kernel_rfl) (by simp) ?_
                    refine AllReadyH.cons rfl (fun K hK => ?_) AllReadyH.nil
                    go_simp
                    refine (c_impl_EqualFunctions _ _ _ _ _ _ _ _ _ _ _ ho10.row (by have := hf10.2.2; omega) ho11.row (by have := hf11.2.2; omega)).mono ?_
                    rw [← HSQ.out]
                    rintro e w9 ⟨rfl, hb⟩
                    replace f3 := f3.below hb
                    replace f4 := f4.below hb
                    replace f6 := f6.below hb
                    replace f7 := f7.below hb
                    replace f8 := f8.below hb
                    replace f9 := f9.below hb
                    replace f10 := f10.below hb
                    replace f11 := f11.below hb
                    replace f12 := f12.below hb
                    replace ho3 := ho3.below hb
                    replace ho4 := ho4.below hb
                    replace ho6 := ho6.below hb
                    replace ho7 := ho7.below hb
                    replace ho8 := ho8.below hb
                    replace ho9 := ho9.below hb
                    replace ho10 := ho10.below hb
                    replace ho11 := ho11.below hb
                    replace ho12 := ho12.below hb
                    replace bel := bel.trans (hb.mono bel.size)
                    clear hb
                    replace kf30 := f3.c0
                    replace kf40 := f4.c0
                    replace kf60 := f6.c0
                    replace kf70 := f7.c0
                    replace kf80 := f8.c0
                    replace kf90 := f9.c0
                    replace kf100 := f10.c0
                    replace kf110 := f11.c0
                    replace kf120 := f12.c0
                    replace kf31 := f3.c1
                    replace kf41 := f4.c1
                    replace kf61 := f6.c1
                    replace kf71 := f7.c1
                    replace kf81 := f8.c1
                    replace kf91 := f9.c1
                    replace kf101 := f10.c1
                    replace kf111 := f11.c1
                    replace kf121 := f12.c1
                    (try go_wp2_with fail)
                    refine hK.out _ _ ?_ (fun hHeld => ?_)
                    · exact ⟨kf30, kf31, kf40, kf41, kf60, kf61, kf70, kf71, kf80, kf81, kf90, kf91, kf100, kf101, kf110, kf111, kf120, kf121⟩
                    clear hK K
                    (try simp only [Act.put, List.setIfInBounds_toArray, List.set_cons_zero, List.set_cons_succ])
                    refine wpAnyH_ready (rs := [42]) (by kernel_rfl) (by simp) ?_
                    refine AllReadyH.cons rfl (fun K hK => ?_) AllReadyH.nil
                    go_simp
                    refine (c_spec_EqualFunctions _ _ _ _ _ _ _ _ _ _ _ ho10.row (by have := hf10.2.2; omega) ho11.row (by have := hf11.2.2; omega)).mono ?_
                    rw [← HSQ.out]
                    rintro e w9 ⟨rfl, hb⟩
                    replace f3 := f3.below hb
                    replace f4 := f4.below hb
                    replace f6 := f6.below hb
                    replace f7 := f7.below hb
                    replace f8 := f8.below hb
                    replace f9 := f9.below hb
                    replace f10 := f10.below hb
                    replace f11 := f11.below hb
                    replace f12 := f12.below hb
                    replace ho3 := ho3.below hb
                    replace ho4 := ho4.below hb
                    replace ho6 := ho6.below hb
                    replace ho7 := ho7.below hb
                    replace ho8 := ho8.below hb
                    replace ho9 := ho9.below hb
                    replace ho10 := ho10.below hb
                    replace ho11 := ho11.below hb
                    replace ho12 := ho12.below hb
                    replace bel := bel.trans (hb.mono bel.size)
                    clear hb
                    replace kf30 := f3.c0
                    replace kf40 := f4.c0
                    replace kf60 := f6.c0
                    replace kf70 := f7.c0
                    replace kf80 := f8.c0
                    replace kf90 := f9.c0
                    replace kf100 := f10.c0
                    replace kf110 := f11.c0
                    replace kf120 := f12.c0
                    replace kf31 := f3.c1
                    replace kf41 := f4.c1
                    replace kf61 := f6.c1
                    replace kf71 := f7.c1
                    replace kf81 := f8.c1
                    replace kf91 := f9.c1
                    replace kf101 := f10.c1
                    replace kf111 := f11.c1
                    replace kf121 := f12.c1
                    (try go_wp2_with fail)
                    refine hK.out _ _ ?_ (fun hHeld => ?_)
                    · exact ⟨kf30, kf31, kf40, kf41, kf60, kf61, kf70, kf71, kf80, kf81, kf90, kf91, kf100, kf101, kf110, kf111, kf120, kf121⟩
                    clear hK K
                    (try simp only [Act.put, List.setIfInBounds_toArray, List.set_cons_zero, List.set_cons_succ])
                    refine takeH (i := 43) (d := some 253) (v := ?_) rfl rfl (by kernel_rfl) (by kernel_rfl) (by kernel_rfl) (fun _ _ _ h => h) (Or.inl ⟨by rfl, ?_⟩) (by assumption) ?_
                    rotate_left
                    · (intro w' hSw; (try dsimp only at hSw); go_simp; (try with_reducible rfl))
                    (try simp only [Act.put, List.setIfInBounds_toArray, List.set_cons_zero, List.set_cons_succ])
                    refine takeH (i := 44) (d := some 254) (v := ?_) rfl rfl (by kernel_rfl) (by kernel_rfl) (by kernel_rfl) (fun _ _ _ h => h) (Or.inl ⟨by rfl, ?_⟩) (by assumption) ?_
                    rotate_left
                    · (intro w' hSw; (try dsimp only at hSw); go_simp; (try with_reducible rfl))
                    (try simp only [Act.put, List.setIfInBounds_toArray, List.set_cons_zero, List.set_cons_succ])
                    refine takeH (i := 45) (d := some 255) (v := ?_) rfl rfl (by kernel_rfl) (by kernel_rfl) (by kernel_rfl) (fun _ _ _ h => h) (Or.inl ⟨by rfl, ?_⟩) (by assumption) ?_
                    rotate_left
                    · (intro w' hSw; (try dsimp only at hSw); go_simp; (try with_reducible rfl))
                    (try simp only [Act.put, List.setIfInBounds_toArray, List.set_cons_zero, List.set_cons_succ])
                    refine takeH (i := 46) (d := some 256) (v := ?_) rfl rfl (by kernel_rfl) (by kernel_rfl) (by kernel_rfl) (fun _ _ _ h => h) (Or.inl ⟨by rfl, ?_⟩) (by assumption) ?_
                    rotate_left
                    · (intro w' hSw; (try dsimp only at hSw); go_simp; (try with_reducible rfl))
                    (try simp only [Act.put, List.setIfInBounds_toArray, List.set_cons_zero, List.set_cons_succ])
                    refine takeH (i := 47) (d := some 257) (v := ?_) rfl rfl (by kernel_rfl) (by kernel_rfl) (by kernel_rfl) (fun _ _ _ h => h) (Or.inl ⟨by rfl, ?_⟩) (by assumption) ?_
                    rotate_left
                    · (intro w' hSw; (try dsimp only at hSw); go_simp; (try with_reducible rfl))
                    (try simp only [Act.put, List.setIfInBounds_toArray, List.set_cons_zero, List.set_cons_succ])
                    refine takeH (i := 49) (d := some 259) (v := ?_) rfl rfl (by kernel_rfl) (by kernel_rfl) (by kernel_rfl) (fun _ _ _ h => h) (Or.inl ⟨by rfl, ?_⟩) (by assumption) ?_
                    rotate_left
                    · (intro w' hSw; (try dsimp only at hSw); go_simp; (try with_reducible rfl))
                    (try simp only [Act.put, List.setIfInBounds_toArray, List.set_cons_zero, List.set_cons_succ])
                    refine takeH (i := 50) (d := some 260) (v := ?_) rfl rfl (by kernel_rfl) (by kernel_rfl) (by kernel_rfl) (fun _ _ _ h => h) (Or.inl ⟨by rfl, ?_⟩) (by assumption) ?_
                    rotate_left
                    · (intro w' hSw; (try dsimp only at hSw); go_simp; (try with_reducible rfl))
                    (try simp only [Act.put, List.setIfInBounds_toArray, List.set_cons_zero, List.set_cons_succ])
                    refine wpAnyH_ready (rs := [48]) (by kernel_rfl) (by simp) ?_
                    refine AllReadyH.cons rfl (fun K hK => ?_) AllReadyH.nil
                    go_simp
                    refine (c_impl_ElementsOf _ _ _).mono ?_
                    rw [← HEL.out]
                    rintro e w9 ⟨ae, ce, rfl, hoe, hb⟩
                    replace f3 := f3.below hb
                    replace f4 := f4.below hb
                    replace f6 := f6.below hb
                    replace f7 := f7.below hb
                    replace f8 := f8.below hb
                    replace f9 := f9.below hb
                    replace f10 := f10.below hb
                    replace f11 := f11.below hb
                    replace f12 := f12.below hb
                    replace ho3 := ho3.below hb
                    replace ho4 := ho4.below hb
                    replace ho6 := ho6.below hb
                    replace ho7 := ho7.below hb
                    replace ho8 := ho8.below hb
                    replace ho9 := ho9.below hb
                    replace ho10 := ho10.below hb
                    replace ho11 := ho11.below hb
                    replace ho12 := ho12.below hb
                    replace bel := bel.trans (hb.mono bel.size)
                    clear hb
                    replace kf30 := f3.c0
                    replace kf40 := f4.c0
                    replace kf60 := f6.c0
                    replace kf70 := f7.c0
                    replace kf80 := f8.c0
                    replace kf90 := f9.c0
                    replace kf100 := f10.c0
                    replace kf110 := f11.c0
                    replace kf120 := f12.c0
                    replace kf31 := f3.c1
                    replace kf41 := f4.c1
                    replace kf61 := f6.c1
                    replace kf71 := f7.c1
                    replace kf81 := f8.c1
                    replace kf91 := f9.c1
                    replace kf101 := f10.c1
                    replace kf111 := f11.c1
                    replace kf121 := f12.c1
                    (try go_wp2_with fail)
                    refine hK.out _ _ ?_ (fun hHeld => ?_)
                    · exact ⟨kf30, kf31, kf40, kf41, kf60, kf61, kf70, kf71, kf80, kf81, kf90, kf91, kf100, kf101, kf110, kf111, kf120, kf121⟩
                    clear hK K
                    (try simp only [Act.put, List.setIfInBounds_toArray, List.set_cons_zero, List.set_cons_succ])
                    refine wpAnyH_ready (rs := [51]) (by kernel_rfl) (by simp) ?_
                    refine AllReadyH.cons rfl (fun K hK => ?_) AllReadyH.nil
                    go_simp
                    refine (c_spec_ElementsOf _ _ _).mono ?_
                    rw [← HEL.out]
                    rintro e w9 ⟨af, cf, rfl, hof, hb⟩
                    replace hoe := hoe.below hb
                    replace f3 := f3.below hb
                    replace f4 := f4.below hb
                    replace f6 := f6.below hb
                    replace f7 := f7.below hb
                    replace f8 := f8.below hb
                    replace f9 := f9.below hb
                    replace f10 := f10.below hb
                    replace f11 := f11.below hb
                    replace f12 := f12.below hb
                    replace ho3 := ho3.below hb
                    replace ho4 := ho4.below hb
                    replace ho6 := ho6.below hb
                    replace ho7 := ho7.below hb
                    replace ho8 := ho8.below hb
                    replace ho9 := ho9.below hb
                    replace ho10 := ho10.below hb
                    replace ho11 := ho11.below hb
                    replace ho12 := ho12.below hb
                    replace bel := bel.trans (hb.mono bel.size)
                    clear hb
                    replace kf30 := f3.c0
                    replace kf40 := f4.c0
                    replace kf60 := f6.c0
                    replace kf70 := f7.c0
                    replace kf80 := f8.c0
                    replace kf90 := f9.c0
                    replace kf100 := f10.c0
                    replace kf110 := f11.c0
                    replace kf120 := f12.c0
                    replace kf31 := f3.c1
                    replace kf41 := f4.c1
                    replace kf61 := f6.c1
                    replace kf71 := f7.c1
                    replace kf81 := f8.c1
                    replace kf91 := f9.c1
                    replace kf101 := f10.c1
                    replace kf111 := f11.c1
                    replace kf121 := f12.c1
                    (try go_wp2_with fail)
                    refine hK.out _ _ ?_ (fun hHeld => ?_)
                    · exact ⟨kf30, kf31, kf40, kf41, kf60, kf61, kf70, kf71, kf80, kf81, kf90, kf91, kf100, kf101, kf110, kf111, kf120, kf121⟩
                    clear hK K
                    (try simp only [Act.put, List.setIfInBounds_toArray, List.set_cons_zero, List.set_cons_succ])
                    refine wpAnyH_ready (rs := [52]) (by kernel_rfl) (by simp) ?_
                    refine AllReadyH.cons rfl (fun K hK => ?_) AllReadyH.nil
                    go_simp
                    refine (c_sameInts_self _ _ _ _ _ _ _ _ hoe.row hof.row hel hel).mono ?_
                    rintro e w9 ⟨rfl, hb⟩
                    replace f3 := f3.below hb
                    replace f4 := f4.below hb
                    replace f6 := f6.below hb
                    replace f7 := f7.below hb
                    replace f8 := f8.below hb
                    replace f9 := f9.below hb
                    replace f10 := f10.below hb
                    replace f11 := f11.below hb
                    replace f12 := f12.below hb
                    replace ho3 := ho3.below hb
                    replace ho4 := ho4.below hb
                    replace ho6 := ho6.below hb
                    replace ho7 := ho7.below hb
                    replace ho8 := ho8.below hb
                    replace ho9 := ho9.below hb
                    replace ho10 := ho10.below hb
                    replace ho11 := ho11.below hb
                    replace ho12 := ho12.below hb
                    replace bel := bel.trans (hb.mono bel.size)
                    clear hb
                    replace kf30 := f3.c0
                    replace kf40 := f4.c0
                    replace kf60 := f6.c0
                    replace kf70 := f7.c0
                    replace kf80 := f8.c0
                    replace kf90 := f9.c0
                    replace kf100 := f10.c0
                    replace kf110 := f11.c0
                    replace kf120 := f12.c0
                    replace kf31 := f3.c1
                    replace kf41 := f4.c1
                    replace kf61 := f6.c1
                    replace kf71 := f7.c1
                    replace kf81 := f8.c1
                    replace kf91 := f9.c1
                    replace kf101 := f10.c1
                    replace kf111 := f11.c1
                    replace kf121 := f12.c1
                    (try go_wp2_with fail)
                    refine hK.out _ _ ?_ (fun hHeld => ?_)
                    · exact ⟨kf30, kf31, kf40, kf41, kf60, kf61, kf70, kf71, kf80, kf81, kf90, kf91, kf100, kf101, kf110, kf111, kf120, kf121⟩
                    clear hK K
                    (try simp only [Act.put, List.setIfInBounds_toArray, List.set_cons_zero, List.set_cons_succ])
                    refine takeH (i := 53) (d := some 263) (v := ?_) rfl rfl (by kernel_rfl) (by kernel_rfl) (by kernel_rfl) (fun _ _ _ h => h) (Or.inl ⟨by rfl, ?_⟩) (by assumption) ?_
                    rotate_left
                    · (intro w' hSw; (try dsimp only at hSw); go_simp; (try with_reducible rfl))
                    (try simp only [Act.put, List.setIfInBounds_toArray, List.set_cons_zero, List.set_cons_succ])
                    refine takeH (i := 54) (d := some 264) (v := ?_) rfl rfl (by kernel_rfl) (by kernel_rfl) (by kernel_rfl) (fun _ _ _ h => h) (Or.inl ⟨by rfl, ?_⟩) (by assumption) ?_
                    rotate_left
                    · (intro w' hSw; (try dsimp only at hSw); go_simp; (try with_reducible rfl))
                    (try simp only [Act.put, List.setIfInBounds_toArray, List.set_cons_zero, List.set_cons_succ])
                    refine takeH (i := 55) (d := some 265) (v := ?_) rfl rfl (by kernel_rfl) (by kernel_rfl) (by kernel_rfl) (fun _ _ _ h => h) (Or.inl ⟨by rfl, ?_⟩) (by assumption) ?_
                    rotate_left
                    · (intro w' hSw; (try dsimp only at hSw); go_simp; (try with_reducible rfl))
                    (try simp only [Act.put, List.setIfInBounds_toArray, List.set_cons_zero, List.set_cons_succ])
                    refine takeH (i := 56) (d := some 266) (v := ?_) rfl rfl (by kernel_rfl) (by kernel_rfl) (by kernel_rfl) (fun _ _ _ h => h) (Or.inl ⟨by rfl, ?_⟩) (by assumption) ?_
                    rotate_left
                    · (intro w' hSw; (try dsimp only at hSw); go_simp; (try with_reducible rfl))
                    (try simp only [Act.put, List.setIfInBounds_toArray, List.set_cons_zero, List.set_cons_succ])
                    refine takeH (i := 58) (d := some 268) (v := ?_) rfl rfl (by kernel_rfl) (by kernel_rfl) (by kernel_rfl) (fun _ _ _ h => h) (Or.inl ⟨by rfl, ?_⟩) (by assumption) ?_
                    rotate_left
                    · (intro w' hSw; (try dsimp only at hSw); go_simp; (try with_reducible rfl))
                    (try simp only [Act.put, List.setIfInBounds_toArray, List.set_cons_zero, List.set_cons_succ])
                    refine takeH (i := 59) (d := some 269) (v := ?_) rfl rfl (by kernel_rfl) (by kernel_rfl) (by kernel_rfl) (fun _ _ _ h => h) (Or.inl ⟨by rfl, ?_⟩) (by assumption) ?_
                    rotate_left
                    · (intro w' hSw; (try dsimp only at hSw); go_simp; (try with_reducible rfl))
                    (try simp only [Act.put, List.setIfInBounds_toArray, List.set_cons_zero, List.set_cons_succ])
                    refine wpAnyH_ready (rs := [57]) (by kernel_rfl) (by simp) ?_
                    refine AllReadyH.cons rfl (fun K hK => ?_) AllReadyH.nil
                    go_simp
                    refine (c_impl_ValueOf _ _ _ _ _ _ _ ho12.row (by have := hf12.2.2; omega)).mono ?_
                    rw [← HVV.out]
                    rintro e w9 ⟨rfl, hb⟩
                    replace f3 := f3.below hb
                    replace f4 := f4.below hb
                    replace f6 := f6.below hb
                    replace f7 := f7.below hb
                    replace f8 := f8.below hb
                    replace f9 := f9.below hb
                    replace f10 := f10.below hb
                    replace f11 := f11.below hb
                    replace f12 := f12.below hb
                    replace ho3 := ho3.below hb
                    replace ho4 := ho4.below hb
                    replace ho6 := ho6.below hb
                    replace ho7 := ho7.below hb
                    replace ho8 := ho8.below hb
                    replace ho9 := ho9.below hb
                    replace ho10 := ho10.below hb
                    replace ho11 := ho11.below hb
                    replace ho12 := ho12.below hb
                    replace bel := bel.trans (hb.mono bel.size)
                    clear hb
                    replace kf30 := f3.c0
                    replace kf40 := f4.c0
                    replace kf60 := f6.c0
                    replace kf70 := f7.c0
                    replace kf80 := f8.c0
                    replace kf90 := f9.c0
                    replace kf100 := f10.c0
                    replace kf110 := f11.c0
                    replace kf120 := f12.c0
                    replace kf31 := f3.c1
                    replace kf41 := f4.c1
                    replace kf61 := f6.c1
                    replace kf71 := f7.c1
                    replace kf81 := f8.c1
                    replace kf91 := f9.c1
                    replace kf101 := f10.c1
                    replace kf111 := f11.c1
                    replace kf121 := f12.c1
                    (try go_wp2_with fail)
                    refine hK.out _ _ ?_ (fun hHeld => ?_)
                    · exact ⟨kf30, kf31, kf40, kf41, kf60, kf61, kf70, kf71, kf80, kf81, kf90, kf91, kf100, kf101, kf110, kf111, kf120, kf121⟩
                    clear hK K
                    (try simp only [Act.put, List.setIfInBounds_toArray, List.set_cons_zero, List.set_cons_succ])
                    refine wpAnyH_ready (rs := [60]) (by kernel_rfl) (by simp) ?_
                    refine AllReadyH.cons rfl (fun K hK => ?_) AllReadyH.nil
                    go_simp
                    refine (c_spec_ValueOf _ _ _ _ _ _ _ ho12.row (by have := hf12.2.2; omega)).mono ?_
                    rw [← HVV.out]
                    rintro e w9 ⟨rfl, hb⟩
                    replace f3 := f3.below hb
                    replace f4 := f4.below hb
                    replace f6 := f6.below hb
                    replace f7 := f7.below hb
                    replace f8 := f8.below hb
                    replace f9 := f9.below hb
                    replace f10 := f10.below hb
                    replace f11 := f11.below hb
                    replace f12 := f12.below hb
                    replace ho3 := ho3.below hb
                    replace ho4 := ho4.below hb
                    replace ho6 := ho6.below hb
                    replace ho7 := ho7.below hb
                    replace ho8 := ho8.below hb
                    replace ho9 := ho9.below hb
                    replace ho10 := ho10.below hb
                    replace ho11 := ho11.below hb
                    replace ho12 := ho12.below hb
                    replace bel := bel.trans (hb.mono bel.size)
                    clear hb
                    replace kf30 := f3.c0
                    replace kf40 := f4.c0
                    replace kf60 := f6.c0
                    replace kf70 := f7.c0
                    replace kf80 := f8.c0
                    replace kf90 := f9.c0
                    replace kf100 := f10.c0
                    replace kf110 := f11.c0
                    replace kf120 := f12.c0
                    replace kf31 := f3.c1
                    replace kf41 := f4.c1
                    replace kf61 := f6.c1
                    replace kf71 := f7.c1
                    replace kf81 := f8.c1
                    replace kf91 := f9.c1
                    replace kf101 := f10.c1
                    replace kf111 := f11.c1
                    replace kf121 := f12.c1
                    (try go_wp2_with fail)
                    refine hK.out _ _ ?_ (fun hHeld => ?_)
                    · exact ⟨kf30, kf31, kf40, kf41, kf60, kf61, kf70, kf71, kf80, kf81, kf90, kf91, kf100, kf101, kf110, kf111, kf120, kf121⟩
                    clear hK K
                    (try simp only [Act.put, List.setIfInBounds_toArray, List.set_cons_zero, List.set_cons_succ])
                    refine takeH (i := 61) (d := some 271) (v := ?_) rfl rfl (by kernel_rfl) (by kernel_rfl) (by kernel_rfl) (fun _ _ _ h => h) (Or.inl ⟨by rfl, ?_⟩) (by assumption) ?_
                    rotate_left
                    · (intro w' hSw; (try dsimp only at hSw); go_simp; (try with_reducible rfl))
                    (try simp only [Act.put, List.setIfInBounds_toArray, List.set_cons_zero, List.set_cons_succ])
                    refine takeH (i := 62) (d := some 272) (v := ?_) rfl rfl (by kernel_rfl) (by kernel_rfl) (by kernel_rfl) (fun _ _ _ h => h) (Or.inl ⟨by rfl, ?_⟩) (by assumption) ?_
                    rotate_left
                    · (intro w' hSw; (try dsimp only at hSw); go_simp; (try with_reducible rfl))
                    (try simp only [Act.put, List.setIfInBounds_toArray, List.set_cons_zero, List.set_cons_succ])
                    refine takeH (i := 63) (d := some 2) (v := ?_) rfl rfl (by kernel_rfl) (by kernel_rfl) (by kernel_rfl) (fun _ _ _ h => h) (Or.inl ⟨by rfl, ?_⟩) (by assumption) ?_
                    rotate_left
                    · (intro w' hSw; (try dsimp only at hSw); go_simp; (try with_reducible rfl))
                    (try simp only [Act.put, List.setIfInBounds_toArray, List.set_cons_zero, List.set_cons_succ])
                    refine wpAnyH_done (by kernel_rfl) ?_ _
                    all_goals
                      go_wp2
                      go_ret
                      exact ⟨rfl, bel⟩
                | true =>
                  as_aux_lemma =>
                    have hc : gB (lowT m5 z5) m5 (tabOf m5 (lowV z5)) = true := HC.out.symm.trans hCC
                    have hgr : groundB M_ J = true := by rw [HM_.out, HJ.out, (g_true hc).2.2.1, (g_true hc).2.2.2]; exact low_ground hc
                    have HGR := Lib.hid hgr
                    clear hgr hc
                    replace f3 := f3.drew
                    replace f4 := f4.drew
                    replace f6 := f6.drew
                    replace f7 := f7.drew
                    replace f8 := f8.drew
                    replace f9 := f9.drew
                    replace f10 := f10.drew
                    replace f11 := f11.drew
                    replace f12 := f12.drew
                    replace ho3 := ho3.drew
                    replace ho4 := ho4.drew
                    replace ho6 := ho6.drew
                    replace ho7 := ho7.drew
                    replace ho8 := ho8.drew
                    replace ho9 := ho9.drew
                    replace ho10 := ho10.drew
                    replace ho11 := ho11.drew
                    replace ho12 := ho12.drew
                    replace bel := bel.drew
                    have kf30 := f3.c0
                    have kf40 := f4.c0
                    have kf60 := f6.c0
                    have kf70 := f7.c0
                    have kf80 := f8.c0
                    have kf90 := f9.c0
                    have kf100 := f10.c0
                    have kf110 := f11.c0
                    have kf120 := f12.c0
                    have kf31 := f3.c1
                    have kf41 := f4.c1
                    have kf61 := f6.c1
                    have kf71 := f7.c1
                    have kf81 := f8.c1
                    have kf91 := f9.c1
                    have kf101 := f10.c1
                    have kf111 := f11.c1
                    have kf121 := f12.c1
                    go_wp2_with fail
                    go_region_held3 (fun w' => w'.cell? ⟨wp2.heap.size, 0, none⟩ = some (.int .i64 N) ∧ w'.cell? ⟨wp2.heap.size, 1, none⟩ = some (.slice a3 (L.length) c3) ∧ w'.cell? ⟨wp3.heap.size, 0, none⟩ = some (.int .i64 N) ∧ w'.cell? ⟨wp3.heap.size, 1, none⟩ = some (.slice a4 (L.length) c4) ∧ w'.cell? ⟨wp5.heap.size, 0, none⟩ = some (.int .i64 M_) ∧ w'.cell? ⟨wp5.heap.size, 1, none⟩ = some (.slice a6 (J.length) c6) ∧ w'.cell? ⟨wp6.heap.size, 0, none⟩ = some (.int .i64 M_) ∧ w'.cell? ⟨wp6.heap.size, 1, none⟩ = some (.slice a7 (J.length) c7) ∧ w'.cell? ⟨wp8.heap.size, 0, none⟩ = some (.int .i64 E) ∧ w'.cell? ⟨wp8.heap.size, 1, none⟩ = some (.slice a8 (G.length) c8) ∧ w'.cell? ⟨wp9.heap.size, 0, none⟩ = some (.int .i64 E) ∧ w'.cell? ⟨wp9.heap.size, 1, none⟩ = some (.slice a9 (G.length) c9) ∧ w'.cell? ⟨wp10.heap.size, 0, none⟩ = some (.int .i64 m10) ∧ w'.cell? ⟨wp10.heap.size, 1, none⟩ = some (.slice a10 (z10.length) c10) ∧ w'.cell? ⟨wp10.heap.size + 1, 0, none⟩ = some (.int .i64 m11) ∧ w'.cell? ⟨wp10.heap.size + 1, 1, none⟩ = some (.slice a11 (z11.length) c11) ∧ w'.cell? ⟨wp12.heap.size, 0, none⟩ = some (.int .i64 m12) ∧ w'.cell? ⟨wp12.heap.size, 1, none⟩ = some (.slice a12 (z12.length) c12)) (go_keep)
                      (first
                        | (go_at_call_of 8 a3; refine (c_spec_EqualFunctions _ _ _ _ _ _ _ _ _ _ _ ho3.row hl3 ho4.row hl4).mono ?_; rw [sameF_self]; rintro e w9 ⟨rfl, hb⟩; replace f3 := f3.below hb; replace f4 := f4.below hb; replace f6 := f6.below hb; replace f7 := f7.below hb; replace f8 := f8.below hb; replace f9 := f9.below hb; replace f10 := f10.below hb; replace f11 := f11.below hb; replace f12 := f12.below hb; replace ho3 := ho3.below hb; replace ho4 := ho4.below hb; replace ho6 := ho6.below hb; replace ho7 := ho7.below hb; replace ho8 := ho8.below hb; replace ho9 := ho9.below hb; replace ho10 := ho10.below hb; replace ho11 := ho11.below hb; replace ho12 := ho12.below hb; replace bel := bel.trans (hb.mono bel.size); clear hb; replace kf30 := f3.c0; replace kf40 := f4.c0; replace kf60 := f6.c0; replace kf70 := f7.c0; replace kf80 := f8.c0; replace kf90 := f9.c0; replace kf100 := f10.c0; replace kf110 := f11.c0; replace kf120 := f12.c0; replace kf31 := f3.c1; replace kf41 := f4.c1; replace kf61 := f6.c1; replace kf71 := f7.c1; replace kf81 := f8.c1; replace kf91 := f9.c1; replace kf101 := f10.c1; replace kf111 := f11.c1; replace kf121 := f12.c1)
                        | (go_at_call_of 8 a6; refine (c_spec_EqualFunctions _ _ _ _ _ _ _ _ _ _ _ ho6.row hl6 ho7.row hl7).mono ?_; rw [sameF_self]; rintro e w9 ⟨rfl, hb⟩; replace f3 := f3.below hb; replace f4 := f4.below hb; replace f6 := f6.below hb; replace f7 := f7.below hb; replace f8 := f8.below hb; replace f9 := f9.below hb; replace f10 := f10.below hb; replace f11 := f11.below hb; replace f12 := f12.below hb; replace ho3 := ho3.below hb; replace ho4 := ho4.below hb; replace ho6 := ho6.below hb; replace ho7 := ho7.below hb; replace ho8 := ho8.below hb; replace ho9 := ho9.below hb; replace ho10 := ho10.below hb; replace ho11 := ho11.below hb; replace ho12 := ho12.below hb; replace bel := bel.trans (hb.mono bel.size); clear hb; replace kf30 := f3.c0; replace kf40 := f4.c0; replace kf60 := f6.c0; replace kf70 := f7.c0; replace kf80 := f8.c0; replace kf90 := f9.c0; replace kf100 := f10.c0; replace kf110 := f11.c0; replace kf120 := f12.c0; replace kf31 := f3.c1; replace kf41 := f4.c1; replace kf61 := f6.c1; replace kf71 := f7.c1; replace kf81 := f8.c1; replace kf91 := f9.c1; replace kf101 := f10.c1; replace kf111 := f11.c1; replace kf121 := f12.c1)
                        | (go_at_call 31; refine (c_impl_IsGrounded _ _ _ _ _ _ ho7.row hl7).mono ?_; rw [HGR.out]; rintro e w9 ⟨rfl, hb⟩; replace f3 := f3.below hb; replace f4 := f4.below hb; replace f6 := f6.below hb; replace f7 := f7.below hb; replace f8 := f8.below hb; replace f9 := f9.below hb; replace f10 := f10.below hb; replace f11 := f11.below hb; replace f12 := f12.below hb; replace ho3 := ho3.below hb; replace ho4 := ho4.below hb; replace ho6 := ho6.below hb; replace ho7 := ho7.below hb; replace ho8 := ho8.below hb; replace ho9 := ho9.below hb; replace ho10 := ho10.below hb; replace ho11 := ho11.below hb; replace ho12 := ho12.below hb; replace bel := bel.trans (hb.mono bel.size); clear hb; replace kf30 := f3.c0; replace kf40 := f4.c0; replace kf60 := f6.c0; replace kf70 := f7.c0; replace kf80 := f8.c0; replace kf90 := f9.c0; replace kf100 := f10.c0; replace kf110 := f11.c0; replace kf120 := f12.c0; replace kf31 := f3.c1; replace kf41 := f4.c1; replace kf61 := f6.c1; replace kf71 := f7.c1; replace kf81 := f8.c1; replace kf91 := f9.c1; replace kf101 := f10.c1; replace kf111 := f11.c1; replace kf121 := f12.c1)
                        | (go_at_call_of 8 a8; refine (c_spec_EqualFunctions _ _ _ _ _ _ _ _ _ _ _ ho8.row hl8 ho9.row hl9).mono ?_; rw [sameF_self]; rintro e w9 ⟨rfl, hb⟩; replace f3 := f3.below hb; replace f4 := f4.below hb; replace f6 := f6.below hb; replace f7 := f7.below hb; replace f8 := f8.below hb; replace f9 := f9.below hb; replace f10 := f10.below hb; replace f11 := f11.below hb; replace f12 := f12.below hb; replace ho3 := ho3.below hb; replace ho4 := ho4.below hb; replace ho6 := ho6.below hb; replace ho7 := ho7.below hb; replace ho8 := ho8.below hb; replace ho9 := ho9.below hb; replace ho10 := ho10.below hb; replace ho11 := ho11.below hb; replace ho12 := ho12.below hb; replace bel := bel.trans (hb.mono bel.size); clear hb; replace kf30 := f3.c0; replace kf40 := f4.c0; replace kf60 := f6.c0; replace kf70 := f7.c0; replace kf80 := f8.c0; replace kf90 := f9.c0; replace kf100 := f10.c0; replace kf110 := f11.c0; replace kf120 := f12.c0; replace kf31 := f3.c1; replace kf41 := f4.c1; replace kf61 := f6.c1; replace kf71 := f7.c1; replace kf81 := f8.c1; replace kf91 := f9.c1; replace kf101 := f10.c1; replace kf111 := f11.c1; replace kf121 := f12.c1)
                        | (go_at_call_of 32 a10; refine (c_impl_EqualFunctions _ _ _ _ _ _ _ _ _ _ _ ho10.row (by have := hf10.2.2; omega) ho11.row (by have := hf11.2.2; omega)).mono ?_; rw [← HSQ.out]; rintro e w9 ⟨rfl, hb⟩; replace f3 := f3.below hb; replace f4 := f4.below hb; replace f6 := f6.below hb; replace f7 := f7.below hb; replace f8 := f8.below hb; replace f9 := f9.below hb; replace f10 := f10.below hb; replace f11 := f11.below hb; replace f12 := f12.below hb; replace ho3 := ho3.below hb; replace ho4 := ho4.below hb; replace ho6 := ho6.below hb; replace ho7 := ho7.below hb; replace ho8 := ho8.below hb; replace ho9 := ho9.below hb; replace ho10 := ho10.below hb; replace ho11 := ho11.below hb; replace ho12 := ho12.below hb; replace bel := bel.trans (hb.mono bel.size); clear hb; replace kf30 := f3.c0; replace kf40 := f4.c0; replace kf60 := f6.c0; replace kf70 := f7.c0; replace kf80 := f8.c0; replace kf90 := f9.c0; replace kf100 := f10.c0; replace kf110 := f11.c0; replace kf120 := f12.c0; replace kf31 := f3.c1; replace kf41 := f4.c1; replace kf61 := f6.c1; replace kf71 := f7.c1; replace kf81 := f8.c1; replace kf91 := f9.c1; replace kf101 := f10.c1; replace kf111 := f11.c1; replace kf121 := f12.c1)
                        | (go_at_call_of 8 a10; refine (c_spec_EqualFunctions _ _ _ _ _ _ _ _ _ _ _ ho10.row (by have := hf10.2.2; omega) ho11.row (by have := hf11.2.2; omega)).mono ?_; rw [← HSQ.out]; rintro e w9 ⟨rfl, hb⟩; replace f3 := f3.below hb; replace f4 := f4.below hb; replace f6 := f6.below hb; replace f7 := f7.below hb; replace f8 := f8.below hb; replace f9 := f9.below hb; replace f10 := f10.below hb; replace f11 := f11.below hb; replace f12 := f12.below hb; replace ho3 := ho3.below hb; replace ho4 := ho4.below hb; replace ho6 := ho6.below hb; replace ho7 := ho7.below hb; replace ho8 := ho8.below hb; replace ho9 := ho9.below hb; replace ho10 := ho10.below hb; replace ho11 := ho11.below hb; replace ho12 := ho12.below hb; replace bel := bel.trans (hb.mono bel.size); clear hb; replace kf30 := f3.c0; replace kf40 := f4.c0; replace kf60 := f6.c0; replace kf70 := f7.c0; replace kf80 := f8.c0; replace kf90 := f9.c0; replace kf100 := f10.c0; replace kf110 := f11.c0; replace kf120 := f12.c0; replace kf31 := f3.c1; replace kf41 := f4.c1; replace kf61 := f6.c1; replace kf71 := f7.c1; replace kf81 := f8.c1; replace kf91 := f9.c1; replace kf101 := f10.c1; replace kf111 := f11.c1; replace kf121 := f12.c1)
                        | (go_at_call 34; refine (c_impl_ElementsOf _ _ _).mono ?_; rw [← HEL.out]; rintro e w9 ⟨ae, ce, rfl, hoe, hb⟩; replace f3 := f3.below hb; replace f4 := f4.below hb; replace f6 := f6.below hb; replace f7 := f7.below hb; replace f8 := f8.below hb; replace f9 := f9.below hb; replace f10 := f10.below hb; replace f11 := f11.below hb; replace f12 := f12.below hb; replace ho3 := ho3.below hb; replace ho4 := ho4.below hb; replace ho6 := ho6.below hb; replace ho7 := ho7.below hb; replace ho8 := ho8.below hb; replace ho9 := ho9.below hb; replace ho10 := ho10.below hb; replace ho11 := ho11.below hb; replace ho12 := ho12.below hb; replace bel := bel.trans (hb.mono bel.size); clear hb; replace kf30 := f3.c0; replace kf40 := f4.c0; replace kf60 := f6.c0; replace kf70 := f7.c0; replace kf80 := f8.c0; replace kf90 := f9.c0; replace kf100 := f10.c0; replace kf110 := f11.c0; replace kf120 := f12.c0; replace kf31 := f3.c1; replace kf41 := f4.c1; replace kf61 := f6.c1; replace kf71 := f7.c1; replace kf81 := f8.c1; replace kf91 := f9.c1; replace kf101 := f10.c1; replace kf111 := f11.c1; replace kf121 := f12.c1)
                        | (go_at_call 35; refine (c_spec_ElementsOf _ _ _).mono ?_; rw [← HEL.out]; rintro e w9 ⟨af, cf, rfl, hof, hb⟩; replace hoe := hoe.below hb; replace f3 := f3.below hb; replace f4 := f4.below hb; replace f6 := f6.below hb; replace f7 := f7.below hb; replace f8 := f8.below hb; replace f9 := f9.below hb; replace f10 := f10.below hb; replace f11 := f11.below hb; replace f12 := f12.below hb; replace ho3 := ho3.below hb; replace ho4 := ho4.below hb; replace ho6 := ho6.below hb; replace ho7 := ho7.below hb; replace ho8 := ho8.below hb; replace ho9 := ho9.below hb; replace ho10 := ho10.below hb; replace ho11 := ho11.below hb; replace ho12 := ho12.below hb; replace bel := bel.trans (hb.mono bel.size); clear hb; replace kf30 := f3.c0; replace kf40 := f4.c0; replace kf60 := f6.c0; replace kf70 := f7.c0; replace kf80 := f8.c0; replace kf90 := f9.c0; replace kf100 := f10.c0; replace kf110 := f11.c0; replace kf120 := f12.c0; replace kf31 := f3.c1; replace kf41 := f4.c1; replace kf61 := f6.c1; replace kf71 := f7.c1; replace kf81 := f8.c1; replace kf91 := f9.c1; replace kf101 := f10.c1; replace kf111 := f11.c1; replace kf121 := f12.c1)
                        | (go_at_call 33; refine (c_sameInts_self _ _ _ _ _ _ _ _ hoe.row hof.row hel hel).mono ?_; rintro e w9 ⟨rfl, hb⟩; replace f3 := f3.below hb; replace f4 := f4.below hb; replace f6 := f6.below hb; replace f7 := f7.below hb; replace f8 := f8.below hb; replace f9 := f9.below hb; replace f10 := f10.below hb; replace f11 := f11.below hb; replace f12 := f12.below hb; replace ho3 := ho3.below hb; replace ho4 := ho4.below hb; replace ho6 := ho6.below hb; replace ho7 := ho7.below hb; replace ho8 := ho8.below hb; replace ho9 := ho9.below hb; replace ho10 := ho10.below hb; replace ho11 := ho11.below hb; replace ho12 := ho12.below hb; replace bel := bel.trans (hb.mono bel.size); clear hb; replace kf30 := f3.c0; replace kf40 := f4.c0; replace kf60 := f6.c0; replace kf70 := f7.c0; replace kf80 := f8.c0; replace kf90 := f9.c0; replace kf100 := f10.c0; replace kf110 := f11.c0; replace kf120 := f12.c0; replace kf31 := f3.c1; replace kf41 := f4.c1; replace kf61 := f6.c1; replace kf71 := f7.c1; replace kf81 := f8.c1; replace kf91 := f9.c1; replace kf101 := f10.c1; replace kf111 := f11.c1; replace kf121 := f12.c1)
                        | (go_at_call 19; refine (c_impl_ValueOf _ _ _ _ _ _ _ ho12.row (by have := hf12.2.2; omega)).mono ?_; rw [← HVV.out]; rintro e w9 ⟨rfl, hb⟩; replace f3 := f3.below hb; replace f4 := f4.below hb; replace f6 := f6.below hb; replace f7 := f7.below hb; replace f8 := f8.below hb; replace f9 := f9.below hb; replace f10 := f10.below hb; replace f11 := f11.below hb; replace f12 := f12.below hb; replace ho3 := ho3.below hb; replace ho4 := ho4.below hb; replace ho6 := ho6.below hb; replace ho7 := ho7.below hb; replace ho8 := ho8.below hb; replace ho9 := ho9.below hb; replace ho10 := ho10.below hb; replace ho11 := ho11.below hb; replace ho12 := ho12.below hb; replace bel := bel.trans (hb.mono bel.size); clear hb; replace kf30 := f3.c0; replace kf40 := f4.c0; replace kf60 := f6.c0; replace kf70 := f7.c0; replace kf80 := f8.c0; replace kf90 := f9.c0; replace kf100 := f10.c0; replace kf110 := f11.c0; replace kf120 := f12.c0; replace kf31 := f3.c1; replace kf41 := f4.c1; replace kf61 := f6.c1; replace kf71 := f7.c1; replace kf81 := f8.c1; replace kf91 := f9.c1; replace kf101 := f10.c1; replace kf111 := f11.c1; replace kf121 := f12.c1)
                        | (go_at_call 36; refine (c_spec_ValueOf _ _ _ _ _ _ _ ho12.row (by have := hf12.2.2; omega)).mono ?_; rw [← HVV.out]; rintro e w9 ⟨rfl, hb⟩; replace f3 := f3.below hb; replace f4 := f4.below hb; replace f6 := f6.below hb; replace f7 := f7.below hb; replace f8 := f8.below hb; replace f9 := f9.below hb; replace f10 := f10.below hb; replace f11 := f11.below hb; replace f12 := f12.below hb; replace ho3 := ho3.below hb; replace ho4 := ho4.below hb; replace ho6 := ho6.below hb; replace ho7 := ho7.below hb; replace ho8 := ho8.below hb; replace ho9 := ho9.below hb; replace ho10 := ho10.below hb; replace ho11 := ho11.below hb; replace ho12 := ho12.below hb; replace bel := bel.trans (hb.mono bel.size); clear hb; replace kf30 := f3.c0; replace kf40 := f4.c0; replace kf60 := f6.c0; replace kf70 := f7.c0; replace kf80 := f8.c0; replace kf90 := f9.c0; replace kf100 := f10.c0; replace kf110 := f11.c0; replace kf120 := f12.c0; replace kf31 := f3.c1; replace kf41 := f4.c1; replace kf61 := f6.c1; replace kf71 := f7.c1; replace kf81 := f8.c1; replace kf91 := f9.c1; replace kf101 := f10.c1; replace kf111 := f11.c1; replace kf121 := f12.c1))
                    all_goals
                      go_wp2
                      go_ret
                      exact ⟨rfl, bel⟩
  · have hbig : decide (1048576 < (n0 : Int)) = true := by simp; omega
    go_enter Tryz.func3, Tryz.ntmps3
    go_wp2_with fail
    refine (c_big _ _ _ _ hm0).mono ?_
    rw [hbig]
    rintro e w' ⟨rfl, rfl⟩
    go_wp2
    go_ret
    exact ⟨rfl, Below.refl _ _⟩
end Go.Proofs.YtfcgijnfiiaepaaGreatDoor
