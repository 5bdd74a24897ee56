/- The walk of FnConvolutions: it returns true. -/
import Derived.Test.YtfcgijnfiiaepaaLawV
import Derived.Test.YtfcgijnfiiaepaaCurLit
import Derived.Test.YtfcgijnfiiaepaaSplit2
import Derived.Deep.DeepCutAuto
namespace Go.Proofs.Ytfcgijnfiiaepaa
set_option linter.unusedSimpArgs false
set_option linter.unusedVariables false
open Go.RowKit

theorem takeH {P : Program} {ops : Array Oper} {Q : Exit → Act → World → Prop} {md : Region.Mode} {S : World → Prop} {i : Nat} {oi : Oper} {d : Option Nat} {v : Value} {fuel : Nat} {listed : Array Bool} {a : Act} {w : World} (hi : ops[i]? = some oi) (hd : oi.dst = d)
    (hs : Region.noSelect ops = true) (hf : Region.free md ops listed i = true) (hr : (Region.ready md ops listed).contains i = true)
    (hQ : ∀ c a w, Q (.panic c) (a.put d v) w → Q (.panic c) a w) (hy : YieldsIf P ops S oi v a) (hS : S w)
    (h : wpAnyH P md ops Q S fuel (listed.setIfInBounds i true) (a.put d v) w) : wpAnyH P md ops Q S (fuel + 1) listed a w := by
  subst hd
  exact wpAnyH_take hi hs hf hr hQ hy hS h
theorem undef_yield : Go.yielded.match_1 (fun _ => Option Bool) (some undef) (fun b => some b) (fun _ => none) = none := rfl
theorem sameF_self (n : Int) (xs : List Int) : sameF n xs n xs = true := by simp [sameF, eqL]
theorem conv_swap {m1 m2 : Int} {z1 z2 : List Int} (h : gB (alikeB m1 z1 m2 z2) m1 (tabOf m1 (convV z1 z2)) = true) :
    gN (alikeB m2 z2 m1 z1) m2 (tabOf m2 (convV z2 z1)) = gN (alikeB m1 z1 m2 z2) m1 (tabOf m1 (convV z1 z2)) ∧ gL (alikeB m2 z2 m1 z1) m2 (tabOf m2 (convV z2 z1)) = gL (alikeB m1 z1 m2 z2) m1 (tabOf m1 (convV z1 z2)) ∧ gB (alikeB m2 z2 m1 z1) m2 (tabOf m2 (convV z2 z1)) = gB (alikeB m1 z1 m2 z2) m1 (tabOf m1 (convV z1 z2)) := by
  obtain ⟨ha, hi, _, _⟩ := g_true h
  obtain ⟨h1, h2, rfl⟩ := alike_true ha
  have h5 := (isFun_true h1).1
  rw [alike_comm (n := m1) (xs := z2), conv_tab_comm (xs := z2) (ys := z1) h5.1 h5.2]
  exact ⟨rfl, rfl, rfl⟩
/-- What a round of the law's loop sees. -/
theorem conv_round {m1 m2 : Int} {z1 z2 : List Int} (h : gB (alikeB m1 z1 m2 z2) m1 (tabOf m1 (convV z1 z2)) = true) {s : Nat} (hs : s < z1.length) :
    ∃ (x : Nat) (p q r t : Int), splitR m1 z1 m2 z2 (s : Int) = (x : Int) ∧ splitB m1 z1 m2 z2 (s : Int) = true ∧ bits .and .i64 (x : Int) (s : Int) = (x : Int) ∧ x ≤ s ∧ s < 32 ∧
      valR (gN (alikeB m1 z1 m2 z2) m1 (tabOf m1 (convV z1 z2))) (gL (alikeB m1 z1 m2 z2) m1 (tabOf m1 (convV z1 z2))) (s : Int) = p + q ∧ valR m1 z1 (x : Int) = p ∧ valR m2 z2 ((s : Int) - (x : Int)) = q ∧ valR m1 z1 (s : Int) = r ∧ valR m2 z2 0 = t ∧ p + q ≤ r + t ∧ (-1000 ≤ p ∧ p ≤ 1000) ∧ (-1000 ≤ q ∧ q ≤ 1000) ∧ (-1000 ≤ r ∧ r ≤ 1000) ∧ (-1000 ≤ t ∧ t ≤ 1000) := by
  obtain ⟨ha, hi, e1, e2⟩ := g_true h
  obtain ⟨h1, h2, rfl⟩ := alike_true ha
  rw [e1, e2]
  obtain ⟨j, rfl, hj, hl⟩ := fun_nat h1
  have hl2 : z2.length = 2 ^ j := (isFun_true h2).2.1
  have h32 := isFun_le h1
  have hset : ∀ k : Nat, k < 2 ^ j → isSet (j : Int) (k : Int) = true := fun k hk => isSet_true.2 ⟨by omega, by
    have e : ((2 ^ ((j : Int)).toNat : Nat) : Int) = (2 : Int) ^ ((j : Int)).toNat := by push_cast; rfl
    have e2 : 2 ^ ((j : Int)).toNat = 2 ^ j := by simp
    omega⟩
  have hv : ∀ (z : List Int) (k : Nat), isFun (j : Int) z = true → k < 2 ^ j → valR (j : Int) z (k : Int) = z.getD k 0 := fun z k hf hk => by rw [valR, hf, hset k hk]; rfl
  have hsp := splitTo_part z1 z2 s s
  have hle := part_le hsp
  have hb := (isFun_true h1).2.2
  have hb2 := (isFun_true h2).2.2
  refine ⟨splitTo z1 z2 s s, z1.getD (splitTo z1 z2 s s) 0, z2.getD (s - splitTo z1 z2 s s) 0, z1.getD s 0, z2.getD 0 0, ?_, ?_, ?_, hle, by omega, ?_, hv _ _ h1 (by omega), ?_, hv _ _ h1 (by omega), ?_, ?_, hb _ (by omega), hb2 _ (by omega), hb _ (by omega), hb2 _ (by omega)⟩
  · rw [splitR, splitB, ha, hset s (by omega)]; rfl
  · rw [splitB, ha, hset s (by omega)]; rfl
  · rw [i64_and_nat _ _ (by omega) (by omega), hsp]
  · rw [hv _ _ hi (by omega), tab_getD _ (by omega)]; rfl
  · rw [show (s : Int) - (splitTo z1 z2 s s : Int) = ((s - splitTo z1 z2 s s : Nat) : Int) by omega]; exact hv _ _ h2 (by omega)
  · exact hv _ 0 h2 (by omega)
  · have := conv_le (xs := z1) (ys := z2) (s := s) (X := s) (Nat.and_self s)
    unfold convV spV at this
    rw [Nat.sub_self] at this
    exact this
theorem trunc_fun {n k : Int} {xs : List Int} (h : truncB n xs k = true) : truncN n xs k = n ∧ truncL n xs k = tabOf n (truncV xs k) := by simp [truncN, truncL, h]
set_option maxHeartbeats 200000000 in
set_option maxRecDepth 100000 in
theorem walk_FnConvolutions (a0 : Option Addr) (n0 c0 : Nat) (z0 : List Int) (w : World) (w0 : InRow .u8 w a0 n0 c0 z0) :
    Calls Try.prog 4 #[.slice a0 n0 c0] w fun e w' => e = .returned (.bool true) ∧ Below w.heap.size w w' := by
  obtain ⟨hr0, hnc0, hcm0, _⟩ := w0
  have hm0 : n0 ≤ maxLen := Nat.le_trans hnc0 hcm0
  have bel := Below.refl w.heap.size w
  by_cases hn : n0 ≤ 1048576
  · have hbig : decide (1048576 < (n0 : Int)) = false := by simp; omega
    go_enter Try.func4, Try.ntmps4
    go_wp2_with fail
    refine (c_big _ _ _ _ hm0).mono ?_
    rw [hbig]
    rintro e w' ⟨rfl, rfl⟩
    clear hbig
    go_wp2_with fail
    refine (c_DrawConvolveFunctions _ _ _ _ _ (hr0.below bel) hn).mono ?_
    rintro e wa1 ⟨m1, a1, c1, z1, m2, a2, c2, z2, hf1, hf2, rfl, ho1, ho2, hb⟩
    replace bel := bel.trans (hb.mono bel.size)
    clear hb
    skip
    have f1 := FBox.new wa1 26 m1 a1 (z1.length) c1
    replace ho1 := ho1.alloc (.cells #[.int .i64 m1, .slice a1 z1.length c1] 26)
    replace ho2 := ho2.alloc (.cells #[.int .i64 m1, .slice a1 z1.length c1] 26)
    replace bel := bel.alloc bel.size (.cells #[.int .i64 m1, .slice a1 z1.length c1] 26)
    have f2 := FBox.new (wa1.alloc (.cells #[.int .i64 m1, .slice a1 z1.length c1] 26)) 26 m2 a2 (z2.length) c2
    (try simp only [World.size_alloc] at f2)
    replace f1 := f1.alloc (.cells #[.int .i64 m2, .slice a2 z2.length c2] 26)
    replace ho1 := ho1.alloc (.cells #[.int .i64 m2, .slice a2 z2.length c2] 26)
    replace ho2 := ho2.alloc (.cells #[.int .i64 m2, .slice a2 z2.length c2] 26)
    replace bel := bel.alloc bel.size (.cells #[.int .i64 m2, .slice a2 z2.length c2] 26)
    obtain ⟨N, hN⟩ : ∃ x, x = gN (alikeB m1 z1 m2 z2) m1 (tabOf m1 (convV z1 z2)) := ⟨_, rfl⟩
    have HN := Lib.hid hN
    clear hN
    obtain ⟨L, hL⟩ : ∃ x, x = gL (alikeB m1 z1 m2 z2) m1 (tabOf m1 (convV z1 z2)) := ⟨_, rfl⟩
    have HL := Lib.hid hL
    clear hL
    obtain ⟨B, hB⟩ : ∃ x, x = gB (alikeB m1 z1 m2 z2) m1 (tabOf m1 (convV z1 z2)) := ⟨_, rfl⟩
    have HB := Lib.hid hB
    clear hB
    have kf10 := f1.c0
    have kf11 := f1.c1
    have kf20 := f2.c0
    have kf21 := f2.c1
    go_wp2_with fail
    clear kf10 kf11 kf20 kf21
    refine (c_impl_ConvolveFunctions _ _ _ _ _ _ _ _ _ _ _ ho1.row (by have := hf1.2.2; omega) ho2.row (by have := hf2.2.2; omega)).mono ?_
    rw [← HN.out, ← HL.out, ← HB.out]
    rintro e wa2 ⟨a3, c3, rfl, ho3, hl3, hb⟩
    replace f1 := f1.below hb
    replace f2 := f2.below hb
    replace ho1 := ho1.below hb
    replace ho2 := ho2.below hb
    replace bel := bel.trans (hb.mono bel.size)
    clear hb
    have f3 := FBox.new wa2 26 N a3 (L.length) c3
    replace f1 := f1.alloc (.cells #[.int .i64 N, .slice a3 L.length c3] 26)
    replace f2 := f2.alloc (.cells #[.int .i64 N, .slice a3 L.length c3] 26)
    replace ho1 := ho1.alloc (.cells #[.int .i64 N, .slice a3 L.length c3] 26)
    replace ho2 := ho2.alloc (.cells #[.int .i64 N, .slice a3 L.length c3] 26)
    replace ho3 := ho3.alloc (.cells #[.int .i64 N, .slice a3 L.length c3] 26)
    replace bel := bel.alloc bel.size (.cells #[.int .i64 N, .slice a3 L.length c3] 26)
    have kf10 := f1.c0
    have kf11 := f1.c1
    have kf20 := f2.c0
    have kf21 := f2.c1
    go_wp2_with fail
    clear kf10 kf11 kf20 kf21
    refine (c_spec_ConvolveFunctions _ _ _ _ _ _ _ _ _ _ _ ho1.row (by have := hf1.2.2; omega) ho2.row (by have := hf2.2.2; omega)).mono ?_
    rw [← HN.out, ← HL.out, ← HB.out]
    rintro e wa3 ⟨a4, c4, rfl, ho4, hl4, hb⟩
    replace f1 := f1.below hb
    replace f2 := f2.below hb
    replace f3 := f3.below hb
    replace ho1 := ho1.below hb
    replace ho2 := ho2.below hb
    replace ho3 := ho3.below hb
    replace bel := bel.trans (hb.mono bel.size)
    clear hb
    have f4 := FBox.new wa3 26 N a4 (L.length) c4
    replace f1 := f1.alloc (.cells #[.int .i64 N, .slice a4 L.length c4] 26)
    replace f2 := f2.alloc (.cells #[.int .i64 N, .slice a4 L.length c4] 26)
    replace f3 := f3.alloc (.cells #[.int .i64 N, .slice a4 L.length c4] 26)
    replace ho1 := ho1.alloc (.cells #[.int .i64 N, .slice a4 L.length c4] 26)
    replace ho2 := ho2.alloc (.cells #[.int .i64 N, .slice a4 L.length c4] 26)
    replace ho3 := ho3.alloc (.cells #[.int .i64 N, .slice a4 L.length c4] 26)
    replace ho4 := ho4.alloc (.cells #[.int .i64 N, .slice a4 L.length c4] 26)
    replace bel := bel.alloc bel.size (.cells #[.int .i64 N, .slice a4 L.length c4] 26)
    have kf30 := f3.c0
    have kf31 := f3.c1
    have kf40 := f4.c0
    have kf41 := f4.c1
    go_wp2_with fail
    clear kf30 kf31 kf40 kf41
    refine (c_spec_EqualFunctions _ _ _ _ _ _ _ _ _ _ _ ho3.row hl3 ho4.row hl4).mono ?_
    rw [sameF_self]
    rintro e wa4 ⟨rfl, hb⟩
    replace f1 := f1.below hb
    replace f2 := f2.below hb
    replace f3 := f3.below hb
    replace f4 := f4.below hb
    replace ho1 := ho1.below hb
    replace ho2 := ho2.below hb
    replace ho3 := ho3.below hb
    replace ho4 := ho4.below hb
    replace bel := bel.trans (hb.mono bel.size)
    clear hb
    go_upto_if 66 with fail
    go_cut [2, 6, 8, 9, 10, 11, 12, 13] from 38 (fun s2 s6 s8 s9 s10 s11 s12 s13 wx => Below w.heap.size w wx)
    case first =>
      as_aux_lemma =>
        cases hBB : B with
        | false =>
          go_wp2_with fail
          go_meet
          exact bel
        | true =>
          have hg : gB (alikeB m1 z1 m2 z2) m1 (tabOf m1 (convV z1 z2)) = true := HB.out.symm.trans hBB
          have HG := Lib.hid hg
          have HSW := Lib.hid (conv_swap hg)
          clear hg
          have kf10 := f1.c0
          have kf11 := f1.c1
          have kf20 := f2.c0
          have kf21 := f2.c1
          go_wp2_with fail
          clear kf10 kf11 kf20 kf21
          refine (c_impl_ConvolveFunctions _ _ _ _ _ _ _ _ _ _ _ ho2.row (by have := hf2.2.2; omega) ho1.row (by have := hf1.2.2; omega)).mono ?_
          rw [HSW.out.1, HSW.out.2.1, HSW.out.2.2]
          rw [← HN.out, ← HL.out, ← HB.out]
          rw [hBB]
          rintro e wa5 ⟨a5, c5, rfl, ho5, hl5, hb⟩
          replace f1 := f1.below hb
          replace f2 := f2.below hb
          replace f3 := f3.below hb
          replace f4 := f4.below hb
          replace ho1 := ho1.below hb
          replace ho2 := ho2.below hb
          replace ho3 := ho3.below hb
          replace ho4 := ho4.below hb
          replace bel := bel.trans (hb.mono bel.size)
          clear hb
          have f5 := FBox.new wa5 26 N a5 (L.length) c5
          replace f1 := f1.alloc (.cells #[.int .i64 N, .slice a5 L.length c5] 26)
          replace f2 := f2.alloc (.cells #[.int .i64 N, .slice a5 L.length c5] 26)
          replace f3 := f3.alloc (.cells #[.int .i64 N, .slice a5 L.length c5] 26)
          replace f4 := f4.alloc (.cells #[.int .i64 N, .slice a5 L.length c5] 26)
          replace ho1 := ho1.alloc (.cells #[.int .i64 N, .slice a5 L.length c5] 26)
          replace ho2 := ho2.alloc (.cells #[.int .i64 N, .slice a5 L.length c5] 26)
          replace ho3 := ho3.alloc (.cells #[.int .i64 N, .slice a5 L.length c5] 26)
          replace ho4 := ho4.alloc (.cells #[.int .i64 N, .slice a5 L.length c5] 26)
          replace ho5 := ho5.alloc (.cells #[.int .i64 N, .slice a5 L.length c5] 26)
          replace bel := bel.alloc bel.size (.cells #[.int .i64 N, .slice a5 L.length c5] 26)
          have kf50 := f5.c0
          have kf51 := f5.c1
          have kf40 := f4.c0
          have kf41 := f4.c1
          go_wp2_with fail
          clear kf50 kf51 kf40 kf41
          refine (c_spec_EqualFunctions _ _ _ _ _ _ _ _ _ _ _ ho5.row hl5 ho4.row hl4).mono ?_
          rw [sameF_self]
          rintro e wa6 ⟨rfl, hb⟩
          replace f1 := f1.below hb
          replace f2 := f2.below hb
          replace f3 := f3.below hb
          replace f4 := f4.below hb
          replace f5 := f5.below hb
          replace ho1 := ho1.below hb
          replace ho2 := ho2.below hb
          replace ho3 := ho3.below hb
          replace ho4 := ho4.below hb
          replace ho5 := ho5.below hb
          replace bel := bel.trans (hb.mono bel.size)
          clear hb
          have Hf1 := Lib.hid f1
          have Hf2 := Lib.hid f2
          have Hf4 := Lib.hid f4
          have Hho1 := Lib.hid ho1
          have Hho2 := Lib.hid ho2
          have Hho4 := Lib.hid ho4
          have HBEL := Lib.hid bel
          have l1 := f1.lt
          have l2 := f2.lt
          have l4 := f4.lt
          have hzu : z1.length ≤ 32 := hf1.2.2
          have hzu2 : z2.length ≤ 32 := hf2.2.2
          have kf10 := f1.c0
          have kf11 := f1.c1
          clear f1 f2 f3 f4 f5 ho1 ho2 ho3 ho4 ho5 bel
          go_wp2_with fail
          clear kf10 kf11
          go_loopw [11] (fun sv wr => ∃ s : Nat, sv = .int .i64 (s : Int) ∧ s ≤ z1.length ∧ Below wa6.heap.size wa6 wr) (fun sv _ => z1.length - (intOf sv).toNat)
          case atStart => exact ⟨0, rfl, Nat.zero_le _, Below.refl _ _⟩
          case round =>
            obtain ⟨s, rfl, hs, hbw⟩ := hrel
            have f1 := Hf1.out.below hbw
            have f2 := Hf2.out.below hbw
            have f4 := Hf4.out.below hbw
            have ho1 := Hho1.out.below hbw
            have ho2 := Hho2.out.below hbw
            have ho4 := Hho4.out.below hbw
            by_cases hlt : s < z1.length
            · obtain ⟨x, p, q, r, t, e1, e2, e3, hxs, hs32, e4, e5, e6, e7, e8, hle, hp, hq, hr, ht⟩ := conv_round HG.out hlt
              rw [← HN.out, ← HL.out] at e4
              have hlz : (s : Int) < (z1.length : Int) := by omega
              have kf10 := f1.c0
              have kf11 := f1.c1
              have kf20 := f2.c0
              have kf21 := f2.c1
              have H4 := Lib.hid e4
              have H5 := Lib.hid e5
              have H6 := Lib.hid e6
              have H7 := Lib.hid e7
              have H8 := Lib.hid e8
              have H3 := Lib.hid e3
              clear e3 e4 e5 e6 e7 e8
              go_wp2_with fail
              clear kf10 kf11 kf20 kf21
              refine (c_impl_SplitOf _ _ _ _ _ _ _ _ _ _ _ _ ho1.row (by omega) ho2.row (by omega)).mono ?_
              rw [e1, e2]
              rintro e wb1 ⟨rfl, hb⟩
              clear e1 e2
              replace f1 := f1.below hb
              replace f2 := f2.below hb
              replace f4 := f4.below hb
              replace ho1 := ho1.below hb
              replace ho2 := ho2.below hb
              replace ho4 := ho4.below hb
              replace hbw := hbw.trans (hb.mono hbw.size)
              clear hb
              have w1 : IntKind.i64.wrap ((s : Int) - (x : Int)) = (s : Int) - (x : Int) := IntWalk.i64_in _ (by omega)
              have w2 : IntKind.i64.wrap (p + q) = p + q := IntWalk.i64_in _ (by omega)
              have w3 : IntKind.i64.wrap (r + t) = r + t := IntWalk.i64_in _ (by omega)
              have w4 : ¬ r + t < p + q := by omega
              have w5 : decide (r + t < p + q) = false := by simp; omega
              replace f1 := f1.drew
              replace f2 := f2.drew
              replace f4 := f4.drew
              replace ho1 := ho1.drew
              replace ho2 := ho2.drew
              replace ho4 := ho4.drew
              replace hbw := hbw.drew
              have kf10 := f1.c0
              have kf11 := f1.c1
              have kf20 := f2.c0
              have kf21 := f2.c1
              have kf40 := f4.c0
              have kf41 := f4.c1
              have q3 := H3.out
              go_wp2_with fail
              go_region_held3 (fun w' => w'.cell? ⟨wa1.heap.size, 0, none⟩ = some (.int .i64 m1) ∧ w'.cell? ⟨wa1.heap.size, 1, none⟩ = some (.slice a1 (z1.length) c1) ∧ w'.cell? ⟨wa1.heap.size + 1, 0, none⟩ = some (.int .i64 m2) ∧ w'.cell? ⟨wa1.heap.size + 1, 1, none⟩ = some (.slice a2 (z2.length) c2) ∧ w'.cell? ⟨wa3.heap.size, 0, none⟩ = some (.int .i64 N) ∧ w'.cell? ⟨wa3.heap.size, 1, none⟩ = some (.slice a4 (L.length) c4)) (go_keep)
                (first
                  | (go_at_call_of 10 a4; refine (c_impl_ValueOf _ _ _ _ _ _ _ ho4.row (by omega)).mono ?_; rw [H4.out]; rintro e wb9 ⟨rfl, hb⟩; replace f1 := f1.below hb; replace f2 := f2.below hb; replace f4 := f4.below hb; replace ho1 := ho1.below hb; replace ho2 := ho2.below hb; replace ho4 := ho4.below hb; replace hbw := hbw.trans (hb.mono hbw.size); clear hb; replace kf10 := f1.c0; replace kf20 := f2.c0; replace kf40 := f4.c0; replace kf11 := f1.c1; replace kf21 := f2.c1; replace kf41 := f4.c1)
                  | (go_at_call_of 10 a1; refine (c_impl_ValueOf _ _ _ _ _ _ _ ho1.row (by omega)).mono ?_; rw [H5.out]; rintro e wb9 ⟨rfl, hb⟩; replace f1 := f1.below hb; replace f2 := f2.below hb; replace f4 := f4.below hb; replace ho1 := ho1.below hb; replace ho2 := ho2.below hb; replace ho4 := ho4.below hb; replace hbw := hbw.trans (hb.mono hbw.size); clear hb; replace kf10 := f1.c0; replace kf20 := f2.c0; replace kf40 := f4.c0; replace kf11 := f1.c1; replace kf21 := f2.c1; replace kf41 := f4.c1)
                  | (go_at_call_of 10 a1; refine (c_impl_ValueOf _ _ _ _ _ _ _ ho1.row (by omega)).mono ?_; rw [H7.out]; rintro e wb9 ⟨rfl, hb⟩; replace f1 := f1.below hb; replace f2 := f2.below hb; replace f4 := f4.below hb; replace ho1 := ho1.below hb; replace ho2 := ho2.below hb; replace ho4 := ho4.below hb; replace hbw := hbw.trans (hb.mono hbw.size); clear hb; replace kf10 := f1.c0; replace kf20 := f2.c0; replace kf40 := f4.c0; replace kf11 := f1.c1; replace kf21 := f2.c1; replace kf41 := f4.c1)
                  | (go_at_call_of 10 a2; refine (c_impl_ValueOf _ _ _ _ _ _ _ ho2.row (by omega)).mono ?_; rw [H6.out]; rintro e wb9 ⟨rfl, hb⟩; replace f1 := f1.below hb; replace f2 := f2.below hb; replace f4 := f4.below hb; replace ho1 := ho1.below hb; replace ho2 := ho2.below hb; replace ho4 := ho4.below hb; replace hbw := hbw.trans (hb.mono hbw.size); clear hb; replace kf10 := f1.c0; replace kf20 := f2.c0; replace kf40 := f4.c0; replace kf11 := f1.c1; replace kf21 := f2.c1; replace kf41 := f4.c1)
                  | (go_at_call_of 10 a2; refine (c_impl_ValueOf _ _ _ _ _ _ _ ho2.row (by omega)).mono ?_; rw [H8.out]; rintro e wb9 ⟨rfl, hb⟩; replace f1 := f1.below hb; replace f2 := f2.below hb; replace f4 := f4.below hb; replace ho1 := ho1.below hb; replace ho2 := ho2.below hb; replace ho4 := ho4.below hb; replace hbw := hbw.trans (hb.mono hbw.size); clear hb; replace kf10 := f1.c0; replace kf20 := f2.c0; replace kf40 := f4.c0; replace kf11 := f1.c1; replace kf21 := f2.c1; replace kf41 := f4.c1))
              all_goals
                go_wp2
                go_roundw
                case rel => exact ⟨s + 1, by go_num, by omega, hbw⟩
                case measure => simp [intOf]; omega
            · have hse : s = z1.length := by omega
              subst hse
              have kf10 := f1.c0
              have kf11 := f1.c1
              go_wp2_with fail
              go_meet
              exact HBEL.out.trans (hbw.mono HBEL.out.size)
    case rest =>
      as_aux_lemma =>
        clear f1 f2 f3 f4 ho1 ho2 ho3 ho4 bel HN HL HB hl3 hl4 hf1 hf2
        have bel := hcut
        clear hcut
        go_wp2_with fail
        refine (c_DrawReduceFunction _ _ _ _ _ (hr0.below bel) hn).mono ?_
        rintro e wr1 ⟨m1, a1, c1, z1, a2, c2, z2, hf1, hf2, rfl, ho1, ho2, hb⟩
        replace bel := bel.trans (hb.mono bel.size)
        clear hb
        have f1 := FBox.new wr1 26 m1 a1 (z1.length) c1
        replace ho1 := ho1.alloc (.cells #[.int .i64 m1, .slice a1 z1.length c1] 26)
        replace ho2 := ho2.alloc (.cells #[.int .i64 m1, .slice a1 z1.length c1] 26)
        replace bel := bel.alloc bel.size (.cells #[.int .i64 m1, .slice a1 z1.length c1] 26)
        obtain ⟨N, hN⟩ : ∃ x, x = gN (redT m1 z1 z2) m1 (tabOf m1 (convV z1 (rL z2))) := ⟨_, rfl⟩
        have HN := Lib.hid hN
        clear hN
        obtain ⟨L, hL⟩ : ∃ x, x = gL (redT m1 z1 z2) m1 (tabOf m1 (convV z1 (rL z2))) := ⟨_, rfl⟩
        have HL := Lib.hid hL
        clear hL
        obtain ⟨B, hB⟩ : ∃ x, x = gB (redT m1 z1 z2) m1 (tabOf m1 (convV z1 (rL z2))) := ⟨_, rfl⟩
        have HB := Lib.hid hB
        clear hB
        have kf10 := f1.c0
        have kf11 := f1.c1
        go_wp2_with fail
        clear kf10 kf11
        refine (c_impl_ReduceFunction _ _ _ _ _ _ _ _ _ _ ho1.row (by have := hf1.2.2; omega) ho2.row (by omega)).mono ?_
        rw [← HN.out, ← HL.out, ← HB.out]
        rintro e wr2 ⟨a3, c3, rfl, ho3, hl3, hb⟩
        replace f1 := f1.below hb
        replace ho1 := ho1.below hb
        replace ho2 := ho2.below hb
        replace bel := bel.trans (hb.mono bel.size)
        clear hb
        have f3 := FBox.new wr2 26 N a3 (L.length) c3
        replace f1 := f1.alloc (.cells #[.int .i64 N, .slice a3 L.length c3] 26)
        replace ho1 := ho1.alloc (.cells #[.int .i64 N, .slice a3 L.length c3] 26)
        replace ho2 := ho2.alloc (.cells #[.int .i64 N, .slice a3 L.length c3] 26)
        replace ho3 := ho3.alloc (.cells #[.int .i64 N, .slice a3 L.length c3] 26)
        replace bel := bel.alloc bel.size (.cells #[.int .i64 N, .slice a3 L.length c3] 26)
        have kf10 := f1.c0
        have kf11 := f1.c1
        go_wp2_with fail
        clear kf10 kf11
        refine (c_spec_ReduceFunction _ _ _ _ _ _ _ _ _ _ ho1.row (by have := hf1.2.2; omega) ho2.row (by omega)).mono ?_
        rw [← HN.out, ← HL.out, ← HB.out]
        rintro e wr3 ⟨a4, c4, rfl, ho4, hl4, hb⟩
        replace f1 := f1.below hb
        replace f3 := f3.below hb
        replace ho1 := ho1.below hb
        replace ho2 := ho2.below hb
        replace ho3 := ho3.below hb
        replace bel := bel.trans (hb.mono bel.size)
        clear hb
        have f4 := FBox.new wr3 26 N a4 (L.length) c4
        replace f1 := f1.alloc (.cells #[.int .i64 N, .slice a4 L.length c4] 26)
        replace f3 := f3.alloc (.cells #[.int .i64 N, .slice a4 L.length c4] 26)
        replace ho1 := ho1.alloc (.cells #[.int .i64 N, .slice a4 L.length c4] 26)
        replace ho2 := ho2.alloc (.cells #[.int .i64 N, .slice a4 L.length c4] 26)
        replace ho3 := ho3.alloc (.cells #[.int .i64 N, .slice a4 L.length c4] 26)
        replace ho4 := ho4.alloc (.cells #[.int .i64 N, .slice a4 L.length c4] 26)
        replace bel := bel.alloc bel.size (.cells #[.int .i64 N, .slice a4 L.length c4] 26)
        go_upto_region 21 with fail
        go_cut [17, 19, 164] from 38 (fun s17 s19 s164 wx => s164 = .bool false ∧ Below w.heap.size w wx)
        case first =>
          as_aux_lemma =>
            cases hBB : B with
            | false =>
              have kf30 := f3.c0
              have kf31 := f3.c1
              have kf40 := f4.c0
              have kf41 := f4.c1
              go_wp2_with fail
              clear kf30 kf31 kf40 kf41
              refine (c_spec_EqualFunctions _ _ _ _ _ _ _ _ _ _ _ ho3.row hl3 ho4.row hl4).mono ?_
              rw [sameF_self]
              rintro e wr4 ⟨rfl, hb⟩
              replace f1 := f1.below hb
              replace f3 := f3.below hb
              replace f4 := f4.below hb
              replace ho1 := ho1.below hb
              replace ho2 := ho2.below hb
              replace ho3 := ho3.below hb
              replace ho4 := ho4.below hb
              replace bel := bel.trans (hb.mono bel.size)
              clear hb
              go_wp2_with fail
              go_meet
              exact ⟨rfl, bel⟩
            | true =>
              have HG := Lib.hid (show gB (redT m1 z1 z2) m1 (tabOf m1 (convV z1 (rL z2))) = true from HB.out.symm.trans hBB)
              have kf30 := f3.c0
              have kf31 := f3.c1
              have kf40 := f4.c0
              have kf41 := f4.c1
              go_wp2_with fail
              clear kf30 kf31 kf40 kf41
              refine (c_spec_EqualFunctions _ _ _ _ _ _ _ _ _ _ _ ho3.row hl3 ho4.row hl4).mono ?_
              rw [sameF_self]
              rintro e wr4 ⟨rfl, hb⟩
              replace f1 := f1.below hb
              replace f3 := f3.below hb
              replace f4 := f4.below hb
              replace ho1 := ho1.below hb
              replace ho2 := ho2.below hb
              replace ho3 := ho3.below hb
              replace ho4 := ho4.below hb
              replace bel := bel.trans (hb.mono bel.size)
              clear hb
              cases hS : subB m1 z1 with
              | false =>
                have kf10 := f1.c0
                have kf11 := f1.c1
                go_wp2_with fail
                clear kf10 kf11
                refine (c_spec_IsSubmodular _ _ _ _ _ _ ho1.row (by have := hf1.2.2; omega)).mono ?_
                rw [hS]
                rintro e wr5 ⟨rfl, hb⟩
                replace f1 := f1.below hb
                replace f3 := f3.below hb
                replace f4 := f4.below hb
                replace ho1 := ho1.below hb
                replace ho2 := ho2.below hb
                replace ho3 := ho3.below hb
                replace ho4 := ho4.below hb
                replace bel := bel.trans (hb.mono bel.size)
                clear hb
                go_wp2_with fail
                go_meet
                exact ⟨rfl, bel⟩
              | true =>
                have kf10 := f1.c0
                have kf11 := f1.c1
                go_wp2_with fail
                clear kf10 kf11
                refine (c_spec_IsSubmodular _ _ _ _ _ _ ho1.row (by have := hf1.2.2; omega)).mono ?_
                rw [hS]
                rintro e wr5 ⟨rfl, hb⟩
                replace f1 := f1.below hb
                replace f3 := f3.below hb
                replace f4 := f4.below hb
                replace ho1 := ho1.below hb
                replace ho2 := ho2.below hb
                replace ho3 := ho3.below hb
                replace ho4 := ho4.below hb
                replace bel := bel.trans (hb.mono bel.size)
                clear hb
                have hsb := red_sub HG.out hS
                obtain ⟨_, _, en, el⟩ := g_true HG.out
                have hNL : subB N L = true := by rw [HN.out, HL.out, en, el]; exact hsb
                clear hsb en el
                have kf40 := f4.c0
                have kf41 := f4.c1
                go_wp2_with fail
                clear kf40 kf41
                refine (c_impl_IsSubmodular _ _ _ _ _ _ ho4.row hl4).mono ?_
                rw [hNL]
                rintro e wr6 ⟨rfl, hb⟩
                replace f1 := f1.below hb
                replace f3 := f3.below hb
                replace f4 := f4.below hb
                replace ho1 := ho1.below hb
                replace ho2 := ho2.below hb
                replace ho3 := ho3.below hb
                replace ho4 := ho4.below hb
                replace bel := bel.trans (hb.mono bel.size)
                clear hb
                go_wp2_with fail
                go_meet
                exact ⟨rfl, bel⟩
        case rest =>
          as_aux_lemma =>
            clear f1 f3 f4 ho1 ho2 ho3 ho4 bel HN HL HB hl3 hl4 hf1 hf2
            obtain ⟨rfl, bel⟩ := hcut
            go_wp2_with fail
            refine (c_DrawIncreasingHull _ _ _ _ _ (hr0.below bel) hn).mono ?_
            rintro e wq1 ⟨m1, a1, c1, z1, hf1, rfl, ho1, hb⟩
            replace bel := bel.trans (hb.mono bel.size)
            clear hb
            have f1 := FBox.new wq1 26 m1 a1 (z1.length) c1
            replace ho1 := ho1.alloc (.cells #[.int .i64 m1, .slice a1 z1.length c1] 26)
            replace bel := bel.alloc bel.size (.cells #[.int .i64 m1, .slice a1 z1.length c1] 26)
            obtain ⟨N, hN⟩ : ∃ x, x = gN (hulT m1 z1) m1 (tabOf m1 (hullV z1)) := ⟨_, rfl⟩
            have HN := Lib.hid hN
            clear hN
            obtain ⟨L, hL⟩ : ∃ x, x = gL (hulT m1 z1) m1 (tabOf m1 (hullV z1)) := ⟨_, rfl⟩
            have HL := Lib.hid hL
            clear hL
            obtain ⟨B, hB⟩ : ∃ x, x = gB (hulT m1 z1) m1 (tabOf m1 (hullV z1)) := ⟨_, rfl⟩
            have HB := Lib.hid hB
            clear hB
            have kf10 := f1.c0
            have kf11 := f1.c1
            go_wp2_with fail
            clear kf10 kf11
            refine (c_impl_IncreasingHull _ _ _ _ _ _ ho1.row (by have := hf1.2.2; omega)).mono ?_
            rw [← HN.out, ← HL.out, ← HB.out]
            rintro e wq2 ⟨a3, c3, rfl, ho3, hl3, hb⟩
            replace f1 := f1.below hb
            replace ho1 := ho1.below hb
            replace bel := bel.trans (hb.mono bel.size)
            clear hb
            have f3 := FBox.new wq2 26 N a3 (L.length) c3
            replace f1 := f1.alloc (.cells #[.int .i64 N, .slice a3 L.length c3] 26)
            replace ho1 := ho1.alloc (.cells #[.int .i64 N, .slice a3 L.length c3] 26)
            replace ho3 := ho3.alloc (.cells #[.int .i64 N, .slice a3 L.length c3] 26)
            replace bel := bel.alloc bel.size (.cells #[.int .i64 N, .slice a3 L.length c3] 26)
            have kf10 := f1.c0
            have kf11 := f1.c1
            go_wp2_with fail
            clear kf10 kf11
            refine (c_spec_IncreasingHull _ _ _ _ _ _ ho1.row (by have := hf1.2.2; omega)).mono ?_
            rw [← HN.out, ← HL.out, ← HB.out]
            rintro e wq3 ⟨a4, c4, rfl, ho4, hl4, hb⟩
            replace f1 := f1.below hb
            replace f3 := f3.below hb
            replace ho1 := ho1.below hb
            replace ho3 := ho3.below hb
            replace bel := bel.trans (hb.mono bel.size)
            clear hb
            have f4 := FBox.new wq3 26 N a4 (L.length) c4
            replace f1 := f1.alloc (.cells #[.int .i64 N, .slice a4 L.length c4] 26)
            replace f3 := f3.alloc (.cells #[.int .i64 N, .slice a4 L.length c4] 26)
            replace ho1 := ho1.alloc (.cells #[.int .i64 N, .slice a4 L.length c4] 26)
            replace ho3 := ho3.alloc (.cells #[.int .i64 N, .slice a4 L.length c4] 26)
            replace ho4 := ho4.alloc (.cells #[.int .i64 N, .slice a4 L.length c4] 26)
            replace bel := bel.alloc bel.size (.cells #[.int .i64 N, .slice a4 L.length c4] 26)
            go_upto_region 26 with fail
            go_cut [22, 24, 210] from 38 (fun s22 s24 s210 wx => s210 = .bool false ∧ Below w.heap.size w wx)
            case first =>
              as_aux_lemma =>
                cases hBB : B with
                | false =>
                  as_aux_lemma =>
                    replace f1 := f1.drew
                    replace f3 := f3.drew
                    replace f4 := f4.drew
                    replace ho1 := ho1.drew
                    replace ho3 := ho3.drew
                    replace ho4 := ho4.drew
                    replace bel := bel.drew
                    have kf10 := f1.c0
                    have kf30 := f3.c0
                    have kf40 := f4.c0
                    have kf11 := f1.c1
                    have kf31 := f3.c1
                    have kf41 := f4.c1
                    go_upto_region 26 with fail
                    refine wp_region_held_drew (S := fun w' => w'.cell? ⟨wq1.heap.size, 0, none⟩ = some (.int .i64 m1) ∧ w'.cell? ⟨wq1.heap.size, 1, none⟩ = some (.slice a1 (z1.length) c1) ∧ w'.cell? ⟨wq2.heap.size, 0, none⟩ = some (.int .i64 N) ∧ w'.cell? ⟨wq2.heap.size, 1, none⟩ = some (.slice a3 (L.length) c3) ∧ w'.cell? ⟨wq3.heap.size, 0, none⟩ = some (.int .i64 N) ∧ w'.cell? ⟨wq3.heap.size, 1, none⟩ = some (.slice a4 (L.length) c4)) (by kernel_rfl) ?_ (fun hHeld => ?_)
                    · exact ⟨kf10, kf11, kf30, kf31, kf40, kf41⟩
                    refine takeH (i := 0) (d := some 177) (v := ?_) rfl rfl (by kernel_rfl) (by kernel_rfl) (by kernel_rfl) (fun _ _ _ h => h) (Or.inl ⟨by rfl, ?_⟩) (by assumption) ?_
                    rotate_left
                    · (intro w' hSw; (try dsimp only at hSw); go_simp; (try with_reducible rfl))
                    (try simp only [Act.put, List.setIfInBounds_toArray, List.set_cons_zero, List.set_cons_succ])
                    refine takeH (i := 1) (d := some 178) (v := ?_) rfl rfl (by kernel_rfl) (by kernel_rfl) (by kernel_rfl) (fun _ _ _ h => h) (Or.inl ⟨by rfl, ?_⟩) (by assumption) ?_
                    rotate_left
                    · (intro w' hSw; (try dsimp only at hSw); go_simp; (try with_reducible rfl))
                    (try simp only [Act.put, List.setIfInBounds_toArray, List.set_cons_zero, List.set_cons_succ])
                    refine takeH (i := 2) (d := some 179) (v := ?_) rfl rfl (by kernel_rfl) (by kernel_rfl) (by kernel_rfl) (fun _ _ _ h => h) (Or.inl ⟨by rfl, ?_⟩) (by assumption) ?_
                    rotate_left
                    · (intro w' hSw; (try dsimp only at hSw); go_simp; (try with_reducible rfl))
                    (try simp only [Act.put, List.setIfInBounds_toArray, List.set_cons_zero, List.set_cons_succ])
                    refine takeH (i := 3) (d := some 180) (v := ?_) rfl rfl (by kernel_rfl) (by kernel_rfl) (by kernel_rfl) (fun _ _ _ h => h) (Or.inl ⟨by rfl, ?_⟩) (by assumption) ?_
                    rotate_left
                    · (intro w' hSw; (try dsimp only at hSw); go_simp; (try with_reducible rfl))
                    (try simp only [Act.put, List.setIfInBounds_toArray, List.set_cons_zero, List.set_cons_succ])
                    refine takeH (i := 4) (d := some 181) (v := ?_) rfl rfl (by kernel_rfl) (by kernel_rfl) (by kernel_rfl) (fun _ _ _ h => h) (Or.inl ⟨by rfl, ?_⟩) (by assumption) ?_
                    rotate_left
                    · (intro w' hSw; (try dsimp only at hSw); go_simp; (try with_reducible rfl))
                    (try simp only [Act.put, List.setIfInBounds_toArray, List.set_cons_zero, List.set_cons_succ])
                    refine takeH (i := 5) (d := some 182) (v := ?_) rfl rfl (by kernel_rfl) (by kernel_rfl) (by kernel_rfl) (fun _ _ _ h => h) (Or.inl ⟨by rfl, ?_⟩) (by assumption) ?_
                    rotate_left
                    · (intro w' hSw; (try dsimp only at hSw); go_simp; (try with_reducible rfl))
                    (try simp only [Act.put, List.setIfInBounds_toArray, List.set_cons_zero, List.set_cons_succ])
                    refine wpAnyH_ready (rs := [6]) (by kernel_rfl) (by simp) ?_
                    refine AllReadyH.cons rfl (fun K hK => ?_) AllReadyH.nil
                    go_simp
                    refine (c_spec_EqualFunctions _ _ _ _ _ _ _ _ _ _ _ ho3.row hl3 ho4.row hl4).mono ?_
                    rw [sameF_self]
                    rintro e wq9 ⟨rfl, hb⟩
                    replace f1 := f1.below hb
                    replace f3 := f3.below hb
                    replace f4 := f4.below hb
                    replace ho1 := ho1.below hb
                    replace ho3 := ho3.below hb
                    replace ho4 := ho4.below hb
                    replace bel := bel.trans (hb.mono bel.size)
                    clear hb
                    replace kf10 := f1.c0
                    replace kf30 := f3.c0
                    replace kf40 := f4.c0
                    replace kf11 := f1.c1
                    replace kf31 := f3.c1
                    replace kf41 := f4.c1
                    (try go_wp2_with fail)
                    refine hK.out _ _ ?_ (fun hHeld => ?_)
                    · exact ⟨kf10, kf11, kf30, kf31, kf40, kf41⟩
                    clear hK K
                    (try simp only [Act.put, List.setIfInBounds_toArray, List.set_cons_zero, List.set_cons_succ])
                    refine takeH (i := 7) (d := some 184) (v := ?_) rfl rfl (by kernel_rfl) (by kernel_rfl) (by kernel_rfl) (fun _ _ _ h => h) (Or.inl ⟨by rfl, ?_⟩) (by assumption) ?_
                    rotate_left
                    · (intro w' hSw; (try dsimp only at hSw); go_simp; (try with_reducible rfl))
                    (try simp only [Act.put, List.setIfInBounds_toArray, List.set_cons_zero, List.set_cons_succ])
                    refine takeH (i := 8) (d := some 185) (v := ?_) rfl rfl (by kernel_rfl) (by kernel_rfl) (by kernel_rfl) (fun _ _ _ h => h) (Or.inl ⟨by rfl, ?_⟩) (by assumption) ?_
                    rotate_left
                    · (intro w' hSw; (try dsimp only at hSw); go_simp; (try with_reducible rfl))
                    (try simp only [Act.put, List.setIfInBounds_toArray, List.set_cons_zero, List.set_cons_succ])
                    refine takeH (i := 9) (d := some 186) (v := ?_) rfl rfl (by kernel_rfl) (by kernel_rfl) (by kernel_rfl) (fun _ _ _ h => h) (Or.inl ⟨by rfl, ?_⟩) (by assumption) ?_
                    rotate_left
                    · (intro w' hSw; (try dsimp only at hSw); go_simp; (try with_reducible rfl))
                    (try simp only [Act.put, List.setIfInBounds_toArray, List.set_cons_zero, List.set_cons_succ])
                    refine takeH (i := 10) (d := some 187) (v := ?_) rfl rfl (by kernel_rfl) (by kernel_rfl) (by kernel_rfl) (fun _ _ _ h => h) (Or.inl ⟨by rfl, ?_⟩) (by assumption) ?_
                    rotate_left
                    · (intro w' hSw; (try dsimp only at hSw); go_simp; (try with_reducible rfl))
                    (try simp only [Act.put, List.setIfInBounds_toArray, List.set_cons_zero, List.set_cons_succ])
                    refine takeH (i := 11) (d := some 188) (v := ?_) rfl rfl (by kernel_rfl) (by kernel_rfl) (by kernel_rfl) (fun _ _ _ h => h) (Or.inl ⟨by rfl, ?_⟩) (by assumption) ?_
                    rotate_left
                    · (intro w' hSw; (try dsimp only at hSw); go_simp; (try with_reducible rfl))
                    (try simp only [Act.put, List.setIfInBounds_toArray, List.set_cons_zero, List.set_cons_succ])
                    refine takeH (i := 12) (d := some 189) (v := undef) rfl rfl (by kernel_rfl) (by kernel_rfl) (by kernel_rfl) (fun _ _ _ h => h) (Or.inr ⟨by rfl, rfl⟩) (by assumption) ?_
                    (try simp only [Act.put, List.setIfInBounds_toArray, List.set_cons_zero, List.set_cons_succ])
                    refine takeH (i := 13) (d := some 190) (v := undef) rfl rfl (by kernel_rfl) (by kernel_rfl) (by kernel_rfl) (fun _ _ _ h => h) (Or.inr ⟨by rfl, rfl⟩) (by assumption) ?_
                    (try simp only [Act.put, List.setIfInBounds_toArray, List.set_cons_zero, List.set_cons_succ])
                    refine takeH (i := 14) (d := some 191) (v := undef) rfl rfl (by kernel_rfl) (by kernel_rfl) (by kernel_rfl) (fun _ _ _ h => h) (Or.inr ⟨by rfl, rfl⟩) (by assumption) ?_
                    (try simp only [Act.put, List.setIfInBounds_toArray, List.set_cons_zero, List.set_cons_succ])
                    refine takeH (i := 15) (d := some 192) (v := undef) rfl rfl (by kernel_rfl) (by kernel_rfl) (by kernel_rfl) (fun _ _ _ h => h) (Or.inr ⟨by rfl, rfl⟩) (by assumption) ?_
                    (try simp only [Act.put, List.setIfInBounds_toArray, List.set_cons_zero, List.set_cons_succ])
                    refine takeH (i := 16) (d := some 193) (v := undef) rfl rfl (by kernel_rfl) (by kernel_rfl) (by kernel_rfl) (fun _ _ _ h => h) (Or.inr ⟨by rfl, rfl⟩) (by assumption) ?_
                    (try simp only [Act.put, List.setIfInBounds_toArray, List.set_cons_zero, List.set_cons_succ])
                    refine takeH (i := 17) (d := some 194) (v := undef) rfl rfl (by kernel_rfl) (by kernel_rfl) (by kernel_rfl) (fun _ _ _ h => h) (Or.inr ⟨by rfl, rfl⟩) (by assumption) ?_
                    (try simp only [Act.put, List.setIfInBounds_toArray, List.set_cons_zero, List.set_cons_succ])
                    refine takeH (i := 18) (d := some 195) (v := undef) rfl rfl (by kernel_rfl) (by kernel_rfl) (by kernel_rfl) (fun _ _ _ h => h) (Or.inr ⟨by rfl, rfl⟩) (by assumption) ?_
                    (try simp only [Act.put, List.setIfInBounds_toArray, List.set_cons_zero, List.set_cons_succ])
                    refine takeH (i := 19) (d := some 196) (v := undef) rfl rfl (by kernel_rfl) (by kernel_rfl) (by kernel_rfl) (fun _ _ _ h => h) (Or.inr ⟨by rfl, rfl⟩) (by assumption) ?_
                    (try simp only [Act.put, List.setIfInBounds_toArray, List.set_cons_zero, List.set_cons_succ])
                    refine takeH (i := 20) (d := some 197) (v := undef) rfl rfl (by kernel_rfl) (by kernel_rfl) (by kernel_rfl) (fun _ _ _ h => h) (Or.inr ⟨by rfl, rfl⟩) (by assumption) ?_
                    (try simp only [Act.put, List.setIfInBounds_toArray, List.set_cons_zero, List.set_cons_succ])
                    refine takeH (i := 21) (d := some 198) (v := undef) rfl rfl (by kernel_rfl) (by kernel_rfl) (by kernel_rfl) (fun _ _ _ h => h) (Or.inr ⟨by rfl, rfl⟩) (by assumption) ?_
                    (try simp only [Act.put, List.setIfInBounds_toArray, List.set_cons_zero, List.set_cons_succ])
                    refine takeH (i := 22) (d := some 199) (v := undef) rfl rfl (by kernel_rfl) (by kernel_rfl) (by kernel_rfl) (fun _ _ _ h => h) (Or.inr ⟨by rfl, rfl⟩) (by assumption) ?_
                    (try simp only [Act.put, List.setIfInBounds_toArray, List.set_cons_zero, List.set_cons_succ])
                    refine takeH (i := 23) (d := some 200) (v := undef) rfl rfl (by kernel_rfl) (by kernel_rfl) (by kernel_rfl) (fun _ _ _ h => h) (Or.inr ⟨by rfl, rfl⟩) (by assumption) ?_
                    (try simp only [Act.put, List.setIfInBounds_toArray, List.set_cons_zero, List.set_cons_succ])
                    refine takeH (i := 24) (d := some 201) (v := undef) rfl rfl (by kernel_rfl) (by kernel_rfl) (by kernel_rfl) (fun _ _ _ h => h) (Or.inr ⟨by rfl, rfl⟩) (by assumption) ?_
                    (try simp only [Act.put, List.setIfInBounds_toArray, List.set_cons_zero, List.set_cons_succ])
                    refine takeH (i := 25) (d := some 202) (v := undef) rfl rfl (by kernel_rfl) (by kernel_rfl) (by kernel_rfl) (fun _ _ _ h => h) (Or.inr ⟨by rfl, rfl⟩) (by assumption) ?_
                    (try simp only [Act.put, List.setIfInBounds_toArray, List.set_cons_zero, List.set_cons_succ])
                    refine takeH (i := 27) (d := some 204) (v := undef) rfl rfl (by kernel_rfl) (by kernel_rfl) (by kernel_rfl) (fun _ _ _ h => h) (Or.inr ⟨by rfl, rfl⟩) (by assumption) ?_
                    (try simp only [Act.put, List.setIfInBounds_toArray, List.set_cons_zero, List.set_cons_succ])
                    refine takeH (i := 28) (d := some 205) (v := undef) rfl rfl (by kernel_rfl) (by kernel_rfl) (by kernel_rfl) (fun _ _ _ h => h) (Or.inr ⟨by rfl, rfl⟩) (by assumption) ?_
                    (try simp only [Act.put, List.setIfInBounds_toArray, List.set_cons_zero, List.set_cons_succ])
                    refine takeH (i := 26) (d := some 203) (v := undef) rfl rfl (by kernel_rfl) (by kernel_rfl) (by kernel_rfl) (fun _ _ _ h => h) (Or.inr ⟨by rfl, rfl⟩) (by assumption) ?_
                    (try simp only [Act.put, List.setIfInBounds_toArray, List.set_cons_zero, List.set_cons_succ])
                    refine takeH (i := 29) (d := some 206) (v := undef) rfl rfl (by kernel_rfl) (by kernel_rfl) (by kernel_rfl) (fun _ _ _ h => h) (Or.inr ⟨by rfl, rfl⟩) (by assumption) ?_
                    (try simp only [Act.put, List.setIfInBounds_toArray, List.set_cons_zero, List.set_cons_succ])
                    refine takeH (i := 30) (d := some 207) (v := undef) rfl rfl (by kernel_rfl) (by kernel_rfl) (by kernel_rfl) (fun _ _ _ h => h) (Or.inr ⟨by rfl, rfl⟩) (by assumption) ?_
                    (try simp only [Act.put, List.setIfInBounds_toArray, List.set_cons_zero, List.set_cons_succ])
                    refine takeH (i := 31) (d := some 208) (v := undef) rfl rfl (by kernel_rfl) (by kernel_rfl) (by kernel_rfl) (fun _ _ _ h => h) (Or.inr ⟨by rfl, rfl⟩) (by assumption) ?_
                    (try simp only [Act.put, List.setIfInBounds_toArray, List.set_cons_zero, List.set_cons_succ])
                    refine takeH (i := 32) (d := some 209) (v := ?_) rfl rfl (by kernel_rfl) (by kernel_rfl) (by kernel_rfl) (fun _ _ _ h => h) (Or.inl ⟨by rfl, ?_⟩) (by assumption) ?_
                    rotate_left
                    · (intro w' hSw; (try dsimp only at hSw); go_simp; (try with_reducible rfl))
                    (try simp only [Act.put, List.setIfInBounds_toArray, List.set_cons_zero, List.set_cons_succ])
                    refine takeH (i := 33) (d := some 210) (v := ?_) rfl rfl (by kernel_rfl) (by kernel_rfl) (by kernel_rfl) (fun _ _ _ h => h) (Or.inl ⟨by rfl, ?_⟩) (by assumption) ?_
                    rotate_left
                    · (intro w' hSw; (try dsimp only at hSw); go_simp; (try with_reducible rfl))
                    (try simp only [Act.put, List.setIfInBounds_toArray, List.set_cons_zero, List.set_cons_succ])
                    refine wpAnyH_done (by kernel_rfl) ?_ _
                    all_goals
                      go_wp2_with fail
                      go_meet
                      exact ⟨rfl, bel⟩
                | true =>
                  have hf : isFun m1 z1 = true := (g_true (show gB (hulT m1 z1) m1 (tabOf m1 (hullV z1)) = true from HB.out.symm.trans hBB)).1
                  obtain ⟨_, _, en, el⟩ := g_true (show gB (hulT m1 z1) m1 (tabOf m1 (hullV z1)) = true from HB.out.symm.trans hBB)
                  have hN : N = m1 := HN.out.trans en
                  have hL : L = tabOf m1 (hullV z1) := HL.out.trans el
                  have HI := Lib.hid (show incB N L = true by rw [hN, hL]; exact hull_inc hf)
                  have HE := Lib.hid (show incB m1 z1 = sameF m1 z1 N L by rw [hN, hL]; exact hull_own hf)
                  cases hS : subB m1 z1 with
                  | false =>
                    as_aux_lemma =>
                      clear hf en el hN hL
                      replace f1 := f1.drew
                      replace f3 := f3.drew
                      replace f4 := f4.drew
                      replace ho1 := ho1.drew
                      replace ho3 := ho3.drew
                      replace ho4 := ho4.drew
                      replace bel := bel.drew
                      have kf10 := f1.c0
                      have kf30 := f3.c0
                      have kf40 := f4.c0
                      have kf11 := f1.c1
                      have kf31 := f3.c1
                      have kf41 := f4.c1
                      go_upto_region 26 with fail
                      refine wp_region_held_drew (S := fun w' => w'.cell? ⟨wq1.heap.size, 0, none⟩ = some (.int .i64 m1) ∧ w'.cell? ⟨wq1.heap.size, 1, none⟩ = some (.slice a1 (z1.length) c1) ∧ w'.cell? ⟨wq2.heap.size, 0, none⟩ = some (.int .i64 N) ∧ w'.cell? ⟨wq2.heap.size, 1, none⟩ = some (.slice a3 (L.length) c3) ∧ w'.cell? ⟨wq3.heap.size, 0, none⟩ = some (.int .i64 N) ∧ w'.cell? ⟨wq3.heap.size, 1, none⟩ = some (.slice a4 (L.length) c4)) (by kernel_rfl) ?_ (fun hHeld => ?_)
                      · exact ⟨kf10, kf11, kf30, kf31, kf40, kf41⟩
                      refine takeH (i := 0) (d := some 177) (v := ?_) rfl rfl (by kernel_rfl) (by kernel_rfl) (by kernel_rfl) (fun _ _ _ h => h) (Or.inl ⟨by rfl, ?_⟩) (by assumption) ?_
                      rotate_left
                      · (intro w' hSw; (try dsimp only at hSw); go_simp; (try with_reducible rfl))
                      (try simp only [Act.put, List.setIfInBounds_toArray, List.set_cons_zero, List.set_cons_succ])
                      refine takeH (i := 1) (d := some 178) (v := ?_) rfl rfl (by kernel_rfl) (by kernel_rfl) (by kernel_rfl) (fun _ _ _ h => h) (Or.inl ⟨by rfl, ?_⟩) (by assumption) ?_
                      rotate_left
                      · (intro w' hSw; (try dsimp only at hSw); go_simp; (try with_reducible rfl))
                      (try simp only [Act.put, List.setIfInBounds_toArray, List.set_cons_zero, List.set_cons_succ])
                      refine takeH (i := 2) (d := some 179) (v := ?_) rfl rfl (by kernel_rfl) (by kernel_rfl) (by kernel_rfl) (fun _ _ _ h => h) (Or.inl ⟨by rfl, ?_⟩) (by assumption) ?_
                      rotate_left
                      · (intro w' hSw; (try dsimp only at hSw); go_simp; (try with_reducible rfl))
                      (try simp only [Act.put, List.setIfInBounds_toArray, List.set_cons_zero, List.set_cons_succ])
                      refine takeH (i := 3) (d := some 180) (v := ?_) rfl rfl (by kernel_rfl) (by kernel_rfl) (by kernel_rfl) (fun _ _ _ h => h) (Or.inl ⟨by rfl, ?_⟩) (by assumption) ?_
                      rotate_left
                      · (intro w' hSw; (try dsimp only at hSw); go_simp; (try with_reducible rfl))
                      (try simp only [Act.put, List.setIfInBounds_toArray, List.set_cons_zero, List.set_cons_succ])
                      refine takeH (i := 4) (d := some 181) (v := ?_) rfl rfl (by kernel_rfl) (by kernel_rfl) (by kernel_rfl) (fun _ _ _ h => h) (Or.inl ⟨by rfl, ?_⟩) (by assumption) ?_
                      rotate_left
                      · (intro w' hSw; (try dsimp only at hSw); go_simp; (try with_reducible rfl))
                      (try simp only [Act.put, List.setIfInBounds_toArray, List.set_cons_zero, List.set_cons_succ])
                      refine takeH (i := 5) (d := some 182) (v := ?_) rfl rfl (by kernel_rfl) (by kernel_rfl) (by kernel_rfl) (fun _ _ _ h => h) (Or.inl ⟨by rfl, ?_⟩) (by assumption) ?_
                      rotate_left
                      · (intro w' hSw; (try dsimp only at hSw); go_simp; (try with_reducible rfl))
                      (try simp only [Act.put, List.setIfInBounds_toArray, List.set_cons_zero, List.set_cons_succ])
                      refine wpAnyH_ready (rs := [6]) (by kernel_rfl) (by simp) ?_
                      refine AllReadyH.cons rfl (fun K hK => ?_) AllReadyH.nil
                      go_simp
                      refine (c_spec_EqualFunctions _ _ _ _ _ _ _ _ _ _ _ ho3.row hl3 ho4.row hl4).mono ?_
                      rw [sameF_self]
                      rintro e wq9 ⟨rfl, hb⟩
                      replace f1 := f1.below hb
                      replace f3 := f3.below hb
                      replace f4 := f4.below hb
                      replace ho1 := ho1.below hb
                      replace ho3 := ho3.below hb
                      replace ho4 := ho4.below hb
                      replace bel := bel.trans (hb.mono bel.size)
                      clear hb
                      replace kf10 := f1.c0
                      replace kf30 := f3.c0
                      replace kf40 := f4.c0
                      replace kf11 := f1.c1
                      replace kf31 := f3.c1
                      replace kf41 := f4.c1
                      (try go_wp2_with fail)
                      refine hK.out _ _ ?_ (fun hHeld => ?_)
                      · exact ⟨kf10, kf11, kf30, kf31, kf40, kf41⟩
                      clear hK K
                      (try simp only [Act.put, List.setIfInBounds_toArray, List.set_cons_zero, List.set_cons_succ])
                      refine takeH (i := 7) (d := some 184) (v := ?_) rfl rfl (by kernel_rfl) (by kernel_rfl) (by kernel_rfl) (fun _ _ _ h => h) (Or.inl ⟨by rfl, ?_⟩) (by assumption) ?_
                      rotate_left
                      · (intro w' hSw; (try dsimp only at hSw); go_simp; (try with_reducible rfl))
                      (try simp only [Act.put, List.setIfInBounds_toArray, List.set_cons_zero, List.set_cons_succ])
                      refine takeH (i := 8) (d := some 185) (v := ?_) rfl rfl (by kernel_rfl) (by kernel_rfl) (by kernel_rfl) (fun _ _ _ h => h) (Or.inl ⟨by rfl, ?_⟩) (by assumption) ?_
                      rotate_left
                      · (intro w' hSw; (try dsimp only at hSw); go_simp; (try with_reducible rfl))
                      (try simp only [Act.put, List.setIfInBounds_toArray, List.set_cons_zero, List.set_cons_succ])
                      refine takeH (i := 9) (d := some 186) (v := ?_) rfl rfl (by kernel_rfl) (by kernel_rfl) (by kernel_rfl) (fun _ _ _ h => h) (Or.inl ⟨by rfl, ?_⟩) (by assumption) ?_
                      rotate_left
                      · (intro w' hSw; (try dsimp only at hSw); go_simp; (try with_reducible rfl))
                      (try simp only [Act.put, List.setIfInBounds_toArray, List.set_cons_zero, List.set_cons_succ])
                      refine takeH (i := 10) (d := some 187) (v := ?_) rfl rfl (by kernel_rfl) (by kernel_rfl) (by kernel_rfl) (fun _ _ _ h => h) (Or.inl ⟨by rfl, ?_⟩) (by assumption) ?_
                      rotate_left
                      · (intro w' hSw; (try dsimp only at hSw); go_simp; (try with_reducible rfl))
                      (try simp only [Act.put, List.setIfInBounds_toArray, List.set_cons_zero, List.set_cons_succ])
                      refine takeH (i := 11) (d := some 188) (v := ?_) rfl rfl (by kernel_rfl) (by kernel_rfl) (by kernel_rfl) (fun _ _ _ h => h) (Or.inl ⟨by rfl, ?_⟩) (by assumption) ?_
                      rotate_left
                      · (intro w' hSw; (try dsimp only at hSw); go_simp; (try with_reducible rfl))
                      (try simp only [Act.put, List.setIfInBounds_toArray, List.set_cons_zero, List.set_cons_succ])
                      refine takeH (i := 12) (d := some 189) (v := ?_) rfl rfl (by kernel_rfl) (by kernel_rfl) (by kernel_rfl) (fun _ _ _ h => h) (Or.inl ⟨by rfl, ?_⟩) (by assumption) ?_
                      rotate_left
                      · (intro w' hSw; (try dsimp only at hSw); go_simp; (try with_reducible rfl))
                      (try simp only [Act.put, List.setIfInBounds_toArray, List.set_cons_zero, List.set_cons_succ])
                      refine wpAnyH_ready (rs := [13]) (by kernel_rfl) (by simp) ?_
                      refine AllReadyH.cons rfl (fun K hK => ?_) AllReadyH.nil
                      go_simp
                      refine (c_impl_IsIncreasing _ _ _ _ _ _ ho4.row hl4).mono ?_
                      rw [HI.out]
                      rintro e wq9 ⟨rfl, hb⟩
                      replace f1 := f1.below hb
                      replace f3 := f3.below hb
                      replace f4 := f4.below hb
                      replace ho1 := ho1.below hb
                      replace ho3 := ho3.below hb
                      replace ho4 := ho4.below hb
                      replace bel := bel.trans (hb.mono bel.size)
                      clear hb
                      replace kf10 := f1.c0
                      replace kf30 := f3.c0
                      replace kf40 := f4.c0
                      replace kf11 := f1.c1
                      replace kf31 := f3.c1
                      replace kf41 := f4.c1
                      (try go_wp2_with fail)
                      refine hK.out _ _ ?_ (fun hHeld => ?_)
                      · exact ⟨kf10, kf11, kf30, kf31, kf40, kf41⟩
                      clear hK K
                      (try simp only [Act.put, List.setIfInBounds_toArray, List.set_cons_zero, List.set_cons_succ])
                      refine takeH (i := 14) (d := some 191) (v := ?_) rfl rfl (by kernel_rfl) (by kernel_rfl) (by kernel_rfl) (fun _ _ _ h => h) (Or.inl ⟨by rfl, ?_⟩) (by assumption) ?_
                      rotate_left
                      · (intro w' hSw; (try dsimp only at hSw); go_simp; (try with_reducible rfl))
                      (try simp only [Act.put, List.setIfInBounds_toArray, List.set_cons_zero, List.set_cons_succ])
                      refine takeH (i := 15) (d := some 192) (v := ?_) rfl rfl (by kernel_rfl) (by kernel_rfl) (by kernel_rfl) (fun _ _ _ h => h) (Or.inl ⟨by rfl, ?_⟩) (by assumption) ?_
                      rotate_left
                      · (intro w' hSw; (try dsimp only at hSw); go_simp; (try with_reducible rfl))
                      (try simp only [Act.put, List.setIfInBounds_toArray, List.set_cons_zero, List.set_cons_succ])
                      refine takeH (i := 16) (d := some 193) (v := ?_) rfl rfl (by kernel_rfl) (by kernel_rfl) (by kernel_rfl) (fun _ _ _ h => h) (Or.inl ⟨by rfl, ?_⟩) (by assumption) ?_
                      rotate_left
                      · (intro w' hSw; (try dsimp only at hSw); go_simp; (try with_reducible rfl))
                      (try simp only [Act.put, List.setIfInBounds_toArray, List.set_cons_zero, List.set_cons_succ])
                      refine wpAnyH_ready (rs := [17]) (by kernel_rfl) (by simp) ?_
                      refine AllReadyH.cons rfl (fun K hK => ?_) AllReadyH.nil
                      go_simp
                      refine (c_spec_IsSubmodular _ _ _ _ _ _ ho1.row (by have := hf1.2.2; omega)).mono ?_
                      rw [hS]
                      rintro e wq9 ⟨rfl, hb⟩
                      replace f1 := f1.below hb
                      replace f3 := f3.below hb
                      replace f4 := f4.below hb
                      replace ho1 := ho1.below hb
                      replace ho3 := ho3.below hb
                      replace ho4 := ho4.below hb
                      replace bel := bel.trans (hb.mono bel.size)
                      clear hb
                      replace kf10 := f1.c0
                      replace kf30 := f3.c0
                      replace kf40 := f4.c0
                      replace kf11 := f1.c1
                      replace kf31 := f3.c1
                      replace kf41 := f4.c1
                      (try go_wp2_with fail)
                      refine hK.out _ _ ?_ (fun hHeld => ?_)
                      · exact ⟨kf10, kf11, kf30, kf31, kf40, kf41⟩
                      clear hK K
                      (try simp only [Act.put, List.setIfInBounds_toArray, List.set_cons_zero, List.set_cons_succ])
                      refine takeH (i := 18) (d := some 195) (v := ?_) rfl rfl (by kernel_rfl) (by kernel_rfl) (by kernel_rfl) (fun _ _ _ h => h) (Or.inl ⟨by rfl, ?_⟩) (by assumption) ?_
                      rotate_left
                      · (intro w' hSw; (try dsimp only at hSw); go_simp; (try with_reducible rfl))
                      (try simp only [Act.put, List.setIfInBounds_toArray, List.set_cons_zero, List.set_cons_succ])
                      refine takeH (i := 19) (d := some 196) (v := undef) rfl rfl (by kernel_rfl) (by kernel_rfl) (by kernel_rfl) (fun _ _ _ h => h) (Or.inr ⟨by rfl, rfl⟩) (by assumption) ?_
                      (try simp only [Act.put, List.setIfInBounds_toArray, List.set_cons_zero, List.set_cons_succ])
                      refine takeH (i := 20) (d := some 197) (v := undef) rfl rfl (by kernel_rfl) (by kernel_rfl) (by kernel_rfl) (fun _ _ _ h => h) (Or.inr ⟨by rfl, rfl⟩) (by assumption) ?_
                      (try simp only [Act.put, List.setIfInBounds_toArray, List.set_cons_zero, List.set_cons_succ])
                      refine takeH (i := 21) (d := some 198) (v := undef) rfl rfl (by kernel_rfl) (by kernel_rfl) (by kernel_rfl) (fun _ _ _ h => h) (Or.inr ⟨by rfl, rfl⟩) (by assumption) ?_
                      (try simp only [Act.put, List.setIfInBounds_toArray, List.set_cons_zero, List.set_cons_succ])
                      refine takeH (i := 22) (d := some 199) (v := ?_) rfl rfl (by kernel_rfl) (by kernel_rfl) (by kernel_rfl) (fun _ _ _ h => h) (Or.inl ⟨by rfl, ?_⟩) (by assumption) ?_
                      rotate_left
                      · (intro w' hSw; (try dsimp only at hSw); go_simp; (try with_reducible rfl))
                      (try simp only [Act.put, List.setIfInBounds_toArray, List.set_cons_zero, List.set_cons_succ])
                      refine takeH (i := 23) (d := some 200) (v := ?_) rfl rfl (by kernel_rfl) (by kernel_rfl) (by kernel_rfl) (fun _ _ _ h => h) (Or.inl ⟨by rfl, ?_⟩) (by assumption) ?_
                      rotate_left
                      · (intro w' hSw; (try dsimp only at hSw); go_simp; (try with_reducible rfl))
                      (try simp only [Act.put, List.setIfInBounds_toArray, List.set_cons_zero, List.set_cons_succ])
                      refine takeH (i := 24) (d := some 201) (v := ?_) rfl rfl (by kernel_rfl) (by kernel_rfl) (by kernel_rfl) (fun _ _ _ h => h) (Or.inl ⟨by rfl, ?_⟩) (by assumption) ?_
                      rotate_left
                      · (intro w' hSw; (try dsimp only at hSw); go_simp; (try with_reducible rfl))
                      (try simp only [Act.put, List.setIfInBounds_toArray, List.set_cons_zero, List.set_cons_succ])
                      refine takeH (i := 25) (d := some 202) (v := ?_) rfl rfl (by kernel_rfl) (by kernel_rfl) (by kernel_rfl) (fun _ _ _ h => h) (Or.inl ⟨by rfl, ?_⟩) (by assumption) ?_
                      rotate_left
                      · (intro w' hSw; (try dsimp only at hSw); go_simp; (try with_reducible rfl))
                      (try simp only [Act.put, List.setIfInBounds_toArray, List.set_cons_zero, List.set_cons_succ])
                      refine takeH (i := 27) (d := some 204) (v := ?_) rfl rfl (by kernel_rfl) (by kernel_rfl) (by kernel_rfl) (fun _ _ _ h => h) (Or.inl ⟨by rfl, ?_⟩) (by assumption) ?_
                      rotate_left
                      · (intro w' hSw; (try dsimp only at hSw); go_simp; (try with_reducible rfl))
                      (try simp only [Act.put, List.setIfInBounds_toArray, List.set_cons_zero, List.set_cons_succ])
                      refine takeH (i := 28) (d := some 205) (v := ?_) rfl rfl (by kernel_rfl) (by kernel_rfl) (by kernel_rfl) (fun _ _ _ h => h) (Or.inl ⟨by rfl, ?_⟩) (by assumption) ?_
                      rotate_left
                      · (intro w' hSw; (try dsimp only at hSw); go_simp; (try with_reducible rfl))
                      (try simp only [Act.put, List.setIfInBounds_toArray, List.set_cons_zero, List.set_cons_succ])
                      refine wpAnyH_ready (rs := [26]) (by kernel_rfl) (by simp) ?_
                      refine AllReadyH.cons rfl (fun K hK => ?_) AllReadyH.nil
                      go_simp
                      refine (c_spec_IsIncreasing _ _ _ _ _ _ ho1.row (by have := hf1.2.2; omega)).mono ?_
                      rw [HE.out]
                      rintro e wq9 ⟨rfl, hb⟩
                      replace f1 := f1.below hb
                      replace f3 := f3.below hb
                      replace f4 := f4.below hb
                      replace ho1 := ho1.below hb
                      replace ho3 := ho3.below hb
                      replace ho4 := ho4.below hb
                      replace bel := bel.trans (hb.mono bel.size)
                      clear hb
                      replace kf10 := f1.c0
                      replace kf30 := f3.c0
                      replace kf40 := f4.c0
                      replace kf11 := f1.c1
                      replace kf31 := f3.c1
                      replace kf41 := f4.c1
                      (try go_wp2_with fail)
                      refine hK.out _ _ ?_ (fun hHeld => ?_)
                      · exact ⟨kf10, kf11, kf30, kf31, kf40, kf41⟩
                      clear hK K
                      (try simp only [Act.put, List.setIfInBounds_toArray, List.set_cons_zero, List.set_cons_succ])
                      refine wpAnyH_ready (rs := [29]) (by kernel_rfl) (by simp) ?_
                      refine AllReadyH.cons rfl (fun K hK => ?_) AllReadyH.nil
                      go_simp
                      refine (c_spec_EqualFunctions _ _ _ _ _ _ _ _ _ _ _ ho1.row (by have := hf1.2.2; omega) ho4.row hl4).mono ?_
                      rintro e wq9 ⟨rfl, hb⟩
                      replace f1 := f1.below hb
                      replace f3 := f3.below hb
                      replace f4 := f4.below hb
                      replace ho1 := ho1.below hb
                      replace ho3 := ho3.below hb
                      replace ho4 := ho4.below hb
                      replace bel := bel.trans (hb.mono bel.size)
                      clear hb
                      replace kf10 := f1.c0
                      replace kf30 := f3.c0
                      replace kf40 := f4.c0
                      replace kf11 := f1.c1
                      replace kf31 := f3.c1
                      replace kf41 := f4.c1
                      (try go_wp2_with fail)
                      refine hK.out _ _ ?_ (fun hHeld => ?_)
                      · exact ⟨kf10, kf11, kf30, kf31, kf40, kf41⟩
                      clear hK K
                      (try simp only [Act.put, List.setIfInBounds_toArray, List.set_cons_zero, List.set_cons_succ])
                      refine takeH (i := 30) (d := some 207) (v := ?_) rfl rfl (by kernel_rfl) (by kernel_rfl) (by kernel_rfl) (fun _ _ _ h => h) (Or.inl ⟨by rfl, ?_⟩) (by assumption) ?_
                      rotate_left
                      · (intro w' hSw; (try dsimp only at hSw); go_simp; (try with_reducible rfl))
                      (try simp only [Act.put, List.setIfInBounds_toArray, List.set_cons_zero, List.set_cons_succ])
                      refine takeH (i := 31) (d := some 208) (v := ?_) rfl rfl (by kernel_rfl) (by kernel_rfl) (by kernel_rfl) (fun _ _ _ h => h) (Or.inl ⟨by rfl, ?_⟩) (by assumption) ?_
                      rotate_left
                      · (intro w' hSw; (try dsimp only at hSw); go_simp; (try with_reducible rfl))
                      (try simp only [Act.put, List.setIfInBounds_toArray, List.set_cons_zero, List.set_cons_succ])
                      refine takeH (i := 32) (d := some 209) (v := ?_) rfl rfl (by kernel_rfl) (by kernel_rfl) (by kernel_rfl) (fun _ _ _ h => h) (Or.inl ⟨by rfl, ?_⟩) (by assumption) ?_
                      rotate_left
                      · (intro w' hSw; (try dsimp only at hSw); go_simp; (try with_reducible rfl))
                      (try simp only [Act.put, List.setIfInBounds_toArray, List.set_cons_zero, List.set_cons_succ])
                      refine takeH (i := 33) (d := some 210) (v := ?_) rfl rfl (by kernel_rfl) (by kernel_rfl) (by kernel_rfl) (fun _ _ _ h => h) (Or.inl ⟨by rfl, ?_⟩) (by assumption) ?_
                      rotate_left
                      · (intro w' hSw; (try dsimp only at hSw); go_simp; (try with_reducible rfl))
                      (try simp only [Act.put, List.setIfInBounds_toArray, List.set_cons_zero, List.set_cons_succ])
                      refine wpAnyH_done (by kernel_rfl) ?_ _
                      all_goals
                        go_wp2_with fail
                        go_meet
                        exact ⟨rfl, bel⟩
                  | true =>
                    as_aux_lemma =>
                      have HSB := Lib.hid (show subB N L = true by rw [hN, hL]; exact hull_sub hS)
                      clear hf en el hN hL
                      replace f1 := f1.drew
                      replace f3 := f3.drew
                      replace f4 := f4.drew
                      replace ho1 := ho1.drew
                      replace ho3 := ho3.drew
                      replace ho4 := ho4.drew
                      replace bel := bel.drew
                      have kf10 := f1.c0
                      have kf30 := f3.c0
                      have kf40 := f4.c0
                      have kf11 := f1.c1
                      have kf31 := f3.c1
                      have kf41 := f4.c1
                      go_wp2_with fail
                      go_region_held3 (fun w' => w'.cell? ⟨wq1.heap.size, 0, none⟩ = some (.int .i64 m1) ∧ w'.cell? ⟨wq1.heap.size, 1, none⟩ = some (.slice a1 (z1.length) c1) ∧ w'.cell? ⟨wq2.heap.size, 0, none⟩ = some (.int .i64 N) ∧ w'.cell? ⟨wq2.heap.size, 1, none⟩ = some (.slice a3 (L.length) c3) ∧ w'.cell? ⟨wq3.heap.size, 0, none⟩ = some (.int .i64 N) ∧ w'.cell? ⟨wq3.heap.size, 1, none⟩ = some (.slice a4 (L.length) c4)) (go_keep)
                        (first
                          | (go_at_call_of 21 a3; refine (c_spec_EqualFunctions _ _ _ _ _ _ _ _ _ _ _ ho3.row hl3 ho4.row hl4).mono ?_; rw [sameF_self]; rintro e wq9 ⟨rfl, hb⟩; replace f1 := f1.below hb; replace f3 := f3.below hb; replace f4 := f4.below hb; replace ho1 := ho1.below hb; replace ho3 := ho3.below hb; replace ho4 := ho4.below hb; replace bel := bel.trans (hb.mono bel.size); clear hb; replace kf10 := f1.c0; replace kf30 := f3.c0; replace kf40 := f4.c0; replace kf11 := f1.c1; replace kf31 := f3.c1; replace kf41 := f4.c1)
                          | (go_at_call 43; refine (c_impl_IsIncreasing _ _ _ _ _ _ ho4.row hl4).mono ?_; rw [HI.out]; rintro e wq9 ⟨rfl, hb⟩; replace f1 := f1.below hb; replace f3 := f3.below hb; replace f4 := f4.below hb; replace ho1 := ho1.below hb; replace ho3 := ho3.below hb; replace ho4 := ho4.below hb; replace bel := bel.trans (hb.mono bel.size); clear hb; replace kf10 := f1.c0; replace kf30 := f3.c0; replace kf40 := f4.c0; replace kf11 := f1.c1; replace kf31 := f3.c1; replace kf41 := f4.c1)
                          | (go_at_call 22; refine (c_spec_IsSubmodular _ _ _ _ _ _ ho1.row (by have := hf1.2.2; omega)).mono ?_; rw [hS]; rintro e wq9 ⟨rfl, hb⟩; replace f1 := f1.below hb; replace f3 := f3.below hb; replace f4 := f4.below hb; replace ho1 := ho1.below hb; replace ho3 := ho3.below hb; replace ho4 := ho4.below hb; replace bel := bel.trans (hb.mono bel.size); clear hb; replace kf10 := f1.c0; replace kf30 := f3.c0; replace kf40 := f4.c0; replace kf11 := f1.c1; replace kf31 := f3.c1; replace kf41 := f4.c1)
                          | (go_at_call 44; refine (c_spec_IsIncreasing _ _ _ _ _ _ ho1.row (by have := hf1.2.2; omega)).mono ?_; rw [HE.out]; rintro e wq9 ⟨rfl, hb⟩; replace f1 := f1.below hb; replace f3 := f3.below hb; replace f4 := f4.below hb; replace ho1 := ho1.below hb; replace ho3 := ho3.below hb; replace ho4 := ho4.below hb; replace bel := bel.trans (hb.mono bel.size); clear hb; replace kf10 := f1.c0; replace kf30 := f3.c0; replace kf40 := f4.c0; replace kf11 := f1.c1; replace kf31 := f3.c1; replace kf41 := f4.c1)
                          | (go_at_call_of 21 a1; refine (c_spec_EqualFunctions _ _ _ _ _ _ _ _ _ _ _ ho1.row (by have := hf1.2.2; omega) ho4.row hl4).mono ?_; rintro e wq9 ⟨rfl, hb⟩; replace f1 := f1.below hb; replace f3 := f3.below hb; replace f4 := f4.below hb; replace ho1 := ho1.below hb; replace ho3 := ho3.below hb; replace ho4 := ho4.below hb; replace bel := bel.trans (hb.mono bel.size); clear hb; replace kf10 := f1.c0; replace kf30 := f3.c0; replace kf40 := f4.c0; replace kf11 := f1.c1; replace kf31 := f3.c1; replace kf41 := f4.c1)
                          | (go_at_call 23; refine (c_impl_IsSubmodular _ _ _ _ _ _ ho4.row hl4).mono ?_; rw [HSB.out]; rintro e wq9 ⟨rfl, hb⟩; replace f1 := f1.below hb; replace f3 := f3.below hb; replace f4 := f4.below hb; replace ho1 := ho1.below hb; replace ho3 := ho3.below hb; replace ho4 := ho4.below hb; replace bel := bel.trans (hb.mono bel.size); clear hb; replace kf10 := f1.c0; replace kf30 := f3.c0; replace kf40 := f4.c0; replace kf11 := f1.c1; replace kf31 := f3.c1; replace kf41 := f4.c1))
                      all_goals
                        go_wp2_with fail
                        go_meet
                        exact ⟨rfl, bel⟩
            case rest =>
              as_aux_lemma =>
                clear f1 f3 f4 ho1 ho3 ho4 bel HN HL HB hl3 hl4 hf1
                obtain ⟨rfl, bel⟩ := hcut
                go_wp2_with fail
                refine (c_DrawTruncateFunction _ _ _ _ _ (hr0.below bel) hn).mono ?_
                rintro e wp1 ⟨m1, a1, c1, z1, x2, hf1, rfl, ho1, hb⟩
                replace bel := bel.trans (hb.mono bel.size)
                clear hb
                have f1 := FBox.new wp1 26 m1 a1 (z1.length) c1
                replace ho1 := ho1.alloc (.cells #[.int .i64 m1, .slice a1 z1.length c1] 26)
                replace bel := bel.alloc bel.size (.cells #[.int .i64 m1, .slice a1 z1.length c1] 26)
                obtain ⟨N, hN⟩ : ∃ x, x = truncN m1 z1 x2 := ⟨_, rfl⟩
                have HN := Lib.hid hN
                clear hN
                obtain ⟨L, hL⟩ : ∃ x, x = truncL m1 z1 x2 := ⟨_, rfl⟩
                have HL := Lib.hid hL
                clear hL
                obtain ⟨B, hB⟩ : ∃ x, x = truncB m1 z1 x2 := ⟨_, rfl⟩
                have HB := Lib.hid hB
                clear hB
                have kf10 := f1.c0
                have kf11 := f1.c1
                go_wp2_with fail
                clear kf10 kf11
                refine (c_impl_TruncateFunction _ _ _ _ _ _ _ ho1.row (by have := hf1.2.2; omega)).mono ?_
                rw [← HN.out, ← HL.out, ← HB.out]
                rintro e wp2 ⟨a3, c3, rfl, ho3, hl3, hb⟩
                replace f1 := f1.below hb
                replace ho1 := ho1.below hb
                replace bel := bel.trans (hb.mono bel.size)
                clear hb
                have f3 := FBox.new wp2 26 N a3 (L.length) c3
                replace f1 := f1.alloc (.cells #[.int .i64 N, .slice a3 L.length c3] 26)
                replace ho1 := ho1.alloc (.cells #[.int .i64 N, .slice a3 L.length c3] 26)
                replace ho3 := ho3.alloc (.cells #[.int .i64 N, .slice a3 L.length c3] 26)
                replace bel := bel.alloc bel.size (.cells #[.int .i64 N, .slice a3 L.length c3] 26)
                have kf10 := f1.c0
                have kf11 := f1.c1
                go_wp2_with fail
                clear kf10 kf11
                refine (c_spec_TruncateFunction _ _ _ _ _ _ _ ho1.row (by have := hf1.2.2; omega)).mono ?_
                rw [← HN.out, ← HL.out, ← HB.out]
                rintro e wp3 ⟨a4, c4, rfl, ho4, hl4, hb⟩
                replace f1 := f1.below hb
                replace f3 := f3.below hb
                replace ho1 := ho1.below hb
                replace ho3 := ho3.below hb
                replace bel := bel.trans (hb.mono bel.size)
                clear hb
                have f4 := FBox.new wp3 26 N a4 (L.length) c4
                replace f1 := f1.alloc (.cells #[.int .i64 N, .slice a4 L.length c4] 26)
                replace f3 := f3.alloc (.cells #[.int .i64 N, .slice a4 L.length c4] 26)
                replace ho1 := ho1.alloc (.cells #[.int .i64 N, .slice a4 L.length c4] 26)
                replace ho3 := ho3.alloc (.cells #[.int .i64 N, .slice a4 L.length c4] 26)
                replace ho4 := ho4.alloc (.cells #[.int .i64 N, .slice a4 L.length c4] 26)
                replace bel := bel.alloc bel.size (.cells #[.int .i64 N, .slice a4 L.length c4] 26)
                go_wp2_with fail
                refine (c_DrawSplitOf _ _ _ _ _ (hr0.below bel) hn).mono ?_
                rintro e wp4 ⟨m5, a5, c5, z5, m6, a6, c6, z6, x7, hf5, hf6, rfl, ho5, ho6, hb⟩
                replace f1 := f1.below hb
                replace f3 := f3.below hb
                replace f4 := f4.below hb
                replace ho1 := ho1.below hb
                replace ho3 := ho3.below hb
                replace ho4 := ho4.below hb
                replace bel := bel.trans (hb.mono bel.size)
                clear hb
                have f5 := FBox.new wp4 26 m5 a5 (z5.length) c5
                replace f1 := f1.alloc (.cells #[.int .i64 m5, .slice a5 z5.length c5] 26)
                replace f3 := f3.alloc (.cells #[.int .i64 m5, .slice a5 z5.length c5] 26)
                replace f4 := f4.alloc (.cells #[.int .i64 m5, .slice a5 z5.length c5] 26)
                replace ho1 := ho1.alloc (.cells #[.int .i64 m5, .slice a5 z5.length c5] 26)
                replace ho3 := ho3.alloc (.cells #[.int .i64 m5, .slice a5 z5.length c5] 26)
                replace ho4 := ho4.alloc (.cells #[.int .i64 m5, .slice a5 z5.length c5] 26)
                replace ho5 := ho5.alloc (.cells #[.int .i64 m5, .slice a5 z5.length c5] 26)
                replace ho6 := ho6.alloc (.cells #[.int .i64 m5, .slice a5 z5.length c5] 26)
                replace bel := bel.alloc bel.size (.cells #[.int .i64 m5, .slice a5 z5.length c5] 26)
                have f6 := FBox.new (wp4.alloc (.cells #[.int .i64 m5, .slice a5 z5.length c5] 26)) 26 m6 a6 (z6.length) c6
                (try simp only [World.size_alloc] at f6)
                replace f1 := f1.alloc (.cells #[.int .i64 m6, .slice a6 z6.length c6] 26)
                replace f3 := f3.alloc (.cells #[.int .i64 m6, .slice a6 z6.length c6] 26)
                replace f4 := f4.alloc (.cells #[.int .i64 m6, .slice a6 z6.length c6] 26)
                replace f5 := f5.alloc (.cells #[.int .i64 m6, .slice a6 z6.length c6] 26)
                replace ho1 := ho1.alloc (.cells #[.int .i64 m6, .slice a6 z6.length c6] 26)
                replace ho3 := ho3.alloc (.cells #[.int .i64 m6, .slice a6 z6.length c6] 26)
                replace ho4 := ho4.alloc (.cells #[.int .i64 m6, .slice a6 z6.length c6] 26)
                replace ho5 := ho5.alloc (.cells #[.int .i64 m6, .slice a6 z6.length c6] 26)
                replace ho6 := ho6.alloc (.cells #[.int .i64 m6, .slice a6 z6.length c6] 26)
                replace bel := bel.alloc bel.size (.cells #[.int .i64 m6, .slice a6 z6.length c6] 26)
                obtain ⟨K1, hK1⟩ : ∃ x, x = splitR m5 z5 m6 z6 x7 := ⟨_, rfl⟩
                have HK1 := Lib.hid hK1
                clear hK1
                obtain ⟨K2, hK2⟩ : ∃ x, x = splitB m5 z5 m6 z6 x7 := ⟨_, rfl⟩
                have HK2 := Lib.hid hK2
                clear hK2
                have kf50 := f5.c0
                have kf51 := f5.c1
                have kf60 := f6.c0
                have kf61 := f6.c1
                go_wp2_with fail
                clear kf50 kf51 kf60 kf61
                refine (c_impl_SplitOf _ _ _ _ _ _ _ _ _ _ _ _ ho5.row (by have := hf5.2.2; omega) ho6.row (by have := hf6.2.2; omega)).mono ?_
                rw [← HK1.out, ← HK2.out]
                rintro e wp5 ⟨rfl, hb⟩
                replace f1 := f1.below hb
                replace f3 := f3.below hb
                replace f4 := f4.below hb
                replace f5 := f5.below hb
                replace f6 := f6.below hb
                replace ho1 := ho1.below hb
                replace ho3 := ho3.below hb
                replace ho4 := ho4.below hb
                replace ho5 := ho5.below hb
                replace ho6 := ho6.below hb
                replace bel := bel.trans (hb.mono bel.size)
                clear hb
                have kf50 := f5.c0
                have kf51 := f5.c1
                have kf60 := f6.c0
                have kf61 := f6.c1
                go_wp2_with fail
                clear kf50 kf51 kf60 kf61
                refine (c_spec_SplitOf _ _ _ _ _ _ _ _ _ _ _ _ ho5.row (by have := hf5.2.2; omega) ho6.row (by have := hf6.2.2; omega)).mono ?_
                rw [← HK1.out, ← HK2.out]
                rintro e wp6 ⟨rfl, hb⟩
                replace f1 := f1.below hb
                replace f3 := f3.below hb
                replace f4 := f4.below hb
                replace f5 := f5.below hb
                replace f6 := f6.below hb
                replace ho1 := ho1.below hb
                replace ho3 := ho3.below hb
                replace ho4 := ho4.below hb
                replace ho5 := ho5.below hb
                replace ho6 := ho6.below hb
                replace bel := bel.trans (hb.mono bel.size)
                clear hb
                cases hBB : B with
                | false =>
                  have kf30 := f3.c0
                  have kf31 := f3.c1
                  have kf40 := f4.c0
                  have kf41 := f4.c1
                  go_wp2_with fail
                  clear kf30 kf31 kf40 kf41
                  refine (c_spec_EqualFunctions _ _ _ _ _ _ _ _ _ _ _ ho3.row hl3 ho4.row hl4).mono ?_
                  rw [sameF_self]
                  rintro e wp7 ⟨rfl, hb⟩
                  replace f1 := f1.below hb
                  replace f3 := f3.below hb
                  replace f4 := f4.below hb
                  replace f5 := f5.below hb
                  replace f6 := f6.below hb
                  replace ho1 := ho1.below hb
                  replace ho3 := ho3.below hb
                  replace ho4 := ho4.below hb
                  replace ho5 := ho5.below hb
                  replace ho6 := ho6.below hb
                  replace bel := bel.trans (hb.mono bel.size)
                  clear hb
                  go_wp2
                  go_ret
                  exact ⟨rfl, bel⟩
                | true =>
                  have kf30 := f3.c0
                  have kf31 := f3.c1
                  have kf40 := f4.c0
                  have kf41 := f4.c1
                  go_wp2_with fail
                  clear kf30 kf31 kf40 kf41
                  refine (c_spec_EqualFunctions _ _ _ _ _ _ _ _ _ _ _ ho3.row hl3 ho4.row hl4).mono ?_
                  rw [sameF_self]
                  rintro e wp7 ⟨rfl, hb⟩
                  replace f1 := f1.below hb
                  replace f3 := f3.below hb
                  replace f4 := f4.below hb
                  replace f5 := f5.below hb
                  replace f6 := f6.below hb
                  replace ho1 := ho1.below hb
                  replace ho3 := ho3.below hb
                  replace ho4 := ho4.below hb
                  replace ho5 := ho5.below hb
                  replace ho6 := ho6.below hb
                  replace bel := bel.trans (hb.mono bel.size)
                  clear hb
                  have hT : truncB m1 z1 x2 = true := HB.out.symm.trans hBB
                  have HT := Lib.hid hT
                  clear hT
                  cases hS : polyB m1 z1 with
                  | false =>
                    have kf10 := f1.c0
                    have kf11 := f1.c1
                    go_wp2_with fail
                    clear kf10 kf11
                    refine (c_spec_IsPolymatroid _ _ _ _ _ _ ho1.row (by have := hf1.2.2; omega)).mono ?_
                    rw [hS]
                    rintro e wp8 ⟨rfl, hb⟩
                    replace f1 := f1.below hb
                    replace f3 := f3.below hb
                    replace f4 := f4.below hb
                    replace f5 := f5.below hb
                    replace f6 := f6.below hb
                    replace ho1 := ho1.below hb
                    replace ho3 := ho3.below hb
                    replace ho4 := ho4.below hb
                    replace ho5 := ho5.below hb
                    replace ho6 := ho6.below hb
                    replace bel := bel.trans (hb.mono bel.size)
                    clear hb
                    go_wp2
                    go_ret
                    exact ⟨rfl, bel⟩
                  | true =>
                    have kf10 := f1.c0
                    have kf11 := f1.c1
                    go_wp2_with fail
                    clear kf10 kf11
                    refine (c_spec_IsPolymatroid _ _ _ _ _ _ ho1.row (by have := hf1.2.2; omega)).mono ?_
                    rw [hS]
                    rintro e wp8 ⟨rfl, hb⟩
                    replace f1 := f1.below hb
                    replace f3 := f3.below hb
                    replace f4 := f4.below hb
                    replace f5 := f5.below hb
                    replace f6 := f6.below hb
                    replace ho1 := ho1.below hb
                    replace ho3 := ho3.below hb
                    replace ho4 := ho4.below hb
                    replace ho5 := ho5.below hb
                    replace ho6 := ho6.below hb
                    replace bel := bel.trans (hb.mono bel.size)
                    clear hb
                    have hNL : subB N L = true := by rw [HN.out, HL.out, (trunc_fun HT.out).1, (trunc_fun HT.out).2]; exact trunc_sub HT.out hS
                    have kf40 := f4.c0
                    have kf41 := f4.c1
                    go_wp2_with fail
                    clear kf40 kf41
                    refine (c_impl_IsSubmodular _ _ _ _ _ _ ho4.row hl4).mono ?_
                    rw [hNL]
                    rintro e wp9 ⟨rfl, hb⟩
                    replace f1 := f1.below hb
                    replace f3 := f3.below hb
                    replace f4 := f4.below hb
                    replace f5 := f5.below hb
                    replace f6 := f6.below hb
                    replace ho1 := ho1.below hb
                    replace ho3 := ho3.below hb
                    replace ho4 := ho4.below hb
                    replace ho5 := ho5.below hb
                    replace ho6 := ho6.below hb
                    replace bel := bel.trans (hb.mono bel.size)
                    clear hb
                    go_wp2
                    go_ret
                    exact ⟨rfl, bel⟩
  · have hbig : decide (1048576 < (n0 : Int)) = true := by simp; omega
    go_enter Try.func4, Try.ntmps4
    go_wp2_with fail
    refine (c_big _ _ _ _ hm0).mono ?_
    rw [hbig]
    rintro e w' ⟨rfl, rfl⟩
    go_wp2
    go_ret
    exact ⟨rfl, Below.refl _ _⟩
end Go.Proofs.Ytfcgijnfiiaepaa
