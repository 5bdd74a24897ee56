/- The walk of FnIntegerEncodings: it returns true. -/
import Derived.Test.YtfcgijnfiiaepaaDoorEncL
namespace Go.Proofs.YtfcgijnfiiaepaaDoor
set_option linter.unusedSimpArgs false
set_option linter.unusedVariables false
open Go.RowKit

theorem numL_len20 (n : Int) (h0 : -9223372036854775808 ≤ n) (h1 : n ≤ 9223372036854775807) : (itoaS n).size ≤ 20 := by
  rw [itoaS_size]
  have hk : ∀ u : Nat, u ≤ 9223372036854775808 → (digL u).length ≤ 19 := fun u hu => digL_length 19 u (Nat.lt_of_le_of_lt hu (by decide))
  unfold numL
  split
  · decide
  · split
    · have := hk n.toNat (by omega); omega
    · have := hk (-n).toNat (by omega); simp; omega
theorem size_nonempty {s : ByteArray} (h : 1 ≤ s.size) : (s.toList == []) = false := by
  rw [ByteArray.toList_eq, beq_eq_false_iff_ne]
  intro e
  have : s.data.toList.length = 0 := by rw [e]; rfl
  have h2 : s.size = s.data.toList.length := by simp
  omega
theorem enc_facts (n : Int) (t : ByteArray) : (encV n).size ≤ 7 ∧ ((0 ≤ n ∧ n ≤ 562949953421311) → ((encV n).toList == []) = false ∧ (∀ x k : Int, DV (numsOf (encV n ++ t)) x k → x = n ∧ k = ((encV n).size : Int))) ∧ ((n < 0 ∨ 562949953421311 < n) → ((encV n).toList == []) = true) := by
  refine ⟨?_, fun h => ⟨size_nonempty (encV_pos h.1 h.2).1, fun x k hd => dv_enc h.1 h.2 t hd⟩, fun h => by rw [encV_out h, ByteArray.toList_eq]; rfl⟩
  by_cases h : 0 ≤ n ∧ n ≤ 562949953421311
  · exact (encV_pos h.1 h.2).2
  · rw [encV_out (by omega)]; decide
theorem fix_facts (n width : Int) (t : ByteArray) : (encF n width).size ≤ 7 ∧ (encFOk n width = true → ((encF n width).toList == []) = false ∧ ((encF n width).size : Int) = width ∧ fixedOk (encF n width ++ t) width = true ∧ decFixed (encF n width ++ t) width = n) ∧ (encFOk n width = false → ((encF n width).toList == []) = true) := by
  have h0 : encFOk n width = false → encF n width = ⟨#[]⟩ := fun h => by rw [encF, if_neg (by rw [h]; decide)]
  refine ⟨?_, fun h => ⟨size_nonempty ?_, encF_size h, (decF_enc h t).1, (decF_enc h t).2⟩, fun h => by rw [h0 h, ByteArray.toList_eq]; rfl⟩
  · cases h : encFOk n width with
    | true => have := encF_size h; have := (encFOk_facts h).1; omega
    | false => rw [h0 h]; decide
  · have := encF_size h; have := (encFOk_facts h).1; omega
set_option maxHeartbeats 4000000 in
set_option maxRecDepth 20000 in
theorem walk_FnIntegerEncodings (a0 : Option Addr) (n0 c0 : Nat) (z0 : List Int) (w : World) (w0 : InRow .u8 w a0 n0 c0 z0) (htab : Go.Lib.TabIs Tryd.prog w "internal/strconv.uint64pow10" .u64 Go.Lib.pow10Tab) :
    Calls Tryd.prog 4 #[.slice a0 n0 c0] w fun e w' => e = .returned (.bool true) ∧ Below w.heap.size w w' := by
  have HT := Lib.hid (TabB.of htab)
  clear htab
  obtain ⟨hr0, hnc0, hcm0, _⟩ := w0
  have hm0 : n0 ≤ maxLen := Nat.le_trans hnc0 hcm0
  by_cases hn : n0 ≤ 1048576
  · have hbig : decide (1048576 < (n0 : Int)) = false := by simp; omega
    go_enter Tryd.func4, Tryd.ntmps4
    go_wp2_with fail
    refine (c_big _ _ _ _ hm0).mono ?_
    rw [hbig]
    rintro e w' ⟨rfl, rfl⟩
    clear hbig
    go_wp2_with fail
    refine (c_DrawEncodeVarint _ _ _ _ _ hr0 hn).mono ?_
    rintro e w1 ⟨n, rfl, hn0, hn1, bel⟩
    go_wp2_with fail
    refine (c_DrawEncodeHex _ _ _ _ _ (hr0.below bel) hn).mono ?_
    rintro e w2 ⟨t, rfl, ht, hb⟩
    replace bel := bel.trans (hb.mono bel.size)
    clear hb
    go_wp2_with fail
    refine (c_impl_EncodeVarint _ _).mono ?_
    rintro e w3 ⟨rfl, hb⟩
    replace bel := bel.trans (hb.mono bel.size)
    clear hb
    have hcase : (0 ≤ n ∧ n ≤ 562949953421311) ∨ n < 0 ∨ (0 ≤ n ∧ 562949953421311 < n) := by omega
    have hvs := enc_facts n t
    obtain ⟨s, hs⟩ : ∃ s, s = encV n := ⟨_, rfl⟩
    rw [← hs] at hvs ⊢
    clear hs
    obtain ⟨hv1, hv2, hv3⟩ := hvs
    have hadd : ∀ w', (Op.stringOp .add s t).run Tryd.prog w' = .ok (.string (s ++ t)) w' := fun w' => run_string_add_sum (P := Tryd.prog) w' _ _ (by omega)
    have hst : (s ++ t).size ≤ 1048576 := by rw [ByteArray.size_append]; omega
    go_wp2_with fail
    refine (c_impl_DecodeVarint _ _ hst).mono ?_
    rintro e w4 ⟨x, k, rfl, hdv, hb⟩
    replace bel := bel.trans (hb.mono bel.size)
    clear hb hst hadd
    rcases hcase with hc | hc | hc
    · obtain ⟨hne, hxk⟩ := hv2 hc
      obtain ⟨rfl, rfl⟩ := hxk x k hdv
      obtain ⟨hc1, hc2⟩ := hc
      clear hxk hdv hv1 hv2 hv3 hn0 hn1
      go_wp2_with fail
      clear hne hc1 hc2
      refine (c_DrawEncodeFixed _ _ _ _ _ (hr0.below bel) hn).mono ?_
      rintro e w5 ⟨x2, y2, rfl, hx2, hy2, hb⟩
      replace bel := bel.trans (hb.mono bel.size)
      clear hb hr0
      have hsp : ∀ w', Calls Tryd.prog 18 #[.int .i64 x2, .int .i64 y2] w' fun e w2 => e = .returned (.string (encF x2 y2)) ∧ Below w'.heap.size w' w2 := fun w' => c_spec_EncodeFixed x2 y2 w' (by omega) (by omega) (by omega)
      go_wp2_with fail
      refine (c_impl_EncodeFixed _ _ _ (by omega) (by omega) (by omega)).mono ?_
      rintro e w6 ⟨rfl, hb⟩
      replace bel := bel.trans (hb.mono bel.size)
      clear hb
      have hfx := fix_facts x2 y2 t
      obtain ⟨f, hf⟩ : ∃ f, f = encF x2 y2 := ⟨_, rfl⟩
      rw [← hf] at hfx hsp ⊢
      clear hf
      obtain ⟨hf1, hf2, hf3⟩ := hfx
      have hadd : ∀ w', (Op.stringOp .add f t).run Tryd.prog w' = .ok (.string (f ++ t)) w' := fun w' => run_string_add_sum (P := Tryd.prog) w' _ _ (by omega)
      have hst : (f ++ t).size ≤ 1048576 := by rw [ByteArray.size_append]; omega
      go_wp2_with fail
      refine (c_impl_DecodeFixed _ _ _ hst).mono ?_
      cases hok : encFOk x2 y2 with
      | true =>
        obtain ⟨hne, hwd, hfo, hdf⟩ := hf2 hok
        rw [hfo, hdf]
        rintro e w7 ⟨rfl, rfl⟩
        clear hf1 hf2 hf3 hfo hdf hok hst hadd
        subst hwd
        go_wp2_with (first | (go_at_call 18; refine (hsp _).mono ?_; rintro e w7 ⟨rfl, hb7⟩; replace bel := bel.trans (hb7.mono bel.size)) | fail)
        clear hne hsp hy2
        refine (c_impl_EncodeHex _ _ (by omega)).mono ?_
        rintro e w8 ⟨rfl, hb⟩
        replace bel := bel.trans (hb.mono bel.size)
        clear hb
        obtain ⟨hx1, hx3, hx4⟩ := hex_back t
        obtain ⟨h, hh⟩ : ∃ h, h = strOfNums (hexL (numsOf t)) := ⟨_, rfl⟩
        rw [← hh] at hx1 hx3 hx4 ⊢
        clear hh
        go_wp2_with fail
        refine (c_impl_DecodeHex _ _ (by omega)).mono ?_
        rw [hx1, hx3]
        rintro e w9 ⟨rfl, hb⟩
        replace bel := bel.trans (hb.mono bel.size)
        have hx5 : (h.size : Int) = 2 * (t.size : Int) := by omega
        have hx6 : IntKind.i64.wrap (2 * (t.size : Int)) = 2 * (t.size : Int) := IntWalk.i64_in _ (by omega)
        clear hb hx1 hx3 hx4
        go_wp2_with fail
        refine (c_impl_FormatInt _ _ w.heap.size bel.size hx2.1 hx2.2 (HT.out.on bel)).mono ?_
        rintro e w10 ⟨rfl, hb⟩
        replace bel := bel.trans (hb.mono bel.size)
        clear hb
        have hd20 := numL_len20 x2 hx2.1 hx2.2
        have hpo := parseOk_itoa x2
        have hpv := parseV_itoa x2
        have hsf : ∀ w', Calls Tryd.prog 23 #[.int .i64 x2] w' fun e w2 => e = .returned (.string (itoaS x2)) ∧ Below w'.heap.size w' w2 := fun w' => c_spec_FormatInt x2 w' hx2.1 hx2.2
        obtain ⟨d, hd⟩ : ∃ d, d = itoaS x2 := ⟨_, rfl⟩
        rw [← hd] at hd20 hpo hpv hsf ⊢
        clear hd
        go_wp2_with fail
        refine (c_impl_ParseInt _ _ w.heap.size bel.size (by omega) (HT.out.on bel)).mono ?_
        rintro e w11 ⟨rfl, hb⟩
        replace bel := bel.trans (hb.mono bel.size)
        clear hb hd20 HT
        have hcz : (-1000000000 < x2 ∧ x2 < 1000000000) ∨ x2 ≤ -1000000000 ∨ (-1000000000 < x2 ∧ 1000000000 ≤ x2) := by omega
        rcases hcz with hz | hz | hz
        · rw [hpv hz.1 hz.2]
          rw [show parseOk d = true by rw [hpo]; simp [hz.1, hz.2]]
          obtain ⟨hz1, hz2⟩ := hz
          clear hpo hpv
          go_wp2_with (go_at_call 23; refine (hsf _).mono ?_; rintro e w12 ⟨rfl, hb12⟩)
          go_ret
          exact ⟨rfl, bel.trans (hb12.mono bel.size)⟩
        · rw [show parseOk d = false by rw [hpo]; simp; omega]
          clear hpo hpv
          go_wp2_with (go_at_call 23; refine (hsf _).mono ?_; rintro e w12 ⟨rfl, hb12⟩)
          go_ret
          exact ⟨rfl, bel.trans (hb12.mono bel.size)⟩
        · rw [show parseOk d = false by rw [hpo]; simp; omega]
          obtain ⟨hz1, hz2⟩ := hz
          have hz3 : decide (x2 < 1000000000) = false := by simp; omega
          clear hpo hpv
          go_wp2_with (go_at_call 23; refine (hsf _).mono ?_; rintro e w12 ⟨rfl, hb12⟩)
          go_ret
          exact ⟨rfl, bel.trans (hb12.mono bel.size)⟩
      | false =>
        have hne := hf3 hok
        rintro e w7 ⟨rfl, rfl⟩
        clear hf1 hf2 hf3 hok hst hadd
        go_wp2_with (first | (go_at_call 18; refine (hsp _).mono ?_; rintro e w7 ⟨rfl, hb7⟩; replace bel := bel.trans (hb7.mono bel.size)) | fail)
        clear hne hsp hy2
        refine (c_impl_EncodeHex _ _ (by omega)).mono ?_
        rintro e w8 ⟨rfl, hb⟩
        replace bel := bel.trans (hb.mono bel.size)
        clear hb
        obtain ⟨hx1, hx3, hx4⟩ := hex_back t
        obtain ⟨h, hh⟩ : ∃ h, h = strOfNums (hexL (numsOf t)) := ⟨_, rfl⟩
        rw [← hh] at hx1 hx3 hx4 ⊢
        clear hh
        go_wp2_with fail
        refine (c_impl_DecodeHex _ _ (by omega)).mono ?_
        rw [hx1, hx3]
        rintro e w9 ⟨rfl, hb⟩
        replace bel := bel.trans (hb.mono bel.size)
        have hx5 : (h.size : Int) = 2 * (t.size : Int) := by omega
        have hx6 : IntKind.i64.wrap (2 * (t.size : Int)) = 2 * (t.size : Int) := IntWalk.i64_in _ (by omega)
        clear hb hx1 hx3 hx4
        go_wp2_with fail
        refine (c_impl_FormatInt _ _ w.heap.size bel.size hx2.1 hx2.2 (HT.out.on bel)).mono ?_
        rintro e w10 ⟨rfl, hb⟩
        replace bel := bel.trans (hb.mono bel.size)
        clear hb
        have hd20 := numL_len20 x2 hx2.1 hx2.2
        have hpo := parseOk_itoa x2
        have hpv := parseV_itoa x2
        have hsf : ∀ w', Calls Tryd.prog 23 #[.int .i64 x2] w' fun e w2 => e = .returned (.string (itoaS x2)) ∧ Below w'.heap.size w' w2 := fun w' => c_spec_FormatInt x2 w' hx2.1 hx2.2
        obtain ⟨d, hd⟩ : ∃ d, d = itoaS x2 := ⟨_, rfl⟩
        rw [← hd] at hd20 hpo hpv hsf ⊢
        clear hd
        go_wp2_with fail
        refine (c_impl_ParseInt _ _ w.heap.size bel.size (by omega) (HT.out.on bel)).mono ?_
        rintro e w11 ⟨rfl, hb⟩
        replace bel := bel.trans (hb.mono bel.size)
        clear hb hd20 HT
        have hcz : (-1000000000 < x2 ∧ x2 < 1000000000) ∨ x2 ≤ -1000000000 ∨ (-1000000000 < x2 ∧ 1000000000 ≤ x2) := by omega
        rcases hcz with hz | hz | hz
        · rw [hpv hz.1 hz.2]
          rw [show parseOk d = true by rw [hpo]; simp [hz.1, hz.2]]
          obtain ⟨hz1, hz2⟩ := hz
          clear hpo hpv
          go_wp2_with (go_at_call 23; refine (hsf _).mono ?_; rintro e w12 ⟨rfl, hb12⟩)
          go_ret
          exact ⟨rfl, bel.trans (hb12.mono bel.size)⟩
        · rw [show parseOk d = false by rw [hpo]; simp; omega]
          clear hpo hpv
          go_wp2_with (go_at_call 23; refine (hsf _).mono ?_; rintro e w12 ⟨rfl, hb12⟩)
          go_ret
          exact ⟨rfl, bel.trans (hb12.mono bel.size)⟩
        · rw [show parseOk d = false by rw [hpo]; simp; omega]
          obtain ⟨hz1, hz2⟩ := hz
          have hz3 : decide (x2 < 1000000000) = false := by simp; omega
          clear hpo hpv
          go_wp2_with (go_at_call 23; refine (hsf _).mono ?_; rintro e w12 ⟨rfl, hb12⟩)
          go_ret
          exact ⟨rfl, bel.trans (hb12.mono bel.size)⟩
    · have hne := hv3 (.inl hc)
      clear hdv hv1 hv2 hv3 hn0 hn1
      go_wp2_with fail
      clear hne hc
      refine (c_DrawEncodeFixed _ _ _ _ _ (hr0.below bel) hn).mono ?_
      rintro e w5 ⟨x2, y2, rfl, hx2, hy2, hb⟩
      replace bel := bel.trans (hb.mono bel.size)
      clear hb hr0
      have hsp : ∀ w', Calls Tryd.prog 18 #[.int .i64 x2, .int .i64 y2] w' fun e w2 => e = .returned (.string (encF x2 y2)) ∧ Below w'.heap.size w' w2 := fun w' => c_spec_EncodeFixed x2 y2 w' (by omega) (by omega) (by omega)
      go_wp2_with fail
      refine (c_impl_EncodeFixed _ _ _ (by omega) (by omega) (by omega)).mono ?_
      rintro e w6 ⟨rfl, hb⟩
      replace bel := bel.trans (hb.mono bel.size)
      clear hb
      have hfx := fix_facts x2 y2 t
      obtain ⟨f, hf⟩ : ∃ f, f = encF x2 y2 := ⟨_, rfl⟩
      rw [← hf] at hfx hsp ⊢
      clear hf
      obtain ⟨hf1, hf2, hf3⟩ := hfx
      have hadd : ∀ w', (Op.stringOp .add f t).run Tryd.prog w' = .ok (.string (f ++ t)) w' := fun w' => run_string_add_sum (P := Tryd.prog) w' _ _ (by omega)
      have hst : (f ++ t).size ≤ 1048576 := by rw [ByteArray.size_append]; omega
      go_wp2_with fail
      refine (c_impl_DecodeFixed _ _ _ hst).mono ?_
      cases hok : encFOk x2 y2 with
      | true =>
        obtain ⟨hne, hwd, hfo, hdf⟩ := hf2 hok
        rw [hfo, hdf]
        rintro e w7 ⟨rfl, rfl⟩
        clear hf1 hf2 hf3 hfo hdf hok hst hadd
        subst hwd
        go_wp2_with (first | (go_at_call 18; refine (hsp _).mono ?_; rintro e w7 ⟨rfl, hb7⟩; replace bel := bel.trans (hb7.mono bel.size)) | fail)
        clear hne hsp hy2
        refine (c_impl_EncodeHex _ _ (by omega)).mono ?_
        rintro e w8 ⟨rfl, hb⟩
        replace bel := bel.trans (hb.mono bel.size)
        clear hb
        obtain ⟨hx1, hx3, hx4⟩ := hex_back t
        obtain ⟨h, hh⟩ : ∃ h, h = strOfNums (hexL (numsOf t)) := ⟨_, rfl⟩
        rw [← hh] at hx1 hx3 hx4 ⊢
        clear hh
        go_wp2_with fail
        refine (c_impl_DecodeHex _ _ (by omega)).mono ?_
        rw [hx1, hx3]
        rintro e w9 ⟨rfl, hb⟩
        replace bel := bel.trans (hb.mono bel.size)
        have hx5 : (h.size : Int) = 2 * (t.size : Int) := by omega
        have hx6 : IntKind.i64.wrap (2 * (t.size : Int)) = 2 * (t.size : Int) := IntWalk.i64_in _ (by omega)
        clear hb hx1 hx3 hx4
        go_wp2_with fail
        refine (c_impl_FormatInt _ _ w.heap.size bel.size hx2.1 hx2.2 (HT.out.on bel)).mono ?_
        rintro e w10 ⟨rfl, hb⟩
        replace bel := bel.trans (hb.mono bel.size)
        clear hb
        have hd20 := numL_len20 x2 hx2.1 hx2.2
        have hpo := parseOk_itoa x2
        have hpv := parseV_itoa x2
        have hsf : ∀ w', Calls Tryd.prog 23 #[.int .i64 x2] w' fun e w2 => e = .returned (.string (itoaS x2)) ∧ Below w'.heap.size w' w2 := fun w' => c_spec_FormatInt x2 w' hx2.1 hx2.2
        obtain ⟨d, hd⟩ : ∃ d, d = itoaS x2 := ⟨_, rfl⟩
        rw [← hd] at hd20 hpo hpv hsf ⊢
        clear hd
        go_wp2_with fail
        refine (c_impl_ParseInt _ _ w.heap.size bel.size (by omega) (HT.out.on bel)).mono ?_
        rintro e w11 ⟨rfl, hb⟩
        replace bel := bel.trans (hb.mono bel.size)
        clear hb hd20 HT
        have hcz : (-1000000000 < x2 ∧ x2 < 1000000000) ∨ x2 ≤ -1000000000 ∨ (-1000000000 < x2 ∧ 1000000000 ≤ x2) := by omega
        rcases hcz with hz | hz | hz
        · rw [hpv hz.1 hz.2]
          rw [show parseOk d = true by rw [hpo]; simp [hz.1, hz.2]]
          obtain ⟨hz1, hz2⟩ := hz
          clear hpo hpv
          go_wp2_with (go_at_call 23; refine (hsf _).mono ?_; rintro e w12 ⟨rfl, hb12⟩)
          go_ret
          exact ⟨rfl, bel.trans (hb12.mono bel.size)⟩
        · rw [show parseOk d = false by rw [hpo]; simp; omega]
          clear hpo hpv
          go_wp2_with (go_at_call 23; refine (hsf _).mono ?_; rintro e w12 ⟨rfl, hb12⟩)
          go_ret
          exact ⟨rfl, bel.trans (hb12.mono bel.size)⟩
        · rw [show parseOk d = false by rw [hpo]; simp; omega]
          obtain ⟨hz1, hz2⟩ := hz
          have hz3 : decide (x2 < 1000000000) = false := by simp; omega
          clear hpo hpv
          go_wp2_with (go_at_call 23; refine (hsf _).mono ?_; rintro e w12 ⟨rfl, hb12⟩)
          go_ret
          exact ⟨rfl, bel.trans (hb12.mono bel.size)⟩
      | false =>
        have hne := hf3 hok
        rintro e w7 ⟨rfl, rfl⟩
        clear hf1 hf2 hf3 hok hst hadd
        go_wp2_with (first | (go_at_call 18; refine (hsp _).mono ?_; rintro e w7 ⟨rfl, hb7⟩; replace bel := bel.trans (hb7.mono bel.size)) | fail)
        clear hne hsp hy2
        refine (c_impl_EncodeHex _ _ (by omega)).mono ?_
        rintro e w8 ⟨rfl, hb⟩
        replace bel := bel.trans (hb.mono bel.size)
        clear hb
        obtain ⟨hx1, hx3, hx4⟩ := hex_back t
        obtain ⟨h, hh⟩ : ∃ h, h = strOfNums (hexL (numsOf t)) := ⟨_, rfl⟩
        rw [← hh] at hx1 hx3 hx4 ⊢
        clear hh
        go_wp2_with fail
        refine (c_impl_DecodeHex _ _ (by omega)).mono ?_
        rw [hx1, hx3]
        rintro e w9 ⟨rfl, hb⟩
        replace bel := bel.trans (hb.mono bel.size)
        have hx5 : (h.size : Int) = 2 * (t.size : Int) := by omega
        have hx6 : IntKind.i64.wrap (2 * (t.size : Int)) = 2 * (t.size : Int) := IntWalk.i64_in _ (by omega)
        clear hb hx1 hx3 hx4
        go_wp2_with fail
        refine (c_impl_FormatInt _ _ w.heap.size bel.size hx2.1 hx2.2 (HT.out.on bel)).mono ?_
        rintro e w10 ⟨rfl, hb⟩
        replace bel := bel.trans (hb.mono bel.size)
        clear hb
        have hd20 := numL_len20 x2 hx2.1 hx2.2
        have hpo := parseOk_itoa x2
        have hpv := parseV_itoa x2
        have hsf : ∀ w', Calls Tryd.prog 23 #[.int .i64 x2] w' fun e w2 => e = .returned (.string (itoaS x2)) ∧ Below w'.heap.size w' w2 := fun w' => c_spec_FormatInt x2 w' hx2.1 hx2.2
        obtain ⟨d, hd⟩ : ∃ d, d = itoaS x2 := ⟨_, rfl⟩
        rw [← hd] at hd20 hpo hpv hsf ⊢
        clear hd
        go_wp2_with fail
        refine (c_impl_ParseInt _ _ w.heap.size bel.size (by omega) (HT.out.on bel)).mono ?_
        rintro e w11 ⟨rfl, hb⟩
        replace bel := bel.trans (hb.mono bel.size)
        clear hb hd20 HT
        have hcz : (-1000000000 < x2 ∧ x2 < 1000000000) ∨ x2 ≤ -1000000000 ∨ (-1000000000 < x2 ∧ 1000000000 ≤ x2) := by omega
        rcases hcz with hz | hz | hz
        · rw [hpv hz.1 hz.2]
          rw [show parseOk d = true by rw [hpo]; simp [hz.1, hz.2]]
          obtain ⟨hz1, hz2⟩ := hz
          clear hpo hpv
          go_wp2_with (go_at_call 23; refine (hsf _).mono ?_; rintro e w12 ⟨rfl, hb12⟩)
          go_ret
          exact ⟨rfl, bel.trans (hb12.mono bel.size)⟩
        · rw [show parseOk d = false by rw [hpo]; simp; omega]
          clear hpo hpv
          go_wp2_with (go_at_call 23; refine (hsf _).mono ?_; rintro e w12 ⟨rfl, hb12⟩)
          go_ret
          exact ⟨rfl, bel.trans (hb12.mono bel.size)⟩
        · rw [show parseOk d = false by rw [hpo]; simp; omega]
          obtain ⟨hz1, hz2⟩ := hz
          have hz3 : decide (x2 < 1000000000) = false := by simp; omega
          clear hpo hpv
          go_wp2_with (go_at_call 23; refine (hsf _).mono ?_; rintro e w12 ⟨rfl, hb12⟩)
          go_ret
          exact ⟨rfl, bel.trans (hb12.mono bel.size)⟩
    · have hne := hv3 (.inr hc.2)
      obtain ⟨hc1, hc2⟩ := hc
      clear hdv hv1 hv2 hv3 hn0 hn1
      go_wp2_with fail
      clear hne hc1 hc2
      refine (c_DrawEncodeFixed _ _ _ _ _ (hr0.below bel) hn).mono ?_
      rintro e w5 ⟨x2, y2, rfl, hx2, hy2, hb⟩
      replace bel := bel.trans (hb.mono bel.size)
      clear hb hr0
      have hsp : ∀ w', Calls Tryd.prog 18 #[.int .i64 x2, .int .i64 y2] w' fun e w2 => e = .returned (.string (encF x2 y2)) ∧ Below w'.heap.size w' w2 := fun w' => c_spec_EncodeFixed x2 y2 w' (by omega) (by omega) (by omega)
      go_wp2_with fail
      refine (c_impl_EncodeFixed _ _ _ (by omega) (by omega) (by omega)).mono ?_
      rintro e w6 ⟨rfl, hb⟩
      replace bel := bel.trans (hb.mono bel.size)
      clear hb
      have hfx := fix_facts x2 y2 t
      obtain ⟨f, hf⟩ : ∃ f, f = encF x2 y2 := ⟨_, rfl⟩
      rw [← hf] at hfx hsp ⊢
      clear hf
      obtain ⟨hf1, hf2, hf3⟩ := hfx
      have hadd : ∀ w', (Op.stringOp .add f t).run Tryd.prog w' = .ok (.string (f ++ t)) w' := fun w' => run_string_add_sum (P := Tryd.prog) w' _ _ (by omega)
      have hst : (f ++ t).size ≤ 1048576 := by rw [ByteArray.size_append]; omega
      go_wp2_with fail
      refine (c_impl_DecodeFixed _ _ _ hst).mono ?_
      cases hok : encFOk x2 y2 with
      | true =>
        obtain ⟨hne, hwd, hfo, hdf⟩ := hf2 hok
        rw [hfo, hdf]
        rintro e w7 ⟨rfl, rfl⟩
        clear hf1 hf2 hf3 hfo hdf hok hst hadd
        subst hwd
        go_wp2_with (first | (go_at_call 18; refine (hsp _).mono ?_; rintro e w7 ⟨rfl, hb7⟩; replace bel := bel.trans (hb7.mono bel.size)) | fail)
        clear hne hsp hy2
        refine (c_impl_EncodeHex _ _ (by omega)).mono ?_
        rintro e w8 ⟨rfl, hb⟩
        replace bel := bel.trans (hb.mono bel.size)
        clear hb
        obtain ⟨hx1, hx3, hx4⟩ := hex_back t
        obtain ⟨h, hh⟩ : ∃ h, h = strOfNums (hexL (numsOf t)) := ⟨_, rfl⟩
        rw [← hh] at hx1 hx3 hx4 ⊢
        clear hh
        go_wp2_with fail
        refine (c_impl_DecodeHex _ _ (by omega)).mono ?_
        rw [hx1, hx3]
        rintro e w9 ⟨rfl, hb⟩
        replace bel := bel.trans (hb.mono bel.size)
        have hx5 : (h.size : Int) = 2 * (t.size : Int) := by omega
        have hx6 : IntKind.i64.wrap (2 * (t.size : Int)) = 2 * (t.size : Int) := IntWalk.i64_in _ (by omega)
        clear hb hx1 hx3 hx4
        go_wp2_with fail
        refine (c_impl_FormatInt _ _ w.heap.size bel.size hx2.1 hx2.2 (HT.out.on bel)).mono ?_
        rintro e w10 ⟨rfl, hb⟩
        replace bel := bel.trans (hb.mono bel.size)
        clear hb
        have hd20 := numL_len20 x2 hx2.1 hx2.2
        have hpo := parseOk_itoa x2
        have hpv := parseV_itoa x2
        have hsf : ∀ w', Calls Tryd.prog 23 #[.int .i64 x2] w' fun e w2 => e = .returned (.string (itoaS x2)) ∧ Below w'.heap.size w' w2 := fun w' => c_spec_FormatInt x2 w' hx2.1 hx2.2
        obtain ⟨d, hd⟩ : ∃ d, d = itoaS x2 := ⟨_, rfl⟩
        rw [← hd] at hd20 hpo hpv hsf ⊢
        clear hd
        go_wp2_with fail
        refine (c_impl_ParseInt _ _ w.heap.size bel.size (by omega) (HT.out.on bel)).mono ?_
        rintro e w11 ⟨rfl, hb⟩
        replace bel := bel.trans (hb.mono bel.size)
        clear hb hd20 HT
        have hcz : (-1000000000 < x2 ∧ x2 < 1000000000) ∨ x2 ≤ -1000000000 ∨ (-1000000000 < x2 ∧ 1000000000 ≤ x2) := by omega
        rcases hcz with hz | hz | hz
        · rw [hpv hz.1 hz.2]
          rw [show parseOk d = true by rw [hpo]; simp [hz.1, hz.2]]
          obtain ⟨hz1, hz2⟩ := hz
          clear hpo hpv
          go_wp2_with (go_at_call 23; refine (hsf _).mono ?_; rintro e w12 ⟨rfl, hb12⟩)
          go_ret
          exact ⟨rfl, bel.trans (hb12.mono bel.size)⟩
        · rw [show parseOk d = false by rw [hpo]; simp; omega]
          clear hpo hpv
          go_wp2_with (go_at_call 23; refine (hsf _).mono ?_; rintro e w12 ⟨rfl, hb12⟩)
          go_ret
          exact ⟨rfl, bel.trans (hb12.mono bel.size)⟩
        · rw [show parseOk d = false by rw [hpo]; simp; omega]
          obtain ⟨hz1, hz2⟩ := hz
          have hz3 : decide (x2 < 1000000000) = false := by simp; omega
          clear hpo hpv
          go_wp2_with (go_at_call 23; refine (hsf _).mono ?_; rintro e w12 ⟨rfl, hb12⟩)
          go_ret
          exact ⟨rfl, bel.trans (hb12.mono bel.size)⟩
      | false =>
        have hne := hf3 hok
        rintro e w7 ⟨rfl, rfl⟩
        clear hf1 hf2 hf3 hok hst hadd
        go_wp2_with (first | (go_at_call 18; refine (hsp _).mono ?_; rintro e w7 ⟨rfl, hb7⟩; replace bel := bel.trans (hb7.mono bel.size)) | fail)
        clear hne hsp hy2
        refine (c_impl_EncodeHex _ _ (by omega)).mono ?_
        rintro e w8 ⟨rfl, hb⟩
        replace bel := bel.trans (hb.mono bel.size)
        clear hb
        obtain ⟨hx1, hx3, hx4⟩ := hex_back t
        obtain ⟨h, hh⟩ : ∃ h, h = strOfNums (hexL (numsOf t)) := ⟨_, rfl⟩
        rw [← hh] at hx1 hx3 hx4 ⊢
        clear hh
        go_wp2_with fail
        refine (c_impl_DecodeHex _ _ (by omega)).mono ?_
        rw [hx1, hx3]
        rintro e w9 ⟨rfl, hb⟩
        replace bel := bel.trans (hb.mono bel.size)
        have hx5 : (h.size : Int) = 2 * (t.size : Int) := by omega
        have hx6 : IntKind.i64.wrap (2 * (t.size : Int)) = 2 * (t.size : Int) := IntWalk.i64_in _ (by omega)
        clear hb hx1 hx3 hx4
        go_wp2_with fail
        refine (c_impl_FormatInt _ _ w.heap.size bel.size hx2.1 hx2.2 (HT.out.on bel)).mono ?_
        rintro e w10 ⟨rfl, hb⟩
        replace bel := bel.trans (hb.mono bel.size)
        clear hb
        have hd20 := numL_len20 x2 hx2.1 hx2.2
        have hpo := parseOk_itoa x2
        have hpv := parseV_itoa x2
        have hsf : ∀ w', Calls Tryd.prog 23 #[.int .i64 x2] w' fun e w2 => e = .returned (.string (itoaS x2)) ∧ Below w'.heap.size w' w2 := fun w' => c_spec_FormatInt x2 w' hx2.1 hx2.2
        obtain ⟨d, hd⟩ : ∃ d, d = itoaS x2 := ⟨_, rfl⟩
        rw [← hd] at hd20 hpo hpv hsf ⊢
        clear hd
        go_wp2_with fail
        refine (c_impl_ParseInt _ _ w.heap.size bel.size (by omega) (HT.out.on bel)).mono ?_
        rintro e w11 ⟨rfl, hb⟩
        replace bel := bel.trans (hb.mono bel.size)
        clear hb hd20 HT
        have hcz : (-1000000000 < x2 ∧ x2 < 1000000000) ∨ x2 ≤ -1000000000 ∨ (-1000000000 < x2 ∧ 1000000000 ≤ x2) := by omega
        rcases hcz with hz | hz | hz
        · rw [hpv hz.1 hz.2]
          rw [show parseOk d = true by rw [hpo]; simp [hz.1, hz.2]]
          obtain ⟨hz1, hz2⟩ := hz
          clear hpo hpv
          go_wp2_with (go_at_call 23; refine (hsf _).mono ?_; rintro e w12 ⟨rfl, hb12⟩)
          go_ret
          exact ⟨rfl, bel.trans (hb12.mono bel.size)⟩
        · rw [show parseOk d = false by rw [hpo]; simp; omega]
          clear hpo hpv
          go_wp2_with (go_at_call 23; refine (hsf _).mono ?_; rintro e w12 ⟨rfl, hb12⟩)
          go_ret
          exact ⟨rfl, bel.trans (hb12.mono bel.size)⟩
        · rw [show parseOk d = false by rw [hpo]; simp; omega]
          obtain ⟨hz1, hz2⟩ := hz
          have hz3 : decide (x2 < 1000000000) = false := by simp; omega
          clear hpo hpv
          go_wp2_with (go_at_call 23; refine (hsf _).mono ?_; rintro e w12 ⟨rfl, hb12⟩)
          go_ret
          exact ⟨rfl, bel.trans (hb12.mono bel.size)⟩
  · have hbig : decide (1048576 < (n0 : Int)) = true := by simp; omega
    go_enter Tryd.func4, Tryd.ntmps4
    go_wp2_with fail
    refine (c_big _ _ _ _ hm0).mono ?_
    rw [hbig]
    rintro e w' ⟨rfl, rfl⟩
    go_wp2
    go_ret
    exact ⟨rfl, Below.refl _ _⟩
end Go.Proofs.YtfcgijnfiiaepaaDoor
