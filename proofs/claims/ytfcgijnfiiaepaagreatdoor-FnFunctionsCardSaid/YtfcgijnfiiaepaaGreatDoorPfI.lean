/- Contract of impl's ParseFunction. -/
import Derived.Test.YtfcgijnfiiaepaaGreatDoorPfS
import Derived.Test.YtfcgijnfiiaepaaGreatDoorFar
namespace Go.Proofs.YtfcgijnfiiaepaaGreatDoor
set_option linter.unusedSimpArgs false
set_option linter.unusedVariables false
open Go.RowKit

/-- A block that holds strings. -/
def SBlk (w : World) (g : Nat) (t : TypeId) (xs : List ByteArray) : Prop := w.heap[g]? = some (.cells (xs.map Value.string).toArray t (0, 0))
theorem SBlk.lt {w : World} {g : Nat} {t : TypeId} {xs : List ByteArray} (h : SBlk w g t xs) : g < w.heap.size := (Array.getElem?_eq_some_iff.1 h).1
theorem SBlk.alloc {w : World} {g : Nat} {t : TypeId} {xs : List ByteArray} (h : SBlk w g t xs) (o : Obj) : SBlk (w.alloc o) g t xs := (Below.heap_alloc w o g h.lt).trans h
theorem SBlk.below {w w' : World} {g : Nat} {t : TypeId} {xs : List ByteArray} (h : SBlk w g t xs) (hb : Below w.heap.size w w') : SBlk w' g t xs := (hb.block g h.lt).trans h
theorem SBlk.grown {w w' : World} {g : Nat} {t : TypeId} {xs : List ByteArray} {row : Option Nat} (h : SBlk w g t xs) (hg : w.grownBy w' row) (hne : row ≠ some g) : SBlk w' g t xs := (hg.block g h.lt (fun e => hne e.symm)).trans h
theorem SBlk.setFar {w : World} {g : Nat} {t : TypeId} {xs : List ByteArray} (h : SBlk w g t xs) (p : Addr) (v : Value) (hne : g ≠ p.block) : SBlk (w.setCell p v) g t xs := (Below.heap_setCell w p v g hne).trans h
theorem SBlk.cell {w : World} {g : Nat} {t : TypeId} {xs : List ByteArray} (h : SBlk w g t xs) (j : Nat) (hj : j < xs.length) : w.cell? ⟨g, j, none⟩ = some (.string xs[j]) := by
  rw [cell_of_row w g j _ t (0, 0) h]
  simp [hj]
/-- What strings.Split reads of the library's own: some number. -/
def MaxB (B : Nat) (w : World) : Prop := 0 < B ∧ ∃ m : Int, w.cell? ⟨0, 0, none⟩ = some (.int .i64 m)
theorem MaxB.on {B : Nat} {w w1 : World} (h : MaxB B w) (hb : Below B w w1) : MaxB B w1 := by
  obtain ⟨h1, m, h2⟩ := h
  exact ⟨h1, m, (hb.cell (p := ⟨0, 0, none⟩) h1).trans h2⟩
/-- The parts of a text between its commas. -/
def partsOf (s : ByteArray) : List ByteArray := (cutP s.data.toList []).map bytesOf
theorem parts_size (s : ByteArray) : ∀ p ∈ partsOf s, p.size ≤ s.size := by
  intro p hp
  obtain ⟨q, hq, rfl⟩ := List.mem_map.1 hp
  have h1 := cutP_sizes s.data.toList [] q hq
  have h2 : s.data.toList.length = s.size := by simp
  have h3 : (bytesOf q).size = q.length := by show q.toArray.size = _; simp
  simp at h1
  omega
theorem parts_len (s : ByteArray) : 1 ≤ (partsOf s).length ∧ (partsOf s).length ≤ s.size + 1 := by
  have h1 := cutP_length s.data.toList []
  have h2 : s.data.toList.length = s.size := by simp
  have h3 : (cutP s.data.toList []).length ≠ 0 := fun e => cutP_ne _ _ (List.eq_nil_of_length_eq_zero e)
  unfold partsOf
  rw [List.length_map]
  omega
theorem c_Split (s : ByteArray) (B : Nat) (w : World) (hs : s.size ≤ 1048576) (hm : MaxB B w) :
    Calls Tryz.prog 46 #[.string s, .string ⟨#[44]⟩] w fun e w' => e = .returned (.slice (some ⟨w.heap.size, 0, none⟩) (partsOf s).length (partsOf s).length) ∧ SBlk w' w.heap.size 9 (partsOf s) ∧ w'.heap.size = w.heap.size + 1 ∧ Below w.heap.size w w' := by
  obtain ⟨_, m, hm⟩ := hm
  have hl := Go.Lib.splitB_all ⟨#[44]⟩ (by decide) 0 (Go.Lib.countB s ⟨#[44]⟩) s rfl
  have hp : Go.Lib.splitB ⟨#[44]⟩ 0 (Go.Lib.countB s ⟨#[44]⟩) s = partsOf s := split_parts s
  refine (Tryz.strings_Split s ⟨#[44]⟩ m w (by omega) hm (by decide)).mono ?_
  rw [← hl, hp]
  rintro e w' ⟨rfl, rfl⟩
  exact ⟨rfl, heap_alloc_new w _, by simp, (Below.refl _ _).alloc (Nat.le_refl _) _⟩
set_option maxRecDepth 20000 in
set_option maxHeartbeats 8000000 in
theorem c_impl_ParseFunction (s : ByteArray) (w : World) (B : Nat) (hB : B ≤ w.heap.size) (hs : s.size ≤ 1048576) (ht : TabB B w) (hm : MaxB B w) :
    Calls Tryz.prog 12 #[.string s] w (RetFun 3 (pfN s) (pfL s) (pfB s) w) := by
  have HT := Lib.hid ht
  have HM := Lib.hid hm
  clear ht hm
  have bel := Below.refl w.heap.size w
  have fr := FBox.new w 26 0 none 0 0
  replace bel := bel.alloc bel.size (.cells #[.int .i64 0, .slice none 0 0] 26)
  by_cases h200 : s.size ≤ 200
  · have h200z : (s.size : Int) ≤ 200 := by omega
    have f1 := FBox.new (w.alloc (.cells #[.int .i64 0, .slice none 0 0] 26)) 26 0 none 0 0
    rw [World.size_alloc] at f1
    replace fr := fr.alloc (.cells #[.int .i64 0, .slice none 0 0] 26)
    replace bel := bel.alloc bel.size (.cells #[.int .i64 0, .slice none 0 0] 26)
    go_enter Tryz.func12, Tryz.ntmps12
    go_wp2_with fail
    refine (c_Split s B _ hs (HM.out.on (bel.mono hB))).mono ?_
    rintro e w1 ⟨rfl, hsb, hsz, hb⟩
    simp only [World.size_alloc] at hsb hsz
    replace fr := fr.below hb
    replace f1 := f1.below hb
    replace bel := bel.trans (hb.mono bel.size)
    clear hb
    have hR : pfR s = plRun (partsOf s) [] := by rw [pfR, if_pos h200]; exact pf_pl _ _ _
    obtain ⟨P, hP⟩ : ∃ P, P = partsOf s := ⟨_, rfl⟩
    have hpl := parts_len s
    have hps := parts_size s
    simp only [World.size_alloc]
    rw [← hP] at hsb hR hpl hps
    rw [← hP]
    have HR := Lib.hid hR
    have HPS := Lib.hid hps
    have hn := OwnI.nil w1 (w.heap.size + 3) 3 .i64
    clear hP hR hps
    go_wp2_with fail
    go_loopw [6, 7, 8, 16] (fun pv nv bv kv wr => ∃ (k : Nat) (a : Option Addr) (c : Nat) (vs : List Int), kv = .int .i64 (k : Int) ∧ k ≤ P.length ∧ vs.length = k ∧ plRun (P.drop k) vs = plRun P [] ∧ FBox wr w.heap.size 26 0 none 0 0 ∧ FBox wr (w.heap.size + 1) 26 0 a k c ∧ OwnI wr (w.heap.size + 3) 3 .i64 (.slice a k c) vs ∧ SBlk wr (w.heap.size + 2) 9 P ∧ Below w.heap.size w wr ∧ w.heap.size + 3 ≤ wr.heap.size) (fun _ _ _ kv _ => P.length - (intOf kv).toNat)
    case atStart => exact ⟨0, none, 0, [], rfl, Nat.zero_le _, rfl, rfl, fr, f1, hn, hsb, bel, by omega⟩
    case round =>
      clear fr f1 hn hsb bel hsz
      obtain ⟨k, a, c, vs, rfl, hk, hvl, hinv, fr, f1, hown, hsb, bel, hsz⟩ := hrel
      have HV := Lib.hid hvl
      have hv33 : vs.length ≤ 201 := by omega
      by_cases hlt : k < P.length
      · have hltz : (k : Int) < (P.length : Int) := by omega
        have hc := hsb.cell k hlt
        have hpz := HPS.out P[k] (List.getElem_mem hlt)
        have hdrop : P.drop k = P[k] :: P.drop (k + 1) := List.drop_eq_getElem_cons hlt
        rw [hdrop] at hinv
        obtain ⟨part, hpart⟩ : ∃ part, part = P[k] := ⟨_, rfl⟩
        rw [← hpart] at hc hpz hinv
        have HI := Lib.hid hinv
        clear hinv hdrop hpart hvl
        go_wp2_with fail
        clear hc
        refine (c_impl_ParseInt part _ B (Nat.le_trans hB bel.size) (by omega) (HT.out.on (bel.mono hB))).mono ?_
        rintro e w3 ⟨rfl, hb3⟩
        have hs3 := hb3.size
        replace fr := fr.below hb3
        replace f1 := f1.below hb3
        replace hown := hown.below hb3
        replace hsb := hsb.below hb3
        replace bel := bel.trans (hb3.mono bel.size)
        clear hb3
        cases hok : parseOk part with
        | false =>
          have HB := Lib.hid (pf_none (by rw [HR.out, ← HI.out, plRun, hok]; rfl))
          have kr0 := fr.c0
          have kr1 := fr.c1
          have krf := fr.free
          go_wp2_with fail
          refine bodyPost_ret (v := .tuple #[.agg #[.int .i64 0, .slice none 0 0], .bool false]) (by simp [results, Tryz.results12, go_sem, kr0, kr1, krf]) rfl ?_
          rw [HB.out.1, HB.out.2.1, HB.out.2.2]
          exact ⟨none, 0, rfl, OwnI.nil _ _ _ _, by simp, (bel.setCell (by show w.heap.size ≤ w.heap.size; omega) _).setCell (by show w.heap.size ≤ w.heap.size; omega) _⟩
        | true =>
          have HN := Lib.hid (show plRun (P.drop (k + 1)) (vs ++ [parseV part]) = plRun P [] by rw [← HI.out, plRun, hok]; rfl)
          obtain ⟨y, hy⟩ : ∃ y, y = parseV part := ⟨_, rfl⟩
          rw [← hy] at HN
          rw [← hy]
          clear hok hy HI
          have k10 := f1.c0
          have k11 := f1.c1
          have l1 := f1.lt
          have hBB : w.heap.size + 3 ≤ w3.heap.size := by omega
          go_wp2_with (at_builtin; refine wpList_app EI (base := w.heap.size + 3) (v := .slice a k c) (xs := vs) (us := [y]) (g := w3.heap.size) (n := 1) (c := 1) rfl (.tmp 29) (.tmp 31) rfl ?_ ?_ rfl rfl rfl ?_ ?_ ?_; (exact hown.alloc _); (exact heap_alloc_new w3 _); (show _ + 1 ≤ _; omega); (exact le_alloc hBB _); intro v' w6 hv6 hgrow; obtain ⟨a', c', hv', _⟩ := hv6.form; rw [List.length_append, HV.out] at hv'; subst hv'; have f6 := (f1.alloc _).grown hgrow (row_apart hown.range (.inl (by omega))); have k10 := f6.c0; have k11 := f6.c1; have k1f := f6.free)
          have fr6 := ((fr.alloc (.cells #[.int .i64 y] 3)).grown hgrow (row_apart hown.range (.inl (by omega)))).setFar ⟨w.heap.size + 1, 1, none⟩ (.slice a' (k + 1) c') (by show w.heap.size ≠ w.heap.size + 1; omega)
          have g6 := f6.set1 a' (k + 1) c'
          have hs6 := ((hsb.alloc (.cells #[.int .i64 y] 3)).grown hgrow (row_apart hown.range (.inl (by omega)))).setFar ⟨w.heap.size + 1, 1, none⟩ (.slice a' (k + 1) c') (by show w.heap.size + 2 ≠ w.heap.size + 1; omega)
          have ho6 := hv6.setFar ⟨w.heap.size + 1, 1, none⟩ (.slice a' (k + 1) c') (.inr (row_apart hv6.range (.inl (by show w.heap.size + 1 < w.heap.size + 3; omega))))
          have bel6 := (below_grown (bel.alloc (by omega) (.cells #[.int .i64 y] 3)) (hown.alloc (.cells #[.int .i64 y] 3)) hgrow (by omega) (by simp; omega)).setCell (p := ⟨w.heap.size + 1, 1, none⟩) (by show w.heap.size ≤ w.heap.size + 1; omega) (.slice a' (k + 1) c')
          have hz6 := hgrow.size
          (try simp only [World.size_alloc] at hz6)
          go_roundw
          case rel => exact ⟨k + 1, a', c', vs ++ [y], by go_num, by omega, by rw [List.length_append, HV.out]; rfl, HN.out, fr6, g6, ho6, hs6, bel6, by (try simp only [World.size_setCell]); omega⟩
          case measure => simp [intOf] <;> omega
      · obtain rfl : k = P.length := by omega
        have hus : pfR s = some vs := by
          rw [HR.out, ← hinv, List.drop_length]
          rfl
        have hlen := HV.out
        clear hinv hlt hvl
        obtain ⟨n, hn⟩ : ∃ n, n = P.length := ⟨_, rfl⟩
        rw [← hn] at hlen f1 hown hpl
        rw [← hn]
        have hbl : (Go.Lib.bitLen n : Int) = (Nat.log2 vs.length : Int) + 1 := by rw [hlen]; have := bitLen_fin ⟨n, by omega⟩ hpl.1; simp only at this; rw [this]; push_cast; rfl
        have hl7 : Nat.log2 vs.length ≤ 7 := by
          rw [hlen]
          have : ∀ n : Fin 256, Nat.log2 n.val ≤ 7 := by decide +kernel
          exact this ⟨n, by omega⟩
        obtain ⟨L, hL⟩ : ∃ L, L = Nat.log2 vs.length := ⟨_, rfl⟩
        rw [← hL] at hbl hl7
        have HL := Lib.hid hL
        have HLEN := Lib.hid hlen
        have hnz : ((n : Int)).toNat = n := Int.toNat_natCast n
        have hwn : IntKind.u64.wrap (n : Int) = (n : Int) := IntWalk.u64_in _ (by omega)
        have hwl : IntKind.i64.wrap ((L : Int) + 1 - 1) = (L : Int) := by rw [IntWalk.i64_in _ (by omega)]; omega
        have k10 := f1.c0
        have k11 := f1.c1
        have k1f := f1.free
        clear hL hlen hn
        go_wp2_with fail
        refine (Tryz.bits_Len (n : Int) _ (by omega) (by omega)).mono ?_
        rw [hnz, hbl]
        rintro e w4 ⟨rfl, rfl⟩
        have g1 := f1.set0 (L : Int)
        have gr := fr.setFar ⟨w.heap.size + 1, 0, none⟩ (.int .i64 (L : Int)) (by show w.heap.size ≠ w.heap.size + 1; omega)
        have go1 := hown.setFar ⟨w.heap.size + 1, 0, none⟩ (.int .i64 (L : Int)) (.inr (row_apart hown.range (.inl (by show w.heap.size + 1 < w.heap.size + 3; omega))))
        have gbel := bel.setCell (p := ⟨w.heap.size + 1, 0, none⟩) (by show w.heap.size ≤ w.heap.size + 1; omega) (.int .i64 (L : Int))
        clear fr f1 hown bel hbl hnz hwn hsb
        go_wp2_with fail
        cases hI : isFun (L : Int) vs with
        | false =>
          have HB := Lib.hid (pf_bad hus (by rw [← HL.out]; exact hI))
          refine (c_impl_IsFunction _ _ _ _ _ _ go1.row (by omega)).mono ?_
          rw [hI]
          rintro e w5 ⟨rfl, hb5⟩
          replace gr := gr.below hb5
          replace g1 := g1.below hb5
          replace go1 := go1.below hb5
          replace gbel := gbel.trans (hb5.mono gbel.size)
          have kr0 := gr.c0
          have kr1 := gr.c1
          have krf := gr.free
          have k10 := g1.c0
          have k11 := g1.c1
          go_wp2_with fail
          refine bodyPost_ret (v := .tuple #[.agg #[.int .i64 0, .slice none 0 0], .bool false]) (by simp [results, Tryz.results12, go_sem, kr0, kr1, krf]) rfl ?_
          rw [HB.out.1, HB.out.2.1, HB.out.2.2]
          exact ⟨none, 0, rfl, OwnI.nil _ _ _ _, by simp, (gbel.setCell (by show w.heap.size ≤ w.heap.size; omega) _).setCell (by show w.heap.size ≤ w.heap.size; omega) _⟩
        | true =>
          have HB := Lib.hid (pf_good hus (by rw [← HL.out]; exact hI))
          refine (c_impl_IsFunction _ _ _ _ _ _ go1.row (by omega)).mono ?_
          rw [hI]
          rintro e w5 ⟨rfl, hb5⟩
          replace gr := gr.below hb5
          replace g1 := g1.below hb5
          replace go1 := go1.below hb5
          replace gbel := gbel.trans (hb5.mono gbel.size)
          have kr0 := gr.c0
          have kr1 := gr.c1
          have krf := gr.free
          have k10 := g1.c0
          have k11 := g1.c1
          go_wp2_with fail
          refine bodyPost_ret (v := .tuple #[.agg #[.int .i64 (L : Int), .slice a n c], .bool true]) (by simp [results, Tryz.results12, go_sem, kr0, kr1, krf]) rfl ?_
          rw [HB.out.1, HB.out.2.1, HB.out.2.2, ← HL.out]
          refine ⟨a, c, by rw [HLEN.out], ?_, by rw [HLEN.out]; omega, (gbel.setCell (by show w.heap.size ≤ w.heap.size; omega) _).setCell (by show w.heap.size ≤ w.heap.size; omega) _⟩
          rw [HLEN.out]
          exact ((go1.base (by omega)).setFar ⟨w.heap.size, 0, none⟩ _ (.inr (row_apart go1.range (.inl (by show w.heap.size < w.heap.size + 3; omega))))).setFar ⟨w.heap.size, 1, none⟩ _ (.inr (row_apart go1.range (.inl (by show w.heap.size < w.heap.size + 3; omega))))
  · have h200z : (200 : Int) < (s.size : Int) := by omega
    have hR : pfR s = none := by rw [pfR, if_neg h200]
    have HB := Lib.hid (pf_none hR)
    clear hR
    have kr0 := fr.c0
    have kr1 := fr.c1
    have krf := fr.free
    go_enter Tryz.func12, Tryz.ntmps12
    go_wp2_with fail
    refine bodyPost_ret (v := .tuple #[.agg #[.int .i64 0, .slice none 0 0], .bool false]) (by simp [results, Tryz.results12, go_sem, kr0, kr1, krf]) rfl ?_
    rw [HB.out.1, HB.out.2.1, HB.out.2.2]
    exact ⟨none, 0, rfl, OwnI.nil _ _ _ _, by simp, by first | exact bel | exact (bel.setCell (by show w.heap.size ≤ w.heap.size; omega) _).setCell (by show w.heap.size ≤ w.heap.size; omega) _⟩
end Go.Proofs.YtfcgijnfiiaepaaGreatDoor
