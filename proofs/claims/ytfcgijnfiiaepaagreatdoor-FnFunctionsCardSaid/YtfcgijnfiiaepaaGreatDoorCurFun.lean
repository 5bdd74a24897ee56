/- Contracts of spec's draws of functions of sets: whatever is drawn, it is a function with some values in memory of the call's own. -/
import Derived.Test.YtfcgijnfiiaepaaGreatDoorCurNum
import Derived.Test.YtfcgijnfiiaepaaGreatDoorSizeOf
import Derived.Test.YtfcgijnfiiaepaaGreatDoorFar
import Derived.Maps.AppendAt
namespace Go.Proofs.YtfcgijnfiiaepaaGreatDoor
set_option linter.unusedSimpArgs false
set_option linter.unusedVariables false
open Go.RowKit

/-- u lies apart from v. -/
def Apart (u v : Value) : Prop := u.ownBlock = none ∨ u.ownBlock ≠ v.ownBlock
theorem Apart.symm {u v : Value} (h : Apart u v) : Apart v u := by
  unfold Apart at *
  cases hv : v.ownBlock with
  | none => exact .inl rfl
  | some j =>
    right
    intro e
    rcases h with h | h
    · rw [h] at e; cases e
    · exact h (by rw [hv]; exact e.symm)
/-- v' is v grown: in v's block or in a new one. -/
theorem Apart.next {u v v' : Value} {W : Nat} (h : Apart u v) (hl : v'.ownBlock = v.ownBlock ∨ v'.ownBlock = some W) (hu : ∀ j, u.ownBlock = some j → j < W) : Apart u v' := by
  unfold Apart at *
  rcases hl with e | e
  · rw [e]; exact h
  · rw [e]
    cases hv : u.ownBlock with
    | none => exact .inl rfl
    | some j => have := hu j hv; exact .inr (fun e => by injection e; omega)
theorem Apart.late {w : World} {base : Nat} {e : TypeId} {k : IntKind} {u v : Value} {xs : List Int} (h : OwnI w base e k u xs) (hv : ∀ j, v.ownBlock = some j → w.heap.size ≤ j) : Apart u v := by
  unfold Apart
  cases hu : u.ownBlock with
  | none => exact .inl rfl
  | some j => have := (h.range j hu).2; exact .inr (fun e => by have := hv j e.symm; omega)
section
variable {P : Program} {t e : TypeId} {k : IntKind} {bytes : Nat}
/-- append, and where the new slice lies. -/
theorem wpList_appAt (E : IntElem P t e k bytes) {ops : Array Oper} {rest : List Oper} {o : Oper} {a : Act} {Q : Exit → Act → World → Prop} (hgd : o.guard = none) (s x : Operand)
    (ho : o.op = .call { callee := .builtin .append, args := #[s, x], argTypes := #[t, t] }) {w : World} {base : Nat} {v : Value} {xs us : List Int} {g n c : Nat}
    (hown : OwnI w base e k v xs) (hblk : w.heap[g]? = some (.cells (us.map (Value.int k)).toArray e (0, 0))) (hs : a.eval s = v) (hx : a.eval x = .slice (some ⟨g, 0, none⟩) n c) (hn : us.length = n)
    (hlen : xs.length + us.length ≤ 1000000000000) (hbase : base ≤ w.heap.size)
    (h : ∀ v' w', OwnI w' base e k v' (xs ++ us) → w.grownBy w' v.ownBlock → (v'.ownBlock = v.ownBlock ∨ v'.ownBlock = some w.heap.size) → wpList P ops Q rest (a.put o.dst v') w') : wpList P ops Q (o :: rest) a w := by
  obtain ⟨i, hi, hz, hsz, hby⟩ := info_parts E.info
  have hsm := E.small
  subst hn
  refine wpList_append_own_at _ hgd s x t ho base e i (.int k 0) 1 bytes E.under hi hz hsz hby rfl (by decide) v xs.length _ hs hown ⟨g, 0, none⟩ us.length c (us.map (Value.int k)) hx (by simp) ?_ (ints_oneCell k us) ?_ ?_ hbase ?_
  · intro j y hj
    have hadd : (⟨g, 0, none⟩ : Addr).add j = ⟨g, j, none⟩ := by unfold Addr.add; split <;> simp_all
    rw [hadd, cell_of_row w g j _ e (0, 0) hblk]
    simpa using hj
  · simp only [maxLen]; omega
  · have : (xs.length + us.length) * bytes ≤ (xs.length + us.length) * 8 := Nat.mul_le_mul_left _ hsm
    omega
  · intro v' w1 h1 h2 _ h3
    exact h v' w1 (by unfold OwnI; simpa using h1) h2 h3
end
/-- Some answer is returned. -/
def RetOnce (t : TypeId) (g : Nat) (w : World) (e : Ending) (w' : World) : Prop := ∃ b : Bool, e = .returned (.bool b) ∧ Cur t w' g ∧ w.grownBy w' (some g)
theorem c_l1Once (g : Nat) (m : Int) (w : World) (f : Cur 85 w g) (hm0 : 0 < m) (hm1 : m ≤ 1000000000) :
    Calls Tryz.prog 62 #[.pointer (some ⟨g, 0, none⟩), .int .i64 m] w (RetOnce 85 g w) := by
  go_enter Tryz.func62, Tryz.ntmps62
  go_wp2_with fail
  refine (c_l1Below g _ _ f hm0 hm1).mono ?_
  rintro e w1 ⟨x, rfl, hx0, hx1, f1, hg1⟩
  clear hx0 hx1 hm0 hm1
  go_wp2
  go_ret
  exact ⟨_, rfl, f1, hg1⟩
/-- A slice of so many numbers in memory of the call's own. -/
def RetList (t et : TypeId) (g m : Nat) (w : World) (e : Ending) (w' : World) : Prop := ∃ a c xs, xs.length = m ∧ e = .returned (.slice a m c) ∧ OwnI w' w.heap.size et .i64 (.slice a m c) xs ∧ Cur t w' g ∧ w.grownBy w' (some g)
set_option maxRecDepth 20000 in
set_option maxHeartbeats 2000000 in
theorem c_l2Cover (g j : Nat) (w : World) (f : Cur 85 w g) (hj : j ≤ 5) :
    Calls Tryz.prog 92 #[.pointer (some ⟨g, 0, none⟩), .int .i64 j] w (RetList 85 3 g (2 ^ j) w) := by
  have hgs := f.lt
  obtain ⟨p, hp⟩ : ∃ p, p = 2 ^ j := ⟨_, rfl⟩
  have hp32 : p ≤ 32 := by rw [hp]; exact Nat.le_trans (Nat.pow_le_pow_right (by decide : 0 < 2) hj) (by decide)
  have hp0 : 0 < p := by rw [hp]; exact Nat.pow_pos (by decide)
  have HSH := Lib.hid (shl_facts j p hp (by omega))
  rw [← hp]
  have HP := Lib.hid hp
  clear hp
  have hw0 := (OwnI.lit w w.heap.size 3 .i64 [] (Nat.le_refl _) (by decide)).alloc (.cells #[] 3)
  have hs0 := OwnI.lit (w.alloc (.cells #[] 3)) w.heap.size 3 .i64 [] (by simp) (by decide)
  have hap0 : Apart (Value.slice (some ⟨w.heap.size, 0, none⟩) 0 0) (Value.slice (some ⟨(w.alloc (.cells #[] 3)).heap.size, 0, none⟩) 0 0) := by
    right
    simp [Value.ownBlock]
  rw [World.size_alloc] at hs0 hap0
  go_enter Tryz.func92, Tryz.ntmps92
  go_wp2_with fail
  refine (c_l1Below g _ _ ((f.alloc _).alloc _) (by decide) (by decide)).mono ?_
  rintro e w1 ⟨k0, rfl, hk0, hk1, f1, hg1⟩
  replace hw0 := hw0.cur hg1 hgs
  replace hs0 := hs0.cur hg1 hgs
  replace hg1 := grownBy_trans (grownBy_trans (grownBy_alloc w _ (some g)) (grownBy_alloc _ _ (some g))) hg1
  clear f
  have hk2 : k0.toNat ≤ 4 := by omega
  have hk3 : ((k0.toNat : Nat) : Int) = k0 := Int.toNat_of_nonneg hk0
  have HK3 := Lib.hid hk3
  clear hk0 hk1 hk3
  go_wp2_with fail
  go_loopw [5, 6, 7] (fun wv sv kv wr => ∃ (k : Nat) (xs ys : List Int), kv = .int .i64 (k : Int) ∧ OwnI wr w.heap.size 3 .i64 wv xs ∧ OwnI wr w.heap.size 3 .i64 sv ys ∧ xs.length = ys.length ∧ xs.length + k ≤ 4 ∧ Apart wv sv ∧ Cur 85 wr g ∧ w.grownBy wr (some g)) (fun _ _ kv _ => (intOf kv).toNat)
  case atStart => exact ⟨k0.toNat, [], [], by rw [HK3.out], hw0, hs0, rfl, by simpa using hk2, hap0, f1, hg1⟩
  case round =>
    clear hw0 hs0 hap0 f1 hg1 hk2 HK3
    obtain ⟨k, xs, ys, rfl, hw, hs, hle, hlk, hap, f2, hg2⟩ := hrel
    have HLE := Lib.hid hle
    have HLK := Lib.hid hlk
    have hl4 : xs.length ≤ 4 := by omega
    have hl4' : ys.length ≤ 4 := by omega
    clear hle hlk
    by_cases hk : 0 < k
    · have hkz : (0 : Int) < (k : Int) := by omega
      go_wp2_with fail
      refine (c_l1Below g _ _ f2 (by decide) (by decide)).mono ?_
      rintro e w3 ⟨x, rfl, hx0, hx1, f3, hg3⟩
      replace hw := hw.cur hg3 hgs
      replace hs := hs.cur hg3 hgs
      replace hg3 := grownBy_trans hg2 hg3
      clear f2 hg2
      have hB3 : w.heap.size ≤ w3.heap.size := hg3.size
      have hwx : IntKind.i64.wrap (1 + x) = 1 + x := IntWalk.i64_in _ (by omega)
      clear hx0 hx1
      go_wp2_with (at_builtin; refine wpList_appAt EI (base := w.heap.size) (v := u5) (xs := xs) (us := [1 + x]) (g := w3.heap.size) (n := 1) (c := 1) rfl (.tmp 20) (.tmp 24) rfl ?_ ?_ rfl rfl rfl ?_ ?_ ?_; (exact hw.alloc _); (exact heap_alloc_new w3 _); (show _ + 1 ≤ _; omega); (exact le_alloc hB3 _); intro v4 w4 hw4 hgrow hloc)
      clear hwx
      have hap4 := (hap.symm.next hloc (fun j hj => (hs.alloc (.cells #[.int .i64 (1 + x)] 3)).range j hj |>.2)).symm
      have hs4 := (hs.alloc (.cells #[.int .i64 (1 + x)] 3)).grown hgrow hap.symm
      have f4 := (f3.alloc _).grown hgrow (fun i hi => by have := (hw.range i hi).1; omega)
      have hg4 := grownBy_own (grownBy_trans hg3 (grownBy_alloc w3 _ (some g))) hgrow (fun i hi => (hw.range i hi).1)
      clear hgrow hloc hap hs hw f3 hg3 hB3
      have q1 := HSH.out.1
      go_wp2_with fail
      clear q1
      rw [HSH.out.2.2]
      refine (c_l1Below g p _ f4 (by omega) (by omega)).mono ?_
      rintro e w5 ⟨y, rfl, hy0, hy1, f5, hg5⟩
      have hs5 := hs4.cur hg5 hgs
      have hw5 := hw4.cur hg5 hgs
      replace hg5 := grownBy_trans hg4 hg5
      clear hs4 hw4 f4 hg4 hy0 hy1
      have hB5 : w.heap.size ≤ w5.heap.size := hg5.size
      have hwk : IntKind.i64.wrap ((k : Int) - 1) = (k : Int) - 1 := IntWalk.i64_in _ (by have := HLK.out; omega)
      go_wp2_with (at_builtin; refine wpList_appAt EI (base := w.heap.size) (v := u6) (xs := ys) (us := [y]) (g := w5.heap.size) (n := 1) (c := 1) rfl (.tmp 26) (.tmp 31) rfl ?_ ?_ rfl rfl rfl ?_ ?_ ?_; (exact hs5.alloc _); (exact heap_alloc_new w5 _); (show _ + 1 ≤ _; omega); (exact le_alloc hB5 _); intro v6 w6 hs6 hgrow hloc)
      have hap6 := hap4.next hloc (fun j hj => (hw5.alloc (.cells #[.int .i64 y] 3)).range j hj |>.2)
      have hw6 := (hw5.alloc (.cells #[.int .i64 y] 3)).grown hgrow hap4
      have f6 := (f5.alloc _).grown hgrow (fun i hi => by have := (hs5.range i hi).1; omega)
      have hg6 := grownBy_own (grownBy_trans hg5 (grownBy_alloc w5 _ (some g))) hgrow (fun i hi => (hs5.range i hi).1)
      go_roundw
      case rel => exact ⟨k - 1, _, _, by go_num, hw6, hs6, by simp [HLE.out], by have := HLK.out; simp; omega, hap6, f6, hg6⟩
      case measure => simp [intOf]; omega
    · obtain rfl : k = 0 := by omega
      obtain ⟨aw, cw, rfl, hrw, hbw, _, _, _⟩ := hw.form
      obtain ⟨asl, cs, rfl, hrs, hbs, _, _, _⟩ := hs.form
      have hv0 := OwnI.lit wr w.heap.size 3 .i64 [] hg2.size (by decide)
      have hapw : Apart (.slice aw xs.length cw) (.slice (some ⟨wr.heap.size, 0, none⟩) 0 0) := Apart.late hw (fun j hj => by simp [Value.ownBlock] at hj; omega)
      have haps : Apart (.slice asl ys.length cs) (.slice (some ⟨wr.heap.size, 0, none⟩) 0 0) := Apart.late hs (fun j hj => by simp [Value.ownBlock] at hj; omega)
      go_wp2_with fail
      go_loopw [8, 9] (fun v sv w3 => ∃ (s : Nat) (zs : List Int), sv = .int .i64 (s : Int) ∧ s ≤ p ∧ zs.length = s ∧ OwnI w3 w.heap.size 3 .i64 v zs ∧ OwnI w3 w.heap.size 3 .i64 (.slice aw xs.length cw) xs ∧ OwnI w3 w.heap.size 3 .i64 (.slice asl ys.length cs) ys ∧ Apart (.slice aw xs.length cw) v ∧ Apart (.slice asl ys.length cs) v ∧ Cur 85 w3 g ∧ w.grownBy w3 (some g)) (fun _ sv _ => p - (intOf sv).toNat)
      case atStart => exact ⟨0, [], rfl, Nat.zero_le _, rfl, hv0, hw.alloc _, hs.alloc _, hapw, haps, f2.alloc _, grownBy_trans hg2 (grownBy_alloc _ _ _)⟩
      case round =>
        clear hv0 hw hs hapw haps f2 hg2 hrw hrs hbw hbs hap HLK
        obtain ⟨s, zs, rfl, hsp, hzl, hv, hw, hs, hapw, haps, f2, hg2⟩ := hrel
        have HZ := Lib.hid hzl
        clear hzl
        have hz33 : zs.length ≤ 32 := by have := HZ.out; omega
        by_cases hlt : s < p
        · have hlz : (s : Int) < (p : Int) := by omega
          obtain ⟨q1, q2, q3⟩ := HSH.out
          go_wp2_with fail
          clear q1 q2 q3 hlz
          go_loopw [10, 11] (fun xv iv w4 => ∃ (i : Nat) (X : Int), iv = .int .i64 (i : Int) ∧ i ≤ xs.length ∧ xv = .int .i64 X ∧ w4 = wr) (fun _ iv _ => xs.length - (intOf iv).toNat)
          case atStart => exact ⟨0, 0, rfl, Nat.zero_le _, rfl, rfl⟩
          case round =>
            obtain ⟨i, X, rfl, hi, rfl, rfl⟩ := hrel
            by_cases hix : i < xs.length
            · have hiy : i < ys.length := by rw [← HLE.out]; exact hix
              have hizx : (i : Int) < (xs.length : Int) := by omega
              have hizy : (i : Int) < (ys.length : Int) := by omega
              obtain ⟨b1, o1, rfl, hb1, hc1⟩ := hw.row.at_ (by omega)
              obtain ⟨b2, o2, rfl, hb2, hc2⟩ := hs.row.at_ (by omega)
              have g1 := hc1 i hix
              have g2 := hc2 i hiy
              generalize xs.getD i 0 = X1 at g1
              generalize ys.getD i 0 = Y1 at g2
              clear hc1 hc2
              go_wp2
              all_goals
                go_roundw
                case rel => exact ⟨i + 1, _, by go_num, by omega, rfl, by first | rfl | trivial⟩
                case measure => simp [intOf]; omega
            · have hB4 := hg2.size
              go_wp2_with (at_builtin; refine wpList_appAt EI (base := w.heap.size) (v := u8) (xs := zs) (us := [X]) (g := wr.heap.size) (n := 1) (c := 1) rfl (.tmp 59) (.tmp 61) rfl ?_ ?_ rfl rfl rfl ?_ ?_ ?_; (exact hv.alloc _); (exact heap_alloc_new _ _); (show _ + 1 ≤ _; omega); (exact le_alloc hB4 _); intro v6 w6 hv6 hgrow hloc)
              have hR := fun j hj => (hv.range j hj).1
              have hapw6 := hapw.next hloc (fun j hj => (hw.alloc (.cells #[.int .i64 X] 3)).range j hj |>.2)
              have haps6 := haps.next hloc (fun j hj => (hs.alloc (.cells #[.int .i64 X] 3)).range j hj |>.2)
              have hw6 := (hw.alloc (.cells #[.int .i64 X] 3)).grown hgrow hapw
              have hs6 := (hs.alloc (.cells #[.int .i64 X] 3)).grown hgrow haps
              have f6 := (f2.alloc (.cells #[.int .i64 X] 3)).grown hgrow (fun i hi => by have := hR i hi; omega)
              have hg6 := grownBy_own (grownBy_trans hg2 (grownBy_alloc wr (.cells #[.int .i64 X] 3) (some g))) hgrow hR
              go_roundw
              case rel => first | exact ⟨s + 1, _, by go_num, by omega, by simp [HZ.out], hv6, hw6, hs6, hapw6, haps6, f6, hg6⟩ | ((repeat apply Exists.intro); exact ⟨⟨s + 1, _, by go_num, by omega, by simp [HZ.out], hv6, hw6, hs6, hapw6, haps6, f6, hg6⟩, rfl⟩)
              case measure => simp [intOf]; omega
        · obtain rfl : s = p := by omega
          obtain ⟨a8, c8, rfl, _⟩ := hv.form
          rw [HZ.out] at hv
          rw [HZ.out]
          obtain ⟨q1, q2, q3⟩ := HSH.out
          go_wp2
          go_ret
          exact ⟨a8, c8, zs, HZ.out, rfl, hv, f2, hg2⟩
end Go.Proofs.YtfcgijnfiiaepaaGreatDoor
