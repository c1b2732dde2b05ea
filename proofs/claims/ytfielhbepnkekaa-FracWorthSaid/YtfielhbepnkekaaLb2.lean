/-
  FracLowest, FracWorth: what the law computes is true.
-/
import Derived.Test.YtfielhbepnkekaaKm
namespace Go.Proofs.Ytfielhbepnkekaa
open Go.RowKit

structure LwS (W0 : World) (gf : Nat) (n d : Int) (L : Nat → Bool) (V : Nat → Value) (w : World) : Prop where
  p : Below W0.heap.size W0 w
  ox : L 1 = true → L 5 = false → ∃ zn, zn ≤ 3 ∧ WIs w (V 65) n zn
  oy : L 4 = true → L 5 = false → ∃ zn, zn ≤ 3 ∧ WIs w (V 68) d zn
  t : L 5 = true → L 7 = false → ∃ zs zA zc zk, V 69 = .agg #[.bool zs, .slice zA zk zc] ∧ WIs w (.agg #[.bool zs, .slice zA zk zc]) (n * d) zk ∧ ∀ zg, L 6 = true → V 9 = .pointer (some ⟨zg, 0, none⟩) → ∀ zu zu', WIs ((w.setCell ⟨zg, 0, none⟩ zu).setCell ⟨zg, 1, none⟩ zu') (.agg #[.bool zs, .slice zA zk zc]) (n * d) zk
  b : L 6 = true → L 7 = false → ∃ zg, V 9 = .pointer (some ⟨zg, 0, none⟩) ∧ W0.heap.size ≤ zg ∧ Blk w zg 48 #[.bool false, .slice none 0 0]
  f : L 7 = true → ∃ zg zs zA zc zk, V 9 = .pointer (some ⟨zg, 0, none⟩) ∧ W0.heap.size ≤ zg ∧ Blk w zg 48 #[.bool zs, .slice zA zk zc] ∧ WIs w (.agg #[.bool zs, .slice zA zk zc]) (n * d) zk
  e0 : L 0 = true → V 64 = .int .i64 n
  e2 : L 2 = true → V 66 = .pointer (some ⟨gf, 1, none⟩)
  e3 : L 3 = true → V 67 = .int .i64 d

structure LwN (W0 : World) (gf : Nat) (n y : Int) (L : Nat → Bool) (V : Nat → Value) (w : World) : Prop where
  p : Below W0.heap.size W0 w
  ox : L 1 = true → L 5 = false → ∃ zn, zn ≤ 3 ∧ WIs w (V 65) n zn
  oy : L 4 = true → L 5 = false → ∃ zn, zn ≤ 3 ∧ WIs w (V 68) y zn
  t : L 5 = true → L 7 = false → ∃ zs zA zc zk, V 69 = .agg #[.bool zs, .slice zA zk zc] ∧ WIs w (.agg #[.bool zs, .slice zA zk zc]) (n * y) zk ∧ ∀ zg, L 6 = true → V 9 = .pointer (some ⟨zg, 0, none⟩) → ∀ zu zu', WIs ((w.setCell ⟨zg, 0, none⟩ zu).setCell ⟨zg, 1, none⟩ zu') (.agg #[.bool zs, .slice zA zk zc]) (n * y) zk
  b : L 6 = true → L 7 = false → ∃ zg, V 9 = .pointer (some ⟨zg, 0, none⟩) ∧ W0.heap.size ≤ zg ∧ Blk w zg 48 #[.bool false, .slice none 0 0]
  f : L 7 = true → ∃ zg zs zA zc zk, V 9 = .pointer (some ⟨zg, 0, none⟩) ∧ W0.heap.size ≤ zg ∧ Blk w zg 48 #[.bool zs, .slice zA zk zc] ∧ WIs w (.agg #[.bool zs, .slice zA zk zc]) (n * y) zk
  e0 : L 0 = true → V 64 = .int .i64 n
  e2 : L 2 = true → V 66 = .pointer (some ⟨gf, 1, none⟩)
  e3 : L 3 = true → V 67 = .int .i64 y

structure LwD (W0 : World) (gf : Nat) (n y : Int) (L : Nat → Bool) (V : Nat → Value) (w : World) : Prop where
  p : Below W0.heap.size W0 w
  ox : L 1 = true → L 5 = false → ∃ zn, zn ≤ 3 ∧ WIs w (V 65) n zn
  oy : L 4 = true → L 5 = false → ∃ zn, zn ≤ 3 ∧ WIs w (V 68) y zn
  t : L 5 = true → L 7 = false → ∃ zs zA zc zk, V 69 = .agg #[.bool zs, .slice zA zk zc] ∧ WIs w (.agg #[.bool zs, .slice zA zk zc]) (n * y) zk ∧ ∀ zg, L 6 = true → V 9 = .pointer (some ⟨zg, 0, none⟩) → ∀ zu zu', WIs ((w.setCell ⟨zg, 0, none⟩ zu).setCell ⟨zg, 1, none⟩ zu') (.agg #[.bool zs, .slice zA zk zc]) (n * y) zk
  b : L 6 = true → L 7 = false → ∃ zg, V 9 = .pointer (some ⟨zg, 0, none⟩) ∧ W0.heap.size ≤ zg ∧ Blk w zg 48 #[.bool false, .slice none 0 0]
  f : L 7 = true → ∃ zg zs zA zc zk, V 9 = .pointer (some ⟨zg, 0, none⟩) ∧ W0.heap.size ≤ zg ∧ Blk w zg 48 #[.bool zs, .slice zA zk zc] ∧ WIs w (.agg #[.bool zs, .slice zA zk zc]) (n * y) zk
  e0 : L 0 = true → V 64 = .int .i64 n
  e2 : L 2 = true → V 66 = .pointer (some ⟨gf, 1, none⟩)
  e3 : L 3 = true → V 67 = .int .i64 y

set_option maxRecDepth 100000 in
set_option maxHeartbeats 2000000 in
theorem lowest_zero (n d : Int) (w : World) (hz : (d == 0) = true) (NH : Hid (∀ w, Calls Try.prog 15 #[.int .i64 n, .int .i64 d] w fun e w' => e = .returned (.tuple #[.agg #[.int .i64 0, .int .i64 0], .int .i64 20]) ∧ Below w.heap.size w w')) (VH : Hid (∀ w, Calls Try.prog 17 #[.agg #[.int .i64 n, .int .i64 d]] w fun e w' => e = .returned (.bool false) ∧ Below w.heap.size w w')) :
    Calls Try.prog 8 #[.int .i64 n, .int .i64 d] w fun e w' => e = .returned (.bool true) ∧ Below w.heap.size w w' := by
  have bb := Below.refl w.heap.size w
  go_enter Try.func8, Try.ntmps8
  go_wp2_with fail
  refine (NH.out _).mono ?_
  rintro e w1 ⟨rfl, hb1⟩
  have bb := bb.trans (hb1.mono bb.size)
  clear hb1
  have kf := Blk.new w1 (w1.heap.size) (by simp) 23 #[.int .i64 0, .int .i64 0]
  have bb := bb.alloc bb.size (.cells #[.int .i64 0, .int .i64 0] 23)
  have cf0 := kf.cell 0
  have cf1 := kf.cell 1
  simp only [List.getElem?_toArray, List.getElem?_cons_zero, List.getElem?_cons_succ] at cf0 cf1
  go_wp2_with fail
  refine (VH.out _).mono ?_
  rintro e w2 ⟨rfl, hb2⟩
  clear cf0 cf1
  have kf := kf.low hb2 kf.lt
  have bb := bb.trans (hb2.mono bb.size)
  clear hb2
  have cf0 := kf.cell 0
  have cf1 := kf.cell 1
  simp only [List.getElem?_toArray, List.getElem?_cons_zero, List.getElem?_cons_succ] at cf0 cf1
  go_wp2_with fail
  refine (awake_any _).mono ?_
  rintro e w3 ⟨rfl, hb3⟩
  clear cf0 cf1
  have kf := kf.low hb3 kf.lt
  have bb := bb.trans (hb3.mono bb.size)
  clear hb3
  have cf0 := kf.cell 0
  have cf1 := kf.cell 1
  simp only [List.getElem?_toArray, List.getElem?_cons_zero, List.getElem?_cons_succ] at cf0 cf1
  go_wp2_with fail
  go_ret
  exact ⟨by simp, bb⟩

set_option maxRecDepth 100000 in
set_option maxHeartbeats 2000000 in
theorem lowest_big (n d : Int) (w : World) (hz : (d == 0) = false) (NH : Hid (∀ w, Calls Try.prog 15 #[.int .i64 n, .int .i64 d] w fun e w' => e = .returned (.tuple #[.agg #[.int .i64 0, .int .i64 0], .int .i64 4]) ∧ Below w.heap.size w w')) (VH : Hid (∀ w, Calls Try.prog 17 #[.agg #[.int .i64 n, .int .i64 d]] w fun e w' => e = .returned (.bool false) ∧ Below w.heap.size w w')) :
    Calls Try.prog 8 #[.int .i64 n, .int .i64 d] w fun e w' => e = .returned (.bool true) ∧ Below w.heap.size w w' := by
  have bb := Below.refl w.heap.size w
  go_enter Try.func8, Try.ntmps8
  go_wp2_with fail
  refine (NH.out _).mono ?_
  rintro e w1 ⟨rfl, hb1⟩
  have bb := bb.trans (hb1.mono bb.size)
  clear hb1
  have kf := Blk.new w1 (w1.heap.size) (by simp) 23 #[.int .i64 0, .int .i64 0]
  have bb := bb.alloc bb.size (.cells #[.int .i64 0, .int .i64 0] 23)
  have cf0 := kf.cell 0
  have cf1 := kf.cell 1
  simp only [List.getElem?_toArray, List.getElem?_cons_zero, List.getElem?_cons_succ] at cf0 cf1
  go_wp2_with fail
  refine (VH.out _).mono ?_
  rintro e w2 ⟨rfl, hb2⟩
  clear cf0 cf1
  have kf := kf.low hb2 kf.lt
  have bb := bb.trans (hb2.mono bb.size)
  clear hb2
  have cf0 := kf.cell 0
  have cf1 := kf.cell 1
  simp only [List.getElem?_toArray, List.getElem?_cons_zero, List.getElem?_cons_succ] at cf0 cf1
  go_wp2_with fail
  refine (awake_any _).mono ?_
  rintro e w3 ⟨rfl, hb3⟩
  clear cf0 cf1
  have kf := kf.low hb3 kf.lt
  have bb := bb.trans (hb3.mono bb.size)
  clear hb3
  have cf0 := kf.cell 0
  have cf1 := kf.cell 1
  simp only [List.getElem?_toArray, List.getElem?_cons_zero, List.getElem?_cons_succ] at cf0 cf1
  go_wp2_with fail
  go_ret
  exact ⟨by simp, bb⟩

set_option maxRecDepth 100000 in
set_option maxHeartbeats 2000000 in
theorem lowest_same (n d : Int) (w : World) (hfn : fits n) (hfd : fits d) (hz : (d != 0) = true) (hy : decide (d > 0) = true) (_hE : Hid (n * d = n * d))  (NH : Hid (∀ w, Calls Try.prog 15 #[.int .i64 n, .int .i64 d] w fun e w' => e = .returned (.tuple #[.agg #[.int .i64 n, .int .i64 d], .int .i64 0]) ∧ Below w.heap.size w w')) (VH : Hid (∀ w, Calls Try.prog 17 #[.agg #[.int .i64 n, .int .i64 d]] w fun e w' => e = .returned (.bool true) ∧ Below w.heap.size w w'))  :
    Calls Try.prog 8 #[.int .i64 n, .int .i64 d] w fun e w' => e = .returned (.bool true) ∧ Below w.heap.size w w' := by
  have bb := Below.refl w.heap.size w
  go_enter Try.func8, Try.ntmps8
  go_wp2_with fail
  refine (NH.out _).mono ?_
  rintro e w1 ⟨rfl, hb1⟩
  have bb := bb.trans (hb1.mono bb.size)
  clear hb1
  have kf := Blk.new w1 (w1.heap.size) (by simp) 23 #[.int .i64 n, .int .i64 d]
  have bb := bb.alloc bb.size (.cells #[.int .i64 n, .int .i64 d] 23)
  have cf0 := kf.cell 0
  have cf1 := kf.cell 1
  simp only [List.getElem?_toArray, List.getElem?_cons_zero, List.getElem?_cons_succ] at cf0 cf1
  go_wp2_with fail
  refine (VH.out _).mono ?_
  rintro e w2 ⟨rfl, hb2⟩
  clear cf0 cf1
  have kf := kf.low hb2 kf.lt
  have bb := bb.trans (hb2.mono bb.size)
  clear hb2
  have cf0 := kf.cell 0
  have cf1 := kf.cell 1
  simp only [List.getElem?_toArray, List.getElem?_cons_zero, List.getElem?_cons_succ] at cf0 cf1
  go_wp2_with fail
  refine (of_any n _ (by assumption)).mono ?_
  rintro e w3 ⟨va, na, rfl, hwa, hna, hb3⟩
  clear cf0 cf1
  have kf := kf.low hb3 kf.lt
  have bb := bb.trans (hb3.mono bb.size)
  clear hb3
  go_wp2_with fail
  refine (of_any d _ (by assumption)).mono ?_
  rintro e w4 ⟨vb, nb, rfl, hwb, hnb, hb4⟩
  have kf := kf.low hb4 kf.lt
  have hwa := hwa.below hb4
  have bb := bb.trans (hb4.mono bb.size)
  clear hb4
  go_wp2_with fail
  refine (times_any _ _ _ _ _ _ _ hwa hwb (by omega) (by omega)).mono ?_
  intro e w5 hmk
  refine makes_elim hmk fun sp Ap cp mp he hwp hnew hb5 => ?_
  clear hmk hnew
  subst he
  have kf := kf.low hb5 kf.lt
  have hwa := hwa.below hb5
  have hwb := hwb.below hb5
  have bb := bb.trans (hb5.mono bb.size)
  clear hb5
  clear hwa
  clear hwb
  have hwp := hwp.below ((Below.refl _ _).alloc (Nat.le_refl _) (.cells #[.bool sp, .slice Ap mp cp] 48))
  have kf := kf.alloc (.cells #[.bool sp, .slice Ap mp cp] 48)
  have kP := Blk.new w5 (w5.heap.size) (by simp) 48 #[.bool sp, .slice Ap mp cp]
  have bb := bb.alloc bb.size (.cells #[.bool sp, .slice Ap mp cp] 48)
  go_wp2_with fail
  obtain ⟨W6, hnm⟩ : ∃ W, (w5.alloc (.cells #[.bool sp, .slice Ap mp cp] 48)) = W := ⟨_, rfl⟩
  rw [hnm] at kf kP hwp bb
  try rw [hnm]
  clear hnm
  obtain ⟨gf, hnm⟩ : ∃ g, w1.heap.size = g := ⟨_, rfl⟩
  rw [hnm] at kf
  try rw [hnm]
  clear hnm
  have Lf := kf.lt
  have Kf := Lib.hid kf
  clear kf
  have LP := kP.lt
  have KP := Lib.hid kP
  clear kP
  have HWp := Lib.hid hwp
  clear hwp
  have BB := Lib.hid bb
  clear bb
  have hIR : ∀ V, LwS W6 gf n d (fun _ => false) V W6.drew := fun V => by
    have h0 : Below W6.heap.size W6 W6.drew := Drawn.below _ ((Drawn.refl W6).drewN 1)
    constructor
    all_goals first
      | exact h0
      | (intro h; cases h)
  refine wp_region_put3 [9, 64, 65, 66, 67, 68, 69] (LwS W6 gf n d) (by kernel_rfl) (by kernel_rfl) ?_ ?_ ?_
  · exact hIR _
  · intro i o ho L V w1 hi hL hno h K hK
    rcases i with _ | _ | _ | _ | _ | _ | _ | _ | i
    · replace ho := Option.some.inj ho
      subst ho
      simp only [putAll, List.foldl_cons, List.foldl_nil, List.setIfInBounds_toArray, List.set_cons_zero, List.set_cons_succ]
      clear hL hno
      go_simp
      refine hK (updV V 64 (.int .i64 n)) _ _ (by simp [putAll, updV]) ?_
      exact { h with e0 := fun _ => rfl }
    · replace ho := Option.some.inj ho
      subst ho
      have e0 : V 64 = _ := h.e0 (hL ⟨0, .data⟩ (by simp) rfl)
      have lT : L 5 = false := hno 5 (by kernel_rfl)
      have lS : L 7 = false := hno 7 (by kernel_rfl)
      clear hL hno
      simp only [putAll, List.foldl_cons, List.foldl_nil, List.setIfInBounds_toArray, List.set_cons_zero, List.set_cons_succ]
      go_simp
      refine (of_any n w1 (by assumption)).mono ?_
      intro e w3 hof
      refine Exists.elim hof fun zv hq => Exists.elim hq fun zn hq2 => ?_
      have he := hq2.1
      have hv := hq2.2.1
      have hn := hq2.2.2.1
      have hb3 := hq2.2.2.2
      clear hof hq hq2
      subst he
      refine hK (updV V 65 zv) _ _ (by simp [putAll, updV, e0]) ?_
      exact { h with
        p := h.p.trans (hb3.mono h.p.size)
        ox := fun _ _ => ⟨zn, hn, hv⟩
        oy := fun h1 h2 => by obtain ⟨m, hm, hw⟩ := h.oy h1 h2; exact ⟨m, hm, hw.below hb3⟩
        t := fun hn => (by cases (hn.symm.trans lT))
        b := fun h1 h2 => by obtain ⟨g, q1, q2, q3⟩ := h.b h1 h2; exact ⟨g, q1, q2, q3.kept hb3⟩
        f := fun hn => (by cases (hn.symm.trans lS)) }
    · replace ho := Option.some.inj ho
      subst ho
      simp only [putAll, List.foldl_cons, List.foldl_nil, List.setIfInBounds_toArray, List.set_cons_zero, List.set_cons_succ]
      clear hL hno
      go_simp
      refine hK (updV V 66 (.pointer (some ⟨gf, 1, none⟩))) _ _ (by simp [putAll, updV]) ?_
      exact { h with e2 := fun _ => rfl }
    · replace ho := Option.some.inj ho
      subst ho
      simp only [putAll, List.foldl_cons, List.foldl_nil, List.setIfInBounds_toArray, List.set_cons_zero, List.set_cons_succ]
      have e2 : V 66 = _ := h.e2 (hL ⟨2, .data⟩ (by simp) rfl)
      have ct := (Kf.out.low h.p (by omega)).cell 1
      simp only [List.getElem?_toArray, List.getElem?_cons_zero, List.getElem?_cons_succ] at ct
      clear hL hno
      go_simp
      refine hK (updV V 67 (.int .i64 d)) _ _ (by simp [putAll, updV, e2]) ?_
      exact { h with e3 := fun _ => rfl }
    · replace ho := Option.some.inj ho
      subst ho
      have e3 : V 67 = _ := h.e3 (hL ⟨3, .data⟩ (by simp) rfl)
      have lT : L 5 = false := hno 5 (by kernel_rfl)
      have lS : L 7 = false := hno 7 (by kernel_rfl)
      clear hL hno
      simp only [putAll, List.foldl_cons, List.foldl_nil, List.setIfInBounds_toArray, List.set_cons_zero, List.set_cons_succ]
      go_simp
      refine (of_any d w1 (by assumption)).mono ?_
      intro e w3 hof
      refine Exists.elim hof fun zv hq => Exists.elim hq fun zn hq2 => ?_
      have he := hq2.1
      have hv := hq2.2.1
      have hn := hq2.2.2.1
      have hb3 := hq2.2.2.2
      clear hof hq hq2
      subst he
      refine hK (updV V 68 zv) _ _ (by simp [putAll, updV, e3]) ?_
      exact { h with
        p := h.p.trans (hb3.mono h.p.size)
        oy := fun _ _ => ⟨zn, hn, hv⟩
        ox := fun h1 h2 => by obtain ⟨m, hm, hw⟩ := h.ox h1 h2; exact ⟨m, hm, hw.below hb3⟩
        t := fun hn => (by cases (hn.symm.trans lT))
        b := fun h1 h2 => by obtain ⟨g, q1, q2, q3⟩ := h.b h1 h2; exact ⟨g, q1, q2, q3.kept hb3⟩
        f := fun hn => (by cases (hn.symm.trans lS)) }
    · replace ho := Option.some.inj ho
      subst ho
      have t1 : L 1 = true := hL ⟨1, .data⟩ (by simp) rfl
      have t2 : L 4 = true := hL ⟨4, .data⟩ (by simp) rfl
      have lT : L 5 = false := hi
      have lS : L 7 = false := hno 7 (by kernel_rfl)
      clear hL hno
      simp only [putAll, List.foldl_cons, List.foldl_nil, List.setIfInBounds_toArray, List.set_cons_zero, List.set_cons_succ]
      refine Exists.elim (h.ox t1 lT) fun zn hq => Exists.elim (h.oy t2 lT) fun zm hr => ?_
      have hn := hq.1
      have hv := hq.2
      have hm := hr.1
      have hw := hr.2
      clear hq hr
      go_simp
      refine (times_any (V 65) (V 68) n d zn zm w1 hv hw (by omega) (by omega)).mono ?_
      intro e w3 hmk
      refine makes_elim hmk fun zs zA zc zk he hv3 hnew hb3 => ?_
      clear hmk
      subst he
      refine hK (updV V 69 (.agg #[.bool zs, .slice zA zk zc])) _ _ (by simp [putAll, updV]) ?_
      exact { h with
        p := h.p.trans (hb3.mono h.p.size)
        ox := fun _ hn => (by cases hn)
        oy := fun _ hn => (by cases hn)
        t := fun _ _ => ⟨zs, zA, zc, zk, rfl, hv3, fun zg hA hg zu zu' => by
          obtain ⟨g', q1, q2, q3⟩ := h.b hA lS
          have hgg : zg = g' := box_inj (hg.symm.trans q1)
          subst hgg
          exact hv3.stored (fun ad had => by have := hnew ad had; have := q3.lt; omega) zu zu'⟩
        b := fun h1 h2 => by obtain ⟨g, q1, q2, q3⟩ := h.b h1 h2; exact ⟨g, q1, q2, q3.kept hb3⟩
        f := fun hn => (by cases (hn.symm.trans lS)) }
    · replace ho := Option.some.inj ho
      subst ho
      have lS : L 7 = false := hno 7 (by kernel_rfl)
      clear hL hno
      simp only [putAll, List.foldl_cons, List.foldl_nil, List.setIfInBounds_toArray, List.set_cons_zero, List.set_cons_succ]
      have hb := (Below.refl w1.heap.size w1).alloc (Nat.le_refl _) (.cells #[.bool false, .slice none 0 0] 48)
      have hnew := Blk.new w1 _ rfl 48 #[.bool false, .slice none 0 0]
      go_simp
      refine hK (updV V 9 (.pointer (some ⟨w1.heap.size, 0, none⟩))) _ _ (by simp [putAll, updV]) ?_
      exact { h with
        p := h.p.trans (hb.mono h.p.size)
        ox := fun h1 h2 => by obtain ⟨m, hm, hw⟩ := h.ox h1 h2; exact ⟨m, hm, hw.below hb⟩
        oy := fun h1 h2 => by obtain ⟨m, hm, hw⟩ := h.oy h1 h2; exact ⟨m, hm, hw.below hb⟩
        t := fun h1 h2 => by
          obtain ⟨s, A, c, k, q1, q2, _⟩ := h.t h1 h2
          refine ⟨s, A, c, k, q1, q2.below hb, fun g _ hg u u' => ?_⟩
          have hgg : w1.heap.size = g := box_inj hg
          subst hgg
          exact q2.below ((hb.setCell (Nat.le_refl _) u).setCell (Nat.le_refl _) u')
        b := fun _ _ => ⟨_, rfl, h.p.size, hnew⟩
        f := fun hn => (by cases (hn.symm.trans lS)) }
    · replace ho := Option.some.inj ho
      subst ho
      have t1 : L 5 = true := hL ⟨5, .data⟩ (by simp) rfl
      have t2 : L 6 = true := hL ⟨6, .data⟩ (by simp) rfl
      have t3 : L 7 = false := hi
      clear hL hno
      simp only [putAll, List.foldl_cons, List.foldl_nil, List.setIfInBounds_toArray, List.set_cons_zero, List.set_cons_succ]
      refine Exists.elim (h.b t2 t3) fun zg hq => ?_
      have q1 := hq.1
      have q2 := hq.2.1
      have q3 := hq.2.2
      clear hq
      refine Exists.elim (h.t t1 t3) fun zs hs => Exists.elim hs fun zA ha => Exists.elim ha fun zc hc => Exists.elim hc fun zk hk => ?_
      have r1 := hk.1
      have r2 := hk.2.2 zg t2 q1 (.bool zs) (.slice zA zk zc)
      clear hs ha hc hk
      have f0 := q3.cell 0
      have f1 := q3.cell 1
      have z0 := q3.frozen 0
      have z1 := q3.frozen 1
      simp only [List.getElem?_toArray, List.getElem?_cons_zero, List.getElem?_cons_succ] at f0 f1
      have kb := (q3.set 0 (.bool zs)).set 1 (.slice zA zk zc)
      have bb := (h.p.setCell (p := ⟨zg, 0, none⟩) q2 (.bool zs)).setCell (p := ⟨zg, 1, none⟩) q2 (.slice zA zk zc)
      simp at kb
      clear q3
      go_simp
      refine hK V _ _ (by simp [putAll, q1, r1]) ?_
      exact { h with
        p := bb
        ox := fun _ hn => (by cases (hn.symm.trans t1))
        oy := fun _ hn => (by cases (hn.symm.trans t1))
        t := fun _ hn => (by cases hn)
        b := fun _ hn => (by cases hn)
        f := fun _ => ⟨zg, zs, zA, zc, zk, q1, q2, kb, r2⟩ }
    · simp at ho
  · clear hIR
    intro L V w6 hL h
    have t1 : L 7 = true := hL 7 (by simp)
    refine Exists.elim (h.f t1) fun gq hq1 => Exists.elim hq1 fun sq hq2 => Exists.elim hq2 fun Aq hq3 => Exists.elim hq3 fun cq hq4 => Exists.elim hq4 fun mq hq5 => ?_
    have q1 := hq5.1
    have hgq := hq5.2.1
    have kqB := hq5.2.2.1
    have hwq := hq5.2.2.2
    have bp := h.p
    clear t1 hq1 hq2 hq3 hq4 hq5
    simp only [putAll, List.foldl_cons, List.foldl_nil, List.setIfInBounds_toArray, List.set_cons_zero, List.set_cons_succ, q1]
    clear h hL q1
    generalize V 64 = v64
    generalize V 65 = v65
    generalize V 66 = v66
    generalize V 67 = v67
    generalize V 68 = v68
    generalize V 69 = v69
    have kf := Kf.out.low bp Lf
    clear Kf Lf
    have kP := KP.out.low bp LP
    clear KP LP
    have hwp := HWp.out.below bp
    clear HWp
    have bb := BB.out.trans (bp.mono BB.out.size)
    clear BB bp
    clear hgq
    have cf0 := kf.cell 0
    have cf1 := kf.cell 1
    have cP0 := kP.cell 0
    have cP1 := kP.cell 1
    have cqB0 := kqB.cell 0
    have cqB1 := kqB.cell 1
    simp only [List.getElem?_toArray, List.getElem?_cons_zero, List.getElem?_cons_succ] at cf0 cf1 cP0 cP1 cqB0 cqB1
    go_wp2_with fail
    refine (awake_any _).mono ?_
    rintro e w7 ⟨rfl, hb7⟩
    clear cf0 cf1 cP0 cP1 cqB0 cqB1
    have kf := kf.low hb7 kf.lt
    have kP := kP.low hb7 kP.lt
    have kqB := kqB.low hb7 kqB.lt
    have hwp := hwp.below hb7
    have hwq := hwq.below hb7
    have bb := bb.trans (hb7.mono bb.size)
    clear hb7
    have cf0 := kf.cell 0
    have cf1 := kf.cell 1
    have cP0 := kP.cell 0
    have cP1 := kP.cell 1
    have cqB0 := kqB.cell 0
    have cqB1 := kqB.cell 1
    simp only [List.getElem?_toArray, List.getElem?_cons_zero, List.getElem?_cons_succ] at cf0 cf1 cP0 cP1 cqB0 cqB1
    go_wp2_with fail
    refine (VH.out _).mono ?_
    rintro e w8 ⟨rfl, hb8⟩
    clear cf0 cf1 cP0 cP1 cqB0 cqB1
    have kf := kf.low hb8 kf.lt
    have kP := kP.low hb8 kP.lt
    have kqB := kqB.low hb8 kqB.lt
    have hwp := hwp.below hb8
    have hwq := hwq.below hb8
    have bb := bb.trans (hb8.mono bb.size)
    clear hb8
    have cf0 := kf.cell 0
    have cf1 := kf.cell 1
    have cP0 := kP.cell 0
    have cP1 := kP.cell 1
    have cqB0 := kqB.cell 0
    have cqB1 := kqB.cell 1
    simp only [List.getElem?_toArray, List.getElem?_cons_zero, List.getElem?_cons_succ] at cf0 cf1 cP0 cP1 cqB0 cqB1
    have hcz : cmpI (n * d) (n * d) = 0 := cmpI_eq rfl
    have hcm := Lib.hid (cmp_any _ _ _ _ _ _ w8 hwp hwq)
    rw [hcz] at hcm
    clear hcz
    go_wp2_with fail
    refine (hcm.out).mono ?_
    rintro e w9 ⟨rfl, hb9⟩
    clear cf0 cf1 cP0 cP1 cqB0 cqB1
    have kf := kf.low hb9 kf.lt
    have kP := kP.low hb9 kP.lt
    have kqB := kqB.low hb9 kqB.lt
    have hwp := hwp.below hb9
    have hwq := hwq.below hb9
    have bb := bb.trans (hb9.mono bb.size)
    clear hb9
    go_wp2_with fail
    go_ret
    exact ⟨by simp, bb⟩

set_option maxRecDepth 100000 in
set_option maxHeartbeats 2000000 in
theorem lowest_n (n d x y : Int) (w : World) (hfn : fits n) (hfd : fits d) (hfx : fits x) (hfy : fits y) (hz : (d != 0) = true) (hy : decide (y > 0) = true) (hE : Hid (x * d = n * y)) (hxn : (x == n) = false) (NH : Hid (∀ w, Calls Try.prog 15 #[.int .i64 n, .int .i64 d] w fun e w' => e = .returned (.tuple #[.agg #[.int .i64 x, .int .i64 y], .int .i64 0]) ∧ Below w.heap.size w w')) (VH : Hid (∀ w, Calls Try.prog 17 #[.agg #[.int .i64 n, .int .i64 d]] w fun e w' => e = .returned (.bool false) ∧ Below w.heap.size w w')) (VH2 : Hid (∀ w, Calls Try.prog 17 #[.agg #[.int .i64 x, .int .i64 y]] w fun e w' => e = .returned (.bool true) ∧ Below w.heap.size w w')) :
    Calls Try.prog 8 #[.int .i64 n, .int .i64 d] w fun e w' => e = .returned (.bool true) ∧ Below w.heap.size w w' := by
  have bb := Below.refl w.heap.size w
  go_enter Try.func8, Try.ntmps8
  go_wp2_with fail
  refine (NH.out _).mono ?_
  rintro e w1 ⟨rfl, hb1⟩
  have bb := bb.trans (hb1.mono bb.size)
  clear hb1
  have kf := Blk.new w1 (w1.heap.size) (by simp) 23 #[.int .i64 x, .int .i64 y]
  have bb := bb.alloc bb.size (.cells #[.int .i64 x, .int .i64 y] 23)
  have cf0 := kf.cell 0
  have cf1 := kf.cell 1
  simp only [List.getElem?_toArray, List.getElem?_cons_zero, List.getElem?_cons_succ] at cf0 cf1
  go_wp2_with fail
  refine (VH.out _).mono ?_
  rintro e w2 ⟨rfl, hb2⟩
  clear cf0 cf1
  have kf := kf.low hb2 kf.lt
  have bb := bb.trans (hb2.mono bb.size)
  clear hb2
  have cf0 := kf.cell 0
  have cf1 := kf.cell 1
  simp only [List.getElem?_toArray, List.getElem?_cons_zero, List.getElem?_cons_succ] at cf0 cf1
  go_wp2_with fail
  refine (of_any x _ (by assumption)).mono ?_
  rintro e w3 ⟨va, na, rfl, hwa, hna, hb3⟩
  clear cf0 cf1
  have kf := kf.low hb3 kf.lt
  have bb := bb.trans (hb3.mono bb.size)
  clear hb3
  go_wp2_with fail
  refine (of_any d _ (by assumption)).mono ?_
  rintro e w4 ⟨vb, nb, rfl, hwb, hnb, hb4⟩
  have kf := kf.low hb4 kf.lt
  have hwa := hwa.below hb4
  have bb := bb.trans (hb4.mono bb.size)
  clear hb4
  go_wp2_with fail
  refine (times_any _ _ _ _ _ _ _ hwa hwb (by omega) (by omega)).mono ?_
  intro e w5 hmk
  refine makes_elim hmk fun sp Ap cp mp he hwp hnew hb5 => ?_
  clear hmk hnew
  subst he
  have kf := kf.low hb5 kf.lt
  have hwa := hwa.below hb5
  have hwb := hwb.below hb5
  have bb := bb.trans (hb5.mono bb.size)
  clear hb5
  clear hwa
  clear hwb
  have hwp := hwp.below ((Below.refl _ _).alloc (Nat.le_refl _) (.cells #[.bool sp, .slice Ap mp cp] 48))
  have kf := kf.alloc (.cells #[.bool sp, .slice Ap mp cp] 48)
  have kP := Blk.new w5 (w5.heap.size) (by simp) 48 #[.bool sp, .slice Ap mp cp]
  have bb := bb.alloc bb.size (.cells #[.bool sp, .slice Ap mp cp] 48)
  go_wp2_with fail
  obtain ⟨W6, hnm⟩ : ∃ W, (w5.alloc (.cells #[.bool sp, .slice Ap mp cp] 48)) = W := ⟨_, rfl⟩
  rw [hnm] at kf kP hwp bb
  try rw [hnm]
  clear hnm
  obtain ⟨gf, hnm⟩ : ∃ g, w1.heap.size = g := ⟨_, rfl⟩
  rw [hnm] at kf
  try rw [hnm]
  clear hnm
  have Lf := kf.lt
  have Kf := Lib.hid kf
  clear kf
  have LP := kP.lt
  have KP := Lib.hid kP
  clear kP
  have HWp := Lib.hid hwp
  clear hwp
  have BB := Lib.hid bb
  clear bb
  have hIR : ∀ V, LwN W6 gf n y (fun _ => false) V W6.drew := fun V => by
    have h0 : Below W6.heap.size W6 W6.drew := Drawn.below _ ((Drawn.refl W6).drewN 1)
    constructor
    all_goals first
      | exact h0
      | (intro h; cases h)
  refine wp_region_put3 [9, 64, 65, 66, 67, 68, 69] (LwN W6 gf n y) (by kernel_rfl) (by kernel_rfl) ?_ ?_ ?_
  · exact hIR _
  · intro i o ho L V w1 hi hL hno h K hK
    rcases i with _ | _ | _ | _ | _ | _ | _ | _ | i
    · replace ho := Option.some.inj ho
      subst ho
      simp only [putAll, List.foldl_cons, List.foldl_nil, List.setIfInBounds_toArray, List.set_cons_zero, List.set_cons_succ]
      clear hL hno
      go_simp
      refine hK (updV V 64 (.int .i64 n)) _ _ (by simp [putAll, updV]) ?_
      exact { h with e0 := fun _ => rfl }
    · replace ho := Option.some.inj ho
      subst ho
      have e0 : V 64 = _ := h.e0 (hL ⟨0, .data⟩ (by simp) rfl)
      have lT : L 5 = false := hno 5 (by kernel_rfl)
      have lS : L 7 = false := hno 7 (by kernel_rfl)
      clear hL hno
      simp only [putAll, List.foldl_cons, List.foldl_nil, List.setIfInBounds_toArray, List.set_cons_zero, List.set_cons_succ]
      go_simp
      refine (of_any n w1 (by assumption)).mono ?_
      intro e w3 hof
      refine Exists.elim hof fun zv hq => Exists.elim hq fun zn hq2 => ?_
      have he := hq2.1
      have hv := hq2.2.1
      have hn := hq2.2.2.1
      have hb3 := hq2.2.2.2
      clear hof hq hq2
      subst he
      refine hK (updV V 65 zv) _ _ (by simp [putAll, updV, e0]) ?_
      exact { h with
        p := h.p.trans (hb3.mono h.p.size)
        ox := fun _ _ => ⟨zn, hn, hv⟩
        oy := fun h1 h2 => by obtain ⟨m, hm, hw⟩ := h.oy h1 h2; exact ⟨m, hm, hw.below hb3⟩
        t := fun hn => (by cases (hn.symm.trans lT))
        b := fun h1 h2 => by obtain ⟨g, q1, q2, q3⟩ := h.b h1 h2; exact ⟨g, q1, q2, q3.kept hb3⟩
        f := fun hn => (by cases (hn.symm.trans lS)) }
    · replace ho := Option.some.inj ho
      subst ho
      simp only [putAll, List.foldl_cons, List.foldl_nil, List.setIfInBounds_toArray, List.set_cons_zero, List.set_cons_succ]
      clear hL hno
      go_simp
      refine hK (updV V 66 (.pointer (some ⟨gf, 1, none⟩))) _ _ (by simp [putAll, updV]) ?_
      exact { h with e2 := fun _ => rfl }
    · replace ho := Option.some.inj ho
      subst ho
      simp only [putAll, List.foldl_cons, List.foldl_nil, List.setIfInBounds_toArray, List.set_cons_zero, List.set_cons_succ]
      have e2 : V 66 = _ := h.e2 (hL ⟨2, .data⟩ (by simp) rfl)
      have ct := (Kf.out.low h.p (by omega)).cell 1
      simp only [List.getElem?_toArray, List.getElem?_cons_zero, List.getElem?_cons_succ] at ct
      clear hL hno
      go_simp
      refine hK (updV V 67 (.int .i64 y)) _ _ (by simp [putAll, updV, e2]) ?_
      exact { h with e3 := fun _ => rfl }
    · replace ho := Option.some.inj ho
      subst ho
      have e3 : V 67 = _ := h.e3 (hL ⟨3, .data⟩ (by simp) rfl)
      have lT : L 5 = false := hno 5 (by kernel_rfl)
      have lS : L 7 = false := hno 7 (by kernel_rfl)
      clear hL hno
      simp only [putAll, List.foldl_cons, List.foldl_nil, List.setIfInBounds_toArray, List.set_cons_zero, List.set_cons_succ]
      go_simp
      refine (of_any y w1 (by assumption)).mono ?_
      intro e w3 hof
      refine Exists.elim hof fun zv hq => Exists.elim hq fun zn hq2 => ?_
      have he := hq2.1
      have hv := hq2.2.1
      have hn := hq2.2.2.1
      have hb3 := hq2.2.2.2
      clear hof hq hq2
      subst he
      refine hK (updV V 68 zv) _ _ (by simp [putAll, updV, e3]) ?_
      exact { h with
        p := h.p.trans (hb3.mono h.p.size)
        oy := fun _ _ => ⟨zn, hn, hv⟩
        ox := fun h1 h2 => by obtain ⟨m, hm, hw⟩ := h.ox h1 h2; exact ⟨m, hm, hw.below hb3⟩
        t := fun hn => (by cases (hn.symm.trans lT))
        b := fun h1 h2 => by obtain ⟨g, q1, q2, q3⟩ := h.b h1 h2; exact ⟨g, q1, q2, q3.kept hb3⟩
        f := fun hn => (by cases (hn.symm.trans lS)) }
    · replace ho := Option.some.inj ho
      subst ho
      have t1 : L 1 = true := hL ⟨1, .data⟩ (by simp) rfl
      have t2 : L 4 = true := hL ⟨4, .data⟩ (by simp) rfl
      have lT : L 5 = false := hi
      have lS : L 7 = false := hno 7 (by kernel_rfl)
      clear hL hno
      simp only [putAll, List.foldl_cons, List.foldl_nil, List.setIfInBounds_toArray, List.set_cons_zero, List.set_cons_succ]
      refine Exists.elim (h.ox t1 lT) fun zn hq => Exists.elim (h.oy t2 lT) fun zm hr => ?_
      have hn := hq.1
      have hv := hq.2
      have hm := hr.1
      have hw := hr.2
      clear hq hr
      go_simp
      refine (times_any (V 65) (V 68) n y zn zm w1 hv hw (by omega) (by omega)).mono ?_
      intro e w3 hmk
      refine makes_elim hmk fun zs zA zc zk he hv3 hnew hb3 => ?_
      clear hmk
      subst he
      refine hK (updV V 69 (.agg #[.bool zs, .slice zA zk zc])) _ _ (by simp [putAll, updV]) ?_
      exact { h with
        p := h.p.trans (hb3.mono h.p.size)
        ox := fun _ hn => (by cases hn)
        oy := fun _ hn => (by cases hn)
        t := fun _ _ => ⟨zs, zA, zc, zk, rfl, hv3, fun zg hA hg zu zu' => by
          obtain ⟨g', q1, q2, q3⟩ := h.b hA lS
          have hgg : zg = g' := box_inj (hg.symm.trans q1)
          subst hgg
          exact hv3.stored (fun ad had => by have := hnew ad had; have := q3.lt; omega) zu zu'⟩
        b := fun h1 h2 => by obtain ⟨g, q1, q2, q3⟩ := h.b h1 h2; exact ⟨g, q1, q2, q3.kept hb3⟩
        f := fun hn => (by cases (hn.symm.trans lS)) }
    · replace ho := Option.some.inj ho
      subst ho
      have lS : L 7 = false := hno 7 (by kernel_rfl)
      clear hL hno
      simp only [putAll, List.foldl_cons, List.foldl_nil, List.setIfInBounds_toArray, List.set_cons_zero, List.set_cons_succ]
      have hb := (Below.refl w1.heap.size w1).alloc (Nat.le_refl _) (.cells #[.bool false, .slice none 0 0] 48)
      have hnew := Blk.new w1 _ rfl 48 #[.bool false, .slice none 0 0]
      go_simp
      refine hK (updV V 9 (.pointer (some ⟨w1.heap.size, 0, none⟩))) _ _ (by simp [putAll, updV]) ?_
      exact { h with
        p := h.p.trans (hb.mono h.p.size)
        ox := fun h1 h2 => by obtain ⟨m, hm, hw⟩ := h.ox h1 h2; exact ⟨m, hm, hw.below hb⟩
        oy := fun h1 h2 => by obtain ⟨m, hm, hw⟩ := h.oy h1 h2; exact ⟨m, hm, hw.below hb⟩
        t := fun h1 h2 => by
          obtain ⟨s, A, c, k, q1, q2, _⟩ := h.t h1 h2
          refine ⟨s, A, c, k, q1, q2.below hb, fun g _ hg u u' => ?_⟩
          have hgg : w1.heap.size = g := box_inj hg
          subst hgg
          exact q2.below ((hb.setCell (Nat.le_refl _) u).setCell (Nat.le_refl _) u')
        b := fun _ _ => ⟨_, rfl, h.p.size, hnew⟩
        f := fun hn => (by cases (hn.symm.trans lS)) }
    · replace ho := Option.some.inj ho
      subst ho
      have t1 : L 5 = true := hL ⟨5, .data⟩ (by simp) rfl
      have t2 : L 6 = true := hL ⟨6, .data⟩ (by simp) rfl
      have t3 : L 7 = false := hi
      clear hL hno
      simp only [putAll, List.foldl_cons, List.foldl_nil, List.setIfInBounds_toArray, List.set_cons_zero, List.set_cons_succ]
      refine Exists.elim (h.b t2 t3) fun zg hq => ?_
      have q1 := hq.1
      have q2 := hq.2.1
      have q3 := hq.2.2
      clear hq
      refine Exists.elim (h.t t1 t3) fun zs hs => Exists.elim hs fun zA ha => Exists.elim ha fun zc hc => Exists.elim hc fun zk hk => ?_
      have r1 := hk.1
      have r2 := hk.2.2 zg t2 q1 (.bool zs) (.slice zA zk zc)
      clear hs ha hc hk
      have f0 := q3.cell 0
      have f1 := q3.cell 1
      have z0 := q3.frozen 0
      have z1 := q3.frozen 1
      simp only [List.getElem?_toArray, List.getElem?_cons_zero, List.getElem?_cons_succ] at f0 f1
      have kb := (q3.set 0 (.bool zs)).set 1 (.slice zA zk zc)
      have bb := (h.p.setCell (p := ⟨zg, 0, none⟩) q2 (.bool zs)).setCell (p := ⟨zg, 1, none⟩) q2 (.slice zA zk zc)
      simp at kb
      clear q3
      go_simp
      refine hK V _ _ (by simp [putAll, q1, r1]) ?_
      exact { h with
        p := bb
        ox := fun _ hn => (by cases (hn.symm.trans t1))
        oy := fun _ hn => (by cases (hn.symm.trans t1))
        t := fun _ hn => (by cases hn)
        b := fun _ hn => (by cases hn)
        f := fun _ => ⟨zg, zs, zA, zc, zk, q1, q2, kb, r2⟩ }
    · simp at ho
  · clear hIR
    intro L V w6 hL h
    have t1 : L 7 = true := hL 7 (by simp)
    refine Exists.elim (h.f t1) fun gq hq1 => Exists.elim hq1 fun sq hq2 => Exists.elim hq2 fun Aq hq3 => Exists.elim hq3 fun cq hq4 => Exists.elim hq4 fun mq hq5 => ?_
    have q1 := hq5.1
    have hgq := hq5.2.1
    have kqB := hq5.2.2.1
    have hwq := hq5.2.2.2
    have bp := h.p
    clear t1 hq1 hq2 hq3 hq4 hq5
    simp only [putAll, List.foldl_cons, List.foldl_nil, List.setIfInBounds_toArray, List.set_cons_zero, List.set_cons_succ, q1]
    clear h hL q1
    generalize V 64 = v64
    generalize V 65 = v65
    generalize V 66 = v66
    generalize V 67 = v67
    generalize V 68 = v68
    generalize V 69 = v69
    have kf := Kf.out.low bp Lf
    clear Kf Lf
    have kP := KP.out.low bp LP
    clear KP LP
    have hwp := HWp.out.below bp
    clear HWp
    have bb := BB.out.trans (bp.mono BB.out.size)
    clear BB bp
    clear hgq
    have cf0 := kf.cell 0
    have cf1 := kf.cell 1
    have cP0 := kP.cell 0
    have cP1 := kP.cell 1
    have cqB0 := kqB.cell 0
    have cqB1 := kqB.cell 1
    simp only [List.getElem?_toArray, List.getElem?_cons_zero, List.getElem?_cons_succ] at cf0 cf1 cP0 cP1 cqB0 cqB1
    go_wp2_with fail
    refine (awake_any _).mono ?_
    rintro e w7 ⟨rfl, hb7⟩
    clear cf0 cf1 cP0 cP1 cqB0 cqB1
    have kf := kf.low hb7 kf.lt
    have kP := kP.low hb7 kP.lt
    have kqB := kqB.low hb7 kqB.lt
    have hwp := hwp.below hb7
    have hwq := hwq.below hb7
    have bb := bb.trans (hb7.mono bb.size)
    clear hb7
    have cf0 := kf.cell 0
    have cf1 := kf.cell 1
    have cP0 := kP.cell 0
    have cP1 := kP.cell 1
    have cqB0 := kqB.cell 0
    have cqB1 := kqB.cell 1
    simp only [List.getElem?_toArray, List.getElem?_cons_zero, List.getElem?_cons_succ] at cf0 cf1 cP0 cP1 cqB0 cqB1
    go_wp2_with fail
    refine (VH2.out _).mono ?_
    rintro e w8 ⟨rfl, hb8⟩
    clear cf0 cf1 cP0 cP1 cqB0 cqB1
    have kf := kf.low hb8 kf.lt
    have kP := kP.low hb8 kP.lt
    have kqB := kqB.low hb8 kqB.lt
    have hwp := hwp.below hb8
    have hwq := hwq.below hb8
    have bb := bb.trans (hb8.mono bb.size)
    clear hb8
    have cf0 := kf.cell 0
    have cf1 := kf.cell 1
    have cP0 := kP.cell 0
    have cP1 := kP.cell 1
    have cqB0 := kqB.cell 0
    have cqB1 := kqB.cell 1
    simp only [List.getElem?_toArray, List.getElem?_cons_zero, List.getElem?_cons_succ] at cf0 cf1 cP0 cP1 cqB0 cqB1
    have hcz : cmpI (x * d) (n * y) = 0 := cmpI_eq hE.out
    have hcm := Lib.hid (cmp_any _ _ _ _ _ _ w8 hwp hwq)
    rw [hcz] at hcm
    clear hcz
    go_wp2_with fail
    refine (hcm.out).mono ?_
    rintro e w9 ⟨rfl, hb9⟩
    clear cf0 cf1 cP0 cP1 cqB0 cqB1
    have kf := kf.low hb9 kf.lt
    have kP := kP.low hb9 kP.lt
    have kqB := kqB.low hb9 kqB.lt
    have hwp := hwp.below hb9
    have hwq := hwq.below hb9
    have bb := bb.trans (hb9.mono bb.size)
    clear hb9
    go_wp2_with fail
    go_ret
    exact ⟨by simp, bb⟩

set_option maxRecDepth 100000 in
set_option maxHeartbeats 2000000 in
theorem lowest_d (n d x y : Int) (w : World) (hfn : fits n) (hfd : fits d) (hfx : fits x) (hfy : fits y) (hz : (d != 0) = true) (hy : decide (y > 0) = true) (hE : Hid (x * d = n * y)) (hxn : (x == n) = true) (hyd : (y == d) = false) (NH : Hid (∀ w, Calls Try.prog 15 #[.int .i64 n, .int .i64 d] w fun e w' => e = .returned (.tuple #[.agg #[.int .i64 x, .int .i64 y], .int .i64 0]) ∧ Below w.heap.size w w')) (VH : Hid (∀ w, Calls Try.prog 17 #[.agg #[.int .i64 n, .int .i64 d]] w fun e w' => e = .returned (.bool false) ∧ Below w.heap.size w w')) (VH2 : Hid (∀ w, Calls Try.prog 17 #[.agg #[.int .i64 x, .int .i64 y]] w fun e w' => e = .returned (.bool true) ∧ Below w.heap.size w w')) :
    Calls Try.prog 8 #[.int .i64 n, .int .i64 d] w fun e w' => e = .returned (.bool true) ∧ Below w.heap.size w w' := by
  have bb := Below.refl w.heap.size w
  go_enter Try.func8, Try.ntmps8
  go_wp2_with fail
  refine (NH.out _).mono ?_
  rintro e w1 ⟨rfl, hb1⟩
  have bb := bb.trans (hb1.mono bb.size)
  clear hb1
  have kf := Blk.new w1 (w1.heap.size) (by simp) 23 #[.int .i64 x, .int .i64 y]
  have bb := bb.alloc bb.size (.cells #[.int .i64 x, .int .i64 y] 23)
  have cf0 := kf.cell 0
  have cf1 := kf.cell 1
  simp only [List.getElem?_toArray, List.getElem?_cons_zero, List.getElem?_cons_succ] at cf0 cf1
  go_wp2_with fail
  refine (VH.out _).mono ?_
  rintro e w2 ⟨rfl, hb2⟩
  clear cf0 cf1
  have kf := kf.low hb2 kf.lt
  have bb := bb.trans (hb2.mono bb.size)
  clear hb2
  have cf0 := kf.cell 0
  have cf1 := kf.cell 1
  simp only [List.getElem?_toArray, List.getElem?_cons_zero, List.getElem?_cons_succ] at cf0 cf1
  go_wp2_with fail
  refine (of_any x _ (by assumption)).mono ?_
  rintro e w3 ⟨va, na, rfl, hwa, hna, hb3⟩
  clear cf0 cf1
  have kf := kf.low hb3 kf.lt
  have bb := bb.trans (hb3.mono bb.size)
  clear hb3
  go_wp2_with fail
  refine (of_any d _ (by assumption)).mono ?_
  rintro e w4 ⟨vb, nb, rfl, hwb, hnb, hb4⟩
  have kf := kf.low hb4 kf.lt
  have hwa := hwa.below hb4
  have bb := bb.trans (hb4.mono bb.size)
  clear hb4
  go_wp2_with fail
  refine (times_any _ _ _ _ _ _ _ hwa hwb (by omega) (by omega)).mono ?_
  intro e w5 hmk
  refine makes_elim hmk fun sp Ap cp mp he hwp hnew hb5 => ?_
  clear hmk hnew
  subst he
  have kf := kf.low hb5 kf.lt
  have hwa := hwa.below hb5
  have hwb := hwb.below hb5
  have bb := bb.trans (hb5.mono bb.size)
  clear hb5
  clear hwa
  clear hwb
  have hwp := hwp.below ((Below.refl _ _).alloc (Nat.le_refl _) (.cells #[.bool sp, .slice Ap mp cp] 48))
  have kf := kf.alloc (.cells #[.bool sp, .slice Ap mp cp] 48)
  have kP := Blk.new w5 (w5.heap.size) (by simp) 48 #[.bool sp, .slice Ap mp cp]
  have bb := bb.alloc bb.size (.cells #[.bool sp, .slice Ap mp cp] 48)
  go_wp2_with fail
  obtain ⟨W6, hnm⟩ : ∃ W, (w5.alloc (.cells #[.bool sp, .slice Ap mp cp] 48)) = W := ⟨_, rfl⟩
  rw [hnm] at kf kP hwp bb
  try rw [hnm]
  clear hnm
  obtain ⟨gf, hnm⟩ : ∃ g, w1.heap.size = g := ⟨_, rfl⟩
  rw [hnm] at kf
  try rw [hnm]
  clear hnm
  have Lf := kf.lt
  have Kf := Lib.hid kf
  clear kf
  have LP := kP.lt
  have KP := Lib.hid kP
  clear kP
  have HWp := Lib.hid hwp
  clear hwp
  have BB := Lib.hid bb
  clear bb
  have hIR : ∀ V, LwD W6 gf n y (fun _ => false) V W6.drew := fun V => by
    have h0 : Below W6.heap.size W6 W6.drew := Drawn.below _ ((Drawn.refl W6).drewN 1)
    constructor
    all_goals first
      | exact h0
      | (intro h; cases h)
  refine wp_region_put3 [9, 64, 65, 66, 67, 68, 69] (LwD W6 gf n y) (by kernel_rfl) (by kernel_rfl) ?_ ?_ ?_
  · exact hIR _
  · intro i o ho L V w1 hi hL hno h K hK
    rcases i with _ | _ | _ | _ | _ | _ | _ | _ | i
    · replace ho := Option.some.inj ho
      subst ho
      simp only [putAll, List.foldl_cons, List.foldl_nil, List.setIfInBounds_toArray, List.set_cons_zero, List.set_cons_succ]
      clear hL hno
      go_simp
      refine hK (updV V 64 (.int .i64 n)) _ _ (by simp [putAll, updV]) ?_
      exact { h with e0 := fun _ => rfl }
    · replace ho := Option.some.inj ho
      subst ho
      have e0 : V 64 = _ := h.e0 (hL ⟨0, .data⟩ (by simp) rfl)
      have lT : L 5 = false := hno 5 (by kernel_rfl)
      have lS : L 7 = false := hno 7 (by kernel_rfl)
      clear hL hno
      simp only [putAll, List.foldl_cons, List.foldl_nil, List.setIfInBounds_toArray, List.set_cons_zero, List.set_cons_succ]
      go_simp
      refine (of_any n w1 (by assumption)).mono ?_
      intro e w3 hof
      refine Exists.elim hof fun zv hq => Exists.elim hq fun zn hq2 => ?_
      have he := hq2.1
      have hv := hq2.2.1
      have hn := hq2.2.2.1
      have hb3 := hq2.2.2.2
      clear hof hq hq2
      subst he
      refine hK (updV V 65 zv) _ _ (by simp [putAll, updV, e0]) ?_
      exact { h with
        p := h.p.trans (hb3.mono h.p.size)
        ox := fun _ _ => ⟨zn, hn, hv⟩
        oy := fun h1 h2 => by obtain ⟨m, hm, hw⟩ := h.oy h1 h2; exact ⟨m, hm, hw.below hb3⟩
        t := fun hn => (by cases (hn.symm.trans lT))
        b := fun h1 h2 => by obtain ⟨g, q1, q2, q3⟩ := h.b h1 h2; exact ⟨g, q1, q2, q3.kept hb3⟩
        f := fun hn => (by cases (hn.symm.trans lS)) }
    · replace ho := Option.some.inj ho
      subst ho
      simp only [putAll, List.foldl_cons, List.foldl_nil, List.setIfInBounds_toArray, List.set_cons_zero, List.set_cons_succ]
      clear hL hno
      go_simp
      refine hK (updV V 66 (.pointer (some ⟨gf, 1, none⟩))) _ _ (by simp [putAll, updV]) ?_
      exact { h with e2 := fun _ => rfl }
    · replace ho := Option.some.inj ho
      subst ho
      simp only [putAll, List.foldl_cons, List.foldl_nil, List.setIfInBounds_toArray, List.set_cons_zero, List.set_cons_succ]
      have e2 : V 66 = _ := h.e2 (hL ⟨2, .data⟩ (by simp) rfl)
      have ct := (Kf.out.low h.p (by omega)).cell 1
      simp only [List.getElem?_toArray, List.getElem?_cons_zero, List.getElem?_cons_succ] at ct
      clear hL hno
      go_simp
      refine hK (updV V 67 (.int .i64 y)) _ _ (by simp [putAll, updV, e2]) ?_
      exact { h with e3 := fun _ => rfl }
    · replace ho := Option.some.inj ho
      subst ho
      have e3 : V 67 = _ := h.e3 (hL ⟨3, .data⟩ (by simp) rfl)
      have lT : L 5 = false := hno 5 (by kernel_rfl)
      have lS : L 7 = false := hno 7 (by kernel_rfl)
      clear hL hno
      simp only [putAll, List.foldl_cons, List.foldl_nil, List.setIfInBounds_toArray, List.set_cons_zero, List.set_cons_succ]
      go_simp
      refine (of_any y w1 (by assumption)).mono ?_
      intro e w3 hof
      refine Exists.elim hof fun zv hq => Exists.elim hq fun zn hq2 => ?_
      have he := hq2.1
      have hv := hq2.2.1
      have hn := hq2.2.2.1
      have hb3 := hq2.2.2.2
      clear hof hq hq2
      subst he
      refine hK (updV V 68 zv) _ _ (by simp [putAll, updV, e3]) ?_
      exact { h with
        p := h.p.trans (hb3.mono h.p.size)
        oy := fun _ _ => ⟨zn, hn, hv⟩
        ox := fun h1 h2 => by obtain ⟨m, hm, hw⟩ := h.ox h1 h2; exact ⟨m, hm, hw.below hb3⟩
        t := fun hn => (by cases (hn.symm.trans lT))
        b := fun h1 h2 => by obtain ⟨g, q1, q2, q3⟩ := h.b h1 h2; exact ⟨g, q1, q2, q3.kept hb3⟩
        f := fun hn => (by cases (hn.symm.trans lS)) }
    · replace ho := Option.some.inj ho
      subst ho
      have t1 : L 1 = true := hL ⟨1, .data⟩ (by simp) rfl
      have t2 : L 4 = true := hL ⟨4, .data⟩ (by simp) rfl
      have lT : L 5 = false := hi
      have lS : L 7 = false := hno 7 (by kernel_rfl)
      clear hL hno
      simp only [putAll, List.foldl_cons, List.foldl_nil, List.setIfInBounds_toArray, List.set_cons_zero, List.set_cons_succ]
      refine Exists.elim (h.ox t1 lT) fun zn hq => Exists.elim (h.oy t2 lT) fun zm hr => ?_
      have hn := hq.1
      have hv := hq.2
      have hm := hr.1
      have hw := hr.2
      clear hq hr
      go_simp
      refine (times_any (V 65) (V 68) n y zn zm w1 hv hw (by omega) (by omega)).mono ?_
      intro e w3 hmk
      refine makes_elim hmk fun zs zA zc zk he hv3 hnew hb3 => ?_
      clear hmk
      subst he
      refine hK (updV V 69 (.agg #[.bool zs, .slice zA zk zc])) _ _ (by simp [putAll, updV]) ?_
      exact { h with
        p := h.p.trans (hb3.mono h.p.size)
        ox := fun _ hn => (by cases hn)
        oy := fun _ hn => (by cases hn)
        t := fun _ _ => ⟨zs, zA, zc, zk, rfl, hv3, fun zg hA hg zu zu' => by
          obtain ⟨g', q1, q2, q3⟩ := h.b hA lS
          have hgg : zg = g' := box_inj (hg.symm.trans q1)
          subst hgg
          exact hv3.stored (fun ad had => by have := hnew ad had; have := q3.lt; omega) zu zu'⟩
        b := fun h1 h2 => by obtain ⟨g, q1, q2, q3⟩ := h.b h1 h2; exact ⟨g, q1, q2, q3.kept hb3⟩
        f := fun hn => (by cases (hn.symm.trans lS)) }
    · replace ho := Option.some.inj ho
      subst ho
      have lS : L 7 = false := hno 7 (by kernel_rfl)
      clear hL hno
      simp only [putAll, List.foldl_cons, List.foldl_nil, List.setIfInBounds_toArray, List.set_cons_zero, List.set_cons_succ]
      have hb := (Below.refl w1.heap.size w1).alloc (Nat.le_refl _) (.cells #[.bool false, .slice none 0 0] 48)
      have hnew := Blk.new w1 _ rfl 48 #[.bool false, .slice none 0 0]
      go_simp
      refine hK (updV V 9 (.pointer (some ⟨w1.heap.size, 0, none⟩))) _ _ (by simp [putAll, updV]) ?_
      exact { h with
        p := h.p.trans (hb.mono h.p.size)
        ox := fun h1 h2 => by obtain ⟨m, hm, hw⟩ := h.ox h1 h2; exact ⟨m, hm, hw.below hb⟩
        oy := fun h1 h2 => by obtain ⟨m, hm, hw⟩ := h.oy h1 h2; exact ⟨m, hm, hw.below hb⟩
        t := fun h1 h2 => by
          obtain ⟨s, A, c, k, q1, q2, _⟩ := h.t h1 h2
          refine ⟨s, A, c, k, q1, q2.below hb, fun g _ hg u u' => ?_⟩
          have hgg : w1.heap.size = g := box_inj hg
          subst hgg
          exact q2.below ((hb.setCell (Nat.le_refl _) u).setCell (Nat.le_refl _) u')
        b := fun _ _ => ⟨_, rfl, h.p.size, hnew⟩
        f := fun hn => (by cases (hn.symm.trans lS)) }
    · replace ho := Option.some.inj ho
      subst ho
      have t1 : L 5 = true := hL ⟨5, .data⟩ (by simp) rfl
      have t2 : L 6 = true := hL ⟨6, .data⟩ (by simp) rfl
      have t3 : L 7 = false := hi
      clear hL hno
      simp only [putAll, List.foldl_cons, List.foldl_nil, List.setIfInBounds_toArray, List.set_cons_zero, List.set_cons_succ]
      refine Exists.elim (h.b t2 t3) fun zg hq => ?_
      have q1 := hq.1
      have q2 := hq.2.1
      have q3 := hq.2.2
      clear hq
      refine Exists.elim (h.t t1 t3) fun zs hs => Exists.elim hs fun zA ha => Exists.elim ha fun zc hc => Exists.elim hc fun zk hk => ?_
      have r1 := hk.1
      have r2 := hk.2.2 zg t2 q1 (.bool zs) (.slice zA zk zc)
      clear hs ha hc hk
      have f0 := q3.cell 0
      have f1 := q3.cell 1
      have z0 := q3.frozen 0
      have z1 := q3.frozen 1
      simp only [List.getElem?_toArray, List.getElem?_cons_zero, List.getElem?_cons_succ] at f0 f1
      have kb := (q3.set 0 (.bool zs)).set 1 (.slice zA zk zc)
      have bb := (h.p.setCell (p := ⟨zg, 0, none⟩) q2 (.bool zs)).setCell (p := ⟨zg, 1, none⟩) q2 (.slice zA zk zc)
      simp at kb
      clear q3
      go_simp
      refine hK V _ _ (by simp [putAll, q1, r1]) ?_
      exact { h with
        p := bb
        ox := fun _ hn => (by cases (hn.symm.trans t1))
        oy := fun _ hn => (by cases (hn.symm.trans t1))
        t := fun _ hn => (by cases hn)
        b := fun _ hn => (by cases hn)
        f := fun _ => ⟨zg, zs, zA, zc, zk, q1, q2, kb, r2⟩ }
    · simp at ho
  · clear hIR
    intro L V w6 hL h
    have t1 : L 7 = true := hL 7 (by simp)
    refine Exists.elim (h.f t1) fun gq hq1 => Exists.elim hq1 fun sq hq2 => Exists.elim hq2 fun Aq hq3 => Exists.elim hq3 fun cq hq4 => Exists.elim hq4 fun mq hq5 => ?_
    have q1 := hq5.1
    have hgq := hq5.2.1
    have kqB := hq5.2.2.1
    have hwq := hq5.2.2.2
    have bp := h.p
    clear t1 hq1 hq2 hq3 hq4 hq5
    simp only [putAll, List.foldl_cons, List.foldl_nil, List.setIfInBounds_toArray, List.set_cons_zero, List.set_cons_succ, q1]
    clear h hL q1
    generalize V 64 = v64
    generalize V 65 = v65
    generalize V 66 = v66
    generalize V 67 = v67
    generalize V 68 = v68
    generalize V 69 = v69
    have kf := Kf.out.low bp Lf
    clear Kf Lf
    have kP := KP.out.low bp LP
    clear KP LP
    have hwp := HWp.out.below bp
    clear HWp
    have bb := BB.out.trans (bp.mono BB.out.size)
    clear BB bp
    clear hgq
    have cf0 := kf.cell 0
    have cf1 := kf.cell 1
    have cP0 := kP.cell 0
    have cP1 := kP.cell 1
    have cqB0 := kqB.cell 0
    have cqB1 := kqB.cell 1
    simp only [List.getElem?_toArray, List.getElem?_cons_zero, List.getElem?_cons_succ] at cf0 cf1 cP0 cP1 cqB0 cqB1
    go_wp2_with fail
    refine (awake_any _).mono ?_
    rintro e w7 ⟨rfl, hb7⟩
    clear cf0 cf1 cP0 cP1 cqB0 cqB1
    have kf := kf.low hb7 kf.lt
    have kP := kP.low hb7 kP.lt
    have kqB := kqB.low hb7 kqB.lt
    have hwp := hwp.below hb7
    have hwq := hwq.below hb7
    have bb := bb.trans (hb7.mono bb.size)
    clear hb7
    have cf0 := kf.cell 0
    have cf1 := kf.cell 1
    have cP0 := kP.cell 0
    have cP1 := kP.cell 1
    have cqB0 := kqB.cell 0
    have cqB1 := kqB.cell 1
    simp only [List.getElem?_toArray, List.getElem?_cons_zero, List.getElem?_cons_succ] at cf0 cf1 cP0 cP1 cqB0 cqB1
    go_wp2_with fail
    refine (VH2.out _).mono ?_
    rintro e w8 ⟨rfl, hb8⟩
    clear cf0 cf1 cP0 cP1 cqB0 cqB1
    have kf := kf.low hb8 kf.lt
    have kP := kP.low hb8 kP.lt
    have kqB := kqB.low hb8 kqB.lt
    have hwp := hwp.below hb8
    have hwq := hwq.below hb8
    have bb := bb.trans (hb8.mono bb.size)
    clear hb8
    have cf0 := kf.cell 0
    have cf1 := kf.cell 1
    have cP0 := kP.cell 0
    have cP1 := kP.cell 1
    have cqB0 := kqB.cell 0
    have cqB1 := kqB.cell 1
    simp only [List.getElem?_toArray, List.getElem?_cons_zero, List.getElem?_cons_succ] at cf0 cf1 cP0 cP1 cqB0 cqB1
    have hcz : cmpI (x * d) (n * y) = 0 := cmpI_eq hE.out
    have hcm := Lib.hid (cmp_any _ _ _ _ _ _ w8 hwp hwq)
    rw [hcz] at hcm
    clear hcz
    go_wp2_with fail
    refine (hcm.out).mono ?_
    rintro e w9 ⟨rfl, hb9⟩
    clear cf0 cf1 cP0 cP1 cqB0 cqB1
    have kf := kf.low hb9 kf.lt
    have kP := kP.low hb9 kP.lt
    have kqB := kqB.low hb9 kqB.lt
    have hwp := hwp.below hb9
    have hwq := hwq.below hb9
    have bb := bb.trans (hb9.mono bb.size)
    clear hb9
    go_wp2_with fail
    go_ret
    exact ⟨by simp, bb⟩

theorem lowestLaw_any (n d : Int) (w : World) (hn : fits n) (hd : fits d) : Calls Try.prog 8 #[.int .i64 n, .int .i64 d] w fun e w' => e = .returned (.bool true) ∧ Below w.heap.size w w' := by
  have N : Hid _ := Lib.hid fun w => new_any n d w hn hd
  have V := Lib.hid fun w => valid_any n d w hn hd
  rcases newR_err n d with h | ⟨h, hd0, h1⟩ | ⟨h, hd0, h1⟩
  · obtain ⟨f, hf⟩ : ∃ f, (newR n d).1 = f := ⟨_, rfl⟩
    have e : newR n d = (f, 0) := Prod.ext hf h
    obtain ⟨h0, h1, h2⟩ := newR_ok e
    have hw := new_worth (n := n) h0
    have hv := new_valid (n := n) h0
    have hp := newD_pos (n := n) h0
    rw [e] at N
    obtain ⟨x, y⟩ := f
    injection h1 with hx hy
    rw [← hx, ← hy] at hw hv
    rw [← hy] at hp
    clear hx hy
    simp only at N
    have hz : (d != 0) = true := by simpa using h0
    have hyp : decide (y > 0) = true := decide_eq_true hp
    have V2 := Lib.hid fun w => valid_any x y w h2.1 h2.2
    rw [hv] at V2
    by_cases hxn : x = n
    · by_cases hyd : y = d
      · subst hxn hyd
        rw [hv] at V
        exact lowest_same _ _ w hn hd hz hyp hw N V
      · have hvf : validB n d = false := by
          rw [Bool.eq_false_iff]
          intro hvt
          have := (newR_self hn hd).1 hvt
          rw [e] at this
          injection this with this
          injection this with _ this
          exact hyd this
        rw [hvf] at V
        exact lowest_d _ _ _ _ w hn hd h2.1 h2.2 hz hyp hw (by simpa using hxn) (by simpa using hyd) N V V2
    · have hvf : validB n d = false := by
        rw [Bool.eq_false_iff]
        intro hvt
        have := (newR_self hn hd).1 hvt
        rw [e] at this
        injection this with this
        injection this with this _
        exact hxn this
      rw [hvf] at V
      exact lowest_n _ _ _ _ w hn hd h2.1 h2.2 hz hyp hw (by simpa using hxn) N V V2
  · have hvf : validB n d = false := by
      rw [Bool.eq_false_iff]
      intro hvt
      have := (newR_self hn hd).1 hvt
      rw [this] at h
      simp at h
    rw [hvf] at V
    have e : newR n d = (⟨0, 0⟩, 20) := Prod.ext h1 h
    rw [e] at N
    exact lowest_zero n d w (by simpa using hd0) N V
  · have hvf : validB n d = false := by
      rw [Bool.eq_false_iff]
      intro hvt
      have := (newR_self hn hd).1 hvt
      rw [this] at h
      simp at h
    rw [hvf] at V
    have e : newR n d = (⟨0, 0⟩, 4) := Prod.ext h1 h
    rw [e] at N
    exact lowest_big n d w (by simpa using hd0) N V

set_option maxRecDepth 100000 in
set_option maxHeartbeats 2000000 in
theorem worth_1 (a b c p q r s t u e1 e2 e3 : Int) (w : World) (h1 : (e1 != 0) = true) (N1 : Hid (∀ w, Calls Try.prog 15 #[.int .i64 a, .int .i64 b] w fun e w' => e = .returned (.tuple #[.agg #[.int .i64 p, .int .i64 q], .int .i64 e1]) ∧ Below w.heap.size w w')) (N2 : Hid (∀ w, Calls Try.prog 15 #[.int .i64 c, .int .i64 b] w fun e w' => e = .returned (.tuple #[.agg #[.int .i64 r, .int .i64 s], .int .i64 e2]) ∧ Below w.heap.size w w')) (N3 : Hid (∀ w, Calls Try.prog 15 #[.int .i64 a, .int .i64 c] w fun e w' => e = .returned (.tuple #[.agg #[.int .i64 t, .int .i64 u], .int .i64 e3]) ∧ Below w.heap.size w w')) :
    Calls Try.prog 9 #[.int .i64 a, .int .i64 b, .int .i64 c] w fun e w' => e = .returned (.bool true) ∧ Below w.heap.size w w' := by
  have bb := Below.refl w.heap.size w
  go_enter Try.func9, Try.ntmps9
  go_wp2_with fail
  refine (N1.out _).mono ?_
  rintro e w1 ⟨rfl, hb1⟩
  have bb := bb.trans (hb1.mono bb.size)
  clear hb1
  have kf := Blk.new w1 (w1.heap.size) (by simp) 23 #[.int .i64 p, .int .i64 q]
  have bb := bb.alloc bb.size (.cells #[.int .i64 p, .int .i64 q] 23)
  go_wp2_with fail
  refine (N2.out _).mono ?_
  rintro e w2 ⟨rfl, hb2⟩
  have kf := kf.low hb2 kf.lt
  have bb := bb.trans (hb2.mono bb.size)
  clear hb2
  have kf := kf.alloc (.cells #[.int .i64 r, .int .i64 s] 23)
  have kg := Blk.new w2 (w2.heap.size) (by simp) 23 #[.int .i64 r, .int .i64 s]
  have bb := bb.alloc bb.size (.cells #[.int .i64 r, .int .i64 s] 23)
  go_wp2_with fail
  refine (N3.out _).mono ?_
  rintro e w3 ⟨rfl, hb3⟩
  have kf := kf.low hb3 kf.lt
  have kg := kg.low hb3 kg.lt
  have bb := bb.trans (hb3.mono bb.size)
  clear hb3
  have kf := kf.alloc (.cells #[.int .i64 t, .int .i64 u] 23)
  have kg := kg.alloc (.cells #[.int .i64 t, .int .i64 u] 23)
  have kh := Blk.new w3 (w3.heap.size) (by simp) 23 #[.int .i64 t, .int .i64 u]
  have bb := bb.alloc bb.size (.cells #[.int .i64 t, .int .i64 u] 23)
  go_wp2_with fail
  refine (awake_any _).mono ?_
  rintro e w4 ⟨rfl, hb4⟩
  have kf := kf.low hb4 kf.lt
  have kg := kg.low hb4 kg.lt
  have kh := kh.low hb4 kh.lt
  have bb := bb.trans (hb4.mono bb.size)
  clear hb4
  go_wp2_with fail
  go_ret
  exact ⟨rfl, bb⟩

set_option maxRecDepth 100000 in
set_option maxHeartbeats 2000000 in
theorem worth_2 (a b c p q r s t u e2 e3 : Int) (w : World) (h2 : (e2 != 0) = true) (N1 : Hid (∀ w, Calls Try.prog 15 #[.int .i64 a, .int .i64 b] w fun e w' => e = .returned (.tuple #[.agg #[.int .i64 p, .int .i64 q], .int .i64 0]) ∧ Below w.heap.size w w')) (N2 : Hid (∀ w, Calls Try.prog 15 #[.int .i64 c, .int .i64 b] w fun e w' => e = .returned (.tuple #[.agg #[.int .i64 r, .int .i64 s], .int .i64 e2]) ∧ Below w.heap.size w w')) (N3 : Hid (∀ w, Calls Try.prog 15 #[.int .i64 a, .int .i64 c] w fun e w' => e = .returned (.tuple #[.agg #[.int .i64 t, .int .i64 u], .int .i64 e3]) ∧ Below w.heap.size w w')) :
    Calls Try.prog 9 #[.int .i64 a, .int .i64 b, .int .i64 c] w fun e w' => e = .returned (.bool true) ∧ Below w.heap.size w w' := by
  have bb := Below.refl w.heap.size w
  go_enter Try.func9, Try.ntmps9
  go_wp2_with fail
  refine (N1.out _).mono ?_
  rintro e w1 ⟨rfl, hb1⟩
  have bb := bb.trans (hb1.mono bb.size)
  clear hb1
  have kf := Blk.new w1 (w1.heap.size) (by simp) 23 #[.int .i64 p, .int .i64 q]
  have bb := bb.alloc bb.size (.cells #[.int .i64 p, .int .i64 q] 23)
  go_wp2_with fail
  refine (N2.out _).mono ?_
  rintro e w2 ⟨rfl, hb2⟩
  have kf := kf.low hb2 kf.lt
  have bb := bb.trans (hb2.mono bb.size)
  clear hb2
  have kf := kf.alloc (.cells #[.int .i64 r, .int .i64 s] 23)
  have kg := Blk.new w2 (w2.heap.size) (by simp) 23 #[.int .i64 r, .int .i64 s]
  have bb := bb.alloc bb.size (.cells #[.int .i64 r, .int .i64 s] 23)
  go_wp2_with fail
  refine (N3.out _).mono ?_
  rintro e w3 ⟨rfl, hb3⟩
  have kf := kf.low hb3 kf.lt
  have kg := kg.low hb3 kg.lt
  have bb := bb.trans (hb3.mono bb.size)
  clear hb3
  have kf := kf.alloc (.cells #[.int .i64 t, .int .i64 u] 23)
  have kg := kg.alloc (.cells #[.int .i64 t, .int .i64 u] 23)
  have kh := Blk.new w3 (w3.heap.size) (by simp) 23 #[.int .i64 t, .int .i64 u]
  have bb := bb.alloc bb.size (.cells #[.int .i64 t, .int .i64 u] 23)
  go_wp2_with fail
  refine (awake_any _).mono ?_
  rintro e w4 ⟨rfl, hb4⟩
  have kf := kf.low hb4 kf.lt
  have kg := kg.low hb4 kg.lt
  have kh := kh.low hb4 kh.lt
  have bb := bb.trans (hb4.mono bb.size)
  clear hb4
  go_wp2_with fail
  go_ret
  exact ⟨rfl, bb⟩

set_option maxRecDepth 100000 in
set_option maxHeartbeats 2000000 in
theorem worth_3 (a b c p q r s t u e3 : Int) (w : World) (h3 : (e3 != 0) = true) (N1 : Hid (∀ w, Calls Try.prog 15 #[.int .i64 a, .int .i64 b] w fun e w' => e = .returned (.tuple #[.agg #[.int .i64 p, .int .i64 q], .int .i64 0]) ∧ Below w.heap.size w w')) (N2 : Hid (∀ w, Calls Try.prog 15 #[.int .i64 c, .int .i64 b] w fun e w' => e = .returned (.tuple #[.agg #[.int .i64 r, .int .i64 s], .int .i64 0]) ∧ Below w.heap.size w w')) (N3 : Hid (∀ w, Calls Try.prog 15 #[.int .i64 a, .int .i64 c] w fun e w' => e = .returned (.tuple #[.agg #[.int .i64 t, .int .i64 u], .int .i64 e3]) ∧ Below w.heap.size w w')) :
    Calls Try.prog 9 #[.int .i64 a, .int .i64 b, .int .i64 c] w fun e w' => e = .returned (.bool true) ∧ Below w.heap.size w w' := by
  have bb := Below.refl w.heap.size w
  go_enter Try.func9, Try.ntmps9
  go_wp2_with fail
  refine (N1.out _).mono ?_
  rintro e w1 ⟨rfl, hb1⟩
  have bb := bb.trans (hb1.mono bb.size)
  clear hb1
  have kf := Blk.new w1 (w1.heap.size) (by simp) 23 #[.int .i64 p, .int .i64 q]
  have bb := bb.alloc bb.size (.cells #[.int .i64 p, .int .i64 q] 23)
  go_wp2_with fail
  refine (N2.out _).mono ?_
  rintro e w2 ⟨rfl, hb2⟩
  have kf := kf.low hb2 kf.lt
  have bb := bb.trans (hb2.mono bb.size)
  clear hb2
  have kf := kf.alloc (.cells #[.int .i64 r, .int .i64 s] 23)
  have kg := Blk.new w2 (w2.heap.size) (by simp) 23 #[.int .i64 r, .int .i64 s]
  have bb := bb.alloc bb.size (.cells #[.int .i64 r, .int .i64 s] 23)
  go_wp2_with fail
  refine (N3.out _).mono ?_
  rintro e w3 ⟨rfl, hb3⟩
  have kf := kf.low hb3 kf.lt
  have kg := kg.low hb3 kg.lt
  have bb := bb.trans (hb3.mono bb.size)
  clear hb3
  have kf := kf.alloc (.cells #[.int .i64 t, .int .i64 u] 23)
  have kg := kg.alloc (.cells #[.int .i64 t, .int .i64 u] 23)
  have kh := Blk.new w3 (w3.heap.size) (by simp) 23 #[.int .i64 t, .int .i64 u]
  have bb := bb.alloc bb.size (.cells #[.int .i64 t, .int .i64 u] 23)
  go_wp2_with fail
  refine (awake_any _).mono ?_
  rintro e w4 ⟨rfl, hb4⟩
  have kf := kf.low hb4 kf.lt
  have kg := kg.low hb4 kg.lt
  have kh := kh.low hb4 kh.lt
  have bb := bb.trans (hb4.mono bb.size)
  clear hb4
  go_wp2_with fail
  go_ret
  exact ⟨rfl, bb⟩

set_option maxRecDepth 100000 in
set_option maxHeartbeats 2000000 in
theorem worth_ee (a b c p q : Int) (w : World) (hfa : fits a) (hfb : fits b) (hfc : fits c) (hs : Hid ((cmpI (a * c) (b * a) == 0) = true)) (hac : (a == c) = true) (N1 : Hid (∀ w, Calls Try.prog 15 #[.int .i64 a, .int .i64 b] w fun e w' => e = .returned (.tuple #[.agg #[.int .i64 p, .int .i64 q], .int .i64 0]) ∧ Below w.heap.size w w')) (N2 : Hid (∀ w, Calls Try.prog 15 #[.int .i64 c, .int .i64 b] w fun e w' => e = .returned (.tuple #[.agg #[.int .i64 p, .int .i64 q], .int .i64 0]) ∧ Below w.heap.size w w')) (N3 : Hid (∀ w, Calls Try.prog 15 #[.int .i64 a, .int .i64 c] w fun e w' => e = .returned (.tuple #[.agg #[.int .i64 p, .int .i64 q], .int .i64 0]) ∧ Below w.heap.size w w')) :
    Calls Try.prog 9 #[.int .i64 a, .int .i64 b, .int .i64 c] w fun e w' => e = .returned (.bool true) ∧ Below w.heap.size w w' := by
  have bb := Below.refl w.heap.size w
  go_enter Try.func9, Try.ntmps9
  go_wp2_with fail
  refine (N1.out _).mono ?_
  rintro e w1 ⟨rfl, hb1⟩
  have bb := bb.trans (hb1.mono bb.size)
  clear hb1
  have kf := Blk.new w1 (w1.heap.size) (by simp) 23 #[.int .i64 p, .int .i64 q]
  have bb := bb.alloc bb.size (.cells #[.int .i64 p, .int .i64 q] 23)
  go_wp2_with fail
  refine (N2.out _).mono ?_
  rintro e w2 ⟨rfl, hb2⟩
  have kf := kf.low hb2 kf.lt
  have bb := bb.trans (hb2.mono bb.size)
  clear hb2
  have kf := kf.alloc (.cells #[.int .i64 p, .int .i64 q] 23)
  have kg := Blk.new w2 (w2.heap.size) (by simp) 23 #[.int .i64 p, .int .i64 q]
  have bb := bb.alloc bb.size (.cells #[.int .i64 p, .int .i64 q] 23)
  go_wp2_with fail
  refine (N3.out _).mono ?_
  rintro e w3 ⟨rfl, hb3⟩
  have kf := kf.low hb3 kf.lt
  have kg := kg.low hb3 kg.lt
  have bb := bb.trans (hb3.mono bb.size)
  clear hb3
  have kf := kf.alloc (.cells #[.int .i64 p, .int .i64 q] 23)
  have kg := kg.alloc (.cells #[.int .i64 p, .int .i64 q] 23)
  have kh := Blk.new w3 (w3.heap.size) (by simp) 23 #[.int .i64 p, .int .i64 q]
  have bb := bb.alloc bb.size (.cells #[.int .i64 p, .int .i64 q] 23)
  go_wp2_with fail
  refine (of_any a _ (by assumption)).mono ?_
  rintro e w4 ⟨va, na, rfl, hwa, hna, hb4⟩
  have kf := kf.low hb4 kf.lt
  have kg := kg.low hb4 kg.lt
  have kh := kh.low hb4 kh.lt
  have bb := bb.trans (hb4.mono bb.size)
  clear hb4
  go_wp2_with fail
  refine (of_any c _ (by assumption)).mono ?_
  rintro e w5 ⟨vb, nb, rfl, hwb, hnb, hb5⟩
  have kf := kf.low hb5 kf.lt
  have kg := kg.low hb5 kg.lt
  have kh := kh.low hb5 kh.lt
  have hwa := hwa.below hb5
  have bb := bb.trans (hb5.mono bb.size)
  clear hb5
  go_wp2_with fail
  refine (times_any _ _ _ _ _ _ _ hwa hwb (by omega) (by omega)).mono ?_
  intro e w6 hmk
  refine makes_elim hmk fun sp Ap cp mp he hwp hnew hb6 => ?_
  clear hmk hnew
  subst he
  have kf := kf.low hb6 kf.lt
  have kg := kg.low hb6 kg.lt
  have kh := kh.low hb6 kh.lt
  have hwa := hwa.below hb6
  have hwb := hwb.below hb6
  have bb := bb.trans (hb6.mono bb.size)
  clear hb6
  clear hwa
  clear hwb
  have hwp := hwp.below ((Below.refl _ _).alloc (Nat.le_refl _) (.cells #[.bool sp, .slice Ap mp cp] 48))
  have kf := kf.alloc (.cells #[.bool sp, .slice Ap mp cp] 48)
  have kg := kg.alloc (.cells #[.bool sp, .slice Ap mp cp] 48)
  have kh := kh.alloc (.cells #[.bool sp, .slice Ap mp cp] 48)
  have kP := Blk.new w6 (w6.heap.size) (by simp) 48 #[.bool sp, .slice Ap mp cp]
  have bb := bb.alloc bb.size (.cells #[.bool sp, .slice Ap mp cp] 48)
  go_wp2_with fail
  refine (of_any b _ (by assumption)).mono ?_
  rintro e w7 ⟨vc, nc, rfl, hwc, hnc, hb7⟩
  have kf := kf.low hb7 kf.lt
  have kg := kg.low hb7 kg.lt
  have kh := kh.low hb7 kh.lt
  have kP := kP.low hb7 kP.lt
  have hwp := hwp.below hb7
  have bb := bb.trans (hb7.mono bb.size)
  clear hb7
  go_wp2_with fail
  refine (of_any a _ (by assumption)).mono ?_
  rintro e w8 ⟨vd, nd, rfl, hwd, hnd, hb8⟩
  have kf := kf.low hb8 kf.lt
  have kg := kg.low hb8 kg.lt
  have kh := kh.low hb8 kh.lt
  have kP := kP.low hb8 kP.lt
  have hwp := hwp.below hb8
  have hwc := hwc.below hb8
  have bb := bb.trans (hb8.mono bb.size)
  clear hb8
  go_wp2_with fail
  refine (times_any _ _ _ _ _ _ _ hwc hwd (by omega) (by omega)).mono ?_
  intro e w9 hmk
  refine makes_elim hmk fun sq Aq cq mq he hwq hnew hb9 => ?_
  clear hmk hnew
  subst he
  have kf := kf.low hb9 kf.lt
  have kg := kg.low hb9 kg.lt
  have kh := kh.low hb9 kh.lt
  have kP := kP.low hb9 kP.lt
  have hwp := hwp.below hb9
  have hwc := hwc.below hb9
  have hwd := hwd.below hb9
  have bb := bb.trans (hb9.mono bb.size)
  clear hb9
  clear hwc
  clear hwd
  have hwp := hwp.below ((Below.refl _ _).alloc (Nat.le_refl _) (.cells #[.bool sq, .slice Aq mq cq] 48))
  have hwq := hwq.below ((Below.refl _ _).alloc (Nat.le_refl _) (.cells #[.bool sq, .slice Aq mq cq] 48))
  have kf := kf.alloc (.cells #[.bool sq, .slice Aq mq cq] 48)
  have kg := kg.alloc (.cells #[.bool sq, .slice Aq mq cq] 48)
  have kh := kh.alloc (.cells #[.bool sq, .slice Aq mq cq] 48)
  have kP := kP.alloc (.cells #[.bool sq, .slice Aq mq cq] 48)
  have kQ := Blk.new w9 (w9.heap.size) (by simp) 48 #[.bool sq, .slice Aq mq cq]
  have bb := bb.alloc bb.size (.cells #[.bool sq, .slice Aq mq cq] 48)
  have cf0 := kf.cell 0
  have cf1 := kf.cell 1
  have cg0 := kg.cell 0
  have cg1 := kg.cell 1
  have ch0 := kh.cell 0
  have ch1 := kh.cell 1
  have cP0 := kP.cell 0
  have cP1 := kP.cell 1
  have cQ0 := kQ.cell 0
  have cQ1 := kQ.cell 1
  simp only [List.getElem?_toArray, List.getElem?_cons_zero, List.getElem?_cons_succ] at cf0 cf1 cg0 cg1 ch0 ch1 cP0 cP1 cQ0 cQ1
  have hcm := Lib.hid (cmp_any _ _ _ _ _ _ _ hwp hwq)
  obtain ⟨z, hz⟩ : ∃ z, cmpI (a * c) (b * a) = z := ⟨_, rfl⟩
  rw [hz] at hcm
  have hs2 := hs.out
  rw [hz] at hs2
  clear hz
  go_wp2_with fail
  refine (hcm.out).mono ?_
  rintro e w10 ⟨rfl, hb10⟩
  clear cf0 cf1 cg0 cg1 ch0 ch1 cP0 cP1 cQ0 cQ1
  have kf := kf.low hb10 kf.lt
  have kg := kg.low hb10 kg.lt
  have kh := kh.low hb10 kh.lt
  have kP := kP.low hb10 kP.lt
  have kQ := kQ.low hb10 kQ.lt
  have hwp := hwp.below hb10
  have hwq := hwq.below hb10
  have bb := bb.trans (hb10.mono bb.size)
  clear hb10
  have cf0 := kf.cell 0
  have cf1 := kf.cell 1
  have cg0 := kg.cell 0
  have cg1 := kg.cell 1
  have ch0 := kh.cell 0
  have ch1 := kh.cell 1
  have cP0 := kP.cell 0
  have cP1 := kP.cell 1
  have cQ0 := kQ.cell 0
  have cQ1 := kQ.cell 1
  simp only [List.getElem?_toArray, List.getElem?_cons_zero, List.getElem?_cons_succ] at cf0 cf1 cg0 cg1 ch0 ch1 cP0 cP1 cQ0 cQ1
  go_wp2_with fail
  refine (awake_any _).mono ?_
  rintro e w11 ⟨rfl, hb11⟩
  clear cf0 cf1 cg0 cg1 ch0 ch1 cP0 cP1 cQ0 cQ1
  have kf := kf.low hb11 kf.lt
  have kg := kg.low hb11 kg.lt
  have kh := kh.low hb11 kh.lt
  have kP := kP.low hb11 kP.lt
  have kQ := kQ.low hb11 kQ.lt
  have hwp := hwp.below hb11
  have hwq := hwq.below hb11
  have bb := bb.trans (hb11.mono bb.size)
  clear hb11
  have cf0 := kf.cell 0
  have cf1 := kf.cell 1
  have cg0 := kg.cell 0
  have cg1 := kg.cell 1
  have ch0 := kh.cell 0
  have ch1 := kh.cell 1
  have cP0 := kP.cell 0
  have cP1 := kP.cell 1
  have cQ0 := kQ.cell 0
  have cQ1 := kQ.cell 1
  simp only [List.getElem?_toArray, List.getElem?_cons_zero, List.getElem?_cons_succ] at cf0 cf1 cg0 cg1 ch0 ch1 cP0 cP1 cQ0 cQ1
  go_wp2_with fail
  go_ret
  exact ⟨by simp, bb⟩

set_option maxRecDepth 100000 in
set_option maxHeartbeats 2000000 in
theorem worth_en (a b c p q t u : Int) (w : World) (hfa : fits a) (hfb : fits b) (hfc : fits c) (hs : Hid ((cmpI (a * c) (b * a) == 0) = false)) (hac : (a == c) = true) (hi1 : (p == t) = false) (N1 : Hid (∀ w, Calls Try.prog 15 #[.int .i64 a, .int .i64 b] w fun e w' => e = .returned (.tuple #[.agg #[.int .i64 p, .int .i64 q], .int .i64 0]) ∧ Below w.heap.size w w')) (N2 : Hid (∀ w, Calls Try.prog 15 #[.int .i64 c, .int .i64 b] w fun e w' => e = .returned (.tuple #[.agg #[.int .i64 p, .int .i64 q], .int .i64 0]) ∧ Below w.heap.size w w')) (N3 : Hid (∀ w, Calls Try.prog 15 #[.int .i64 a, .int .i64 c] w fun e w' => e = .returned (.tuple #[.agg #[.int .i64 t, .int .i64 u], .int .i64 0]) ∧ Below w.heap.size w w')) :
    Calls Try.prog 9 #[.int .i64 a, .int .i64 b, .int .i64 c] w fun e w' => e = .returned (.bool true) ∧ Below w.heap.size w w' := by
  have bb := Below.refl w.heap.size w
  go_enter Try.func9, Try.ntmps9
  go_wp2_with fail
  refine (N1.out _).mono ?_
  rintro e w1 ⟨rfl, hb1⟩
  have bb := bb.trans (hb1.mono bb.size)
  clear hb1
  have kf := Blk.new w1 (w1.heap.size) (by simp) 23 #[.int .i64 p, .int .i64 q]
  have bb := bb.alloc bb.size (.cells #[.int .i64 p, .int .i64 q] 23)
  go_wp2_with fail
  refine (N2.out _).mono ?_
  rintro e w2 ⟨rfl, hb2⟩
  have kf := kf.low hb2 kf.lt
  have bb := bb.trans (hb2.mono bb.size)
  clear hb2
  have kf := kf.alloc (.cells #[.int .i64 p, .int .i64 q] 23)
  have kg := Blk.new w2 (w2.heap.size) (by simp) 23 #[.int .i64 p, .int .i64 q]
  have bb := bb.alloc bb.size (.cells #[.int .i64 p, .int .i64 q] 23)
  go_wp2_with fail
  refine (N3.out _).mono ?_
  rintro e w3 ⟨rfl, hb3⟩
  have kf := kf.low hb3 kf.lt
  have kg := kg.low hb3 kg.lt
  have bb := bb.trans (hb3.mono bb.size)
  clear hb3
  have kf := kf.alloc (.cells #[.int .i64 t, .int .i64 u] 23)
  have kg := kg.alloc (.cells #[.int .i64 t, .int .i64 u] 23)
  have kh := Blk.new w3 (w3.heap.size) (by simp) 23 #[.int .i64 t, .int .i64 u]
  have bb := bb.alloc bb.size (.cells #[.int .i64 t, .int .i64 u] 23)
  go_wp2_with fail
  refine (of_any a _ (by assumption)).mono ?_
  rintro e w4 ⟨va, na, rfl, hwa, hna, hb4⟩
  have kf := kf.low hb4 kf.lt
  have kg := kg.low hb4 kg.lt
  have kh := kh.low hb4 kh.lt
  have bb := bb.trans (hb4.mono bb.size)
  clear hb4
  go_wp2_with fail
  refine (of_any c _ (by assumption)).mono ?_
  rintro e w5 ⟨vb, nb, rfl, hwb, hnb, hb5⟩
  have kf := kf.low hb5 kf.lt
  have kg := kg.low hb5 kg.lt
  have kh := kh.low hb5 kh.lt
  have hwa := hwa.below hb5
  have bb := bb.trans (hb5.mono bb.size)
  clear hb5
  go_wp2_with fail
  refine (times_any _ _ _ _ _ _ _ hwa hwb (by omega) (by omega)).mono ?_
  intro e w6 hmk
  refine makes_elim hmk fun sp Ap cp mp he hwp hnew hb6 => ?_
  clear hmk hnew
  subst he
  have kf := kf.low hb6 kf.lt
  have kg := kg.low hb6 kg.lt
  have kh := kh.low hb6 kh.lt
  have hwa := hwa.below hb6
  have hwb := hwb.below hb6
  have bb := bb.trans (hb6.mono bb.size)
  clear hb6
  clear hwa
  clear hwb
  have hwp := hwp.below ((Below.refl _ _).alloc (Nat.le_refl _) (.cells #[.bool sp, .slice Ap mp cp] 48))
  have kf := kf.alloc (.cells #[.bool sp, .slice Ap mp cp] 48)
  have kg := kg.alloc (.cells #[.bool sp, .slice Ap mp cp] 48)
  have kh := kh.alloc (.cells #[.bool sp, .slice Ap mp cp] 48)
  have kP := Blk.new w6 (w6.heap.size) (by simp) 48 #[.bool sp, .slice Ap mp cp]
  have bb := bb.alloc bb.size (.cells #[.bool sp, .slice Ap mp cp] 48)
  go_wp2_with fail
  refine (of_any b _ (by assumption)).mono ?_
  rintro e w7 ⟨vc, nc, rfl, hwc, hnc, hb7⟩
  have kf := kf.low hb7 kf.lt
  have kg := kg.low hb7 kg.lt
  have kh := kh.low hb7 kh.lt
  have kP := kP.low hb7 kP.lt
  have hwp := hwp.below hb7
  have bb := bb.trans (hb7.mono bb.size)
  clear hb7
  go_wp2_with fail
  refine (of_any a _ (by assumption)).mono ?_
  rintro e w8 ⟨vd, nd, rfl, hwd, hnd, hb8⟩
  have kf := kf.low hb8 kf.lt
  have kg := kg.low hb8 kg.lt
  have kh := kh.low hb8 kh.lt
  have kP := kP.low hb8 kP.lt
  have hwp := hwp.below hb8
  have hwc := hwc.below hb8
  have bb := bb.trans (hb8.mono bb.size)
  clear hb8
  go_wp2_with fail
  refine (times_any _ _ _ _ _ _ _ hwc hwd (by omega) (by omega)).mono ?_
  intro e w9 hmk
  refine makes_elim hmk fun sq Aq cq mq he hwq hnew hb9 => ?_
  clear hmk hnew
  subst he
  have kf := kf.low hb9 kf.lt
  have kg := kg.low hb9 kg.lt
  have kh := kh.low hb9 kh.lt
  have kP := kP.low hb9 kP.lt
  have hwp := hwp.below hb9
  have hwc := hwc.below hb9
  have hwd := hwd.below hb9
  have bb := bb.trans (hb9.mono bb.size)
  clear hb9
  clear hwc
  clear hwd
  have hwp := hwp.below ((Below.refl _ _).alloc (Nat.le_refl _) (.cells #[.bool sq, .slice Aq mq cq] 48))
  have hwq := hwq.below ((Below.refl _ _).alloc (Nat.le_refl _) (.cells #[.bool sq, .slice Aq mq cq] 48))
  have kf := kf.alloc (.cells #[.bool sq, .slice Aq mq cq] 48)
  have kg := kg.alloc (.cells #[.bool sq, .slice Aq mq cq] 48)
  have kh := kh.alloc (.cells #[.bool sq, .slice Aq mq cq] 48)
  have kP := kP.alloc (.cells #[.bool sq, .slice Aq mq cq] 48)
  have kQ := Blk.new w9 (w9.heap.size) (by simp) 48 #[.bool sq, .slice Aq mq cq]
  have bb := bb.alloc bb.size (.cells #[.bool sq, .slice Aq mq cq] 48)
  have cf0 := kf.cell 0
  have cf1 := kf.cell 1
  have cg0 := kg.cell 0
  have cg1 := kg.cell 1
  have ch0 := kh.cell 0
  have ch1 := kh.cell 1
  have cP0 := kP.cell 0
  have cP1 := kP.cell 1
  have cQ0 := kQ.cell 0
  have cQ1 := kQ.cell 1
  simp only [List.getElem?_toArray, List.getElem?_cons_zero, List.getElem?_cons_succ] at cf0 cf1 cg0 cg1 ch0 ch1 cP0 cP1 cQ0 cQ1
  have hcm := Lib.hid (cmp_any _ _ _ _ _ _ _ hwp hwq)
  obtain ⟨z, hz⟩ : ∃ z, cmpI (a * c) (b * a) = z := ⟨_, rfl⟩
  rw [hz] at hcm
  have hs2 := hs.out
  rw [hz] at hs2
  clear hz
  go_wp2_with fail
  refine (hcm.out).mono ?_
  rintro e w10 ⟨rfl, hb10⟩
  clear cf0 cf1 cg0 cg1 ch0 ch1 cP0 cP1 cQ0 cQ1
  have kf := kf.low hb10 kf.lt
  have kg := kg.low hb10 kg.lt
  have kh := kh.low hb10 kh.lt
  have kP := kP.low hb10 kP.lt
  have kQ := kQ.low hb10 kQ.lt
  have hwp := hwp.below hb10
  have hwq := hwq.below hb10
  have bb := bb.trans (hb10.mono bb.size)
  clear hb10
  have cf0 := kf.cell 0
  have cf1 := kf.cell 1
  have cg0 := kg.cell 0
  have cg1 := kg.cell 1
  have ch0 := kh.cell 0
  have ch1 := kh.cell 1
  have cP0 := kP.cell 0
  have cP1 := kP.cell 1
  have cQ0 := kQ.cell 0
  have cQ1 := kQ.cell 1
  simp only [List.getElem?_toArray, List.getElem?_cons_zero, List.getElem?_cons_succ] at cf0 cf1 cg0 cg1 ch0 ch1 cP0 cP1 cQ0 cQ1
  go_wp2_with fail
  refine (awake_any _).mono ?_
  rintro e w11 ⟨rfl, hb11⟩
  clear cf0 cf1 cg0 cg1 ch0 ch1 cP0 cP1 cQ0 cQ1
  have kf := kf.low hb11 kf.lt
  have kg := kg.low hb11 kg.lt
  have kh := kh.low hb11 kh.lt
  have kP := kP.low hb11 kP.lt
  have kQ := kQ.low hb11 kQ.lt
  have hwp := hwp.below hb11
  have hwq := hwq.below hb11
  have bb := bb.trans (hb11.mono bb.size)
  clear hb11
  have cf0 := kf.cell 0
  have cf1 := kf.cell 1
  have cg0 := kg.cell 0
  have cg1 := kg.cell 1
  have ch0 := kh.cell 0
  have ch1 := kh.cell 1
  have cP0 := kP.cell 0
  have cP1 := kP.cell 1
  have cQ0 := kQ.cell 0
  have cQ1 := kQ.cell 1
  simp only [List.getElem?_toArray, List.getElem?_cons_zero, List.getElem?_cons_succ] at cf0 cf1 cg0 cg1 ch0 ch1 cP0 cP1 cQ0 cQ1
  go_wp2_with fail
  go_ret
  exact ⟨by simp, bb⟩

set_option maxRecDepth 100000 in
set_option maxHeartbeats 2000000 in
theorem worth_ed (a b c p q t u : Int) (w : World) (hfa : fits a) (hfb : fits b) (hfc : fits c) (hs : Hid ((cmpI (a * c) (b * a) == 0) = false)) (hac : (a == c) = true) (hi1 : (p == t) = true) (hi2 : (q == u) = false) (N1 : Hid (∀ w, Calls Try.prog 15 #[.int .i64 a, .int .i64 b] w fun e w' => e = .returned (.tuple #[.agg #[.int .i64 p, .int .i64 q], .int .i64 0]) ∧ Below w.heap.size w w')) (N2 : Hid (∀ w, Calls Try.prog 15 #[.int .i64 c, .int .i64 b] w fun e w' => e = .returned (.tuple #[.agg #[.int .i64 p, .int .i64 q], .int .i64 0]) ∧ Below w.heap.size w w')) (N3 : Hid (∀ w, Calls Try.prog 15 #[.int .i64 a, .int .i64 c] w fun e w' => e = .returned (.tuple #[.agg #[.int .i64 t, .int .i64 u], .int .i64 0]) ∧ Below w.heap.size w w')) :
    Calls Try.prog 9 #[.int .i64 a, .int .i64 b, .int .i64 c] w fun e w' => e = .returned (.bool true) ∧ Below w.heap.size w w' := by
  have bb := Below.refl w.heap.size w
  go_enter Try.func9, Try.ntmps9
  go_wp2_with fail
  refine (N1.out _).mono ?_
  rintro e w1 ⟨rfl, hb1⟩
  have bb := bb.trans (hb1.mono bb.size)
  clear hb1
  have kf := Blk.new w1 (w1.heap.size) (by simp) 23 #[.int .i64 p, .int .i64 q]
  have bb := bb.alloc bb.size (.cells #[.int .i64 p, .int .i64 q] 23)
  go_wp2_with fail
  refine (N2.out _).mono ?_
  rintro e w2 ⟨rfl, hb2⟩
  have kf := kf.low hb2 kf.lt
  have bb := bb.trans (hb2.mono bb.size)
  clear hb2
  have kf := kf.alloc (.cells #[.int .i64 p, .int .i64 q] 23)
  have kg := Blk.new w2 (w2.heap.size) (by simp) 23 #[.int .i64 p, .int .i64 q]
  have bb := bb.alloc bb.size (.cells #[.int .i64 p, .int .i64 q] 23)
  go_wp2_with fail
  refine (N3.out _).mono ?_
  rintro e w3 ⟨rfl, hb3⟩
  have kf := kf.low hb3 kf.lt
  have kg := kg.low hb3 kg.lt
  have bb := bb.trans (hb3.mono bb.size)
  clear hb3
  have kf := kf.alloc (.cells #[.int .i64 t, .int .i64 u] 23)
  have kg := kg.alloc (.cells #[.int .i64 t, .int .i64 u] 23)
  have kh := Blk.new w3 (w3.heap.size) (by simp) 23 #[.int .i64 t, .int .i64 u]
  have bb := bb.alloc bb.size (.cells #[.int .i64 t, .int .i64 u] 23)
  go_wp2_with fail
  refine (of_any a _ (by assumption)).mono ?_
  rintro e w4 ⟨va, na, rfl, hwa, hna, hb4⟩
  have kf := kf.low hb4 kf.lt
  have kg := kg.low hb4 kg.lt
  have kh := kh.low hb4 kh.lt
  have bb := bb.trans (hb4.mono bb.size)
  clear hb4
  go_wp2_with fail
  refine (of_any c _ (by assumption)).mono ?_
  rintro e w5 ⟨vb, nb, rfl, hwb, hnb, hb5⟩
  have kf := kf.low hb5 kf.lt
  have kg := kg.low hb5 kg.lt
  have kh := kh.low hb5 kh.lt
  have hwa := hwa.below hb5
  have bb := bb.trans (hb5.mono bb.size)
  clear hb5
  go_wp2_with fail
  refine (times_any _ _ _ _ _ _ _ hwa hwb (by omega) (by omega)).mono ?_
  intro e w6 hmk
  refine makes_elim hmk fun sp Ap cp mp he hwp hnew hb6 => ?_
  clear hmk hnew
  subst he
  have kf := kf.low hb6 kf.lt
  have kg := kg.low hb6 kg.lt
  have kh := kh.low hb6 kh.lt
  have hwa := hwa.below hb6
  have hwb := hwb.below hb6
  have bb := bb.trans (hb6.mono bb.size)
  clear hb6
  clear hwa
  clear hwb
  have hwp := hwp.below ((Below.refl _ _).alloc (Nat.le_refl _) (.cells #[.bool sp, .slice Ap mp cp] 48))
  have kf := kf.alloc (.cells #[.bool sp, .slice Ap mp cp] 48)
  have kg := kg.alloc (.cells #[.bool sp, .slice Ap mp cp] 48)
  have kh := kh.alloc (.cells #[.bool sp, .slice Ap mp cp] 48)
  have kP := Blk.new w6 (w6.heap.size) (by simp) 48 #[.bool sp, .slice Ap mp cp]
  have bb := bb.alloc bb.size (.cells #[.bool sp, .slice Ap mp cp] 48)
  go_wp2_with fail
  refine (of_any b _ (by assumption)).mono ?_
  rintro e w7 ⟨vc, nc, rfl, hwc, hnc, hb7⟩
  have kf := kf.low hb7 kf.lt
  have kg := kg.low hb7 kg.lt
  have kh := kh.low hb7 kh.lt
  have kP := kP.low hb7 kP.lt
  have hwp := hwp.below hb7
  have bb := bb.trans (hb7.mono bb.size)
  clear hb7
  go_wp2_with fail
  refine (of_any a _ (by assumption)).mono ?_
  rintro e w8 ⟨vd, nd, rfl, hwd, hnd, hb8⟩
  have kf := kf.low hb8 kf.lt
  have kg := kg.low hb8 kg.lt
  have kh := kh.low hb8 kh.lt
  have kP := kP.low hb8 kP.lt
  have hwp := hwp.below hb8
  have hwc := hwc.below hb8
  have bb := bb.trans (hb8.mono bb.size)
  clear hb8
  go_wp2_with fail
  refine (times_any _ _ _ _ _ _ _ hwc hwd (by omega) (by omega)).mono ?_
  intro e w9 hmk
  refine makes_elim hmk fun sq Aq cq mq he hwq hnew hb9 => ?_
  clear hmk hnew
  subst he
  have kf := kf.low hb9 kf.lt
  have kg := kg.low hb9 kg.lt
  have kh := kh.low hb9 kh.lt
  have kP := kP.low hb9 kP.lt
  have hwp := hwp.below hb9
  have hwc := hwc.below hb9
  have hwd := hwd.below hb9
  have bb := bb.trans (hb9.mono bb.size)
  clear hb9
  clear hwc
  clear hwd
  have hwp := hwp.below ((Below.refl _ _).alloc (Nat.le_refl _) (.cells #[.bool sq, .slice Aq mq cq] 48))
  have hwq := hwq.below ((Below.refl _ _).alloc (Nat.le_refl _) (.cells #[.bool sq, .slice Aq mq cq] 48))
  have kf := kf.alloc (.cells #[.bool sq, .slice Aq mq cq] 48)
  have kg := kg.alloc (.cells #[.bool sq, .slice Aq mq cq] 48)
  have kh := kh.alloc (.cells #[.bool sq, .slice Aq mq cq] 48)
  have kP := kP.alloc (.cells #[.bool sq, .slice Aq mq cq] 48)
  have kQ := Blk.new w9 (w9.heap.size) (by simp) 48 #[.bool sq, .slice Aq mq cq]
  have bb := bb.alloc bb.size (.cells #[.bool sq, .slice Aq mq cq] 48)
  have cf0 := kf.cell 0
  have cf1 := kf.cell 1
  have cg0 := kg.cell 0
  have cg1 := kg.cell 1
  have ch0 := kh.cell 0
  have ch1 := kh.cell 1
  have cP0 := kP.cell 0
  have cP1 := kP.cell 1
  have cQ0 := kQ.cell 0
  have cQ1 := kQ.cell 1
  simp only [List.getElem?_toArray, List.getElem?_cons_zero, List.getElem?_cons_succ] at cf0 cf1 cg0 cg1 ch0 ch1 cP0 cP1 cQ0 cQ1
  have hcm := Lib.hid (cmp_any _ _ _ _ _ _ _ hwp hwq)
  obtain ⟨z, hz⟩ : ∃ z, cmpI (a * c) (b * a) = z := ⟨_, rfl⟩
  rw [hz] at hcm
  have hs2 := hs.out
  rw [hz] at hs2
  clear hz
  go_wp2_with fail
  refine (hcm.out).mono ?_
  rintro e w10 ⟨rfl, hb10⟩
  clear cf0 cf1 cg0 cg1 ch0 ch1 cP0 cP1 cQ0 cQ1
  have kf := kf.low hb10 kf.lt
  have kg := kg.low hb10 kg.lt
  have kh := kh.low hb10 kh.lt
  have kP := kP.low hb10 kP.lt
  have kQ := kQ.low hb10 kQ.lt
  have hwp := hwp.below hb10
  have hwq := hwq.below hb10
  have bb := bb.trans (hb10.mono bb.size)
  clear hb10
  have cf0 := kf.cell 0
  have cf1 := kf.cell 1
  have cg0 := kg.cell 0
  have cg1 := kg.cell 1
  have ch0 := kh.cell 0
  have ch1 := kh.cell 1
  have cP0 := kP.cell 0
  have cP1 := kP.cell 1
  have cQ0 := kQ.cell 0
  have cQ1 := kQ.cell 1
  simp only [List.getElem?_toArray, List.getElem?_cons_zero, List.getElem?_cons_succ] at cf0 cf1 cg0 cg1 ch0 ch1 cP0 cP1 cQ0 cQ1
  go_wp2_with fail
  refine (awake_any _).mono ?_
  rintro e w11 ⟨rfl, hb11⟩
  clear cf0 cf1 cg0 cg1 ch0 ch1 cP0 cP1 cQ0 cQ1
  have kf := kf.low hb11 kf.lt
  have kg := kg.low hb11 kg.lt
  have kh := kh.low hb11 kh.lt
  have kP := kP.low hb11 kP.lt
  have kQ := kQ.low hb11 kQ.lt
  have hwp := hwp.below hb11
  have hwq := hwq.below hb11
  have bb := bb.trans (hb11.mono bb.size)
  clear hb11
  have cf0 := kf.cell 0
  have cf1 := kf.cell 1
  have cg0 := kg.cell 0
  have cg1 := kg.cell 1
  have ch0 := kh.cell 0
  have ch1 := kh.cell 1
  have cP0 := kP.cell 0
  have cP1 := kP.cell 1
  have cQ0 := kQ.cell 0
  have cQ1 := kQ.cell 1
  simp only [List.getElem?_toArray, List.getElem?_cons_zero, List.getElem?_cons_succ] at cf0 cf1 cg0 cg1 ch0 ch1 cP0 cP1 cQ0 cQ1
  go_wp2_with fail
  go_ret
  exact ⟨by simp, bb⟩

set_option maxRecDepth 100000 in
set_option maxHeartbeats 2000000 in
theorem worth_ne (a b c p q r s : Int) (w : World) (hfa : fits a) (hfb : fits b) (hfc : fits c) (hs : Hid ((cmpI (a * c) (b * a) == 0) = true)) (hac : (a == c) = false) (hg1 : (p == r) = false) (N1 : Hid (∀ w, Calls Try.prog 15 #[.int .i64 a, .int .i64 b] w fun e w' => e = .returned (.tuple #[.agg #[.int .i64 p, .int .i64 q], .int .i64 0]) ∧ Below w.heap.size w w')) (N2 : Hid (∀ w, Calls Try.prog 15 #[.int .i64 c, .int .i64 b] w fun e w' => e = .returned (.tuple #[.agg #[.int .i64 r, .int .i64 s], .int .i64 0]) ∧ Below w.heap.size w w')) (N3 : Hid (∀ w, Calls Try.prog 15 #[.int .i64 a, .int .i64 c] w fun e w' => e = .returned (.tuple #[.agg #[.int .i64 p, .int .i64 q], .int .i64 0]) ∧ Below w.heap.size w w')) :
    Calls Try.prog 9 #[.int .i64 a, .int .i64 b, .int .i64 c] w fun e w' => e = .returned (.bool true) ∧ Below w.heap.size w w' := by
  have bb := Below.refl w.heap.size w
  go_enter Try.func9, Try.ntmps9
  go_wp2_with fail
  refine (N1.out _).mono ?_
  rintro e w1 ⟨rfl, hb1⟩
  have bb := bb.trans (hb1.mono bb.size)
  clear hb1
  have kf := Blk.new w1 (w1.heap.size) (by simp) 23 #[.int .i64 p, .int .i64 q]
  have bb := bb.alloc bb.size (.cells #[.int .i64 p, .int .i64 q] 23)
  go_wp2_with fail
  refine (N2.out _).mono ?_
  rintro e w2 ⟨rfl, hb2⟩
  have kf := kf.low hb2 kf.lt
  have bb := bb.trans (hb2.mono bb.size)
  clear hb2
  have kf := kf.alloc (.cells #[.int .i64 r, .int .i64 s] 23)
  have kg := Blk.new w2 (w2.heap.size) (by simp) 23 #[.int .i64 r, .int .i64 s]
  have bb := bb.alloc bb.size (.cells #[.int .i64 r, .int .i64 s] 23)
  go_wp2_with fail
  refine (N3.out _).mono ?_
  rintro e w3 ⟨rfl, hb3⟩
  have kf := kf.low hb3 kf.lt
  have kg := kg.low hb3 kg.lt
  have bb := bb.trans (hb3.mono bb.size)
  clear hb3
  have kf := kf.alloc (.cells #[.int .i64 p, .int .i64 q] 23)
  have kg := kg.alloc (.cells #[.int .i64 p, .int .i64 q] 23)
  have kh := Blk.new w3 (w3.heap.size) (by simp) 23 #[.int .i64 p, .int .i64 q]
  have bb := bb.alloc bb.size (.cells #[.int .i64 p, .int .i64 q] 23)
  go_wp2_with fail
  refine (of_any a _ (by assumption)).mono ?_
  rintro e w4 ⟨va, na, rfl, hwa, hna, hb4⟩
  have kf := kf.low hb4 kf.lt
  have kg := kg.low hb4 kg.lt
  have kh := kh.low hb4 kh.lt
  have bb := bb.trans (hb4.mono bb.size)
  clear hb4
  go_wp2_with fail
  refine (of_any c _ (by assumption)).mono ?_
  rintro e w5 ⟨vb, nb, rfl, hwb, hnb, hb5⟩
  have kf := kf.low hb5 kf.lt
  have kg := kg.low hb5 kg.lt
  have kh := kh.low hb5 kh.lt
  have hwa := hwa.below hb5
  have bb := bb.trans (hb5.mono bb.size)
  clear hb5
  go_wp2_with fail
  refine (times_any _ _ _ _ _ _ _ hwa hwb (by omega) (by omega)).mono ?_
  intro e w6 hmk
  refine makes_elim hmk fun sp Ap cp mp he hwp hnew hb6 => ?_
  clear hmk hnew
  subst he
  have kf := kf.low hb6 kf.lt
  have kg := kg.low hb6 kg.lt
  have kh := kh.low hb6 kh.lt
  have hwa := hwa.below hb6
  have hwb := hwb.below hb6
  have bb := bb.trans (hb6.mono bb.size)
  clear hb6
  clear hwa
  clear hwb
  have hwp := hwp.below ((Below.refl _ _).alloc (Nat.le_refl _) (.cells #[.bool sp, .slice Ap mp cp] 48))
  have kf := kf.alloc (.cells #[.bool sp, .slice Ap mp cp] 48)
  have kg := kg.alloc (.cells #[.bool sp, .slice Ap mp cp] 48)
  have kh := kh.alloc (.cells #[.bool sp, .slice Ap mp cp] 48)
  have kP := Blk.new w6 (w6.heap.size) (by simp) 48 #[.bool sp, .slice Ap mp cp]
  have bb := bb.alloc bb.size (.cells #[.bool sp, .slice Ap mp cp] 48)
  go_wp2_with fail
  refine (of_any b _ (by assumption)).mono ?_
  rintro e w7 ⟨vc, nc, rfl, hwc, hnc, hb7⟩
  have kf := kf.low hb7 kf.lt
  have kg := kg.low hb7 kg.lt
  have kh := kh.low hb7 kh.lt
  have kP := kP.low hb7 kP.lt
  have hwp := hwp.below hb7
  have bb := bb.trans (hb7.mono bb.size)
  clear hb7
  go_wp2_with fail
  refine (of_any a _ (by assumption)).mono ?_
  rintro e w8 ⟨vd, nd, rfl, hwd, hnd, hb8⟩
  have kf := kf.low hb8 kf.lt
  have kg := kg.low hb8 kg.lt
  have kh := kh.low hb8 kh.lt
  have kP := kP.low hb8 kP.lt
  have hwp := hwp.below hb8
  have hwc := hwc.below hb8
  have bb := bb.trans (hb8.mono bb.size)
  clear hb8
  go_wp2_with fail
  refine (times_any _ _ _ _ _ _ _ hwc hwd (by omega) (by omega)).mono ?_
  intro e w9 hmk
  refine makes_elim hmk fun sq Aq cq mq he hwq hnew hb9 => ?_
  clear hmk hnew
  subst he
  have kf := kf.low hb9 kf.lt
  have kg := kg.low hb9 kg.lt
  have kh := kh.low hb9 kh.lt
  have kP := kP.low hb9 kP.lt
  have hwp := hwp.below hb9
  have hwc := hwc.below hb9
  have hwd := hwd.below hb9
  have bb := bb.trans (hb9.mono bb.size)
  clear hb9
  clear hwc
  clear hwd
  have hwp := hwp.below ((Below.refl _ _).alloc (Nat.le_refl _) (.cells #[.bool sq, .slice Aq mq cq] 48))
  have hwq := hwq.below ((Below.refl _ _).alloc (Nat.le_refl _) (.cells #[.bool sq, .slice Aq mq cq] 48))
  have kf := kf.alloc (.cells #[.bool sq, .slice Aq mq cq] 48)
  have kg := kg.alloc (.cells #[.bool sq, .slice Aq mq cq] 48)
  have kh := kh.alloc (.cells #[.bool sq, .slice Aq mq cq] 48)
  have kP := kP.alloc (.cells #[.bool sq, .slice Aq mq cq] 48)
  have kQ := Blk.new w9 (w9.heap.size) (by simp) 48 #[.bool sq, .slice Aq mq cq]
  have bb := bb.alloc bb.size (.cells #[.bool sq, .slice Aq mq cq] 48)
  have cf0 := kf.cell 0
  have cf1 := kf.cell 1
  have cg0 := kg.cell 0
  have cg1 := kg.cell 1
  have ch0 := kh.cell 0
  have ch1 := kh.cell 1
  have cP0 := kP.cell 0
  have cP1 := kP.cell 1
  have cQ0 := kQ.cell 0
  have cQ1 := kQ.cell 1
  simp only [List.getElem?_toArray, List.getElem?_cons_zero, List.getElem?_cons_succ] at cf0 cf1 cg0 cg1 ch0 ch1 cP0 cP1 cQ0 cQ1
  have hcm := Lib.hid (cmp_any _ _ _ _ _ _ _ hwp hwq)
  obtain ⟨z, hz⟩ : ∃ z, cmpI (a * c) (b * a) = z := ⟨_, rfl⟩
  rw [hz] at hcm
  have hs2 := hs.out
  rw [hz] at hs2
  clear hz
  go_wp2_with fail
  refine (hcm.out).mono ?_
  rintro e w10 ⟨rfl, hb10⟩
  clear cf0 cf1 cg0 cg1 ch0 ch1 cP0 cP1 cQ0 cQ1
  have kf := kf.low hb10 kf.lt
  have kg := kg.low hb10 kg.lt
  have kh := kh.low hb10 kh.lt
  have kP := kP.low hb10 kP.lt
  have kQ := kQ.low hb10 kQ.lt
  have hwp := hwp.below hb10
  have hwq := hwq.below hb10
  have bb := bb.trans (hb10.mono bb.size)
  clear hb10
  have cf0 := kf.cell 0
  have cf1 := kf.cell 1
  have cg0 := kg.cell 0
  have cg1 := kg.cell 1
  have ch0 := kh.cell 0
  have ch1 := kh.cell 1
  have cP0 := kP.cell 0
  have cP1 := kP.cell 1
  have cQ0 := kQ.cell 0
  have cQ1 := kQ.cell 1
  simp only [List.getElem?_toArray, List.getElem?_cons_zero, List.getElem?_cons_succ] at cf0 cf1 cg0 cg1 ch0 ch1 cP0 cP1 cQ0 cQ1
  go_wp2_with fail
  refine (awake_any _).mono ?_
  rintro e w11 ⟨rfl, hb11⟩
  clear cf0 cf1 cg0 cg1 ch0 ch1 cP0 cP1 cQ0 cQ1
  have kf := kf.low hb11 kf.lt
  have kg := kg.low hb11 kg.lt
  have kh := kh.low hb11 kh.lt
  have kP := kP.low hb11 kP.lt
  have kQ := kQ.low hb11 kQ.lt
  have hwp := hwp.below hb11
  have hwq := hwq.below hb11
  have bb := bb.trans (hb11.mono bb.size)
  clear hb11
  have cf0 := kf.cell 0
  have cf1 := kf.cell 1
  have cg0 := kg.cell 0
  have cg1 := kg.cell 1
  have ch0 := kh.cell 0
  have ch1 := kh.cell 1
  have cP0 := kP.cell 0
  have cP1 := kP.cell 1
  have cQ0 := kQ.cell 0
  have cQ1 := kQ.cell 1
  simp only [List.getElem?_toArray, List.getElem?_cons_zero, List.getElem?_cons_succ] at cf0 cf1 cg0 cg1 ch0 ch1 cP0 cP1 cQ0 cQ1
  go_wp2_with fail
  go_ret
  exact ⟨by simp, bb⟩

set_option maxRecDepth 100000 in
set_option maxHeartbeats 2000000 in
theorem worth_nn (a b c p q r s t u : Int) (w : World) (hfa : fits a) (hfb : fits b) (hfc : fits c) (hs : Hid ((cmpI (a * c) (b * a) == 0) = false)) (hac : (a == c) = false) (hg1 : (p == r) = false) (hi1 : (p == t) = false) (N1 : Hid (∀ w, Calls Try.prog 15 #[.int .i64 a, .int .i64 b] w fun e w' => e = .returned (.tuple #[.agg #[.int .i64 p, .int .i64 q], .int .i64 0]) ∧ Below w.heap.size w w')) (N2 : Hid (∀ w, Calls Try.prog 15 #[.int .i64 c, .int .i64 b] w fun e w' => e = .returned (.tuple #[.agg #[.int .i64 r, .int .i64 s], .int .i64 0]) ∧ Below w.heap.size w w')) (N3 : Hid (∀ w, Calls Try.prog 15 #[.int .i64 a, .int .i64 c] w fun e w' => e = .returned (.tuple #[.agg #[.int .i64 t, .int .i64 u], .int .i64 0]) ∧ Below w.heap.size w w')) :
    Calls Try.prog 9 #[.int .i64 a, .int .i64 b, .int .i64 c] w fun e w' => e = .returned (.bool true) ∧ Below w.heap.size w w' := by
  have bb := Below.refl w.heap.size w
  go_enter Try.func9, Try.ntmps9
  go_wp2_with fail
  refine (N1.out _).mono ?_
  rintro e w1 ⟨rfl, hb1⟩
  have bb := bb.trans (hb1.mono bb.size)
  clear hb1
  have kf := Blk.new w1 (w1.heap.size) (by simp) 23 #[.int .i64 p, .int .i64 q]
  have bb := bb.alloc bb.size (.cells #[.int .i64 p, .int .i64 q] 23)
  go_wp2_with fail
  refine (N2.out _).mono ?_
  rintro e w2 ⟨rfl, hb2⟩
  have kf := kf.low hb2 kf.lt
  have bb := bb.trans (hb2.mono bb.size)
  clear hb2
  have kf := kf.alloc (.cells #[.int .i64 r, .int .i64 s] 23)
  have kg := Blk.new w2 (w2.heap.size) (by simp) 23 #[.int .i64 r, .int .i64 s]
  have bb := bb.alloc bb.size (.cells #[.int .i64 r, .int .i64 s] 23)
  go_wp2_with fail
  refine (N3.out _).mono ?_
  rintro e w3 ⟨rfl, hb3⟩
  have kf := kf.low hb3 kf.lt
  have kg := kg.low hb3 kg.lt
  have bb := bb.trans (hb3.mono bb.size)
  clear hb3
  have kf := kf.alloc (.cells #[.int .i64 t, .int .i64 u] 23)
  have kg := kg.alloc (.cells #[.int .i64 t, .int .i64 u] 23)
  have kh := Blk.new w3 (w3.heap.size) (by simp) 23 #[.int .i64 t, .int .i64 u]
  have bb := bb.alloc bb.size (.cells #[.int .i64 t, .int .i64 u] 23)
  go_wp2_with fail
  refine (of_any a _ (by assumption)).mono ?_
  rintro e w4 ⟨va, na, rfl, hwa, hna, hb4⟩
  have kf := kf.low hb4 kf.lt
  have kg := kg.low hb4 kg.lt
  have kh := kh.low hb4 kh.lt
  have bb := bb.trans (hb4.mono bb.size)
  clear hb4
  go_wp2_with fail
  refine (of_any c _ (by assumption)).mono ?_
  rintro e w5 ⟨vb, nb, rfl, hwb, hnb, hb5⟩
  have kf := kf.low hb5 kf.lt
  have kg := kg.low hb5 kg.lt
  have kh := kh.low hb5 kh.lt
  have hwa := hwa.below hb5
  have bb := bb.trans (hb5.mono bb.size)
  clear hb5
  go_wp2_with fail
  refine (times_any _ _ _ _ _ _ _ hwa hwb (by omega) (by omega)).mono ?_
  intro e w6 hmk
  refine makes_elim hmk fun sp Ap cp mp he hwp hnew hb6 => ?_
  clear hmk hnew
  subst he
  have kf := kf.low hb6 kf.lt
  have kg := kg.low hb6 kg.lt
  have kh := kh.low hb6 kh.lt
  have hwa := hwa.below hb6
  have hwb := hwb.below hb6
  have bb := bb.trans (hb6.mono bb.size)
  clear hb6
  clear hwa
  clear hwb
  have hwp := hwp.below ((Below.refl _ _).alloc (Nat.le_refl _) (.cells #[.bool sp, .slice Ap mp cp] 48))
  have kf := kf.alloc (.cells #[.bool sp, .slice Ap mp cp] 48)
  have kg := kg.alloc (.cells #[.bool sp, .slice Ap mp cp] 48)
  have kh := kh.alloc (.cells #[.bool sp, .slice Ap mp cp] 48)
  have kP := Blk.new w6 (w6.heap.size) (by simp) 48 #[.bool sp, .slice Ap mp cp]
  have bb := bb.alloc bb.size (.cells #[.bool sp, .slice Ap mp cp] 48)
  go_wp2_with fail
  refine (of_any b _ (by assumption)).mono ?_
  rintro e w7 ⟨vc, nc, rfl, hwc, hnc, hb7⟩
  have kf := kf.low hb7 kf.lt
  have kg := kg.low hb7 kg.lt
  have kh := kh.low hb7 kh.lt
  have kP := kP.low hb7 kP.lt
  have hwp := hwp.below hb7
  have bb := bb.trans (hb7.mono bb.size)
  clear hb7
  go_wp2_with fail
  refine (of_any a _ (by assumption)).mono ?_
  rintro e w8 ⟨vd, nd, rfl, hwd, hnd, hb8⟩
  have kf := kf.low hb8 kf.lt
  have kg := kg.low hb8 kg.lt
  have kh := kh.low hb8 kh.lt
  have kP := kP.low hb8 kP.lt
  have hwp := hwp.below hb8
  have hwc := hwc.below hb8
  have bb := bb.trans (hb8.mono bb.size)
  clear hb8
  go_wp2_with fail
  refine (times_any _ _ _ _ _ _ _ hwc hwd (by omega) (by omega)).mono ?_
  intro e w9 hmk
  refine makes_elim hmk fun sq Aq cq mq he hwq hnew hb9 => ?_
  clear hmk hnew
  subst he
  have kf := kf.low hb9 kf.lt
  have kg := kg.low hb9 kg.lt
  have kh := kh.low hb9 kh.lt
  have kP := kP.low hb9 kP.lt
  have hwp := hwp.below hb9
  have hwc := hwc.below hb9
  have hwd := hwd.below hb9
  have bb := bb.trans (hb9.mono bb.size)
  clear hb9
  clear hwc
  clear hwd
  have hwp := hwp.below ((Below.refl _ _).alloc (Nat.le_refl _) (.cells #[.bool sq, .slice Aq mq cq] 48))
  have hwq := hwq.below ((Below.refl _ _).alloc (Nat.le_refl _) (.cells #[.bool sq, .slice Aq mq cq] 48))
  have kf := kf.alloc (.cells #[.bool sq, .slice Aq mq cq] 48)
  have kg := kg.alloc (.cells #[.bool sq, .slice Aq mq cq] 48)
  have kh := kh.alloc (.cells #[.bool sq, .slice Aq mq cq] 48)
  have kP := kP.alloc (.cells #[.bool sq, .slice Aq mq cq] 48)
  have kQ := Blk.new w9 (w9.heap.size) (by simp) 48 #[.bool sq, .slice Aq mq cq]
  have bb := bb.alloc bb.size (.cells #[.bool sq, .slice Aq mq cq] 48)
  have cf0 := kf.cell 0
  have cf1 := kf.cell 1
  have cg0 := kg.cell 0
  have cg1 := kg.cell 1
  have ch0 := kh.cell 0
  have ch1 := kh.cell 1
  have cP0 := kP.cell 0
  have cP1 := kP.cell 1
  have cQ0 := kQ.cell 0
  have cQ1 := kQ.cell 1
  simp only [List.getElem?_toArray, List.getElem?_cons_zero, List.getElem?_cons_succ] at cf0 cf1 cg0 cg1 ch0 ch1 cP0 cP1 cQ0 cQ1
  have hcm := Lib.hid (cmp_any _ _ _ _ _ _ _ hwp hwq)
  obtain ⟨z, hz⟩ : ∃ z, cmpI (a * c) (b * a) = z := ⟨_, rfl⟩
  rw [hz] at hcm
  have hs2 := hs.out
  rw [hz] at hs2
  clear hz
  go_wp2_with fail
  refine (hcm.out).mono ?_
  rintro e w10 ⟨rfl, hb10⟩
  clear cf0 cf1 cg0 cg1 ch0 ch1 cP0 cP1 cQ0 cQ1
  have kf := kf.low hb10 kf.lt
  have kg := kg.low hb10 kg.lt
  have kh := kh.low hb10 kh.lt
  have kP := kP.low hb10 kP.lt
  have kQ := kQ.low hb10 kQ.lt
  have hwp := hwp.below hb10
  have hwq := hwq.below hb10
  have bb := bb.trans (hb10.mono bb.size)
  clear hb10
  have cf0 := kf.cell 0
  have cf1 := kf.cell 1
  have cg0 := kg.cell 0
  have cg1 := kg.cell 1
  have ch0 := kh.cell 0
  have ch1 := kh.cell 1
  have cP0 := kP.cell 0
  have cP1 := kP.cell 1
  have cQ0 := kQ.cell 0
  have cQ1 := kQ.cell 1
  simp only [List.getElem?_toArray, List.getElem?_cons_zero, List.getElem?_cons_succ] at cf0 cf1 cg0 cg1 ch0 ch1 cP0 cP1 cQ0 cQ1
  go_wp2_with fail
  refine (awake_any _).mono ?_
  rintro e w11 ⟨rfl, hb11⟩
  clear cf0 cf1 cg0 cg1 ch0 ch1 cP0 cP1 cQ0 cQ1
  have kf := kf.low hb11 kf.lt
  have kg := kg.low hb11 kg.lt
  have kh := kh.low hb11 kh.lt
  have kP := kP.low hb11 kP.lt
  have kQ := kQ.low hb11 kQ.lt
  have hwp := hwp.below hb11
  have hwq := hwq.below hb11
  have bb := bb.trans (hb11.mono bb.size)
  clear hb11
  have cf0 := kf.cell 0
  have cf1 := kf.cell 1
  have cg0 := kg.cell 0
  have cg1 := kg.cell 1
  have ch0 := kh.cell 0
  have ch1 := kh.cell 1
  have cP0 := kP.cell 0
  have cP1 := kP.cell 1
  have cQ0 := kQ.cell 0
  have cQ1 := kQ.cell 1
  simp only [List.getElem?_toArray, List.getElem?_cons_zero, List.getElem?_cons_succ] at cf0 cf1 cg0 cg1 ch0 ch1 cP0 cP1 cQ0 cQ1
  go_wp2_with fail
  go_ret
  exact ⟨by simp, bb⟩

set_option maxRecDepth 100000 in
set_option maxHeartbeats 2000000 in
theorem worth_nd (a b c p q r s t u : Int) (w : World) (hfa : fits a) (hfb : fits b) (hfc : fits c) (hs : Hid ((cmpI (a * c) (b * a) == 0) = false)) (hac : (a == c) = false) (hg1 : (p == r) = false) (hi1 : (p == t) = true) (hi2 : (q == u) = false) (N1 : Hid (∀ w, Calls Try.prog 15 #[.int .i64 a, .int .i64 b] w fun e w' => e = .returned (.tuple #[.agg #[.int .i64 p, .int .i64 q], .int .i64 0]) ∧ Below w.heap.size w w')) (N2 : Hid (∀ w, Calls Try.prog 15 #[.int .i64 c, .int .i64 b] w fun e w' => e = .returned (.tuple #[.agg #[.int .i64 r, .int .i64 s], .int .i64 0]) ∧ Below w.heap.size w w')) (N3 : Hid (∀ w, Calls Try.prog 15 #[.int .i64 a, .int .i64 c] w fun e w' => e = .returned (.tuple #[.agg #[.int .i64 t, .int .i64 u], .int .i64 0]) ∧ Below w.heap.size w w')) :
    Calls Try.prog 9 #[.int .i64 a, .int .i64 b, .int .i64 c] w fun e w' => e = .returned (.bool true) ∧ Below w.heap.size w w' := by
  have bb := Below.refl w.heap.size w
  go_enter Try.func9, Try.ntmps9
  go_wp2_with fail
  refine (N1.out _).mono ?_
  rintro e w1 ⟨rfl, hb1⟩
  have bb := bb.trans (hb1.mono bb.size)
  clear hb1
  have kf := Blk.new w1 (w1.heap.size) (by simp) 23 #[.int .i64 p, .int .i64 q]
  have bb := bb.alloc bb.size (.cells #[.int .i64 p, .int .i64 q] 23)
  go_wp2_with fail
  refine (N2.out _).mono ?_
  rintro e w2 ⟨rfl, hb2⟩
  have kf := kf.low hb2 kf.lt
  have bb := bb.trans (hb2.mono bb.size)
  clear hb2
  have kf := kf.alloc (.cells #[.int .i64 r, .int .i64 s] 23)
  have kg := Blk.new w2 (w2.heap.size) (by simp) 23 #[.int .i64 r, .int .i64 s]
  have bb := bb.alloc bb.size (.cells #[.int .i64 r, .int .i64 s] 23)
  go_wp2_with fail
  refine (N3.out _).mono ?_
  rintro e w3 ⟨rfl, hb3⟩
  have kf := kf.low hb3 kf.lt
  have kg := kg.low hb3 kg.lt
  have bb := bb.trans (hb3.mono bb.size)
  clear hb3
  have kf := kf.alloc (.cells #[.int .i64 t, .int .i64 u] 23)
  have kg := kg.alloc (.cells #[.int .i64 t, .int .i64 u] 23)
  have kh := Blk.new w3 (w3.heap.size) (by simp) 23 #[.int .i64 t, .int .i64 u]
  have bb := bb.alloc bb.size (.cells #[.int .i64 t, .int .i64 u] 23)
  go_wp2_with fail
  refine (of_any a _ (by assumption)).mono ?_
  rintro e w4 ⟨va, na, rfl, hwa, hna, hb4⟩
  have kf := kf.low hb4 kf.lt
  have kg := kg.low hb4 kg.lt
  have kh := kh.low hb4 kh.lt
  have bb := bb.trans (hb4.mono bb.size)
  clear hb4
  go_wp2_with fail
  refine (of_any c _ (by assumption)).mono ?_
  rintro e w5 ⟨vb, nb, rfl, hwb, hnb, hb5⟩
  have kf := kf.low hb5 kf.lt
  have kg := kg.low hb5 kg.lt
  have kh := kh.low hb5 kh.lt
  have hwa := hwa.below hb5
  have bb := bb.trans (hb5.mono bb.size)
  clear hb5
  go_wp2_with fail
  refine (times_any _ _ _ _ _ _ _ hwa hwb (by omega) (by omega)).mono ?_
  intro e w6 hmk
  refine makes_elim hmk fun sp Ap cp mp he hwp hnew hb6 => ?_
  clear hmk hnew
  subst he
  have kf := kf.low hb6 kf.lt
  have kg := kg.low hb6 kg.lt
  have kh := kh.low hb6 kh.lt
  have hwa := hwa.below hb6
  have hwb := hwb.below hb6
  have bb := bb.trans (hb6.mono bb.size)
  clear hb6
  clear hwa
  clear hwb
  have hwp := hwp.below ((Below.refl _ _).alloc (Nat.le_refl _) (.cells #[.bool sp, .slice Ap mp cp] 48))
  have kf := kf.alloc (.cells #[.bool sp, .slice Ap mp cp] 48)
  have kg := kg.alloc (.cells #[.bool sp, .slice Ap mp cp] 48)
  have kh := kh.alloc (.cells #[.bool sp, .slice Ap mp cp] 48)
  have kP := Blk.new w6 (w6.heap.size) (by simp) 48 #[.bool sp, .slice Ap mp cp]
  have bb := bb.alloc bb.size (.cells #[.bool sp, .slice Ap mp cp] 48)
  go_wp2_with fail
  refine (of_any b _ (by assumption)).mono ?_
  rintro e w7 ⟨vc, nc, rfl, hwc, hnc, hb7⟩
  have kf := kf.low hb7 kf.lt
  have kg := kg.low hb7 kg.lt
  have kh := kh.low hb7 kh.lt
  have kP := kP.low hb7 kP.lt
  have hwp := hwp.below hb7
  have bb := bb.trans (hb7.mono bb.size)
  clear hb7
  go_wp2_with fail
  refine (of_any a _ (by assumption)).mono ?_
  rintro e w8 ⟨vd, nd, rfl, hwd, hnd, hb8⟩
  have kf := kf.low hb8 kf.lt
  have kg := kg.low hb8 kg.lt
  have kh := kh.low hb8 kh.lt
  have kP := kP.low hb8 kP.lt
  have hwp := hwp.below hb8
  have hwc := hwc.below hb8
  have bb := bb.trans (hb8.mono bb.size)
  clear hb8
  go_wp2_with fail
  refine (times_any _ _ _ _ _ _ _ hwc hwd (by omega) (by omega)).mono ?_
  intro e w9 hmk
  refine makes_elim hmk fun sq Aq cq mq he hwq hnew hb9 => ?_
  clear hmk hnew
  subst he
  have kf := kf.low hb9 kf.lt
  have kg := kg.low hb9 kg.lt
  have kh := kh.low hb9 kh.lt
  have kP := kP.low hb9 kP.lt
  have hwp := hwp.below hb9
  have hwc := hwc.below hb9
  have hwd := hwd.below hb9
  have bb := bb.trans (hb9.mono bb.size)
  clear hb9
  clear hwc
  clear hwd
  have hwp := hwp.below ((Below.refl _ _).alloc (Nat.le_refl _) (.cells #[.bool sq, .slice Aq mq cq] 48))
  have hwq := hwq.below ((Below.refl _ _).alloc (Nat.le_refl _) (.cells #[.bool sq, .slice Aq mq cq] 48))
  have kf := kf.alloc (.cells #[.bool sq, .slice Aq mq cq] 48)
  have kg := kg.alloc (.cells #[.bool sq, .slice Aq mq cq] 48)
  have kh := kh.alloc (.cells #[.bool sq, .slice Aq mq cq] 48)
  have kP := kP.alloc (.cells #[.bool sq, .slice Aq mq cq] 48)
  have kQ := Blk.new w9 (w9.heap.size) (by simp) 48 #[.bool sq, .slice Aq mq cq]
  have bb := bb.alloc bb.size (.cells #[.bool sq, .slice Aq mq cq] 48)
  have cf0 := kf.cell 0
  have cf1 := kf.cell 1
  have cg0 := kg.cell 0
  have cg1 := kg.cell 1
  have ch0 := kh.cell 0
  have ch1 := kh.cell 1
  have cP0 := kP.cell 0
  have cP1 := kP.cell 1
  have cQ0 := kQ.cell 0
  have cQ1 := kQ.cell 1
  simp only [List.getElem?_toArray, List.getElem?_cons_zero, List.getElem?_cons_succ] at cf0 cf1 cg0 cg1 ch0 ch1 cP0 cP1 cQ0 cQ1
  have hcm := Lib.hid (cmp_any _ _ _ _ _ _ _ hwp hwq)
  obtain ⟨z, hz⟩ : ∃ z, cmpI (a * c) (b * a) = z := ⟨_, rfl⟩
  rw [hz] at hcm
  have hs2 := hs.out
  rw [hz] at hs2
  clear hz
  go_wp2_with fail
  refine (hcm.out).mono ?_
  rintro e w10 ⟨rfl, hb10⟩
  clear cf0 cf1 cg0 cg1 ch0 ch1 cP0 cP1 cQ0 cQ1
  have kf := kf.low hb10 kf.lt
  have kg := kg.low hb10 kg.lt
  have kh := kh.low hb10 kh.lt
  have kP := kP.low hb10 kP.lt
  have kQ := kQ.low hb10 kQ.lt
  have hwp := hwp.below hb10
  have hwq := hwq.below hb10
  have bb := bb.trans (hb10.mono bb.size)
  clear hb10
  have cf0 := kf.cell 0
  have cf1 := kf.cell 1
  have cg0 := kg.cell 0
  have cg1 := kg.cell 1
  have ch0 := kh.cell 0
  have ch1 := kh.cell 1
  have cP0 := kP.cell 0
  have cP1 := kP.cell 1
  have cQ0 := kQ.cell 0
  have cQ1 := kQ.cell 1
  simp only [List.getElem?_toArray, List.getElem?_cons_zero, List.getElem?_cons_succ] at cf0 cf1 cg0 cg1 ch0 ch1 cP0 cP1 cQ0 cQ1
  go_wp2_with fail
  refine (awake_any _).mono ?_
  rintro e w11 ⟨rfl, hb11⟩
  clear cf0 cf1 cg0 cg1 ch0 ch1 cP0 cP1 cQ0 cQ1
  have kf := kf.low hb11 kf.lt
  have kg := kg.low hb11 kg.lt
  have kh := kh.low hb11 kh.lt
  have kP := kP.low hb11 kP.lt
  have kQ := kQ.low hb11 kQ.lt
  have hwp := hwp.below hb11
  have hwq := hwq.below hb11
  have bb := bb.trans (hb11.mono bb.size)
  clear hb11
  have cf0 := kf.cell 0
  have cf1 := kf.cell 1
  have cg0 := kg.cell 0
  have cg1 := kg.cell 1
  have ch0 := kh.cell 0
  have ch1 := kh.cell 1
  have cP0 := kP.cell 0
  have cP1 := kP.cell 1
  have cQ0 := kQ.cell 0
  have cQ1 := kQ.cell 1
  simp only [List.getElem?_toArray, List.getElem?_cons_zero, List.getElem?_cons_succ] at cf0 cf1 cg0 cg1 ch0 ch1 cP0 cP1 cQ0 cQ1
  go_wp2_with fail
  go_ret
  exact ⟨by simp, bb⟩

set_option maxRecDepth 100000 in
set_option maxHeartbeats 2000000 in
theorem worth_de (a b c p q r s : Int) (w : World) (hfa : fits a) (hfb : fits b) (hfc : fits c) (hs : Hid ((cmpI (a * c) (b * a) == 0) = true)) (hac : (a == c) = false) (hg1 : (p == r) = true) (hg2 : (q == s) = false) (N1 : Hid (∀ w, Calls Try.prog 15 #[.int .i64 a, .int .i64 b] w fun e w' => e = .returned (.tuple #[.agg #[.int .i64 p, .int .i64 q], .int .i64 0]) ∧ Below w.heap.size w w')) (N2 : Hid (∀ w, Calls Try.prog 15 #[.int .i64 c, .int .i64 b] w fun e w' => e = .returned (.tuple #[.agg #[.int .i64 r, .int .i64 s], .int .i64 0]) ∧ Below w.heap.size w w')) (N3 : Hid (∀ w, Calls Try.prog 15 #[.int .i64 a, .int .i64 c] w fun e w' => e = .returned (.tuple #[.agg #[.int .i64 p, .int .i64 q], .int .i64 0]) ∧ Below w.heap.size w w')) :
    Calls Try.prog 9 #[.int .i64 a, .int .i64 b, .int .i64 c] w fun e w' => e = .returned (.bool true) ∧ Below w.heap.size w w' := by
  have bb := Below.refl w.heap.size w
  go_enter Try.func9, Try.ntmps9
  go_wp2_with fail
  refine (N1.out _).mono ?_
  rintro e w1 ⟨rfl, hb1⟩
  have bb := bb.trans (hb1.mono bb.size)
  clear hb1
  have kf := Blk.new w1 (w1.heap.size) (by simp) 23 #[.int .i64 p, .int .i64 q]
  have bb := bb.alloc bb.size (.cells #[.int .i64 p, .int .i64 q] 23)
  go_wp2_with fail
  refine (N2.out _).mono ?_
  rintro e w2 ⟨rfl, hb2⟩
  have kf := kf.low hb2 kf.lt
  have bb := bb.trans (hb2.mono bb.size)
  clear hb2
  have kf := kf.alloc (.cells #[.int .i64 r, .int .i64 s] 23)
  have kg := Blk.new w2 (w2.heap.size) (by simp) 23 #[.int .i64 r, .int .i64 s]
  have bb := bb.alloc bb.size (.cells #[.int .i64 r, .int .i64 s] 23)
  go_wp2_with fail
  refine (N3.out _).mono ?_
  rintro e w3 ⟨rfl, hb3⟩
  have kf := kf.low hb3 kf.lt
  have kg := kg.low hb3 kg.lt
  have bb := bb.trans (hb3.mono bb.size)
  clear hb3
  have kf := kf.alloc (.cells #[.int .i64 p, .int .i64 q] 23)
  have kg := kg.alloc (.cells #[.int .i64 p, .int .i64 q] 23)
  have kh := Blk.new w3 (w3.heap.size) (by simp) 23 #[.int .i64 p, .int .i64 q]
  have bb := bb.alloc bb.size (.cells #[.int .i64 p, .int .i64 q] 23)
  go_wp2_with fail
  refine (of_any a _ (by assumption)).mono ?_
  rintro e w4 ⟨va, na, rfl, hwa, hna, hb4⟩
  have kf := kf.low hb4 kf.lt
  have kg := kg.low hb4 kg.lt
  have kh := kh.low hb4 kh.lt
  have bb := bb.trans (hb4.mono bb.size)
  clear hb4
  go_wp2_with fail
  refine (of_any c _ (by assumption)).mono ?_
  rintro e w5 ⟨vb, nb, rfl, hwb, hnb, hb5⟩
  have kf := kf.low hb5 kf.lt
  have kg := kg.low hb5 kg.lt
  have kh := kh.low hb5 kh.lt
  have hwa := hwa.below hb5
  have bb := bb.trans (hb5.mono bb.size)
  clear hb5
  go_wp2_with fail
  refine (times_any _ _ _ _ _ _ _ hwa hwb (by omega) (by omega)).mono ?_
  intro e w6 hmk
  refine makes_elim hmk fun sp Ap cp mp he hwp hnew hb6 => ?_
  clear hmk hnew
  subst he
  have kf := kf.low hb6 kf.lt
  have kg := kg.low hb6 kg.lt
  have kh := kh.low hb6 kh.lt
  have hwa := hwa.below hb6
  have hwb := hwb.below hb6
  have bb := bb.trans (hb6.mono bb.size)
  clear hb6
  clear hwa
  clear hwb
  have hwp := hwp.below ((Below.refl _ _).alloc (Nat.le_refl _) (.cells #[.bool sp, .slice Ap mp cp] 48))
  have kf := kf.alloc (.cells #[.bool sp, .slice Ap mp cp] 48)
  have kg := kg.alloc (.cells #[.bool sp, .slice Ap mp cp] 48)
  have kh := kh.alloc (.cells #[.bool sp, .slice Ap mp cp] 48)
  have kP := Blk.new w6 (w6.heap.size) (by simp) 48 #[.bool sp, .slice Ap mp cp]
  have bb := bb.alloc bb.size (.cells #[.bool sp, .slice Ap mp cp] 48)
  go_wp2_with fail
  refine (of_any b _ (by assumption)).mono ?_
  rintro e w7 ⟨vc, nc, rfl, hwc, hnc, hb7⟩
  have kf := kf.low hb7 kf.lt
  have kg := kg.low hb7 kg.lt
  have kh := kh.low hb7 kh.lt
  have kP := kP.low hb7 kP.lt
  have hwp := hwp.below hb7
  have bb := bb.trans (hb7.mono bb.size)
  clear hb7
  go_wp2_with fail
  refine (of_any a _ (by assumption)).mono ?_
  rintro e w8 ⟨vd, nd, rfl, hwd, hnd, hb8⟩
  have kf := kf.low hb8 kf.lt
  have kg := kg.low hb8 kg.lt
  have kh := kh.low hb8 kh.lt
  have kP := kP.low hb8 kP.lt
  have hwp := hwp.below hb8
  have hwc := hwc.below hb8
  have bb := bb.trans (hb8.mono bb.size)
  clear hb8
  go_wp2_with fail
  refine (times_any _ _ _ _ _ _ _ hwc hwd (by omega) (by omega)).mono ?_
  intro e w9 hmk
  refine makes_elim hmk fun sq Aq cq mq he hwq hnew hb9 => ?_
  clear hmk hnew
  subst he
  have kf := kf.low hb9 kf.lt
  have kg := kg.low hb9 kg.lt
  have kh := kh.low hb9 kh.lt
  have kP := kP.low hb9 kP.lt
  have hwp := hwp.below hb9
  have hwc := hwc.below hb9
  have hwd := hwd.below hb9
  have bb := bb.trans (hb9.mono bb.size)
  clear hb9
  clear hwc
  clear hwd
  have hwp := hwp.below ((Below.refl _ _).alloc (Nat.le_refl _) (.cells #[.bool sq, .slice Aq mq cq] 48))
  have hwq := hwq.below ((Below.refl _ _).alloc (Nat.le_refl _) (.cells #[.bool sq, .slice Aq mq cq] 48))
  have kf := kf.alloc (.cells #[.bool sq, .slice Aq mq cq] 48)
  have kg := kg.alloc (.cells #[.bool sq, .slice Aq mq cq] 48)
  have kh := kh.alloc (.cells #[.bool sq, .slice Aq mq cq] 48)
  have kP := kP.alloc (.cells #[.bool sq, .slice Aq mq cq] 48)
  have kQ := Blk.new w9 (w9.heap.size) (by simp) 48 #[.bool sq, .slice Aq mq cq]
  have bb := bb.alloc bb.size (.cells #[.bool sq, .slice Aq mq cq] 48)
  have cf0 := kf.cell 0
  have cf1 := kf.cell 1
  have cg0 := kg.cell 0
  have cg1 := kg.cell 1
  have ch0 := kh.cell 0
  have ch1 := kh.cell 1
  have cP0 := kP.cell 0
  have cP1 := kP.cell 1
  have cQ0 := kQ.cell 0
  have cQ1 := kQ.cell 1
  simp only [List.getElem?_toArray, List.getElem?_cons_zero, List.getElem?_cons_succ] at cf0 cf1 cg0 cg1 ch0 ch1 cP0 cP1 cQ0 cQ1
  have hcm := Lib.hid (cmp_any _ _ _ _ _ _ _ hwp hwq)
  obtain ⟨z, hz⟩ : ∃ z, cmpI (a * c) (b * a) = z := ⟨_, rfl⟩
  rw [hz] at hcm
  have hs2 := hs.out
  rw [hz] at hs2
  clear hz
  go_wp2_with fail
  refine (hcm.out).mono ?_
  rintro e w10 ⟨rfl, hb10⟩
  clear cf0 cf1 cg0 cg1 ch0 ch1 cP0 cP1 cQ0 cQ1
  have kf := kf.low hb10 kf.lt
  have kg := kg.low hb10 kg.lt
  have kh := kh.low hb10 kh.lt
  have kP := kP.low hb10 kP.lt
  have kQ := kQ.low hb10 kQ.lt
  have hwp := hwp.below hb10
  have hwq := hwq.below hb10
  have bb := bb.trans (hb10.mono bb.size)
  clear hb10
  have cf0 := kf.cell 0
  have cf1 := kf.cell 1
  have cg0 := kg.cell 0
  have cg1 := kg.cell 1
  have ch0 := kh.cell 0
  have ch1 := kh.cell 1
  have cP0 := kP.cell 0
  have cP1 := kP.cell 1
  have cQ0 := kQ.cell 0
  have cQ1 := kQ.cell 1
  simp only [List.getElem?_toArray, List.getElem?_cons_zero, List.getElem?_cons_succ] at cf0 cf1 cg0 cg1 ch0 ch1 cP0 cP1 cQ0 cQ1
  go_wp2_with fail
  refine (awake_any _).mono ?_
  rintro e w11 ⟨rfl, hb11⟩
  clear cf0 cf1 cg0 cg1 ch0 ch1 cP0 cP1 cQ0 cQ1
  have kf := kf.low hb11 kf.lt
  have kg := kg.low hb11 kg.lt
  have kh := kh.low hb11 kh.lt
  have kP := kP.low hb11 kP.lt
  have kQ := kQ.low hb11 kQ.lt
  have hwp := hwp.below hb11
  have hwq := hwq.below hb11
  have bb := bb.trans (hb11.mono bb.size)
  clear hb11
  have cf0 := kf.cell 0
  have cf1 := kf.cell 1
  have cg0 := kg.cell 0
  have cg1 := kg.cell 1
  have ch0 := kh.cell 0
  have ch1 := kh.cell 1
  have cP0 := kP.cell 0
  have cP1 := kP.cell 1
  have cQ0 := kQ.cell 0
  have cQ1 := kQ.cell 1
  simp only [List.getElem?_toArray, List.getElem?_cons_zero, List.getElem?_cons_succ] at cf0 cf1 cg0 cg1 ch0 ch1 cP0 cP1 cQ0 cQ1
  go_wp2_with fail
  go_ret
  exact ⟨by simp, bb⟩

set_option maxRecDepth 100000 in
set_option maxHeartbeats 2000000 in
theorem worth_dn (a b c p q r s t u : Int) (w : World) (hfa : fits a) (hfb : fits b) (hfc : fits c) (hs : Hid ((cmpI (a * c) (b * a) == 0) = false)) (hac : (a == c) = false) (hg1 : (p == r) = true) (hg2 : (q == s) = false) (hi1 : (p == t) = false) (N1 : Hid (∀ w, Calls Try.prog 15 #[.int .i64 a, .int .i64 b] w fun e w' => e = .returned (.tuple #[.agg #[.int .i64 p, .int .i64 q], .int .i64 0]) ∧ Below w.heap.size w w')) (N2 : Hid (∀ w, Calls Try.prog 15 #[.int .i64 c, .int .i64 b] w fun e w' => e = .returned (.tuple #[.agg #[.int .i64 r, .int .i64 s], .int .i64 0]) ∧ Below w.heap.size w w')) (N3 : Hid (∀ w, Calls Try.prog 15 #[.int .i64 a, .int .i64 c] w fun e w' => e = .returned (.tuple #[.agg #[.int .i64 t, .int .i64 u], .int .i64 0]) ∧ Below w.heap.size w w')) :
    Calls Try.prog 9 #[.int .i64 a, .int .i64 b, .int .i64 c] w fun e w' => e = .returned (.bool true) ∧ Below w.heap.size w w' := by
  have bb := Below.refl w.heap.size w
  go_enter Try.func9, Try.ntmps9
  go_wp2_with fail
  refine (N1.out _).mono ?_
  rintro e w1 ⟨rfl, hb1⟩
  have bb := bb.trans (hb1.mono bb.size)
  clear hb1
  have kf := Blk.new w1 (w1.heap.size) (by simp) 23 #[.int .i64 p, .int .i64 q]
  have bb := bb.alloc bb.size (.cells #[.int .i64 p, .int .i64 q] 23)
  go_wp2_with fail
  refine (N2.out _).mono ?_
  rintro e w2 ⟨rfl, hb2⟩
  have kf := kf.low hb2 kf.lt
  have bb := bb.trans (hb2.mono bb.size)
  clear hb2
  have kf := kf.alloc (.cells #[.int .i64 r, .int .i64 s] 23)
  have kg := Blk.new w2 (w2.heap.size) (by simp) 23 #[.int .i64 r, .int .i64 s]
  have bb := bb.alloc bb.size (.cells #[.int .i64 r, .int .i64 s] 23)
  go_wp2_with fail
  refine (N3.out _).mono ?_
  rintro e w3 ⟨rfl, hb3⟩
  have kf := kf.low hb3 kf.lt
  have kg := kg.low hb3 kg.lt
  have bb := bb.trans (hb3.mono bb.size)
  clear hb3
  have kf := kf.alloc (.cells #[.int .i64 t, .int .i64 u] 23)
  have kg := kg.alloc (.cells #[.int .i64 t, .int .i64 u] 23)
  have kh := Blk.new w3 (w3.heap.size) (by simp) 23 #[.int .i64 t, .int .i64 u]
  have bb := bb.alloc bb.size (.cells #[.int .i64 t, .int .i64 u] 23)
  go_wp2_with fail
  refine (of_any a _ (by assumption)).mono ?_
  rintro e w4 ⟨va, na, rfl, hwa, hna, hb4⟩
  have kf := kf.low hb4 kf.lt
  have kg := kg.low hb4 kg.lt
  have kh := kh.low hb4 kh.lt
  have bb := bb.trans (hb4.mono bb.size)
  clear hb4
  go_wp2_with fail
  refine (of_any c _ (by assumption)).mono ?_
  rintro e w5 ⟨vb, nb, rfl, hwb, hnb, hb5⟩
  have kf := kf.low hb5 kf.lt
  have kg := kg.low hb5 kg.lt
  have kh := kh.low hb5 kh.lt
  have hwa := hwa.below hb5
  have bb := bb.trans (hb5.mono bb.size)
  clear hb5
  go_wp2_with fail
  refine (times_any _ _ _ _ _ _ _ hwa hwb (by omega) (by omega)).mono ?_
  intro e w6 hmk
  refine makes_elim hmk fun sp Ap cp mp he hwp hnew hb6 => ?_
  clear hmk hnew
  subst he
  have kf := kf.low hb6 kf.lt
  have kg := kg.low hb6 kg.lt
  have kh := kh.low hb6 kh.lt
  have hwa := hwa.below hb6
  have hwb := hwb.below hb6
  have bb := bb.trans (hb6.mono bb.size)
  clear hb6
  clear hwa
  clear hwb
  have hwp := hwp.below ((Below.refl _ _).alloc (Nat.le_refl _) (.cells #[.bool sp, .slice Ap mp cp] 48))
  have kf := kf.alloc (.cells #[.bool sp, .slice Ap mp cp] 48)
  have kg := kg.alloc (.cells #[.bool sp, .slice Ap mp cp] 48)
  have kh := kh.alloc (.cells #[.bool sp, .slice Ap mp cp] 48)
  have kP := Blk.new w6 (w6.heap.size) (by simp) 48 #[.bool sp, .slice Ap mp cp]
  have bb := bb.alloc bb.size (.cells #[.bool sp, .slice Ap mp cp] 48)
  go_wp2_with fail
  refine (of_any b _ (by assumption)).mono ?_
  rintro e w7 ⟨vc, nc, rfl, hwc, hnc, hb7⟩
  have kf := kf.low hb7 kf.lt
  have kg := kg.low hb7 kg.lt
  have kh := kh.low hb7 kh.lt
  have kP := kP.low hb7 kP.lt
  have hwp := hwp.below hb7
  have bb := bb.trans (hb7.mono bb.size)
  clear hb7
  go_wp2_with fail
  refine (of_any a _ (by assumption)).mono ?_
  rintro e w8 ⟨vd, nd, rfl, hwd, hnd, hb8⟩
  have kf := kf.low hb8 kf.lt
  have kg := kg.low hb8 kg.lt
  have kh := kh.low hb8 kh.lt
  have kP := kP.low hb8 kP.lt
  have hwp := hwp.below hb8
  have hwc := hwc.below hb8
  have bb := bb.trans (hb8.mono bb.size)
  clear hb8
  go_wp2_with fail
  refine (times_any _ _ _ _ _ _ _ hwc hwd (by omega) (by omega)).mono ?_
  intro e w9 hmk
  refine makes_elim hmk fun sq Aq cq mq he hwq hnew hb9 => ?_
  clear hmk hnew
  subst he
  have kf := kf.low hb9 kf.lt
  have kg := kg.low hb9 kg.lt
  have kh := kh.low hb9 kh.lt
  have kP := kP.low hb9 kP.lt
  have hwp := hwp.below hb9
  have hwc := hwc.below hb9
  have hwd := hwd.below hb9
  have bb := bb.trans (hb9.mono bb.size)
  clear hb9
  clear hwc
  clear hwd
  have hwp := hwp.below ((Below.refl _ _).alloc (Nat.le_refl _) (.cells #[.bool sq, .slice Aq mq cq] 48))
  have hwq := hwq.below ((Below.refl _ _).alloc (Nat.le_refl _) (.cells #[.bool sq, .slice Aq mq cq] 48))
  have kf := kf.alloc (.cells #[.bool sq, .slice Aq mq cq] 48)
  have kg := kg.alloc (.cells #[.bool sq, .slice Aq mq cq] 48)
  have kh := kh.alloc (.cells #[.bool sq, .slice Aq mq cq] 48)
  have kP := kP.alloc (.cells #[.bool sq, .slice Aq mq cq] 48)
  have kQ := Blk.new w9 (w9.heap.size) (by simp) 48 #[.bool sq, .slice Aq mq cq]
  have bb := bb.alloc bb.size (.cells #[.bool sq, .slice Aq mq cq] 48)
  have cf0 := kf.cell 0
  have cf1 := kf.cell 1
  have cg0 := kg.cell 0
  have cg1 := kg.cell 1
  have ch0 := kh.cell 0
  have ch1 := kh.cell 1
  have cP0 := kP.cell 0
  have cP1 := kP.cell 1
  have cQ0 := kQ.cell 0
  have cQ1 := kQ.cell 1
  simp only [List.getElem?_toArray, List.getElem?_cons_zero, List.getElem?_cons_succ] at cf0 cf1 cg0 cg1 ch0 ch1 cP0 cP1 cQ0 cQ1
  have hcm := Lib.hid (cmp_any _ _ _ _ _ _ _ hwp hwq)
  obtain ⟨z, hz⟩ : ∃ z, cmpI (a * c) (b * a) = z := ⟨_, rfl⟩
  rw [hz] at hcm
  have hs2 := hs.out
  rw [hz] at hs2
  clear hz
  go_wp2_with fail
  refine (hcm.out).mono ?_
  rintro e w10 ⟨rfl, hb10⟩
  clear cf0 cf1 cg0 cg1 ch0 ch1 cP0 cP1 cQ0 cQ1
  have kf := kf.low hb10 kf.lt
  have kg := kg.low hb10 kg.lt
  have kh := kh.low hb10 kh.lt
  have kP := kP.low hb10 kP.lt
  have kQ := kQ.low hb10 kQ.lt
  have hwp := hwp.below hb10
  have hwq := hwq.below hb10
  have bb := bb.trans (hb10.mono bb.size)
  clear hb10
  have cf0 := kf.cell 0
  have cf1 := kf.cell 1
  have cg0 := kg.cell 0
  have cg1 := kg.cell 1
  have ch0 := kh.cell 0
  have ch1 := kh.cell 1
  have cP0 := kP.cell 0
  have cP1 := kP.cell 1
  have cQ0 := kQ.cell 0
  have cQ1 := kQ.cell 1
  simp only [List.getElem?_toArray, List.getElem?_cons_zero, List.getElem?_cons_succ] at cf0 cf1 cg0 cg1 ch0 ch1 cP0 cP1 cQ0 cQ1
  go_wp2_with fail
  refine (awake_any _).mono ?_
  rintro e w11 ⟨rfl, hb11⟩
  clear cf0 cf1 cg0 cg1 ch0 ch1 cP0 cP1 cQ0 cQ1
  have kf := kf.low hb11 kf.lt
  have kg := kg.low hb11 kg.lt
  have kh := kh.low hb11 kh.lt
  have kP := kP.low hb11 kP.lt
  have kQ := kQ.low hb11 kQ.lt
  have hwp := hwp.below hb11
  have hwq := hwq.below hb11
  have bb := bb.trans (hb11.mono bb.size)
  clear hb11
  have cf0 := kf.cell 0
  have cf1 := kf.cell 1
  have cg0 := kg.cell 0
  have cg1 := kg.cell 1
  have ch0 := kh.cell 0
  have ch1 := kh.cell 1
  have cP0 := kP.cell 0
  have cP1 := kP.cell 1
  have cQ0 := kQ.cell 0
  have cQ1 := kQ.cell 1
  simp only [List.getElem?_toArray, List.getElem?_cons_zero, List.getElem?_cons_succ] at cf0 cf1 cg0 cg1 ch0 ch1 cP0 cP1 cQ0 cQ1
  go_wp2_with fail
  go_ret
  exact ⟨by simp, bb⟩

set_option maxRecDepth 100000 in
set_option maxHeartbeats 2000000 in
theorem worth_dd (a b c p q r s t u : Int) (w : World) (hfa : fits a) (hfb : fits b) (hfc : fits c) (hs : Hid ((cmpI (a * c) (b * a) == 0) = false)) (hac : (a == c) = false) (hg1 : (p == r) = true) (hg2 : (q == s) = false) (hi1 : (p == t) = true) (hi2 : (q == u) = false) (N1 : Hid (∀ w, Calls Try.prog 15 #[.int .i64 a, .int .i64 b] w fun e w' => e = .returned (.tuple #[.agg #[.int .i64 p, .int .i64 q], .int .i64 0]) ∧ Below w.heap.size w w')) (N2 : Hid (∀ w, Calls Try.prog 15 #[.int .i64 c, .int .i64 b] w fun e w' => e = .returned (.tuple #[.agg #[.int .i64 r, .int .i64 s], .int .i64 0]) ∧ Below w.heap.size w w')) (N3 : Hid (∀ w, Calls Try.prog 15 #[.int .i64 a, .int .i64 c] w fun e w' => e = .returned (.tuple #[.agg #[.int .i64 t, .int .i64 u], .int .i64 0]) ∧ Below w.heap.size w w')) :
    Calls Try.prog 9 #[.int .i64 a, .int .i64 b, .int .i64 c] w fun e w' => e = .returned (.bool true) ∧ Below w.heap.size w w' := by
  have bb := Below.refl w.heap.size w
  go_enter Try.func9, Try.ntmps9
  go_wp2_with fail
  refine (N1.out _).mono ?_
  rintro e w1 ⟨rfl, hb1⟩
  have bb := bb.trans (hb1.mono bb.size)
  clear hb1
  have kf := Blk.new w1 (w1.heap.size) (by simp) 23 #[.int .i64 p, .int .i64 q]
  have bb := bb.alloc bb.size (.cells #[.int .i64 p, .int .i64 q] 23)
  go_wp2_with fail
  refine (N2.out _).mono ?_
  rintro e w2 ⟨rfl, hb2⟩
  have kf := kf.low hb2 kf.lt
  have bb := bb.trans (hb2.mono bb.size)
  clear hb2
  have kf := kf.alloc (.cells #[.int .i64 r, .int .i64 s] 23)
  have kg := Blk.new w2 (w2.heap.size) (by simp) 23 #[.int .i64 r, .int .i64 s]
  have bb := bb.alloc bb.size (.cells #[.int .i64 r, .int .i64 s] 23)
  go_wp2_with fail
  refine (N3.out _).mono ?_
  rintro e w3 ⟨rfl, hb3⟩
  have kf := kf.low hb3 kf.lt
  have kg := kg.low hb3 kg.lt
  have bb := bb.trans (hb3.mono bb.size)
  clear hb3
  have kf := kf.alloc (.cells #[.int .i64 t, .int .i64 u] 23)
  have kg := kg.alloc (.cells #[.int .i64 t, .int .i64 u] 23)
  have kh := Blk.new w3 (w3.heap.size) (by simp) 23 #[.int .i64 t, .int .i64 u]
  have bb := bb.alloc bb.size (.cells #[.int .i64 t, .int .i64 u] 23)
  go_wp2_with fail
  refine (of_any a _ (by assumption)).mono ?_
  rintro e w4 ⟨va, na, rfl, hwa, hna, hb4⟩
  have kf := kf.low hb4 kf.lt
  have kg := kg.low hb4 kg.lt
  have kh := kh.low hb4 kh.lt
  have bb := bb.trans (hb4.mono bb.size)
  clear hb4
  go_wp2_with fail
  refine (of_any c _ (by assumption)).mono ?_
  rintro e w5 ⟨vb, nb, rfl, hwb, hnb, hb5⟩
  have kf := kf.low hb5 kf.lt
  have kg := kg.low hb5 kg.lt
  have kh := kh.low hb5 kh.lt
  have hwa := hwa.below hb5
  have bb := bb.trans (hb5.mono bb.size)
  clear hb5
  go_wp2_with fail
  refine (times_any _ _ _ _ _ _ _ hwa hwb (by omega) (by omega)).mono ?_
  intro e w6 hmk
  refine makes_elim hmk fun sp Ap cp mp he hwp hnew hb6 => ?_
  clear hmk hnew
  subst he
  have kf := kf.low hb6 kf.lt
  have kg := kg.low hb6 kg.lt
  have kh := kh.low hb6 kh.lt
  have hwa := hwa.below hb6
  have hwb := hwb.below hb6
  have bb := bb.trans (hb6.mono bb.size)
  clear hb6
  clear hwa
  clear hwb
  have hwp := hwp.below ((Below.refl _ _).alloc (Nat.le_refl _) (.cells #[.bool sp, .slice Ap mp cp] 48))
  have kf := kf.alloc (.cells #[.bool sp, .slice Ap mp cp] 48)
  have kg := kg.alloc (.cells #[.bool sp, .slice Ap mp cp] 48)
  have kh := kh.alloc (.cells #[.bool sp, .slice Ap mp cp] 48)
  have kP := Blk.new w6 (w6.heap.size) (by simp) 48 #[.bool sp, .slice Ap mp cp]
  have bb := bb.alloc bb.size (.cells #[.bool sp, .slice Ap mp cp] 48)
  go_wp2_with fail
  refine (of_any b _ (by assumption)).mono ?_
  rintro e w7 ⟨vc, nc, rfl, hwc, hnc, hb7⟩
  have kf := kf.low hb7 kf.lt
  have kg := kg.low hb7 kg.lt
  have kh := kh.low hb7 kh.lt
  have kP := kP.low hb7 kP.lt
  have hwp := hwp.below hb7
  have bb := bb.trans (hb7.mono bb.size)
  clear hb7
  go_wp2_with fail
  refine (of_any a _ (by assumption)).mono ?_
  rintro e w8 ⟨vd, nd, rfl, hwd, hnd, hb8⟩
  have kf := kf.low hb8 kf.lt
  have kg := kg.low hb8 kg.lt
  have kh := kh.low hb8 kh.lt
  have kP := kP.low hb8 kP.lt
  have hwp := hwp.below hb8
  have hwc := hwc.below hb8
  have bb := bb.trans (hb8.mono bb.size)
  clear hb8
  go_wp2_with fail
  refine (times_any _ _ _ _ _ _ _ hwc hwd (by omega) (by omega)).mono ?_
  intro e w9 hmk
  refine makes_elim hmk fun sq Aq cq mq he hwq hnew hb9 => ?_
  clear hmk hnew
  subst he
  have kf := kf.low hb9 kf.lt
  have kg := kg.low hb9 kg.lt
  have kh := kh.low hb9 kh.lt
  have kP := kP.low hb9 kP.lt
  have hwp := hwp.below hb9
  have hwc := hwc.below hb9
  have hwd := hwd.below hb9
  have bb := bb.trans (hb9.mono bb.size)
  clear hb9
  clear hwc
  clear hwd
  have hwp := hwp.below ((Below.refl _ _).alloc (Nat.le_refl _) (.cells #[.bool sq, .slice Aq mq cq] 48))
  have hwq := hwq.below ((Below.refl _ _).alloc (Nat.le_refl _) (.cells #[.bool sq, .slice Aq mq cq] 48))
  have kf := kf.alloc (.cells #[.bool sq, .slice Aq mq cq] 48)
  have kg := kg.alloc (.cells #[.bool sq, .slice Aq mq cq] 48)
  have kh := kh.alloc (.cells #[.bool sq, .slice Aq mq cq] 48)
  have kP := kP.alloc (.cells #[.bool sq, .slice Aq mq cq] 48)
  have kQ := Blk.new w9 (w9.heap.size) (by simp) 48 #[.bool sq, .slice Aq mq cq]
  have bb := bb.alloc bb.size (.cells #[.bool sq, .slice Aq mq cq] 48)
  have cf0 := kf.cell 0
  have cf1 := kf.cell 1
  have cg0 := kg.cell 0
  have cg1 := kg.cell 1
  have ch0 := kh.cell 0
  have ch1 := kh.cell 1
  have cP0 := kP.cell 0
  have cP1 := kP.cell 1
  have cQ0 := kQ.cell 0
  have cQ1 := kQ.cell 1
  simp only [List.getElem?_toArray, List.getElem?_cons_zero, List.getElem?_cons_succ] at cf0 cf1 cg0 cg1 ch0 ch1 cP0 cP1 cQ0 cQ1
  have hcm := Lib.hid (cmp_any _ _ _ _ _ _ _ hwp hwq)
  obtain ⟨z, hz⟩ : ∃ z, cmpI (a * c) (b * a) = z := ⟨_, rfl⟩
  rw [hz] at hcm
  have hs2 := hs.out
  rw [hz] at hs2
  clear hz
  go_wp2_with fail
  refine (hcm.out).mono ?_
  rintro e w10 ⟨rfl, hb10⟩
  clear cf0 cf1 cg0 cg1 ch0 ch1 cP0 cP1 cQ0 cQ1
  have kf := kf.low hb10 kf.lt
  have kg := kg.low hb10 kg.lt
  have kh := kh.low hb10 kh.lt
  have kP := kP.low hb10 kP.lt
  have kQ := kQ.low hb10 kQ.lt
  have hwp := hwp.below hb10
  have hwq := hwq.below hb10
  have bb := bb.trans (hb10.mono bb.size)
  clear hb10
  have cf0 := kf.cell 0
  have cf1 := kf.cell 1
  have cg0 := kg.cell 0
  have cg1 := kg.cell 1
  have ch0 := kh.cell 0
  have ch1 := kh.cell 1
  have cP0 := kP.cell 0
  have cP1 := kP.cell 1
  have cQ0 := kQ.cell 0
  have cQ1 := kQ.cell 1
  simp only [List.getElem?_toArray, List.getElem?_cons_zero, List.getElem?_cons_succ] at cf0 cf1 cg0 cg1 ch0 ch1 cP0 cP1 cQ0 cQ1
  go_wp2_with fail
  refine (awake_any _).mono ?_
  rintro e w11 ⟨rfl, hb11⟩
  clear cf0 cf1 cg0 cg1 ch0 ch1 cP0 cP1 cQ0 cQ1
  have kf := kf.low hb11 kf.lt
  have kg := kg.low hb11 kg.lt
  have kh := kh.low hb11 kh.lt
  have kP := kP.low hb11 kP.lt
  have kQ := kQ.low hb11 kQ.lt
  have hwp := hwp.below hb11
  have hwq := hwq.below hb11
  have bb := bb.trans (hb11.mono bb.size)
  clear hb11
  have cf0 := kf.cell 0
  have cf1 := kf.cell 1
  have cg0 := kg.cell 0
  have cg1 := kg.cell 1
  have ch0 := kh.cell 0
  have ch1 := kh.cell 1
  have cP0 := kP.cell 0
  have cP1 := kP.cell 1
  have cQ0 := kQ.cell 0
  have cQ1 := kQ.cell 1
  simp only [List.getElem?_toArray, List.getElem?_cons_zero, List.getElem?_cons_succ] at cf0 cf1 cg0 cg1 ch0 ch1 cP0 cP1 cQ0 cQ1
  go_wp2_with fail
  go_ret
  exact ⟨by simp, bb⟩

theorem worthLaw_any (a b c : Int) (w : World) (ha : fits a) (hb : fits b) (hc : fits c) : Calls Try.prog 9 #[.int .i64 a, .int .i64 b, .int .i64 c] w fun e w' => e = .returned (.bool true) ∧ Below w.heap.size w w' := by
  have N1 := Lib.hid fun w => new_any a b w ha hb
  have N2 := Lib.hid fun w => new_any c b w hc hb
  have N3 := Lib.hid fun w => new_any a c w ha hc
  by_cases e1 : (newR a b).2 = 0
  · by_cases e2 : (newR c b).2 = 0
    · by_cases e3 : (newR a c).2 = 0
      · obtain ⟨hb0, f1, _⟩ := newR_ok (f := (newR a b).1) (Prod.ext rfl e1)
        obtain ⟨_, f2, _⟩ := newR_ok (f := (newR c b).1) (Prod.ext rfl e2)
        obtain ⟨hc0, f3, _⟩ := newR_ok (f := (newR a c).1) (Prod.ext rfl e3)
        rw [e1] at N1
        rw [e2] at N2
        rw [e3] at N3
        have v1 := new_valid (n := a) hb0
        have v2 := new_valid (n := c) hb0
        have v3 := new_valid (n := a) hc0
        have w1 := new_worth (n := a) hb0
        have w2 := new_worth (n := c) hb0
        have w3 := new_worth (n := a) hc0
        have p1 := newD_pos (n := a) hb0
        have p2 := newD_pos (n := c) hb0
        have p3 := newD_pos (n := a) hc0
        have hFG : (newN a b = newN c b ∧ newD a b = newD c b) ↔ a = c := by
          refine ⟨fun h => ?_, fun h => ?_⟩
          · rw [h.1, h.2] at w1
            rw [w1] at w2
            exact Int.eq_of_mul_eq_mul_right (by omega) w2
          · subst h
            exact ⟨rfl, rfl⟩
        have hFI : (newN a b = newN a c ∧ newD a b = newD a c) ↔ a * c = b * a := by
          constructor
          · intro h
            rw [h.1, h.2] at w1
            -- p b = a q, p c = a q
            have e : newN a c * b = newN a c * c := w1.trans w3.symm
            by_cases h0 : newN a c = 0
            · rw [h0, Int.zero_mul] at w3
              have : a = 0 := by
                rcases Int.mul_eq_zero.1 w3.symm with h | h
                · exact h
                · omega
              rw [this]; simp
            · have := Int.eq_of_mul_eq_mul_left h0 e
              rw [this, Int.mul_comm]
          · intro h
            refine valid_uniq v1 v3 ?_
            have hbc : b * c ≠ 0 := by
              intro h0
              rcases Int.mul_eq_zero.1 h0 with h | h
              · exact hb0 h
              · exact hc0 h
            refine Int.eq_of_mul_eq_mul_right hbc ?_
            calc newN a b * newD a c * (b * c) = newN a b * b * (newD a c * c) := by rw [Int.mul_assoc, Int.mul_assoc, ← Int.mul_assoc (newD a c), Int.mul_comm (newD a c) b, Int.mul_assoc b]
              _ = a * newD a b * (newD a c * c) := by rw [w1]
              _ = a * c * (newD a b * newD a c) := by rw [Int.mul_assoc a, Int.mul_assoc a, Int.mul_comm (newD a c) c, ← Int.mul_assoc (newD a b), Int.mul_comm (newD a b) c, Int.mul_assoc c]
              _ = b * a * (newD a b * newD a c) := by rw [h]
              _ = a * newD a c * (newD a b * b) := by rw [Int.mul_comm b a, Int.mul_assoc a, Int.mul_assoc a, ← Int.mul_assoc (newD a c), Int.mul_comm (newD a c), Int.mul_comm (newD a b * newD a c) b]
              _ = newN a c * c * (newD a b * b) := by rw [w3]
              _ = newN a c * newD a b * (b * c) := by rw [Int.mul_assoc, Int.mul_assoc, Int.mul_comm c, ← Int.mul_assoc (newD a b), Int.mul_assoc (newD a b)]
        rw [f1] at N1
        rw [f2] at N2
        rw [f3] at N3
        simp only at N1 N2 N3
        clear f1 f2 f3 v1 v2 v3 w1 w2 w3 p1 p2 p3 e1 e2 e3
        have hcz : (cmpI (a * c) (b * a) == 0) = decide (a * c = b * a) := by
          by_cases h : a * c = b * a
          · rw [decide_eq_true h, cmpI_eq h]; rfl
          · rw [decide_eq_false h, beq_eq_false_iff_ne]
            unfold cmpI
            split
            · omega
            · split <;> omega
        generalize newN a b = p at *
        generalize newD a b = q at *
        generalize newN c b = r at *
        generalize newD c b = s at *
        generalize newN a c = t at *
        generalize newD a c = u at *
        have bt : ∀ x y : Int, x = y → (x == y) = true := fun x y h => by simpa using h
        have bf : ∀ x y : Int, ¬ x = y → (x == y) = false := fun x y h => by simpa using h
        by_cases g1 : p = r
        · by_cases g2 : q = s
          · have hac := bt _ _ (hFG.1 ⟨g1, g2⟩)
            subst g1 g2
            by_cases i1 : p = t
            · by_cases i2 : q = u
              · rw [decide_eq_true (hFI.1 ⟨i1, i2⟩)] at hcz
                subst i1 i2
                exact worth_ee _ _ _ _ _ w ha hb hc hcz hac N1 N2 N3
              · rw [decide_eq_false (fun h => i2 (hFI.2 h).2)] at hcz
                exact worth_ed _ _ _ _ _ _ _ w ha hb hc hcz hac (bt _ _ i1) (bf _ _ i2) N1 N2 N3
            · rw [decide_eq_false (fun h => i1 (hFI.2 h).1)] at hcz
              exact worth_en _ _ _ _ _ _ _ w ha hb hc hcz hac (bf _ _ i1) N1 N2 N3
          · have hac := bf a c (fun h => g2 (hFG.2 h).2)
            by_cases i1 : p = t
            · by_cases i2 : q = u
              · rw [decide_eq_true (hFI.1 ⟨i1, i2⟩)] at hcz
                subst i1 i2
                exact worth_de _ _ _ _ _ _ _ w ha hb hc hcz hac (bt _ _ g1) (bf _ _ g2) N1 N2 N3
              · rw [decide_eq_false (fun h => i2 (hFI.2 h).2)] at hcz
                exact worth_dd _ _ _ _ _ _ _ _ _ w ha hb hc hcz hac (bt _ _ g1) (bf _ _ g2) (bt _ _ i1) (bf _ _ i2) N1 N2 N3
            · rw [decide_eq_false (fun h => i1 (hFI.2 h).1)] at hcz
              exact worth_dn _ _ _ _ _ _ _ _ _ w ha hb hc hcz hac (bt _ _ g1) (bf _ _ g2) (bf _ _ i1) N1 N2 N3
        · have hac := bf a c (fun h => g1 (hFG.2 h).1)
          by_cases i1 : p = t
          · by_cases i2 : q = u
            · rw [decide_eq_true (hFI.1 ⟨i1, i2⟩)] at hcz
              subst i1 i2
              exact worth_ne _ _ _ _ _ _ _ w ha hb hc hcz hac (bf _ _ g1) N1 N2 N3
            · rw [decide_eq_false (fun h => i2 (hFI.2 h).2)] at hcz
              exact worth_nd _ _ _ _ _ _ _ _ _ w ha hb hc hcz hac (bf _ _ g1) (bt _ _ i1) (bf _ _ i2) N1 N2 N3
          · rw [decide_eq_false (fun h => i1 (hFI.2 h).1)] at hcz
            exact worth_nn _ _ _ _ _ _ _ _ _ w ha hb hc hcz hac (bf _ _ g1) (bf _ _ i1) N1 N2 N3
      · rw [e1] at N1
        rw [e2] at N2
        exact worth_3 a b c _ _ _ _ _ _ _ w (by simpa using e3) N1 N2 N3
    · rw [e1] at N1
      exact worth_2 a b c _ _ _ _ _ _ _ _ w (by simpa using e2) N1 N2 N3
  · exact worth_1 a b c _ _ _ _ _ _ _ _ _ w (by simpa using e1) N1 N2 N3
end Go.Proofs.Ytfielhbepnkekaa
