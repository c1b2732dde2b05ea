/-
  pianolalaw12.even: does an arc balance with counts of any size?
-/
import Derived.Test.YtkheoaleamolcaaDoorVe
namespace Go.Proofs.YtkheoaleamolcaaDoor
open Go.RowKit

theorem box_inj {g g' : Nat} (h : Value.pointer (some (⟨g, 0, none⟩ : Addr)) = .pointer (some ⟨g', 0, none⟩)) : g = g' := by injection h with h; injection h with h; injection h
theorem WIs.stored {w : World} {g k c : Nat} {s : Bool} {A : Option Addr} {z : Int} (h : WIs w (.agg #[.bool s, .slice A k c]) z k) (hn : ∀ ad, A = some ad → ad.block ≠ g) (u u' : Value) :
    WIs ((w.setCell ⟨g, 0, none⟩ u).setCell ⟨g, 1, none⟩ u') (.agg #[.bool s, .slice A k c]) z k := by
  obtain ⟨s', A', c', ds, h1, h2, h3, h4, h5, h6, h7, h8⟩ := h
  injection h1 with h1
  simp at h1
  obtain ⟨rfl, rfl, rfl⟩ := h1
  refine ⟨s, A, c, ds, rfl, h2, h3, h4, h5, ?_, h7, h8⟩
  have := (h6.stored hn 0 u).stored hn 1 u'
  simpa using this

theorem cmpI_zero (x y : Int) : (cmpI x y == 0) = decide (x = y) := by
  rw [Bool.eq_iff_iff, beq_iff_eq, decide_eq_true_iff]
  unfold cmpI
  split
  · constructor <;> intro h <;> omega
  · split
    · constructor <;> intro h <;> omega
    · constructor <;> intro h <;> omega
structure EvA (W0 : World) (ga b off n c f t : Nat) (g rf : Int) (L : Nat → Bool) (V : Nat → Value) (w : World) : Prop where
  p : Below W0.heap.size W0 w
  ox : L 2 = true → L 9 = false → ∃ zn, zn ≤ 3 ∧ WIs w (V 9) g zn
  oy : L 8 = true → L 9 = false → ∃ zn, zn ≤ 3 ∧ WIs w (V 15) rf zn
  zt : L 9 = true → L 11 = false → ∃ zs zA zc zk, V 16 = .agg #[.bool zs, .slice zA zk zc] ∧ WIs w (.agg #[.bool zs, .slice zA zk zc]) (g * rf) zk ∧ ∀ zg, L 10 = true → V 5 = .pointer (some ⟨zg, 0, none⟩) → ∀ zu zu', WIs ((w.setCell ⟨zg, 0, none⟩ zu).setCell ⟨zg, 1, none⟩ zu') (.agg #[.bool zs, .slice zA zk zc]) (g * rf) zk
  zb : L 10 = true → L 11 = false → ∃ zg, V 5 = .pointer (some ⟨zg, 0, none⟩) ∧ W0.heap.size ≤ zg ∧ Blk w zg 55 #[.bool false, .slice none 0 0]
  zf : L 11 = true → ∃ zg zs zA zc zk, V 5 = .pointer (some ⟨zg, 0, none⟩) ∧ W0.heap.size ≤ zg ∧ Blk w zg 55 #[.bool zs, .slice zA zk zc] ∧ WIs w (.agg #[.bool zs, .slice zA zk zc]) (g * rf) zk
  e0 : L 0 = true → V 7 = .pointer (some ⟨ga, 2, none⟩)
  e1 : L 1 = true → V 8 = .int .i64 g
  e3 : L 3 = true → V 10 = .slice (some ⟨b, off, none⟩) n c
  e4 : L 4 = true → V 11 = .pointer (some ⟨ga, 0, none⟩)
  e5 : L 5 = true → V 12 = .int .i64 (f : Nat)
  e6 : L 6 = true → V 13 = .pointer (some ⟨b, off + f, none⟩)
  e7 : L 7 = true → V 14 = .int .i64 rf

structure EvB (W0 : World) (ga b off n c f t : Nat) (k rt : Int) (L : Nat → Bool) (V : Nat → Value) (w : World) : Prop where
  p : Below W0.heap.size W0 w
  ox : L 2 = true → L 9 = false → ∃ zn, zn ≤ 3 ∧ WIs w (V 19) k zn
  oy : L 8 = true → L 9 = false → ∃ zn, zn ≤ 3 ∧ WIs w (V 25) rt zn
  zt : L 9 = true → L 11 = false → ∃ zs zA zc zk, V 26 = .agg #[.bool zs, .slice zA zk zc] ∧ WIs w (.agg #[.bool zs, .slice zA zk zc]) (k * rt) zk ∧ ∀ zg, L 10 = true → V 6 = .pointer (some ⟨zg, 0, none⟩) → ∀ zu zu', WIs ((w.setCell ⟨zg, 0, none⟩ zu).setCell ⟨zg, 1, none⟩ zu') (.agg #[.bool zs, .slice zA zk zc]) (k * rt) zk
  zb : L 10 = true → L 11 = false → ∃ zg, V 6 = .pointer (some ⟨zg, 0, none⟩) ∧ W0.heap.size ≤ zg ∧ Blk w zg 55 #[.bool false, .slice none 0 0]
  zf : L 11 = true → ∃ zg zs zA zc zk, V 6 = .pointer (some ⟨zg, 0, none⟩) ∧ W0.heap.size ≤ zg ∧ Blk w zg 55 #[.bool zs, .slice zA zk zc] ∧ WIs w (.agg #[.bool zs, .slice zA zk zc]) (k * rt) zk
  e0 : L 0 = true → V 17 = .pointer (some ⟨ga, 3, none⟩)
  e1 : L 1 = true → V 18 = .int .i64 k
  e3 : L 3 = true → V 20 = .slice (some ⟨b, off, none⟩) n c
  e4 : L 4 = true → V 21 = .pointer (some ⟨ga, 1, none⟩)
  e5 : L 5 = true → V 22 = .int .i64 (t : Nat)
  e6 : L 6 = true → V 23 = .pointer (some ⟨b, off + t, none⟩)
  e7 : L 7 = true → V 24 = .int .i64 rt

set_option maxRecDepth 100000 in
set_option maxHeartbeats 4000000 in
theorem even_any (f t : Nat) (g k s : Int) (rs : List Int) (A : Option Addr) (n c : Nat) (w : World) (hn : rs.length = n) (hx : AllFit rs) (hr : Rd w w.heap.size A (cellsI rs)) (hf : f < n) (ht : t < n) (hg : fits g) (hk : fits k) :
    Calls Tryd.prog 19 #[.agg #[.int .i64 (f : Nat), .int .i64 (t : Nat), .int .i64 g, .int .i64 k, .int .i64 s], .slice A n c] w fun e w' => e = .returned (.bool (decide (g * rs.getD f 0 = k * rs.getD t 0))) ∧ Below w.heap.size w w' := by
  obtain ⟨b, off, rf, rfl, hbw, frf, xf, -, gf⟩ := hr.at_ hx (k := f) (by omega)
  obtain ⟨b', off', rt, hA', -, frt, xt, -, gt⟩ := hr.at_ hx (k := t) (by omega)
  obtain ⟨rfl, rfl⟩ : b = b' ∧ off = off' := by injection hA' with h; injection h with h h'; exact ⟨h, h'⟩
  rw [List.getD_eq_getElem?_getD, List.getD_eq_getElem?_getD, gf.out, gt.out]
  simp only [Option.getD_some]
  have Xf := Lib.hid xf
  have Xt := Lib.hid xt
  obtain ⟨r, hre⟩ : ∃ r, decide (g * rf = k * rt) = r := ⟨_, rfl⟩
  rw [hre]
  have hre := Lib.hid hre
  have hf0 : (0 : Int) ≤ (f : Int) := by omega
  have hf1 : (f : Int) < (n : Int) := by omega
  have ht0 : (0 : Int) ≤ (t : Int) := by omega
  have ht1 : (t : Int) < (n : Int) := by omega
  clear hr hx hn xf xt gf gt hA'
  have bb := Below.refl w.heap.size w
  have ka := Blk.new w (w.heap.size) (by simp) 46 #[.int .i64 (f : Nat), .int .i64 (t : Nat), .int .i64 g, .int .i64 k, .int .i64 s]
  have bb := bb.alloc bb.size (.cells #[.int .i64 (f : Nat), .int .i64 (t : Nat), .int .i64 g, .int .i64 k, .int .i64 s] 46)
  have ca0 := ka.cell 0
  have ca1 := ka.cell 1
  have ca2 := ka.cell 2
  have ca3 := ka.cell 3
  have ca4 := ka.cell 4
  simp only [List.getElem?_toArray, List.getElem?_cons_zero, List.getElem?_cons_succ] at ca0 ca1 ca2 ca3 ca4
  go_enter Tryd.func19, Tryd.ntmps19
  go_wp2_with fail
  clear ca0 ca1 ca2 ca3 ca4
  obtain ⟨W1, hnm⟩ : ∃ W, (w.alloc (.cells #[.int .i64 (f : Nat), .int .i64 (t : Nat), .int .i64 g, .int .i64 k, .int .i64 s] 46)) = W := ⟨_, rfl⟩
  rw [hnm] at ka bb
  try rw [hnm]
  clear hnm
  obtain ⟨ga, hnm⟩ : ∃ g, w.heap.size = g := ⟨_, rfl⟩
  rw [hnm] at ka
  try rw [hnm]
  clear hnm
  have xr := bb.cell (p := ⟨b, off + f, none⟩) hbw
  rw [Xf.out] at xr
  have hbW : b < W1.heap.size := Nat.lt_of_lt_of_le hbw bb.size
  have XR := Lib.hid xr
  clear xr
  have La := ka.lt
  have Ka := Lib.hid ka
  clear ka
  have BB := Lib.hid bb
  clear bb
  have hIR : ∀ V, EvA W1 ga b off n c f t g rf (fun _ => false) V W1.drew := fun V => by
    have h0 : Below W1.heap.size W1 W1.drew := Drawn.below _ ((Drawn.refl W1).drewN 1)
    constructor
    all_goals first
      | exact h0
      | (intro h; cases h)
  refine wp_region_put3 [5, 7, 8, 9, 10, 11, 12, 13, 14, 15, 16] (EvA W1 ga b off n c f t g rf) (by kernel_rfl) (by kernel_rfl) ?_ ?_ ?_
  · exact hIR _
  · intro i o ho L V w1 hi hL hno h K hK
    rcases i with _ | _ | _ | _ | _ | _ | _ | _ | _ | _ | _ | _ | i
    · replace ho := Option.some.inj ho
      subst ho
      simp only [putAll, List.foldl_cons, List.foldl_nil, List.setIfInBounds_toArray, List.set_cons_zero, List.set_cons_succ]
      clear hL hno
      go_simp
      refine hK (updV V 7 (.pointer (some ⟨ga, 2, none⟩))) _ _ (by simp [putAll, updV]) ?_
      exact { h with e0 := fun _ => rfl }
    · replace ho := Option.some.inj ho
      subst ho
      simp only [putAll, List.foldl_cons, List.foldl_nil, List.setIfInBounds_toArray, List.set_cons_zero, List.set_cons_succ]
      have e0 : V 7 = _ := h.e0 (hL ⟨0, .data⟩ (by simp) rfl)
      have ct := (Ka.out.lowr h.p La).cell 2
      simp only [List.getElem?_toArray, List.getElem?_cons_zero, List.getElem?_cons_succ] at ct
      clear hL hno
      go_simp
      refine hK (updV V 8 (.int .i64 g)) _ _ (by simp [putAll, updV, e0]) ?_
      exact { h with e1 := fun _ => rfl }
    · replace ho := Option.some.inj ho
      subst ho
      have e1 : V 8 = _ := h.e1 (hL ⟨1, .data⟩ (by simp) rfl)
      have lT : L 9 = false := hno 9 (by kernel_rfl)
      have lS : L 11 = false := hno 11 (by kernel_rfl)
      clear hL hno
      simp only [putAll, List.foldl_cons, List.foldl_nil, List.setIfInBounds_toArray, List.set_cons_zero, List.set_cons_succ]
      go_simp
      refine (of_any g w1 (by assumption)).mono ?_
      intro e w3 hof
      refine Exists.elim hof fun zv hq => Exists.elim hq fun zn hq2 => ?_
      have he := hq2.1
      have hv := hq2.2.1
      have hn := hq2.2.2.1
      have hb3 := hq2.2.2.2
      clear hof hq hq2
      subst he
      refine hK (updV V 9 zv) _ _ (by simp [putAll, updV, e1]) ?_
      exact { h with
        p := h.p.trans (hb3.mono h.p.size)
        ox := fun _ _ => ⟨zn, hn, hv⟩
        oy := fun h1 h2 => by obtain ⟨m, hm, hw⟩ := h.oy h1 h2; exact ⟨m, hm, hw.below hb3⟩
        zt := fun hn => (by cases (hn.symm.trans lT))
        zb := fun h1 h2 => by obtain ⟨g, q1, q2, q3⟩ := h.zb h1 h2; exact ⟨g, q1, q2, q3.kept hb3⟩
        zf := fun hn => (by cases (hn.symm.trans lS)) }
    · replace ho := Option.some.inj ho
      subst ho
      simp only [putAll, List.foldl_cons, List.foldl_nil, List.setIfInBounds_toArray, List.set_cons_zero, List.set_cons_succ]
      clear hL hno
      go_simp
      refine hK (updV V 10 (.slice (some ⟨b, off, none⟩) n c)) _ _ (by simp [putAll, updV]) ?_
      exact { h with e3 := fun _ => rfl }
    · replace ho := Option.some.inj ho
      subst ho
      simp only [putAll, List.foldl_cons, List.foldl_nil, List.setIfInBounds_toArray, List.set_cons_zero, List.set_cons_succ]
      clear hL hno
      go_simp
      refine hK (updV V 11 (.pointer (some ⟨ga, 0, none⟩))) _ _ (by simp [putAll, updV]) ?_
      exact { h with e4 := fun _ => rfl }
    · replace ho := Option.some.inj ho
      subst ho
      simp only [putAll, List.foldl_cons, List.foldl_nil, List.setIfInBounds_toArray, List.set_cons_zero, List.set_cons_succ]
      have e4 : V 11 = _ := h.e4 (hL ⟨4, .data⟩ (by simp) rfl)
      have ct := (Ka.out.lowr h.p La).cell 0
      simp only [List.getElem?_toArray, List.getElem?_cons_zero] at ct
      clear hL hno
      go_simp
      refine hK (updV V 12 (.int .i64 (f : Nat))) _ _ (by simp [putAll, updV, e4]) ?_
      exact { h with e5 := fun _ => rfl }
    · replace ho := Option.some.inj ho
      subst ho
      simp only [putAll, List.foldl_cons, List.foldl_nil, List.setIfInBounds_toArray, List.set_cons_zero, List.set_cons_succ]
      have e3 : V 10 = _ := h.e3 (hL ⟨3, .data⟩ (by simp) rfl)
      have e5 : V 12 = _ := h.e5 (hL ⟨5, .data⟩ (by simp) rfl)
      clear hL hno
      go_simp
      refine hK (updV V 13 (.pointer (some ⟨b, off + f, none⟩))) _ _ (by simp [putAll, updV, e3, e5]) ?_
      exact { h with e6 := fun _ => rfl }
    · replace ho := Option.some.inj ho
      subst ho
      simp only [putAll, List.foldl_cons, List.foldl_nil, List.setIfInBounds_toArray, List.set_cons_zero, List.set_cons_succ]
      have e6 : V 13 = _ := h.e6 (hL ⟨6, .data⟩ (by simp) rfl)
      have ct := (h.p.cell (p := ⟨b, off + f, none⟩) hbW).trans XR.out
      clear hL hno
      go_simp
      refine hK (updV V 14 (.int .i64 rf)) _ _ (by simp [putAll, updV, e6]) ?_
      exact { h with e7 := fun _ => rfl }
    · replace ho := Option.some.inj ho
      subst ho
      have e7 : V 14 = _ := h.e7 (hL ⟨7, .data⟩ (by simp) rfl)
      have lT : L 9 = false := hno 9 (by kernel_rfl)
      have lS : L 11 = false := hno 11 (by kernel_rfl)
      clear hL hno
      simp only [putAll, List.foldl_cons, List.foldl_nil, List.setIfInBounds_toArray, List.set_cons_zero, List.set_cons_succ]
      go_simp
      refine (of_any rf w1 (by assumption)).mono ?_
      intro e w3 hof
      refine Exists.elim hof fun zv hq => Exists.elim hq fun zn hq2 => ?_
      have he := hq2.1
      have hv := hq2.2.1
      have hn := hq2.2.2.1
      have hb3 := hq2.2.2.2
      clear hof hq hq2
      subst he
      refine hK (updV V 15 zv) _ _ (by simp [putAll, updV, e7]) ?_
      exact { h with
        p := h.p.trans (hb3.mono h.p.size)
        oy := fun _ _ => ⟨zn, hn, hv⟩
        ox := fun h1 h2 => by obtain ⟨m, hm, hw⟩ := h.ox h1 h2; exact ⟨m, hm, hw.below hb3⟩
        zt := fun hn => (by cases (hn.symm.trans lT))
        zb := fun h1 h2 => by obtain ⟨g, q1, q2, q3⟩ := h.zb h1 h2; exact ⟨g, q1, q2, q3.kept hb3⟩
        zf := fun hn => (by cases (hn.symm.trans lS)) }
    · replace ho := Option.some.inj ho
      subst ho
      have t1 : L 2 = true := hL ⟨2, .data⟩ (by simp) rfl
      have t2 : L 8 = true := hL ⟨8, .data⟩ (by simp) rfl
      have lT : L 9 = false := hi
      have lS : L 11 = false := hno 11 (by kernel_rfl)
      clear hL hno
      simp only [putAll, List.foldl_cons, List.foldl_nil, List.setIfInBounds_toArray, List.set_cons_zero, List.set_cons_succ]
      refine Exists.elim (h.ox t1 lT) fun zn hq => Exists.elim (h.oy t2 lT) fun zm hr => ?_
      have hn := hq.1
      have hv := hq.2
      have hm := hr.1
      have hw := hr.2
      clear hq hr
      go_simp
      refine (times_any (V 9) (V 15) g rf zn zm w1 hv hw (by omega) (by omega)).mono ?_
      intro e w3 hmk
      refine makes_elim hmk fun zs zA zc zk he hv3 hnew hb3 => ?_
      clear hmk
      subst he
      refine hK (updV V 16 (.agg #[.bool zs, .slice zA zk zc])) _ _ (by simp [putAll, updV]) ?_
      exact { h with
        p := h.p.trans (hb3.mono h.p.size)
        ox := fun _ hn => (by cases hn)
        oy := fun _ hn => (by cases hn)
        zt := fun _ _ => ⟨zs, zA, zc, zk, rfl, hv3, fun zg hA hg zu zu' => by
          obtain ⟨g', q1, q2, q3⟩ := h.zb hA lS
          have hgg : zg = g' := box_inj (hg.symm.trans q1)
          subst hgg
          exact hv3.stored (fun ad had => by have := hnew ad had; have := q3.lt; omega) zu zu'⟩
        zb := fun h1 h2 => by obtain ⟨g, q1, q2, q3⟩ := h.zb h1 h2; exact ⟨g, q1, q2, q3.kept hb3⟩
        zf := fun hn => (by cases (hn.symm.trans lS)) }
    · replace ho := Option.some.inj ho
      subst ho
      have lS : L 11 = false := hno 11 (by kernel_rfl)
      clear hL hno
      simp only [putAll, List.foldl_cons, List.foldl_nil, List.setIfInBounds_toArray, List.set_cons_zero, List.set_cons_succ]
      have hb := (Below.refl w1.heap.size w1).alloc (Nat.le_refl _) (.cells #[.bool false, .slice none 0 0] 55)
      have hnew := Blk.new w1 _ rfl 55 #[.bool false, .slice none 0 0]
      go_simp
      refine hK (updV V 5 (.pointer (some ⟨w1.heap.size, 0, none⟩))) _ _ (by simp [putAll, updV]) ?_
      exact { h with
        p := h.p.trans (hb.mono h.p.size)
        ox := fun h1 h2 => by obtain ⟨m, hm, hw⟩ := h.ox h1 h2; exact ⟨m, hm, hw.below hb⟩
        oy := fun h1 h2 => by obtain ⟨m, hm, hw⟩ := h.oy h1 h2; exact ⟨m, hm, hw.below hb⟩
        zt := fun h1 h2 => by
          obtain ⟨s, A, c, k, q1, q2, _⟩ := h.zt h1 h2
          refine ⟨s, A, c, k, q1, q2.below hb, fun g _ hg u u' => ?_⟩
          have hgg : w1.heap.size = g := box_inj hg
          subst hgg
          exact q2.below ((hb.setCell (Nat.le_refl _) u).setCell (Nat.le_refl _) u')
        zb := fun _ _ => ⟨_, rfl, h.p.size, hnew⟩
        zf := fun hn => (by cases (hn.symm.trans lS)) }
    · replace ho := Option.some.inj ho
      subst ho
      have t1 : L 9 = true := hL ⟨9, .data⟩ (by simp) rfl
      have t2 : L 10 = true := hL ⟨10, .data⟩ (by simp) rfl
      have t3 : L 11 = false := hi
      clear hL hno
      simp only [putAll, List.foldl_cons, List.foldl_nil, List.setIfInBounds_toArray, List.set_cons_zero, List.set_cons_succ]
      refine Exists.elim (h.zb t2 t3) fun zg hq => ?_
      have q1 := hq.1
      have q2 := hq.2.1
      have q3 := hq.2.2
      clear hq
      refine Exists.elim (h.zt t1 t3) fun zs hs => Exists.elim hs fun zA ha => Exists.elim ha fun zc hc => Exists.elim hc fun zk hk => ?_
      have r1 := hk.1
      have r2 := hk.2.2 zg t2 q1 (.bool zs) (.slice zA zk zc)
      clear hs ha hc hk
      have f0 := q3.cell 0
      have f1 := q3.cell 1
      have z0 := q3.frozen 0
      have z1 := q3.frozen 1
      simp only [List.getElem?_toArray, List.getElem?_cons_zero, List.getElem?_cons_succ] at f0 f1
      have kb := (q3.set 0 (.bool zs)).set 1 (.slice zA zk zc)
      have bb := (h.p.setCell (p := ⟨zg, 0, none⟩) q2 (.bool zs)).setCell (p := ⟨zg, 1, none⟩) q2 (.slice zA zk zc)
      simp at kb
      clear q3
      go_simp
      refine hK V _ _ (by simp [putAll, q1, r1]) ?_
      exact { h with
        p := bb
        ox := fun _ hn => (by cases (hn.symm.trans t1))
        oy := fun _ hn => (by cases (hn.symm.trans t1))
        zt := fun _ hn => (by cases hn)
        zb := fun _ hn => (by cases hn)
        zf := fun _ => ⟨zg, zs, zA, zc, zk, q1, q2, kb, r2⟩ }
    · simp at ho
  · clear hIR
    intro L V w1 hL h
    have t1 : L 11 = true := hL 11 (by simp)
    refine Exists.elim (h.zf t1) fun gp hq1 => Exists.elim hq1 fun sp hq2 => Exists.elim hq2 fun Ap hq3 => Exists.elim hq3 fun cp hq4 => Exists.elim hq4 fun mp hq5 => ?_
    have q1 := hq5.1
    have hgp := hq5.2.1
    have kpB := hq5.2.2.1
    have hwp := hq5.2.2.2
    have bp := h.p
    clear t1 hq1 hq2 hq3 hq4 hq5
    simp only [putAll, List.foldl_cons, List.foldl_nil, List.setIfInBounds_toArray, List.set_cons_zero, List.set_cons_succ, q1]
    clear h hL q1
    generalize V 7 = v7
    generalize V 8 = v8
    generalize V 9 = v9
    generalize V 10 = v10
    generalize V 11 = v11
    generalize V 12 = v12
    generalize V 13 = v13
    generalize V 14 = v14
    generalize V 15 = v15
    generalize V 16 = v16
    have ka := Ka.out.lowr bp La
    clear Ka La
    have bb := BB.out.trans (bp.mono BB.out.size)
    clear BB bp
    clear hgp
    clear XR hbW
    have ca0 := ka.cell 0
    have ca1 := ka.cell 1
    have ca2 := ka.cell 2
    have ca3 := ka.cell 3
    have ca4 := ka.cell 4
    have cpB0 := kpB.cell 0
    have cpB1 := kpB.cell 1
    simp only [List.getElem?_toArray, List.getElem?_cons_zero, List.getElem?_cons_succ] at ca0 ca1 ca2 ca3 ca4 cpB0 cpB1
    go_wp2_with fail
    clear ca0 ca1 ca2 ca3 ca4 cpB0 cpB1
    have xr := bb.cell (p := ⟨b, off + t, none⟩) hbw
    rw [Xt.out] at xr
    have hbW : b < w1.heap.size := Nat.lt_of_lt_of_le hbw bb.size
    have XR := Lib.hid xr
    clear xr
    have La := ka.lt
    have Ka := Lib.hid ka
    clear ka
    have LpB := kpB.lt
    have KpB := Lib.hid kpB
    clear kpB
    have HWp := Lib.hid hwp
    clear hwp
    have BB := Lib.hid bb
    clear bb
    have hIR : ∀ V, EvB w1 ga b off n c f t k rt (fun _ => false) V w1.drew := fun V => by
      have h0 : Below w1.heap.size w1 w1.drew := Drawn.below _ ((Drawn.refl w1).drewN 1)
      constructor
      all_goals first
        | exact h0
        | (intro h; cases h)
    refine wp_region_put3 [6, 17, 18, 19, 20, 21, 22, 23, 24, 25, 26] (EvB w1 ga b off n c f t k rt) (by kernel_rfl) (by kernel_rfl) ?_ ?_ ?_
    · exact hIR _
    · intro i o ho L V w1 hi hL hno h K hK
      rcases i with _ | _ | _ | _ | _ | _ | _ | _ | _ | _ | _ | _ | i
      · replace ho := Option.some.inj ho
        subst ho
        simp only [putAll, List.foldl_cons, List.foldl_nil, List.setIfInBounds_toArray, List.set_cons_zero, List.set_cons_succ]
        clear hL hno
        go_simp
        refine hK (updV V 17 (.pointer (some ⟨ga, 3, none⟩))) _ _ (by simp [putAll, updV]) ?_
        exact { h with e0 := fun _ => rfl }
      · replace ho := Option.some.inj ho
        subst ho
        simp only [putAll, List.foldl_cons, List.foldl_nil, List.setIfInBounds_toArray, List.set_cons_zero, List.set_cons_succ]
        have e0 : V 17 = _ := h.e0 (hL ⟨0, .data⟩ (by simp) rfl)
        have ct := (Ka.out.lowr h.p La).cell 3
        simp only [List.getElem?_toArray, List.getElem?_cons_zero, List.getElem?_cons_succ] at ct
        clear hL hno
        go_simp
        refine hK (updV V 18 (.int .i64 k)) _ _ (by simp [putAll, updV, e0]) ?_
        exact { h with e1 := fun _ => rfl }
      · replace ho := Option.some.inj ho
        subst ho
        have e1 : V 18 = _ := h.e1 (hL ⟨1, .data⟩ (by simp) rfl)
        have lT : L 9 = false := hno 9 (by kernel_rfl)
        have lS : L 11 = false := hno 11 (by kernel_rfl)
        clear hL hno
        simp only [putAll, List.foldl_cons, List.foldl_nil, List.setIfInBounds_toArray, List.set_cons_zero, List.set_cons_succ]
        go_simp
        refine (of_any k w1 (by assumption)).mono ?_
        intro e w3 hof
        refine Exists.elim hof fun zv hq => Exists.elim hq fun zn hq2 => ?_
        have he := hq2.1
        have hv := hq2.2.1
        have hn := hq2.2.2.1
        have hb3 := hq2.2.2.2
        clear hof hq hq2
        subst he
        refine hK (updV V 19 zv) _ _ (by simp [putAll, updV, e1]) ?_
        exact { h with
          p := h.p.trans (hb3.mono h.p.size)
          ox := fun _ _ => ⟨zn, hn, hv⟩
          oy := fun h1 h2 => by obtain ⟨m, hm, hw⟩ := h.oy h1 h2; exact ⟨m, hm, hw.below hb3⟩
          zt := fun hn => (by cases (hn.symm.trans lT))
          zb := fun h1 h2 => by obtain ⟨g, q1, q2, q3⟩ := h.zb h1 h2; exact ⟨g, q1, q2, q3.kept hb3⟩
          zf := fun hn => (by cases (hn.symm.trans lS)) }
      · replace ho := Option.some.inj ho
        subst ho
        simp only [putAll, List.foldl_cons, List.foldl_nil, List.setIfInBounds_toArray, List.set_cons_zero, List.set_cons_succ]
        clear hL hno
        go_simp
        refine hK (updV V 20 (.slice (some ⟨b, off, none⟩) n c)) _ _ (by simp [putAll, updV]) ?_
        exact { h with e3 := fun _ => rfl }
      · replace ho := Option.some.inj ho
        subst ho
        simp only [putAll, List.foldl_cons, List.foldl_nil, List.setIfInBounds_toArray, List.set_cons_zero, List.set_cons_succ]
        clear hL hno
        go_simp
        refine hK (updV V 21 (.pointer (some ⟨ga, 1, none⟩))) _ _ (by simp [putAll, updV]) ?_
        exact { h with e4 := fun _ => rfl }
      · replace ho := Option.some.inj ho
        subst ho
        simp only [putAll, List.foldl_cons, List.foldl_nil, List.setIfInBounds_toArray, List.set_cons_zero, List.set_cons_succ]
        have e4 : V 21 = _ := h.e4 (hL ⟨4, .data⟩ (by simp) rfl)
        have ct := (Ka.out.lowr h.p La).cell 1
        simp only [List.getElem?_toArray, List.getElem?_cons_zero, List.getElem?_cons_succ] at ct
        clear hL hno
        go_simp
        refine hK (updV V 22 (.int .i64 (t : Nat))) _ _ (by simp [putAll, updV, e4]) ?_
        exact { h with e5 := fun _ => rfl }
      · replace ho := Option.some.inj ho
        subst ho
        simp only [putAll, List.foldl_cons, List.foldl_nil, List.setIfInBounds_toArray, List.set_cons_zero, List.set_cons_succ]
        have e3 : V 20 = _ := h.e3 (hL ⟨3, .data⟩ (by simp) rfl)
        have e5 : V 22 = _ := h.e5 (hL ⟨5, .data⟩ (by simp) rfl)
        clear hL hno
        go_simp
        refine hK (updV V 23 (.pointer (some ⟨b, off + t, none⟩))) _ _ (by simp [putAll, updV, e3, e5]) ?_
        exact { h with e6 := fun _ => rfl }
      · replace ho := Option.some.inj ho
        subst ho
        simp only [putAll, List.foldl_cons, List.foldl_nil, List.setIfInBounds_toArray, List.set_cons_zero, List.set_cons_succ]
        have e6 : V 23 = _ := h.e6 (hL ⟨6, .data⟩ (by simp) rfl)
        have ct := (h.p.cell (p := ⟨b, off + t, none⟩) hbW).trans XR.out
        clear hL hno
        go_simp
        refine hK (updV V 24 (.int .i64 rt)) _ _ (by simp [putAll, updV, e6]) ?_
        exact { h with e7 := fun _ => rfl }
      · replace ho := Option.some.inj ho
        subst ho
        have e7 : V 24 = _ := h.e7 (hL ⟨7, .data⟩ (by simp) rfl)
        have lT : L 9 = false := hno 9 (by kernel_rfl)
        have lS : L 11 = false := hno 11 (by kernel_rfl)
        clear hL hno
        simp only [putAll, List.foldl_cons, List.foldl_nil, List.setIfInBounds_toArray, List.set_cons_zero, List.set_cons_succ]
        go_simp
        refine (of_any rt w1 (by assumption)).mono ?_
        intro e w3 hof
        refine Exists.elim hof fun zv hq => Exists.elim hq fun zn hq2 => ?_
        have he := hq2.1
        have hv := hq2.2.1
        have hn := hq2.2.2.1
        have hb3 := hq2.2.2.2
        clear hof hq hq2
        subst he
        refine hK (updV V 25 zv) _ _ (by simp [putAll, updV, e7]) ?_
        exact { h with
          p := h.p.trans (hb3.mono h.p.size)
          oy := fun _ _ => ⟨zn, hn, hv⟩
          ox := fun h1 h2 => by obtain ⟨m, hm, hw⟩ := h.ox h1 h2; exact ⟨m, hm, hw.below hb3⟩
          zt := fun hn => (by cases (hn.symm.trans lT))
          zb := fun h1 h2 => by obtain ⟨g, q1, q2, q3⟩ := h.zb h1 h2; exact ⟨g, q1, q2, q3.kept hb3⟩
          zf := fun hn => (by cases (hn.symm.trans lS)) }
      · replace ho := Option.some.inj ho
        subst ho
        have t1 : L 2 = true := hL ⟨2, .data⟩ (by simp) rfl
        have t2 : L 8 = true := hL ⟨8, .data⟩ (by simp) rfl
        have lT : L 9 = false := hi
        have lS : L 11 = false := hno 11 (by kernel_rfl)
        clear hL hno
        simp only [putAll, List.foldl_cons, List.foldl_nil, List.setIfInBounds_toArray, List.set_cons_zero, List.set_cons_succ]
        refine Exists.elim (h.ox t1 lT) fun zn hq => Exists.elim (h.oy t2 lT) fun zm hr => ?_
        have hn := hq.1
        have hv := hq.2
        have hm := hr.1
        have hw := hr.2
        clear hq hr
        go_simp
        refine (times_any (V 19) (V 25) k rt zn zm w1 hv hw (by omega) (by omega)).mono ?_
        intro e w3 hmk
        refine makes_elim hmk fun zs zA zc zk he hv3 hnew hb3 => ?_
        clear hmk
        subst he
        refine hK (updV V 26 (.agg #[.bool zs, .slice zA zk zc])) _ _ (by simp [putAll, updV]) ?_
        exact { h with
          p := h.p.trans (hb3.mono h.p.size)
          ox := fun _ hn => (by cases hn)
          oy := fun _ hn => (by cases hn)
          zt := fun _ _ => ⟨zs, zA, zc, zk, rfl, hv3, fun zg hA hg zu zu' => by
            obtain ⟨g', q1, q2, q3⟩ := h.zb hA lS
            have hgg : zg = g' := box_inj (hg.symm.trans q1)
            subst hgg
            exact hv3.stored (fun ad had => by have := hnew ad had; have := q3.lt; omega) zu zu'⟩
          zb := fun h1 h2 => by obtain ⟨g, q1, q2, q3⟩ := h.zb h1 h2; exact ⟨g, q1, q2, q3.kept hb3⟩
          zf := fun hn => (by cases (hn.symm.trans lS)) }
      · replace ho := Option.some.inj ho
        subst ho
        have lS : L 11 = false := hno 11 (by kernel_rfl)
        clear hL hno
        simp only [putAll, List.foldl_cons, List.foldl_nil, List.setIfInBounds_toArray, List.set_cons_zero, List.set_cons_succ]
        have hb := (Below.refl w1.heap.size w1).alloc (Nat.le_refl _) (.cells #[.bool false, .slice none 0 0] 55)
        have hnew := Blk.new w1 _ rfl 55 #[.bool false, .slice none 0 0]
        go_simp
        refine hK (updV V 6 (.pointer (some ⟨w1.heap.size, 0, none⟩))) _ _ (by simp [putAll, updV]) ?_
        exact { h with
          p := h.p.trans (hb.mono h.p.size)
          ox := fun h1 h2 => by obtain ⟨m, hm, hw⟩ := h.ox h1 h2; exact ⟨m, hm, hw.below hb⟩
          oy := fun h1 h2 => by obtain ⟨m, hm, hw⟩ := h.oy h1 h2; exact ⟨m, hm, hw.below hb⟩
          zt := fun h1 h2 => by
            obtain ⟨s, A, c, k, q1, q2, _⟩ := h.zt h1 h2
            refine ⟨s, A, c, k, q1, q2.below hb, fun g _ hg u u' => ?_⟩
            have hgg : w1.heap.size = g := box_inj hg
            subst hgg
            exact q2.below ((hb.setCell (Nat.le_refl _) u).setCell (Nat.le_refl _) u')
          zb := fun _ _ => ⟨_, rfl, h.p.size, hnew⟩
          zf := fun hn => (by cases (hn.symm.trans lS)) }
      · replace ho := Option.some.inj ho
        subst ho
        have t1 : L 9 = true := hL ⟨9, .data⟩ (by simp) rfl
        have t2 : L 10 = true := hL ⟨10, .data⟩ (by simp) rfl
        have t3 : L 11 = false := hi
        clear hL hno
        simp only [putAll, List.foldl_cons, List.foldl_nil, List.setIfInBounds_toArray, List.set_cons_zero, List.set_cons_succ]
        refine Exists.elim (h.zb t2 t3) fun zg hq => ?_
        have q1 := hq.1
        have q2 := hq.2.1
        have q3 := hq.2.2
        clear hq
        refine Exists.elim (h.zt t1 t3) fun zs hs => Exists.elim hs fun zA ha => Exists.elim ha fun zc hc => Exists.elim hc fun zk hk => ?_
        have r1 := hk.1
        have r2 := hk.2.2 zg t2 q1 (.bool zs) (.slice zA zk zc)
        clear hs ha hc hk
        have f0 := q3.cell 0
        have f1 := q3.cell 1
        have z0 := q3.frozen 0
        have z1 := q3.frozen 1
        simp only [List.getElem?_toArray, List.getElem?_cons_zero, List.getElem?_cons_succ] at f0 f1
        have kb := (q3.set 0 (.bool zs)).set 1 (.slice zA zk zc)
        have bb := (h.p.setCell (p := ⟨zg, 0, none⟩) q2 (.bool zs)).setCell (p := ⟨zg, 1, none⟩) q2 (.slice zA zk zc)
        simp at kb
        clear q3
        go_simp
        refine hK V _ _ (by simp [putAll, q1, r1]) ?_
        exact { h with
          p := bb
          ox := fun _ hn => (by cases (hn.symm.trans t1))
          oy := fun _ hn => (by cases (hn.symm.trans t1))
          zt := fun _ hn => (by cases hn)
          zb := fun _ hn => (by cases hn)
          zf := fun _ => ⟨zg, zs, zA, zc, zk, q1, q2, kb, r2⟩ }
      · simp at ho
    · clear hIR
      intro L V w2 hL h
      have t1 : L 11 = true := hL 11 (by simp)
      refine Exists.elim (h.zf t1) fun gq hq1 => Exists.elim hq1 fun sq hq2 => Exists.elim hq2 fun Aq hq3 => Exists.elim hq3 fun cq hq4 => Exists.elim hq4 fun mq hq5 => ?_
      have q1 := hq5.1
      have hgq := hq5.2.1
      have kqB := hq5.2.2.1
      have hwq := hq5.2.2.2
      have bp := h.p
      clear t1 hq1 hq2 hq3 hq4 hq5
      simp only [putAll, List.foldl_cons, List.foldl_nil, List.setIfInBounds_toArray, List.set_cons_zero, List.set_cons_succ, q1]
      clear h hL q1
      generalize V 17 = v17
      generalize V 18 = v18
      generalize V 19 = v19
      generalize V 20 = v20
      generalize V 21 = v21
      generalize V 22 = v22
      generalize V 23 = v23
      generalize V 24 = v24
      generalize V 25 = v25
      generalize V 26 = v26
      have ka := Ka.out.lowr bp La
      clear Ka La
      have kpB := KpB.out.lowr bp LpB
      clear KpB LpB
      have hwp := HWp.out.below bp
      clear HWp
      have bb := BB.out.trans (bp.mono BB.out.size)
      clear BB bp
      clear hgq
      clear XR hbW
      have ca0 := ka.cell 0
      have ca1 := ka.cell 1
      have ca2 := ka.cell 2
      have ca3 := ka.cell 3
      have ca4 := ka.cell 4
      have cpB0 := kpB.cell 0
      have cpB1 := kpB.cell 1
      have cqB0 := kqB.cell 0
      have cqB1 := kqB.cell 1
      simp only [List.getElem?_toArray, List.getElem?_cons_zero, List.getElem?_cons_succ] at ca0 ca1 ca2 ca3 ca4 cpB0 cpB1 cqB0 cqB1
      go_wp2_with fail
      refine (cmp_any _ _ _ _ _ _ _ hwp hwq).mono ?_
      obtain ⟨o, ho⟩ : ∃ o, cmpI (g * rf) (k * rt) = o := ⟨_, rfl⟩
      rw [ho]
      have HO := Lib.hid ho
      clear ho
      rintro e w9 ⟨rfl, hb9⟩
      clear ca0 ca1 ca2 ca3 ca4 cpB0 cpB1 cqB0 cqB1
      have bb := bb.trans (hb9.mono bb.size)
      clear hb9 hwp hwq kpB kqB ka
      go_wp2_with fail
      go_ret
      refine ⟨?_, bb⟩
      rw [← HO.out, ← hre.out, cmpI_zero]
      rfl
end Go.Proofs.YtkheoaleamolcaaDoor
