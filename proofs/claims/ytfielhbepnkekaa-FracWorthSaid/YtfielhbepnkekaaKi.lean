/-
  The references' Inv and Cmp of fractions.
-/
import Derived.Test.YtfielhbepnkekaaKg
import Derived.Test.YtfielhbepnkekaaWk
namespace Go.Proofs.Ytfielhbepnkekaa
open Go.RowKit

theorem box_inj {g g' : Nat} (h : Value.pointer (some (⟨g, 0, none⟩ : Addr)) = .pointer (some ⟨g', 0, none⟩)) : g = g' := by injection h with h; injection h with h; injection h
theorem makes_elim {w : World} {z : Int} {e : Ending} {w' : World} (h : Makes w z e w') {C : Prop} (f : ∀ s A c k, e = .returned (.agg #[.bool s, .slice A k c]) → WIs w' (.agg #[.bool s, .slice A k c]) z k → (∀ ad, A = some ad → w.heap.size ≤ ad.block) → Below w.heap.size w w' → C) : C := by
  obtain ⟨v, k, he, hv, hn, hb⟩ := h
  have hv' := hv
  obtain ⟨s, A, c, ds, rfl, _⟩ := hv'
  exact f s A c k he hv hn.to hb
theorem Rd.stored {w : World} {B g : Nat} {A : Option Addr} {cs : List Value} (h : Rd w B A cs) (hn : ∀ ad, A = some ad → ad.block ≠ g) (i : Nat) (u : Value) : Rd (w.setCell ⟨g, i, none⟩ u) B A cs := by
  rcases h with h | ⟨b, off, ha, hb, hc⟩
  · exact .inl h
  · refine .inr ⟨b, off, ha, hb, fun j v hv => ?_⟩
    have := hn _ ha
    rw [World.cell?_setCell_other _ _ _ _ (by intro e; have e2 := congrArg Addr.block e; simp only at e2; exact this e2.symm)]
    exact hc j v hv
theorem WIs.stored {w : World} {g k c : Nat} {s : Bool} {A : Option Addr} {z : Int} (h : WIs w (.agg #[.bool s, .slice A k c]) z k) (hn : ∀ ad, A = some ad → ad.block ≠ g) (u u' : Value) :
    WIs ((w.setCell ⟨g, 0, none⟩ u).setCell ⟨g, 1, none⟩ u') (.agg #[.bool s, .slice A k c]) z k := by
  obtain ⟨s', A', c', ds, h1, h2, h3, h4, h5, h6, h7, h8⟩ := h
  injection h1 with h1
  simp at h1
  obtain ⟨rfl, rfl, rfl⟩ := h1
  refine ⟨s, A, c, ds, rfl, h2, h3, h4, h5, ?_, h7, h8⟩
  have := (h6.stored hn 0 u).stored hn 1 u'
  simpa using this

set_option maxHeartbeats 1000000 in
theorem refInv_any (f : Fr) (w : World) (hf : f.fit) :
    Calls Try.prog 25 #[.agg #[.int .i64 f.n, .int .i64 f.d]] w fun e w' => e = .returned (.tuple #[.agg #[.int .i64 (invR f).1.n, .int .i64 (invR f).1.d], .int .i64 (invR f).2]) ∧ Below w.heap.size w w' := by
  obtain ⟨W, hW⟩ : ∃ W, (w.alloc (.cells #[.int .i64 f.n, .int .i64 f.d] 23)).alloc (.cells #[.int .i64 0, .int .i64 0] 23) = W := ⟨_, rfl⟩
  have bW : Below w.heap.size w W := by subst hW; exact ((Below.refl _ _).alloc (Nat.le_refl _) _).alloc (by simp) _
  have k0 : Blk W w.heap.size 23 #[.int .i64 f.n, .int .i64 f.d] := by subst hW; exact (Blk.new w _ rfl _ _).alloc _
  have k1 : Blk W (w.heap.size + 1) 23 #[.int .i64 0, .int .i64 0] := by subst hW; exact Blk.new _ _ (by simp) _ _
  have hWs : W.heap.size = w.heap.size + 2 := by subst hW; simp
  have f0 := k0.cell 0
  have f1 := k0.cell 1
  simp only [List.getElem?_toArray, List.getElem?_cons_zero, List.getElem?_cons_succ] at f0 f1
  have vc := refValid_of f W hf
  cases hv : f.valid with
  | false =>
    have e : invR f = (⟨0, 0⟩, 1) := by unfold invR; rw [hv]; rfl
    rw [e]
    rw [hv] at vc
    have Vc := Lib.hid vc
    clear vc hv e
    go_enter Try.func25, Try.ntmps25
    go_wp2_with fail
    try rw [hW]
    refine Vc.out.mono ?_
    rintro e w2 ⟨rfl, hb2⟩
    have a1 := k1.low hb2 (by omega)
    have b2 := bW.trans (hb2.mono (by omega))
    have g0 := a1.cell 0
    have g1 := a1.cell 1
    have z0 := a1.frozen 0
    have z1 := a1.frozen 1
    have k2 := (a1.set 0 (.int .i64 0)).set 1 (.int .i64 0)
    have c0 := k2.cell 0
    have c1 := k2.cell 1
    have bb := (b2.setCell (p := ⟨w.heap.size + 1, 0, none⟩) (by simp) (.int .i64 0)).setCell (p := ⟨w.heap.size + 1, 1, none⟩) (by simp) (.int .i64 0)
    simp at g0 g1 c0 c1
    clear k0 k1 k2 a1 hW f0 f1
    go_wp2_with fail
    exact bodyPost_ret (v := .tuple #[.agg #[.int .i64 0, .int .i64 0], .int .i64 1]) (by simp [results, Try.results25, go_sem, c0, c1]) rfl ⟨rfl, bb⟩
  | true =>
    have e : invR f = newR f.d f.n := by unfold invR; rw [hv]; rfl
    rw [e]
    rw [hv] at vc
    have Vc := Lib.hid vc
    clear vc hv e
    have Nc := Lib.hid (fun w => refNew_any f.d f.n w hf.2 hf.1)
    obtain ⟨x, hx⟩ : ∃ x, (newR f.d f.n).1.n = x := ⟨_, rfl⟩
    obtain ⟨y, hy⟩ : ∃ y, (newR f.d f.n).1.d = y := ⟨_, rfl⟩
    obtain ⟨z, hz⟩ : ∃ z, (newR f.d f.n).2 = z := ⟨_, rfl⟩
    rw [hx, hy, hz] at Nc ⊢
    clear hx hy hz
    go_enter Try.func25, Try.ntmps25
    go_wp2_with fail
    try rw [hW]
    refine Vc.out.mono ?_
    rintro e w2 ⟨rfl, hb2⟩
    have a0 := k0.low hb2 (by omega)
    have a1 := k1.low hb2 (by omega)
    have b2 := bW.trans (hb2.mono (by omega))
    have d0 := a0.cell 0
    have d1 := a0.cell 1
    simp only [List.getElem?_toArray, List.getElem?_cons_zero, List.getElem?_cons_succ] at d0 d1
    have hz2 := hb2.size
    clear k0 k1 f0 f1 hW bW hb2
    go_wp2_with fail
    refine (Nc.out _).mono ?_
    rintro e w3 ⟨rfl, hb3⟩
    have a3 := a1.low hb3 (by omega)
    have b3 := b2.trans (hb3.mono (by omega))
    have g0 := a3.cell 0
    have g1 := a3.cell 1
    have z0 := a3.frozen 0
    have z1 := a3.frozen 1
    have k2 := (a3.set 0 (.int .i64 x)).set 1 (.int .i64 y)
    have c0 := k2.cell 0
    have c1 := k2.cell 1
    have bb := (b3.setCell (p := ⟨w.heap.size + 1, 0, none⟩) (by simp) (.int .i64 x)).setCell (p := ⟨w.heap.size + 1, 1, none⟩) (by simp) (.int .i64 y)
    simp at g0 g1 c0 c1
    clear a0 a1 a3 k2 b2 hb3 d0 d1
    go_wp2_with fail
    exact bodyPost_ret (v := .tuple #[.agg #[.int .i64 x, .int .i64 y], .int .i64 z]) (by simp [results, Try.results25, go_sem, c0, c1]) rfl ⟨rfl, bb⟩

set_option maxRecDepth 100000 in
set_option maxHeartbeats 2000000 in
theorem refCmp_bad1 (an ad bn bd : Int) (w : World) (VA : Hid (∀ w, Calls Try.prog 19 #[.agg #[.int .i64 an, .int .i64 ad]] w fun e w' => e = .returned (.bool false) ∧ Below w.heap.size w w')) :
    Calls Try.prog 27 #[.agg #[.int .i64 an, .int .i64 ad], .agg #[.int .i64 bn, .int .i64 bd]] w fun e w' => e = .returned (.tuple #[.int .i64 0, .int .i64 1]) ∧ Below w.heap.size w w' := by
  obtain ⟨W, hW⟩ : ∃ W, (w.alloc (.cells #[.int .i64 an, .int .i64 ad] 23)).alloc (.cells #[.int .i64 bn, .int .i64 bd] 23) = W := ⟨_, rfl⟩
  have bW : Below w.heap.size w W := by subst hW; exact ((Below.refl _ _).alloc (Nat.le_refl _) _).alloc (by simp) _
  have k0 : Blk W w.heap.size 23 #[.int .i64 an, .int .i64 ad] := by subst hW; exact (Blk.new w _ rfl _ _).alloc _
  have k1 : Blk W (w.heap.size + 1) 23 #[.int .i64 bn, .int .i64 bd] := by subst hW; exact Blk.new _ _ (by simp) _ _
  have hWs : W.heap.size = w.heap.size + 2 := by subst hW; simp
  have f0 := k0.cell 0
  have f1 := k0.cell 1
  simp only [List.getElem?_toArray, List.getElem?_cons_zero, List.getElem?_cons_succ] at f0 f1
  go_enter Try.func27, Try.ntmps27
  go_wp2_with fail
  try rw [hW]
  refine (VA.out _).mono ?_
  rintro e w2 ⟨rfl, hb2⟩
  have b2 := bW.trans (hb2.mono (by omega))
  clear f0 f1
  go_wp2_with fail
  go_ret2
  exact ⟨rfl, b2⟩

set_option maxRecDepth 100000 in
set_option maxHeartbeats 2000000 in
theorem refCmp_bad2 (an ad bn bd : Int) (w : World) (VA : Hid (∀ w, Calls Try.prog 19 #[.agg #[.int .i64 an, .int .i64 ad]] w fun e w' => e = .returned (.bool true) ∧ Below w.heap.size w w')) (VB : Hid (∀ w, Calls Try.prog 19 #[.agg #[.int .i64 bn, .int .i64 bd]] w fun e w' => e = .returned (.bool false) ∧ Below w.heap.size w w')) :
    Calls Try.prog 27 #[.agg #[.int .i64 an, .int .i64 ad], .agg #[.int .i64 bn, .int .i64 bd]] w fun e w' => e = .returned (.tuple #[.int .i64 0, .int .i64 1]) ∧ Below w.heap.size w w' := by
  obtain ⟨W, hW⟩ : ∃ W, (w.alloc (.cells #[.int .i64 an, .int .i64 ad] 23)).alloc (.cells #[.int .i64 bn, .int .i64 bd] 23) = W := ⟨_, rfl⟩
  have bW : Below w.heap.size w W := by subst hW; exact ((Below.refl _ _).alloc (Nat.le_refl _) _).alloc (by simp) _
  have k0 : Blk W w.heap.size 23 #[.int .i64 an, .int .i64 ad] := by subst hW; exact (Blk.new w _ rfl _ _).alloc _
  have k1 : Blk W (w.heap.size + 1) 23 #[.int .i64 bn, .int .i64 bd] := by subst hW; exact Blk.new _ _ (by simp) _ _
  have hWs : W.heap.size = w.heap.size + 2 := by subst hW; simp
  have f0 := k0.cell 0
  have f1 := k0.cell 1
  simp only [List.getElem?_toArray, List.getElem?_cons_zero, List.getElem?_cons_succ] at f0 f1
  go_enter Try.func27, Try.ntmps27
  go_wp2_with fail
  try rw [hW]
  refine (VA.out _).mono ?_
  rintro e w2 ⟨rfl, hb2⟩
  have b2 := bW.trans (hb2.mono (by omega))
  have hz2 := hb2.size
  have q0 := k0.low hb2 (by omega)
  have q1 := k1.low hb2 (by omega)
  have d0 := q1.cell 0
  have d1 := q1.cell 1
  simp only [List.getElem?_toArray, List.getElem?_cons_zero, List.getElem?_cons_succ] at d0 d1
  clear k0 k1 f0 f1 hW bW hb2 VA
  go_wp2_with fail
  refine (VB.out _).mono ?_
  rintro e w3 ⟨rfl, hb3⟩
  have b3 := b2.trans (hb3.mono (by omega))
  clear d0 d1
  go_wp2_with fail
  go_ret2
  exact ⟨rfl, b3⟩

structure CmX (W0 : World) (ga gb : Nat) (an bd : Int) (L : Nat → Bool) (V : Nat → Value) (w : World) : Prop where
  p : Below W0.heap.size W0 w
  ox : L 2 = true → L 6 = false → ∃ n, n ≤ 3 ∧ WIs w (V 18) an n
  oy : L 5 = true → L 6 = false → ∃ n, n ≤ 3 ∧ WIs w (V 21) bd n
  t : L 6 = true → L 8 = false → ∃ s A c k, V 22 = .agg #[.bool s, .slice A k c] ∧ WIs w (.agg #[.bool s, .slice A k c]) (an * bd) k ∧ ∀ g, L 7 = true → V 6 = .pointer (some ⟨g, 0, none⟩) → ∀ u u', WIs ((w.setCell ⟨g, 0, none⟩ u).setCell ⟨g, 1, none⟩ u') (.agg #[.bool s, .slice A k c]) (an * bd) k
  b : L 7 = true → L 8 = false → ∃ g, V 6 = .pointer (some ⟨g, 0, none⟩) ∧ W0.heap.size ≤ g ∧ Blk w g 48 #[.bool false, .slice none 0 0]
  f : L 8 = true → ∃ g s A c k, V 6 = .pointer (some ⟨g, 0, none⟩) ∧ W0.heap.size ≤ g ∧ Blk w g 48 #[.bool s, .slice A k c] ∧ WIs w (.agg #[.bool s, .slice A k c]) (an * bd) k
  e0 : L 0 = true → V 16 = .pointer (some ⟨ga, 0, none⟩)
  e1 : L 1 = true → V 17 = .int .i64 an
  e3 : L 3 = true → V 19 = .pointer (some ⟨gb, 1, none⟩)
  e4 : L 4 = true → V 20 = .int .i64 bd

structure CmY (W0 : World) (ga gb : Nat) (bn ad : Int) (L : Nat → Bool) (V : Nat → Value) (w : World) : Prop where
  p : Below W0.heap.size W0 w
  ox : L 2 = true → L 6 = false → ∃ n, n ≤ 3 ∧ WIs w (V 25) bn n
  oy : L 5 = true → L 6 = false → ∃ n, n ≤ 3 ∧ WIs w (V 28) ad n
  t : L 6 = true → L 8 = false → ∃ s A c k, V 29 = .agg #[.bool s, .slice A k c] ∧ WIs w (.agg #[.bool s, .slice A k c]) (bn * ad) k ∧ ∀ g, L 7 = true → V 7 = .pointer (some ⟨g, 0, none⟩) → ∀ u u', WIs ((w.setCell ⟨g, 0, none⟩ u).setCell ⟨g, 1, none⟩ u') (.agg #[.bool s, .slice A k c]) (bn * ad) k
  b : L 7 = true → L 8 = false → ∃ g, V 7 = .pointer (some ⟨g, 0, none⟩) ∧ W0.heap.size ≤ g ∧ Blk w g 48 #[.bool false, .slice none 0 0]
  f : L 8 = true → ∃ g s A c k, V 7 = .pointer (some ⟨g, 0, none⟩) ∧ W0.heap.size ≤ g ∧ Blk w g 48 #[.bool s, .slice A k c] ∧ WIs w (.agg #[.bool s, .slice A k c]) (bn * ad) k
  e0 : L 0 = true → V 23 = .pointer (some ⟨gb, 0, none⟩)
  e1 : L 1 = true → V 24 = .int .i64 bn
  e3 : L 3 = true → V 26 = .pointer (some ⟨ga, 1, none⟩)
  e4 : L 4 = true → V 27 = .int .i64 ad

set_option maxRecDepth 100000 in
set_option maxHeartbeats 2000000 in
theorem refCmp_ok (an ad bn bd : Int) (w : World) (han : fits an) (had : fits ad) (hbn : fits bn) (hbd : fits bd)
    (VA : Hid (∀ w, Calls Try.prog 19 #[.agg #[.int .i64 an, .int .i64 ad]] w fun e w' => e = .returned (.bool true) ∧ Below w.heap.size w w'))
    (VB : Hid (∀ w, Calls Try.prog 19 #[.agg #[.int .i64 bn, .int .i64 bd]] w fun e w' => e = .returned (.bool true) ∧ Below w.heap.size w w')) :
    Calls Try.prog 27 #[.agg #[.int .i64 an, .int .i64 ad], .agg #[.int .i64 bn, .int .i64 bd]] w fun e w' => e = .returned (.tuple #[.int .i64 (cmpI (an * bd) (bn * ad)), .int .i64 0]) ∧ Below w.heap.size w w' := by
  obtain ⟨W, hW⟩ : ∃ W, (w.alloc (.cells #[.int .i64 an, .int .i64 ad] 23)).alloc (.cells #[.int .i64 bn, .int .i64 bd] 23) = W := ⟨_, rfl⟩
  have bW : Below w.heap.size w W := by subst hW; exact ((Below.refl _ _).alloc (Nat.le_refl _) _).alloc (by simp) _
  have k0 : Blk W w.heap.size 23 #[.int .i64 an, .int .i64 ad] := by subst hW; exact (Blk.new w _ rfl _ _).alloc _
  have k1 : Blk W (w.heap.size + 1) 23 #[.int .i64 bn, .int .i64 bd] := by subst hW; exact Blk.new _ _ (by simp) _ _
  have hWs : W.heap.size = w.heap.size + 2 := by subst hW; simp
  have f0 := k0.cell 0
  have f1 := k0.cell 1
  simp only [List.getElem?_toArray, List.getElem?_cons_zero, List.getElem?_cons_succ] at f0 f1
  go_enter Try.func27, Try.ntmps27
  go_wp2_with fail
  try rw [hW]
  refine (VA.out _).mono ?_
  rintro e w2 ⟨rfl, hb2⟩
  have b2 := bW.trans (hb2.mono (by omega))
  have hz2 := hb2.size
  have q0 := k0.low hb2 (by omega)
  have q1 := k1.low hb2 (by omega)
  have d0 := q1.cell 0
  have d1 := q1.cell 1
  simp only [List.getElem?_toArray, List.getElem?_cons_zero, List.getElem?_cons_succ] at d0 d1
  clear k0 k1 f0 f1 hW bW hb2 VA
  go_wp2_with fail
  refine (VB.out _).mono ?_
  rintro e w3 ⟨rfl, hb3⟩
  have b3 := b2.trans (hb3.mono (by omega))
  have r0 := q0.low hb3 (by omega)
  have r1 := q1.low hb3 (by omega)
  have hz3 := hb3.size
  have c0 := r0.cell 0
  have c1 := r0.cell 1
  have c2 := r1.cell 0
  have c3 := r1.cell 1
  simp only [List.getElem?_toArray, List.getElem?_cons_zero, List.getElem?_cons_succ] at c0 c1 c2 c3
  have hz4 : w.heap.size + 2 ≤ w3.heap.size := by omega
  have Ka := Lib.hid r0
  have Kb := Lib.hid r1
  have B3 := Lib.hid b3
  clear q0 q1 r0 r1 d0 d1 b2 hb3 VB hWs hz2 hz3 c0 c1 c2 c3 b3
  go_wp2_with fail
  obtain ⟨ga, hga⟩ : ∃ ga, w.heap.size = ga := ⟨_, rfl⟩
  obtain ⟨gb, hgb⟩ : ∃ gb, ga + 1 = gb := ⟨_, rfl⟩
  rw [hga] at Ka Kb hz4
  rw [hgb] at Kb
  try rw [hga]
  try rw [hgb]
  have hga3 : ga < w3.heap.size := by omega
  have hgb3 : gb < w3.heap.size := by omega
  have HGA := Lib.hid hga
  clear hga hgb hz4
  have hIA : ∀ V, CmX w3 ga gb an bd (fun _ => false) V w3.drew := fun V => by
    have h0 : Below w3.heap.size w3 w3.drew := Drawn.below _ ((Drawn.refl w3).drewN 1)
    constructor
    all_goals first
      | exact h0
      | (intro h; cases h)
  refine wp_region_put3 [6, 16, 17, 18, 19, 20, 21, 22] (CmX w3 ga gb an bd) (by kernel_rfl) (by kernel_rfl) ?_ ?_ ?_
  · exact hIA _
  · intro i o ho L V w1 hi hL hno h K hK
    rcases i with _ | _ | _ | _ | _ | _ | _ | _ | _ | i
    · replace ho := Option.some.inj ho
      subst ho
      simp only [putAll, List.foldl_cons, List.foldl_nil, List.setIfInBounds_toArray, List.set_cons_zero, List.set_cons_succ]
      clear hL hno
      go_simp
      refine hK (updV V 16 (.pointer (some ⟨ga, 0, none⟩))) _ _ (by simp [putAll, updV]) ?_
      exact { h with e0 := fun _ => rfl }
    · replace ho := Option.some.inj ho
      subst ho
      simp only [putAll, List.foldl_cons, List.foldl_nil, List.setIfInBounds_toArray, List.set_cons_zero, List.set_cons_succ]
      have e0 : V 16 = _ := h.e0 (hL ⟨0, .data⟩ (by simp) rfl)
      have ct := (Ka.out.low h.p (by omega)).cell 0
      simp only [List.getElem?_toArray, List.getElem?_cons_zero] at ct
      clear hL hno
      go_simp
      refine hK (updV V 17 (.int .i64 an)) _ _ (by simp [putAll, updV, e0]) ?_
      exact { h with e1 := fun _ => rfl }
    · replace ho := Option.some.inj ho
      subst ho
      have e1 : V 17 = _ := h.e1 (hL ⟨1, .data⟩ (by simp) rfl)
      have lT : L 6 = false := hno 6 (by kernel_rfl)
      have lS : L 8 = false := hno 8 (by kernel_rfl)
      clear hL hno
      simp only [putAll, List.foldl_cons, List.foldl_nil, List.setIfInBounds_toArray, List.set_cons_zero, List.set_cons_succ]
      go_simp
      refine (of_any an w1 (by assumption)).mono ?_
      intro e w3 hof
      refine Exists.elim hof fun v hq => Exists.elim hq fun n hq2 => ?_
      have he := hq2.1
      have hv := hq2.2.1
      have hn := hq2.2.2.1
      have hb3 := hq2.2.2.2
      clear hof hq hq2
      subst he
      refine hK (updV V 18 v) _ _ (by simp [putAll, updV, e1]) ?_
      exact { h with
        p := h.p.trans (hb3.mono h.p.size)
        ox := fun _ _ => ⟨n, hn, hv⟩
        oy := fun h1 h2 => by obtain ⟨m, hm, hw⟩ := h.oy h1 h2; exact ⟨m, hm, hw.below hb3⟩
        t := fun hn => (by cases (hn.symm.trans lT))
        b := fun h1 h2 => by obtain ⟨g, q1, q2, q3⟩ := h.b h1 h2; exact ⟨g, q1, q2, q3.kept hb3⟩
        f := fun hn => (by cases (hn.symm.trans lS)) }
    · replace ho := Option.some.inj ho
      subst ho
      simp only [putAll, List.foldl_cons, List.foldl_nil, List.setIfInBounds_toArray, List.set_cons_zero, List.set_cons_succ]
      clear hL hno
      go_simp
      refine hK (updV V 19 (.pointer (some ⟨gb, 1, none⟩))) _ _ (by simp [putAll, updV]) ?_
      exact { h with e3 := fun _ => rfl }
    · replace ho := Option.some.inj ho
      subst ho
      simp only [putAll, List.foldl_cons, List.foldl_nil, List.setIfInBounds_toArray, List.set_cons_zero, List.set_cons_succ]
      have e3 : V 19 = _ := h.e3 (hL ⟨3, .data⟩ (by simp) rfl)
      have ct := (Kb.out.low h.p (by omega)).cell 1
      simp only [List.getElem?_toArray, List.getElem?_cons_zero, List.getElem?_cons_succ] at ct
      clear hL hno
      go_simp
      refine hK (updV V 20 (.int .i64 bd)) _ _ (by simp [putAll, updV, e3]) ?_
      exact { h with e4 := fun _ => rfl }
    · replace ho := Option.some.inj ho
      subst ho
      have e4 : V 20 = _ := h.e4 (hL ⟨4, .data⟩ (by simp) rfl)
      have lT : L 6 = false := hno 6 (by kernel_rfl)
      have lS : L 8 = false := hno 8 (by kernel_rfl)
      clear hL hno
      simp only [putAll, List.foldl_cons, List.foldl_nil, List.setIfInBounds_toArray, List.set_cons_zero, List.set_cons_succ]
      go_simp
      refine (of_any bd w1 (by assumption)).mono ?_
      intro e w3 hof
      refine Exists.elim hof fun v hq => Exists.elim hq fun n hq2 => ?_
      have he := hq2.1
      have hv := hq2.2.1
      have hn := hq2.2.2.1
      have hb3 := hq2.2.2.2
      clear hof hq hq2
      subst he
      refine hK (updV V 21 v) _ _ (by simp [putAll, updV, e4]) ?_
      exact { h with
        p := h.p.trans (hb3.mono h.p.size)
        oy := fun _ _ => ⟨n, hn, hv⟩
        ox := fun h1 h2 => by obtain ⟨m, hm, hw⟩ := h.ox h1 h2; exact ⟨m, hm, hw.below hb3⟩
        t := fun hn => (by cases (hn.symm.trans lT))
        b := fun h1 h2 => by obtain ⟨g, q1, q2, q3⟩ := h.b h1 h2; exact ⟨g, q1, q2, q3.kept hb3⟩
        f := fun hn => (by cases (hn.symm.trans lS)) }
    · replace ho := Option.some.inj ho
      subst ho
      have t1 : L 2 = true := hL ⟨2, .data⟩ (by simp) rfl
      have t2 : L 5 = true := hL ⟨5, .data⟩ (by simp) rfl
      have lT : L 6 = false := hi
      have lS : L 8 = false := hno 8 (by kernel_rfl)
      clear hL hno
      simp only [putAll, List.foldl_cons, List.foldl_nil, List.setIfInBounds_toArray, List.set_cons_zero, List.set_cons_succ]
      refine Exists.elim (h.ox t1 lT) fun n hq => Exists.elim (h.oy t2 lT) fun m hr => ?_
      have hn := hq.1
      have hv := hq.2
      have hm := hr.1
      have hw := hr.2
      clear hq hr
      go_simp
      refine (times_any (V 18) (V 21) an bd n m w1 hv hw (by omega) (by omega)).mono ?_
      intro e w3 hmk
      refine makes_elim hmk fun s A c k he hv3 hnew hb3 => ?_
      clear hmk
      subst he
      refine hK (updV V 22 (.agg #[.bool s, .slice A k c])) _ _ (by simp [putAll, updV]) ?_
      exact { h with
        p := h.p.trans (hb3.mono h.p.size)
        ox := fun _ hn => (by cases hn)
        oy := fun _ hn => (by cases hn)
        t := fun _ _ => ⟨s, A, c, k, rfl, hv3, fun g hA hg u u' => by
          obtain ⟨g', q1, q2, q3⟩ := h.b hA lS
          have hgg : g = g' := box_inj (hg.symm.trans q1)
          subst hgg
          exact hv3.stored (fun ad had => by have := hnew ad had; have := q3.lt; omega) u u'⟩
        b := fun h1 h2 => by obtain ⟨g, q1, q2, q3⟩ := h.b h1 h2; exact ⟨g, q1, q2, q3.kept hb3⟩
        f := fun hn => (by cases (hn.symm.trans lS)) }
    · replace ho := Option.some.inj ho
      subst ho
      have lS : L 8 = false := hno 8 (by kernel_rfl)
      clear hL hno
      simp only [putAll, List.foldl_cons, List.foldl_nil, List.setIfInBounds_toArray, List.set_cons_zero, List.set_cons_succ]
      have hb := (Below.refl w1.heap.size w1).alloc (Nat.le_refl _) (.cells #[.bool false, .slice none 0 0] 48)
      have hnew := Blk.new w1 _ rfl 48 #[.bool false, .slice none 0 0]
      go_simp
      refine hK (updV V 6 (.pointer (some ⟨w1.heap.size, 0, none⟩))) _ _ (by simp [putAll, updV]) ?_
      exact { h with
        p := h.p.trans (hb.mono h.p.size)
        ox := fun h1 h2 => by obtain ⟨m, hm, hw⟩ := h.ox h1 h2; exact ⟨m, hm, hw.below hb⟩
        oy := fun h1 h2 => by obtain ⟨m, hm, hw⟩ := h.oy h1 h2; exact ⟨m, hm, hw.below hb⟩
        t := fun h1 h2 => by
          obtain ⟨s, A, c, k, q1, q2, _⟩ := h.t h1 h2
          refine ⟨s, A, c, k, q1, q2.below hb, fun g _ hg u u' => ?_⟩
          have hgg : w1.heap.size = g := box_inj hg
          subst hgg
          exact q2.below ((hb.setCell (Nat.le_refl _) u).setCell (Nat.le_refl _) u')
        b := fun _ _ => ⟨_, rfl, h.p.size, hnew⟩
        f := fun hn => (by cases (hn.symm.trans lS)) }
    · replace ho := Option.some.inj ho
      subst ho
      have t1 : L 6 = true := hL ⟨6, .data⟩ (by simp) rfl
      have t2 : L 7 = true := hL ⟨7, .data⟩ (by simp) rfl
      have t3 : L 8 = false := hi
      clear hL hno
      simp only [putAll, List.foldl_cons, List.foldl_nil, List.setIfInBounds_toArray, List.set_cons_zero, List.set_cons_succ]
      refine Exists.elim (h.b t2 t3) fun g hq => ?_
      have q1 := hq.1
      have q2 := hq.2.1
      have q3 := hq.2.2
      clear hq
      refine Exists.elim (h.t t1 t3) fun s hs => Exists.elim hs fun A ha => Exists.elim ha fun c hc => Exists.elim hc fun k hk => ?_
      have r1 := hk.1
      have r2 := hk.2.2 g t2 q1 (.bool s) (.slice A k c)
      clear hs ha hc hk
      have f0 := q3.cell 0
      have f1 := q3.cell 1
      have z0 := q3.frozen 0
      have z1 := q3.frozen 1
      simp only [List.getElem?_toArray, List.getElem?_cons_zero, List.getElem?_cons_succ] at f0 f1
      have kb := (q3.set 0 (.bool s)).set 1 (.slice A k c)
      have bb := (h.p.setCell (p := ⟨g, 0, none⟩) q2 (.bool s)).setCell (p := ⟨g, 1, none⟩) q2 (.slice A k c)
      simp at kb
      clear q3
      go_simp
      refine hK V _ _ (by simp [putAll, q1, r1]) ?_
      exact { h with
        p := bb
        ox := fun _ hn => (by cases (hn.symm.trans t1))
        oy := fun _ hn => (by cases (hn.symm.trans t1))
        t := fun _ hn => (by cases hn)
        b := fun _ hn => (by cases hn)
        f := fun _ => ⟨g, s, A, c, k, q1, q2, kb, r2⟩ }
    · simp at ho
  · clear hIA
    intro L V W1 hL h
    have t1 : L 8 = true := hL 8 (by simp)
    refine Exists.elim (h.f t1) fun g6 hq1 => Exists.elim hq1 fun s6 hq2 => Exists.elim hq2 fun A6 hq3 => Exists.elim hq3 fun c6 hq4 => Exists.elim hq4 fun k6 hq5 => ?_
    have q1 := hq5.1
    have hg6 := hq5.2.1
    have kb6 := hq5.2.2.1
    have wi6 := hq5.2.2.2
    have bp1 := h.p
    clear t1 hq1 hq2 hq3 hq4 hq5
    simp only [putAll, List.foldl_cons, List.foldl_nil, List.setIfInBounds_toArray, List.set_cons_zero, List.set_cons_succ, q1]
    clear h hL q1
    generalize V 16 = v16
    generalize V 17 = v17
    generalize V 18 = v18
    generalize V 19 = v19
    generalize V 20 = v20
    generalize V 21 = v21
    generalize V 22 = v22
    have La := Lib.hid (Ka.out.low bp1 (by omega))
    have Lb := Lib.hid (Kb.out.low bp1 (by omega))
    have hz1 := bp1.size
    have B1 := Lib.hid (B3.out.trans (bp1.mono B3.out.size))
    have K6 := Lib.hid kb6
    have W6 := Lib.hid wi6
    have h6 := kb6.lt
    have ha1 : ga < W1.heap.size := by omega
    have hb1 : gb < W1.heap.size := by omega
    clear kb6 wi6 bp1 Ka Kb B3 hz1 hga3 hgb3
    go_wp2_with fail
    have hIB : ∀ V, CmY W1 ga gb bn ad (fun _ => false) V W1.drew := fun V => by
      have h0 : Below W1.heap.size W1 W1.drew := Drawn.below _ ((Drawn.refl W1).drewN 1)
      constructor
      all_goals first
        | exact h0
        | (intro h; cases h)
    refine wp_region_put3 [7, 23, 24, 25, 26, 27, 28, 29] (CmY W1 ga gb bn ad) (by kernel_rfl) (by kernel_rfl) ?_ ?_ ?_
    · exact hIB _
    · intro i o ho L V w1 hi hL hno h K hK
      rcases i with _ | _ | _ | _ | _ | _ | _ | _ | _ | i
      · replace ho := Option.some.inj ho
        subst ho
        simp only [putAll, List.foldl_cons, List.foldl_nil, List.setIfInBounds_toArray, List.set_cons_zero, List.set_cons_succ]
        clear hL hno
        go_simp
        refine hK (updV V 23 (.pointer (some ⟨gb, 0, none⟩))) _ _ (by simp [putAll, updV]) ?_
        exact { h with e0 := fun _ => rfl }
      · replace ho := Option.some.inj ho
        subst ho
        simp only [putAll, List.foldl_cons, List.foldl_nil, List.setIfInBounds_toArray, List.set_cons_zero, List.set_cons_succ]
        have e0 : V 23 = _ := h.e0 (hL ⟨0, .data⟩ (by simp) rfl)
        have ct := (Lb.out.low h.p (by omega)).cell 0
        simp only [List.getElem?_toArray, List.getElem?_cons_zero] at ct
        clear hL hno
        go_simp
        refine hK (updV V 24 (.int .i64 bn)) _ _ (by simp [putAll, updV, e0]) ?_
        exact { h with e1 := fun _ => rfl }
      · replace ho := Option.some.inj ho
        subst ho
        have e1 : V 24 = _ := h.e1 (hL ⟨1, .data⟩ (by simp) rfl)
        have lT : L 6 = false := hno 6 (by kernel_rfl)
        have lS : L 8 = false := hno 8 (by kernel_rfl)
        clear hL hno
        simp only [putAll, List.foldl_cons, List.foldl_nil, List.setIfInBounds_toArray, List.set_cons_zero, List.set_cons_succ]
        go_simp
        refine (of_any bn w1 (by assumption)).mono ?_
        intro e w3 hof
        refine Exists.elim hof fun v hq => Exists.elim hq fun n hq2 => ?_
        have he := hq2.1
        have hv := hq2.2.1
        have hn := hq2.2.2.1
        have hb3 := hq2.2.2.2
        clear hof hq hq2
        subst he
        refine hK (updV V 25 v) _ _ (by simp [putAll, updV, e1]) ?_
        exact { h with
          p := h.p.trans (hb3.mono h.p.size)
          ox := fun _ _ => ⟨n, hn, hv⟩
          oy := fun h1 h2 => by obtain ⟨m, hm, hw⟩ := h.oy h1 h2; exact ⟨m, hm, hw.below hb3⟩
          t := fun hn => (by cases (hn.symm.trans lT))
          b := fun h1 h2 => by obtain ⟨g, q1, q2, q3⟩ := h.b h1 h2; exact ⟨g, q1, q2, q3.kept hb3⟩
          f := fun hn => (by cases (hn.symm.trans lS)) }
      · replace ho := Option.some.inj ho
        subst ho
        simp only [putAll, List.foldl_cons, List.foldl_nil, List.setIfInBounds_toArray, List.set_cons_zero, List.set_cons_succ]
        clear hL hno
        go_simp
        refine hK (updV V 26 (.pointer (some ⟨ga, 1, none⟩))) _ _ (by simp [putAll, updV]) ?_
        exact { h with e3 := fun _ => rfl }
      · replace ho := Option.some.inj ho
        subst ho
        simp only [putAll, List.foldl_cons, List.foldl_nil, List.setIfInBounds_toArray, List.set_cons_zero, List.set_cons_succ]
        have e3 : V 26 = _ := h.e3 (hL ⟨3, .data⟩ (by simp) rfl)
        have ct := (La.out.low h.p (by omega)).cell 1
        simp only [List.getElem?_toArray, List.getElem?_cons_zero, List.getElem?_cons_succ] at ct
        clear hL hno
        go_simp
        refine hK (updV V 27 (.int .i64 ad)) _ _ (by simp [putAll, updV, e3]) ?_
        exact { h with e4 := fun _ => rfl }
      · replace ho := Option.some.inj ho
        subst ho
        have e4 : V 27 = _ := h.e4 (hL ⟨4, .data⟩ (by simp) rfl)
        have lT : L 6 = false := hno 6 (by kernel_rfl)
        have lS : L 8 = false := hno 8 (by kernel_rfl)
        clear hL hno
        simp only [putAll, List.foldl_cons, List.foldl_nil, List.setIfInBounds_toArray, List.set_cons_zero, List.set_cons_succ]
        go_simp
        refine (of_any ad w1 (by assumption)).mono ?_
        intro e w3 hof
        refine Exists.elim hof fun v hq => Exists.elim hq fun n hq2 => ?_
        have he := hq2.1
        have hv := hq2.2.1
        have hn := hq2.2.2.1
        have hb3 := hq2.2.2.2
        clear hof hq hq2
        subst he
        refine hK (updV V 28 v) _ _ (by simp [putAll, updV, e4]) ?_
        exact { h with
          p := h.p.trans (hb3.mono h.p.size)
          oy := fun _ _ => ⟨n, hn, hv⟩
          ox := fun h1 h2 => by obtain ⟨m, hm, hw⟩ := h.ox h1 h2; exact ⟨m, hm, hw.below hb3⟩
          t := fun hn => (by cases (hn.symm.trans lT))
          b := fun h1 h2 => by obtain ⟨g, q1, q2, q3⟩ := h.b h1 h2; exact ⟨g, q1, q2, q3.kept hb3⟩
          f := fun hn => (by cases (hn.symm.trans lS)) }
      · replace ho := Option.some.inj ho
        subst ho
        have t1 : L 2 = true := hL ⟨2, .data⟩ (by simp) rfl
        have t2 : L 5 = true := hL ⟨5, .data⟩ (by simp) rfl
        have lT : L 6 = false := hi
        have lS : L 8 = false := hno 8 (by kernel_rfl)
        clear hL hno
        simp only [putAll, List.foldl_cons, List.foldl_nil, List.setIfInBounds_toArray, List.set_cons_zero, List.set_cons_succ]
        refine Exists.elim (h.ox t1 lT) fun n hq => Exists.elim (h.oy t2 lT) fun m hr => ?_
        have hn := hq.1
        have hv := hq.2
        have hm := hr.1
        have hw := hr.2
        clear hq hr
        go_simp
        refine (times_any (V 25) (V 28) bn ad n m w1 hv hw (by omega) (by omega)).mono ?_
        intro e w3 hmk
        refine makes_elim hmk fun s A c k he hv3 hnew hb3 => ?_
        clear hmk
        subst he
        refine hK (updV V 29 (.agg #[.bool s, .slice A k c])) _ _ (by simp [putAll, updV]) ?_
        exact { h with
          p := h.p.trans (hb3.mono h.p.size)
          ox := fun _ hn => (by cases hn)
          oy := fun _ hn => (by cases hn)
          t := fun _ _ => ⟨s, A, c, k, rfl, hv3, fun g hA hg u u' => by
            obtain ⟨g', q1, q2, q3⟩ := h.b hA lS
            have hgg : g = g' := box_inj (hg.symm.trans q1)
            subst hgg
            exact hv3.stored (fun ad had => by have := hnew ad had; have := q3.lt; omega) u u'⟩
          b := fun h1 h2 => by obtain ⟨g, q1, q2, q3⟩ := h.b h1 h2; exact ⟨g, q1, q2, q3.kept hb3⟩
          f := fun hn => (by cases (hn.symm.trans lS)) }
      · replace ho := Option.some.inj ho
        subst ho
        have lS : L 8 = false := hno 8 (by kernel_rfl)
        clear hL hno
        simp only [putAll, List.foldl_cons, List.foldl_nil, List.setIfInBounds_toArray, List.set_cons_zero, List.set_cons_succ]
        have hb := (Below.refl w1.heap.size w1).alloc (Nat.le_refl _) (.cells #[.bool false, .slice none 0 0] 48)
        have hnew := Blk.new w1 _ rfl 48 #[.bool false, .slice none 0 0]
        go_simp
        refine hK (updV V 7 (.pointer (some ⟨w1.heap.size, 0, none⟩))) _ _ (by simp [putAll, updV]) ?_
        exact { h with
          p := h.p.trans (hb.mono h.p.size)
          ox := fun h1 h2 => by obtain ⟨m, hm, hw⟩ := h.ox h1 h2; exact ⟨m, hm, hw.below hb⟩
          oy := fun h1 h2 => by obtain ⟨m, hm, hw⟩ := h.oy h1 h2; exact ⟨m, hm, hw.below hb⟩
          t := fun h1 h2 => by
            obtain ⟨s, A, c, k, q1, q2, _⟩ := h.t h1 h2
            refine ⟨s, A, c, k, q1, q2.below hb, fun g _ hg u u' => ?_⟩
            have hgg : w1.heap.size = g := box_inj hg
            subst hgg
            exact q2.below ((hb.setCell (Nat.le_refl _) u).setCell (Nat.le_refl _) u')
          b := fun _ _ => ⟨_, rfl, h.p.size, hnew⟩
          f := fun hn => (by cases (hn.symm.trans lS)) }
      · replace ho := Option.some.inj ho
        subst ho
        have t1 : L 6 = true := hL ⟨6, .data⟩ (by simp) rfl
        have t2 : L 7 = true := hL ⟨7, .data⟩ (by simp) rfl
        have t3 : L 8 = false := hi
        clear hL hno
        simp only [putAll, List.foldl_cons, List.foldl_nil, List.setIfInBounds_toArray, List.set_cons_zero, List.set_cons_succ]
        refine Exists.elim (h.b t2 t3) fun g hq => ?_
        have q1 := hq.1
        have q2 := hq.2.1
        have q3 := hq.2.2
        clear hq
        refine Exists.elim (h.t t1 t3) fun s hs => Exists.elim hs fun A ha => Exists.elim ha fun c hc => Exists.elim hc fun k hk => ?_
        have r1 := hk.1
        have r2 := hk.2.2 g t2 q1 (.bool s) (.slice A k c)
        clear hs ha hc hk
        have f0 := q3.cell 0
        have f1 := q3.cell 1
        have z0 := q3.frozen 0
        have z1 := q3.frozen 1
        simp only [List.getElem?_toArray, List.getElem?_cons_zero, List.getElem?_cons_succ] at f0 f1
        have kb := (q3.set 0 (.bool s)).set 1 (.slice A k c)
        have bb := (h.p.setCell (p := ⟨g, 0, none⟩) q2 (.bool s)).setCell (p := ⟨g, 1, none⟩) q2 (.slice A k c)
        simp at kb
        clear q3
        go_simp
        refine hK V _ _ (by simp [putAll, q1, r1]) ?_
        exact { h with
          p := bb
          ox := fun _ hn => (by cases (hn.symm.trans t1))
          oy := fun _ hn => (by cases (hn.symm.trans t1))
          t := fun _ hn => (by cases hn)
          b := fun _ hn => (by cases hn)
          f := fun _ => ⟨g, s, A, c, k, q1, q2, kb, r2⟩ }
      · simp at ho
    · clear hIB
      intro L V W2 hL h
      have t1 : L 8 = true := hL 8 (by simp)
      refine Exists.elim (h.f t1) fun g7 hq1 => Exists.elim hq1 fun s7 hq2 => Exists.elim hq2 fun A7 hq3 => Exists.elim hq3 fun c7 hq4 => Exists.elim hq4 fun k7 hq5 => ?_
      have q1 := hq5.1
      have hg7 := hq5.2.1
      have kb7 := hq5.2.2.1
      have wi7 := hq5.2.2.2
      have bp2 := h.p
      clear t1 hq1 hq2 hq3 hq4 hq5
      simp only [putAll, List.foldl_cons, List.foldl_nil, List.setIfInBounds_toArray, List.set_cons_zero, List.set_cons_succ, q1]
      clear h hL q1
      generalize V 23 = v23
      generalize V 24 = v24
      generalize V 25 = v25
      generalize V 26 = v26
      generalize V 27 = v27
      generalize V 28 = v28
      generalize V 29 = v29
      have k6b := K6.out.low bp2 (by omega)
      have w6b := W6.out.below bp2
      have c0 := k6b.cell 0
      have c1 := k6b.cell 1
      have c2 := kb7.cell 0
      have c3 := kb7.cell 1
      simp only [List.getElem?_toArray, List.getElem?_cons_zero, List.getElem?_cons_succ] at c0 c1 c2 c3
      have hcm := Lib.hid (cmp_any _ _ _ _ _ _ W2 w6b wi7)
      have B2 := Lib.hid (B1.out.trans (bp2.mono (by have := B1.out.size; omega)))
      clear k6b w6b kb7 wi7 bp2 La Lb B1 K6 W6
      go_wp2_with fail
      refine hcm.out.mono ?_
      rintro e w4 ⟨rfl, hb4⟩
      go_wp2_with fail
      go_ret2
      exact ⟨rfl, B2.out.trans (hb4.mono (by have := B2.out.size; omega))⟩

theorem refCmp_any (a b : Fr) (w : World) (ha : a.fit) (hb : b.fit) :
    Calls Try.prog 27 #[.agg #[.int .i64 a.n, .int .i64 a.d], .agg #[.int .i64 b.n, .int .i64 b.d]] w fun e w' => e = .returned (.tuple #[.int .i64 (cmpR a b).1, .int .i64 (cmpR a b).2]) ∧ Below w.heap.size w w' := by
  have va := Lib.hid fun w => refValid_of a w ha
  have vb := Lib.hid fun w => refValid_of b w hb
  cases hv : a.valid with
  | false =>
    have e : cmpR a b = (0, 1) := by unfold cmpR; rw [hv]; simp
    rw [e]
    rw [hv] at va
    exact refCmp_bad1 _ _ _ _ w va
  | true =>
    rw [hv] at va
    cases hvb : b.valid with
    | false =>
      have e : cmpR a b = (0, 1) := by unfold cmpR; rw [hvb]; simp
      rw [e]
      rw [hvb] at vb
      exact refCmp_bad2 _ _ _ _ w va vb
    | true =>
      rw [hvb] at vb
      have e : cmpR a b = (cmpI (a.n * b.d) (b.n * a.d), 0) := by unfold cmpR; rw [hv, hvb]; simp
      rw [e]
      exact refCmp_ok a.n a.d b.n b.d w ha.1 ha.2 hb.1 hb.2 va vb
end Go.Proofs.Ytfielhbepnkekaa
