/-
  frac.lowest: a size over a size, without what both have in common.
-/
import Derived.Test.YtblkcdenmgkddaaDoorKa
namespace Go.Proofs.YtblkcdenmgkddaaDoor
open Go.RowKit

theorem lowB {W0 w : World} {B : Nat} {b : Bool} {K : Prop} (h0 : b = false → Drawn W0 w) (h1 : b = true → Below B W0 w ∧ K) : Below B W0 w := by
  cases b with
  | false => exact (h0 rfl).below _
  | true => exact (h1 rfl).1
structure LowF (W0 : World) (hz : Bool) (a b g q r B : Nat) (L : Nat → Bool) (V : Nat → Value) (w : World) : Prop where
  p0 : L 14 = false → Drawn W0 w
  p1 : L 14 = true → Below B W0 w ∧ Blk w B 34 #[.int .i64 (sgnI false q), .int .i64 r]
  c8 : L 8 = true → sOk false q ∧ V 19 = .int .i64 (sgnI false q)
  c12 : L 12 = true → sOk false r ∧ V 23 = .int .i64 r
  e13 : L 13 = true → V 24 = .agg #[.int .i64 (sgnI false q), .int .i64 r]
  e0 : L 0 = true → V 11 = .bool false
  e1 : L 1 = true → V 12 = .bool false
  e2 : L 2 = true → V 13 = undef
  e3 : L 3 = true → V 14 = undef
  e4 : L 4 = true → V 15 = .bool false
  e5 : L 5 = true → V 16 = .int .u64 a
  e6 : L 6 = true → V 17 = .int .u64 g
  e7 : L 7 = true → V 18 = .int .u64 q
  e9 : L 9 = true → V 20 = .int .u64 b
  e10 : L 10 = true → V 21 = .int .u64 g
  e11 : L 11 = true → V 22 = .int .u64 r

set_option maxRecDepth 100000 in
set_option maxHeartbeats 4000000 in
theorem low_false (a b g q r : Nat) (hz : Bool) (w : World) (hcom : ∀ w, Calls Tryd.prog 50 #[.int .u64 a, .int .u64 b] w fun e w' => e = .returned (.int .u64 (g : Nat)) ∧ Drawn w w')
    (_haz : ((a : Int) != 0) = !hz) (hqd : (a : Int) / (g : Int) = (q : Int)) (hrd : (b : Int) / (g : Int) = (r : Int)) (hgn : ¬ g = 0) (hwq : IntKind.u64.wrap (q : Int) = q) (hwr : IntKind.u64.wrap (r : Int) = r) :
    Calls Tryd.prog 46 #[.bool false, .int .u64 a, .int .u64 b] w fun e w' => e = lowE false q r ∧ Below w.heap.size w w' := by
  have HB : Hid (Below w.heap.size w (w.alloc (.cells #[.int .i64 0, .int .i64 0] 34))) := (Below.refl _ _).alloc (Nat.le_refl _) _
  have HK0 : Hid (Blk (w.alloc (.cells #[.int .i64 0, .int .i64 0] 34)) w.heap.size 34 #[.int .i64 0, .int .i64 0]) := Blk.new w _ rfl _ _
  go_enter Tryd.func46, Tryd.ntmps46
  go_wp2_with (go_at_call 50; refine (hcom _).mono ?_; rintro e w' ⟨rfl, d, rfl⟩)
  obtain ⟨B, hB⟩ : ∃ B, w.heap.size = B := ⟨_, rfl⟩
  rw [hB] at HB HK0 ⊢
  obtain ⟨W0, hW0⟩ : ∃ W0, (w.alloc (.cells #[.int .i64 0, .int .i64 0] 34)).drewN d = W0 := ⟨_, rfl⟩
  replace HB : Hid (Below B w W0) := by subst hW0; exact below_drewN HB.out d
  have HK : Hid (Blk W0 B 34 #[.int .i64 0, .int .i64 0]) := by subst hW0; exact HK0.out
  have HBw : Hid (∀ w1, Below B W0 w1 → Below w.heap.size w w1) := fun w1 h1 => by rw [hB]; exact HB.out.trans h1
  rw [hW0]
  clear HK0 hW0 hcom
  have hI0 : ∀ V, LowF W0 hz a b g q r B (fun _ => false) V W0.drew := fun V => by
    have h0 : Drawn W0 W0.drew := (Drawn.refl W0).drewN 1
    constructor
    all_goals first
      | exact fun _ => h0
      | (intro h; cases h)
  refine wp_region_put3 [11, 12, 13, 14, 15, 16, 17, 18, 19, 20, 21, 22, 23, 24] (LowF W0 hz a b g q r B) (by kernel_rfl) (by kernel_rfl) ?_ ?_ ?_
  · exact hI0 _
  · intro i o ho L V w1 hi hL hno h K hK
    rcases i with _ | _ | _ | _ | _ | _ | _ | _ | _ | _ | _ | _ | _ | _ | _ | i
    · replace ho := Option.some.inj ho
      subst ho
      simp only [putAll, List.foldl_cons, List.foldl_nil, List.setIfInBounds_toArray, List.set_cons_zero, List.set_cons_succ]
      clear hL hno
      go_simp
      refine hK (updV V 11 (.bool false)) _ _ (by simp [putAll, updV]) ?_
      exact { h with e0 := fun _ => rfl }
    · replace ho := Option.some.inj ho
      subst ho
      simp only [putAll, List.foldl_cons, List.foldl_nil, List.setIfInBounds_toArray, List.set_cons_zero, List.set_cons_succ]
      have e0 : V 11 = _ := h.e0 (hL ⟨0, .data⟩ (by simp) rfl)
      clear hL hno
      go_simp
      refine hK (updV V 12 (.bool false)) _ _ (by simp [putAll, updV, e0]) ?_
      exact { h with e1 := fun _ => rfl }
    · replace ho := Option.some.inj ho
      subst ho
      have e1 : V 12 = _ := h.e1 (hL ⟨1, .guard⟩ (by simp) rfl)
      clear hL hno
      simp only [putAll, List.foldl_cons, List.foldl_nil, List.setIfInBounds_toArray, List.set_cons_zero, List.set_cons_succ]
      go_simp
      refine hK (updV V 13 undef) _ _ (by simp [putAll, updV, e1]) ?_
      exact { h with e2 := fun _ => rfl }
    · replace ho := Option.some.inj ho
      subst ho
      have e1 : V 12 = _ := h.e1 (hL ⟨1, .guard⟩ (by simp) rfl)
      clear hL hno
      simp only [putAll, List.foldl_cons, List.foldl_nil, List.setIfInBounds_toArray, List.set_cons_zero, List.set_cons_succ]
      go_simp
      refine hK (updV V 14 undef) _ _ (by simp [putAll, updV, e1]) ?_
      exact { h with e3 := fun _ => rfl }
    · replace ho := Option.some.inj ho
      subst ho
      simp only [putAll, List.foldl_cons, List.foldl_nil, List.setIfInBounds_toArray, List.set_cons_zero, List.set_cons_succ]
      have e1 : V 12 = _ := h.e1 (hL ⟨1, .data⟩ (by simp) rfl)
      have e3 : V 14 = _ := h.e3 (hL ⟨3, .data⟩ (by simp) rfl)
      clear hL hno
      go_simp
      refine hK (updV V 15 (.bool false)) _ _ (by simp [putAll, updV, e1, e3]) ?_
      exact { h with e4 := fun _ => rfl }
    · replace ho := Option.some.inj ho
      subst ho
      simp only [putAll, List.foldl_cons, List.foldl_nil, List.setIfInBounds_toArray, List.set_cons_zero, List.set_cons_succ]
      clear hL hno
      go_simp
      refine hK (updV V 16 (.int .u64 a)) _ _ (by simp [putAll, updV]) ?_
      exact { h with e5 := fun _ => rfl }
    · replace ho := Option.some.inj ho
      subst ho
      simp only [putAll, List.foldl_cons, List.foldl_nil, List.setIfInBounds_toArray, List.set_cons_zero, List.set_cons_succ]
      clear hL hno
      go_simp
      refine hK (updV V 17 (.int .u64 g)) _ _ (by simp [putAll, updV]) ?_
      exact { h with e6 := fun _ => rfl }
    · replace ho := Option.some.inj ho
      subst ho
      simp only [putAll, List.foldl_cons, List.foldl_nil, List.setIfInBounds_toArray, List.set_cons_zero, List.set_cons_succ]
      have e5 : V 16 = _ := h.e5 (hL ⟨5, .data⟩ (by simp) rfl)
      have e6 : V 17 = _ := h.e6 (hL ⟨6, .data⟩ (by simp) rfl)
      clear hL hno
      go_simp
      refine hK (updV V 18 (.int .u64 q)) _ _ (by simp [putAll, updV, e5, e6]) ?_
      exact { h with e7 := fun _ => rfl }
    · replace ho := Option.some.inj ho
      subst ho
      have e4 : V 15 = _ := h.e4 (hL ⟨4, .data⟩ (by simp) rfl)
      have e7 : V 18 = _ := h.e7 (hL ⟨7, .data⟩ (by simp) rfl)
      clear hL hno
      simp only [putAll, List.foldl_cons, List.foldl_nil, List.setIfInBounds_toArray, List.set_cons_zero, List.set_cons_succ]
      go_simp
      by_cases hs : sOk false q
      · refine (signed_yes false q w1 hs).mono ?_
        rintro e w3 ⟨rfl, rfl⟩
        refine hK (updV V 19 (.int .i64 (sgnI false q))) _ _ (by simp [putAll, updV, e4, e7]) ?_
        exact { h with c8 := fun _ => ⟨hs, rfl⟩ }
      · refine (signed_no false q w1 hs).mono ?_
        rintro e w3 ⟨rfl, rfl⟩
        exact ⟨rfl, (lowE_no fun hh => hs hh.1).symm, HBw.out _ (lowB h.p0 h.p1)⟩
    · replace ho := Option.some.inj ho
      subst ho
      simp only [putAll, List.foldl_cons, List.foldl_nil, List.setIfInBounds_toArray, List.set_cons_zero, List.set_cons_succ]
      clear hL hno
      go_simp
      refine hK (updV V 20 (.int .u64 b)) _ _ (by simp [putAll, updV]) ?_
      exact { h with e9 := fun _ => rfl }
    · replace ho := Option.some.inj ho
      subst ho
      simp only [putAll, List.foldl_cons, List.foldl_nil, List.setIfInBounds_toArray, List.set_cons_zero, List.set_cons_succ]
      clear hL hno
      go_simp
      refine hK (updV V 21 (.int .u64 g)) _ _ (by simp [putAll, updV]) ?_
      exact { h with e10 := fun _ => rfl }
    · replace ho := Option.some.inj ho
      subst ho
      simp only [putAll, List.foldl_cons, List.foldl_nil, List.setIfInBounds_toArray, List.set_cons_zero, List.set_cons_succ]
      have e9 : V 20 = _ := h.e9 (hL ⟨9, .data⟩ (by simp) rfl)
      have e10 : V 21 = _ := h.e10 (hL ⟨10, .data⟩ (by simp) rfl)
      clear hL hno
      go_simp
      refine hK (updV V 22 (.int .u64 r)) _ _ (by simp [putAll, updV, e9, e10]) ?_
      exact { h with e11 := fun _ => rfl }
    · replace ho := Option.some.inj ho
      subst ho
      have e11 : V 22 = _ := h.e11 (hL ⟨11, .data⟩ (by simp) rfl)
      clear hL hno
      simp only [putAll, List.foldl_cons, List.foldl_nil, List.setIfInBounds_toArray, List.set_cons_zero, List.set_cons_succ]
      go_simp
      by_cases hs : sOk false r
      · refine (signed_yes false r w1 hs).mono ?_
        rintro e w3 ⟨rfl, rfl⟩
        refine hK (updV V 23 (.int .i64 r)) _ _ (by simp [putAll, updV, e11]; rfl) ?_
        exact { h with c12 := fun _ => ⟨hs, rfl⟩ }
      · refine (signed_no false r w1 hs).mono ?_
        rintro e w3 ⟨rfl, rfl⟩
        exact ⟨rfl, (lowE_no fun hh => hs hh.2).symm, HBw.out _ (lowB h.p0 h.p1)⟩
    · replace ho := Option.some.inj ho
      subst ho
      obtain ⟨-, e8⟩ := h.c8 (hL ⟨8, .data⟩ (by simp) rfl)
      obtain ⟨-, e12⟩ := h.c12 (hL ⟨12, .data⟩ (by simp) rfl)
      clear hL hno
      simp only [putAll, List.foldl_cons, List.foldl_nil, List.setIfInBounds_toArray, List.set_cons_zero, List.set_cons_succ]
      go_simp
      refine hK (updV V 24 (.agg #[.int .i64 (sgnI false q), .int .i64 r])) _ _ (by simp [putAll, updV, e8, e12]) ?_
      exact { h with e13 := fun _ => rfl }
    · replace ho := Option.some.inj ho
      subst ho
      have e13 : V 24 = _ := h.e13 (hL ⟨13, .data⟩ (by simp) rfl)
      clear hL hno
      simp only [putAll, List.foldl_cons, List.foldl_nil, List.setIfInBounds_toArray, List.set_cons_zero, List.set_cons_succ]
      obtain ⟨d, hd⟩ := h.p0 hi
      have kb : Blk w1 B 34 #[.int .i64 0, .int .i64 0] := by subst hd; exact HK.out
      have hbb : Below B W0 w1 := (h.p0 hi).below _
      have f0 := kb.cell 0
      have f1 := kb.cell 1
      have z0 := kb.frozen 0
      have z1 := kb.frozen 1
      simp at f0 f1
      have kb2 := (kb.set 0 (.int .i64 (sgnI false q))).set 1 (.int .i64 r)
      have bb2 := (hbb.setCell (p := ⟨B, 0, none⟩) (Nat.le_refl _) (.int .i64 (sgnI false q))).setCell (p := ⟨B, 1, none⟩) (Nat.le_refl _) (.int .i64 r)
      simp at kb2
      clear kb hbb hd
      go_simp
      refine hK V _ _ (by simp [putAll, e13]) ?_
      exact { h with p0 := fun hn => (by cases hn), p1 := fun _ => ⟨bb2, kb2⟩ }
    · simp at ho
  · clear hI0
    intro L V w6 hL h
    obtain ⟨bw, kw⟩ := h.p1 (hL 14 (by simp))
    obtain ⟨s8, -⟩ := h.c8 (hL 8 (by simp))
    obtain ⟨s12, -⟩ := h.c12 (hL 12 (by simp))
    have c0 := kw.cell 0
    have c1 := kw.cell 1
    simp at c0 c1
    simp only [putAll, List.foldl_cons, List.foldl_nil, List.setIfInBounds_toArray, List.set_cons_zero, List.set_cons_succ]
    clear h hL kw
    go_wp2_with fail
    exact bodyPost_ret (v := .agg #[.int .i64 (sgnI false q), .int .i64 r]) (by simp [results, Tryd.results46, go_sem, c0, c1]) rfl ⟨(lowE_yes s8 s12).symm, HBw.out _ bw⟩

structure LowT (W0 : World) (hz : Bool) (a b g q r B : Nat) (L : Nat → Bool) (V : Nat → Value) (w : World) : Prop where
  p0 : L 14 = false → Drawn W0 w
  p1 : L 14 = true → Below B W0 w ∧ Blk w B 34 #[.int .i64 (sgnI (!hz) q), .int .i64 r]
  c8 : L 8 = true → sOk (!hz) q ∧ V 19 = .int .i64 (sgnI (!hz) q)
  c12 : L 12 = true → sOk false r ∧ V 23 = .int .i64 r
  e13 : L 13 = true → V 24 = .agg #[.int .i64 (sgnI (!hz) q), .int .i64 r]
  e0 : L 0 = true → V 11 = .bool true
  e1 : L 1 = true → V 12 = .bool true
  e2 : L 2 = true → V 13 = .int .u64 a
  e3 : L 3 = true → V 14 = .bool (!hz)
  e4 : L 4 = true → V 15 = .bool (!hz)
  e5 : L 5 = true → V 16 = .int .u64 a
  e6 : L 6 = true → V 17 = .int .u64 g
  e7 : L 7 = true → V 18 = .int .u64 q
  e9 : L 9 = true → V 20 = .int .u64 b
  e10 : L 10 = true → V 21 = .int .u64 g
  e11 : L 11 = true → V 22 = .int .u64 r

set_option maxRecDepth 100000 in
set_option maxHeartbeats 4000000 in
theorem low_true (a b g q r : Nat) (hz : Bool) (w : World) (hcom : ∀ w, Calls Tryd.prog 50 #[.int .u64 a, .int .u64 b] w fun e w' => e = .returned (.int .u64 (g : Nat)) ∧ Drawn w w')
    (haz : ((a : Int) != 0) = !hz) (hqd : (a : Int) / (g : Int) = (q : Int)) (hrd : (b : Int) / (g : Int) = (r : Int)) (hgn : ¬ g = 0) (hwq : IntKind.u64.wrap (q : Int) = q) (hwr : IntKind.u64.wrap (r : Int) = r) :
    Calls Tryd.prog 46 #[.bool true, .int .u64 a, .int .u64 b] w fun e w' => e = lowE (!hz) q r ∧ Below w.heap.size w w' := by
  have HB : Hid (Below w.heap.size w (w.alloc (.cells #[.int .i64 0, .int .i64 0] 34))) := (Below.refl _ _).alloc (Nat.le_refl _) _
  have HK0 : Hid (Blk (w.alloc (.cells #[.int .i64 0, .int .i64 0] 34)) w.heap.size 34 #[.int .i64 0, .int .i64 0]) := Blk.new w _ rfl _ _
  go_enter Tryd.func46, Tryd.ntmps46
  go_wp2_with (go_at_call 50; refine (hcom _).mono ?_; rintro e w' ⟨rfl, d, rfl⟩)
  obtain ⟨B, hB⟩ : ∃ B, w.heap.size = B := ⟨_, rfl⟩
  rw [hB] at HB HK0 ⊢
  obtain ⟨W0, hW0⟩ : ∃ W0, (w.alloc (.cells #[.int .i64 0, .int .i64 0] 34)).drewN d = W0 := ⟨_, rfl⟩
  replace HB : Hid (Below B w W0) := by subst hW0; exact below_drewN HB.out d
  have HK : Hid (Blk W0 B 34 #[.int .i64 0, .int .i64 0]) := by subst hW0; exact HK0.out
  have HBw : Hid (∀ w1, Below B W0 w1 → Below w.heap.size w w1) := fun w1 h1 => by rw [hB]; exact HB.out.trans h1
  rw [hW0]
  clear HK0 hW0 hcom
  have hI0 : ∀ V, LowT W0 hz a b g q r B (fun _ => false) V W0.drew := fun V => by
    have h0 : Drawn W0 W0.drew := (Drawn.refl W0).drewN 1
    constructor
    all_goals first
      | exact fun _ => h0
      | (intro h; cases h)
  refine wp_region_put3 [11, 12, 13, 14, 15, 16, 17, 18, 19, 20, 21, 22, 23, 24] (LowT W0 hz a b g q r B) (by kernel_rfl) (by kernel_rfl) ?_ ?_ ?_
  · exact hI0 _
  · intro i o ho L V w1 hi hL hno h K hK
    rcases i with _ | _ | _ | _ | _ | _ | _ | _ | _ | _ | _ | _ | _ | _ | _ | i
    · replace ho := Option.some.inj ho
      subst ho
      simp only [putAll, List.foldl_cons, List.foldl_nil, List.setIfInBounds_toArray, List.set_cons_zero, List.set_cons_succ]
      clear hL hno
      go_simp
      refine hK (updV V 11 (.bool true)) _ _ (by simp [putAll, updV]) ?_
      exact { h with e0 := fun _ => rfl }
    · replace ho := Option.some.inj ho
      subst ho
      simp only [putAll, List.foldl_cons, List.foldl_nil, List.setIfInBounds_toArray, List.set_cons_zero, List.set_cons_succ]
      have e0 : V 11 = _ := h.e0 (hL ⟨0, .data⟩ (by simp) rfl)
      clear hL hno
      go_simp
      refine hK (updV V 12 (.bool true)) _ _ (by simp [putAll, updV, e0]) ?_
      exact { h with e1 := fun _ => rfl }
    · replace ho := Option.some.inj ho
      subst ho
      have e1 : V 12 = _ := h.e1 (hL ⟨1, .guard⟩ (by simp) rfl)
      clear hL hno
      simp only [putAll, List.foldl_cons, List.foldl_nil, List.setIfInBounds_toArray, List.set_cons_zero, List.set_cons_succ]
      go_simp
      refine hK (updV V 13 (.int .u64 a)) _ _ (by simp [putAll, updV, e1]) ?_
      exact { h with e2 := fun _ => rfl }
    · replace ho := Option.some.inj ho
      subst ho
      have e1 : V 12 = _ := h.e1 (hL ⟨1, .guard⟩ (by simp) rfl)
      have e2 : V 13 = _ := h.e2 (hL ⟨2, .data⟩ (by simp) rfl)
      clear hL hno
      simp only [putAll, List.foldl_cons, List.foldl_nil, List.setIfInBounds_toArray, List.set_cons_zero, List.set_cons_succ]
      go_simp
      refine hK (updV V 14 (.bool (!hz))) _ _ (by simp [putAll, updV, e1, e2]) ?_
      exact { h with e3 := fun _ => rfl }
    · replace ho := Option.some.inj ho
      subst ho
      simp only [putAll, List.foldl_cons, List.foldl_nil, List.setIfInBounds_toArray, List.set_cons_zero, List.set_cons_succ]
      have e1 : V 12 = _ := h.e1 (hL ⟨1, .data⟩ (by simp) rfl)
      have e3 : V 14 = _ := h.e3 (hL ⟨3, .data⟩ (by simp) rfl)
      clear hL hno
      go_simp
      refine hK (updV V 15 (.bool (!hz))) _ _ (by simp [putAll, updV, e1, e3]) ?_
      exact { h with e4 := fun _ => rfl }
    · replace ho := Option.some.inj ho
      subst ho
      simp only [putAll, List.foldl_cons, List.foldl_nil, List.setIfInBounds_toArray, List.set_cons_zero, List.set_cons_succ]
      clear hL hno
      go_simp
      refine hK (updV V 16 (.int .u64 a)) _ _ (by simp [putAll, updV]) ?_
      exact { h with e5 := fun _ => rfl }
    · replace ho := Option.some.inj ho
      subst ho
      simp only [putAll, List.foldl_cons, List.foldl_nil, List.setIfInBounds_toArray, List.set_cons_zero, List.set_cons_succ]
      clear hL hno
      go_simp
      refine hK (updV V 17 (.int .u64 g)) _ _ (by simp [putAll, updV]) ?_
      exact { h with e6 := fun _ => rfl }
    · replace ho := Option.some.inj ho
      subst ho
      simp only [putAll, List.foldl_cons, List.foldl_nil, List.setIfInBounds_toArray, List.set_cons_zero, List.set_cons_succ]
      have e5 : V 16 = _ := h.e5 (hL ⟨5, .data⟩ (by simp) rfl)
      have e6 : V 17 = _ := h.e6 (hL ⟨6, .data⟩ (by simp) rfl)
      clear hL hno
      go_simp
      refine hK (updV V 18 (.int .u64 q)) _ _ (by simp [putAll, updV, e5, e6]) ?_
      exact { h with e7 := fun _ => rfl }
    · replace ho := Option.some.inj ho
      subst ho
      have e4 : V 15 = _ := h.e4 (hL ⟨4, .data⟩ (by simp) rfl)
      have e7 : V 18 = _ := h.e7 (hL ⟨7, .data⟩ (by simp) rfl)
      clear hL hno
      simp only [putAll, List.foldl_cons, List.foldl_nil, List.setIfInBounds_toArray, List.set_cons_zero, List.set_cons_succ]
      go_simp
      by_cases hs : sOk (!hz) q
      · refine (signed_yes (!hz) q w1 hs).mono ?_
        rintro e w3 ⟨rfl, rfl⟩
        refine hK (updV V 19 (.int .i64 (sgnI (!hz) q))) _ _ (by simp [putAll, updV, e4, e7]) ?_
        exact { h with c8 := fun _ => ⟨hs, rfl⟩ }
      · refine (signed_no (!hz) q w1 hs).mono ?_
        rintro e w3 ⟨rfl, rfl⟩
        exact ⟨rfl, (lowE_no fun hh => hs hh.1).symm, HBw.out _ (lowB h.p0 h.p1)⟩
    · replace ho := Option.some.inj ho
      subst ho
      simp only [putAll, List.foldl_cons, List.foldl_nil, List.setIfInBounds_toArray, List.set_cons_zero, List.set_cons_succ]
      clear hL hno
      go_simp
      refine hK (updV V 20 (.int .u64 b)) _ _ (by simp [putAll, updV]) ?_
      exact { h with e9 := fun _ => rfl }
    · replace ho := Option.some.inj ho
      subst ho
      simp only [putAll, List.foldl_cons, List.foldl_nil, List.setIfInBounds_toArray, List.set_cons_zero, List.set_cons_succ]
      clear hL hno
      go_simp
      refine hK (updV V 21 (.int .u64 g)) _ _ (by simp [putAll, updV]) ?_
      exact { h with e10 := fun _ => rfl }
    · replace ho := Option.some.inj ho
      subst ho
      simp only [putAll, List.foldl_cons, List.foldl_nil, List.setIfInBounds_toArray, List.set_cons_zero, List.set_cons_succ]
      have e9 : V 20 = _ := h.e9 (hL ⟨9, .data⟩ (by simp) rfl)
      have e10 : V 21 = _ := h.e10 (hL ⟨10, .data⟩ (by simp) rfl)
      clear hL hno
      go_simp
      refine hK (updV V 22 (.int .u64 r)) _ _ (by simp [putAll, updV, e9, e10]) ?_
      exact { h with e11 := fun _ => rfl }
    · replace ho := Option.some.inj ho
      subst ho
      have e11 : V 22 = _ := h.e11 (hL ⟨11, .data⟩ (by simp) rfl)
      clear hL hno
      simp only [putAll, List.foldl_cons, List.foldl_nil, List.setIfInBounds_toArray, List.set_cons_zero, List.set_cons_succ]
      go_simp
      by_cases hs : sOk false r
      · refine (signed_yes false r w1 hs).mono ?_
        rintro e w3 ⟨rfl, rfl⟩
        refine hK (updV V 23 (.int .i64 r)) _ _ (by simp [putAll, updV, e11]; rfl) ?_
        exact { h with c12 := fun _ => ⟨hs, rfl⟩ }
      · refine (signed_no false r w1 hs).mono ?_
        rintro e w3 ⟨rfl, rfl⟩
        exact ⟨rfl, (lowE_no fun hh => hs hh.2).symm, HBw.out _ (lowB h.p0 h.p1)⟩
    · replace ho := Option.some.inj ho
      subst ho
      obtain ⟨-, e8⟩ := h.c8 (hL ⟨8, .data⟩ (by simp) rfl)
      obtain ⟨-, e12⟩ := h.c12 (hL ⟨12, .data⟩ (by simp) rfl)
      clear hL hno
      simp only [putAll, List.foldl_cons, List.foldl_nil, List.setIfInBounds_toArray, List.set_cons_zero, List.set_cons_succ]
      go_simp
      refine hK (updV V 24 (.agg #[.int .i64 (sgnI (!hz) q), .int .i64 r])) _ _ (by simp [putAll, updV, e8, e12]) ?_
      exact { h with e13 := fun _ => rfl }
    · replace ho := Option.some.inj ho
      subst ho
      have e13 : V 24 = _ := h.e13 (hL ⟨13, .data⟩ (by simp) rfl)
      clear hL hno
      simp only [putAll, List.foldl_cons, List.foldl_nil, List.setIfInBounds_toArray, List.set_cons_zero, List.set_cons_succ]
      obtain ⟨d, hd⟩ := h.p0 hi
      have kb : Blk w1 B 34 #[.int .i64 0, .int .i64 0] := by subst hd; exact HK.out
      have hbb : Below B W0 w1 := (h.p0 hi).below _
      have f0 := kb.cell 0
      have f1 := kb.cell 1
      have z0 := kb.frozen 0
      have z1 := kb.frozen 1
      simp at f0 f1
      have kb2 := (kb.set 0 (.int .i64 (sgnI (!hz) q))).set 1 (.int .i64 r)
      have bb2 := (hbb.setCell (p := ⟨B, 0, none⟩) (Nat.le_refl _) (.int .i64 (sgnI (!hz) q))).setCell (p := ⟨B, 1, none⟩) (Nat.le_refl _) (.int .i64 r)
      simp at kb2
      clear kb hbb hd
      go_simp
      refine hK V _ _ (by simp [putAll, e13]) ?_
      exact { h with p0 := fun hn => (by cases hn), p1 := fun _ => ⟨bb2, kb2⟩ }
    · simp at ho
  · clear hI0
    intro L V w6 hL h
    obtain ⟨bw, kw⟩ := h.p1 (hL 14 (by simp))
    obtain ⟨s8, -⟩ := h.c8 (hL 8 (by simp))
    obtain ⟨s12, -⟩ := h.c12 (hL 12 (by simp))
    have c0 := kw.cell 0
    have c1 := kw.cell 1
    simp at c0 c1
    simp only [putAll, List.foldl_cons, List.foldl_nil, List.setIfInBounds_toArray, List.set_cons_zero, List.set_cons_succ]
    clear h hL kw
    go_wp2_with fail
    exact bodyPost_ret (v := .agg #[.int .i64 (sgnI (!hz) q), .int .i64 r]) (by simp [results, Tryd.results46, go_sem, c0, c1]) rfl ⟨(lowE_yes s8 s12).symm, HBw.out _ bw⟩

theorem low_any (below : Bool) (a b : Nat) (w : World) (ha : a < 18446744073709551616) (hb : b < 18446744073709551616) (hb0 : 0 < b) :
    Calls Tryd.prog 46 #[.bool below, .int .u64 a, .int .u64 b] w fun e w' => e = lowE (below && decide (a ≠ 0)) (a / Nat.gcd a b) (b / Nat.gcd a b) ∧ Below w.heap.size w w' := by
  have hg : 0 < Nat.gcd a b := Nat.gcd_pos_of_pos_right _ hb0
  have haz : ((a : Int) != 0) = !(decide (a = 0)) := by
    by_cases h : a = 0
    · simp [h]
    · simp [h]
  have e : decide (a ≠ 0) = !(decide (a = 0)) := by by_cases h : a = 0 <;> simp [h]
  rw [e]
  cases below with
  | false => exact low_false a b (Nat.gcd a b) _ _ (decide (a = 0)) w (fun w => fcommon_any a b ha hb w) haz (Int.natCast_ediv _ _).symm (Int.natCast_ediv _ _).symm (by omega) (wrapN _ (Nat.lt_of_le_of_lt (Nat.div_le_self _ _) ha)) (wrapN _ (Nat.lt_of_le_of_lt (Nat.div_le_self _ _) hb))
  | true => exact low_true a b (Nat.gcd a b) _ _ (decide (a = 0)) w (fun w => fcommon_any a b ha hb w) haz (Int.natCast_ediv _ _).symm (Int.natCast_ediv _ _).symm (by omega) (wrapN _ (Nat.lt_of_le_of_lt (Nat.div_le_self _ _) ha)) (wrapN _ (Nat.lt_of_le_of_lt (Nat.div_le_self _ _) hb))
end Go.Proofs.YtblkcdenmgkddaaDoor
