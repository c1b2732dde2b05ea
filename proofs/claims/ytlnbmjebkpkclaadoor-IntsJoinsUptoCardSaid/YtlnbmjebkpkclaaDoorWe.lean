/-
  The references' whole numbers: Negative, Plus, Minus and Cmp.
-/
import Derived.Test.YtlnbmjebkpkclaaDoorWd
import Derived.Deep.RegionHeld3
import Derived.Deep.DrawnRows
namespace Go.Proofs.YtlnbmjebkpkclaaDoor
open Go.RowKit
attribute [local go_sem ↓] Go.wp_at_zero Go.wp_at_succ

set_option maxHeartbeats 1000000 in
theorem negative_any (v : Value) (z : Int) (n : Nat) (w : World) (h : WIs w v z n) :
    Calls Tryd.prog 48 #[v] w fun e w' => ∃ v', e = .returned v' ∧ WIs w' v' (-z) n ∧ Below w.heap.size w w' := by
  obtain ⟨s, A, c, ds, rfl, hn, hc, hcm, hnorm, hr, hz, hs⟩ := h
  subst hn
  have hcm' := hcm
  unfold maxLen at hcm'
  have hb2 : ∀ o o', Below w.heap.size w ((w.alloc o).alloc o') := fun o o' => ((Below.refl _ _).alloc (Nat.le_refl _) _).alloc (by simp) _
  have Hz := Lib.hid hz
  clear hz
  cases s
  · by_cases h0 : 0 < ds.length
    · have hd : decide ((0 : Int) < (ds.length : Int)) = true := by simpa using h0
      go_enter Tryd.func48, Tryd.ntmps48
      go_wp2
      refine bodyPost_ret (v := .agg #[.bool true, .slice A ds.length c]) (by simp [results, Tryd.results48, go_sem]) rfl ?_
      exact ⟨_, rfl, ⟨true, A, c, ds, rfl, rfl, hc, hcm, hnorm, (hr.below (hb2 _ _) (Nat.le_refl _)).more (hb2 _ _).size, by rw [Hz.out]; simp, fun _ h => by rw [h] at h0; simp at h0⟩, hb2 _ _⟩
    · have hd : decide ((0 : Int) < (ds.length : Int)) = false := by simpa using h0
      have hds : ds = [] := List.eq_nil_of_length_eq_zero (by omega)
      subst hds
      go_enter Tryd.func48, Tryd.ntmps48
      go_wp2
      refine bodyPost_ret (v := .agg #[.bool false, .slice A 0 c]) (by simp [results, Tryd.results48, go_sem]) rfl ?_
      exact ⟨_, rfl, ⟨false, A, c, [], rfl, rfl, Nat.zero_le _, hcm, hnorm, .inl rfl, by rw [Hz.out]; simp [val], fun h => by cases h⟩, hb2 _ _⟩
  · go_enter Tryd.func48, Tryd.ntmps48
    go_wp2
    refine bodyPost_ret (v := .agg #[.bool false, .slice A ds.length c]) (by simp [results, Tryd.results48, go_sem]) rfl ?_
    exact ⟨_, rfl, ⟨false, A, c, ds, rfl, rfl, hc, hcm, hnorm, (hr.below (hb2 _ _) (Nat.le_refl _)).more (hb2 _ _).size, by rw [Hz.out]; simp, fun h => by cases h⟩, hb2 _ _⟩

/-- three boxes, laid one behind the other, are there still -/
theorem three_boxes {w w1 : World} {x0 y0 x1 y1 x2 y2 : Value} {T : TypeId} (hb : Below (((w.alloc (.cells #[x0, y0] T)).alloc (.cells #[x1, y1] T)).alloc (.cells #[x2, y2] T)).drew.heap.size (((w.alloc (.cells #[x0, y0] T)).alloc (.cells #[x1, y1] T)).alloc (.cells #[x2, y2] T)).drew w1) :
    w1.cell? ⟨w.heap.size, 0, none⟩ = some x0 ∧ w1.cell? ⟨w.heap.size, 1, none⟩ = some y0 ∧ w1.cell? ⟨w.heap.size + 1, 0, none⟩ = some x1 ∧ w1.cell? ⟨w.heap.size + 1, 1, none⟩ = some y1 ∧
    w1.cell? ⟨w.heap.size + 1 + 1, 0, none⟩ = some x2 ∧ w1.cell? ⟨w.heap.size + 1 + 1, 1, none⟩ = some y2 ∧ w1.frozen? ⟨w.heap.size + 1 + 1, 0, none⟩ = false ∧ w1.frozen? ⟨w.heap.size + 1 + 1, 1, none⟩ = false ∧ w.heap.size + 1 + 1 < w1.heap.size ∧ Blk w1 (w.heap.size + 1 + 1) T #[x2, y2] := by
  have s3 : (((w.alloc (.cells #[x0, y0] T)).alloc (.cells #[x1, y1] T)).alloc (.cells #[x2, y2] T)).drew.heap.size = w.heap.size + 1 + 1 + 1 := by simp [World.drew]
  have b0 : Blk w1 w.heap.size T #[x0, y0] := (hb.block w.heap.size (by rw [s3]; omega)).trans (((Blk.new w _ rfl T #[x0, y0]).alloc _).alloc _)
  have b1 : Blk w1 (w.heap.size + 1) T #[x1, y1] := (hb.block (w.heap.size + 1) (by rw [s3]; omega)).trans ((Blk.new (w.alloc (.cells #[x0, y0] T)) (w.heap.size + 1) (by simp) T #[x1, y1]).alloc _)
  have b2 : Blk w1 (w.heap.size + 1 + 1) T #[x2, y2] := (hb.block (w.heap.size + 1 + 1) (by rw [s3]; omega)).trans (Blk.new ((w.alloc (.cells #[x0, y0] T)).alloc (.cells #[x1, y1] T)) (w.heap.size + 1 + 1) (by simp) T #[x2, y2])
  exact ⟨b0.cell 0, b0.cell 1, b1.cell 0, b1.cell 1, b2.cell 0, b2.cell 1, b2.frozen 0, b2.frozen 1, b2.lt, b2⟩

/-- a result's box, written -/
theorem box_written {w1 : World} {g : Nat} {T : TypeId} {x y : Value} (h : Blk w1 g T #[x, y]) (u v : Value) : Blk ((w1.setCell ⟨g, 0, none⟩ u).setCell ⟨g, 1, none⟩ v) g T #[u, v] := by
  have := (h.set 0 u).set 1 v
  simpa using this
theorem Rd.set_new {w : World} {B lo : Nat} {A : Option Addr} {cs : List Value} (h : Rd w B A cs) (hn : ∀ ad, A = some ad → lo ≤ ad.block) {p : Addr} (hp : p.block < lo) (u : Value) : Rd (w.setCell p u) B A cs := by
  rcases h with h | ⟨b, off, ha, hb, hc⟩
  · exact .inl h
  · refine .inr ⟨b, off, ha, hb, fun j v hv => ?_⟩
    have := hn _ ha
    simp only at this
    rw [World.cell?_setCell_other _ _ _ _ (by intro e; have e2 := congrArg Addr.block e; simp only at e2; omega)]
    exact hc j v hv

/-- the digits lie in new memory -/
def New (w : World) (v : Value) : Prop := ∀ s A n c ad, v = .agg #[.bool s, .slice A n c] → A = some ad → w.heap.size ≤ ad.block
theorem New.of {w : World} {s : Bool} {A : Option Addr} {n c : Nat} (h : ∀ ad, A = some ad → w.heap.size ≤ ad.block) : New w (.agg #[.bool s, .slice A n c]) := by
  intro s' A' n' c' ad h1 h2
  injection h1 with h1
  simp at h1
  obtain ⟨_, rfl, _⟩ := h1
  exact h ad h2
theorem New.to {w : World} {s : Bool} {A : Option Addr} {n c : Nat} (h : New w (.agg #[.bool s, .slice A n c])) : ∀ ad, A = some ad → w.heap.size ≤ ad.block := fun ad h1 => h s A n c ad rfl h1
/-- it makes a Whole worth z -/
def Makes (w : World) (z : Int) (e : Ending) (w' : World) : Prop := ∃ v' k, e = .returned v' ∧ WIs w' v' z k ∧ New w v' ∧ Below w.heap.size w w'

/-- what behind the call of a digits' function, and behind the stores of its answer, a Whole is worth -/
theorem makes_of {w W w1 : World} {A₁ : Option Addr} {k c₁ : Nat} {ds : List Int} {x y : Value} {T : TypeId} {z : Int} (s : Bool) (hb0 : Below w.heap.size w W) (hW : W.heap.size = w.heap.size + 1 + 1 + 1) (hk : ds.length = k) (hkc : k ≤ c₁) (hcm : c₁ ≤ maxLen) (hds : Norm ds) (hrd : Rd w1 w1.heap.size A₁ (cellsI ds))
    (hnew : ∀ ad, A₁ = some ad → W.heap.size ≤ ad.block) (hbw : Below W.heap.size W w1) (hz : z = (if s = true then - val ds else val ds)) (hs : s = true → ds ≠ []) (_hbox : Blk w1 (w.heap.size + 1 + 1) T #[x, y]) :
    Makes w z (.returned (.agg #[.bool s, .slice A₁ k c₁])) ((w1.setCell ⟨w.heap.size + 1 + 1, 0, none⟩ (.bool s)).setCell ⟨w.heap.size + 1 + 1, 1, none⟩ (.slice A₁ k c₁)) := by
  have hbb : Below w.heap.size w w1 := hb0.trans (hbw.mono (by omega))
  rw [hW] at hnew
  refine ⟨_, k, rfl, ⟨s, A₁, c₁, ds, rfl, hk, hkc, hcm, hds, ?_, hz, hs⟩, New.of (fun ad h2 => by have := hnew ad h2; omega), (hbb.setCell (by simp; omega) _).setCell (by simp; omega) _⟩
  have := (hrd.set_new hnew (p := ⟨w.heap.size + 1 + 1, 0, none⟩) (by simp) (.bool s)).set_new hnew (p := ⟨w.heap.size + 1 + 1, 1, none⟩) (by simp) (.slice A₁ k c₁)
  simpa using this

set_option maxRecDepth 100000 in
set_option maxHeartbeats 2000000 in
theorem plus_same_true (w : World) (A A' : Option Addr) (n n' c c' : Nat) (a b : List Int) (hn : a.length = n) (hn' : b.length = n') (ha : Norm a) (hb : Norm b) (hr : Rd w w.heap.size A (cellsI a)) (hr' : Rd w w.heap.size A' (cellsI b))
    (hs : a ≠ []) (hl : n ≤ 1099511627776) (hl' : n' ≤ 1099511627776) :
    Calls Tryd.prog 38 #[.agg #[.bool true, .slice A n c], .agg #[.bool true, .slice A' n' c']] w (Makes w (-(val a + val b))) := by
  have hb3 : ∀ o o' o'', Below w.heap.size w (((w.alloc o).alloc o').alloc o'') := fun o o' o'' => (((Below.refl _ _).alloc (Nat.le_refl _) _).alloc (by simp) _).alloc (by simp; omega) _
  have hx : ∀ o o' o'', Rd (((w.alloc o).alloc o').alloc o'').drew w.heap.size A (cellsI a) := fun o o' o'' => hr.below (hb3 o o' o'').drew (Nat.le_refl _)
  have hx' : ∀ o o' o'', Rd (((w.alloc o).alloc o').alloc o'').drew w.heap.size A' (cellsI b) := fun o o' o'' => hr'.below (hb3 o o' o'').drew (Nat.le_refl _)
  have hsz : ∀ o o' o'', w.heap.size ≤ (((w.alloc o).alloc o').alloc o'').drew.heap.size := fun o o' o'' => (hb3 o o' o'').size
  have hsz3 : ∀ o o' o'', (((w.alloc o).alloc o').alloc o'').drew.heap.size = w.heap.size + 1 + 1 + 1 := fun o o' o'' => by simp [World.drew]
  go_enter Tryd.func38, Tryd.ntmps38
  go_wp2_with fail
  go_region_held3 (fun w' => w'.cell? ⟨w.heap.size, 0, none⟩ = some (.bool true) ∧ w'.cell? ⟨w.heap.size, 1, none⟩ = some (.slice A n c) ∧ w'.cell? ⟨w.heap.size + 1, 1, none⟩ = some (.slice A' n' c')) (first | exact ⟨by assumption, by assumption, by assumption⟩ | (refine ⟨?_, ?_, ?_⟩ <;> (rw [World.cell?_setCell_other _ _ _ _ (by intro e; injection e with e; omega), World.cell?_setCell_other _ _ _ _ (by intro e; injection e with e; omega)]; assumption)) | go_keep)
    (first | (go_at_call 46; refine (add_digits a b A A' n n' c c' w.heap.size _ hn hn' ha.1 hb.1 (hx _ _ _) (hx' _ _ _) hl hl' (hsz _ _ _)).mono ?_; rintro e w1 ⟨A₁, k, c₁, ds, rfl, hk, hkc, hcm, hds, hv, hrd, hnew, hbw⟩; obtain ⟨q0, q1, q2, q3, q4, q5, q6, q7, q8, q9⟩ := three_boxes hbw))
  have Hm := makes_of (z := -(val a + val b)) true (hb3 _ _ _).drew (hsz3 _ _ _) hk hkc hcm hds hrd hnew hbw (by rw [if_pos rfl, hv]) (fun _ h0 => by have h1 := val_nonneg hb.1; have h2 := val_pos ha hs; rw [h0] at hv; simp [val] at hv; omega) q9
  have hq := box_written q9 (.bool true) (.slice A₁ k c₁)
  have d0 := hq.cell 0
  have d1 := hq.cell 1
  simp at d0 d1
  clear hv q0 q1 q2 q3 q4 q5 q6 q7 q9 hq
  go_wp2
  refine bodyPost_ret (v := .agg #[.bool true, .slice A₁ k c₁]) ?_ rfl Hm
  simp [results, Tryd.results38, go_sem, d0, d1]

set_option maxRecDepth 100000 in
set_option maxHeartbeats 2000000 in
theorem plus_same_false (w : World) (A A' : Option Addr) (n n' c c' : Nat) (a b : List Int) (hn : a.length = n) (hn' : b.length = n') (ha : Norm a) (hb : Norm b) (hr : Rd w w.heap.size A (cellsI a)) (hr' : Rd w w.heap.size A' (cellsI b))
    (hl : n ≤ 1099511627776) (hl' : n' ≤ 1099511627776) :
    Calls Tryd.prog 38 #[.agg #[.bool false, .slice A n c], .agg #[.bool false, .slice A' n' c']] w (Makes w (val a + val b)) := by
  have hb3 : ∀ o o' o'', Below w.heap.size w (((w.alloc o).alloc o').alloc o'') := fun o o' o'' => (((Below.refl _ _).alloc (Nat.le_refl _) _).alloc (by simp) _).alloc (by simp; omega) _
  have hx : ∀ o o' o'', Rd (((w.alloc o).alloc o').alloc o'').drew w.heap.size A (cellsI a) := fun o o' o'' => hr.below (hb3 o o' o'').drew (Nat.le_refl _)
  have hx' : ∀ o o' o'', Rd (((w.alloc o).alloc o').alloc o'').drew w.heap.size A' (cellsI b) := fun o o' o'' => hr'.below (hb3 o o' o'').drew (Nat.le_refl _)
  have hsz : ∀ o o' o'', w.heap.size ≤ (((w.alloc o).alloc o').alloc o'').drew.heap.size := fun o o' o'' => (hb3 o o' o'').size
  have hsz3 : ∀ o o' o'', (((w.alloc o).alloc o').alloc o'').drew.heap.size = w.heap.size + 1 + 1 + 1 := fun o o' o'' => by simp [World.drew]
  go_enter Tryd.func38, Tryd.ntmps38
  go_wp2_with fail
  go_region_held3 (fun w' => w'.cell? ⟨w.heap.size, 0, none⟩ = some (.bool false) ∧ w'.cell? ⟨w.heap.size, 1, none⟩ = some (.slice A n c) ∧ w'.cell? ⟨w.heap.size + 1, 1, none⟩ = some (.slice A' n' c')) (first | exact ⟨by assumption, by assumption, by assumption⟩ | (refine ⟨?_, ?_, ?_⟩ <;> (rw [World.cell?_setCell_other _ _ _ _ (by intro e; injection e with e; omega), World.cell?_setCell_other _ _ _ _ (by intro e; injection e with e; omega)]; assumption)) | go_keep)
    (first | (go_at_call 46; refine (add_digits a b A A' n n' c c' w.heap.size _ hn hn' ha.1 hb.1 (hx _ _ _) (hx' _ _ _) hl hl' (hsz _ _ _)).mono ?_; rintro e w1 ⟨A₁, k, c₁, ds, rfl, hk, hkc, hcm, hds, hv, hrd, hnew, hbw⟩; obtain ⟨q0, q1, q2, q3, q4, q5, q6, q7, q8, q9⟩ := three_boxes hbw))
  have Hm := makes_of (z := val a + val b) false (hb3 _ _ _).drew (hsz3 _ _ _) hk hkc hcm hds hrd hnew hbw (by rw [if_neg (by simp), hv]) (fun h => by cases h) q9
  have hq := box_written q9 (.bool false) (.slice A₁ k c₁)
  have d0 := hq.cell 0
  have d1 := hq.cell 1
  simp at d0 d1
  clear hv q0 q1 q2 q3 q4 q5 q6 q7 q9 hq
  go_wp2
  refine bodyPost_ret (v := .agg #[.bool false, .slice A₁ k c₁]) ?_ rfl Hm
  simp [results, Tryd.results38, go_sem, d0, d1]

end Go.Proofs.YtlnbmjebkpkclaaDoor
