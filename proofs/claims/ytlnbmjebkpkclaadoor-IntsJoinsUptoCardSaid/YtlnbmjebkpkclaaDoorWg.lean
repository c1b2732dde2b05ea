/-
  The references' whole numbers: Minus, Cmp and Int.
-/
import Derived.Test.YtlnbmjebkpkclaaDoorWf
namespace Go.Proofs.YtlnbmjebkpkclaaDoor
open Go.RowKit
attribute [local go_sem ↓] Go.wp_at_zero Go.wp_at_succ

/-- a Whole in new memory, stored into the box of the answer -/
theorem makes_stored {w w2 : World} {s : Bool} {A : Option Addr} {k c g : Nat} {z : Int} (hw : WIs w2 (.agg #[.bool s, .slice A k c]) z k) (hnew : ∀ ad, A = some ad → g < ad.block) (hg : w.heap.size ≤ g) (hb : Below w.heap.size w w2) :
    Makes w z (.returned (.agg #[.bool s, .slice A k c])) ((w2.setCell ⟨g, 0, none⟩ (.bool s)).setCell ⟨g, 1, none⟩ (.slice A k c)) := by
  obtain ⟨s', A', c', ds, h1, h2, h3, h4, h5, h6, h7, h8⟩ := hw
  injection h1 with h1
  simp at h1
  obtain ⟨rfl, rfl, rfl⟩ := h1
  refine ⟨_, k, rfl, ⟨s, A, c, ds, rfl, h2, h3, h4, h5, ?_, h7, h8⟩, New.of (fun ad h => by have := hnew ad h; omega), (hb.setCell hg _).setCell hg _⟩
  have := (h6.set_new (lo := g + 1) (fun ad h => hnew ad h) (p := ⟨g, 0, none⟩) (by simp) (.bool s)).set_new (lo := g + 1) (fun ad h => hnew ad h) (p := ⟨g, 1, none⟩) (by simp) (.slice A k c)
  simpa using this

set_option maxHeartbeats 400000 in
theorem minus_any (v v' : Value) (z z' : Int) (n n' : Nat) (w : World) (h : WIs w v z n) (h' : WIs w v' z' n') (hl : n ≤ 1099511627776) (hl' : n' ≤ 1099511627776) :
    Calls Tryd.prog 39 #[v, v'] w (Makes w (z - z')) := by
  have h0 := h
  have h0' := h'
  obtain ⟨s, A, c, a, rfl, hn, hc, hcm, ha, hr, hz, hs⟩ := h
  obtain ⟨s', A', c', b, rfl, hn', hc', hcm', hb, hr', hz', hs'⟩ := h'
  have hb3 : ∀ o o' o'', Below w.heap.size w (((w.alloc o).alloc o').alloc o'').drew := fun o o' o'' => ((((Below.refl _ _).alloc (Nat.le_refl _) _).alloc (by simp) _).alloc (by simp; omega) _).drew
  have hw3 : ∀ o o' o'', WIs (((w.alloc o).alloc o').alloc o'').drew _ z' n' := fun o o' o'' => h0'.below (hb3 o o' o'')
  go_enter Tryd.func39, Tryd.ntmps39
  go_wp2_with fail
  go_region_held3 (fun w' => w'.cell? ⟨w.heap.size, 0, none⟩ = some (.bool s) ∧ w'.cell? ⟨w.heap.size, 1, none⟩ = some (.slice A n c) ∧ w'.cell? ⟨w.heap.size + 1, 0, none⟩ = some (.bool s') ∧ w'.cell? ⟨w.heap.size + 1, 1, none⟩ = some (.slice A' n' c')) (first | exact ⟨by assumption, by assumption, by assumption, by assumption⟩ | (refine ⟨?_, ?_, ?_, ?_⟩ <;> (rw [World.cell?_setCell_other _ _ _ _ (by intro e; injection e with e; omega), World.cell?_setCell_other _ _ _ _ (by intro e; injection e with e; omega)]; assumption)) | go_keep)
    (first | (go_at_call 48; refine (negative_any _ z' n' _ (hw3 _ _ _)).mono ?_; rintro e w1 ⟨v1, rfl, hw1, hb1⟩; obtain ⟨b0, b1, b2⟩ := three_blks hb1; have q0 := b0.cell 0; have q1 := b0.cell 1; have q2 := b1.cell 0; have q3 := b1.cell 1; simp at q0 q1 q2 q3; have hbb := (hb3 _ _ _).trans (hb1.mono (hb3 _ _ _).size); have hp1 := h0.below hbb) | (go_at_call 38; refine (plus_any _ v1 z (-z') n n' _ hp1 hw1 hl hl').mono ?_; rintro e w2 ⟨v2, k2, rfl, ⟨s2, A2, c2, ds2, rfl, t1, t2, t3, t4, t5, t6, t7⟩, tnew, hb2⟩; have p0 := (b0.kept hb2).cell 0; have p1 := (b0.kept hb2).cell 1; have p2 := (b1.kept hb2).cell 0; have p3 := (b1.kept hb2).cell 1; have p4 := (b2.kept hb2).cell 0; have p5 := (b2.kept hb2).cell 1; have p6 := (b2.kept hb2).frozen 0; have p7 := (b2.kept hb2).frozen 1; have p8 := b2.kept hb2; have p9 := (b2.kept hb2).lt; simp at p0 p1 p2 p3 p4 p5))
  have hq := box_written p8 (.bool s2) (.slice A2 k2 c2)
  have d0 := hq.cell 0
  have d1 := hq.cell 1
  simp at d0 d1
  have b2l := b2.lt
  have Hm : Makes w (z - z') _ _ := makes_stored (g := w.heap.size + 1 + 1) (w := w) (w2 := w2) (z := z - z') (s := s2) (A := A2) (k := k2) (c := c2) ⟨s2, A2, c2, ds2, rfl, t1, t2, t3, t4, t5, by rw [← t6]; omega, t7⟩ (fun ad h => by have := tnew.to ad h; omega) (by omega) (hbb.trans (hb2.mono hbb.size))
  clear p0 p1 p2 p3 p4 p5 p6 p7 p8 p9 hq q0 q1 q2 q3 t1 t2 t3 t4 t5 t6 t7 b0 b1 b2
  go_wp2
  refine bodyPost_ret (v := .agg #[.bool s2, .slice A2 k2 c2]) ?_ rfl Hm
  simp [results, Tryd.results39, go_sem, d0, d1]

theorem cmp_sign {s s' : Bool} {a b : List Int} {z z' : Int} (ha : Norm a) (hb : Norm b) (hz : z = (if s = true then - val a else val a)) (hz' : z' = (if s' = true then - val b else val b)) (hs : s = true → a ≠ []) (hs' : s' = true → b ≠ []) :
    cmpI z z' = if s = s' then (if s = true then - cmpI (val a) (val b) else cmpI (val a) (val b)) else (if s = true then -1 else 1) := by
  have h1 := val_nonneg ha.1
  have h2 := val_nonneg hb.1
  cases s <;> cases s'
  · simp at hz hz' ⊢; rw [hz, hz']
  · simp at hz hz' hs' ⊢
    have := val_pos hb hs'
    exact cmpI_gt (by omega)
  · simp at hz hz' hs ⊢
    have := val_pos ha hs
    exact cmpI_lt (by omega)
  · simp at hz hz' ⊢
    unfold cmpI
    split <;> split <;> first | omega | (split <;> omega)

set_option maxHeartbeats 1000000 in
theorem cmp_any (v v' : Value) (z z' : Int) (n n' : Nat) (w : World) (h : WIs w v z n) (h' : WIs w v' z' n') :
    Calls Tryd.prog 34 #[v, v'] w fun e w' => e = .returned (.int .i64 (cmpI z z')) ∧ Below w.heap.size w w' := by
  obtain ⟨s, A, c, a, rfl, hn, hc, hcm, ha, hr, hz, hs⟩ := h
  obtain ⟨s', A', c', b, rfl, hn', hc', hcm', hb, hr', hz', hs'⟩ := h'
  have Hz := Lib.hid (cmp_sign ha hb hz hz' hs hs')
  clear hz hz' hs hs'
  have hlm : n ≤ maxLen ∧ n' ≤ maxLen := ⟨by omega, by omega⟩
  have hb2 : ∀ o o', Below w.heap.size w ((w.alloc o).alloc o') := fun o o' => ((Below.refl _ _).alloc (Nat.le_refl _) _).alloc (by simp) _
  have hx : ∀ o o', Rd ((w.alloc o).alloc o') w.heap.size A (cellsI a) := fun o o' => hr.below (hb2 o o') (Nat.le_refl _)
  have hx' : ∀ o o', Rd ((w.alloc o).alloc o') w.heap.size A' (cellsI b) := fun o o' => hr'.below (hb2 o o') (Nat.le_refl _)
  have hcb : -1 ≤ cmpI (val a) (val b) ∧ cmpI (val a) (val b) ≤ 1 := by
    unfold cmpI; split
    · omega
    · split <;> omega
  cases s <;> cases s'
  all_goals
    go_enter Tryd.func34, Tryd.ntmps34
    go_wp2_with (go_at_call 45; refine (size_cmp a b A A' n n' c c' w.heap.size w.heap.size _ hn hn' ha hb (hx _ _) (hx' _ _) hlm.1 hlm.2).mono ?_; rintro e wd ⟨rfl, d, rfl⟩)
    go_ret
    exact ⟨ret1 (by rw [Hz.out]; simp), by repeat (first | exact hb2 _ _ | exact below_drewN (hb2 _ _) _)⟩
end Go.Proofs.YtlnbmjebkpkclaaDoor
