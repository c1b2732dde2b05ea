/-
  The references' whole numbers: Minus, Cmp and Int.
-/
import Derived.Test.YtkheoaleamolcaaDoorWf
namespace Go.Proofs.YtkheoaleamolcaaDoor
open Go.RowKit
attribute [local go_sem ↓] Go.wp_at_zero Go.wp_at_succ

/-- a Whole in new memory, stored into the box of the answer -/
theorem makes_stored {w w2 : World} {s : Bool} {A : Option Addr} {k c g : Nat} {z : Int} (hw : WIs w2 (.agg #[.bool s, .slice A k c]) z k) (hnew : ∀ ad, A = some ad → g < ad.block) (hg : w.heap.size ≤ g) (hb : Below w.heap.size w w2) :
    Makes w z (.returned (.agg #[.bool s, .slice A k c])) ((w2.setCell ⟨g, 0, none⟩ (.bool s)).setCell ⟨g, 1, none⟩ (.slice A k c)) := by
  obtain ⟨s', A', c', ds, h1, h2, h3, h4, h5, h6, h7, h8⟩ := hw
  injection h1 with h1
  simp at h1
  obtain ⟨rfl, rfl, rfl⟩ := h1
  refine ⟨_, k, rfl, ⟨s, A, c, ds, rfl, h2, h3, h4, h5, ?_, h7, h8⟩, New.of (fun ad h => by have := hnew ad h; omega), (hb.setCell hg _).setCell hg _⟩
  have := (h6.set_new (lo := g + 1) (fun ad h => hnew ad h) (p := ⟨g, 0, none⟩) (by simp) (.bool s)).set_new (lo := g + 1) (fun ad h => hnew ad h) (p := ⟨g, 1, none⟩) (by simp) (.slice A k c)
  simpa using this


theorem cmp_sign {s s' : Bool} {a b : List Int} {z z' : Int} (ha : Norm a) (hb : Norm b) (hz : z = (if s = true then - val a else val a)) (hz' : z' = (if s' = true then - val b else val b)) (hs : s = true → a ≠ []) (hs' : s' = true → b ≠ []) :
    cmpI z z' = if s = s' then (if s = true then - cmpI (val a) (val b) else cmpI (val a) (val b)) else (if s = true then -1 else 1) := by
  have h1 := val_nonneg ha.1
  have h2 := val_nonneg hb.1
  cases s <;> cases s'
  · simp at hz hz' ⊢; rw [hz, hz']
  · simp at hz hz' hs' ⊢
    have := val_pos hb hs'
    exact cmpI_gt (by omega)
  · simp at hz hz' hs ⊢
    have := val_pos ha hs
    exact cmpI_lt (by omega)
  · simp at hz hz' ⊢
    unfold cmpI
    split <;> split <;> first | omega | (split <;> omega)

set_option maxHeartbeats 1000000 in
theorem cmp_any (v v' : Value) (z z' : Int) (n n' : Nat) (w : World) (h : WIs w v z n) (h' : WIs w v' z' n') :
    Calls Tryd.prog 26 #[v, v'] w fun e w' => e = .returned (.int .i64 (cmpI z z')) ∧ Below w.heap.size w w' := by
  obtain ⟨s, A, c, a, rfl, hn, hc, hcm, ha, hr, hz, hs⟩ := h
  obtain ⟨s', A', c', b, rfl, hn', hc', hcm', hb, hr', hz', hs'⟩ := h'
  have Hz := Lib.hid (cmp_sign ha hb hz hz' hs hs')
  clear hz hz' hs hs'
  have hlm : n ≤ maxLen ∧ n' ≤ maxLen := ⟨by omega, by omega⟩
  have hb2 : ∀ o o', Below w.heap.size w ((w.alloc o).alloc o') := fun o o' => ((Below.refl _ _).alloc (Nat.le_refl _) _).alloc (by simp) _
  have hx : ∀ o o', Rd ((w.alloc o).alloc o') w.heap.size A (cellsI a) := fun o o' => hr.below (hb2 o o') (Nat.le_refl _)
  have hx' : ∀ o o', Rd ((w.alloc o).alloc o') w.heap.size A' (cellsI b) := fun o o' => hr'.below (hb2 o o') (Nat.le_refl _)
  have hcb : -1 ≤ cmpI (val a) (val b) ∧ cmpI (val a) (val b) ≤ 1 := by
    unfold cmpI; split
    · omega
    · split <;> omega
  cases s <;> cases s'
  all_goals
    go_enter Tryd.func26, Tryd.ntmps26
    go_wp2_with (go_at_call 37; refine (size_cmp a b A A' n n' c c' w.heap.size w.heap.size _ hn hn' ha hb (hx _ _) (hx' _ _) hlm.1 hlm.2).mono ?_; rintro e wd ⟨rfl, d, rfl⟩)
    go_ret
    exact ⟨ret1 (by rw [Hz.out]; simp), by repeat (first | exact hb2 _ _ | exact below_drewN (hb2 _ _) _)⟩
end Go.Proofs.YtkheoaleamolcaaDoor
