/-
  The references' whole numbers: Times at every two of them; the document's answer for Add, Sub and Mul.
-/
import Derived.Test.YtkheoaleamolcaaDoorWj
namespace Go.Proofs.YtkheoaleamolcaaDoor
open Go.RowKit
attribute [local go_sem ↓] Go.wp_at_zero Go.wp_at_succ

set_option maxRecDepth 100000 in
set_option maxHeartbeats 2000000 in
theorem times_zero (s s' : Bool) (A A' : Option Addr) (la lb c c' : Nat) (w : World) (h0 : la = 0 ∨ lb = 0) (hl : la ≤ maxLen) (hl' : lb ≤ maxLen) :
    Calls Tryd.prog 28 #[.agg #[.bool s, .slice A la c], .agg #[.bool s', .slice A' lb c']] w (Makes w 0) := by
  unfold maxLen at hl hl'
  have hb3 : ∀ o o' o'', Below w.heap.size w (((w.alloc o).alloc o').alloc o'') := fun o o' o'' => (((Below.refl _ _).alloc (Nat.le_refl _) _).alloc (by simp) _).alloc (by simp; omega) _
  have hend : ∀ o o' o'' u v, Makes w 0 (.returned (.agg #[.bool false, .slice none 0 0])) (((((w.alloc o).alloc o').alloc o'').setCell ⟨w.heap.size + 1 + 1, 0, none⟩ u).setCell ⟨w.heap.size + 1 + 1, 1, none⟩ v) := fun o o' o'' u v =>
    ⟨_, 0, rfl, ⟨false, none, 0, [], rfl, rfl, Nat.le_refl _, by unfold maxLen; omega, Norm.nil, .inl rfl, by simp [val], fun h => by cases h⟩, New.of (fun ad h => by cases h), ((hb3 o o' o'').setCell (by simp; omega) _).setCell (by simp; omega) _⟩
  have hend2 : ∀ o o' o'', Makes w 0 (.returned (.agg #[.bool false, .slice none 0 0])) (((w.alloc o).alloc o').alloc o'') := fun o o' o'' =>
    ⟨_, 0, rfl, ⟨false, none, 0, [], rfl, rfl, Nat.le_refl _, by unfold maxLen; omega, Norm.nil, .inl rfl, by simp [val], fun h => by cases h⟩, New.of (fun ad h => by cases h), hb3 o o' o''⟩
  by_cases h1 : la = 0
  · subst h1
    go_enter Tryd.func28, Tryd.ntmps28
    go_wp2
    refine bodyPost_ret (v := .agg #[.bool false, .slice none 0 0]) (by simp [results, Tryd.results28, go_sem]) rfl ?_
    first | exact hend _ _ _ _ _ | exact hend2 _ _ _
  · obtain rfl : lb = 0 := by omega
    have e1 : ((la : Int) == 0) = false := beq_eq_false_iff_ne.2 (by omega)
    go_enter Tryd.func28, Tryd.ntmps28
    go_wp2
    refine bodyPost_ret (v := .agg #[.bool false, .slice none 0 0]) (by simp [results, Tryd.results28, go_sem]) rfl ?_
    first | exact hend _ _ _ _ _ | exact hend2 _ _ _

theorem times_any (v v' : Value) (z z' : Int) (n n' : Nat) (w : World) (h : WIs w v z n) (h' : WIs w v' z' n') (hl : n ≤ 549755813888) (hl' : n' ≤ 549755813888) :
    Calls Tryd.prog 28 #[v, v'] w (Makes w (z * z')) := by
  obtain ⟨s, A, c, a, rfl, hn, hc, hcm, ha, hr, hz, hs⟩ := h
  obtain ⟨s', A', c', b, rfl, hn', hc', hcm', hb, hr', hz', hs'⟩ := h'
  by_cases h0 : n = 0 ∨ n' = 0
  · have e : z * z' = 0 := by
      rcases h0 with h0 | h0
      · have : a = [] := List.eq_nil_of_length_eq_zero (by omega)
        subst this
        rw [hz]; cases s <;> simp [val]
      · have : b = [] := List.eq_nil_of_length_eq_zero (by omega)
        subst this
        rw [hz']; cases s' <;> simp [val]
    rw [e]
    exact times_zero s s' A A' n n' c c' w h0 (by omega) (by omega)
  · refine times_walk s s' A A' n n' c c' a b w hn hn' ha hb hr hr' (by omega) (by omega) (z * z') ?_ hl hl'
    unfold Hid
    rw [hz, hz']
    cases s <;> cases s' <;> simp [Int.neg_mul, Int.mul_neg]

theorem WIs.short {w : World} {v : Value} {z : Int} {n : Nat} (h : WIs w v z n) (m : Nat) (hz : z.natAbs < pw m) : n ≤ m := h.len hz




end Go.Proofs.YtkheoaleamolcaaDoor
