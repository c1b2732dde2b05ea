/-
  The plain law of the least common multiple: what the code reckons is it; all divide it, and it divides what all divide.
-/
import Derived.Test.YtblkcdenmgkddaaDoorIk
namespace Go.Proofs.YtblkcdenmgkddaaDoor
open Go.RowKit

/-- the least common multiple of m and all sizes -/
def lcmFold (m : Nat) : List Int → Nat
  | [] => m
  | x :: xs => lcmFold (Nat.lcm m x.natAbs) xs

theorem lcm_of (m n : Nat) : m / Nat.gcd m n * n = Nat.lcm m n := by
  unfold Nat.lcm
  exact Nat.div_mul_right_comm (Nat.gcd_dvd_left m n) n
theorem lcmFold_start (xs : List Int) : ∀ m : Nat, m ∣ lcmFold m xs := by
  induction xs with
  | nil => intro m; exact Nat.dvd_refl _
  | cons x xs ih => intro m; exact Nat.dvd_trans (Nat.dvd_lcm_left _ _) (ih _)
theorem lcmFold_all (xs : List Int) : ∀ (m : Nat) (x : Int), x ∈ xs → x.natAbs ∣ lcmFold m xs := by
  induction xs with
  | nil => intro m x hx; cases hx
  | cons y xs ih =>
    intro m x hx
    rcases List.mem_cons.1 hx with rfl | hx
    · exact Nat.dvd_trans (Nat.dvd_lcm_right _ _) (lcmFold_start xs _)
    · exact ih _ x hx
theorem lcmFold_dvd (k : Nat) (xs : List Int) : ∀ m : Nat, m ∣ k → (∀ x ∈ xs, x.natAbs ∣ k) → lcmFold m xs ∣ k := by
  induction xs with
  | nil => intro m hm _; exact hm
  | cons x xs ih =>
    intro m hm h
    exact ih _ (Nat.lcm_dvd hm (h x (List.mem_cons_self ..))) (fun y hy => h y (List.mem_cons_of_mem _ hy))
theorem lcmFold_pos (xs : List Int) : ∀ m : Nat, 0 < m → zeroF xs = false → 0 < lcmFold m xs := by
  induction xs with
  | nil => intro m hm _; exact hm
  | cons x xs ih =>
    intro m hm h
    rw [zeroF_cons, Bool.or_eq_false_iff] at h
    have hx : x ≠ 0 := by simpa using h.1
    exact ih _ (Nat.lcm_pos hm (by omega)) h.2

theorem lcmGo_zero (xs : List Int) : ∀ (m : Nat) (f : Bool), zeroF xs = true → lcmGo m f xs = (0, true) := by
  induction xs with
  | nil => intro m f h; simp [zeroF] at h
  | cons x xs ih =>
    intro m f h
    rw [zeroF_cons, Bool.or_eq_true] at h
    rw [lcmGo]
    by_cases hx : x = 0
    · rw [if_pos hx]
    · rw [if_neg hx]
      have hz : zeroF xs = true := by
        rcases h with h | h
        · exact absurd (by simpa using h) hx
        · exact h
      split
      · exact ih _ _ hz
      · exact ih _ _ hz
theorem lcmGo_false (xs : List Int) : ∀ m : Nat, zeroF xs = false → lcmGo m false xs = (0, false) := by
  induction xs with
  | nil => intro m _; rfl
  | cons x xs ih =>
    intro m h
    rw [zeroF_cons, Bool.or_eq_false_iff] at h
    have hx : x ≠ 0 := by simpa using h.1
    rw [lcmGo, if_neg hx, if_pos rfl]
    exact ih _ h.2
theorem lcmGo_true (xs : List Int) : ∀ m : Nat, 0 < m → okB m = true → zeroF xs = false → lcmGo m true xs = (okOf (lcmFold m xs), okB (lcmFold m xs)) := by
  induction xs with
  | nil =>
    intro m _ hf _
    show ((m : Int), true) = (okOf m, okB m)
    rw [hf, ← val_yes (okB_iff.1 hf)]
  | cons x xs ih =>
    intro m hm hf h
    rw [zeroF_cons, Bool.or_eq_false_iff] at h
    have hx : x ≠ 0 := by simpa using h.1
    rw [lcmGo, if_neg hx, if_neg (by simp), lcm_of]
    have hp : 0 < Nat.lcm m x.natAbs := Nat.lcm_pos hm (by omega)
    have hle : Nat.lcm m x.natAbs ≤ lcmFold (Nat.lcm m x.natAbs) xs := Nat.le_of_dvd (lcmFold_pos xs _ hp h.2) (lcmFold_start xs _)
    cases ho : okB ((Nat.lcm m x.natAbs : Nat) : Int)
    · rw [lcmGo_false xs _ h.2]
      have hn : ¬ fits ((lcmFold (Nat.lcm m x.natAbs) xs : Nat) : Int) := by
        intro hfit
        have : fits ((Nat.lcm m x.natAbs : Nat) : Int) := by unfold fits at hfit ⊢; omega
        rw [okB_iff.2 this] at ho; cases ho
      show ((0 : Int), false) = (okOf (lcmFold (Nat.lcm m x.natAbs) xs), okB (lcmFold (Nat.lcm m x.natAbs) xs))
      rw [← val_no hn, ← b_no hn]
    · have hs : Nat.lcm m x.natAbs % 18446744073709551616 = Nat.lcm m x.natAbs := Nat.mod_eq_of_lt (by have := okB_iff.1 ho; unfold fits at this; omega)
      rw [hs]
      exact ih _ hp ho h.2
/-- the answer, whole -/
theorem lcm_answer (xs : List Int) : lcmGo 1 true xs = if zeroF xs = true then (0, true) else (okOf (lcmFold 1 xs), okB (lcmFold 1 xs)) := by
  split
  · rename_i h; exact lcmGo_zero xs _ _ h
  · rename_i h
    exact lcmGo_true xs 1 (by decide) (by decide) (by simpa using h)

end Go.Proofs.YtblkcdenmgkddaaDoor
