/-
  IntsJoins: two rows of numbers, one behind the other: the plain laws.
-/
import Derived.Test.YtlnbmjebkpkclaaDoorIr
namespace Go.Proofs.YtlnbmjebkpkclaaDoor
open Go.RowKit

theorem gcdFrom_eq (xs : List Int) : ∀ g : Nat, gcdFrom g xs = Nat.gcd g (gcdFrom 0 xs) := by
  induction xs with
  | nil => intro g; simp [gcdFrom]
  | cons x xs ih =>
    intro g
    rw [gcdFrom, gcdFrom, ih (Nat.gcd g x.natAbs), ih (Nat.gcd 0 x.natAbs), Nat.gcd_zero_left, Nat.gcd_assoc]
theorem gcdFrom_append (xs ys : List Int) : ∀ g : Nat, gcdFrom g (xs ++ ys) = gcdFrom (gcdFrom g xs) ys := by
  induction xs with
  | nil => intro g; rfl
  | cons x xs ih => intro g; exact ih _
theorem gcd_join (xs ys : List Int) : gcdFrom 0 (xs ++ ys) = Nat.gcd (gcdFrom 0 xs) (gcdFrom 0 ys) := by rw [gcdFrom_append, gcdFrom_eq]
theorem gcd_turn (xs ys : List Int) : gcdFrom 0 (ys ++ xs) = gcdFrom 0 (xs ++ ys) := by rw [gcd_join, gcd_join, Nat.gcd_comm]

theorem lcmFold_eq (xs : List Int) : ∀ m : Nat, lcmFold m xs = Nat.lcm m (lcmFold 1 xs) := by
  induction xs with
  | nil => intro m; simp [lcmFold]
  | cons x xs ih =>
    intro m
    rw [lcmFold, lcmFold, ih (Nat.lcm m x.natAbs), ih (Nat.lcm 1 x.natAbs), Nat.lcm_one_left, Nat.lcm_assoc]
theorem lcmFold_append (xs ys : List Int) : ∀ m : Nat, lcmFold m (xs ++ ys) = lcmFold (lcmFold m xs) ys := by
  induction xs with
  | nil => intro m; rfl
  | cons x xs ih => intro m; exact ih _
theorem lcm_join (xs ys : List Int) : lcmFold 1 (xs ++ ys) = Nat.lcm (lcmFold 1 xs) (lcmFold 1 ys) := by rw [lcmFold_append, lcmFold_eq]
theorem zeroF_append (xs ys : List Int) : zeroF (xs ++ ys) = (zeroF xs || zeroF ys) := by simp [zeroF]
theorem lcm_turn (xs ys : List Int) : lcmGo 1 true (ys ++ xs) = lcmGo 1 true (xs ++ ys) := by
  rw [lcm_answer, lcm_answer, zeroF_append, zeroF_append, lcm_join, lcm_join, Bool.or_comm, Nat.lcm_comm]

theorem sumFrom_append (xs ys : List Int) : ∀ t : Int, sumFrom t (xs ++ ys) = if (sumFrom t xs).2 = true then sumFrom (sumFrom t xs).1 ys else (0, false) := by
  induction xs with
  | nil => intro t; rfl
  | cons x xs ih =>
    intro t
    rw [List.cons_append, sumFrom, sumFrom]
    cases h : okB (t + x)
    · rfl
    · rw [if_pos rfl, if_pos rfl]; exact ih _
theorem sumFrom_fits (xs : List Int) : ∀ t : Int, fits t → (sumFrom t xs).2 = true → fits (sumFrom t xs).1 := by
  induction xs with
  | nil => intro t h _; exact h
  | cons x xs ih =>
    intro t h h2
    rw [sumFrom] at h2 ⊢
    cases ho : okB (t + x)
    · rw [ho] at h2; cases h2
    · rw [ho, if_pos rfl] at h2
      rw [if_pos rfl]
      exact ih _ (okB_iff.1 ho) h2
theorem sumFrom_pre (p : Int) (ys : List Int) (hp : fits p) : sumFrom 0 (p :: ys) = sumFrom p ys := by
  rw [sumFrom, Int.zero_add, okB_iff.2 hp, if_pos rfl]

/-- what of the four answers follows: the divisors -/
theorem join_gcd (xs ys : List Int) (h1 : okB (gcdFrom 0 xs : Nat) = true) (h2 : okB (gcdFrom 0 ys : Nat) = true) :
    okB (gcdFrom 0 (xs ++ ys) : Nat) = true ∧ gcdFrom 0 [okOf (gcdFrom 0 xs : Nat), okOf (gcdFrom 0 ys : Nat)] = gcdFrom 0 (xs ++ ys) := by
  have f1 := okB_iff.1 h1
  have f2 := okB_iff.1 h2
  rw [okOf_yes f1, okOf_yes f2, gcd_join]
  refine ⟨okB_iff.2 ?_, by simp [gcdFrom]⟩
  unfold fits at f1 f2 ⊢
  by_cases h0 : gcdFrom 0 xs = 0
  · rw [h0, Nat.gcd_zero_left]; omega
  · have := Nat.gcd_le_left (gcdFrom 0 ys) (by omega : 0 < gcdFrom 0 xs)
    omega
/-- the multiples -/
theorem join_lcm (xs ys : List Int) (h1 : (lcmGo 1 true xs).2 = true) (h2 : (lcmGo 1 true ys).2 = true) :
    lcmGo 1 true [(lcmGo 1 true xs).1, (lcmGo 1 true ys).1] = lcmGo 1 true (xs ++ ys) := by
  rw [lcm_answer (xs ++ ys), zeroF_append]
  rw [lcm_answer xs] at h1 ⊢
  rw [lcm_answer ys] at h2 ⊢
  cases z1 : zeroF xs
  · cases z2 : zeroF ys
    · rw [z1] at h1
      rw [z2] at h2
      simp only [Bool.false_eq_true, if_false, Bool.or_false] at h1 h2 ⊢
      rw [okOf_yes (okB_iff.1 h1), okOf_yes (okB_iff.1 h2), lcm_two_eq, lcm_join]
      simp
    · rw [lcm_two_eq]
      simp
      exact ⟨rfl, rfl⟩
  · rw [lcm_two_eq]
    simp
    exact ⟨rfl, rfl⟩
theorem lcmGo_fits (xs : List Int) : fits (lcmGo 1 true xs).1 := by
  rw [lcm_answer]
  by_cases hz : zeroF xs = true
  · rw [if_pos hz]; unfold fits; simp
  · rw [if_neg hz]; exact okOf_fits _
/-- the sums -/
theorem join_sum (xs ys : List Int) : ((sumFrom 0 (xs ++ ys)).2 = true → (sumFrom 0 xs).2 = true) ∧ ((sumFrom 0 xs).2 = true → sumFrom 0 ((sumFrom 0 xs).1 :: ys) = sumFrom 0 (xs ++ ys)) := by
  rw [sumFrom_append]
  cases h : (sumFrom 0 xs).2
  · exact ⟨fun h' => by simp at h', fun h' => by cases h'⟩
  · refine ⟨fun _ => rfl, fun _ => ?_⟩
    rw [if_pos rfl, sumFrom_pre _ _ (sumFrom_fits xs 0 (by unfold fits; omega) h)]
theorem sumFrom_fits0 (xs : List Int) : ∀ t : Int, fits t → fits (sumFrom t xs).1 := by
  induction xs with
  | nil => intro t h; exact h
  | cons x xs ih =>
    intro t h
    rw [sumFrom]
    cases ho : okB (t + x)
    · unfold fits; simp
    · rw [if_pos rfl]; exact ih _ (okB_iff.1 ho)
end Go.Proofs.YtlnbmjebkpkclaaDoor
