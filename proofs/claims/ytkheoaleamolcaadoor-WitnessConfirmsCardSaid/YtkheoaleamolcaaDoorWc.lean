/-
  The references' magnitudes: less takes the lesser one from the greater one, in new memory.
-/
import Derived.Test.YtkheoaleamolcaaDoorWb
namespace Go.Proofs.YtkheoaleamolcaaDoor
open Go.RowKit

theorem padDiff_at (a : List Int) : ∀ (b : List Int) (k : Nat), k < a.length → (padDiff a b).drop k = (a.getD k 0 - b.getD k 0) :: (padDiff a b).drop (k + 1) := by
  induction a with
  | nil => intro b k h; simp at h
  | cons x a ih =>
    intro b k h
    cases b with
    | nil =>
      simp only [padDiff]
      rw [List.drop_eq_getElem_cons h]
      simp [List.getElem?_eq_getElem h]
    | cons y b =>
      cases k with
      | zero => simp [padDiff]
      | succ k =>
        have := ih b k (by simpa using h)
        simpa [padDiff] using this

end Go.Proofs.YtkheoaleamolcaaDoor
