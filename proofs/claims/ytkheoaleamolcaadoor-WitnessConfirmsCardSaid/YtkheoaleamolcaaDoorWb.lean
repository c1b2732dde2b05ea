/-
  The references' magnitudes added: add returns the digits of the sum, in new memory.
-/
import Derived.Test.YtkheoaleamolcaaDoorWa
namespace Go.Proofs.YtkheoaleamolcaaDoor
open Go.RowKit

theorem own_slice_max {w : World} {base : Nat} {e : TypeId} {size : Nat} {v : Value} {n : Nat} {xs : List Value} (h : w.ownsRow base e size v n xs) : ∃ A c, v = .slice A n c ∧ n ≤ c ∧ c ≤ maxLen := by
  rcases h.2 with ⟨h', h0⟩ | ⟨g, cap, cur, hv, hb, hg, h1, h2, h3, h4⟩
  · exact ⟨none, 0, by rw [h', h0], by omega, by simp⟩
  · exact ⟨_, cap, hv, h1, h2⟩
theorem own_new {w : World} {base : Nat} {e : TypeId} {size : Nat} {A : Option Addr} {n c : Nat} {xs : List Value} (h : w.ownsRow base e size (.slice A n c) n xs) : ∀ ad, A = some ad → base ≤ ad.block := by
  intro ad ha
  subst ha
  exact (h.lt ad.block rfl).1
theorem getD_zero_of_le {a : List Int} {k : Nat} (h : a.length ≤ k) : a.getD k 0 = 0 := by
  rw [List.getD_eq_getElem?_getD, List.getElem?_eq_none h]; rfl
theorem padSum_at (a : List Int) : ∀ (b : List Int) (k : Nat), k < (padSum a b).length → (padSum a b).drop k = (a.getD k 0 + b.getD k 0) :: (padSum a b).drop (k + 1) := by
  induction a with
  | nil =>
    intro b k h
    simp only [padSum] at h ⊢
    rw [List.drop_eq_getElem_cons h]
    simp [List.getElem?_eq_getElem h]
  | cons x a ih =>
    intro b k h
    cases b with
    | nil =>
      simp only [padSum] at h ⊢
      rw [List.drop_eq_getElem_cons h]
      simp [List.getElem?_eq_getElem h]
    | cons y b =>
      cases k with
      | zero => simp [padSum]
      | succ k =>
        have := ih b k (by simpa [padSum] using h)
        simpa [padSum] using this

end Go.Proofs.YtkheoaleamolcaaDoor
