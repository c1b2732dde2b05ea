/-
  Kept answers true of a list that was lent and is as it was; awake answers true.
-/
import Derived.Test.YtkheoaleamolcaaDoorIe
namespace Go.Proofs.YtkheoaleamolcaaDoor
open Go.RowKit

theorem AllFit.lent (xs : List Int) (h : AllFit xs) : AllFit (xs ++ marks) := by
  intro x hx
  rcases List.mem_append.1 hx with hx | hx
  · exact h x hx
  · simp [marks] at hx; subst hx; unfold fits; omega

/-- what a list that is lent owns, as cells -/
theorem lent_cells {w : World} {base g n : Nat} {xs : List Int} (h : w.ownsRow base 3 1 (.slice (some ⟨g, 0, none⟩) (n + 4) (n + 4)) (n + 4) (cellsI (xs ++ marks))) (hn : xs.length = n) :
    Rd w w.heap.size (some ⟨g, 0, none⟩) (cellsI xs) ∧ ∀ j, n ≤ j → j < n + 4 → w.cell? ⟨g, j, none⟩ = some (.int .i64 (-7770777)) := by
  have hr := rd_of_own h
  rcases hr with hr | ⟨b, off, ha, hb, hc⟩
  · have := h.1; rw [hr] at this; simp at this
  · injection ha with ha
    injection ha with ha1 ha2
    subst ha1 ha2
    refine ⟨.inr ⟨g, 0, rfl, hb, fun j u hu => hc j u ?_⟩, fun j h1 h2 => ?_⟩
    · have hj := (List.getElem?_eq_some_iff.1 hu).1
      unfold cellsI at hu hj ⊢
      rw [List.map_append, List.getElem?_append_left hj]; exact hu
    · have hcj := hc j (.int .i64 (-7770777)) (by
        rw [cellsI, List.map_append, List.getElem?_append_right (by simpa [hn] using h1)]
        obtain ⟨d, rfl⟩ : ∃ d, j = n + d := ⟨j - n, by omega⟩
        have e : n + d - (List.map (Value.int .i64) xs).length = d := by simp [hn]
        rw [e]
        match d, h2 with
        | 0, _ => rfl
        | 1, _ => rfl
        | 2, _ => rfl
        | 3, _ => rfl
        | d + 4, h2 => exact absurd h2 (by omega))
      rwa [Nat.zero_add] at hcj


theorem Below.drewN {B : Nat} {a w : World} (h : Below B a w) (n : Nat) : Below B a (w.drewN n) := ⟨h.os, h.tape, h.output, h.size, h.block⟩
theorem Tab.alloc {w : World} (h : Tab w) (o : Obj) : Tab (w.alloc o) := h.below ((Below.refl _ _).alloc (Nat.le_refl _) o) h.pos
theorem Tab.drewN {w : World} (h : Tab w) (n : Nat) : Tab (w.drewN n) := h
theorem rd_alloc (w : World) (b : Nat) (hb : b = w.heap.size) (T : TypeId) (cs : List Value) : Rd (w.alloc (.cells cs.toArray T)) (b + 1) (some ⟨b, 0, none⟩) cs := by
  subst hb
  refine .inr ⟨w.heap.size, 0, rfl, by omega, fun j u hu => ?_⟩
  rw [Nat.zero_add, cell_of_row _ _ _ cs.toArray T (0, 0) (heap_alloc_new w _)]
  simpa using hu

theorem allFit_lit {xs : List Int} (h : ∀ x ∈ xs, -9223372036854775808 ≤ x ∧ x ≤ 9223372036854775807) : AllFit xs := fun x hx => h x hx
theorem gcd_lit (w : World) (b : Nat) (hb : b = w.heap.size) (hT : Tab w) : Calls Tryd.prog 41 #[.slice (some ⟨b, 0, none⟩) 2 2] (w.alloc (.cells #[.int .i64 12, .int .i64 (-18)] 3)) fun e w' => e = .returned (.tuple #[.int .i64 6, .bool true]) ∧ (w.alloc (.cells #[.int .i64 12, .int .i64 (-18)] 3)) = w' :=
  (gcd_any [12, -18] _ 2 2 (b + 1) _ rfl (allFit_lit (by simp)) (rd_alloc w b hb 3 (cellsI [12, -18])) (by unfold maxLen; decide) (hT.alloc _)).mono fun _ _ ⟨h, h'⟩ => ⟨h.trans (tup2 (by decide) (by decide)), h'⟩

end Go.Proofs.YtkheoaleamolcaaDoor
