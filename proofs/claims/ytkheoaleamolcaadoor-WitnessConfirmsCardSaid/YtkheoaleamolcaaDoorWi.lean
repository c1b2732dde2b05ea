/-
  The references' whole numbers: Times, by the school's method, in place.
-/
import Derived.Test.YtkheoaleamolcaaDoorWh
namespace Go.Proofs.YtkheoaleamolcaaDoor
open Go.RowKit
attribute [local go_sem ↓] Go.wp_at_zero Go.wp_at_succ

/-- one place of a row -/
theorem row_step {x c o y : Int} {os bs : List Int} {p : Int} (hp : x * y = p) : row x c (o :: os) (y :: bs) = (o + p + c) % 1073741824 :: row x ((o + p + c) / 1073741824) os bs := by rw [row, hp]
theorem drop_set_next (l : List Int) (j : Nat) (u : Int) : (l.set j u).drop (j + 1) = l.drop (j + 1) := by
  rw [List.drop_set]; simp
theorem take_set_le (l : List Int) {i j : Nat} (u : Int) (h : i ≤ j) : (l.set j u).take i = l.take i := by
  apply List.ext_getElem?
  intro k
  simp only [List.getElem?_take, List.getElem?_set]
  split
  · split
    · omega
    · rfl
  · rfl
theorem drop_take_set (l : List Int) (i k : Nat) (u : Int) (h : i + k < l.length) : ((l.set (i + k) u).drop i).take (k + 1) = (l.drop i).take k ++ [u] := by
  have hl : k < ((l.set (i + k) u).drop i).length := by simp; omega
  rw [List.take_succ_eq_append_getElem hl]
  congr 1
  · apply List.ext_getElem?
    intro j
    simp only [List.getElem?_take, List.getElem?_drop, List.getElem?_set]
    split
    · split
      · omega
      · rfl
    · rfl
  · simp
theorem Dig.set {l : List Int} (h : Dig l) (j : Nat) {u : Int} (hu : 0 ≤ u ∧ u < 1073741824) : Dig (l.set j u) := fun x hx => by
  rcases List.mem_or_eq_of_mem_set hx with hx | rfl
  · exact h x hx
  · exact hu
theorem cellsI_set (l : List Int) (j : Nat) (u : Int) : (cellsI l).set j (.int .i64 u) = cellsI (l.set j u) := by simp [cellsI, List.map_set]
theorem mul_step {a zs b out out3 : List Int} {i : Nat} {x : Int} (Ho : mulOn a zs b = out.take i ++ mulOn (a.drop i) (out.drop i) b) (ha : a.drop i = x :: a.drop (i + 1)) (hi : i < out3.length) (ht : out3.take i = out.take i) (hrow : row x 0 (out.drop i) b = out3.drop i) :
    mulOn a zs b = out3.take (i + 1) ++ mulOn (a.drop (i + 1)) (out3.drop (i + 1)) b := by
  rw [Ho, ha, mulOn, hrow, List.drop_eq_getElem_cons hi]
  simp only
  rw [List.take_succ_eq_append_getElem hi, ht, List.append_assoc]
  rfl
theorem madeCells_int (n : Nat) : (madeCells (Value.int .i64 0).cells (n * 1)).toList = cellsI (List.replicate n 0) := by
  simp only [madeCells, Value.cells, cellsI]
  apply List.ext_getElem
  · simp
  · intro j h1 h2; simp [Nat.mod_one]
end Go.Proofs.YtkheoaleamolcaaDoor
