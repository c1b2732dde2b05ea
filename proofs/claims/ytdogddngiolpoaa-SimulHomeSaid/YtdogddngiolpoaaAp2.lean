/-
  pianolakeep.Apart: the walk, over any number of lists in blocks of their own.
-/
import Derived.Test.YtdogddngiolpoaaAp
import Derived.Deep.DeepCutAuto
import Derived.IntWalk
namespace Go.Proofs.Ytdogddngiolpoaa
open Go.RowKit

def markOf (j k : Nat) : Int := (j : Int) * 1000003 + (k : Int)
def tailOf (j k : Nat) : Int := -(j : Int) * 1000003 - (k : Int) - 1
def marksOf (j n : Nat) : List Int := (List.range n).map fun k => markOf j k
def tailsOf (j n : Nat) : List Int := (List.range n).map fun k => tailOf j k
theorem marksOf_length (j n : Nat) : (marksOf j n).length = n := by simp [marksOf]
theorem tailsOf_length (j n : Nat) : (tailsOf j n).length = n := by simp [tailsOf]
theorem marksOf_at {j n k : Nat} (h : k < n) : (marksOf j n)[k]? = some (markOf j k) := by simp [marksOf, h]
theorem tailsOf_at {j n k : Nat} (h : k < n) : (tailsOf j n)[k]? = some (tailOf j k) := by simp [tailsOf, h]
theorem tailsOf_succ (j n : Nat) : tailsOf j (n + 1) = tailsOf j n ++ [tailOf j n] := by simp [tailsOf, List.range_succ]
theorem marksOf_succ (j n : Nat) : marksOf j (n + 1) = marksOf j n ++ [markOf j n] := by simp [marksOf, List.range_succ]
/-- so far it is marked -/
def upTo (n : Nat → Nat) (i k j : Nat) : Nat := if j < i then n j else if j = i then k else 0
def marking (n : Nat → Nat) (xs : Nat → List Int) (i k j : Nat) : List Int := marksOf j (upTo n i k j) ++ (xs j).drop (upTo n i k j)
def growing (n : Nat → Nat) (i k j : Nat) : List Int := marksOf j (n j) ++ tailsOf j (upTo (fun _ => 16) i k j)
theorem marking_zero (n : Nat → Nat) (xs : Nat → List Int) (j : Nat) : marking n xs 0 0 j = xs j := by
  unfold marking upTo
  by_cases h : j = 0 <;> simp [h, marksOf]
theorem upTo_next (n : Nat → Nat) (i j : Nat) : upTo n i (n i) j = upTo n (i + 1) 0 j := by
  unfold upTo
  by_cases h : j < i
  · rw [if_pos h, if_pos (by omega)]
  · by_cases h2 : j = i
    · subst h2; rw [if_neg h, if_pos rfl, if_pos (by omega)]
    · rw [if_neg h, if_neg h2, if_neg (by omega)]
      split <;> rfl
theorem marking_next (n : Nat → Nat) (xs : Nat → List Int) (i : Nat) : marking n xs i (n i) = marking n xs (i + 1) 0 := by
  funext j; unfold marking; rw [upTo_next]
theorem growing_next (n : Nat → Nat) (i : Nat) : growing n i 16 = growing n (i + 1) 0 := by
  funext j; unfold growing; rw [show (16 : Nat) = (fun _ : Nat => 16) i from rfl, upTo_next]
theorem upTo_self (n : Nat → Nat) (i k : Nat) : upTo n i k i = k := by unfold upTo; rw [if_neg (by omega), if_pos rfl]
theorem upTo_other {n : Nat → Nat} {i k k' j : Nat} (h : j ≠ i) : upTo n i k j = upTo n i k' j := by unfold upTo; rw [if_neg h, if_neg h]
theorem marking_other {n : Nat → Nat} {xs : Nat → List Int} {i k k' j : Nat} (h : j ≠ i) : marking n xs i k j = marking n xs i k' j := by unfold marking; rw [upTo_other h]
theorem growing_other {n : Nat → Nat} {i k k' j : Nat} (h : j ≠ i) : growing n i k j = growing n i k' j := by unfold growing; rw [upTo_other h]
theorem marking_set {n : Nat → Nat} {xs : Nat → List Int} {i k : Nat} (hl : (xs i).length = n i) (hk : k < n i) : (marking n xs i k i).set k (markOf i k) = marking n xs i (k + 1) i := by
  unfold marking
  rw [upTo_self, upTo_self, List.set_append_right _ _ (by rw [marksOf_length]; exact Nat.le_refl _), marksOf_length, Nat.sub_self, marksOf_succ, List.append_assoc]
  rw [List.drop_eq_getElem_cons (show k < (xs i).length by omega), List.set_cons_zero]
  rfl
theorem marking_length {n : Nat → Nat} {xs : Nat → List Int} {i k j : Nat} (hl : (xs j).length = n j) (hk : j = i → k ≤ n j) : (marking n xs i k j).length = n j := by
  unfold marking upTo
  split
  · simp [marksOf_length, hl]
  · split
    · rename_i h; have := hk h; simp [marksOf_length, hl]; omega
    · simp [marksOf_length, hl]
theorem marking_end {n : Nat → Nat} {xs : Nat → List Int} {m j : Nat} (hl : (xs j).length = n j) (hj : j < m) : marking n xs m 0 j = marksOf j (n j) := by
  unfold marking upTo
  rw [if_pos hj, List.drop_eq_nil_of_le (by omega), List.append_nil]
theorem growing_succ (n : Nat → Nat) (i k : Nat) : growing n i k i ++ [tailOf i k] = growing n i (k + 1) i := by
  unfold growing
  rw [upTo_self, upTo_self, tailsOf_succ, List.append_assoc]
theorem growing_length (n : Nat → Nat) (i k : Nat) : (growing n i k i).length = n i + k := by unfold growing; rw [upTo_self]; simp [marksOf_length, tailsOf_length]
theorem growing_zero {n : Nat → Nat} {j : Nat} : growing n 0 0 j = marksOf j (n j) := by
  unfold growing upTo
  by_cases h : j = 0 <;> simp [h, tailsOf]
theorem growing_end {n : Nat → Nat} {m j : Nat} (hj : j < m) : growing n m 0 j = marksOf j (n j) ++ tailsOf j 16 := by
  unfold growing upTo
  rw [if_pos hj]
def upd {α : Type} (f : Nat → α) (i : Nat) (v : α) : Nat → α := fun j => if j = i then v else f j
theorem upd_self {α : Type} (f : Nat → α) (i : Nat) (v : α) : upd f i v i = v := if_pos rfl
theorem upd_other {α : Type} {f : Nat → α} {i j : Nat} {v : α} (h : j ≠ i) : upd f i v j = f j := if_neg h
theorem map_upd {α : Type} (f : Nat → α) (m i : Nat) (v : α) : (List.range m).map (upd f i v) = ((List.range m).map f).set i v := by
  apply List.ext_getElem?
  intro j
  by_cases hji : i = j
  · subst hji
    by_cases hjm : i < m
    · rw [List.getElem?_set_self (by simpa using hjm)]
      simp [hjm, upd_self]
    · simp [hjm]
  · rw [List.getElem?_set_ne hji]
    simp only [List.getElem?_map]
    by_cases hjm : j < m
    · simp [hjm, upd_other (fun h => hji h.symm)]
    · simp [hjm]
theorem cellsI_put (l : List Int) (j : Nat) (u : Int) : (cellsI l).set j (.int .i64 u) = cellsI (l.set j u) := by simp [cellsI, List.map_set]
/-- the block that an address lies in -/
def blkOf : Option Addr → Option Nat
  | some a => some a.block
  | none => none
theorem ownBlock_slice (A : Option Addr) (n c : Nat) : (Value.slice A n c).ownBlock = blkOf A := by cases A <;> rfl
end Go.Proofs.Ytdogddngiolpoaa
