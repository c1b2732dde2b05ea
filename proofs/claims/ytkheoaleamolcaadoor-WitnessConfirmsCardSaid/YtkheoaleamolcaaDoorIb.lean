/-
  The walk of ints.Sum over a slice that reads as a list of numbers.
-/
import Derived.Test.YtkheoaleamolcaaDoorIa
import Derived.Outline
namespace Go.Proofs.YtkheoaleamolcaaDoor
open Go.RowKit

/-- a slice's cells, of whatever address where there are none -/
def Rd (w : World) (B : Nat) (A : Option Addr) (cs : List Value) : Prop :=
  cs = [] ∨ ∃ b off, A = some ⟨b, off, none⟩ ∧ b < B ∧ ∀ j u, cs[j]? = some u → w.cell? ⟨b, off + j, none⟩ = some u
/-- numbers as cells -/
def cellsI (xs : List Int) : List Value := xs.map (Value.int .i64)
def AllFit (xs : List Int) : Prop := ∀ x ∈ xs, fits x
theorem cellsI_length (xs : List Int) : (cellsI xs).length = xs.length := by simp [cellsI]
theorem Rd.at_ {w : World} {B : Nat} {A : Option Addr} {xs : List Int} {k : Nat} (h : Rd w B A (cellsI xs)) (hx : AllFit xs) (hk : k < xs.length) :
    ∃ b off x, A = some ⟨b, off, none⟩ ∧ b < B ∧ fits x ∧ w.cell? ⟨b, off + k, none⟩ = some (.int .i64 x) ∧ Hid (xs.drop k = x :: xs.drop (k + 1)) ∧ Hid (xs[k]? = some x) := by
  rcases h with h | ⟨b, off, ha, hb, hc⟩
  · have := cellsI_length xs; rw [h] at this; simp at this; omega
  · refine ⟨b, off, xs[k], ha, hb, hx _ (List.getElem_mem _), hc k _ ?_, List.drop_eq_getElem_cons hk, List.getElem?_eq_getElem hk⟩
    simp [cellsI, List.getElem?_map, List.getElem?_eq_getElem hk]

theorem AllFit.drop {xs : List Int} (h : AllFit xs) (k : Nat) : AllFit (xs.drop k) := fun x hx => h x (List.mem_of_mem_drop hx)
theorem natAbs_fit {x : Int} (h : fits x) : x.natAbs < 18446744073709551616 := by unfold fits at h; omega

/-- numbers added from the left to the right, on from t -/
def sumFrom (t : Int) : List Int → Int × Bool
  | [] => (t, true)
  | x :: xs => if okB (t + x) = true then sumFrom (t + x) xs else (0, false)

end Go.Proofs.YtkheoaleamolcaaDoor
