/-
  What a slice of numbers reads as, for a seat of plain rows.
-/
import Derived.Test.YtdogddngiolpoaaFQ
namespace Go.Proofs.Ytdogddngiolpoaa
open Go.ChangeShapes Go.WideShapes Go.ChangeAt Go.RowKit

theorem cellsInt : Try.prog.cellsOf 3 = 1 := by kernel_rfl
theorem bytesInt : Try.prog.bytesOf 3 = 8 := by kernel_rfl

/-- what a slice of numbers reads as -/
theorem open_list {H : Type} {enc : TypeId × Value → H} {W : World} {base : Nat} {v : Value} {d : DataW H} {p : List MemPlace} {ts : List TypeId} {ds : List (DataW H)} {j : Nat} (hv : Value.okWide Try.prog W .any base 25 v) (h : DataW.Trod enc Try.prog W 0 (fun _ => true) true 25 v d p)
    (hz : (DataW.weightsEach Try.prog ts ds).all (· ≤ reachBytes) = true) (ht : ts[j]? = some 25) (hd : ds[j]? = some d) :
    ∃ A n c xs, v = .slice A n c ∧ List.length xs = n ∧ n ≤ c ∧ AllFit xs ∧ Rd W W.heap.size A (cellsI xs) ∧ c * 8 ≤ 140737488351232 := by
  obtain ⟨a0, len, cap, rfl⟩ := okWide_slice Try.underlying25 hv
  obtain ⟨fuel, hf⟩ := h
  rcases open_ints Try.underlying25 Try.underlying3 cellsInt hf with ⟨hcs, hx⟩ | ⟨a, len', cap', zs, hcs, _, hl, hm, hzl, hx, hcell, hwz⟩
  · simp only [Value.cells, List.cons.injEq, Value.slice.injEq] at hcs
    obtain ⟨⟨rfl, rfl, rfl⟩, _⟩ := hcs
    exact ⟨none, 0, 0, [], rfl, rfl, Nat.le_refl _, fun x hx => (by cases hx), .inl rfl, by omega⟩
  · simp only [Value.cells, List.cons.injEq, Value.slice.injEq] at hcs
    obtain ⟨⟨rfl, rfl, rfl⟩, _⟩ := hcs
    simp only [if_true] at hzl
    have hd0 : d = .slice (lits .i64 (zs.take len)) (lits .i64 (zs.drop len)) := congrArg Prod.fst hx
    rw [hd0] at hd
    have hsz := sized_slice hz ht hd Try.underlying25
    rw [bytesInt] at hsz
    simp only [lits, List.length_map, List.length_take, List.length_drop, reachBytes] at hsz
    refine ⟨some a, len, cap, zs.take len, rfl, by simp; omega, hl, fun x hx => fits_of_wf (hwz x (List.mem_of_mem_take hx)), ?_, by omega⟩
    by_cases h0 : 0 < zs.length
    · obtain ⟨b, off, rfl, hc⟩ := ints_at hcell h0
      refine .inr ⟨b, off, rfl, World.block_lt_of_cell? W ⟨b, off + 0, none⟩ (hc 0 h0), fun i u hu => ?_⟩
      have hi := (List.getElem?_eq_some_iff.1 hu).1
      rw [cellsI_length, List.length_take] at hi
      rw [hc i (by omega), ← hu]
      simp [cellsI, show i < len by omega, show i < zs.length by omega]
    · left
      have : zs = [] := List.eq_nil_of_length_eq_zero (by omega)
      simp [this, cellsI]

end Go.Proofs.Ytdogddngiolpoaa
