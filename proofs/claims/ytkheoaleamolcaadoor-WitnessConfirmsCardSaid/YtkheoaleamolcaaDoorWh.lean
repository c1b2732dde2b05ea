/-
  The references' whole numbers: Int: a Whole as an int, if it fits.
-/
import Derived.Test.YtkheoaleamolcaaDoorWg
namespace Go.Proofs.YtkheoaleamolcaaDoor
open Go.RowKit
attribute [local go_sem ↓] Go.wp_at_zero Go.wp_at_succ

theorem one_blk {w w1 : World} {x0 y0 : Value} {T : TypeId} (hb : Below (w.alloc (.cells #[x0, y0] T)).drew.heap.size (w.alloc (.cells #[x0, y0] T)).drew w1) : Blk w1 w.heap.size T #[x0, y0] := by
  have s3 : (w.alloc (.cells #[x0, y0] T)).drew.heap.size = w.heap.size + 1 := by simp [World.drew]
  exact (hb.block w.heap.size (by rw [s3]; omega)).trans (Blk.new w _ rfl T #[x0, y0])
theorem val_part {ds : List Int} (h : Dig ds) (j : Nat) : val (ds.drop j) ≤ val ds := by
  have e := val_append (ds.take j) (ds.drop j)
  rw [List.take_append_drop] at e
  have h1 := val_nonneg (h.take j)
  have h2 := val_nonneg (h.drop j)
  have h3 := pw_pos (ds.take j).length
  have h4 := Int.mul_le_mul_of_nonneg_right h3 h2
  omega
theorem fitsLow : fits (-9223372036854775808) := by unfold fits; omega
theorem fitsHigh : fits 9223372036854775807 := by unfold fits; omega

def IntPost (w : World) (z : Int) (e : Ending) (w' : World) : Prop := e = .returned (.tuple #[.int .i64 (okOf z), .bool (okB z)]) ∧ Below w.heap.size w w'





end Go.Proofs.YtkheoaleamolcaaDoor
