/-
  The references' whole numbers: Plus where the signs differ; Plus at every two of them; Minus; Cmp.
-/
import Derived.Test.YtkheoaleamolcaaDoorWe
namespace Go.Proofs.YtkheoaleamolcaaDoor
open Go.RowKit
attribute [local go_sem ↓] Go.wp_at_zero Go.wp_at_succ

theorem below_drewN {B : Nat} {a w : World} (h : Below B a w) (n : Nat) : Below B a (w.drewN n) := ⟨h.os, h.tape, h.output, h.size, h.block⟩
theorem three_blks {w w1 : World} {x0 y0 x1 y1 x2 y2 : Value} {T : TypeId} (hb : Below (((w.alloc (.cells #[x0, y0] T)).alloc (.cells #[x1, y1] T)).alloc (.cells #[x2, y2] T)).drew.heap.size (((w.alloc (.cells #[x0, y0] T)).alloc (.cells #[x1, y1] T)).alloc (.cells #[x2, y2] T)).drew w1) :
    Blk w1 w.heap.size T #[x0, y0] ∧ Blk w1 (w.heap.size + 1) T #[x1, y1] ∧ Blk w1 (w.heap.size + 1 + 1) T #[x2, y2] := by
  have s3 : (((w.alloc (.cells #[x0, y0] T)).alloc (.cells #[x1, y1] T)).alloc (.cells #[x2, y2] T)).drew.heap.size = w.heap.size + 1 + 1 + 1 := by simp [World.drew]
  exact ⟨(hb.block w.heap.size (by rw [s3]; omega)).trans (((Blk.new w _ rfl T #[x0, y0]).alloc _).alloc _), (hb.block (w.heap.size + 1) (by rw [s3]; omega)).trans ((Blk.new (w.alloc (.cells #[x0, y0] T)) (w.heap.size + 1) (by simp) T #[x1, y1]).alloc _),
    (hb.block (w.heap.size + 1 + 1) (by rw [s3]; omega)).trans (Blk.new ((w.alloc (.cells #[x0, y0] T)).alloc (.cells #[x1, y1] T)) (w.heap.size + 1 + 1) (by simp) T #[x2, y2])⟩
theorem Blk.kept {w w' : World} {g : Nat} {t : TypeId} {cs : Array Value} (h : Blk w g t cs) (hb : Below w.heap.size w w') : Blk w' g t cs := (hb.block g h.lt).trans h
theorem boxes_then {w w1 : World} {x0 y0 x1 y1 x2 y2 : Value} {T : TypeId} {k : Nat} (hb : Below ((((w.alloc (.cells #[x0, y0] T)).alloc (.cells #[x1, y1] T)).alloc (.cells #[x2, y2] T)).drewN k).heap.size ((((w.alloc (.cells #[x0, y0] T)).alloc (.cells #[x1, y1] T)).alloc (.cells #[x2, y2] T)).drewN k) w1) :
    w1.cell? ⟨w.heap.size, 0, none⟩ = some x0 ∧ w1.cell? ⟨w.heap.size, 1, none⟩ = some y0 ∧ w1.cell? ⟨w.heap.size + 1, 0, none⟩ = some x1 ∧ w1.cell? ⟨w.heap.size + 1, 1, none⟩ = some y1 ∧
    w1.cell? ⟨w.heap.size + 1 + 1, 0, none⟩ = some x2 ∧ w1.cell? ⟨w.heap.size + 1 + 1, 1, none⟩ = some y2 ∧ w1.frozen? ⟨w.heap.size + 1 + 1, 0, none⟩ = false ∧ w1.frozen? ⟨w.heap.size + 1 + 1, 1, none⟩ = false ∧ w.heap.size + 1 + 1 < w1.heap.size ∧ Blk w1 (w.heap.size + 1 + 1) T #[x2, y2] :=
  three_boxes ⟨hb.os, hb.tape, hb.output, hb.size, hb.block⟩








theorem WIs.len {w : World} {v : Value} {z : Int} {n m : Nat} (h : WIs w v z n) (hz : z.natAbs < pw m) : n ≤ m := by
  obtain ⟨s, A, c, ds, rfl, hn, hc, hcm, hnorm, hr, hzv, hs⟩ := h
  by_cases h0 : ds = []
  · subst h0; simp at hn; omega
  · have h1 := val_low hnorm h0
    have h2 := val_nonneg hnorm.1
    rcases Nat.lt_or_ge m n with h | h
    · have h3 := pw_le (show m ≤ ds.length - 1 by omega)
      cases s <;> simp at hzv <;> omega
    · exact h


end Go.Proofs.YtkheoaleamolcaaDoor

