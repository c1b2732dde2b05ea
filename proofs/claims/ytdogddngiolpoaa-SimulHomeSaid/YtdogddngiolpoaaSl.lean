/-
  The document's state at the start.
-/
import Derived.Test.YtdogddngiolpoaaSk
import Derived.Deep.OwnRows
import Derived.Deep.Onto
namespace Go.Proofs.Ytdogddngiolpoaa
open Go.RowKit

theorem made_ints (n : Nat) : madeCells #[Value.int .i64 0] n = (cellsI (rowF (fun _ => 0) n)).toArray := by
  apply Array.ext'
  apply List.ext_getElem
  · simp [madeCells, cellsI, rowF]
  · intro j h1 h2; simp [madeCells, cellsI, rowF, Nat.mod_one]
theorem own_new (w : World) (b : Nat) (hb : b = w.heap.size) (e : TypeId) (cs : List Value) (n : Nat) (hn : cs.length = n) (hm : n ≤ maxLen) : (w.alloc (.cells cs.toArray e)).ownsRow b e 1 (.slice (some ⟨b, 0, none⟩) n n) n cs := by
  subst hb hn
  exact ⟨by simp, .inr ⟨w.heap.size, cs.length, cs.toArray, rfl, Nat.le_refl _, heap_alloc_new w _, Nat.le_refl _, hm, by simp, by simp⟩⟩

set_option maxHeartbeats 1000000 in
theorem rStart_any (n : Nat) (A : Option Addr) (l c : Nat) (w : World) (n32 : n ≤ 32) :
    Calls Try.prog 29 #[.agg #[.int .i64 n, .slice A l c]] w fun e w' => ∃ g, e = .returned (.agg #[.int .i64 n, .slice A l c, .slice (some ⟨g, 0, none⟩) n n]) ∧ w.heap.size ≤ g ∧ w'.ownsRow w.heap.size 3 1 (.slice (some ⟨g, 0, none⟩) n n) n (cellsI (rowF (fun _ => 0) n)) ∧ Below w.heap.size w w' := by
  have hmk := run_make_row' (P := Try.prog) 25 3 (.int .i64 0) 8 Try.underlying25 info_int rfl .i64 .i64 n (by omega) (by omega)
  rw [made_ints] at hmk
  go_enter Try.func29, Try.ntmps29
  go_wp2_with fail
  go_region
  have b1 := (Below.refl w.heap.size w).alloc (Nat.le_refl _) (.cells #[.int .i64 n, .slice A l c] 24)
  have b2 := b1.alloc b1.size (.cells #[.int .i64 n, .slice A l c, .slice (some ⟨w.heap.size + 1 + 1, 0, none⟩) n n] 61)
  have k2 := Blk.new (w.alloc (.cells #[.int .i64 n, .slice A l c] 24)) (w.heap.size + 1) (by simp) 61 #[.int .i64 n, .slice A l c, .slice (some ⟨w.heap.size + 1 + 1, 0, none⟩) n n]
  have k3 := k2.alloc (.cells (cellsI (rowF (fun _ => 0) n)).toArray 3)
  have b3 := b2.alloc b2.size (.cells (cellsI (rowF (fun _ => 0) n)).toArray 3)
  have o3 := own_new ((w.alloc (.cells #[.int .i64 n, .slice A l c] 24)).alloc (.cells #[.int .i64 n, .slice A l c, .slice (some ⟨w.heap.size + 1 + 1, 0, none⟩) n n] 61)) (w.heap.size + 1 + 1) (by simp) 3 (cellsI (rowF (fun _ => 0) n)) n (by rw [cellsI_length, rowF_length]) (by unfold maxLen; omega)
  have t0 := k3.cell 0
  have t1 := k3.cell 1
  have t2 := k3.cell 2
  simp only [List.getElem?_toArray, List.getElem?_cons_zero, List.getElem?_cons_succ] at t0 t1 t2
  generalize (((w.alloc (.cells #[.int .i64 n, .slice A l c] 24)).alloc (.cells #[.int .i64 n, .slice A l c, .slice (some ⟨w.heap.size + 1 + 1, 0, none⟩) n n] 61)).alloc (.cells (cellsI (rowF (fun _ => 0) n)).toArray 3)) = W at *
  have t0' : W.drew.cell? ⟨w.heap.size + 1, 0, none⟩ = some (.int .i64 n) := t0
  have t1' : W.drew.cell? ⟨w.heap.size + 1, 1, none⟩ = some (.slice A l c) := t1
  have t2' : W.drew.cell? ⟨w.heap.size + 1, 2, none⟩ = some (.slice (some ⟨w.heap.size + 1 + 1, 0, none⟩) n n) := t2
  go_wp2
  exact bodyPost_ret (v := .agg #[.int .i64 n, .slice A l c, .slice (some ⟨w.heap.size + 1 + 1, 0, none⟩) n n]) (by simp [results, Try.results29, go_sem, t0, t1, t2]) rfl ⟨w.heap.size + 1 + 1, rfl, by omega, World.ownsRow.mono o3 (by omega), Below.drewN b3 1⟩
end Go.Proofs.Ytdogddngiolpoaa
