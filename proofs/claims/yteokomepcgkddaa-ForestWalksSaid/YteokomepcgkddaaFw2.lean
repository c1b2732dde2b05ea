/-
  Where a step starts and ends; the marks that the law ForestWalks sets.
-/
import Derived.Test.YteokomepcgkddaaFy
import Derived.Test.YteokomepcgkddaaFh
namespace Go.Proofs.Yteokomepcgkddaa
open Go.RowKit

set_option maxHeartbeats 1000000 in
theorem ends_any (n : Int) (ars : List ArcV) (A : Option Addr) (l c i fx tx : Nat) (bk : Bool) (a : ArcV) (w : World) (hl : ars.length = l) (hx : ∀ a ∈ ars, a.fit) (hr : Rd w w.heap.size A (cellsA ars)) (ha : ars[i]? = some a) (hf : a.f = (fx : Int)) (ht : a.t = (tx : Int)) :
    Calls Try.prog 20 #[.agg #[.int .i64 n, .slice A l c], .agg #[.int .i64 i, .bool bk]] w fun e w' => e = .returned (.tuple #[.int .i64 (if bk then tx else fx : Nat), .int .i64 (if bk then fx else tx : Nat)]) ∧ Below w.heap.size w w' := by
  have hil : i < l := by rw [← hl]; exact (List.getElem?_eq_some_iff.1 ha).1
  have b1 := (Below.refl w.heap.size w).alloc (Nat.le_refl _) (.cells #[.int .i64 n, .slice A l c] 24)
  have b2 := b1.alloc b1.size (.cells #[.int .i64 i, .bool bk] 48)
  have k2 := (Blk.new w w.heap.size rfl 24 #[.int .i64 n, .slice A l c]).alloc (.cells #[.int .i64 i, .bool bk] 48)
  have s2 := Blk.new (w.alloc (.cells #[.int .i64 n, .slice A l c] 24)) (w.heap.size + 1) (by simp) 48 #[.int .i64 i, .bool bk]
  obtain ⟨b, off, a', rfl, hbl, hfa, c0, c1, c2, c3, c4, _, hae⟩ := (hr.below b2 (Nat.le_refl _)).arc (k := i) hx (by omega)
  obtain rfl : a' = a := by have := hae.out; rw [ha] at this; exact (Option.some.inj this).symm
  rw [hf] at c0
  rw [ht] at c1
  have h1 : (0 : Int) ≤ (i : Int) := by omega
  have h2 : (i : Int) < (l : Int) := by omega
  clear hae ha hf ht
  obtain ⟨W, hW⟩ : ∃ W, (w.alloc (.cells #[.int .i64 n, .slice (some ⟨b, off, none⟩) l c] 24)).alloc (.cells #[.int .i64 i, .bool bk] 48) = W := ⟨_, rfl⟩
  rw [hW] at b2 k2 s2 c0 c1 c2 c3 c4
  have n1 := k2.cell 1
  have t0 := s2.cell 0
  have t1 := s2.cell 1
  simp at n1 t0 t1
  have kB := Blk.new W W.heap.size rfl 46 #[.int .i64 fx, .int .i64 tx, .int .i64 a'.g, .int .i64 a'.k, .int .i64 a'.s]
  have b3 := b2.alloc b2.size (.cells #[.int .i64 fx, .int .i64 tx, .int .i64 a'.g, .int .i64 a'.k, .int .i64 a'.s] 46)
  have t1' := (s2.alloc (.cells #[.int .i64 fx, .int .i64 tx, .int .i64 a'.g, .int .i64 a'.k, .int .i64 a'.s] 46)).cell 1
  simp at t1'
  clear b1 k2 s2 hr
  cases bk
  all_goals
    go_enter Try.func20, Try.ntmps20
    go_upto_region 1 with fail
    try rw [hW]
    clear hW
    go_wp2
    go_quiet (fail)
    go_wp2
    go_ret2
    exact ⟨rfl, Below.drewN b3 _⟩
end Go.Proofs.Yteokomepcgkddaa
