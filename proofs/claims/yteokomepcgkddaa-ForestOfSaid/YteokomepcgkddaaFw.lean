/-
  pianolaref00.SameInts of two lists that are one; the law's example that is always asked.
-/
import Derived.Test.YteokomepcgkddaaFv
namespace Go.Proofs.Yteokomepcgkddaa
open Go.RowKit

set_option maxHeartbeats 400000 in
theorem sameInts_yes (xs : List Int) (A A' : Option Addr) (n c c' B B' : Nat) (w : World) (hn : xs.length = n) (hx : AllFit xs) (hr : Rd w B A (cellsI xs)) (hr' : Rd w B' A' (cellsI xs)) (hl : n ≤ maxLen) :
    Calls Try.prog 12 #[.slice A n c, .slice A' n c'] w fun e w' => e = .returned (.bool true) ∧ Drawn w w' := by
  subst hn
  unfold maxLen at hl
  have hq : ((xs.length : Int) != (xs.length : Int)) = false := by simp
  go_enter Try.func12, Try.ntmps12
  go_wp2
  go_loopw [5] (fun i wr => ∃ k : Nat, k ≤ xs.length ∧ i = .int .i64 k ∧ Drawn w wr) (fun i _ => xs.length - (intOf i).toNat)
  case atStart => exact ⟨0, by omega, rfl, Drawn.refl w⟩
  case round =>
    obtain ⟨k, hk, rfl, hdw⟩ := hrel
    by_cases hlt : k < xs.length
    · obtain ⟨b, off, x, rfl, hb, hxk, hc, hd, hxx⟩ := (hdw.rd hr).at_ hx hlt
      obtain ⟨b', off', x', rfl, hb', hxk', hc', hd', hxx'⟩ := (hdw.rd hr').at_ hx hlt
      obtain rfl : x' = x := by have h := hxx.out; rw [hxx'.out] at h; exact Option.some.inj h
      have h1 : (0 : Int) ≤ (k : Int) := by omega
      have h2 : (k : Int) < (xs.length : Int) := by omega
      have h3 : (x' != x') = false := by simp
      go_wp2
      go_quiet (fail)
      go_wp2
      go_roundw
      case rel => exact ⟨k + 1, by omega, by go_num, hdw.drewN _⟩
      case measure => simp [intOf]; omega
    · go_wp2
      go_ret
      exact ⟨rfl, hdw⟩

def awArcs : List ArcV := [⟨1, 1, 1, 1, 0⟩, ⟨2, 1, 1, 1, 0⟩]
theorem aw_check : checkF (3 : Nat) awArcs = 0 := by decide
theorem aw_tree : treeF 3 awArcs = [1] := by decide
theorem aw_home : homeF 3 awArcs = [0, 1, 1] := by decide
theorem aw_fit : ∀ a ∈ awArcs, a.fit := by
  intro a ha
  simp [awArcs] at ha
  rcases ha with rfl | rfl <;> simp [ArcV.fit, fits]
theorem aw_root : root (upF 3 awArcs) 1 = root (upF 3 awArcs) 2 := by decide
theorem aw_path {T : List Edg} (hT : FInv 3 awArcs awArcs.length (upF 3 awArcs) (treeF 3 awArcs) T) {p : List Stp} (h : Walk T 1 p 2) (hr : Red p) : p = [(1, true)] := by
  refine uniq hT.forest h ⟨2, ?_, rfl⟩ hr trivial
  refine (stepOk_iff hT).2 ⟨by rw [aw_tree]; simp, ⟨2, 1, 1, 1, 0⟩, rfl, ?_⟩
  simp

set_option maxHeartbeats 1000000 in
theorem awake_any (w : World) : Calls Try.prog 15 #[] w fun e w' => e = .returned (.bool true) ∧ Below w.heap.size w w' := by
  obtain ⟨T, hT⟩ := finv_end (n := 3) (checkF_ok aw_check).2.2.2
  have b1 := (Below.refl w.heap.size w).alloc (Nat.le_refl _) (.cells #[.int .i64 1, .int .i64 1, .int .i64 1, .int .i64 1, .int .i64 0, .int .i64 2, .int .i64 1, .int .i64 1, .int .i64 1, .int .i64 0] 46)
  have r1 := rd_alloc w w.heap.size rfl 46 (cellsA awArcs)
  have hw1 : w.alloc (.cells (cellsA awArcs).toArray 46) = w.alloc (.cells #[.int .i64 1, .int .i64 1, .int .i64 1, .int .i64 1, .int .i64 0, .int .i64 2, .int .i64 1, .int .i64 1, .int .i64 1, .int .i64 0] 46) := rfl
  rw [hw1] at r1
  go_enter Try.func15, Try.ntmps15
  go_wp2_with fail
  clear hw1
  obtain ⟨W0, hW0⟩ : ∃ W0, w.alloc (.cells #[.int .i64 1, .int .i64 1, .int .i64 1, .int .i64 1, .int .i64 0, .int .i64 2, .int .i64 1, .int .i64 1, .int .i64 1, .int .i64 0] 46) = W0 := ⟨_, rfl⟩
  have hs0 : W0.heap.size = w.heap.size + 1 := by rw [← hW0]; simp
  rw [hW0] at b1 r1 ⊢
  clear hW0
  have b2 := b1.alloc b1.size (.cells #[.int .i64 3, .slice (some ⟨w.heap.size, 0, none⟩) 2 2] 24)
  have r2 : Rd (W0.alloc (.cells #[.int .i64 3, .slice (some ⟨w.heap.size, 0, none⟩) 2 2] 24)) (w.heap.size + 1) (some ⟨w.heap.size, 0, none⟩) (cellsA awArcs) := r1.below (Below.alloc (Below.refl W0.heap.size W0) (Nat.le_refl _) _) (by omega)
  have k2 := Blk.new W0 (w.heap.size + 1) hs0.symm 24 #[.int .i64 3, .slice (some ⟨w.heap.size, 0, none⟩) 2 2]
  generalize hW2 : W0.alloc (.cells #[.int .i64 3, .slice (some ⟨w.heap.size, 0, none⟩) 2 2] 24) = W2 at b2 r2 k2 ⊢
  have hs2 : w.heap.size + 1 < W2.heap.size := k2.lt
  clear b1 r1 hW2 hs0 W0
  refine (of_walk 3 awArcs (some ⟨w.heap.size, 0, none⟩) 2 2 W2 rfl aw_fit (r2.more (by omega)) (by unfold maxLen; omega) aw_check).mono ?_; rintro e w3 ⟨At, ct, gh, rfl, hgh, ot, oh, hb3⟩
  rw [aw_tree] at ot ⊢
  rw [aw_home] at oh
  have b3 := b2.trans (hb3.mono b2.size)
  have r3 := r2.below hb3 (by omega)
  have k3 := k2.below hb3 hs2
  have b4 := b3.alloc b3.size (.cells #[.slice At 1 ct, .slice (some ⟨gh, 0, none⟩) 3 3] 27)
  have r4 : Rd (w3.alloc (.cells #[.slice At 1 ct, .slice (some ⟨gh, 0, none⟩) 3 3] 27)) (w.heap.size + 1) (some ⟨w.heap.size, 0, none⟩) (cellsA awArcs) := r3.below (Below.alloc (Below.refl w3.heap.size w3) (Nat.le_refl _) _) (by have := hb3.size; omega)
  have k4 := k3.alloc (.cells #[.slice At 1 ct, .slice (some ⟨gh, 0, none⟩) 3 3] 27)
  have f4 := Blk.new w3 w3.heap.size rfl 27 #[.slice At 1 ct, .slice (some ⟨gh, 0, none⟩) 3 3]
  have t4 : Rd (w3.alloc (.cells #[.slice At 1 ct, .slice (some ⟨gh, 0, none⟩) 3 3] 27)) _ At (cellsI [1]) := rd_of_own (ot.alloc _)
  have h4 : Rd (w3.alloc (.cells #[.slice At 1 ct, .slice (some ⟨gh, 0, none⟩) 3 3] 27)) _ (some ⟨gh, 0, none⟩) (cellsI [0, 1, 1]) := rd_of_own (oh.alloc _)
  have n0 := k4.cell 0
  have n1 := k4.cell 1
  simp at n0 n1
  go_wp2_with fail
  have hb4 : w.heap.size + 1 ≤ w3.heap.size := by have := hb3.size; omega
  generalize hW4 : w3.alloc (.cells #[.slice At 1 ct, .slice (some ⟨gh, 0, none⟩) 3 3] 27) = W4 at b4 r4 k4 f4 t4 h4 n0 n1 ⊢
  generalize w3.heap.size = bF at f4 hb4 ⊢
  have hs4 := f4.lt
  clear hW4 ot oh b2 r2 k2 hs2 hb3 b3 r3 k3 hgh n0 n1 k4
  refine (path_ok 3 awArcs (some ⟨w.heap.size, 0, none⟩) 2 2 1 2 W4 T hT rfl aw_fit (r4.more (by omega)) (by unfold maxLen; omega) aw_check (by omega) (by omega) aw_root).mono ?_; rintro e w5 ⟨A5, c5, p, rfl, hwk, hrd, o5, hb5, _⟩
  obtain rfl := aw_path hT hwk hrd
  have b5 := b4.trans (hb5.mono b4.size)
  have f5 := f4.below hb5 hs4
  have t5 := t4.below hb5 (Nat.le_refl _)
  have h5 := h4.below hb5 (Nat.le_refl _)
  have c5' : ∃ g5, A5 = some ⟨g5, 0, none⟩ := by
    rcases o5.2 with ⟨_, h⟩ | ⟨g, cap, cur, h, _⟩
    · cases h
    · injection h with h; exact ⟨g, h⟩
  obtain ⟨g5, rfl⟩ := c5'
  have p0 : w5.cell? ⟨g5, 0, none⟩ = some (.int .i64 1) := o5.cellAt 0 (by simp)
  have p1 : w5.cell? ⟨g5, 1, none⟩ = some (.bool true) := o5.cellAt 1 (by simp)
  have f0 := f5.cell 0
  have f1 := f5.cell 1
  simp at f0 f1
  have s1 : ∀ {w : World} {o : Obj}, Below w.heap.size w (w.alloc o) := fun {w o} => (Below.refl _ _).alloc (Nat.le_refl _) o
  have hs5 := hb5.size
  have fit1 : AllFit [1] := by intro x hx; simp at hx; subst hx; unfold fits; omega
  have fit3 : AllFit [0, 1, 1] := by intro x hx; simp at hx; unfold fits; omega
  have b6 := b5.alloc b5.size (.cells #[.int .i64 1] 3)
  have f6 := f5.alloc (.cells #[.int .i64 1] 3)
  have t6 : Rd (w5.alloc (.cells #[.int .i64 1] 3)) _ At (cellsI [1]) := t5.below s1 hs5
  have h6 : Rd (w5.alloc (.cells #[.int .i64 1] 3)) _ (some ⟨gh, 0, none⟩) (cellsI [0, 1, 1]) := h5.below s1 hs5
  have l6 := rd_alloc w5 w5.heap.size rfl 3 (cellsI [1])
  have o6 := o5.alloc (.cells #[.int .i64 1] 3)
  clear b4 r4 f4 t4 h4 hb5 t5 h5 hwk hrd
  go_wp2_with fail
  refine (sameInts_yes [1] At (some ⟨w5.heap.size, 0, none⟩) 1 ct 1 _ _ _ rfl fit1 t6 l6 (by unfold maxLen; omega)).mono ?_; rintro e w' ⟨rfl, d1, rfl⟩
  have b7 := Below.drewN b6 d1
  have f7 : Blk ((w5.alloc (.cells #[.int .i64 1] 3)).drewN d1) bF 27 #[.slice At 1 ct, .slice (some ⟨gh, 0, none⟩) 3 3] := f6
  have h7 : Rd ((w5.alloc (.cells #[.int .i64 1] 3)).drewN d1) W4.heap.size (some ⟨gh, 0, none⟩) (cellsI [0, 1, 1]) := Drawn.rd ⟨d1, rfl⟩ h6
  have o7 : ((w5.alloc (.cells #[.int .i64 1] 3)).drewN d1).ownsRow W4.heap.size 48 2 (.slice (some ⟨g5, 0, none⟩) 1 c5) 1 (cellsS [(1, true)]) := o6
  have hs7 : W4.heap.size ≤ ((w5.alloc (.cells #[.int .i64 1] 3)).drewN d1).heap.size := Nat.le_trans hs5 (by simp)
  generalize (w5.alloc (.cells #[.int .i64 1] 3)).drewN d1 = w7 at b7 f7 h7 o7 hs7 ⊢
  clear b5 f5 o5 p0 p1 f0 f1 b6 f6 t6 h6 l6 o6 hs5
  have f1 := f7.cell 1
  simp at f1
  have b8 := b7.alloc b7.size (.cells #[.int .i64 0, .int .i64 1, .int .i64 1] 3)
  have h8 : Rd (w7.alloc (.cells #[.int .i64 0, .int .i64 1, .int .i64 1] 3)) _ (some ⟨gh, 0, none⟩) (cellsI [0, 1, 1]) := h7.below s1 hs7
  have l8 := rd_alloc w7 w7.heap.size rfl 3 (cellsI [0, 1, 1])
  have o8 := o7.alloc (.cells #[.int .i64 0, .int .i64 1, .int .i64 1] 3)
  go_wp2_with fail
  refine (sameInts_yes [0, 1, 1] (some ⟨gh, 0, none⟩) (some ⟨w7.heap.size, 0, none⟩) 3 3 3 _ _ _ rfl fit3 h8 l8 (by unfold maxLen; omega)).mono ?_; rintro e w' ⟨rfl, d2, rfl⟩
  have b9 := Below.drewN b8 d2
  have o9 : ((w7.alloc (.cells #[.int .i64 0, .int .i64 1, .int .i64 1] 3)).drewN d2).ownsRow W4.heap.size 48 2 (.slice (some ⟨g5, 0, none⟩) 1 c5) 1 (cellsS [(1, true)]) := o8
  generalize (w7.alloc (.cells #[.int .i64 0, .int .i64 1, .int .i64 1] 3)).drewN d2 = w9 at b9 o9 ⊢
  have p0 : w9.cell? ⟨g5, 0, none⟩ = some (.int .i64 1) := o9.cellAt 0 (by simp)
  have p1 : w9.cell? ⟨g5, 1, none⟩ = some (.bool true) := o9.cellAt 1 (by simp)
  clear b7 f7 h7 o7 hs7 f1 b8 h8 l8 o8 o9
  go_wp2_with fail
  go_ret
  exact ⟨rfl, b9⟩
end Go.Proofs.Yteokomepcgkddaa
