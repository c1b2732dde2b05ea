/-
  forest.Path: the walk where there is no path to tell.
-/
import Derived.Test.YteokomepcgkddaaFt
namespace Go.Proofs.Yteokomepcgkddaa
open Go.RowKit

theorem path_bad (n : Int) (ars : List ArcV) (A : Option Addr) (l c : Nat) (s t : Int) (w : World) (hl : ars.length = l) (hx : ∀ a ∈ ars, a.fit) (hr : Rd w w.heap.size A (cellsA ars)) (hm : l ≤ maxLen) (hc : checkF n ars ≠ 0) :
    Calls Try.prog 17 #[.agg #[.int .i64 n, .slice A l c], .int .i64 s, .int .i64 t] w fun e w' => e = .returned (.tuple #[.slice none 0 0, .int .i64 (checkF n ars)]) ∧ Below w.heap.size w w' := by
  have b0 := (Below.refl w.heap.size w).alloc (Nat.le_refl _) (.cells #[.int .i64 n, .slice A l c] 24)
  have kb := Blk.new w _ rfl 24 #[.int .i64 n, .slice A l c]
  obtain ⟨q, hq⟩ : ∃ q, checkF n ars = q := ⟨_, rfl⟩
  have hne : (q != 0) = true := by rw [hq] at hc; simpa using hc
  have Hq := Lib.hid hq
  have Hc := Lib.hid hc
  clear hq hc
  rw [Hq.out]
  go_enter Try.func17, Try.ntmps17
  go_wp2_with fail
  refine (of_bad n ars A l c _ hl hx ((hr.below b0 (Nat.le_refl _)).more (by simp)) hm Hc.out).mono ?_; rintro e w1 ⟨rfl, hb1⟩
  rw [Hq.out]
  have b1 := b0.trans (hb1.mono (by simp))
  have b2 := b1.alloc b1.size (.cells #[.slice none 0 0, .slice none 0 0] 27)
  clear kb
  go_wp2
  go_ret2
  exact ⟨rfl, b2⟩

theorem path_node (n : Nat) (ars : List ArcV) (A : Option Addr) (l c : Nat) (s t : Int) (w : World) (hl : ars.length = l) (hx : ∀ a ∈ ars, a.fit) (hr : Rd w w.heap.size A (cellsA ars)) (hm : l ≤ maxLen) (hc : checkF n ars = 0) (hs : fits s) (ht : fits t) (hst : s < 0 ∨ t < 0 ∨ n ≤ s ∨ n ≤ t) :
    Calls Try.prog 17 #[.agg #[.int .i64 n, .slice A l c], .int .i64 s, .int .i64 t] w fun e w' => e = .returned (.tuple #[.slice none 0 0, .int .i64 100]) ∧ Below w.heap.size w w' := by
  have b0 := (Below.refl w.heap.size w).alloc (Nat.le_refl _) (.cells #[.int .i64 n, .slice A l c] 24)
  have kb := Blk.new w _ rfl 24 #[.int .i64 n, .slice A l c]
  have Hc := Lib.hid hc
  clear hc
  unfold fits at hs ht
  by_cases hmn : min s t < 0
  all_goals
    go_enter Try.func17, Try.ntmps17
    go_wp2_with fail
    refine (of_walk n ars A l c _ hl hx ((hr.below b0 (Nat.le_refl _)).more (by simp)) hm Hc.out).mono ?_; rintro e w1 ⟨At, ct, gh, rfl, hgh, ot, oh, hb1⟩
    have b1 := b0.trans (hb1.mono (by simp))
    have b2 := b1.alloc b1.size (.cells #[.slice At (treeF n ars).length ct, .slice (some ⟨gh, 0, none⟩) n n] 27)
    have k2 := (kb.below hb1 (by simp)).alloc (.cells #[.slice At (treeF n ars).length ct, .slice (some ⟨gh, 0, none⟩) n n] 27)
    have n0 := k2.cell 0
    simp at n0
    clear kb k2 ot oh
    go_wp2
    all_goals
      go_ret2
      exact ⟨rfl, b2⟩

set_option maxRecDepth 100000 in
theorem path_apart (n : Nat) (ars : List ArcV) (A : Option Addr) (l c : Nat) (s t : Nat) (w : World) (hl : ars.length = l) (hx : ∀ a ∈ ars, a.fit) (hr : Rd w w.heap.size A (cellsA ars)) (hm : l ≤ maxLen) (hc : checkF n ars = 0) (hs : s < n) (ht : t < n) (hst : root (upF n ars) s ≠ root (upF n ars) t) :
    Calls Try.prog 17 #[.agg #[.int .i64 n, .slice A l c], .int .i64 s, .int .i64 t] w fun e w' => e = .returned (.tuple #[.slice none 0 0, .int .i64 110]) ∧ Below w.heap.size w w' := by
  have b0 := (Below.refl w.heap.size w).alloc (Nat.le_refl _) (.cells #[.int .i64 n, .slice A l c] 24)
  have kb := Blk.new w _ rfl 24 #[.int .i64 n, .slice A l c]
  obtain ⟨_, hn32, _, _⟩ := checkF_ok hc
  have Hc := Lib.hid hc
  clear hc
  have c1 := homeF_at (ars := ars) hs
  have c2 := homeF_at (ars := ars) ht
  obtain ⟨x, hx1⟩ : ∃ x, root (upF n ars) s = x := ⟨_, rfl⟩
  obtain ⟨y, hy1⟩ : ∃ y, root (upF n ars) t = y := ⟨_, rfl⟩
  rw [hx1] at c1 hst
  rw [hy1] at c2 hst
  have hne : ((x : Int) != (y : Int)) = true := by simp; omega
  have Hc1 := Lib.hid c1
  have Hc2 := Lib.hid c2
  clear hx1 hy1 c1 c2 hst
  go_enter Try.func17, Try.ntmps17
  go_wp2_with fail
  refine (of_walk n ars A l c _ hl hx ((hr.below b0 (Nat.le_refl _)).more (by simp)) hm Hc.out).mono ?_; rintro e w1 ⟨At, ct, gh, rfl, hgh, ot, oh, hb1⟩
  have b1 := b0.trans (hb1.mono (by simp))
  have b2 := b1.alloc b1.size (.cells #[.slice At (treeF n ars).length ct, .slice (some ⟨gh, 0, none⟩) n n] 27)
  have k2 := (kb.below hb1 (by simp)).alloc (.cells #[.slice At (treeF n ars).length ct, .slice (some ⟨gh, 0, none⟩) n n] 27)
  have kF := Blk.new w1 _ rfl 27 #[.slice At (treeF n ars).length ct, .slice (some ⟨gh, 0, none⟩) n n]
  have oh2 := oh.alloc (.cells #[.slice At (treeF n ars).length ct, .slice (some ⟨gh, 0, none⟩) n n] 27)
  obtain ⟨W, hW⟩ : ∃ W, w1.alloc (.cells #[.slice At (treeF n ars).length ct, .slice (some ⟨gh, 0, none⟩) n n] 27) = W := ⟨_, rfl⟩
  obtain ⟨bF, hbF⟩ : ∃ bF, w1.heap.size = bF := ⟨_, rfl⟩
  rw [hW] at b2 k2 kF oh2
  rw [hbF] at kF
  have n0 := k2.cell 0
  have f1 := kF.cell 1
  have d1 := oh2.cellAt s (by omega)
  have d2 := oh2.cellAt t (by omega)
  rw [show (cellsI (homeF n ars))[s]? = some (.int .i64 x) by simp [cellsI, Hc1.out]] at d1
  rw [show (cellsI (homeF n ars))[t]? = some (.int .i64 y) by simp [cellsI, Hc2.out]] at d2
  simp at n0 f1
  clear kb k2 kF ot oh oh2 b0 b1 hgh hb1
  go_upto_region 4 with fail
  try rw [hW]
  clear hW
  go_cut [30] (fun s wx => wx = W ∧ s = .bool false)
  case first =>
    go_wp2_with fail
    all_goals go_meet
    all_goals (refine ⟨rfl, ?_⟩; first | rfl | (congr 1; simp; done) | (congr 1; simp; omega))
  case rest =>
    obtain ⟨rfl, rfl⟩ := hcut
    go_wp2
    go_quiet (fail)
    go_wp2
    go_ret2
    exact ⟨rfl, Below.drewN b2 _⟩
end Go.Proofs.Yteokomepcgkddaa
