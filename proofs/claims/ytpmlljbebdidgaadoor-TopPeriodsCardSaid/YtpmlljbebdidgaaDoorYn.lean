/-
  balance.Solve at any net.
-/
import Derived.Test.YtpmlljbebdidgaaDoorYm
namespace Go.Proofs.YtpmlljbebdidgaaDoor
open Go.RowKit

set_option maxRecDepth 100000 in
set_option maxHeartbeats 4000000 in
theorem solve_bad (n : Int) (ars : List ArcV) (A : Option Addr) (l c : Nat) (w : World) (hl : ars.length = l) (hx : ∀ a ∈ ars, a.fit) (hr : Rd w w.heap.size A (cellsA ars)) (hml : l ≤ maxLen) (hc : checkF n ars ≠ 0) :
    Calls Tryd.prog 6 #[.agg #[.int .i64 n, .slice A l c]] w (SolOut n ars w) := by
  go_enter Tryd.func6, Tryd.ntmps6
  go_upto_region 1 with fail
  have BW := (Below.refl w.heap.size w).alloc (Nat.le_refl _) (.cells #[.int .i64 n, .slice A l c] 30)
  have BW := BW.alloc BW.size (.cells #[.int .u8 0, .slice none 0 0, .slice none 0 0] 38)
  have kn := (Blk.new w _ rfl 30 #[.int .i64 n, .slice A l c]).alloc (.cells #[.int .u8 0, .slice none 0 0, .slice none 0 0] 38)
  have kb := Blk.new (w.alloc (.cells #[.int .i64 n, .slice A l c] 30)) (w.heap.size + 1) (by simp) 38 #[.int .u8 0, .slice none 0 0, .slice none 0 0]
  obtain ⟨W0, hW0⟩ : ∃ W, (w.alloc (.cells #[.int .i64 n, .slice A l c] 30)).alloc (.cells #[.int .u8 0, .slice none 0 0, .slice none 0 0] 38) = W := ⟨_, rfl⟩
  rw [hW0] at BW kn kb ⊢
  have hrA := (hr.below BW (Nat.le_refl _)).more BW.size
  obtain ⟨bn, hbn⟩ : ∃ b, w.heap.size = b := ⟨_, rfl⟩
  obtain ⟨bb, hbb⟩ : ∃ b, bn + 1 = b := ⟨_, rfl⟩
  have HW := Lib.hid BW
  rw [hbn] at kn kb ⊢
  rw [hbb] at kb ⊢
  have HBN := Lib.hid hbn
  have HBB := Lib.hid hbb
  clear hW0 BW hr hbn hbb
  have n0 := kn.cell 0
  have n1 := kn.cell 1
  simp at n0 n1
  go_wp2_with fail
  refine (of_any n ars A l c W0 hl hx hrA hml).mono ?_
  rintro e w1 ⟨At, ct, Ah, ch, k, tree, home, rfl, hof, hrt, hrh, hb1⟩
  obtain ⟨rfl, rfl, rfl⟩ : k = checkF n ars ∧ tree = [] ∧ home = [] := by
    rcases hof with ⟨-, h1, h2, h3⟩ | ⟨h, -⟩
    · exact ⟨h1, h2, h3⟩
    · exact absurd h hc
  obtain ⟨q, hq⟩ : ∃ q, checkF n ars = q := ⟨_, rfl⟩
  rw [hq] at hc ⊢
  have HQ := Lib.hid hq
  have hq1 : (q != 0) = true := by simp [hc]
  have kb1 := (kb.below hb1 kb.lt).alloc (.cells #[.slice At 0 ct, .slice Ah 0 ch] 70)
  have hb2 := hb1.alloc hb1.size (.cells #[.slice At 0 ct, .slice Ah 0 ch] 70)
  obtain ⟨W2, hW2⟩ : ∃ W, w1.alloc (.cells #[.slice At 0 ct, .slice Ah 0 ch] 70) = W := ⟨_, rfl⟩
  rw [hW2] at kb1 hb2
  have r0 := kb1.cell 0
  have r1 := kb1.cell 1
  have r2 := kb1.cell 2
  have z0 := kb1.frozen 0
  have z1 := kb1.frozen 1
  have z2 := kb1.frozen 2
  simp at r0 r1 r2
  have kb5 := ((kb1.set 0 (.int .u8 0)).set 1 (.slice none 0 0)).set 2 (.slice none 0 0)
  simp at kb5
  have s0 := kb5.cell 0
  have s1 := kb5.cell 1
  have s2 := kb5.cell 2
  simp at s0 s1 s2
  have hbbw : w.heap.size ≤ bb := by have := HBN.out; have := HBB.out; omega
  have BZ := Lib.hid ((((HW.out.trans (hb2.mono HW.out.size)).setCell (p := ⟨bb, 0, none⟩) hbbw (.int .u8 0)).setCell (p := ⟨bb, 1, none⟩) hbbw (.slice none 0 0)).setCell (p := ⟨bb, 2, none⟩) hbbw (.slice none 0 0))
  clear kb5 kb1 hof hrt hrh hb1 hb2 kn kb hrA n0 n1 hq hbbw
  go_wp2_with fail
  refine bodyPost_ret (v := .tuple #[.agg #[.int .u8 0, .slice none 0 0, .slice none 0 0], .int .i64 q]) (by simp [results, Tryd.results6, go_sem, s0, s1, s2]) rfl ?_
  exact ⟨0, [], [], q, none, 0, none, 0, rfl, .inl ⟨by rw [HQ.out]; exact hc, HQ.out.symm, rfl, rfl, rfl⟩, fun _ => ⟨rfl, rfl⟩, fun _ => ⟨rfl, rfl⟩, World.ownsRow_nil _ _ _ _, World.ownsRow_nil _ _ _ _, BZ.out⟩
theorem solve_any (n : Int) (ars : List ArcV) (A : Option Addr) (l c : Nat) (w : World) (hl : ars.length = l) (hx : ∀ a ∈ ars, a.fit) (hr : Rd w w.heap.size A (cellsA ars)) (hml : l ≤ maxLen) (hT : Tab w) :
    Calls Tryd.prog 6 #[.agg #[.int .i64 n, .slice A l c]] w (SolOut n ars w) := by
  by_cases hc : checkF n ars = 0
  · obtain ⟨m, rfl⟩ := checkF_nat hc
    exact solve_ok m ars A l c w hl hx hr hT hc
  · exact solve_bad n ars A l c w hl hx hr hml hc
end Go.Proofs.YtpmlljbebdidgaaDoor
