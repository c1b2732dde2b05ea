/-
  The reference's Solve at any net; Same; awake.
-/
import Derived.Test.YtlpmnhllnfhkdaaDoorYt
import Derived.Test.YtlpmnhllnfhkdaaDoorYn
import Derived.Test.YtlpmnhllnfhkdaaDoorM7
namespace Go.Proofs.YtlpmnhllnfhkdaaDoor
open Go.RowKit

set_option maxRecDepth 100000 in
set_option maxHeartbeats 4000000 in
theorem refSolve_bad (n : Int) (ars : List ArcV) (A : Option Addr) (l c : Nat) (w : World) (hl : ars.length = l) (hx : ∀ a ∈ ars, a.fit) (hr : Rd w w.heap.size A (cellsA ars)) (hml : l ≤ maxLen) (hc : checkF n ars ≠ 0) :
    Calls Tryd.prog 11 #[.agg #[.int .i64 n, .slice A l c]] w (RSolOut n ars w) := by
  go_enter Tryd.func11, Tryd.ntmps11
  go_upto_region 1 with fail
  have BW := (Below.refl w.heap.size w).alloc (Nat.le_refl _) (.cells #[.int .i64 n, .slice A l c] 24)
  have BW := BW.alloc BW.size (.cells #[.int .u8 0, .slice none 0 0, .slice none 0 0] 29)
  have kn := (Blk.new w _ rfl 24 #[.int .i64 n, .slice A l c]).alloc (.cells #[.int .u8 0, .slice none 0 0, .slice none 0 0] 29)
  have kb := Blk.new (w.alloc (.cells #[.int .i64 n, .slice A l c] 24)) (w.heap.size + 1) (by simp) 29 #[.int .u8 0, .slice none 0 0, .slice none 0 0]
  obtain ⟨W0, hW0⟩ : ∃ W, (w.alloc (.cells #[.int .i64 n, .slice A l c] 24)).alloc (.cells #[.int .u8 0, .slice none 0 0, .slice none 0 0] 29) = W := ⟨_, rfl⟩
  rw [hW0] at BW kn kb ⊢
  have hrA := (hr.below BW (Nat.le_refl _)).more BW.size
  obtain ⟨bn, hbn⟩ : ∃ b, w.heap.size = b := ⟨_, rfl⟩
  obtain ⟨bb, hbb⟩ : ∃ b, bn + 1 = b := ⟨_, rfl⟩
  have HW := Lib.hid BW
  rw [hbn] at kn kb ⊢
  rw [hbb] at kb ⊢
  have HBN := Lib.hid hbn
  have HBB := Lib.hid hbb
  clear hW0 BW hr hbn hbb
  have n0 := kn.cell 0
  have n1 := kn.cell 1
  simp at n0 n1
  go_wp2_with fail
  refine (refOf_any n ars A l c W0 hl hx hrA hml).mono ?_
  rintro e w1 ⟨At, ct, Ah, ch, k, tree, home, rfl, hof, hrt, hrh, hb1⟩
  obtain ⟨rfl, rfl, rfl⟩ : k = checkF n ars ∧ tree = [] ∧ home = [] := by
    rcases hof with ⟨-, h1, h2, h3⟩ | ⟨h, -⟩
    · exact ⟨h1, h2, h3⟩
    · exact absurd h hc
  obtain ⟨q, hq⟩ : ∃ q, checkF n ars = q := ⟨_, rfl⟩
  rw [hq] at hc ⊢
  have HQ := Lib.hid hq
  have hq1 : (q != 0) = true := by simp [hc]
  have kb1 := (kb.below hb1 kb.lt).alloc (.cells #[.slice At 0 ct, .slice Ah 0 ch] 54)
  have hb2 := hb1.alloc hb1.size (.cells #[.slice At 0 ct, .slice Ah 0 ch] 54)
  obtain ⟨W2, hW2⟩ : ∃ W, w1.alloc (.cells #[.slice At 0 ct, .slice Ah 0 ch] 54) = W := ⟨_, rfl⟩
  rw [hW2] at kb1 hb2
  have r0 := kb1.cell 0
  have r1 := kb1.cell 1
  have r2 := kb1.cell 2
  have z0 := kb1.frozen 0
  have z1 := kb1.frozen 1
  have z2 := kb1.frozen 2
  simp at r0 r1 r2
  have kb5 := ((kb1.set 0 (.int .u8 0)).set 1 (.slice none 0 0)).set 2 (.slice none 0 0)
  simp at kb5
  have s0 := kb5.cell 0
  have s1 := kb5.cell 1
  have s2 := kb5.cell 2
  simp at s0 s1 s2
  have hbbw : w.heap.size ≤ bb := by have := HBN.out; have := HBB.out; omega
  have BZ := Lib.hid ((((HW.out.trans (hb2.mono HW.out.size)).setCell (p := ⟨bb, 0, none⟩) hbbw (.int .u8 0)).setCell (p := ⟨bb, 1, none⟩) hbbw (.slice none 0 0)).setCell (p := ⟨bb, 2, none⟩) hbbw (.slice none 0 0))
  clear kb5 kb1 hof hrt hrh hb1 hb2 kn kb hrA n0 n1 hq hbbw
  go_wp2_with fail
  refine bodyPost_ret (v := .tuple #[.agg #[.int .u8 0, .slice none 0 0, .slice none 0 0], .int .i64 q]) (by simp [results, Tryd.results11, go_sem, s0, s1, s2]) rfl ?_
  exact ⟨0, [], [], q, none, 0, none, 0, rfl, .inl ⟨by rw [HQ.out]; exact hc, HQ.out.symm, rfl, rfl, rfl⟩, .inl rfl, .inl rfl, BZ.out⟩
theorem refSolve_any (n : Int) (ars : List ArcV) (A : Option Addr) (l c : Nat) (w : World) (hl : ars.length = l) (hx : ∀ a ∈ ars, a.fit) (hr : Rd w w.heap.size A (cellsA ars)) (hml : l ≤ maxLen) :
    Calls Tryd.prog 11 #[.agg #[.int .i64 n, .slice A l c]] w (RSolOut n ars w) := by
  by_cases hc : checkF n ars = 0
  · obtain ⟨m, rfl⟩ := checkF_nat hc
    exact refSolve_ok m ars A l c w hl hx hr hc
  · exact refSolve_bad n ars A l c w hl hx hr hml hc

set_option maxRecDepth 100000 in
set_option maxHeartbeats 1000000 in
theorem same13_yes (vd : Int) (reps : List Int) (cyc : List Stp) (A A' C C' : Option Addr) (l m ca ca' cc cc' : Nat) (w : World) (hl : reps.length = l) (hm : cyc.length = m) (hx : AllFit reps) (hA : Rd w w.heap.size A (cellsI reps)) (hA' : Rd w w.heap.size A' (cellsI reps))
    (hC : Rd w w.heap.size C (cellsS cyc)) (hC' : Rd w w.heap.size C' (cellsS cyc)) (h1 : l ≤ maxLen) (h2 : m ≤ maxLen) :
    Calls Tryd.prog 14 #[.agg #[.int .u8 vd, .slice A l ca, .slice C m cc], .agg #[.int .u8 vd, .slice A' l ca', .slice C' m cc']] w fun e w' => e = .returned (.bool true) ∧ Below w.heap.size w w' := by
  go_enter Tryd.func14, Tryd.ntmps14
  go_upto_region 1 with fail
  obtain ⟨W, hW⟩ : ∃ W, (w.alloc (.cells #[.int .u8 vd, .slice A l ca, .slice C m cc] 29)).alloc (.cells #[.int .u8 vd, .slice A' l ca', .slice C' m cc'] 29) = W := ⟨_, rfl⟩
  have BW := (Below.refl w.heap.size w).alloc (Nat.le_refl _) (.cells #[.int .u8 vd, .slice A l ca, .slice C m cc] 29)
  have BW := BW.alloc BW.size (.cells #[.int .u8 vd, .slice A' l ca', .slice C' m cc'] 29)
  have ka := (Blk.new w _ rfl 29 #[.int .u8 vd, .slice A l ca, .slice C m cc]).alloc (.cells #[.int .u8 vd, .slice A' l ca', .slice C' m cc'] 29)
  have kb := Blk.new (w.alloc (.cells #[.int .u8 vd, .slice A l ca, .slice C m cc] 29)) (w.heap.size + 1) (by simp) 29 #[.int .u8 vd, .slice A' l ca', .slice C' m cc']
  rw [hW] at BW ka kb ⊢
  have a0 := ka.cell 0
  have a1 := ka.cell 1
  have a2 := ka.cell 2
  have b0 := kb.cell 0
  have b1 := kb.cell 1
  have b2 := kb.cell 2
  simp at a0 a1 a2 b0 b1 b2
  have HS := Lib.hid (sameInts_yes reps A A' l ca ca' _ _ W hl hx (hA.below BW (Nat.le_refl _)) (hA'.below BW (Nat.le_refl _)) h1)
  have HC := Lib.hid (fun (w2 : World) (hd : Drawn W w2) => sameSteps_yes cyc C C' m cc cc' w.heap.size w.heap.size w2 hm ((hC.below BW (Nat.le_refl _)).below (hd.below w.heap.size) (Nat.le_refl _)) ((hC'.below BW (Nat.le_refl _)).below (hd.below w.heap.size) (Nat.le_refl _)) h2)
  have HW := Lib.hid BW
  clear hA hA' hC hC' BW hW ka kb
  go_wp2_with fail
  refine HS.out.mono ?_
  rintro e w2 ⟨rfl, hd⟩
  obtain ⟨d, rfl⟩ := hd
  go_wp2_with fail
  refine (HC.out _ ⟨d, rfl⟩).mono ?_
  rintro e w3 ⟨rfl, hd3⟩
  have B3 := Lib.hid (HW.out.trans ((((Drawn.refl W).drewN d).below w.heap.size).trans (hd3.below w.heap.size)))
  go_wp2_with fail
  go_ret
  exact ⟨rfl, B3.out⟩

/-- three against two -/
def awA : List ArcV := [⟨0, 1, 2, 3, 0⟩]
/-- a loop of 2 against 1 -/
def awB : List ArcV := [⟨0, 0, 2, 1, 0⟩]
theorem awA_check : checkF ((2 : Nat) : Int) awA = 0 := by decide
theorem awB_check : checkF ((1 : Nat) : Int) awB = 0 := by decide
theorem awA_R0 : cR 2 awA 0 = 3 := by decide +kernel
theorem awA_R1 : cR 2 awA 1 = 2 := by decide +kernel
theorem awB_R0 : cR 1 awB 0 = 1 := by decide +kernel
theorem awA_sol : SolA 2 awA 1 [3, 2] [] 0 := by
  refine .inr ⟨awA_check, rfl, 2, rfl, .inr (.inr ⟨?_, ?_, rfl, ?_, rfl⟩)⟩
  · rintro ⟨v, hv, h⟩
    have h2 : v = 0 ∨ v = 1 := by omega
    rcases h2 with rfl | rfl
    · rw [awA_R0] at h; omega
    · rw [awA_R1] at h; omega
  · intro a ha
    simp [awA] at ha
    subst ha
    unfold evA
    show decide ((2 : Int) * (cR 2 awA 0 : Int) = 3 * (cR 2 awA 1 : Int)) = true
    rw [awA_R0, awA_R1]
    decide
  · show [3, 2] = [(cR 2 awA 0 : Int), (cR 2 awA 1 : Int)]
    rw [awA_R0, awA_R1]
    rfl
theorem awB_path : PathAns ((1 : Nat) : Int) awB 0 0 0 [] := by
  obtain ⟨T, hT⟩ := finv_end (n := 1) (ars := awB) (by decide)
  exact .inr (.inr (.inr ⟨awB_check, 1, 0, 0, rfl, rfl, rfl, by omega, by omega, rfl, rfl, T, hT, rfl, trivial⟩))
theorem awB_sol : SolA 1 awB 2 [] [(0, false)] 0 := by
  refine .inr ⟨awB_check, rfl, 1, rfl, .inr (.inl ⟨?_, rfl, rfl, 0, ⟨0, 0, 2, 1, 0⟩, [], ⟨rfl, ?_, fun j b hj => by omega⟩, awB_path, rfl⟩)⟩
  · rintro ⟨v, hv, h⟩
    obtain rfl : v = 0 := by omega
    rw [awB_R0] at h
    omega
  · unfold evA
    show decide ((2 : Int) * (cR 1 awB 0 : Int) = 1 * (cR 1 awB 0 : Int)) = false
    rw [awB_R0]
    decide
theorem aw_fitA : ∀ a ∈ awA, a.fit := by
  intro a ha
  simp [awA] at ha
  subst ha
  refine ⟨?_, ?_, ?_, ?_, ?_⟩ <;> (unfold fits; simp)
theorem aw_fitB : ∀ a ∈ awB, a.fit := by
  intro a ha
  simp [awB] at ha
  subst ha
  refine ⟨?_, ?_, ?_, ?_, ?_⟩ <;> (unfold fits; simp)

set_option maxRecDepth 100000 in
set_option maxHeartbeats 2000000 in
theorem awake_any (w : World) (hT : Tab w) : Calls Tryd.prog 17 #[] w fun e w' => e = .returned (.bool true) ∧ Below w.heap.size w w' := by
  have hlm : ∀ n : Nat, n ≤ 2 → n ≤ maxLen := fun n hn => by unfold maxLen; omega
  go_enter Tryd.func17, Tryd.ntmps17
  have rA := rd_alloc w _ rfl 44 (cellsA awA)
  have rA : Rd (w.alloc (.cells #[.int .i64 0, .int .i64 1, .int .i64 2, .int .i64 3, .int .i64 0] 44)) (w.heap.size + 1) (some ⟨w.heap.size, 0, none⟩) (cellsA awA) := rA
  have b1 := (Below.refl w.heap.size w).alloc (Nat.le_refl _) (.cells #[.int .i64 0, .int .i64 1, .int .i64 2, .int .i64 3, .int .i64 0] 44)
  have t1 := hT.below b1 hT.pos
  have HA := Lib.hid (solve_any 2 awA (some ⟨w.heap.size, 0, none⟩) 1 1 _ rfl aw_fitA (rA.more (by simp)) (hlm 1 (by omega)) t1)
  have B1 := Lib.hid b1
  have T1 := Lib.hid t1
  clear rA b1 t1
  go_upto_region 1 with fail
  go_wp2_with fail
  refine HA.out.mono ?_
  rintro e w2 ⟨vd, reps, cyc, k, Ar, cr, Ac, cc, rfl, hs, -, -, oR, oC, hb2⟩
  obtain ⟨rfl, rfl, rfl, rfl⟩ := hs.one awA_sol
  have b2 := B1.out.trans (hb2.mono B1.out.size)
  have t2 := T1.out.below hb2 T1.out.pos
  clear HA hs oC hb2 B1 T1
  have oR : w2.ownsRow _ 3 1 (.slice Ar 2 cr) 2 (cellsI [3, 2]) := oR
  obtain ⟨W3, hW3⟩ : ∃ W, w2.alloc (.cells #[.int .u8 1, .slice Ar 2 cr, .slice Ac 0 cc] 29) = W := ⟨_, rfl⟩
  have hb3 := (Below.refl w2.heap.size w2).alloc (Nat.le_refl _) (.cells #[.int .u8 1, .slice Ar 2 cr, .slice Ac 0 cc] 29)
  have k3 := Blk.new w2 _ rfl 29 #[.int .u8 1, .slice Ar 2 cr, .slice Ac 0 cc]
  have rR3 := ((rd_of_own oR).below hb3 (Nat.le_refl _)).more hb3.size
  obtain ⟨g3, hg3⟩ : ∃ g, w2.heap.size = g := ⟨_, rfl⟩
  rw [hW3] at hb3 k3 rR3
  rw [hg3] at k3
  have b3 := b2.trans (hb3.mono b2.size)
  have t3 := t2.below hb3 t2.pos
  -- the second net
  have rB := rd_alloc W3 _ rfl 44 (cellsA awB)
  have rB : Rd (W3.alloc (.cells #[.int .i64 0, .int .i64 0, .int .i64 2, .int .i64 1, .int .i64 0] 44)) (W3.heap.size + 1) (some ⟨W3.heap.size, 0, none⟩) (cellsA awB) := rB
  have b4 := (Below.refl W3.heap.size W3).alloc (Nat.le_refl _) (.cells #[.int .i64 0, .int .i64 0, .int .i64 2, .int .i64 1, .int .i64 0] 44)
  have t4 := t3.below b4 t3.pos
  have HB := Lib.hid (solve_any 1 awB (some ⟨W3.heap.size, 0, none⟩) 1 1 _ rfl aw_fitB (rB.more (by simp)) (hlm 1 (by omega)) t4)
  have k4 := k3.below b4 k3.lt
  have rR4 := (rR3.below b4 (Nat.le_refl _)).more b4.size
  have B4 := Lib.hid (b3.trans (b4.mono b3.size))
  have T4 := Lib.hid t4
  clear oR hb3 k3 rR3 b3 t3 rB b4 t4 b2 t2
  go_upto_region 2 with fail
  try rw [hg3]
  try rw [hW3]
  clear hW3 hg3
  go_wp2_with fail
  refine HB.out.mono ?_
  rintro e w5 ⟨vd, reps, cyc, k, Ar2, cr2, Ac2, cc2, rfl, hs, -, -, oR2, oC2, hb5⟩
  obtain ⟨rfl, rfl, rfl, rfl⟩ := hs.one awB_sol
  have b5 := B4.out.trans (hb5.mono B4.out.size)
  have t5 := T4.out.below hb5 T4.out.pos
  have k5 := k4.below hb5 k4.lt
  have rR5 := (rR4.below hb5 (Nat.le_refl _)).more hb5.size
  have oC2 : w5.ownsRow _ 39 2 (.slice Ac2 1 cc2) 1 (cellsS [(0, false)]) := oC2
  clear HB hs oR2 hb5 B4 T4 k4 rR4
  obtain ⟨gc, hAc⟩ := own_addr oC2 (by omega)
  subst hAc
  obtain ⟨W6, hW6⟩ : ∃ W, w5.alloc (.cells #[.int .u8 2, .slice Ar2 0 cr2, .slice (some ⟨gc, 0, none⟩) 1 cc2] 29) = W := ⟨_, rfl⟩
  have hb6 := (Below.refl w5.heap.size w5).alloc (Nat.le_refl _) (.cells #[.int .u8 2, .slice Ar2 0 cr2, .slice (some ⟨gc, 0, none⟩) 1 cc2] 29)
  have k6 := Blk.new w5 _ rfl 29 #[.int .u8 2, .slice Ar2 0 cr2, .slice (some ⟨gc, 0, none⟩) 1 cc2]
  have oC6 := oC2.alloc (.cells #[.int .u8 2, .slice Ar2 0 cr2, .slice (some ⟨gc, 0, none⟩) 1 cc2] 29)
  obtain ⟨g6, hg6⟩ : ∃ g, w5.heap.size = g := ⟨_, rfl⟩
  rw [hW6] at hb6 k6 oC6
  rw [hg6] at k6
  have b6 := Lib.hid (b5.trans (hb6.mono b5.size))
  have t6 := Lib.hid (t5.below hb6 t5.pos)
  have m6 := k5.below hb6 k5.lt
  have rR6 := (rR5.below hb6 (Nat.le_refl _)).more hb6.size
  have y0 := oC6.cellAt 0 (by omega)
  have y1 := oC6.cellAt 1 (by omega)
  have r0 := m6.cell 0
  have r1 := m6.cell 1
  have r2 := m6.cell 2
  have s0 := k6.cell 0
  have s1 := k6.cell 1
  have s2 := k6.cell 2
  simp [cellsS, stepCells] at r0 r1 r2 s0 s1 s2 y0 y1
  -- SameInts of [3, 2]
  have rL := rd_alloc W6 _ rfl 3 (cellsI [3, 2])
  have rL : Rd (W6.alloc (.cells #[.int .i64 3, .int .i64 2] 3)) (W6.heap.size + 1) (some ⟨W6.heap.size, 0, none⟩) (cellsI [3, 2]) := rL
  have b7 := (Below.refl W6.heap.size W6).alloc (Nat.le_refl _) (.cells #[.int .i64 3, .int .i64 2] 3)
  have HSI := Lib.hid (sameInts_yes [3, 2] Ar (some ⟨W6.heap.size, 0, none⟩) 2 cr 2 _ _ _ rfl (by intro x hx; simp at hx; rcases hx with rfl | rfl <;> (unfold fits; omega)) (rR6.below b7 (Nat.le_refl _)) rL (hlm 2 (by omega)))
  have k7 := k6.below b7 k6.lt
  have oC7 := own_below oC6 b7
  have B7 := Lib.hid (b6.out.trans (b7.mono b6.out.size))
  clear b5 t5 k5 rR5 oC2 hb6 k6 oC6 m6 rR6 rL b7
  go_upto_region 3 with fail
  go_wp2_with fail
  refine HSI.out.mono ?_
  rintro e w8 ⟨rfl, d, rfl⟩
  have s0 := k7.cell 0
  have s2 := k7.cell 2
  have y0 := oC7.cellAt 0 (by omega)
  have y1 := oC7.cellAt 1 (by omega)
  simp [cellsS, stepCells] at s0 s2 y0 y1
  generalize hW7 : W6.alloc (.cells #[.int .i64 3, .int .i64 2] 3) = W7 at *
  have s0 : (W7.drewN d).cell? ⟨g6, 0, none⟩ = some (.int .u8 2) := s0
  have s2 : (W7.drewN d).cell? ⟨g6, 2, none⟩ = some (.slice (some ⟨gc, 0, none⟩) 1 cc2) := s2
  have y0 : (W7.drewN d).cell? ⟨gc, 0, none⟩ = some (.int .i64 0) := y0
  have y1 : (W7.drewN d).cell? ⟨gc, 1, none⟩ = some (.bool false) := y1
  have B8 := Lib.hid (Below.drewN B7.out d)
  clear hW7 HSI r0 r1 r2 s1 k7 oC7 B7
  go_wp2_with fail
  go_ret
  exact ⟨rfl, B8.out⟩
end Go.Proofs.YtlpmnhllnfhkdaaDoor
