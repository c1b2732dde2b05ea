/-
  BalanceOne, BalanceHolds: what Solve answers is one of three; whether counts balance.
-/
import Derived.Test.YtlpmnhllnfhkdaaDoorYu
import Derived.Test.YtlpmnhllnfhkdaaDoorYv
namespace Go.Proofs.YtlpmnhllnfhkdaaDoor
open Go.RowKit

/-- Solve's answer, by its lengths -/
def OneOk (n : Int) (ars : List ArcV) (vd k : Int) (LR LC : Nat) : Prop :=
  (checkF n ars ≠ 0 ∧ k = checkF n ars ∧ vd = 0 ∧ LR = 0 ∧ LC = 0) ∨ (k = 0 ∧ vd = 1 ∧ (LR : Int) = n ∧ LC = 0) ∨ (k = 0 ∧ vd = 2 ∧ LR = 0 ∧ 0 < LC) ∨ (k = 0 ∧ vd = 3 ∧ LR = 0 ∧ LC = 0)
theorem SolA.oneOk {n : Int} {ars : List ArcV} {vd k : Int} {reps : List Int} {cyc : List Stp} (h : SolA n ars vd reps cyc k) : OneOk n ars vd k reps.length cyc.length := by
  rcases h with ⟨hc, rfl, rfl, rfl, rfl⟩ | ⟨hc, rfl, m, rfl, h⟩
  · exact .inl ⟨hc, rfl, rfl, rfl, rfl⟩
  · rcases h with ⟨-, rfl, rfl, rfl⟩ | ⟨-, rfl, rfl, i, a, p, -, -, rfl⟩ | ⟨-, -, rfl, rfl, rfl⟩
    · exact .inr (.inr (.inr ⟨rfl, rfl, rfl, rfl⟩))
    · exact .inr (.inr (.inl ⟨rfl, rfl, rfl, by simp⟩))
    · exact .inr (.inl ⟨rfl, rfl, by rw [rowN_length], rfl⟩)

set_option maxRecDepth 100000 in
set_option maxHeartbeats 4000000 in
theorem one_any (n : Int) (ars : List ArcV) (A : Option Addr) (l c : Nat) (w : World) (hl : ars.length = l) (hx : ∀ a ∈ ars, a.fit) (hr : Rd w w.heap.size A (cellsA ars)) (hm : l ≤ maxLen) (hT : Tab w) :
    Calls Tryd.prog 4 #[.agg #[.int .i64 n, .slice A l c]] w fun e w' => e = .returned (.bool true) ∧ Below w.heap.size w w' := by
  go_enter Tryd.func4, Tryd.ntmps4
  go_upto_region 1 with fail
  obtain ⟨W0, hW0⟩ : ∃ W, w.alloc (.cells #[.int .i64 n, .slice A l c] 24) = W := ⟨_, rfl⟩
  have BW := (Below.refl w.heap.size w).alloc (Nat.le_refl _) (.cells #[.int .i64 n, .slice A l c] 24)
  have kn := Blk.new w _ rfl 24 #[.int .i64 n, .slice A l c]
  rw [hW0] at BW kn ⊢
  have hrA := (hr.below BW (Nat.le_refl _)).more BW.size
  have hT0 := hT.below BW hT.pos
  have HW := Lib.hid BW
  have hsol := Lib.hid (solve_any n ars A l c W0 hl hx hrA hm hT0)
  clear hW0 BW hr
  have n0 := kn.cell 0
  have n1 := kn.cell 1
  simp at n0 n1
  go_wp2_with fail
  refine hsol.out.mono ?_
  rintro e w1 ⟨vd, reps, cyc, k, Ar, cr, Ac, cc, rfl, hs, -, -, oR, oC, hb1⟩
  have h1 := hs.oneOk
  obtain ⟨LR, hLR⟩ : ∃ L, reps.length = L := ⟨_, rfl⟩
  obtain ⟨LC, hLC⟩ : ∃ L, cyc.length = L := ⟨_, rfl⟩
  rw [hLR, hLC] at h1
  rw [hLR, hLC]
  clear hs oR oC hsol n0 n1 hLR hLC reps cyc
  obtain ⟨W2, hW2⟩ : ∃ W, w1.alloc (.cells #[.int .u8 vd, .slice Ar LR cr, .slice Ac LC cc] 29) = W := ⟨_, rfl⟩
  have hb2 := (Below.refl w1.heap.size w1).alloc (Nat.le_refl _) (.cells #[.int .u8 vd, .slice Ar LR cr, .slice Ac LC cc] 29)
  have kb2 := Blk.new w1 _ rfl 29 #[.int .u8 vd, .slice Ar LR cr, .slice Ac LC cc]
  obtain ⟨bb, hbb⟩ : ∃ b, w1.heap.size = b := ⟨_, rfl⟩
  rw [hW2] at hb2 kb2
  have b12 := hb1.trans (hb2.mono hb1.size)
  rw [hbb] at kb2
  have kn2 := kn.below b12 kn.lt
  have hrA2 := (hrA.below b12 (Nat.le_refl _)).more b12.size
  have hT2 := hT0.below b12 hT0.pos
  have B2 := Lib.hid (HW.out.trans (b12.mono HW.out.size))
  have HAW := Lib.hid (fun (w3 : World) (hb : Below W2.heap.size W2 w3) => awake_any w3 (hT2.below hb hT2.pos))
  have n0 := kn2.cell 0
  have n1 := kn2.cell 1
  have r0 := kb2.cell 0
  have r1 := kb2.cell 1
  have r2 := kb2.cell 2
  simp at n0 n1 r0 r1 r2
  have HC := Lib.hid (refCheck_any n ars A l c W2 hl hx hrA2 hm)
  have KB := Lib.hid kb2
  clear kn kn2 hrA hrA2 hT0 hb1 hb2 b12 hT2 HW
  rcases h1 with ⟨hc, rfl, rfl, rfl, rfl⟩ | ⟨rfl, rfl, hL, rfl⟩ | ⟨rfl, rfl, rfl, hL⟩ | ⟨rfl, rfl, rfl, rfl⟩
  · obtain ⟨q, hq⟩ : ∃ q, checkF n ars = q := ⟨_, rfl⟩
    rw [hq] at hc HC ⊢
    have hq1 : (q != 0) = true := by simp [hc]
    clear hq
    go_upto_region 2 with fail
    try rw [hbb]
    try rw [hW2]
    clear hW2 hbb
    go_wp2_with fail
    refine HC.out.mono ?_
    rintro e w3 ⟨rfl, hb3⟩
    have k3 := KB.out.below hb3 KB.out.lt
    have r0 := k3.cell 0
    have r1 := k3.cell 1
    have r2 := k3.cell 2
    simp at r0 r1 r2
    have B3 := Lib.hid (B2.out.trans (hb3.mono B2.out.size))
    have HA3 := Lib.hid (HAW.out w3 hb3)
    clear HC HAW hb3 k3
    go_wp2_with fail
    refine HA3.out.mono ?_
    rintro e w4 ⟨rfl, hb4⟩
    have B4 := Lib.hid (B3.out.trans (hb4.mono B3.out.size))
    clear hb4 HA3
    go_wp2_with fail
    go_ret
    exact ⟨rfl, B4.out⟩
  · subst hL
    have HA3 := Lib.hid (HAW.out W2 (Below.refl _ _))
    clear HC HAW
    go_upto_region 2 with fail
    try rw [hbb]
    try rw [hW2]
    clear hW2 hbb
    go_wp2_with fail
    refine HA3.out.mono ?_
    rintro e w4 ⟨rfl, hb4⟩
    have B4 := Lib.hid (B2.out.trans (hb4.mono B2.out.size))
    clear hb4 HA3
    go_wp2_with fail
    go_ret
    exact ⟨rfl, B4.out⟩
  · have HA3 := Lib.hid (HAW.out W2 (Below.refl _ _))
    have q1 : decide ((LC : Int) > 0) = true := decide_eq_true (by omega)
    have q2 : decide ((0 : Int) < (LC : Int)) = true := decide_eq_true (by omega)
    have q3 : decide (0 < LC) = true := decide_eq_true (by omega)
    clear HC HAW
    go_upto_region 2 with fail
    try rw [hbb]
    try rw [hW2]
    clear hW2 hbb
    go_wp2_with fail
    refine HA3.out.mono ?_
    rintro e w4 ⟨rfl, hb4⟩
    have B4 := Lib.hid (B2.out.trans (hb4.mono B2.out.size))
    clear hb4 HA3
    go_wp2_with fail
    go_ret
    exact ⟨rfl, B4.out⟩
  · have HA3 := Lib.hid (HAW.out W2 (Below.refl _ _))
    clear HC HAW
    go_upto_region 2 with fail
    try rw [hbb]
    try rw [hW2]
    clear hW2 hbb
    go_wp2_with fail
    refine HA3.out.mono ?_
    rintro e w4 ⟨rfl, hb4⟩
    have B4 := Lib.hid (B2.out.trans (hb4.mono B2.out.size))
    clear hb4 HA3
    go_wp2_with fail
    go_ret
    exact ⟨rfl, B4.out⟩

set_option maxRecDepth 100000 in
set_option maxHeartbeats 4000000 in
theorem holdsLaw_any (n : Int) (ars : List ArcV) (A : Option Addr) (l c : Nat) (xs : List Int) (R : Option Addr) (m cr : Nat) (w : World) (hl : ars.length = l) (hx : ∀ a ∈ ars, a.fit) (hr : Rd w w.heap.size A (cellsA ars)) (hm : l ≤ maxLen)
    (hn : xs.length = m) (hc : m ≤ cr) (hfx : AllFit xs) (hrx : Rd w w.heap.size R (cellsI xs)) (hz : cr * 8 ≤ 140737488351232) (hT : Tab w) :
    Calls Tryd.prog 8 #[.agg #[.int .i64 n, .slice A l c], .slice R m cr] w fun e w' => e = .returned (.bool true) ∧ Below w.heap.size w w' := by
  have hmm : m ≤ maxLen := by unfold maxLen; omega
  go_enter Tryd.func8, Tryd.ntmps8
  go_upto_region 1 with fail
  obtain ⟨W0, hW0⟩ : ∃ W, w.alloc (.cells #[.int .i64 n, .slice A l c] 24) = W := ⟨_, rfl⟩
  have BW := (Below.refl w.heap.size w).alloc (Nat.le_refl _) (.cells #[.int .i64 n, .slice A l c] 24)
  have kn := Blk.new w _ rfl 24 #[.int .i64 n, .slice A l c]
  rw [hW0] at BW kn ⊢
  have hrA := (hr.below BW (Nat.le_refl _)).more BW.size
  have hrX := (hrx.below BW (Nat.le_refl _)).more BW.size
  have hT0 := hT.below BW hT.pos
  have HW := Lib.hid BW
  clear hW0 BW hr hrx
  go_wp2_with fail
  refine (lent_any xs R m cr W0.heap.size W0 hn hrX (by omega) (Nat.le_refl _)).mono ?_
  rintro e w1 ⟨g, rfl, hg, o1, hb1⟩
  have kn1 := kn.below hb1 kn.lt
  have hrA1 := (hrA.below hb1 (Nat.le_refl _)).more hb1.size
  have hrX1 := (hrX.below hb1 (Nat.le_refl _)).more hb1.size
  have hT1 := hT0.below hb1 hT0.pos
  have B1 := Lib.hid (HW.out.trans (hb1.mono HW.out.size))
  have hcells := lent_cells o1 hn
  have n0 := kn1.cell 0
  have n1 := kn1.cell 1
  simp at n0 n1
  have H2 := Lib.hid (refHolds_any n ars A l c xs R m cr w1 hl hx hrA1 hm hn hfx hrX1 hmm)
  clear kn hrA hrX hT0 hb1 HW
  go_wp2_with fail
  refine H2.out.mono ?_
  rintro e w2 ⟨rfl, hb2⟩
  have kn2 := kn1.below hb2 kn1.lt
  have hrA2 := (hrA1.below hb2 (Nat.le_refl _)).more hb2.size
  have hrX2 := (hrX1.below hb2 (Nat.le_refl _)).more hb2.size
  have hT2 := hT1.below hb2 hT1.pos
  have B2 := Lib.hid (B1.out.trans (hb2.mono B1.out.size))
  have o2 := own_below o1 hb2
  have hL2 := (hcells.1.below hb2 (Nat.le_refl _)).more hb2.size
  have H3 := Lib.hid (holds_any n ars A l c xs (some ⟨g, 0, none⟩) m (m + 4) w2 hl hx hrA2 hm hn hfx hL2 hmm)
  clear H2 hb2 kn1 hrA1 hrX1 hT1 B1 o1 hcells n0 n1
  have n0 := kn2.cell 0
  have n1 := kn2.cell 1
  simp at n0 n1
  obtain ⟨hb, hhb⟩ : ∃ b, holdB n ars xs = b := ⟨_, rfl⟩
  obtain ⟨he, hhe⟩ : ∃ b, holdE n ars xs = b := ⟨_, rfl⟩
  rw [hhb, hhe] at H3 ⊢
  clear hhb hhe
  go_wp2_with fail
  refine H3.out.mono ?_
  rintro e w3 ⟨rfl, hb3⟩
  have hrX3 := (hrX2.below hb3 (Nat.le_refl _)).more hb3.size
  have hT3 := hT2.below hb3 hT2.pos
  have B3 := Lib.hid (B2.out.trans (hb3.mono B2.out.size))
  have o3 := own_below o2 hb3
  have H4 := Lib.hid (kept_yes xs R m cr g _ _ w3 hn hfx hrX3 (by omega) o3)
  clear H3 hb3 kn2 hrA2 hrX2 hT2 B2 o2 hL2 n0 n1 o3 hrX3
  go_wp2_with fail
  refine H4.out.mono ?_
  rintro e w4 ⟨rfl, hd4⟩
  have hb4 : Below w3.heap.size w3 w4 := hd4.below _
  have hT4 := hT3.below hb4 hT3.pos
  have B4 := Lib.hid (B3.out.trans (hb4.mono B3.out.size))
  have H5 := Lib.hid (awake_any w4 hT4)
  clear H4 hd4 hb4 hT3 hT4 B3
  have q1 : (hb == hb) = true := by simp
  have q2 : (he == he) = true := by simp
  go_wp2_with fail
  refine H5.out.mono ?_
  rintro e w5 ⟨rfl, hb5⟩
  have B5 := Lib.hid (B4.out.trans (hb5.mono B4.out.size))
  clear hb5 H5
  go_wp2_with fail
  go_ret
  exact ⟨rfl, B5.out⟩
end Go.Proofs.YtlpmnhllnfhkdaaDoor
