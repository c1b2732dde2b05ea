/-
  BalanceLeast.
-/
import Derived.Test.YtlpmnhllnfhkdaaDoorYx
namespace Go.Proofs.YtlpmnhllnfhkdaaDoor
open Go.RowKit

theorem holdE_bad {n : Int} {ars : List ArcV} {rs : List Int} (h : checkF n ars ≠ 0) : holdE n ars rs = checkF n ars ∧ holdB n ars rs = false := by
  unfold holdE holdB
  rw [if_neg h, decide_eq_false (fun hh => h hh.1)]
  exact ⟨rfl, rfl⟩
theorem holdE_ok {n : Int} {ars : List ArcV} {rs : List Int} (h : checkF n ars = 0) (hl : (rs.length : Int) = n) : holdE n ars rs = 0 := by
  unfold holdE
  rw [if_pos h, if_pos hl]

set_option maxRecDepth 100000 in
set_option maxHeartbeats 4000000 in
theorem leastLaw_any (n : Int) (ars : List ArcV) (A : Option Addr) (l c : Nat) (xs : List Int) (R : Option Addr) (m cr : Nat) (w : World) (hl : ars.length = l) (hx : ∀ a ∈ ars, a.fit) (hr : Rd w w.heap.size A (cellsA ars)) (hm : l ≤ maxLen)
    (hn : xs.length = m) (hc : m ≤ cr) (hfx : AllFit xs) (hrx : Rd w w.heap.size R (cellsI xs)) (hz : cr * 8 ≤ 140737488351232) (hT : Tab w) :
    Calls Tryd.prog 9 #[.agg #[.int .i64 n, .slice A l c], .slice R m cr] w fun e w' => e = .returned (.bool true) ∧ Below w.heap.size w w' := by
  have hmm : m ≤ maxLen := by unfold maxLen; omega
  go_enter Tryd.func9, Tryd.ntmps9
  go_upto_region 1 with fail
  obtain ⟨W0, hW0⟩ : ∃ W, w.alloc (.cells #[.int .i64 n, .slice A l c] 24) = W := ⟨_, rfl⟩
  have BW := (Below.refl w.heap.size w).alloc (Nat.le_refl _) (.cells #[.int .i64 n, .slice A l c] 24)
  have kn := Blk.new w _ rfl 24 #[.int .i64 n, .slice A l c]
  rw [hW0] at BW kn ⊢
  have hrA := (hr.below BW (Nat.le_refl _)).more BW.size
  have hrX := (hrx.below BW (Nat.le_refl _)).more BW.size
  have hT0 := hT.below BW hT.pos
  have HW := Lib.hid BW
  have hsol := Lib.hid (solve_any n ars A l c W0 hl hx hrA hm hT0)
  obtain ⟨bn, hbn⟩ : ∃ b, w.heap.size = b := ⟨_, rfl⟩
  have HBN := Lib.hid hbn
  rw [hbn] at kn ⊢
  clear hW0 BW hr hrx hbn
  have n0 := kn.cell 0
  have n1 := kn.cell 1
  simp at n0 n1
  go_wp2_with fail
  refine hsol.out.mono ?_
  rintro e w1 ⟨vd, reps, cyc, k, Ar, cr1, Ac, cc, rfl, hs, -, -, oR, oC, hb1⟩
  obtain ⟨LR, hLR⟩ : ∃ L, reps.length = L := ⟨_, rfl⟩
  obtain ⟨LC, hLC⟩ : ∃ L, cyc.length = L := ⟨_, rfl⟩
  rw [hLR] at oR ⊢
  rw [hLC] at oC ⊢
  have HLR := Lib.hid hLR
  clear oC hsol n0 n1 hLR hLC
  obtain ⟨W2, hW2⟩ : ∃ W, w1.alloc (.cells #[.int .u8 vd, .slice Ar LR cr1, .slice Ac LC cc] 29) = W := ⟨_, rfl⟩
  have hb2 := (Below.refl w1.heap.size w1).alloc (Nat.le_refl _) (.cells #[.int .u8 vd, .slice Ar LR cr1, .slice Ac LC cc] 29)
  have kb2 := Blk.new w1 _ rfl 29 #[.int .u8 vd, .slice Ar LR cr1, .slice Ac LC cc]
  obtain ⟨bb, hbb⟩ : ∃ b, w1.heap.size = b := ⟨_, rfl⟩
  have rR2 := ((rd_of_own oR).below hb2 (Nat.le_refl _)).more hb2.size
  rw [hW2] at hb2 kb2 rR2
  have b12 := hb1.trans (hb2.mono hb1.size)
  rw [hbb] at kb2
  have kn2 := kn.below b12 kn.lt
  have hrA2 := (hrA.below b12 (Nat.le_refl _)).more b12.size
  have hrX2 := (hrX.below b12 (Nat.le_refl _)).more b12.size
  have hT2 := hT0.below b12 hT0.pos
  have B2 := Lib.hid (HW.out.trans (b12.mono HW.out.size))
  have n0 := kn2.cell 0
  have n1 := kn2.cell 1
  simp at n0 n1
  have H2 := Lib.hid (holds_any n ars A l c xs R m cr W2 hl hx hrA2 hm hn hfx hrX2 hmm)
  clear kn hrA hrX hT0 hb1 hb2 b12 HW oR
  obtain ⟨gd, hgd⟩ : ∃ b, holdB n ars xs = b := ⟨_, rfl⟩
  obtain ⟨ev, hev⟩ : ∃ b, holdE n ars xs = b := ⟨_, rfl⟩
  rw [hgd, hev] at H2
  have HGD := Lib.hid hgd
  have HEV := Lib.hid hev
  clear hgd hev
  go_upto_region 2 with fail
  try rw [hbb]
  try rw [hW2]
  clear hW2 hbb
  go_wp2_with fail
  refine H2.out.mono ?_
  rintro e w3 ⟨rfl, hb3⟩
  have kn3 := kn2.below hb3 kn2.lt
  have kb3 := kb2.below hb3 kb2.lt
  have hrA3 := (hrA2.below hb3 (Nat.le_refl _)).more hb3.size
  have hrX3 := (hrX2.below hb3 (Nat.le_refl _)).more hb3.size
  have rR3 := (rR2.below hb3 (Nat.le_refl _)).more hb3.size
  have hT3 := hT2.below hb3 hT2.pos
  have B3 := Lib.hid (B2.out.trans (hb3.mono B2.out.size))
  clear H2 hb3 kn2 kb2 hrA2 hrX2 rR2 hT2 B2 n0 n1
  have n0 := kn3.cell 0
  have n1 := kn3.cell 1
  have r0 := kb3.cell 0
  have r1 := kb3.cell 1
  have r2 := kb3.cell 2
  simp at n0 n1 r0 r1 r2
  have HAW := Lib.hid (fun (w5 : World) (hb : Below w3.heap.size w3 w5) => awake_any w5 (hT3.below hb hT3.pos))
  by_cases hc0 : checkF n ars = 0
  · obtain ⟨rfl, m', hm', hcase⟩ := hs.steady hc0
    subst hm'
    rcases hcase with ⟨rfl, hst, rfl, -⟩ | ⟨hvd, hst, -⟩
    · -- steady
      have hLR2 : LR = m' := by have := HLR.out; rw [rowN_length] at this; exact this.symm
      subst hLR2
      have HH := Lib.hid (holds_any (LR : Int) ars A l c (rowN LR fun v => (cR LR ars v : Int)) Ar LR cr1 w3 hl hx hrA3 hm (rowN_length _ _) (rowN_fit hst.1) rR3 (by have := (checkF_ok hc0).2.1; unfold maxLen; omega))
      have hh1 : holdB (LR : Int) ars (rowN LR fun v => (cR LR ars v : Int)) = true := bal_holdB hc0 (bal_cR hc0 hst)
      have hh2 : holdE (LR : Int) ars (rowN LR fun v => (cR LR ars v : Int)) = 0 := holdE_ok hc0 (by rw [rowN_length])
      rw [hh1, hh2] at HH
      clear hs HLR hh1 hh2
      have HST := Lib.hid hst
      clear hst
      go_wp2_with fail
      refine HH.out.mono ?_
      rintro e w4 ⟨rfl, hb4⟩
      have kn4 := kn3.below hb4 kn3.lt
      have kb4 := kb3.below hb4 kb3.lt
      have hrA4 := (hrA3.below hb4 (Nat.le_refl _)).more hb4.size
      have hrX4 := (hrX3.below hb4 (Nat.le_refl _)).more hb4.size
      have rR4 := (rR3.below hb4 (Nat.le_refl _)).more hb4.size
      have B4 := Lib.hid (B3.out.trans (hb4.mono B3.out.size))
      have HAW4 := Lib.hid (fun (w5 : World) (hb : Below w4.heap.size w4 w5) => HAW.out w5 (hb4.trans (hb.mono hb4.size)))
      clear HH HAW hb4 kn3 kb3 hrA3 hrX3 rR3 B3 n0 n1 r0 r1 r2 hT3
      have n0 := kn4.cell 0
      have n1 := kn4.cell 1
      have r0 := kb4.cell 0
      have r1 := kb4.cell 1
      have r2 := kb4.cell 2
      simp at n0 n1 r0 r1 r2
      cases gd with
      | false =>
        have HA := Lib.hid (HAW4.out w4 (Below.refl _ _))
        clear HAW4 HGD HEV kn4 kb4 hrA4 hrX4 rR4
        go_wp2_with fail
        refine HA.out.mono ?_
        rintro e w5 ⟨rfl, hb5⟩
        have B5 := Lib.hid (B4.out.trans (hb5.mono B4.out.size))
        clear hb5 HA
        go_wp2_with fail
        go_ret
        exact ⟨rfl, B5.out⟩
      | true =>
        obtain ⟨-, m2, hm2, hxl, hbal, hxs⟩ := holdB_bal HGD.out
        obtain rfl : LR = m2 := by omega
        obtain rfl : ev = 0 := by rw [← HEV.out]; exact holdE_ok hc0 (by rw [hxl])
        obtain rfl : m = LR := by omega
        have HTI := Lib.hid (times13_any m ars (fun v => (xs[v]?.getD 0).toNat) xs A R Ar l c cr cr1 w4 hl hx hrA4 hc0 hbal hxl hxs hrX4 rR4)
        clear HGD HEV kn4 kb4 hrA4 hrX4 rR4 hbal hxs
        go_wp2_with fail
        refine HTI.out.mono ?_
        rintro e w5 ⟨rfl, hb5⟩
        have HA := Lib.hid (HAW4.out w5 hb5)
        have B5 := Lib.hid (B4.out.trans (hb5.mono B4.out.size))
        clear HAW4 hb5 HTI B4
        go_wp2_with fail
        refine HA.out.mono ?_
        rintro e w6 ⟨rfl, hb6⟩
        have B6 := Lib.hid (B5.out.trans (hb6.mono B5.out.size))
        clear hb6 HA
        go_wp2_with fail
        go_ret
        exact ⟨rfl, B6.out⟩
    · obtain rfl : gd = false := by
        cases gd with
        | false => rfl
        | true =>
          obtain ⟨-, m2, hm2, -, hbal, -⟩ := holdB_bal HGD.out
          obtain rfl : m' = m2 := by omega
          exact absurd (steady_of hc0 hbal) hst
      have q1 : (vd == 1) = false := by rcases hvd with rfl | rfl <;> rfl
      have q2 : ¬ vd = 1 := by rcases hvd with rfl | rfl <;> decide
      have HA := Lib.hid (HAW.out w3 (Below.refl _ _))
      clear HAW HGD HEV kn3 kb3 hrA3 hrX3 rR3 hvd hst hs
      go_wp2_with fail
      refine HA.out.mono ?_
      rintro e w5 ⟨rfl, hb5⟩
      have B5 := Lib.hid (B3.out.trans (hb5.mono B3.out.size))
      clear hb5 HA
      go_wp2_with fail
      go_ret
      exact ⟨rfl, B5.out⟩
  · obtain ⟨h1, h2⟩ := holdE_bad (rs := xs) hc0
    obtain rfl : gd = false := by rw [← HGD.out]; exact h2
    obtain rfl : ev = k := by
      rw [← HEV.out, h1]
      rcases hs with ⟨-, hk, -⟩ | ⟨h, -⟩
      · exact hk.symm
      · exact absurd h hc0
    have hk0 : ev ≠ 0 := by rw [← HEV.out, h1]; exact hc0
    have q1 : (ev != 0) = true := by simp [hk0]
    have HA := Lib.hid (HAW.out w3 (Below.refl _ _))
    clear HAW HGD HEV kn3 kb3 hrA3 hrX3 rR3 hs h1 h2
    go_wp2_with fail
    refine HA.out.mono ?_
    rintro e w5 ⟨rfl, hb5⟩
    have B5 := Lib.hid (B3.out.trans (hb5.mono B3.out.size))
    clear hb5 HA
    go_wp2_with fail
    go_ret
    exact ⟨rfl, B5.out⟩
end Go.Proofs.YtlpmnhllnfhkdaaDoor
