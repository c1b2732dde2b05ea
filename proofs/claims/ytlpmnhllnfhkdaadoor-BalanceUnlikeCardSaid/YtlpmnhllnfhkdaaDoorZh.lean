/-
  BalanceUnlike: a told cycle is confirmed; no counts hold.
-/
import Derived.Test.YtlpmnhllnfhkdaaDoorZg
import Derived.Test.YtlpmnhllnfhkdaaDoorYy
import Derived.Test.YtlpmnhllnfhkdaaDoorZb
namespace Go.Proofs.YtlpmnhllnfhkdaaDoor
open Go.RowKit

theorem cyc_told {n : Int} {ars : List ArcV} {vd k : Int} {reps : List Int} {cyc : List Stp} (h : SolA n ars vd reps cyc k) (hv : vd = 2) : confirmF n ars (stL cyc) = 0 := by
  subst hv
  rcases h with ⟨-, -, h, -⟩ | ⟨hc, -, m, rfl, h⟩
  · cases h
  · rcases h with ⟨-, h, -⟩ | ⟨-, -, -, i, a, p, hu, hp, rfl⟩ | ⟨-, -, h, -⟩
    · cases h
    · exact cycle_confirmed hc hu hp
    · cases h
theorem stL_fit {n : Int} {ars : List ArcV} {vd k : Int} {reps : List Int} {cyc : List Stp} (h : SolA n ars vd reps cyc k) : FitT (stL cyc) := by
  intro s hs
  obtain ⟨q, hq, rfl⟩ := List.mem_map.1 hs
  rcases h with ⟨-, -, -, -, rfl⟩ | ⟨hc, -, m, rfl, h⟩
  · cases hq
  · rcases h with ⟨-, -, -, rfl⟩ | ⟨-, -, -, i, a, p, hu, hp, rfl⟩ | ⟨-, -, -, -, rfl⟩
    · cases hq
    · have h96 := (checkF_ok hc).2.2.1
      have hlt : q.1 < ars.length := by
        rcases List.mem_cons.1 hq with rfl | hq
        · exact (List.getElem?_eq_some_iff.1 hu.1).1
        · have C := ctx_at hc
          rcases hp with ⟨h, -⟩ | ⟨-, -, h, -⟩ | ⟨-, m', x, y, -, -, -, -, -, -, h, -⟩ | ⟨-, m', x, y, h1, h2, h3, -, -, -, -, T, hT, hw, hr⟩
          · exact absurd hc h
          · cases h
          · cases h
          · obtain rfl : m = m' := by omega
            obtain rfl := edges_of hT
            obtain ⟨b, hb, -⟩ := walk_in C hw q hq
            exact (List.getElem?_eq_some_iff.1 hb).1
      unfold stI fits
      simp only
      omega
    · cases hq

set_option maxRecDepth 100000 in
set_option maxHeartbeats 4000000 in
theorem unlikeLaw_any (n : Int) (ars : List ArcV) (A : Option Addr) (l c : Nat) (xs : List Int) (R : Option Addr) (m cr : Nat) (w : World) (hl : ars.length = l) (hx : ∀ a ∈ ars, a.fit) (hr : Rd w w.heap.size A (cellsA ars)) (hm : l ≤ maxLen)
    (hn : xs.length = m) (hc : m ≤ cr) (hfx : AllFit xs) (hrx : Rd w w.heap.size R (cellsI xs)) (hz : cr * 8 ≤ 140737488351232) (hT : Tab w) :
    Calls Tryd.prog 10 #[.agg #[.int .i64 n, .slice A l c], .slice R m cr] w fun e w' => e = .returned (.bool true) ∧ Below w.heap.size w w' := by
  have hmm : m ≤ maxLen := by unfold maxLen; omega
  go_enter Tryd.func10, Tryd.ntmps10
  go_upto_region 1 with fail
  obtain ⟨W0, hW0⟩ : ∃ W, w.alloc (.cells #[.int .i64 n, .slice A l c] 24) = W := ⟨_, rfl⟩
  have BW := (Below.refl w.heap.size w).alloc (Nat.le_refl _) (.cells #[.int .i64 n, .slice A l c] 24)
  have kn := Blk.new w _ rfl 24 #[.int .i64 n, .slice A l c]
  rw [hW0] at BW kn ⊢
  have hrA := (hr.below BW (Nat.le_refl _)).more BW.size
  have hrX := (hrx.below BW (Nat.le_refl _)).more BW.size
  have hT0 := hT.below BW hT.pos
  have HW := Lib.hid BW
  have hsol := Lib.hid (solve_any n ars A l c W0 hl hx hrA hm hT0)
  obtain ⟨bn, hbn⟩ : ∃ b, w.heap.size = b := ⟨_, rfl⟩
  rw [hbn] at kn ⊢
  clear hW0 BW hr hrx hbn
  have n0 := kn.cell 0
  have n1 := kn.cell 1
  simp at n0 n1
  go_wp2_with fail
  refine hsol.out.mono ?_
  rintro e w1 ⟨vd, reps, cyc, k, Ar, cr1, Ac, cc, rfl, hs, -, -, oR, oC, hb1⟩
  obtain ⟨LR, hLR⟩ : ∃ L, reps.length = L := ⟨_, rfl⟩
  obtain ⟨LC, hLC⟩ : ∃ L, cyc.length = L := ⟨_, rfl⟩
  rw [hLC] at oC
  rw [hLR, hLC]
  have HS := Lib.hid hs
  have HLC := Lib.hid hLC
  clear hsol n0 n1 hLR hLC oR hs
  have hb2 := (Below.refl w1.heap.size w1).alloc (Nat.le_refl _) (.cells #[.int .u8 vd, .slice Ar LR cr1, .slice Ac LC cc] 29)
  have kb2 := Blk.new w1 _ rfl 29 #[.int .u8 vd, .slice Ar LR cr1, .slice Ac LC cc]
  have oC2 := oC.alloc (.cells #[.int .u8 vd, .slice Ar LR cr1, .slice Ac LC cc] 29)
  obtain ⟨W2, hW2⟩ : ∃ W, w1.alloc (.cells #[.int .u8 vd, .slice Ar LR cr1, .slice Ac LC cc] 29) = W := ⟨_, rfl⟩
  obtain ⟨bb, hbb⟩ : ∃ b, w1.heap.size = b := ⟨_, rfl⟩
  rw [hW2] at hb2 kb2 oC2
  have b12 := hb1.trans (hb2.mono hb1.size)
  rw [hbb] at kb2
  have kn2 := kn.below b12 kn.lt
  have hrA2 := (hrA.below b12 (Nat.le_refl _)).more b12.size
  have hrX2 := (hrX.below b12 (Nat.le_refl _)).more b12.size
  have hT2 := hT0.below b12 hT0.pos
  have B2 := Lib.hid (HW.out.trans (b12.mono HW.out.size))
  have n0 := kn2.cell 0
  have n1 := kn2.cell 1
  have r0 := kb2.cell 0
  have r2 := kb2.cell 2
  simp at n0 n1 r0 r2
  have HAW := Lib.hid (fun (w5 : World) (hb : Below W2.heap.size W2 w5) => awake_any w5 (hT2.below hb hT2.pos))
  clear kn hrA hrX hT0 hb1 hb2 b12 HW oC
  by_cases hc0 : checkF n ars = 0
  · obtain ⟨hk0, m', hm', hcase⟩ := HS.out.steady hc0
    subst hk0
    rcases hcase with ⟨rfl, -⟩ | ⟨hvd, hst, -⟩
    · have HA := Lib.hid (HAW.out W2 (Below.refl _ _))
      clear HAW kn2 kb2 hrA2 hrX2 oC2 hm'
      go_upto_region 2 with fail
      try rw [hbb]
      try rw [hW2]
      clear hW2 hbb
      go_wp2_with fail
      refine HA.out.mono ?_
      rintro e w5 ⟨rfl, hb5⟩
      have B5 := Lib.hid (B2.out.trans (hb5.mono B2.out.size))
      clear hb5 HA
      go_wp2_with fail
      go_ret
      exact ⟨rfl, B5.out⟩
    · have hgood : holdB n ars xs = false := by
        subst hm'
        cases hg : holdB (m' : Int) ars xs with
        | false => rfl
        | true =>
          obtain ⟨-, m2, hm2, -, hbal, -⟩ := holdB_bal hg
          obtain rfl : m' = m2 := by omega
          exact absurd (steady_of hc0 hbal) hst
      have H2 := Lib.hid (holds_any n ars A l c xs R m cr W2 hl hx hrA2 hm hn hfx hrX2 hmm)
      rw [hgood] at H2
      obtain ⟨ev, hev⟩ : ∃ b, holdE n ars xs = b := ⟨_, rfl⟩
      rw [hev] at H2
      have q1 : (vd == 1) = false := by rcases hvd with rfl | rfl <;> rfl
      have q1' : ¬ vd = 1 := by rcases hvd with rfl | rfl <;> decide
      clear hev hgood hm' hst
      go_upto_region 2 with fail
      try rw [hbb]
      try rw [hW2]
      clear hW2 hbb
      go_wp2_with fail
      refine H2.out.mono ?_
      rintro e w3 ⟨rfl, hb3⟩
      have kn3 := kn2.below hb3 kn2.lt
      have kb3 := kb2.below hb3 kb2.lt
      have hrA3 := (hrA2.below hb3 (Nat.le_refl _)).more hb3.size
      have oC3 := own_below oC2 hb3
      have hT3 := hT2.below hb3 hT2.pos
      have B3 := Lib.hid (B2.out.trans (hb3.mono B2.out.size))
      have n0 := kn3.cell 0
      have n1 := kn3.cell 1
      have r0 := kb3.cell 0
      have r2 := kb3.cell 2
      simp at n0 n1 r0 r2
      have HAW3 := Lib.hid (fun (w5 : World) (hb : Below w3.heap.size w3 w5) => awake_any w5 (hT3.below hb hT3.pos))
      have HCF := Lib.hid (confirm_any n ars A l c (stL cyc) Ac LC cc w3 hl hx hrA3 hm (by rw [stL_length]; exact HLC.out) (stL_fit HS.out) (by rw [cells_stL]; exact rd_of_own oC3) (by rw [← HLC.out]; exact (sol_len HS.out).2) (by obtain ⟨_, _, h, hle⟩ := own_slice oC3; injection h with _ _ h; omega) hT3)
      clear H2 HAW hb3 kn2 kb2 hrA2 hrX2 oC2 hT2 B2 kn3 kb3 hrA3 oC3 hT3
      rcases hvd with rfl | rfl
      · rw [cyc_told HS.out rfl] at HCF
        go_wp2_with fail
        refine HCF.out.mono ?_
        rintro e w4 ⟨rfl, hb4⟩
        have HA := Lib.hid (HAW3.out w4 hb4)
        have B4 := Lib.hid (B3.out.trans (hb4.mono B3.out.size))
        clear hb4 HAW3 HCF
        go_wp2_with fail
        refine HA.out.mono ?_
        rintro e w5 ⟨rfl, hb5⟩
        have B5 := Lib.hid (B4.out.trans (hb5.mono B4.out.size))
        clear hb5 HA
        go_wp2_with fail
        go_ret
        exact ⟨rfl, B5.out⟩
      · have HA := Lib.hid (HAW3.out w3 (Below.refl _ _))
        clear HAW3 HCF
        go_wp2_with fail
        refine HA.out.mono ?_
        rintro e w5 ⟨rfl, hb5⟩
        have B5 := Lib.hid (B3.out.trans (hb5.mono B3.out.size))
        clear hb5 HA
        go_wp2_with fail
        go_ret
        exact ⟨rfl, B5.out⟩
  · have hk := HS.out.check
    have HCF := Lib.hid (confirm_any n ars A l c [] none 0 0 W2 hl hx hrA2 hm rfl (fun s hs => by cases hs) (.inl rfl) (by unfold maxLen; omega) (Nat.le_refl _) hT2)
    rw [confirm_nil hc0, ← hk] at HCF
    have q1 : (k != 0) = true := by rw [hk]; simp [hc0]
    clear hk kn2 kb2 hrA2 hrX2 oC2
    go_upto_region 2 with fail
    try rw [hbb]
    try rw [hW2]
    clear hW2 hbb
    go_wp2_with fail
    refine HCF.out.mono ?_
    rintro e w4 ⟨rfl, hb4⟩
    have HA := Lib.hid (HAW.out w4 hb4)
    have B4 := Lib.hid (B2.out.trans (hb4.mono B2.out.size))
    clear hb4 HAW HCF
    go_wp2_with fail
    refine HA.out.mono ?_
    rintro e w5 ⟨rfl, hb5⟩
    have B5 := Lib.hid (B4.out.trans (hb5.mono B4.out.size))
    clear hb5 HA
    go_wp2_with fail
    go_ret
    exact ⟨rfl, B5.out⟩
end Go.Proofs.YtlpmnhllnfhkdaaDoor
