/-
  BalanceSolves: the verdict, the counts, the cycle; what is answered is its owner's.
-/
import Derived.Test.YtlpmnhllnfhkdaaDoorZb
import Derived.Test.YtlpmnhllnfhkdaaDoorAx4
import Derived.Test.YtlpmnhllnfhkdaaDoorM9
namespace Go.Proofs.YtlpmnhllnfhkdaaDoor
open Go.RowKit

theorem apart_twoX (A A' : Option Addr) (c c' : Nat) (xs xs' : List Int) (bo B : Nat) (w : World) (hn : xs.length ≤ 100000) (hn' : xs'.length ≤ 100000)
    (ho : w.ownsRow B 3 1 (.slice A xs.length c) xs.length (cellsI xs)) (ho' : w.ownsRow B 3 1 (.slice A' xs'.length c') xs'.length (cellsI xs')) (hd : ∀ b, blkOf A = some b → blkOf A' ≠ some b)
    (h0 : w.cell? ⟨bo, 0, none⟩ = some (.slice A xs.length c)) (h1 : w.cell? ⟨bo, 1, none⟩ = some (.slice A' xs'.length c')) (hb : blkOf A ≠ some bo) (hb' : blkOf A' ≠ some bo) (hbo : bo < w.heap.size) (hB : B ≤ w.heap.size) :
    Calls Tryd.prog 16 #[.slice (some ⟨bo, 0, none⟩) 2 2] w fun e w' => e = .returned (.bool true) ∧ Below B w w' ∧ ∀ k, (k < w.heap.size ∧ blkOf A ≠ some k ∧ blkOf A' ≠ some k) → w'.heap[k]? = w.heap[k]? := by
  have cas : ∀ j, j < 2 → j = 0 ∨ j = 1 := fun j hj => by omega
  refine apart_anyX (fun k => k < w.heap.size ∧ blkOf A ≠ some k ∧ blkOf A' ≠ some k) 2 (two A A') (two xs.length xs'.length) (two c c') (two xs xs') bo 0 2 B w (by omega) ?_ ?_ ?_ ?_ ?_ hbo hB (fun k hk => hk.1) ?_
  · intro j hj; rcases cas j hj with rfl | rfl
    · exact Nat.le_trans hn (by decide)
    · exact Nat.le_trans hn' (by decide)
  · intro j hj; rcases cas j hj with rfl | rfl
    · exact ho
    · exact ho'
  · intro j k hj hk hne b hbj
    rcases cas j hj with rfl | rfl <;> rcases cas k hk with rfl | rfl
    · omega
    · exact hd b hbj
    · intro he; exact hd b he hbj
    · omega
  · intro j hj; rcases cas j hj with rfl | rfl
    · exact h0
    · exact h1
  · intro j hj; rcases cas j hj with rfl | rfl
    · exact hb
    · exact hb'
  · intro j hj b hbj hX
    rcases cas j hj with rfl | rfl
    · exact hX.2.1 hbj
    · exact hX.2.2 hbj
theorem sol_small {n : Int} {ars : List ArcV} {vd k : Int} {reps : List Int} {cyc : List Stp} (h : SolA n ars vd reps cyc k) : reps.length ≤ 32 ∧ (reps = [] ∨ cyc = []) := by
  rcases h with ⟨-, -, -, rfl, rfl⟩ | ⟨hc, -, m, rfl, h⟩
  · simp
  · rcases h with ⟨-, -, rfl, rfl⟩ | ⟨-, -, rfl, i, a, p, -, -, rfl⟩ | ⟨-, -, -, rfl, rfl⟩
    · simp
    · simp
    · rw [rowN_length]
      exact ⟨(checkF_ok hc).2.1, .inr rfl⟩
/-- the law's memory behind the two calls of Solve -/
structure SvSt (w0 wr : World) (n : Int) (ars : List ArcV) (vd : Int) (reps : List Int) (cyc : List Stp) (l c LR LC B : Nat) (A A3 Ra Ca Rb Cb Rc Cc : Option Addr) (c3 ra ca rb cb rc cc bn ba bo b3 b4 : Nat) : Prop where
  kn : Blk wr bn 24 #[.int .i64 n, .slice A l c]
  ko : Blk wr bo 24 #[.int .i64 n, .slice A3 l c3]
  ka : Blk wr ba 29 #[.int .u8 vd, .slice Ra LR ra, .slice Ca LC ca]
  k3 : Blk wr b3 29 #[.int .u8 vd, .slice Rb LR rb, .slice Cb LC cb]
  k4 : Blk wr b4 29 #[.int .u8 vd, .slice Rc LR rc, .slice Cc LC cc]
  rA : Rd wr wr.heap.size A (cellsA ars)
  rA3 : Rd wr wr.heap.size A3 (cellsA ars)
  rra : Rd wr wr.heap.size Ra (cellsI reps)
  rca : Rd wr B Ca (cellsS cyc)
  orb : wr.ownsRow B 3 1 (.slice Rb LR rb) LR (cellsI reps)
  ocb : wr.ownsRow B 39 2 (.slice Cb LC cb) LC (cellsS cyc)
  orc : wr.ownsRow B 3 1 (.slice Rc LR rc) LR (cellsI reps)
  occ : wr.ownsRow B 39 2 (.slice Cc LC cc) LC (cellsS cyc)
  dis : ∀ b, blkOf Rb = some b → blkOf Rc ≠ some b
  dic : ∀ b, blkOf Cb = some b → blkOf Cc ≠ some b
  bw : Below w0.heap.size w0 wr
  b0 : w0.heap.size ≤ B
  b1 : B ≤ wr.heap.size
  tab : Tab wr
theorem SvSt.below {w0 wr w' : World} {n : Int} {ars : List ArcV} {vd : Int} {reps : List Int} {cyc : List Stp} {l c LR LC B : Nat} {A A3 Ra Ca Rb Cb Rc Cc : Option Addr} {c3 ra ca rb cb rc cc bn ba bo b3 b4 : Nat}
    (h : SvSt w0 wr n ars vd reps cyc l c LR LC B A A3 Ra Ca Rb Cb Rc Cc c3 ra ca rb cb rc cc bn ba bo b3 b4) (hb : Below wr.heap.size wr w') : SvSt w0 w' n ars vd reps cyc l c LR LC B A A3 Ra Ca Rb Cb Rc Cc c3 ra ca rb cb rc cc bn ba bo b3 b4 :=
  ⟨h.kn.below hb h.kn.lt, h.ko.below hb h.ko.lt, h.ka.below hb h.ka.lt, h.k3.below hb h.k3.lt, h.k4.below hb h.k4.lt, (h.rA.below hb (Nat.le_refl _)).more hb.size, (h.rA3.below hb (Nat.le_refl _)).more hb.size,
    (h.rra.below hb (Nat.le_refl _)).more hb.size, h.rca.below hb h.b1, own_below h.orb hb, own_below h.ocb hb, own_below h.orc hb, own_below h.occ hb, h.dis, h.dic, h.bw.trans (hb.mono h.bw.size), h.b0, Nat.le_trans h.b1 hb.size, h.tab.below hb h.tab.pos⟩
theorem own_same {w w' : World} {base : Nat} {e : TypeId} {size n : Nat} {u : Value} {xs : List Value} (ho : w.ownsRow base e size u n xs) (h : ∀ g, u.ownBlock = some g → w'.heap[g]? = w.heap[g]?) : w'.ownsRow base e size u n xs := by
  obtain ⟨h1, h2⟩ := ho
  refine ⟨h1, ?_⟩
  rcases h2 with h2 | ⟨k, cap, cur, rfl, hk, hh, hr⟩
  · exact .inl h2
  · exact .inr ⟨k, cap, cur, rfl, hk, by rw [h k rfl]; exact hh, hr⟩
/-- own rows that lie in worlds one behind the other -/
theorem rows_apart {w w' : World} {B B' : Nat} {e e' : TypeId} {s s' n n' : Nat} {A A' : Option Addr} {c c' : Nat} {xs xs' : List Value} (h : w.ownsRow B e s (.slice A n c) n xs) (h' : w'.ownsRow B' e' s' (.slice A' n' c') n' xs') (hB : w.heap.size ≤ B') : ∀ b, blkOf A = some b → blkOf A' ≠ some b := fun b hb hb' => by
  have h1 := (h.lt b (by rw [ownBlock_slice]; exact hb)).2
  have h2 := (h'.lt b (by rw [ownBlock_slice]; exact hb')).1
  omega

set_option maxRecDepth 100000 in
set_option maxHeartbeats 16000000 in
theorem solvesLaw_any (n : Int) (ars : List ArcV) (A : Option Addr) (l c : Nat) (w : World) (hl : ars.length = l) (hx : ∀ a ∈ ars, a.fit) (hr : Rd w w.heap.size A (cellsA ars)) (hm : l ≤ maxLen) (hlc : l ≤ c) (hzn : c * 40 ≤ 140737488351232) (hT : Tab w) :
    Calls Tryd.prog 3 #[.agg #[.int .i64 n, .slice A l c]] w fun e w' => e = .returned (.bool true) ∧ Below w.heap.size w w' := by
  have hll : l * 40 ≤ 140737488351232 := by omega
  go_enter Tryd.func3, Tryd.ntmps3
  go_upto_region 1 with fail
  obtain ⟨W0, hW0⟩ : ∃ W, w.alloc (.cells #[.int .i64 n, .slice A l c] 24) = W := ⟨_, rfl⟩
  have BW := (Below.refl w.heap.size w).alloc (Nat.le_refl _) (.cells #[.int .i64 n, .slice A l c] 24)
  have kn := Blk.new w _ rfl 24 #[.int .i64 n, .slice A l c]
  rw [hW0] at BW kn ⊢
  have hrA := (hr.below BW (Nat.le_refl _)).more BW.size
  have hT0 := hT.below BW hT.pos
  have HW := Lib.hid BW
  have hsol := Lib.hid (refSolve_any n ars A l c W0 hl hx hrA hm)
  obtain ⟨bn, hbn⟩ : ∃ b, w.heap.size = b := ⟨_, rfl⟩
  rw [hbn] at kn ⊢
  clear hW0 BW hr hbn
  have n0 := kn.cell 0
  have n1 := kn.cell 1
  simp at n0 n1
  go_wp2_with fail
  refine hsol.out.mono ?_
  rintro e w1 ⟨vd, reps, cyc, k, Ra, ra, Ca, ca, rfl, hs, oR, oC, hb1⟩
  obtain ⟨LR, hLR⟩ : ∃ L, reps.length = L := ⟨_, rfl⟩
  obtain ⟨LC, hLC⟩ : ∃ L, cyc.length = L := ⟨_, rfl⟩
  rw [hLR, hLC]
  have HLR := Lib.hid hLR
  have HLC := Lib.hid hLC
  have HS := Lib.hid hs
  clear hsol n0 n1 hLR hLC hs
  have hb2 := (Below.refl w1.heap.size w1).alloc (Nat.le_refl _) (.cells #[.int .u8 vd, .slice Ra LR ra, .slice Ca LC ca] 29)
  have ka2 := Blk.new w1 _ rfl 29 #[.int .u8 vd, .slice Ra LR ra, .slice Ca LC ca]
  obtain ⟨W2, hW2⟩ : ∃ W, w1.alloc (.cells #[.int .u8 vd, .slice Ra LR ra, .slice Ca LC ca] 29) = W := ⟨_, rfl⟩
  obtain ⟨ba, hba⟩ : ∃ b, w1.heap.size = b := ⟨_, rfl⟩
  rw [hW2] at hb2 ka2
  have b12 := hb1.trans (hb2.mono hb1.size)
  have rra2 := (oR.below hb2 (Nat.le_refl _)).more hb2.size
  have rca2 := (oC.below hb2 (Nat.le_refl _)).more hb2.size
  rw [hba] at ka2
  have kn2 := kn.below b12 kn.lt
  have hrA2 := (hrA.below b12 (Nat.le_refl _)).more b12.size
  have hT2 := hT0.below b12 hT0.pos
  have B2 := Lib.hid (HW.out.trans (b12.mono HW.out.size))
  have n0 := kn2.cell 0
  have n1 := kn2.cell 1
  simp at n0 n1
  have HN := Lib.hid (netCopy_any n ars A l c W2 hl hrA2 hm hll)
  clear kn hrA hT0 hb1 hb2 b12 HW oR oC
  go_upto_region 2 with fail
  try rw [hba]
  try rw [hW2]
  clear hW2 hba
  go_wp2_with fail
  refine HN.out.mono ?_
  rintro e w3 ⟨A3, c3, rfl, oN, hb3⟩
  have hb4 := (Below.refl w3.heap.size w3).alloc (Nat.le_refl _) (.cells #[.int .i64 n, .slice A3 l c3] 24)
  have ko4 := Blk.new w3 _ rfl 24 #[.int .i64 n, .slice A3 l c3]
  have rA34 := ((rd_of_own oN).below hb4 (Nat.le_refl _)).more hb4.size
  obtain ⟨W4, hW4⟩ : ∃ W, w3.alloc (.cells #[.int .i64 n, .slice A3 l c3] 24) = W := ⟨_, rfl⟩
  obtain ⟨bo, hbo⟩ : ∃ b, w3.heap.size = b := ⟨_, rfl⟩
  rw [hW4] at hb4 ko4 rA34
  rw [hbo] at ko4
  have b24 := hb3.trans (hb4.mono hb3.size)
  have kn4 := kn2.below b24 kn2.lt
  have ka4 := ka2.below b24 ka2.lt
  have hrA4 := (hrA2.below b24 (Nat.le_refl _)).more b24.size
  have rra4 := (rra2.below b24 (Nat.le_refl _)).more b24.size
  have rca4 := (rca2.below b24 (Nat.le_refl _)).more b24.size
  have hT4 := hT2.below b24 hT2.pos
  have B4 := Lib.hid (B2.out.trans (b24.mono B2.out.size))
  have m0 := ko4.cell 0
  have m1 := ko4.cell 1
  simp at m0 m1
  have hsolb := Lib.hid (solve_any n ars A3 l c3 W4 hl hx rA34 hm hT4)
  clear HN hb3 hb4 b24 kn2 ka2 hrA2 rra2 rca2 hT2 B2 n0 n1 oN
  go_upto_region 3 with fail
  try rw [hbo]
  try rw [hW4]
  clear hW4 hbo
  go_wp2_with fail
  refine hsolb.out.mono ?_
  rintro e w5 ⟨vd1, reps1, cyc1, k1, Rb, rb, Cb, cb, rfl, hs1, hrn1, -, oRb, oCb, hb5⟩
  obtain ⟨rfl, rfl, rfl, rfl⟩ := HS.out.one hs1
  rw [HLR.out] at oRb ⊢
  rw [HLC.out] at oCb ⊢
  have HRN := Lib.hid hrn1
  have hb6 := (Below.refl w5.heap.size w5).alloc (Nat.le_refl _) (.cells #[.int .u8 vd, .slice Rb LR rb, .slice Cb LC cb] 29)
  have k36 := Blk.new w5 _ rfl 29 #[.int .u8 vd, .slice Rb LR rb, .slice Cb LC cb]
  have oRb6 := oRb.alloc (.cells #[.int .u8 vd, .slice Rb LR rb, .slice Cb LC cb] 29)
  have oCb6 := oCb.alloc (.cells #[.int .u8 vd, .slice Rb LR rb, .slice Cb LC cb] 29)
  obtain ⟨W6, hW6⟩ : ∃ W, w5.alloc (.cells #[.int .u8 vd, .slice Rb LR rb, .slice Cb LC cb] 29) = W := ⟨_, rfl⟩
  obtain ⟨b3, hb3⟩ : ∃ b, w5.heap.size = b := ⟨_, rfl⟩
  rw [hW6] at hb6 k36 oRb6 oCb6
  rw [hb3] at k36
  have b46 := hb5.trans (hb6.mono hb5.size)
  have kn6 := kn4.below b46 kn4.lt
  have ka6 := ka4.below b46 ka4.lt
  have ko6 := ko4.below b46 ko4.lt
  have hrA6 := (hrA4.below b46 (Nat.le_refl _)).more b46.size
  have rA36 := (rA34.below b46 (Nat.le_refl _)).more b46.size
  have rra6 := (rra4.below b46 (Nat.le_refl _)).more b46.size
  have rca6 := rca4.below b46 (Nat.le_refl _)
  have hT6 := hT4.below b46 hT4.pos
  have B6 := Lib.hid (B4.out.trans (b46.mono B4.out.size))
  have hs46 := b46.size
  have m0 := ko6.cell 0
  have m1 := ko6.cell 1
  simp at m0 m1
  have hsolc := Lib.hid (solve_any n ars A3 l c3 W6 hl hx rA36 hm hT6)
  clear hsolb hb5 hb6 b46 kn4 ka4 ko4 hrA4 rA34 rra4 rca4 hT4 hs1 oRb oCb hrn1
  go_upto_region 4 with fail
  try rw [hb3]
  try rw [hW6]
  clear hW6 hb3
  go_wp2_with fail
  refine hsolc.out.mono ?_
  rintro e w7 ⟨vd2, reps2, cyc2, k2, Rc, rc, Cc, cc, rfl, hs2, hrn2, -, oRc, oCc, hb7⟩
  obtain ⟨rfl, rfl, rfl, rfl⟩ := HS.out.one hs2
  rw [HLR.out] at oRc ⊢
  rw [HLC.out] at oCc ⊢
  have HRN2 := Lib.hid hrn2
  have hb8 := (Below.refl w7.heap.size w7).alloc (Nat.le_refl _) (.cells #[.int .u8 vd, .slice Rc LR rc, .slice Cc LC cc] 29)
  have k48 := Blk.new w7 _ rfl 29 #[.int .u8 vd, .slice Rc LR rc, .slice Cc LC cc]
  have oRc8 := oRc.alloc (.cells #[.int .u8 vd, .slice Rc LR rc, .slice Cc LC cc] 29)
  have oCc8 := oCc.alloc (.cells #[.int .u8 vd, .slice Rc LR rc, .slice Cc LC cc] 29)
  obtain ⟨W8, hW8⟩ : ∃ W, w7.alloc (.cells #[.int .u8 vd, .slice Rc LR rc, .slice Cc LC cc] 29) = W := ⟨_, rfl⟩
  obtain ⟨b4, hb4⟩ : ∃ b, w7.heap.size = b := ⟨_, rfl⟩
  rw [hW8] at hb8 k48 oRc8 oCc8
  rw [hb4] at k48
  have b68 := hb7.trans (hb8.mono hb7.size)
  have S : SvSt w W8 n ars vd reps cyc l c LR LC W4.heap.size A A3 Ra Ca Rb Cb Rc Cc c3 ra ca rb cb rc cc bn ba bo b3 b4 :=
    ⟨kn6.below b68 kn6.lt, ko6.below b68 ko6.lt, ka6.below b68 ka6.lt, k36.below b68 k36.lt, k48, (hrA6.below b68 (Nat.le_refl _)).more b68.size, (rA36.below b68 (Nat.le_refl _)).more b68.size, (rra6.below b68 (Nat.le_refl _)).more b68.size,
      rca6.below b68 hs46, own_below oRb6 b68, own_below oCb6 b68, own_mono oRc8 hs46, own_mono oCc8 hs46, rows_apart oRb6 oRc8 (Nat.le_refl _), rows_apart oCb6 oCc8 (Nat.le_refl _), B6.out.trans (b68.mono B6.out.size), B4.out.size, Nat.le_trans hs46 b68.size, hT6.below b68 hT6.pos⟩
  clear hsolc hb7 hb8 b68 kn6 ka6 ko6 k36 k48 hrA6 rA36 rra6 rca6 oRb6 oCb6 oRc8 oCc8 hT6 B6 B4 hs2 hrn2 oRc oCc m0 m1
  have hfr := Lib.hid (sol_fit HS.out)
  obtain ⟨hq1, hq2⟩ := sol_len HS.out
  rw [HLR.out] at hq1
  rw [HLC.out] at hq2
  have hsmall := Lib.hid (sol_small HS.out)
  have SA := Lib.hid (same13_yes vd reps cyc Ra Rb Ca Cb LR LC ra rb ca cb W8 HLR.out HLC.out hfr.out S.rra (rd_of_own S.orb) (S.rca.more S.b1) (rd_of_own S.ocb) hq1 hq2)
  have n0 := S.kn.cell 0
  have n1 := S.kn.cell 1
  have o0 := S.ko.cell 0
  have o1 := S.ko.cell 1
  have a0 := S.ka.cell 0
  have a1 := S.ka.cell 1
  have a2 := S.ka.cell 2
  have t0 := S.k3.cell 0
  have t1 := S.k3.cell 1
  have t2 := S.k3.cell 2
  have f0 := S.k4.cell 0
  have f1 := S.k4.cell 1
  have f2 := S.k4.cell 2
  simp at n0 n1 o0 o1 a0 a1 a2 t0 t1 t2 f0 f1 f2
  have hkk : (k != k) = false := by simp
  go_upto_region 5 with fail
  try rw [hb4]
  try rw [hW8]
  clear hW8 hb4
  go_wp2_with fail
  refine SA.out.mono ?_
  rintro e w9 ⟨rfl, hb9⟩
  have S := S.below hb9
  have SA2 := Lib.hid (same13_yes vd reps cyc Ra Rc Ca Cc LR LC ra rc ca cc w9 HLR.out HLC.out hfr.out S.rra (rd_of_own S.orc) (S.rca.more S.b1) (rd_of_own S.occ) hq1 hq2)
  clear n0 n1 o0 o1 a0 a1 a2 t0 t1 t2 f0 f1 f2 SA hb9
  have n0 := S.kn.cell 0
  have n1 := S.kn.cell 1
  have o0 := S.ko.cell 0
  have o1 := S.ko.cell 1
  have a0 := S.ka.cell 0
  have a1 := S.ka.cell 1
  have a2 := S.ka.cell 2
  have f0 := S.k4.cell 0
  have f1 := S.k4.cell 1
  have f2 := S.k4.cell 2
  simp at n0 n1 o0 o1 a0 a1 a2 f0 f1 f2
  go_wp2_with fail
  refine SA2.out.mono ?_
  rintro e w10 ⟨rfl, hb10⟩
  have S := S.below hb10
  have SN := Lib.hid (sameNet_yes n ars A3 A l c3 c w10 hl hx S.rA3 S.rA hm)
  clear n0 n1 o0 o1 a0 a1 a2 f0 f1 f2 SA2 hb10
  have n0 := S.kn.cell 0
  have n1 := S.kn.cell 1
  have o0 := S.ko.cell 0
  have o1 := S.ko.cell 1
  simp at n0 n1 o0 o1
  go_wp2_with fail
  refine SN.out.mono ?_
  rintro e w11 ⟨rfl, hb11⟩
  have S := S.below hb11
  clear n0 n1 o0 o1 SN hb11 hkk
  have t1 := S.k3.cell 1
  have f1 := S.k4.cell 1
  simp at t1 f1
  -- the two rows of counts, apart
  obtain ⟨W12, hW12⟩ : ∃ W, w11.alloc (.cells #[.slice Rb LR rb, .slice Rc LR rc] 26) = W := ⟨_, rfl⟩
  have hb12 := (Below.refl w11.heap.size w11).alloc (Nat.le_refl _) (.cells #[.slice Rb LR rb, .slice Rc LR rc] 26)
  have kx := Blk.new w11 _ rfl 26 #[.slice Rb LR rb, .slice Rc LR rc]
  rw [hW12] at hb12 kx
  have hrl : ∀ b, blkOf Rb = some b → b < w11.heap.size := fun b hb => (S.orb.lt b (by rw [ownBlock_slice]; exact hb)).2
  have hrl2 : ∀ b, blkOf Rc = some b → b < w11.heap.size := fun b hb => (S.orc.lt b (by rw [ownBlock_slice]; exact hb)).2
  have S := S.below hb12
  obtain ⟨bx, hbx⟩ : ∃ b, w11.heap.size = b := ⟨_, rfl⟩
  rw [hbx] at kx hrl hrl2
  have x0 := kx.cell 0
  have x1 := kx.cell 1
  simp at x0 x1
  have horb := S.orb
  have horc := S.orc
  have hxl := HLR.out
  rw [← hxl] at horb horc x0 x1
  have HAP := Lib.hid (apart_twoX Rb Rc rb rc reps reps bx W4.heap.size W12 (by have := hsmall.out; omega) (by have := hsmall.out; omega) horb horc S.dis x0 x1 (fun h => by have := hrl bx h; omega) (fun h => by have := hrl2 bx h; omega) kx.lt S.b1)
  clear horb horc x0 x1 hxl hb12 hrl hrl2
  go_upto_region 7 with fail
  go_wp2_with fail
  try rw [hbx]
  try rw [hW12]
  refine HAP.out.mono ?_
  rintro e w13 ⟨rfl, hb13, hkeep⟩
  have keep : ∀ g, g < W12.heap.size → blkOf Rb ≠ some g → blkOf Rc ≠ some g → w13.heap[g]? = W12.heap[g]? := fun g h1 h2 h3 => hkeep g ⟨h1, h2, h3⟩
  have keepB : ∀ {g : Nat} {cs : Array Value}, Blk W12 g 29 cs → Blk w13 g 29 cs := fun {g cs} hg => by
    have e1 := own_ne S.orb hg (by decide)
    have e2 := own_ne S.orc hg (by decide)
    rw [ownBlock_slice] at e1 e2
    exact (keep g hg.lt (fun h => e1 h.symm) (fun h => e2 h.symm)).trans hg
  have ocb : w13.ownsRow W4.heap.size 39 2 (.slice Cb LC cb) LC (cellsS cyc) := own_same S.ocb fun g hg => keep g (S.ocb.lt g hg).2 (fun h => rows_ne S.ocb S.orb (by decide) hg (by rw [ownBlock_slice]; exact h)) (fun h => rows_ne S.ocb S.orc (by decide) hg (by rw [ownBlock_slice]; exact h))
  have occ : w13.ownsRow W4.heap.size 39 2 (.slice Cc LC cc) LC (cellsS cyc) := own_same S.occ fun g hg => keep g (S.occ.lt g hg).2 (fun h => rows_ne S.occ S.orb (by decide) hg (by rw [ownBlock_slice]; exact h)) (fun h => rows_ne S.occ S.orc (by decide) hg (by rw [ownBlock_slice]; exact h))
  have k3 := keepB S.k3
  have k4 := keepB S.k4
  have ka := keepB S.ka
  have rca := S.rca.below hb13 (Nat.le_refl _)
  have hdic := S.dic
  have hb0 := S.b0
  have B13 := Lib.hid (S.bw.trans (hb13.mono S.b0))
  have hTB := Lib.hid (show 0 < W4.heap.size by have := hT.pos; omega)
  have hB13 : W4.heap.size ≤ w13.heap.size := Nat.le_trans S.b1 hb13.size
  have hT13 := Lib.hid (S.tab.below hb13 (show 0 < W4.heap.size by have := hT.pos; omega))
  have hnb3 : (Value.slice Cb LC cb).ownBlock ≠ some b3 := fun he => own_ne ocb k3 (by decide) he.symm
  have hnb4 : (Value.slice Cb LC cb).ownBlock ≠ some b4 := fun he => own_ne ocb k4 (by decide) he.symm
  have hnba : (Value.slice Cb LC cb).ownBlock ≠ some ba := fun he => own_ne ocb ka (by decide) he.symm
  have hlo : ∀ b, b < W4.heap.size → (Value.slice Cb LC cb).ownBlock ≠ some b := fun b hb he => by have := own_ge ocb he; omega
  clear keep keepB hkeep hb13 S HAP kx t1 f1 hT hbx hW12
  have t2 := k3.cell 2
  simp at t2
  go_wp2_with fail
  clear t2
  go_loopw [11] (fun i wr => ∃ (q : Nat) (xs : List Value), q ≤ LC ∧ i = .int .i64 q ∧ wr.ownsRow W4.heap.size 39 2 (.slice Cb LC cb) LC xs ∧ OnlyV (.slice Cb LC cb) w13 wr) (fun i _ => LC - (intOf i).toNat)
  case atStart => exact ⟨0, _, Nat.zero_le _, rfl, ocb, OnlyV.refl _ _⟩
  case round =>
    obtain ⟨q, xs, hq, rfl, oX, V⟩ := hrel
    have k3' := V.blk k3 hnb3
    have t2 := k3'.cell 2
    simp at t2
    by_cases hql : q < LC
    · obtain ⟨g, hg⟩ := own_addr oX (by omega)
      subst hg
      have hxl := oX.1
      obtain ⟨u0, hu0⟩ : ∃ u, xs[q * 2]? = some u := ⟨_, List.getElem?_eq_getElem (by omega)⟩
      obtain ⟨u1, hu1⟩ : ∃ u, xs[q * 2 + 1]? = some u := ⟨_, List.getElem?_eq_getElem (by omega)⟩
      have c0 := oX.cellAt (q * 2) (by omega)
      have c1 := oX.cellAt (q * 2 + 1) (by omega)
      rw [hu0] at c0
      rw [hu1] at c1
      have z0 := oX.frozenAt (q * 2)
      have z1 := oX.frozenAt (q * 2 + 1)
      have oX2 := ((oX.stored (q * 2) (.int .i64 (-1))).1.stored (q * 2 + 1) (.bool false)).1
      have V2 := (V.trans (onlyV_set wr g (q * 2) LC cb (.int .i64 (-1)))).trans (onlyV_set _ g (q * 2 + 1) LC cb (.bool false))
      have i1 : (0 : Int) ≤ (q : Int) := by omega
      have i2 : (q : Int) < (LC : Int) := by omega
      have hwq : LC ≤ 9223372036854775807 := by unfold maxLen at hq2; omega
      clear oX V hu0 hu1 hxl k3' k3 k4 ka hnb3 hnb4 hnba hlo rca occ ocb
      go_wp2_with fail
      go_roundw
      case rel => exact ⟨q + 1, _, by omega, by go_num, oX2, V2⟩
      case measure => simp [intOf]; omega
    · obtain rfl : LC = q := by omega
      have k4' := V.blk k4 hnb4
      have ka' := V.blk ka hnba
      have occ' := V.own occ (fun g hg h => hdic g (by rw [ownBlock_slice] at h; exact h) (by rw [ownBlock_slice] at hg; exact hg))
      have rca' := V.rd rca hB13 hlo
      have hVs := V.size
      have B14 := Lib.hid (V.down B13.out (fun q hq => hlo q (by omega)))
      have hT14 : Hid (Tab wr) := fun j hj => by
        rw [World.cell?_of_block (w := w13) (a := ⟨0, j, none⟩) (V.block 0 hT13.out.pos (hlo _ (by have := hTB.out; omega)))]
        exact hT13.out j hj
      have f2 := k4'.cell 2
      have a2 := ka'.cell 2
      simp at f2 a2
      obtain ⟨W14, hW14⟩ : ∃ W, W = wr := ⟨_, rfl⟩
      rw [← hW14] at f2 a2 occ' rca' B14 hT14 t2 ⊢
      clear hW14 oX V k3 k4 ka k3' k4' ka' hnb3 hnb4 hnba rca occ ocb hVs
      go_wp2_with fail
      clear t2
      go_loopw [12] (fun i wr => ∃ q : Nat, q ≤ LC ∧ i = .int .i64 q ∧ Drawn W14 wr) (fun i _ => LC - (intOf i).toNat)
      case atStart => exact ⟨0, Nat.zero_le _, rfl, Drawn.refl _⟩
      case round =>
        obtain ⟨q, hq, rfl, hdw⟩ := hrel
        have f3 : wr.cell? ⟨b4, 2, none⟩ = some (.slice Cc LC cc) := by obtain ⟨d, rfl⟩ := hdw; exact f2
        have a3 : wr.cell? ⟨ba, 2, none⟩ = some (.slice Ca LC ca) := by obtain ⟨d, rfl⟩ := hdw; exact a2
        by_cases hql : q < LC
        · obtain ⟨b, off, s, rfl, hb, hc1, hc2, -, hxx⟩ := (hdw.rd (rd_of_own occ')).step (k := q) (by rw [HLC.out]; exact hql)
          obtain ⟨b', off', s', rfl, hb', hc1', hc2', -, hxx'⟩ := (hdw.rd rca').step (k := q) (by rw [HLC.out]; exact hql)
          obtain rfl : s' = s := by have h := hxx.out; rw [hxx'.out] at h; exact Option.some.inj h
          have i1 : (0 : Int) ≤ (q : Int) := by omega
          have i2 : (q : Int) < (LC : Int) := by omega
          have hwq : LC ≤ 9223372036854775807 := by unfold maxLen at hq2; omega
          clear hxx hxx' f2 a2
          go_wp2_with fail
          go_quiet (fail)
          go_wp2_with fail
          go_roundw
          case rel => exact ⟨q + 1, by omega, by go_num, hdw.drewN _⟩
          case measure => simp [intOf]; omega
        · have HA := Lib.hid (awake_any wr (by obtain ⟨d, rfl⟩ := hdw; exact hT14.out.drewN d))
          have B15 := Lib.hid (B14.out.trans (hdw.below w.heap.size))
          clear rca' occ'
          go_wp2_with fail
          refine HA.out.mono ?_
          rintro e w16 ⟨rfl, hb16⟩
          have B16 := Lib.hid (B15.out.trans (hb16.mono B15.out.size))
          clear hb16 HA
          go_wp2_with fail
          go_ret
          exact ⟨rfl, B16.out⟩
end Go.Proofs.YtlpmnhllnfhkdaaDoor
