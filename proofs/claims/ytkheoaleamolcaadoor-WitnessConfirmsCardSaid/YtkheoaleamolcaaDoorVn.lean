/-
  pianolaref12.Confirm; nets as new memory; WitnessConfirms.
-/
import Derived.Test.YtkheoaleamolcaaDoorVm
namespace Go.Proofs.YtkheoaleamolcaaDoor
open Go.RowKit

theorem info_arc : (Tryd.prog.info? 46).map (fun i => (i.zero, i.size, i.bytes)) = some (some (.agg #[.int .i64 0, .int .i64 0, .int .i64 0, .int .i64 0, .int .i64 0]), 5, 40) := by kernel_rfl
theorem cellsA_one (ars : List ArcV) : ∀ u ∈ cellsA ars, u.oneCell' = true := by
  intro u hu
  obtain ⟨a, _, h⟩ := List.mem_flatMap.1 hu
  simp [ArcV.cells] at h
  rcases h with rfl | rfl | rfl | rfl | rfl <;> rfl

set_option maxHeartbeats 1000000 in
theorem netCopy_any (n : Int) (ars : List ArcV) (A : Option Addr) (l c : Nat) (w : World) (hl : ars.length = l) (hr : Rd w w.heap.size A (cellsA ars)) (hm : l ≤ maxLen) (hz : l * 40 ≤ 140737488351232) :
    Calls Tryd.prog 15 #[.agg #[.int .i64 n, .slice A l c]] w fun e w' => ∃ A' c', e = .returned (.agg #[.int .i64 n, .slice A' l c']) ∧ w'.ownsRow w.heap.size 46 5 (.slice A' l c') l (cellsA ars) ∧ Below w.heap.size w w' := by
  obtain ⟨i1, hj, hy0, hy1, hy2⟩ := info_parts info_arc
  have hcl : (cellsA ars).length = l * 5 := by rw [cellsA_length, hl]
  have hb0 : ∀ o o', Below w.heap.size w ((w.alloc o).alloc o') := fun o o' => ((Below.refl _ _).alloc (Nat.le_refl _) o).alloc (by simp) o'
  have hr2 := (hr.below (hb0 (.cells #[.int .i64 n, .slice A l c] 24) (.cells #[.int .i64 0, .slice none 0 0] 24)) (Nat.le_refl _))
  have k1 := (Blk.new w _ rfl 24 #[.int .i64 n, .slice A l c]).alloc (.cells #[.int .i64 0, .slice none 0 0] 24)
  have k2 := Blk.new (w.alloc (.cells #[.int .i64 n, .slice A l c] 24)) (w.heap.size + 1) (by simp) 24 #[.int .i64 0, .slice none 0 0]
  have hb2 := hb0 (.cells #[.int .i64 n, .slice A l c] 24) (.cells #[.int .i64 0, .slice none 0 0] 24)
  have bz : ((w.alloc (.cells #[.int .i64 n, .slice A l c] 24)).alloc (.cells #[.int .i64 0, .slice none 0 0] 24)).heap.size = w.heap.size + 1 + 1 := by simp
  go_enter Tryd.func15, Tryd.ntmps15
  go_wp2_with (at_builtin; refine wpList_append_rd _ rfl _ _ 22 rfl (w.heap.size + 1 + 1) 46 i1 (.agg #[.int .i64 0, .int .i64 0, .int .i64 0, .int .i64 0, .int .i64 0]) 5 40 Tryd.underlying22 hj hy0 hy1 hy2 rfl (by decide) _ 0 [] rfl (World.ownsRow_nil _ _ _ _) w.heap.size A l c (cellsA ars) rfl hcl hr2 (cellsA_one ars) (by omega) (by omega) (by rw [bz]; exact Nat.le_refl _) ?_)
  intro v' w3 o3 g3 hb3
  obtain ⟨A3, c3, rfl, -⟩ := own_slice o3
  have h1 := k1.grown g3 (by simp [Value.ownBlock])
  have h2 := k2.grown g3 (by simp [Value.ownBlock])
  have hb3' := hb2.grown g3 (by rw [bz]; omega) (fun k hk => by simp [Value.ownBlock] at hk)
  have hl2 := h2.lt
  have n0 := h1.cell 0
  have z0 := h2.frozen 0
  have z1 := h2.frozen 1
  have s0 := h2.cell 0
  have s1 := h2.cell 1
  have t0 := ((h2.set 0 (.int .i64 n)).set 1 (.slice A3 l c3)).cell 0
  have t1 := ((h2.set 0 (.int .i64 n)).set 1 (.slice A3 l c3)).cell 1
  have bw := (hb3'.setCell (p := ⟨w.heap.size + 1, 0, none⟩) (by simp) (.int .i64 n)).setCell (p := ⟨w.heap.size + 1, 1, none⟩) (by simp) (.slice A3 l c3)
  have o4 := own_set (own_set o3 h2 (by decide) 0 (.int .i64 n)) (h2.set 0 (.int .i64 n)) (by decide) 1 (.slice A3 l c3)
  simp at n0 s0 s1 t0 t1
  clear k1 k2 hr2 hb2 bz g3 hb3 hb0 hb3' o3 h1 h2
  go_wp2
  exact bodyPost_ret (v := .agg #[.int .i64 n, .slice A3 l c3]) (by simp [results, Tryd.results15, go_sem, t0, t1]) rfl ⟨A3, c3, rfl, World.ownsRow.mono o4 (by omega), bw⟩

set_option maxHeartbeats 1000000 in
theorem sameNet_yes (n : Int) (ars : List ArcV) (A A' : Option Addr) (l c c' : Nat) (w : World) (hl : ars.length = l) (hx : ∀ a ∈ ars, a.fit) (hr : Rd w w.heap.size A (cellsA ars)) (hr' : Rd w w.heap.size A' (cellsA ars)) (hm : l ≤ maxLen) :
    Calls Tryd.prog 18 #[.agg #[.int .i64 n, .slice A l c], .agg #[.int .i64 n, .slice A' l c']] w fun e w' => e = .returned (.bool true) ∧ Below w.heap.size w w' := by
  subst hl
  unfold maxLen at hm
  have hb0 : ∀ o o', Below w.heap.size w ((w.alloc o).alloc o') := fun o o' => ((Below.refl _ _).alloc (Nat.le_refl _) o).alloc (by simp) o'
  have k1 := (Blk.new w _ rfl 24 #[.int .i64 n, .slice A ars.length c]).alloc (.cells #[.int .i64 n, .slice A' ars.length c'] 24)
  have k2 := Blk.new (w.alloc (.cells #[.int .i64 n, .slice A ars.length c] 24)) (w.heap.size + 1) (by simp) 24 #[.int .i64 n, .slice A' ars.length c']
  have hb2 := hb0 (.cells #[.int .i64 n, .slice A ars.length c] 24) (.cells #[.int .i64 n, .slice A' ars.length c'] 24)
  have hq : (n != n) = false := by simp
  have hq2 : ((ars.length : Int) != (ars.length : Int)) = false := by simp
  go_enter Tryd.func18, Tryd.ntmps18
  go_wp2
  go_loopw [5] (fun i wr => ∃ k : Nat, k ≤ ars.length ∧ i = .int .i64 k ∧ Below w.heap.size w wr ∧ Blk wr w.heap.size 24 #[.int .i64 n, .slice A ars.length c] ∧ Blk wr (w.heap.size + 1) 24 #[.int .i64 n, .slice A' ars.length c']) (fun i _ => ars.length - (intOf i).toNat)
  case atStart => exact ⟨0, by omega, rfl, hb2, k1, k2⟩
  case round =>
    clear k1 k2 hb2 hb0
    obtain ⟨k, hk, rfl, hb, kb, kb'⟩ := hrel
    have c0 := kb.cell 1
    have c1 := kb'.cell 1
    simp at c0 c1
    by_cases hlt : k < ars.length
    · obtain ⟨b, off, a, rfl, hbl, hf, c00, c01, c02, c03, c04, hd, hxx⟩ := (hr.below hb (Nat.le_refl _)).arc hx hlt
      obtain ⟨b', off', a', rfl, hbl', hf', c10, c11, c12, c13, c14, hd', hxx'⟩ := (hr'.below hb (Nat.le_refl _)).arc hx hlt
      obtain rfl : a' = a := by have h := hxx.out; rw [hxx'.out] at h; exact Option.some.inj h
      have h1 : (0 : Int) ≤ (k : Int) := by omega
      have h2 : (k : Int) < (ars.length : Int) := by omega
      go_wp2
      go_quiet (fail)
      go_wp2
      go_roundw
      case rel => exact ⟨k + 1, by omega, by go_num, Below.drewN hb _, kb, kb'⟩
      case measure => simp [intOf]; omega
    · go_wp2
      go_ret
      exact ⟨rfl, hb⟩


theorem cmpI_ne {x y : Int} (h : x ≠ y) : (cmpI x y == 0) = false := by
  rw [beq_eq_false_iff_ne]
  unfold cmpI
  split
  · omega
  · split
    · omega
    · omega

set_option maxRecDepth 100000 in
set_option maxHeartbeats 8000000 in
theorem refConfirm_any (n : Int) (ars : List ArcV) (A : Option Addr) (l c : Nat) (p : List StI) (Ap : Option Addr) (m cp : Nat) (w : World) (hl : ars.length = l) (hx : ∀ a ∈ ars, a.fit) (hr : Rd w w.heap.size A (cellsA ars)) (hm : l ≤ maxLen)
    (hp : p.length = m) (hxp : FitT p) (hrp : Rd w w.heap.size Ap (cellsT p)) (hmp : m ≤ maxLen) :
    Calls Tryd.prog 17 #[.agg #[.int .i64 n, .slice A l c], .slice Ap m cp] w fun e w' => e = .returned (.int .i64 (confirmF n ars p)) ∧ Below w.heap.size w w' := by
  obtain ⟨W, hW⟩ : ∃ W, w.alloc (.cells #[.int .i64 n, .slice A l c] 24) = W := ⟨_, rfl⟩
  have bW : Below w.heap.size w W := by subst hW; exact (Below.refl _ _).alloc (Nat.le_refl _) _
  have k0 : Blk W w.heap.size 24 #[.int .i64 n, .slice A l c] := by subst hW; exact Blk.new w _ rfl _ _
  have FA := Lib.hid (fun w1 (hb : Below w.heap.size w w1) => (hr.below hb (Nat.le_refl _)).more hb.size)
  have FP := Lib.hid (fun w1 (hb : Below w.heap.size w w1) => (hrp.below hb (Nat.le_refl _)).more hb.size)
  have HC := Lib.hid (refCheck_any n ars A l c W hl hx (FA.out W bW) hm)
  have f0 := k0.cell 0
  have f1 := k0.cell 1
  simp at f0 f1
  unfold confirmF
  have B0 := Lib.hid bW
  have K0 := Lib.hid k0
  clear k0 bW
  by_cases h1 : checkF n ars ≠ 0
  · rw [if_pos h1]
    obtain ⟨k, hk⟩ : ∃ k, checkF n ars = k := ⟨_, rfl⟩
    rw [hk] at HC h1 ⊢
    have q : (k != 0) = true := by simpa using h1
    clear hk h1 hx hr hxp hrp
    go_enter Tryd.func17, Tryd.ntmps17
    go_wp2_with fail
    try rw [hW]
    refine HC.out.mono ?_
    rintro e w2 ⟨rfl, hb2⟩
    clear hW f0 f1
    go_wp2_with fail
    go_ret
    exact ⟨rfl, B0.out.trans (hb2.mono B0.out.size)⟩
  rw [if_neg h1]
  have h1 : checkF n ars = 0 := Decidable.not_not.1 h1
  rw [h1] at HC
  have HCY := Lib.hid (fun w1 (hb : Below w.heap.size w w1) => cycle_any n ars A l c p Ap m cp w1 hl hx (FA.out w1 hb) hp hxp (FP.out w1 hb) hmp)
  have HPR := Lib.hid (fun w1 (hb : Below w.heap.size w w1) => refProducts_any n ars A l c p Ap m cp w1 hl hx (FA.out w1 hb) hm hp hxp (FP.out w1 hb) hmp)
  have HCH := Lib.hid h1
  cases hg : (allIn ars.length p && closesB ars p) with
  | false =>
    rw [hg] at HCY
    clear hg h1 hx hr hxp hrp HPR
    simp only [Bool.false_eq_true, if_false]
    go_enter Tryd.func17, Tryd.ntmps17
    go_wp2_with fail
    try rw [hW]
    refine HC.out.mono ?_
    rintro e w2 ⟨rfl, hb2⟩
    have b2 := B0.out.trans (hb2.mono B0.out.size)
    have k2 := K0.out.lowr hb2 K0.out.lt
    have f0 := k2.cell 0
    have f1 := k2.cell 1
    simp at f0 f1
    clear hW hb2 k2
    go_wp2_with fail
    refine (HCY.out w2 b2).mono ?_
    rintro e w3 ⟨rfl, hb3⟩
    have b3 := b2.trans (hb3.mono b2.size)
    clear hb3 f0 f1
    go_wp2_with fail
    go_ret
    exact ⟨rfl, b3⟩
  | true =>
    rw [hg] at HCY
    rw [Bool.and_eq_true] at hg
    have h96 : p.length ≤ 96 := by
      have h2 := closes_le ((closesB_iff ars p).1 hg.2) hg.1
      have := (checkF_ok h1).2.2.1
      omega
    obtain ⟨r1, r2⟩ := rates_ok h1 hg.1
    have hpr : prodsF n ars p = (p.map (giveS ars), p.map (takeS ars), 0) := by
      unfold prodsF
      rw [if_neg (by omega), if_neg (by omega), if_pos hg.1]
    rw [hpr] at HPR
    unfold TwoPost at HPR
    have hl1 : (p.map (giveS ars)).length = m := by rw [List.length_map, hp]
    have hl2 : (p.map (takeS ars)).length = m := by rw [List.length_map, hp]
    obtain ⟨la, hla⟩ : ∃ la, p.map (giveS ars) = la := ⟨_, rfl⟩
    obtain ⟨lb, hlb⟩ : ∃ lb, p.map (takeS ars) = lb := ⟨_, rfl⟩
    rw [hla, hlb] at HPR ⊢
    rw [hla] at hl1 r1
    rw [hlb] at hl2 r2
    simp only at HPR
    rw [hl1, hl2] at HPR
    have m96 : m ≤ 96 := by omega
    have HFA := Lib.hid (low_ok r1).2
    have HFB := Lib.hid (low_ok r2).2
    have HL1 := Lib.hid hl1
    have HL2 := Lib.hid hl2
    obtain ⟨res, hre⟩ : ∃ r : Int, (if prodZ la = prodZ lb then 121 else 0) = r := ⟨_, rfl⟩
    simp only [if_true]
    rw [hre]
    have HRE := Lib.hid hre
    clear hre hg h96 hpr hla hlb r1 r2 h1 hx hr hxp hrp hl1 hl2
    go_enter Tryd.func17, Tryd.ntmps17
    go_wp2_with fail
    try rw [hW]
    refine HC.out.mono ?_
    rintro e w2 ⟨rfl, hb2⟩
    have b2 := B0.out.trans (hb2.mono B0.out.size)
    have k2 := K0.out.lowr hb2 K0.out.lt
    have f0 := k2.cell 0
    have f1 := k2.cell 1
    simp at f0 f1
    have K2 := Lib.hid k2
    clear hW hb2 k2
    go_wp2_with fail
    refine (HCY.out w2 b2).mono ?_
    rintro e w3 ⟨rfl, hb3⟩
    have b3 := b2.trans (hb3.mono b2.size)
    have k3 := K2.out.lowr hb3 K2.out.lt
    have f0 := k3.cell 0
    have f1 := k3.cell 1
    simp at f0 f1
    clear hb3 b2 k3 K2
    go_wp2_with fail
    refine (HPR.out w3 b3).mono ?_
    rintro e w4 ⟨Aa, Ab, ca, cb, rfl, oa, ob, -, hb4⟩
    have b4 := b3.trans (hb4.mono b3.size)
    have RA := Lib.hid (rd_of_own oa)
    have RB := Lib.hid (rd_of_own ob)
    clear hb4 oa ob f0 f1 b3
    go_wp2_with fail
    refine (product_any la Aa m ca w4.heap.size w4 HL1.out HFA.out RA.out (by omega) (Nat.le_refl _)).mono ?_
    rintro e w5 ⟨s5, A5, c5, m5, rfl, hw5, -, hb5⟩
    have b5 := b4.trans (hb5.mono b4.size)
    have RB := Lib.hid ((RB.out.below hb5 (Nat.le_refl _)).more hb5.size)
    have HW5 := Lib.hid hw5
    clear hb5 hw5 b4
    go_wp2_with fail
    refine (product_any lb Ab m cb w5.heap.size w5 HL2.out HFB.out RB.out (by omega) (Nat.le_refl _)).mono ?_
    rintro e w6 ⟨s6, A6, c6, m6, rfl, hw6, -, hb6⟩
    have b6 := b5.trans (hb6.mono b5.size)
    have HW6 := Lib.hid hw6
    have HW5 := Lib.hid (HW5.out.below hb6)
    clear hb6 hw6 b5
    go_wp2_with fail
    refine (cmp_any _ _ _ _ _ _ w6 HW5.out HW6.out).mono ?_
    rintro e w7 ⟨rfl, hb7⟩
    have b7 := b6.trans (hb7.mono b6.size)
    clear hb7 b6
    by_cases he : prodZ la = prodZ lb
    · obtain rfl : res = 121 := by rw [← HRE.out, if_pos he]
      rw [cmpI_eq he]
      clear he
      go_wp2_with fail
      go_ret
      exact ⟨rfl, b7⟩
    · obtain rfl : res = 0 := by rw [← HRE.out, if_neg he]
      have hne : (cmpI (prodZ la) (prodZ lb) == 0) = false := by rw [cmpI_ne he]
      obtain ⟨o, ho⟩ : ∃ o, cmpI (prodZ la) (prodZ lb) = o := ⟨_, rfl⟩
      rw [ho] at hne ⊢
      clear he ho
      go_wp2_with fail
      go_ret
      exact ⟨rfl, b7⟩

set_option maxRecDepth 100000 in
set_option maxHeartbeats 8000000 in
theorem wconfirms_any (n : Int) (ars : List ArcV) (A : Option Addr) (l c : Nat) (p : List StI) (Ap : Option Addr) (m cp : Nat) (w : World) (hl : ars.length = l) (hx : ∀ a ∈ ars, a.fit) (hr : Rd w w.heap.size A (cellsA ars)) (hm : l ≤ maxLen) (hlc : l ≤ c) (hza : c * 40 ≤ 140737488351232)
    (hp : p.length = m) (hmc : m ≤ cp) (hxp : FitT p) (hrp : Rd w w.heap.size Ap (cellsT p)) (hz : cp * 16 ≤ 140737488351232) (hT : Tab w) :
    Calls Tryd.prog 4 #[.agg #[.int .i64 n, .slice A l c], .slice Ap m cp] w fun e w' => e = .returned (.bool true) ∧ Below w.heap.size w w' := by
  obtain ⟨W, hW⟩ : ∃ W, w.alloc (.cells #[.int .i64 n, .slice A l c] 24) = W := ⟨_, rfl⟩
  have bW : Below w.heap.size w W := by subst hW; exact (Below.refl _ _).alloc (Nat.le_refl _) _
  have k0 : Blk W w.heap.size 24 #[.int .i64 n, .slice A l c] := by subst hW; exact Blk.new w _ rfl _ _
  have mm : m ≤ maxLen := by unfold maxLen; omega
  have zz : m * 16 ≤ 140737488351232 := by omega
  have za : l * 40 ≤ 140737488351232 := by omega
  have TO := Lib.hid (fun w1 (hb : Below w.heap.size w w1) => hT.below hb hT.pos)
  have FA := Lib.hid (fun w1 (hb : Below w.heap.size w w1) => (hr.below hb (Nat.le_refl _)).more hb.size)
  have FP := Lib.hid (fun w1 (hb : Below w.heap.size w w1) => (hrp.below hb (Nat.le_refl _)).more hb.size)
  have HCP := Lib.hid (fun (w1 : World) (hb : Below w.heap.size w w1) => stepsCopy_any p Ap m cp w1 hp (FP.out w1 hb) zz)
  have HNC := Lib.hid (fun (w1 : World) (hb : Below w.heap.size w w1) => netCopy_any n ars A l c w1 hl (FA.out w1 hb) hm za)
  have HCF := Lib.hid (fun (A1 : Option Addr) (c1 : Nat) (Aq : Option Addr) (cq : Nat) (w1 : World) (hb : Below w.heap.size w w1) (hr1 : Rd w1 w1.heap.size A1 (cellsA ars)) (hrq : Rd w1 w1.heap.size Aq (cellsT p)) (hmq : m ≤ cq) => confirm_any n ars A1 l c1 p Aq m cq w1 hl hx hr1 hm hp hxp hrq mm hmq (TO.out w1 hb))
  have HRC := Lib.hid (fun (w1 : World) (hb : Below w.heap.size w w1) => refConfirm_any n ars A l c p Ap m cp w1 hl hx (FA.out w1 hb) hm hp hxp (FP.out w1 hb) mm)
  have HSN := Lib.hid (fun (A1 : Option Addr) (c1 : Nat) (w1 : World) (hb : Below w.heap.size w w1) (hr1 : Rd w1 w1.heap.size A1 (cellsA ars)) => sameNet_yes n ars A1 A l c1 c w1 hl hx hr1 (FA.out w1 hb) hm)
  obtain ⟨r, hre⟩ : ∃ r, confirmF n ars p = r := ⟨_, rfl⟩
  rw [hre] at HCF HRC
  have HP := Lib.hid hp
  have HXP := Lib.hid hxp
  have K0 := Lib.hid k0
  have f0 := k0.cell 0
  have f1 := k0.cell 1
  simp at f0 f1
  clear hT hr hrp hx hxp k0 hp hl hre hza hz hlc
  go_enter Tryd.func4, Tryd.ntmps4
  go_wp2_with fail
  try rw [hW]
  refine (HCP.out W bW).mono ?_
  rintro e w2 ⟨A5, c5, rfl, hc5, o5, hb2⟩
  have b2 := bW.trans (hb2.mono bW.size)
  have k2 := K0.out.lowr hb2 K0.out.lt
  have K2 := Lib.hid k2
  have R5 := Lib.hid (rd_of_own o5)
  have f0 := k2.cell 0
  have f1 := k2.cell 1
  simp at f0 f1
  clear hW hb2 bW k2 K0 o5
  go_wp2_with fail
  refine (HNC.out w2 b2).mono ?_
  rintro e w3 ⟨A6, c6, rfl, o6, hb3⟩
  have b3 := b2.trans (hb3.mono b2.size)
  have k3 := K2.out.lowr hb3 K2.out.lt
  have R5 := Lib.hid ((R5.out.below hb3 (Nat.le_refl _)).more hb3.size)
  have R6 := Lib.hid (rd_of_own o6)
  obtain ⟨W4, hW4⟩ : ∃ W, w3.alloc (.cells #[.int .i64 n, .slice A6 l c6] 24) = W := ⟨_, rfl⟩
  have ba := (Below.refl w3.heap.size w3).alloc (Nat.le_refl _) (.cells #[.int .i64 n, .slice A6 l c6] 24)
  have g4 := Blk.new w3 _ rfl 24 #[.int .i64 n, .slice A6 l c6]
  rw [hW4] at ba g4
  have b4 := b3.trans (ba.mono b3.size)
  have k4 := k3.lowr ba k3.lt
  have R5 := Lib.hid ((R5.out.below ba (Nat.le_refl _)).more ba.size)
  have R6 := Lib.hid ((R6.out.below ba (Nat.le_refl _)).more ba.size)
  obtain ⟨gM, hgM⟩ : ∃ g, w3.heap.size = g := ⟨_, rfl⟩
  rw [hgM] at g4
  have m0 := g4.cell 0
  have m1 := g4.cell 1
  simp at m0 m1
  have K4 := Lib.hid k4
  have G4 := Lib.hid g4
  clear hb3 b2 K2 o6 k3 ba k4 g4 f0 f1 b3
  go_wp2_with fail
  try rw [hW4, hgM]
  refine (HCF.out A6 c6 A5 c5 W4 b4 R6.out R5.out hc5).mono ?_
  rintro e w5 ⟨rfl, hb5⟩
  have b5 := b4.trans (hb5.mono b4.size)
  have k5 := K4.out.lowr hb5 K4.out.lt
  have f0 := k5.cell 0
  have f1 := k5.cell 1
  simp at f0 f1
  have K5 := Lib.hid k5
  have G5 := Lib.hid (G4.out.lowr hb5 G4.out.lt)
  have R5 := Lib.hid ((R5.out.below hb5 (Nat.le_refl _)).more hb5.size)
  have R6 := Lib.hid ((R6.out.below hb5 (Nat.le_refl _)).more hb5.size)
  clear hb5 b4 K4 G4 k5 hW4 hgM m0 m1
  go_wp2_with fail
  refine (HRC.out w5 b5).mono ?_
  rintro e w6 ⟨rfl, hb6⟩
  have b6 := b5.trans (hb6.mono b5.size)
  have K6 := Lib.hid (K5.out.lowr hb6 K5.out.lt)
  have G6 := Lib.hid (G5.out.lowr hb6 G5.out.lt)
  have R5 := Lib.hid ((R5.out.below hb6 (Nat.le_refl _)).more hb6.size)
  have R6 := Lib.hid ((R6.out.below hb6 (Nat.le_refl _)).more hb6.size)
  have q0 : (r == r) = true := by simp
  clear hb6 b5 K5 G5 f0 f1
  go_wp2_with fail
  refine (sameT_yes p A5 Ap m c5 cp _ _ _ HP.out R5.out (FP.out w6 b6) HXP.out mm).mono ?_
  rintro e w7 ⟨rfl, d3, rfl⟩
  have b7 : Below w.heap.size w (w6.drewN d3) := Below.drewN b6 _
  have R6 : Hid (Rd (w6.drewN d3) (w6.drewN d3).heap.size A6 (cellsA ars)) := R6.out
  have K7 : Hid (Blk (w6.drewN d3) w.heap.size 24 #[.int .i64 n, .slice A l c]) := K6.out
  have G7 : Hid (Blk (w6.drewN d3) gM 24 #[.int .i64 n, .slice A6 l c6]) := G6.out
  clear b6 K6 G6 R5
  generalize World.drewN w6 d3 = w8 at b7 R6 K7 G7 ⊢
  have f0 := K7.out.cell 0
  have f1 := K7.out.cell 1
  have m0 := G7.out.cell 0
  have m1 := G7.out.cell 1
  simp at f0 f1 m0 m1
  go_wp2_with fail
  refine (HSN.out A6 c6 w8 b7 R6.out).mono ?_
  rintro e w9 ⟨rfl, hb9⟩
  have b9 := b7.trans (hb9.mono b7.size)
  clear hb9 f0 f1 m0 m1 b7
  go_wp2_with fail
  refine (awake_any w9 (TO.out w9 b9)).mono ?_
  rintro e w10 ⟨rfl, hb10⟩
  have b10 := b9.trans (hb10.mono b9.size)
  clear hb10
  go_wp2_with fail
  go_ret
  exact ⟨rfl, b10⟩
end Go.Proofs.YtkheoaleamolcaaDoor
