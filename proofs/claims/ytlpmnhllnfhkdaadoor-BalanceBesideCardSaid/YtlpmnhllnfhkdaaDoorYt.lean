/-
  pianolaref13.Solve.
-/
import Derived.Test.YtlpmnhllnfhkdaaDoorYs
import Derived.Test.YtlpmnhllnfhkdaaDoorFp3
namespace Go.Proofs.YtlpmnhllnfhkdaaDoor
open Go.RowKit

/-- what the reference's Solve answers -/
def RSolOut (n : Int) (ars : List ArcV) (w : World) (e : Ending) (w' : World) : Prop :=
  ∃ vd reps cyc k Ar cr Ac cc, e = .returned (.tuple #[.agg #[.int .u8 vd, .slice Ar reps.length cr, .slice Ac cyc.length cc], .int .i64 k]) ∧ SolA n ars vd reps cyc k ∧
    Rd w' w'.heap.size Ar (cellsI reps) ∧ Rd w' w'.heap.size Ac (cellsS cyc) ∧ Below w.heap.size w w'
theorem evenB_evA {n : Nat} {R : Nat → Nat} {a : ArcV} (hf : 0 ≤ a.f ∧ a.f < n) (ht : 0 ≤ a.t ∧ a.t < n) : evenB (rowN n fun v => (R v : Int)) a = evA R a := by
  unfold evenB evA repAt
  rw [rowN_at (by omega), rowN_at (by omega)]
  rfl
theorem rep_all {n : Nat} {R : Nat → Nat} (h : ¬ Big n R) (hp : ∀ v, 1 ≤ R v) : (rowN n fun v => (R v : Int)).all repB = true := by
  rw [List.all_eq_true]
  intro x hx
  obtain ⟨v, hv, rfl⟩ := List.mem_map.1 hx
  have := not_big h (List.mem_range.1 hv)
  have := hp v
  exact decide_eq_true (by omega)
theorem rowN_fit {n : Nat} {R : Nat → Nat} (h : ¬ Big n R) : AllFit (rowN n fun v => (R v : Int)) := by
  intro x hx
  obtain ⟨v, hv, rfl⟩ := List.mem_map.1 hx
  have := not_big h (List.mem_range.1 hv)
  show fits _
  unfold fits; omega
theorem path_len {n : Nat} {ars : List ArcV} {s t k : Int} {p : List Stp} (h : PathAns n ars s t k p) : p.length < 2 ^ 32 := by
  rcases h with ⟨-, -, rfl⟩ | ⟨-, -, -, rfl⟩ | ⟨-, m, x, y, -, -, -, -, -, -, -, rfl⟩ | ⟨hc, m, x, y, hn, -, -, -, -, -, -, T, hT, hw, hr⟩
  · simp
  · simp
  · simp
  · have h1 := long hT.forest hw hr
    obtain rfl : n = m := by omega
    obtain ⟨-, h3, -, h4⟩ := checkF_ok hc
    have h2 := spans h4
    have h5 := tree_length hT
    exact Nat.lt_of_lt_of_le h1 (Nat.pow_le_pow_right (by omega) (by omega))

set_option maxRecDepth 100000 in
set_option maxHeartbeats 8000000 in
theorem refSolve_ok (n : Nat) (ars : List ArcV) (A : Option Addr) (l c : Nat) (w : World) (hl : ars.length = l) (hx : ∀ a ∈ ars, a.fit) (hr : Rd w w.heap.size A (cellsA ars)) (hc : checkF n ars = 0) :
    Calls Tryd.prog 11 #[.agg #[.int .i64 n, .slice A l c]] w (RSolOut n ars w) := by
  obtain ⟨it, hi1, hy0, hy1, hy2⟩ := info_parts info_step
  obtain ⟨hn1, hn2, h96, -⟩ := checkF_ok hc
  rw [hl] at h96
  have C := ctx_at hc
  have hml : l ≤ maxLen := by unfold maxLen; omega
  go_enter Tryd.func11, Tryd.ntmps11
  go_upto_region 1 with fail
  have BW := (Below.refl w.heap.size w).alloc (Nat.le_refl _) (.cells #[.int .i64 n, .slice A l c] 24)
  have BW := BW.alloc BW.size (.cells #[.int .u8 0, .slice none 0 0, .slice none 0 0] 29)
  have kn := (Blk.new w _ rfl 24 #[.int .i64 n, .slice A l c]).alloc (.cells #[.int .u8 0, .slice none 0 0, .slice none 0 0] 29)
  have kb := Blk.new (w.alloc (.cells #[.int .i64 n, .slice A l c] 24)) (w.heap.size + 1) (by simp) 29 #[.int .u8 0, .slice none 0 0, .slice none 0 0]
  obtain ⟨W0, hW0⟩ : ∃ W, (w.alloc (.cells #[.int .i64 n, .slice A l c] 24)).alloc (.cells #[.int .u8 0, .slice none 0 0, .slice none 0 0] 29) = W := ⟨_, rfl⟩
  rw [hW0] at BW kn kb ⊢
  have hrA := (hr.below BW (Nat.le_refl _)).more BW.size
  obtain ⟨bn, hbn⟩ : ∃ b, w.heap.size = b := ⟨_, rfl⟩
  obtain ⟨bb, hbb⟩ : ∃ b, bn + 1 = b := ⟨_, rfl⟩
  have HW := Lib.hid BW
  rw [hbn] at kn kb ⊢
  rw [hbb] at kb ⊢
  have HBN := Lib.hid hbn
  have HBB := Lib.hid hbb
  clear hW0 BW hr hbn hbb
  have n0 := kn.cell 0
  have n1 := kn.cell 1
  simp at n0 n1
  go_wp2_with fail
  refine (refOf_any n ars A l c W0 hl hx hrA hml).mono ?_
  rintro e w1 ⟨At, ct, Ah, ch, k, tree, home, rfl, hof, hrt, hrh, hb1⟩
  obtain ⟨rfl, rfl, rfl⟩ : k = 0 ∧ tree = treeF n ars ∧ home = homeF n ars := by
    rcases hof with ⟨h, -⟩ | ⟨-, rfl, m, hnm, rfl, rfl⟩
    · exact absurd hc h
    · obtain rfl : n = m := by omega
      exact ⟨rfl, rfl, rfl⟩
  clear hof n0 n1 hrh
  have hrA1 := (hrA.below hb1 (Nat.le_refl _)).more hb1.size
  have kn1 := kn.below hb1 kn.lt
  have kb1 := kb.below hb1 kb.lt
  have HW1 := Lib.hid (HW.out.trans (hb1.mono HW.out.size))
  clear hrA kn kb hb1 HW
  obtain ⟨W2, hW2⟩ : ∃ W, w1.alloc (.cells #[.slice At (treeF n ars).length ct, .slice Ah (homeF n ars).length ch] 54) = W := ⟨_, rfl⟩
  have hb2 := (Below.refl w1.heap.size w1).alloc (Nat.le_refl _) (.cells #[.slice At (treeF n ars).length ct, .slice Ah (homeF n ars).length ch] 54)
  have kf2 := Blk.new w1 _ rfl 54 #[.slice At (treeF n ars).length ct, .slice Ah (homeF n ars).length ch]
  rw [hW2] at hb2 kf2
  obtain ⟨bf, hbf⟩ : ∃ b, w1.heap.size = b := ⟨_, rfl⟩
  rw [hbf] at kf2
  have hrA2 := (hrA1.below hb2 (Nat.le_refl _)).more hb2.size
  have hrt2 := (hrt.below hb2 (Nat.le_refl _)).more hb2.size
  have kn2 := kn1.below hb2 kn1.lt
  have kb2 := kb1.below hb2 kb1.lt
  have HW2 := Lib.hid (HW1.out.trans (hb2.mono HW1.out.size))
  clear hrA1 kn1 kb1 hb2 HW1 hrt
  have n0 := kn2.cell 0
  have n1 := kn2.cell 1
  have f0 := kf2.cell 0
  have f1 := kf2.cell 1
  simp at n0 n1 f0 f1
  go_upto_region 2 with fail
  try rw [hbf]
  try rw [hW2]
  clear hW2 hbf
  go_wp2_with fail
  refine (counts_any n ars A At Ah l c ct (homeF n ars).length ch W2 hl hx hrA2 hc hrt2).mono ?_
  rintro e w3 ⟨Ar, lr, cr, b, rfl, hb3, hB1, hB2⟩
  have hrA3 := (hrA2.below hb3 (Nat.le_refl _)).more hb3.size
  have kn3 := kn2.below hb3 kn2.lt
  have kb3 := kb2.below hb3 kb2.lt
  have HW3 := Lib.hid (HW2.out.trans (hb3.mono HW2.out.size))
  have HBW2 := Lib.hid kb2.lt
  clear hrA2 hrt2 kn2 kb2 kf2 HW2 hb3 n0 n1 f0 f1
  have hbbw : w.heap.size ≤ bb := by have := HBN.out; have := HBB.out; omega
  have r0 := kb3.cell 0
  have r1 := kb3.cell 1
  have r2 := kb3.cell 2
  have z0 := kb3.frozen 0
  have z1 := kb3.frozen 1
  have z2 := kb3.frozen 2
  simp at r0 r1 r2
  cases b with
  | false =>
    have kb5 := ((kb3.set 0 (.int .u8 3)).set 1 (.slice none 0 0)).set 2 (.slice none 0 0)
    simp at kb5
    have s0 := kb5.cell 0
    have s1 := kb5.cell 1
    have s2 := kb5.cell 2
    simp at s0 s1 s2
    have BZ := Lib.hid (((HW3.out.setCell (p := ⟨bb, 0, none⟩) hbbw (.int .u8 3)).setCell (p := ⟨bb, 1, none⟩) hbbw (.slice none 0 0)).setCell (p := ⟨bb, 2, none⟩) hbbw (.slice none 0 0))
    have HBIG := Lib.hid (hB2 rfl)
    clear kb5 kb3 hB1 hB2 hbbw
    go_wp2_with fail
    refine bodyPost_ret (v := .tuple #[.agg #[.int .u8 3, .slice none 0 0, .slice none 0 0], .int .i64 0]) (by simp [results, Tryd.results11, go_sem, s0, s1, s2]) rfl ?_
    exact ⟨3, [], [], 0, none, 0, none, 0, rfl, .inr ⟨hc, rfl, n, rfl, .inl ⟨HBIG.out, rfl, rfl, rfl⟩⟩, .inl rfl, .inl rfl, BZ.out⟩
  | true =>
    obtain ⟨hlr, oR, NB⟩ := hB1 rfl
    have hlr := hlr.symm
    subst hlr
    have hrR := rd_of_own oR
    have OR := Lib.hid oR
    clear oR
    have NB := Lib.hid NB
    have HFR := Lib.hid (rowN_fit NB.out)
    have HRP := Lib.hid (rep_all NB.out C.ri.pos)
    have hln := Lib.hid (rowN_length n (fun v => (cR n ars v : Int)))
    clear hB1 hB2
    go_wp2_with fail
    clear r0 r1 r2 z0 z1 z2
    go_loopw [8] (fun i wr => ∃ k : Nat, k ≤ l ∧ i = .int .i64 k ∧ Below w3.heap.size w3 wr ∧ Hid (∀ j b, j < k → ars[j]? = some b → evA (cR n ars) b = true)) (fun i _ => l - (intOf i).toNat)
    case atStart => exact ⟨0, Nat.zero_le _, rfl, Below.refl _ _, fun j b hj => by omega⟩
    case round =>
      obtain ⟨k, hk, rfl, B5, HE⟩ := hrel
      have kn5 := kn3.below B5 kn3.lt
      have n0 := kn5.cell 0
      have n1 := kn5.cell 1
      simp at n0 n1
      by_cases hkl : k < l
      · obtain ⟨b0, off, a, rfl, hbl, hfa, c0, c1, c2, c3, c4, hd, hat⟩ := (hrA3.below B5 (Nat.le_refl _)).arc (k := k) hx (by omega)
        have hab := C.arc a (List.mem_of_getElem? hat.out)
        have hok : a.ok (rowN n (fun v => (cR n ars v : Int))).length := by
          rw [hln.out]
          obtain ⟨m, hm1, hm2⟩ := netOk_of hc
          obtain rfl : n = m := by omega
          exact hm2.ok a (List.mem_of_getElem? hat.out)
        have hEB : evenB (rowN n (fun v => (cR n ars v : Int))) a = evA (cR n ars) a := evenB_evA ⟨hab.1, hab.2.1⟩ ⟨hab.2.2.1, hab.2.2.2.1⟩
        have hrR5 := (hrR.below B5 (Nat.le_refl _)).more B5.size
        have HEV := even_any a (rowN n (fun v => (cR n ars v : Int))) Ar cr wr hok HRP.out HFR.out hrR5
        rw [hEB, hln.out] at HEV
        have HAT := Lib.hid hat.out
        have HHM := Lib.hid (C.same hat.out)
        clear hok hEB hat hd hfa hrR5
        obtain ⟨ev, hev⟩ : ∃ e, evA (cR n ars) a = e := ⟨_, rfl⟩
        rw [hev] at HEV
        have HEV2 := Lib.hid hev
        have HEVC := Lib.hid HEV
        clear hev HEV
        have i1 : (0 : Int) ≤ (k : Int) := by omega
        have i2 : (k : Int) < (l : Int) := by omega
        go_wp2_with fail
        refine HEVC.out.mono ?_
        rintro e w6 ⟨rfl, hb6⟩
        have B6 := B5.trans (hb6.mono B5.size)
        clear n0 n1 c0 c1 c2 c3 c4 HEVC kn5 hb6 B5
        cases ev with
        | true =>
          have HE2 := Lib.hid (show ∀ j b, j < k + 1 → ars[j]? = some b → evA (cR n ars) b = true from fun j b hj hb => by
            by_cases hjk : j = k
            · subst hjk
              have := HAT.out
              rw [hb] at this
              injection this with this
              subst this
              exact HEV2.out
            · exact HE.out j b (by omega) hb)
          clear HEV2 HE hab
          go_wp2_with fail
          go_roundw
          case rel => exact ⟨k + 1, by omega, by go_num, B6, HE2⟩
          case measure => simp [intOf]; omega
        | false =>
          obtain ⟨f, hf⟩ : ∃ f : Nat, a.f = f := ⟨a.f.toNat, by omega⟩
          obtain ⟨t, ht⟩ : ∃ t : Nat, a.t = t := ⟨a.t.toNat, by omega⟩
          have hfl : f < n := by omega
          have htl : t < n := by omega
          have kn6 := kn3.below B6 kn3.lt
          have n0 := kn6.cell 0
          have n1 := kn6.cell 1
          simp at n0 n1
          have hA6 := hrA3.below B6 (Nat.le_refl _)
          obtain ⟨b1, off1, a1, hbe, hbl1, hfa, c0, c1, -, -, -, -, hat⟩ := hA6.arc (k := k) hx (by omega)
          injection hbe with hbe
          injection hbe with h1 h2
          subst h1
          subst h2
          obtain rfl : a = a1 := by have := hat.out; rw [HAT.out] at this; exact Option.some.inj this
          rw [hf] at c0
          rw [ht] at c1
          have HA6 := Lib.hid hA6
          have HP := Lib.hid (fun (w : World) (hr : Rd w w.heap.size (some ⟨b0, off, none⟩) (cellsA ars)) => refPath_any (n : Int) ars (some ⟨b0, off, none⟩) l c (t : Int) (f : Int) w hl hx hr hml (by unfold fits; omega) (by unfold fits; omega))
          have HF := Lib.hid hf
          have HT := Lib.hid ht
          have hbl6 : b0 < w6.heap.size := by have := B6.size; omega
          have hn6 : bn < w6.heap.size := kn6.lt
          have R0 : Hid (∀ w', Below w6.heap.size w6 w' → Rd w' w'.heap.size (some ⟨b0, off, none⟩) (cellsA ars)) := fun w' hb => ((HA6.out.more B6.size).below hb (Nat.le_refl _)).more hb.size
          have KN6 := Lib.hid kn6
          have HB6 := Lib.hid B6
          clear hat hfa hab hf ht hA6 kn6 B6
          go_upto_region 11 with fail
          go_cut [9] (fun s9 wx => ∃ A' c' k' p, s9 = .slice A' p.length c' ∧ PathAns n ars t f k' p ∧ Rd wx wx.heap.size A' (cellsS p) ∧ Below w6.heap.size w6 wx)
          case first =>
            go_region_held3 (fun w' => w'.cell? ⟨bn, 0, none⟩ = some (.int .i64 n) ∧ w'.cell? ⟨bn, 1, none⟩ = some (.slice (some ⟨b0, off, none⟩) l c) ∧ w'.cell? ⟨b0, off + k * 5, none⟩ = some (.int .i64 f) ∧ w'.cell? ⟨b0, off + k * 5 + 1, none⟩ = some (.int .i64 t))
              (go_keep)
              (first
                | (go_at_call 29; refine (HP.out _ (R0.out _ (Below.drewN (Below.refl _ _) 1))).mono ?_; rintro e' w7 ⟨A', c', k', p, rfl, hpa, hrp, hb7⟩; have q0 : w7.cell? ⟨bn, 0, none⟩ = some (.int .i64 n) := (hb7.cell (p := ⟨bn, 0, none⟩) (by simp; omega)).trans (by simp [*]); have q1 : w7.cell? ⟨bn, 1, none⟩ = some (.slice (some ⟨b0, off, none⟩) l c) := (hb7.cell (p := ⟨bn, 1, none⟩) (by simp; omega)).trans (by simp [*]); have q2 : w7.cell? ⟨b0, off + k * 5, none⟩ = some (.int .i64 f) := (hb7.cell (p := ⟨b0, off + k * 5, none⟩) (by simp; omega)).trans (by simp [*]); have q3 : w7.cell? ⟨b0, off + k * 5 + 1, none⟩ = some (.int .i64 t) := (hb7.cell (p := ⟨b0, off + k * 5 + 1, none⟩) (by simp; omega)).trans (by simp [*])))
            go_wp2
            go_meet
            exact ⟨A', c', k', p, rfl, hpa, hrp, (Below.drewN (Below.refl _ w6) 1).trans hb7⟩
          case rest =>
            obtain ⟨A', c', k', p, rfl, hpa, hrp, hb7⟩ := hcut
            obtain ⟨w7, rfl⟩ : ∃ w1 : World, w1 = wc := ⟨_, rfl⟩
            obtain rfl : k' = 0 := by
              rcases hpa with ⟨h, -⟩ | ⟨-, h, -⟩ | ⟨-, m, x, y, h1, h2, h3, -, -, h4, -⟩ | ⟨-, m, x, y, -, -, -, -, -, -, h, -⟩
              · exact absurd hc h
              · omega
              · obtain rfl : n = m := by omega
                obtain rfl : t = x := by omega
                obtain rfl : f = y := by omega
                have := HHM.out
                unfold hm at this
                rw [HF.out, HT.out] at this
                exact absurd (by simpa using this.symm) h4
              · exact h
            have hplen := path_len hpa
            have HPA := Lib.hid hpa
            have B7 := Lib.hid (HB6.out.trans (hb7.mono HB6.out.size))
            clear hpa hb7 n0 n1 c0 c1 HP HA6 R0 KN6 HB6 hrA3
            have kb9 := kb3.below B7.out kb3.lt
            obtain ⟨W8, hW8⟩ : ∃ W, w7.alloc (.cells #[.int .i64 (k : Nat), .bool false] 39) = W := ⟨_, rfl⟩
            have hb8 := (Below.refl w7.heap.size w7).alloc (Nat.le_refl _) (.cells #[.int .i64 (k : Nat), .bool false] 39)
            have rl := rd_alloc w7 _ rfl 39 [.int .i64 (k : Nat), .bool false]
            have rl : Rd (w7.alloc (.cells #[.int .i64 (k : Nat), .bool false] 39)) (w7.heap.size + 1) (some ⟨w7.heap.size, 0, none⟩) [.int .i64 (k : Nat), .bool false] := rl
            rw [hW8] at hb8 rl
            have hrp8 := hrp.below hb8 (Nat.le_refl _)
            have kb8 := kb9.below hb8 kb9.lt
            have hz7 := Lib.hid (show w3.heap.size ≤ w7.heap.size from B7.out.size)
            have hkb9 := kb9.lt
            have B8 := Lib.hid (B7.out.trans (hb8.mono B7.out.size))
            have hs8 : w7.heap.size ≤ W8.heap.size := hb8.size
            obtain ⟨g7, hg7⟩ : ∃ g, w7.heap.size = g := ⟨_, rfl⟩
            rw [hg7] at rl hrp8 hz7 hkb9 hs8
            clear hb8 kb9 B7 hrp
            have hAP1 := fun (op : Array Oper) (rest : List Oper) (o : Oper) (a : Act) (Q : Exit → Act → World → Prop) h1 h2 h3 h4 K => wpList_append_rd (P := Tryd.prog) (w := W8) (ops := op) (rest := rest) (o := o) (a := a) (Q := Q) h1 (.tmp 61) (.tmp 64) 27 h2 g7 39 it (.agg #[.int .i64 0, .bool false]) 2 16 Tryd.underlying27 hi1 hy0 hy1 hy2 rfl (by decide) (.slice none 0 0) 0 [] h3 (World.ownsRow_nil _ _ _ _) (g7 + 1) (some ⟨g7, 0, none⟩) 1 1 [.int .i64 (k : Nat), .bool false] h4 rfl rl (by simp [Value.oneCell']) (by unfold maxLen; omega) (by omega) hs8 K
            go_upto_region 13 with fail
            go_wp2_with (at_builtin; refine hAP1 _ _ _ _ _ ?_ ?_ ?_ ?_ ?_; rfl; rfl; rfl; rfl)
            intro v1 W9 o9 hgr9 hv9
            have hv := own_slice o9
            obtain ⟨A1, c1, rfl, -⟩ := hv
            have o9 : W9.ownsRow g7 39 2 (.slice A1 1 c1) 1 [.int .i64 (k : Nat), .bool false] := o9
            have B9 := Lib.hid (B8.out.grown hgr9 (by have := B8.out.size; exact this) (fun q hq => by cases hq))
            have kb10 := kb8.grown hgr9 (by simp [Value.ownBlock])
            have hb98 : Below g7 W8 W9 := (Below.refl g7 W8).grown hgr9 hs8 (fun q hq => by cases hq)
            have hrp9 := hrp8.below hb98 (Nat.le_refl _)
            have hs9 : g7 ≤ W9.heap.size := Nat.le_trans hs8 hb98.size
            have e4 := cellsS_length p
            have e5 := cellsS_one p
            have e1 : 1 + p.length ≤ maxLen := by unfold maxLen; omega
            have e2 : (1 + p.length) * 16 ≤ 140737488355328 := by omega
            have hAP2 := fun (op : Array Oper) (rest : List Oper) (o : Oper) (a : Act) (Q : Exit → Act → World → Prop) h1 h2 h3 h4 K => wpList_append_rd (P := Tryd.prog) (w := W9) (ops := op) (rest := rest) (o := o) (a := a) (Q := Q) h1 (.tmp 66) (.tmp 67) 27 h2 g7 39 it (.agg #[.int .i64 0, .bool false]) 2 16 Tryd.underlying27 hi1 hy0 hy1 hy2 rfl (by decide) (.slice A1 1 c1) 1 [.int .i64 (k : Nat), .bool false] h3 o9 g7 A' p.length c' (cellsS p) h4 e4 hrp9 e5 e1 e2 hs9 K
            have hob1 := o9.lt
            clear hAP1 hrp8 rl hgr9 hv9 hb98 kb8 B8 e1 e2 e4 e5 hW8 hg7
            go_wp2_with (at_builtin; refine hAP2 _ _ _ _ _ ?_ ?_ ?_ ?_ ?_; rfl; rfl; rfl; rfl)
            intro v' W11 o11 hgr11 hv11
            have hv := own_slice o11
            obtain ⟨Ac, cc, rfl, -⟩ := hv
            have B11 := Lib.hid (B9.out.grown hgr11 (by have := B9.out.size; exact this) (fun q hq => by have := (hob1 q hq).1; have := hz7.out; omega))
            have kb11 := kb10.grown hgr11 (fun he => by have := (hob1 bb he.symm).1; omega)
            have oc : W11.ownsRow g7 39 2 (.slice Ac (1 + p.length) cc) (1 + p.length) (cellsS ((k, false) :: p)) := by
              have h1 : cellsS ((k, false) :: p) = [.int .i64 (k : Nat), .bool false] ++ cellsS p := by simp [cellsS, stepCells]
              rw [h1]
              exact o11
            clear o11 hgr11 hv11 kb10 B9 hAP2 hrp9 o9
            have r0 := kb11.cell 0
            have r1 := kb11.cell 1
            have r2 := kb11.cell 2
            have z0 := kb11.frozen 0
            have z1 := kb11.frozen 1
            have z2 := kb11.frozen 2
            simp at r0 r1 r2
            have kb5 := ((kb11.set 0 (.int .u8 2)).set 1 (.slice none 0 0)).set 2 (.slice Ac (1 + p.length) cc)
            simp at kb5
            have s0 := kb5.cell 0
            have s1 := kb5.cell 1
            have s2 := kb5.cell 2
            simp at s0 s1 s2
            have BZ := Lib.hid ((((HW3.out.trans (B11.out.mono HW3.out.size)).setCell (p := ⟨bb, 0, none⟩) hbbw (.int .u8 2)).setCell (p := ⟨bb, 1, none⟩) hbbw (.slice none 0 0)).setCell (p := ⟨bb, 2, none⟩) hbbw (.slice Ac (1 + p.length) cc))
            have hob : ∀ q, (Value.slice Ac (1 + p.length) cc).ownBlock = some q → g7 ≤ q := fun q hq => own_ge oc hq
            have hnb : (Value.slice Ac (1 + p.length) cc).ownBlock ≠ some bb := fun he => by have := hob _ he; omega
            have o12 := ownsRow_setCell_other (ownsRow_setCell_other (ownsRow_setCell_other oc (a := ⟨bb, 0, none⟩) hnb (.int .u8 2)) (a := ⟨bb, 1, none⟩) hnb (.slice none 0 0)) (a := ⟨bb, 2, none⟩) hnb (.slice Ac (1 + p.length) cc)
            have OZ := Lib.hid (rd_of_own o12)
            clear kb5 kb11 oc o12 B11 hob hnb
            go_wp2_with fail
            refine bodyPost_ret (v := .tuple #[.agg #[.int .u8 2, .slice none 0 0, .slice Ac (1 + p.length) cc], .int .i64 0]) (by simp [results, Tryd.results11, go_sem, s0, s1, s2]) rfl ?_
            have hln : ((k, false) :: p).length = 1 + p.length := by simp; omega
            exact ⟨2, [], (k, false) :: p, 0, none, 0, Ac, cc, by rw [hln]; rfl, .inr ⟨hc, rfl, n, rfl, .inr (.inl ⟨NB.out, rfl, rfl, k, a, p, ⟨HAT.out, HEV2.out, HE.out⟩, by rw [HT.out, HF.out]; exact HPA.out, rfl⟩)⟩, .inl rfl, OZ.out, BZ.out⟩
      · obtain rfl : l = k := by omega
        have kb9 := kb3.below B5 kb3.lt
        have r0 := kb9.cell 0
        have r1 := kb9.cell 1
        have r2 := kb9.cell 2
        have z0 := kb9.frozen 0
        have z1 := kb9.frozen 1
        have z2 := kb9.frozen 2
        simp at r0 r1 r2
        have kb5 := ((kb9.set 0 (.int .u8 1)).set 1 (.slice Ar n cr)).set 2 (.slice none 0 0)
        simp at kb5
        have s0 := kb5.cell 0
        have s1 := kb5.cell 1
        have s2 := kb5.cell 2
        simp at s0 s1 s2
        have BZ := Lib.hid ((((HW3.out.trans (B5.mono HW3.out.size)).setCell (p := ⟨bb, 0, none⟩) hbbw (.int .u8 1)).setCell (p := ⟨bb, 1, none⟩) hbbw (.slice Ar n cr)).setCell (p := ⟨bb, 2, none⟩) hbbw (.slice none 0 0))
        have o9 := own_below OR.out B5
        have hnb : (Value.slice Ar n cr).ownBlock ≠ some bb := fun he => by have := own_ge o9 he; have := HBW2.out; omega
        have o10 := ownsRow_setCell_other (ownsRow_setCell_other (ownsRow_setCell_other o9 (a := ⟨bb, 0, none⟩) hnb (.int .u8 1)) (a := ⟨bb, 1, none⟩) hnb (.slice Ar n cr)) (a := ⟨bb, 2, none⟩) hnb (.slice none 0 0)
        have OZ := Lib.hid (rd_of_own o10)
        have HALL := Lib.hid (show ∀ a ∈ ars, evA (cR n ars) a = true from fun a ha => by
          obtain ⟨j, hj⟩ := List.getElem?_of_mem ha
          exact HE.out j a (by have := (List.getElem?_eq_some_iff.1 hj).1; omega) hj)
        clear kb5 kb9 HE B5 o9 o10 hnb
        go_wp2_with fail
        refine bodyPost_ret (v := .tuple #[.agg #[.int .u8 1, .slice Ar n cr, .slice none 0 0], .int .i64 0]) (by simp [results, Tryd.results11, go_sem, s0, s1, s2]) rfl ?_
        exact ⟨1, rowN n (fun v => (cR n ars v : Int)), [], 0, Ar, cr, none, 0, by rw [hln.out]; rfl, .inr ⟨hc, rfl, n, rfl, .inr (.inr ⟨NB.out, HALL.out, rfl, rfl, rfl⟩)⟩, OZ.out, .inl rfl, BZ.out⟩
end Go.Proofs.YtlpmnhllnfhkdaaDoor
