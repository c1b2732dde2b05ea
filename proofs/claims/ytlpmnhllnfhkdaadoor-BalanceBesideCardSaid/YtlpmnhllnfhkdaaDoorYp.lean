/-
  pianolaref13.Counts.
-/
import Derived.Test.YtlpmnhllnfhkdaaDoorM7
import Derived.Test.YtlpmnhllnfhkdaaDoorYd
namespace Go.Proofs.YtlpmnhllnfhkdaaDoor
open Go.RowKit

/-- the memory of Counts: the row of counts, the row of parts -/
structure CtSt (w0 w : World) (gA gP n : Nat) (R P : Nat → Nat) : Prop where
  oa : w.ownsRow w0.heap.size 3 1 (.slice (some ⟨gA, 0, none⟩) n n) n (cellsI (rowN n fun v => (R v : Int)))
  op : w.ownsRow w0.heap.size 3 1 (.slice (some ⟨gP, 0, none⟩) n n) n (cellsI (rowN n fun v => (P v : Int)))
  bw : Below w0.heap.size w0 w
  ne : gA ≠ gP
theorem CtSt.below {w0 w w' : World} {gA gP n : Nat} {R P : Nat → Nat} (h : CtSt w0 w gA gP n R P) (hb : Below w.heap.size w w') : CtSt w0 w' gA gP n R P :=
  ⟨own_below h.oa hb, own_below h.op hb, h.bw.trans (hb.mono h.bw.size), h.ne⟩
theorem CtSt.alloc {w0 w : World} {gA gP n : Nat} {R P : Nat → Nat} (h : CtSt w0 w gA gP n R P) (o : Obj) : CtSt w0 (w.alloc o) gA gP n R P := h.below ((Below.refl _ _).alloc (Nat.le_refl _) o)
theorem CtSt.drewN {w0 w : World} {gA gP n : Nat} {R P : Nat → Nat} (h : CtSt w0 w gA gP n R P) (d : Nat) : CtSt w0 (w.drewN d) gA gP n R P := h.below (Below.drewN (Below.refl _ _) d)
theorem CtSt.gA {w0 w : World} {gA gP n : Nat} {R P : Nat → Nat} (h : CtSt w0 w gA gP n R P) : w0.heap.size ≤ gA := own_ge h.oa rfl
theorem CtSt.gP {w0 w : World} {gA gP n : Nat} {R P : Nat → Nat} (h : CtSt w0 w gA gP n R P) : w0.heap.size ≤ gP := own_ge h.op rfl
theorem rowN_set' {n : Nat} {R : Nat → Nat} {k u : Nat} : (rowN n fun v => (R v : Int)).set k (u : Int) = rowN n fun v => ((if v = k then u else R v : Nat) : Int) := by
  rw [rowN_set]
  exact rowN_ext fun v _ => by split <;> rfl
theorem CtSt.setA {w0 w : World} {gA gP n : Nat} {R P : Nat → Nat} (h : CtSt w0 w gA gP n R P) (j u : Nat) : CtSt w0 (w.setCell ⟨gA, j, none⟩ (.int .i64 (u : Nat))) gA gP n (fun v => if v = j then u else R v) P := by
  have h1 := h.gA
  have h2 := h.ne
  have o1 := (h.oa.stored j (.int .i64 (u : Nat))).1
  rw [cellsI_set, rowN_set'] at o1
  exact ⟨o1, ownsRow_setCell_other h.op (by simp [Value.ownBlock]; omega) _, h.bw.setCell (by simp; omega) _, h2⟩
theorem CtSt.setP {w0 w : World} {gA gP n : Nat} {R P : Nat → Nat} (h : CtSt w0 w gA gP n R P) (j u : Nat) : CtSt w0 (w.setCell ⟨gP, j, none⟩ (.int .i64 (u : Nat))) gA gP n R (fun v => if v = j then u else P v) := by
  have h1 := h.gP
  have h2 := h.ne
  have o1 := (h.op.stored j (.int .i64 (u : Nat))).1
  rw [cellsI_set, rowN_set'] at o1
  exact ⟨ownsRow_setCell_other h.oa (by simp [Value.ownBlock]; omega) _, o1, h.bw.setCell (by simp; omega) _, h2⟩
theorem CtSt.ext {w0 w : World} {gA gP n : Nat} {R P R' P' : Nat → Nat} (h : CtSt w0 w gA gP n R P) (hR : ∀ v, v < n → R v = R' v) (hP : ∀ v, v < n → P v = P' v) : CtSt w0 w gA gP n R' P' :=
  ⟨by rw [rowN_ext (V' := fun v => (R v : Int)) fun v hv => by rw [hR v hv]]; exact h.oa, by rw [rowN_ext (V' := fun v => (P v : Int)) fun v hv => by rw [hP v hv]]; exact h.op, h.bw, h.ne⟩
theorem CtSt.cA {w0 w : World} {gA gP n : Nat} {R P : Nat → Nat} (h : CtSt w0 w gA gP n R P) {j : Nat} (hj : j < n) : w.cell? ⟨gA, j, none⟩ = some (.int .i64 (R j : Nat)) := by
  rw [h.oa.cellAt j (by omega)]
  simp only [cellsI, List.getElem?_map, rowN_at hj]; rfl
theorem CtSt.cP {w0 w : World} {gA gP n : Nat} {R P : Nat → Nat} (h : CtSt w0 w gA gP n R P) {j : Nat} (hj : j < n) : w.cell? ⟨gP, j, none⟩ = some (.int .i64 (P j : Nat)) := by
  rw [h.op.cellAt j (by omega)]
  simp only [cellsI, List.getElem?_map, rowN_at hj]; rfl
/-- what Counts answers -/
def CtOut (n : Nat) (R : Nat → Nat) (w : World) (e : Ending) (w' : World) : Prop :=
  ∃ Ar l cr b, e = .returned (.tuple #[.slice Ar l cr, .bool b]) ∧ Below w.heap.size w w' ∧
    (b = true → l = n ∧ w'.ownsRow w.heap.size 3 1 (.slice Ar n cr) n (cellsI (rowN n fun v => (R v : Int))) ∧ ¬ Big n R) ∧ (b = false → Big n R)
/-- half a step -/
def mixF (k : Nat) (A B : Nat → Nat) (v : Nat) : Nat := if v < k then A v else B v

set_option maxRecDepth 100000 in
set_option maxHeartbeats 8000000 in
theorem counts_any (n : Nat) (ars : List ArcV) (A At Ah : Option Addr) (l c ct lh ch : Nat) (w : World) (hl : ars.length = l) (hx : ∀ a ∈ ars, a.fit) (hr : Rd w w.heap.size A (cellsA ars)) (hc : checkF n ars = 0)
    (hrt : Rd w w.heap.size At (cellsI (treeF n ars))) :
    Calls Tryd.prog 27 #[.agg #[.int .i64 n, .slice A l c], .agg #[.slice At (treeF n ars).length ct, .slice Ah lh ch]] w (CtOut n (cR n ars) w) := by
  obtain ⟨i0, hi, hz0, hz1, hz2⟩ := info_parts info_int
  obtain ⟨hn1, hn2, h96, -⟩ := checkF_ok hc
  rw [hl] at h96
  have htl := treeF_le n ars
  have htf := tree_fit hc
  go_enter Tryd.func27, Tryd.ntmps27
  go_upto_region 1 with fail
  obtain ⟨W0, hW0⟩ : ∃ W, (w.alloc (.cells #[.int .i64 n, .slice A l c] 24)).alloc (.cells #[.slice At (treeF n ars).length ct, .slice Ah lh ch] 54) = W := ⟨_, rfl⟩
  have BW := (Below.refl w.heap.size w).alloc (Nat.le_refl _) (.cells #[.int .i64 n, .slice A l c] 24)
  have BW := BW.alloc BW.size (.cells #[.slice At (treeF n ars).length ct, .slice Ah lh ch] 54)
  have kn := (Blk.new w _ rfl 24 #[.int .i64 n, .slice A l c]).alloc (.cells #[.slice At (treeF n ars).length ct, .slice Ah lh ch] 54)
  have kf := Blk.new (w.alloc (.cells #[.int .i64 n, .slice A l c] 24)) (w.heap.size + 1) (by simp) 54 #[.slice At (treeF n ars).length ct, .slice Ah lh ch]
  rw [hW0] at BW kn kf ⊢
  have hrA := (hr.below BW (Nat.le_refl _)).more BW.size
  have hrT := (hrt.below BW (Nat.le_refl _)).more BW.size
  have HW := Lib.hid BW
  obtain ⟨bn, hbn⟩ : ∃ b, w.heap.size = b := ⟨_, rfl⟩
  obtain ⟨bf, hbf⟩ : ∃ b, bn + 1 = b := ⟨_, rfl⟩
  rw [hbn] at kn kf ⊢
  rw [hbf] at kf ⊢
  clear hW0 BW hr hrt hbn hbf
  have n0 := kn.cell 0
  simp at n0
  have hmade : (madeCells #[Value.int .i64 0] n).toList = cellsI (rowN n fun _ => ((0 : Nat) : Int)) := by
    have h1 := madeCells_int n
    have h2 : rowN n (fun _ => ((0 : Nat) : Int)) = List.replicate n 0 := by
      refine List.ext_getElem? fun v => ?_
      by_cases hv : v < n
      · rw [rowN_at hv]; simp [hv]
      · rw [List.getElem?_eq_none (by rw [rowN_length]; omega), List.getElem?_eq_none (by simp; omega)]
    rw [h2]
    simpa [Value.cells] using h1
  go_wp2_with (at_make; refine wpList_make_full _ rfl _ _ 26 rfl W0.heap.size 3 i0 (.int .i64 0) 1 Tryd.underlying26 hi hz0 hz1 _ _ _ _ n rfl rfl (by omega) (by omega) (by rw [hz2]; omega) (by unfold maxLen; omega) (by simp) ?_)
  intro W1 o1 g1
  try rw [hmade] at o1
  have hlt1 := own_lt o1
  have B1 := (Below.refl W0.heap.size W0).grown g1 (Nat.le_refl _) (fun k hk => by cases hk)
  have kn1 := kn.below B1 kn.lt
  have n1 := kn1.cell 0
  simp at n1
  obtain ⟨gA, hgA⟩ : ∃ gS, W0.heap.size = gS := ⟨_, rfl⟩
  have hA1 : (Value.slice (some ⟨W0.heap.size, 0, none⟩) n n) = .slice (some ⟨gA, 0, none⟩) n n := by rw [hgA]
  rw [hA1] at o1 ⊢
  have HGA := Lib.hid hgA
  rw [hgA] at hlt1
  clear g1 n0 hgA hA1
  go_wp2_with (at_make; refine wpList_make_full _ rfl _ _ 26 rfl W0.heap.size 3 i0 (.int .i64 0) 1 Tryd.underlying26 hi hz0 hz1 _ _ _ _ n rfl rfl (by omega) (by omega) (by rw [hz2]; omega) (by unfold maxLen; omega) (by have := B1.size; omega) ?_)
  intro W2 o2 g2
  try rw [hmade] at o2
  have S2 : CtSt W0 W2 gA W1.heap.size n (fun _ => 0) (fun _ => 0) := ⟨o1.kept g2 (by simp [Value.ownBlock]), o2, B1.grown g2 B1.size (fun k hk => by cases hk), by omega⟩
  obtain ⟨gP, hgP⟩ : ∃ gS, W1.heap.size = gS := ⟨_, rfl⟩
  rw [hgP] at S2 ⊢
  clear g2 n1 hgP o1 o2 hmade B1 kn1 hlt1
  go_wp2_with fail
  go_loopw [8] (fun i wr => ∃ k : Nat, k ≤ n ∧ i = .int .i64 k ∧ CtSt W0 wr gA gP n (mixF k (fun _ => 1) (fun _ => 0)) (mixF k id (fun _ => 0))) (fun i _ => n - (intOf i).toNat)
  case atStart => exact ⟨0, Nat.zero_le _, rfl, S2.ext (fun v _ => by simp [mixF]) (fun v _ => by simp [mixF])⟩
  case round =>
    clear S2
    obtain ⟨k, hk, rfl, S⟩ := hrel
    have n1 := (kn.below S.bw kn.lt).cell 0
    simp at n1
    by_cases hkn : k < n
    · have a0 := S.cA hkn
      have z0 := S.oa.frozenAt k
      have S3 : CtSt W0 (wr.setCell ⟨gA, k, none⟩ (.int .i64 1)) gA gP n (fun v => if v = k then 1 else mixF k (fun _ => 1) (fun _ => 0) v) (mixF k id (fun _ => 0)) := S.setA k 1
      have a1 := S3.cP hkn
      have z1 := S3.op.frozenAt k
      have S4 := (S3.setP k k).ext (R' := mixF (k + 1) (fun _ => 1) (fun _ => 0)) (P' := mixF (k + 1) id (fun _ => 0)) (fun v hv => by
        unfold mixF
        by_cases hvk : v = k
        · subst hvk; simp
        · rw [if_neg hvk]
          by_cases hlt : v < k
          · rw [if_pos hlt, if_pos (by omega)]
          · rw [if_neg hlt, if_neg (by omega)]) (fun v hv => by
        unfold mixF
        by_cases hvk : v = k
        · subst hvk; simp
        · rw [if_neg hvk]
          by_cases hlt : v < k
          · rw [if_pos hlt, if_pos (by omega)]
          · rw [if_neg hlt, if_neg (by omega)])
      clear S S3
      go_wp2_with fail
      go_roundw
      case rel => exact ⟨k + 1, by omega, by go_num, S4⟩
      case measure => simp [intOf]; omega
    · obtain rfl : n = k := by omega
      have S3 := S.ext (R' := (cI n ars 0).1) (P' := (cI n ars 0).2) (fun v hv => by rw [cI_zero]; simp [mixF, hv]) (fun v hv => by rw [cI_zero]; simp [mixF, hv])
      clear S
      go_wp2_with fail
      go_loopw [9] (fun i wr => ∃ k : Nat, k ≤ (treeF n ars).length ∧ i = .int .i64 k ∧ CtSt W0 wr gA gP n (cI n ars k).1 (cI n ars k).2 ∧ Hid (∀ v, v < n → (cI n ars k).1 v ≤ 4096)) (fun i _ => (treeF n ars).length - (intOf i).toNat)
      case atStart => exact ⟨0, Nat.zero_le _, rfl, S3, fun v _ => by rw [cI_zero]; simp⟩
      case round =>
        clear S3
        obtain ⟨k, hk, rfl, S, HB⟩ := hrel
        have f0 := (kf.below S.bw kf.lt).cell 0
        simp at f0
        by_cases hkt : k < (treeF n ars).length
        · obtain ⟨b, off, x, rfl, hb, hfx, t0, -, hat⟩ := (hrT.below S.bw (Nat.le_refl _)).at_ (k := k) htf hkt
          obtain ⟨e, a, ha, rfl, haf, hat', hef, het, hG, hK, g1, g2, k1, k2, hnext⟩ := cI_succ hc hat.out
          have hlt : e.i < ars.length := (List.getElem?_eq_some_iff.1 ha).1
          obtain ⟨b', off', a', rfl, hb', hfa, c0, c1, c2, c3, c4, -, ha'⟩ := (hrA.below S.bw (Nat.le_refl _)).arc (k := e.i) hx hlt
          obtain rfl : a = a' := by have := ha'.out; rw [ha] at this; exact Option.some.inj this
          rw [haf] at c0
          rw [hat'] at c1
          have m1 := (kn.below S.bw kn.lt).cell 1
          simp at m1
          have i1 : (e.i : Int) < (l : Int) := by omega
          have i0' : (0 : Int) ≤ (e.i : Int) := by omega
          obtain ⟨g, hg⟩ : ∃ g : Nat, a.g = g := ⟨a.g.toNat, by omega⟩
          obtain ⟨kk, hkk⟩ : ∃ g : Nat, a.k = g := ⟨a.k.toNat, by omega⟩
          obtain ⟨st, hst⟩ : ∃ s, a.s = s := ⟨_, rfl⟩
          rw [hg] at c2 g1 g2 hG
          rw [hkk] at c3 k1 k2 hK
          rw [hst] at c4
          rw [Int.toNat_natCast] at hG hK
          have HR0 := HB.out
          have hpR := cI_pos hc k
          obtain ⟨R, hR⟩ : ∃ R, (cI n ars k).1 = R := ⟨_, rfl⟩
          obtain ⟨P, hP⟩ : ∃ R, (cI n ars k).2 = R := ⟨_, rfl⟩
          have hcI : cI n ars k = (R, P) := by rw [← hR, ← hP]
          rw [hcI] at hnext
          rw [hR] at S HR0 hpR
          rw [hP] at S
          have HNX := Lib.hid hnext
          have HRB := Lib.hid HR0
          have HG := Lib.hid hG
          have HK := Lib.hid hK
          have HLE := Lib.hid (cI_le hc (k + 1))
          have a6 := S.cA hef
          have a7 := S.cA het
          have b6 := S.cP hef
          have b7 := S.cP het
          have r6 := HR0 e.f hef
          have r7 := HR0 e.t het
          have q6 := hpR e.f
          have q7 := hpR e.t
          obtain ⟨rf, hrf⟩ : ∃ v, R e.f = v := ⟨_, rfl⟩
          obtain ⟨rt, hrt⟩ : ∃ v, R e.t = v := ⟨_, rfl⟩
          obtain ⟨pf, hpf⟩ : ∃ v, P e.f = v := ⟨_, rfl⟩
          obtain ⟨pt, hpt⟩ : ∃ v, P e.t = v := ⟨_, rfl⟩
          rw [hrf] at a6 r6 q6
          rw [hrt] at a7 r7 q7
          rw [hpf] at b6
          rw [hpt] at b7
          have HRF := Lib.hid hrf
          have HRT := Lib.hid hrt
          have HPF := Lib.hid hpf
          have HPT := Lib.hid hpt
          obtain ⟨X, hX⟩ : ∃ X : Nat, g * rf = X := ⟨_, rfl⟩
          obtain ⟨Y, hY⟩ : ∃ X : Nat, kk * rt = X := ⟨_, rfl⟩
          have x1 : (g : Int) * (rf : Int) = (X : Int) := by rw [← hX]; exact (Int.natCast_mul _ _).symm
          have y1 : (kk : Int) * (rt : Int) = (Y : Int) := by rw [← hY]; exact (Int.natCast_mul _ _).symm
          have x2 : X ≤ 64 * 4096 := by rw [← hX]; exact Nat.mul_le_mul (by omega) r6
          have y2 : Y ≤ 64 * 4096 := by rw [← hY]; exact Nat.mul_le_mul (by omega) r7
          have x3 : 1 ≤ X := by rw [← hX]; exact Nat.mul_pos (by omega) q6
          have y3 : 1 ≤ Y := by rw [← hY]; exact Nat.mul_pos (by omega) q7
          have x4 : IntKind.i64.wrap (X : Int) = (X : Int) := by rw [IntKind.wrap_i64]; omega
          have y4 : IntKind.i64.wrap (Y : Int) = (Y : Int) := by rw [IntKind.wrap_i64]; omega
          have HX := Lib.hid hX
          have HY := Lib.hid hY
          clear hat hat' ha ha' haf hfa hfx hg hkk hst hcI hR hP hnext hG hK hrf hrt hpf hpt hX hY HR0 hpR HB
          have hbw := S.bw.size
          have hbwr : b < wr.heap.size := by omega
          have hbwr' : b' < wr.heap.size := by omega
          have hnlt := (kn.below S.bw kn.lt).lt
          have hflt := (kf.below S.bw kf.lt).lt
          have far : ∀ (bx o : Nat), bx < wr.heap.size → (wr.alloc (.cells #[.int .i64 0, .int .i64 0, .int .i64 0, .int .i64 0, .int .i64 0] 44)).cell? ⟨bx, o, none⟩ = wr.cell? ⟨bx, o, none⟩ := fun bx o hb => ((Below.refl wr.heap.size wr).alloc (Nat.le_refl _) _).cell (p := ⟨bx, o, none⟩) hb
          have zm := (far _ 1 hnlt).trans m1
          have zf := (far _ 0 hflt).trans f0
          have zt := (far _ _ hbwr).trans t0
          have z0 := (far _ _ hbwr').trans c0
          have z1 := (far _ _ hbwr').trans c1
          have z2 := (far _ _ hbwr').trans c2
          have z3 := (far _ _ hbwr').trans c3
          have z4 := (far _ _ hbwr').trans c4
          clear far
          go_wp2_with fail
          go_region
          have S5 := (S.alloc (.cells #[.int .i64 e.f, .int .i64 e.t, .int .i64 g, .int .i64 kk, .int .i64 st] 44)).drewN 1
          have ka := Blk.new wr _ rfl 44 #[.int .i64 e.f, .int .i64 e.t, .int .i64 g, .int .i64 kk, .int .i64 st]
          have ka5 : Blk (wr.alloc (.cells #[.int .i64 e.f, .int .i64 e.t, .int .i64 g, .int .i64 kk, .int .i64 st] 44)).drew wr.heap.size 44 #[.int .i64 e.f, .int .i64 e.t, .int .i64 g, .int .i64 kk, .int .i64 st] := ka
          have S5 : CtSt W0 (wr.alloc (.cells #[.int .i64 e.f, .int .i64 e.t, .int .i64 g, .int .i64 kk, .int .i64 st] 44)).drew gA gP n R P := S5
          obtain ⟨ga, hga⟩ : ∃ g, wr.heap.size = g := ⟨_, rfl⟩
          obtain ⟨W5, hW5⟩ : ∃ W, (wr.alloc (.cells #[.int .i64 e.f, .int .i64 e.t, .int .i64 g, .int .i64 kk, .int .i64 st] 44)).drew = W := ⟨_, rfl⟩
          have hgAw := own_lt S.oa
          have hgPw := own_lt S.op
          rw [hW5] at S5 ka5
          rw [hga] at ka5 hgAw hgPw
          rw [hW5, hga]
          clear hW5 ka m1 f0 t0 c0 c1 c2 c3 c4 zm zf zt z0 z1 z2 z3 z4 hbwr hbwr' hnlt hflt hbw i1 i0' S a6 a7 b6 b7
          clear hga
          have a6 := S5.cA hef
          have a7 := S5.cA het
          rw [HRF.out] at a6
          rw [HRT.out] at a7
          have d0 := ka5.cell 0
          have d1 := ka5.cell 1
          have d2 := ka5.cell 2
          have d3 := ka5.cell 3
          simp at d0 d1 d2 d3
          have i1 : (0 : Int) ≤ (e.f : Int) := by omega
          have i2 : (e.f : Int) < (n : Int) := by omega
          have i3 : (0 : Int) ≤ (e.t : Int) := by omega
          have i4 : (e.t : Int) < (n : Int) := by omega
          go_wp2_with fail
          go_quiet (fail)
          generalize hW6 : World.drewN _ _ = W6
          have S6 : CtSt W0 W6 gA gP n R P := by rw [← hW6]; exact S5.drewN _
          have ka6 : Blk W6 ga 44 #[.int .i64 e.f, .int .i64 e.t, .int .i64 g, .int .i64 kk, .int .i64 st] := by rw [← hW6]; exact ka5
          clear hW6 S5 ka5 a6 a7 d0 d1 d2 d3
          have a7 := S6.cA het
          rw [HRT.out] at a7
          have d1 := ka6.cell 1
          have d3 := ka6.cell 3
          simp at d1 d3
          go_wp2_with fail
          go_quiet (fail)
          generalize hW7 : World.drewN _ _ = W7
          have S7 : CtSt W0 W7 gA gP n R P := by rw [← hW7]; exact S6.drewN _
          have ka7 : Blk W7 ga 44 #[.int .i64 e.f, .int .i64 e.t, .int .i64 g, .int .i64 kk, .int .i64 st] := by rw [← hW7]; exact ka6
          clear hW7 S6 ka6 a7 d1 d3
          have b6 := S7.cP hef
          have b7 := S7.cP het
          rw [HPF.out] at b6
          rw [HPT.out] at b7
          have d0 := ka7.cell 0
          have d1 := ka7.cell 1
          simp at d0 d1
          obtain ⟨G, hG⟩ : ∃ G, Nat.gcd X Y = G := ⟨_, rfl⟩
          have hgc := fun w => rgcd_any X Y w (by omega) (by omega)
          rw [hG] at hgc
          have hG1 : 1 ≤ G := by rw [← hG]; exact Nat.gcd_pos_of_pos_left _ (by omega)
          have HGG := Lib.hid hG
          clear hG
          go_wp2_with fail
          refine (hgc W7).mono ?_
          rintro ee w8 ⟨rfl, rfl⟩
          obtain ⟨R', hR'⟩ : ∃ f, (cI n ars (k + 1)).1 = f := ⟨_, rfl⟩
          obtain ⟨P', hP'⟩ : ∃ f, (cI n ars (k + 1)).2 = f := ⟨_, rfl⟩
          have hRv : ∀ v, R' v = if P v = pf then R v * (Y / G) else if P v = pt then R v * (X / G) else R v := fun v => by
            rw [← hR', HNX.out]
            unfold joinR
            simp only
            rw [HPF.out, HPT.out, HG.out, HK.out, HRF.out, HRT.out, HX.out, HY.out, HGG.out]
          have hPv : ∀ v, P' v = if P v = pt then pf else P v := fun v => by
            rw [← hP', HNX.out]
            unfold joinR
            simp only
            rw [HPF.out, HPT.out]
          have hLv : ∀ v, R' v ≤ cR n ars v := fun v => by rw [← hR']; exact HLE.out v
          have HRV := Lib.hid hRv
          have HPV := Lib.hid hPv
          have HLV := Lib.hid hLv
          have HR' := Lib.hid hR'
          have HP' := Lib.hid hP'
          have q0 : ((G : Int) == 0) = false := by simp; omega
          have q0' : ¬ (G : Int) = 0 := by omega
          have hYG : Y / G ≤ 262144 := Nat.le_trans (Nat.div_le_self _ _) (by omega)
          have hXG : X / G ≤ 262144 := Nat.le_trans (Nat.div_le_self _ _) (by omega)
          have qY : (Y : Int).tdiv (G : Int) = ((Y / G : Nat) : Int) := by rw [Int.tdiv_eq_ediv_of_nonneg (by omega)]; exact (Int.natCast_ediv _ _).symm
          have qX : (X : Int).tdiv (G : Int) = ((X / G : Nat) : Int) := by rw [Int.tdiv_eq_ediv_of_nonneg (by omega)]; exact (Int.natCast_ediv _ _).symm
          obtain ⟨U, hU⟩ : ∃ u, Y / G = u := ⟨_, rfl⟩
          obtain ⟨T, hT⟩ : ∃ u, X / G = u := ⟨_, rfl⟩
          rw [hU] at qY hYG HRV
          rw [hT] at qX hXG HRV
          clear hU hT hRv hPv hLv hR' hP' hgc HNX HLE HG HK HRF HRT HX HY HGG x1 y1 x4 y4
          have SM := Lib.hid S7
          go_wp2_with fail
          clear b6 b7 d0 d1 i1 i2 i3 i4
          go_loopw [16] (fun i wr => ∃ j : Nat, j ≤ n ∧ i = .int .i64 j ∧ CtSt W0 wr gA gP n (mixF j R' R) (mixF j P' P) ∧ Hid (∀ v, v < j → R' v ≤ 4096)) (fun i _ => n - (intOf i).toNat)
          case atStart => exact ⟨0, Nat.zero_le _, rfl, SM.out.ext (fun v _ => by simp [mixF]) (fun v _ => by simp [mixF]), fun v hv => by omega⟩
          case round =>
            clear SM S7 ka7
            obtain ⟨j, hj, rfl, S, HB⟩ := hrel
            have n1 := (kn.below S.bw kn.lt).cell 0
            simp at n1
            by_cases hjn : j < n
            · have a0 := S.cA hjn
              have p0 := S.cP hjn
              have hmR : mixF j R' R j = R j := by unfold mixF; rw [if_neg (by omega)]
              have hmP : mixF j P' P j = P j := by unfold mixF; rw [if_neg (by omega)]
              rw [hmR] at a0
              rw [hmP] at p0
              have z0 := S.oa.frozenAt j
              have z1 := S.op.frozenAt j
              have hrj := HRB.out j hjn
              have i1 : (0 : Int) ≤ (j : Int) := by omega
              have i2 : (j : Int) < (n : Int) := by omega
              have hR'j := HRV.out j
              have hP'j := HPV.out j
              obtain ⟨rj, hrj'⟩ : ∃ v, R j = v := ⟨_, rfl⟩
              obtain ⟨pj, hpj'⟩ : ∃ v, P j = v := ⟨_, rfl⟩
              rw [hrj'] at a0 hrj hR'j
              rw [hpj'] at p0 hR'j hP'j
              have HRJ := Lib.hid hrj'
              have HPJ := Lib.hid hpj'
              clear hrj' hpj' hmR hmP
              have nextR : Hid (∀ v, (if v = j then R' j else mixF j R' R v) = mixF (j + 1) R' R v) := fun v => by
                unfold mixF
                by_cases hvj : v = j
                · subst hvj; simp
                · rw [if_neg hvj]
                  by_cases hlt : v < j
                  · rw [if_pos hlt, if_pos (by omega)]
                  · rw [if_neg hlt, if_neg (by omega)]
              have nextP : Hid (∀ v, (if v = j then P' j else mixF j P' P v) = mixF (j + 1) P' P v) := fun v => by
                unfold mixF
                by_cases hvj : v = j
                · subst hvj; simp
                · rw [if_neg hvj]
                  by_cases hlt : v < j
                  · rw [if_pos hlt, if_pos (by omega)]
                  · rw [if_neg hlt, if_neg (by omega)]
              by_cases h1 : pj = pf
              · have qe : ((pj : Int) == (pf : Int)) = true := by simp [h1]
                rw [if_pos h1] at hR'j
                obtain ⟨Z, hZ⟩ : ∃ Z, rj * U = Z := ⟨_, rfl⟩
                have zz : (rj : Int) * (U : Int) = (Z : Int) := by rw [← hZ]; exact (Int.natCast_mul _ _).symm
                have zb : Z ≤ 4096 * 262144 := by rw [← hZ]; exact Nat.mul_le_mul hrj hYG
                have zw : IntKind.i64.wrap (Z : Int) = (Z : Int) := by rw [IntKind.wrap_i64]; omega
                have HZ : Hid (R' j = Z) := hR'j.trans hZ
                have S2 := S.setA j Z
                have S3 := S2.ext (R' := mixF (j + 1) R' R) (P' := mixF (j + 1) P' P) (fun v _ => by rw [← nextR.out v, HZ.out]) (fun v _ => by
                  rw [← nextP.out v]
                  by_cases hvj : v = j
                  · subst hvj
                    rw [if_pos rfl, hP'j]
                    unfold mixF
                    rw [if_neg (by omega), HPJ.out]
                    split <;> omega
                  · rw [if_neg hvj])
                have c3 := S2.cA hjn
                rw [if_pos rfl] at c3
                clear S2 S hR'j hP'j hZ nextR nextP
                have hZ2 := HZ.out
                by_cases hb4 : Z ≤ 4096
                · have q5 : decide ((Z : Int) > 4096) = false := decide_eq_false (by omega)
                  have q6 : decide (4096 < Z) = false := decide_eq_false (by omega)
                  have HB2 : Hid (∀ v, v < j + 1 → R' v ≤ 4096) := fun v hv => by
                    by_cases hvj : v = j
                    · subst hvj; omega
                    · exact HB.out v (by omega)
                  clear hZ2 HB
                  go_upto_region 20 with fail
                  go_upto_region 21 with fail
                  go_region
                  go_wp2_with fail
                  go_roundw
                  case rel => exact ⟨j + 1, by omega, by go_num, (S3.drewN 1), HB2⟩
                  case measure => simp [intOf]; omega
                · have q5 : decide ((Z : Int) > 4096) = true := decide_eq_true (by omega)
                  have q6 : decide (4096 < Z) = true := decide_eq_true (by omega)
                  have HBIG : Hid (Big n (cR n ars)) := ⟨j, hjn, by have := HLV.out j; omega⟩
                  clear hZ2
                  go_upto_region 20 with fail
                  go_upto_region 21 with fail
                  go_region
                  go_wp2_with fail
                  go_ret2
                  exact ⟨none, 0, 0, false, rfl, HW.out.trans ((S3.drewN 1).bw.mono HW.out.size), fun h => (by cases h), fun _ => HBIG.out⟩
              · by_cases h2 : pj = pt
                · have qe : ((pj : Int) == (pf : Int)) = false := by simp; omega
                  have qe2 : ((pj : Int) == (pt : Int)) = true := by simp [h2]
                  rw [if_neg h1, if_pos h2] at hR'j
                  rw [if_pos h2] at hP'j
                  obtain ⟨Z, hZ⟩ : ∃ Z, rj * T = Z := ⟨_, rfl⟩
                  have zz : (rj : Int) * (T : Int) = (Z : Int) := by rw [← hZ]; exact (Int.natCast_mul _ _).symm
                  have zb : Z ≤ 4096 * 262144 := by rw [← hZ]; exact Nat.mul_le_mul hrj hXG
                  have zw : IntKind.i64.wrap (Z : Int) = (Z : Int) := by rw [IntKind.wrap_i64]; omega
                  have HZ : Hid (R' j = Z) := hR'j.trans hZ
                  have S2 := S.setA j Z
                  have p2 := S2.cP hjn
                  rw [show mixF j P' P j = pj by unfold mixF; rw [if_neg (by omega), HPJ.out]] at p2
                  have z2 := S2.op.frozenAt j
                  have S2' := S2.setP j pf
                  have c3 := S2'.cA hjn
                  rw [if_pos rfl] at c3
                  have S3 := S2'.ext (R' := mixF (j + 1) R' R) (P' := mixF (j + 1) P' P) (fun v _ => by rw [← nextR.out v, HZ.out]) (fun v _ => by rw [← nextP.out v, hP'j])
                  clear S2 S2' S hR'j hP'j hZ nextR nextP
                  have hZ2 := HZ.out
                  by_cases hb4 : Z ≤ 4096
                  · have q5 : decide ((Z : Int) > 4096) = false := decide_eq_false (by omega)
                    have q6 : decide (4096 < Z) = false := decide_eq_false (by omega)
                    have HB2 : Hid (∀ v, v < j + 1 → R' v ≤ 4096) := fun v hv => by
                      by_cases hvj : v = j
                      · subst hvj; omega
                      · exact HB.out v (by omega)
                    clear hZ2 HB
                    go_upto_region 22 with fail
                    go_upto_region 23 with fail
                    go_region
                    go_wp2_with fail
                    go_roundw
                    case rel => exact ⟨j + 1, by omega, by go_num, (S3.drewN 1), HB2⟩
                    case measure => simp [intOf]; omega
                  · have q5 : decide ((Z : Int) > 4096) = true := decide_eq_true (by omega)
                    have q6 : decide (4096 < Z) = true := decide_eq_true (by omega)
                    have HBIG : Hid (Big n (cR n ars)) := ⟨j, hjn, by have := HLV.out j; omega⟩
                    clear hZ2
                    go_upto_region 22 with fail
                    go_upto_region 23 with fail
                    go_region
                    go_wp2_with fail
                    go_ret2
                    exact ⟨none, 0, 0, false, rfl, HW.out.trans ((S3.drewN 1).bw.mono HW.out.size), fun h => (by cases h), fun _ => HBIG.out⟩
                · have qe : ((pj : Int) == (pf : Int)) = false := by simp; omega
                  have qe2 : ((pj : Int) == (pt : Int)) = false := by simp; omega
                  rw [if_neg h1, if_neg h2] at hR'j
                  rw [if_neg h2] at hP'j
                  have HZ : Hid (R' j = rj) := hR'j
                  have S3 := S.ext (R' := mixF (j + 1) R' R) (P' := mixF (j + 1) P' P) (fun v _ => by
                    rw [← nextR.out v]
                    by_cases hvj : v = j
                    · subst hvj
                      rw [if_pos rfl, hR'j]
                      unfold mixF
                      rw [if_neg (by omega), HRJ.out]
                    · rw [if_neg hvj]) (fun v _ => by
                    rw [← nextP.out v]
                    by_cases hvj : v = j
                    · subst hvj
                      rw [if_pos rfl, hP'j]
                      unfold mixF
                      rw [if_neg (by omega), HPJ.out]
                    · rw [if_neg hvj])
                  clear S hR'j hP'j nextR nextP
                  have hZ2 := HZ.out
                  by_cases hb4 : rj ≤ 4096
                  · have q5 : decide ((rj : Int) > 4096) = false := decide_eq_false (by omega)
                    have q6 : decide (4096 < rj) = false := decide_eq_false (by omega)
                    have HB2 : Hid (∀ v, v < j + 1 → R' v ≤ 4096) := fun v hv => by
                      by_cases hvj : v = j
                      · subst hvj; omega
                      · exact HB.out v (by omega)
                    clear hZ2 HB
                    go_wp2_with fail
                    go_roundw
                    case rel => exact ⟨j + 1, by omega, by go_num, S3, HB2⟩
                    case measure => simp [intOf]; omega
                  · exact absurd hrj hb4
            · obtain rfl : n = j := by omega
              have S3 := S.ext (R' := (cI n ars (k + 1)).1) (P' := (cI n ars (k + 1)).2) (fun v hv => by rw [HR'.out]; unfold mixF; rw [if_pos hv]) (fun v hv => by rw [HP'.out]; unfold mixF; rw [if_pos hv])
              have HB3 : Hid (∀ v, v < n → (cI n ars (k + 1)).1 v ≤ 4096) := fun v hv => by rw [HR'.out]; exact HB.out v hv
              clear S HB
              go_wp2_with fail
              go_roundw
              case rel => exact ⟨k + 1, by omega, by go_num, S3, HB3⟩
              case measure => simp [intOf]; omega
        · obtain rfl : k = (treeF n ars).length := by omega
          have HB2 := HB.out
          rw [cI_all] at S HB2
          have HO := Lib.hid (show CtOut n (cR n ars) w (.returned (.tuple #[.slice (some ⟨gA, 0, none⟩) n n, .bool true])) wr from
            ⟨_, _, _, true, rfl, HW.out.trans (S.bw.mono HW.out.size), fun _ => ⟨rfl, own_mono S.oa HW.out.size, fun ⟨v, hv, h4⟩ => by have := HB2 v hv; simp only at this; omega⟩, fun h => (by cases h)⟩)
          clear HB HB2
          go_wp2_with fail
          go_ret2
          exact HO.out
end Go.Proofs.YtlpmnhllnfhkdaaDoor
