/-
  BalanceTurned: the arcs' order and direction do not matter to what is steady.
-/
import Derived.Test.YtlpmnhllnfhkdaaDoorZb
namespace Go.Proofs.YtlpmnhllnfhkdaaDoor
open Go.RowKit

theorem turnN_length (ars : List ArcV) : (turnN ars).length = ars.length := by simp [turnN]
theorem turnN_at {ars : List ArcV} {k : Nat} {a : ArcV} (hk : k < ars.length) (h : ars[ars.length - 1 - k]? = some a) : (turnN ars)[k]? = some (turnA a) := by
  unfold turnN
  rw [List.getElem?_reverse (by simpa using hk), List.getElem?_map]
  simp only [List.length_map]
  rw [h]; rfl
theorem cellsA_snoc (ys : List ArcV) (a : ArcV) : cellsA (ys ++ [a]) = cellsA ys ++ a.cells := by simp [cellsA]
theorem take_snoc {α : Type} {xs : List α} {k : Nat} {a : α} (h : xs[k]? = some a) : xs.take (k + 1) = xs.take k ++ [a] := by
  have hlt := (List.getElem?_eq_some_iff.1 h).1
  rw [List.take_add_one, h]; rfl
theorem turnA_fit {a : ArcV} (h : a.fit) : (turnA a).fit := ⟨h.2.1, h.1, h.2.2.2.1, h.2.2.1, h.2.2.2.2⟩

set_option maxRecDepth 100000 in
set_option maxHeartbeats 8000000 in
theorem turnedLaw_any (n : Int) (ars : List ArcV) (A : Option Addr) (l c : Nat) (w : World) (hl : ars.length = l) (hx : ∀ a ∈ ars, a.fit) (hr : Rd w w.heap.size A (cellsA ars)) (hm : l ≤ maxLen) (hlc : l ≤ c) (hzn : c * 40 ≤ 140737488351232) (hT : Tab w) :
    Calls Tryd.prog 6 #[.agg #[.int .i64 n, .slice A l c]] w fun e w' => e = .returned (.bool true) ∧ Below w.heap.size w w' := by
  have hll : l * 40 ≤ 140737488351232 := by omega
  obtain ⟨it, hi1, hy0, hy1, hy2⟩ := info_parts info_arc
  go_enter Tryd.func6, Tryd.ntmps6
  go_upto_region 1 with fail
  obtain ⟨W0, hW0⟩ : ∃ W, w.alloc (.cells #[.int .i64 n, .slice A l c] 24) = W := ⟨_, rfl⟩
  have BW := (Below.refl w.heap.size w).alloc (Nat.le_refl _) (.cells #[.int .i64 n, .slice A l c] 24)
  have kn := Blk.new w _ rfl 24 #[.int .i64 n, .slice A l c]
  rw [hW0] at BW kn ⊢
  have hrA := (hr.below BW (Nat.le_refl _)).more BW.size
  have hT0 := hT.below BW hT.pos
  have HW := Lib.hid BW
  have hsol := Lib.hid (solve_any n ars A l c W0 hl hx hrA hm hT0)
  obtain ⟨bn, hbn⟩ : ∃ b, w.heap.size = b := ⟨_, rfl⟩
  have HBN := Lib.hid hbn
  rw [hbn] at kn ⊢
  clear hW0 BW hr hbn
  have n0 := kn.cell 0
  have n1 := kn.cell 1
  simp at n0 n1
  go_wp2_with fail
  refine hsol.out.mono ?_
  rintro e w1 ⟨vd, reps, cyc, k, Ar, cr1, Ac, cc, rfl, hs, -, -, oR, oC, hb1⟩
  obtain ⟨LR, hLR⟩ : ∃ L, reps.length = L := ⟨_, rfl⟩
  obtain ⟨LC, hLC⟩ : ∃ L, cyc.length = L := ⟨_, rfl⟩
  rw [hLR] at oR ⊢
  rw [hLC] at oC ⊢
  have HLR := Lib.hid hLR
  have HS := Lib.hid hs
  clear hsol n0 n1 hLR hLC hs oC
  obtain ⟨W2, hW2⟩ : ∃ W, w1.alloc (.cells #[.int .u8 vd, .slice Ar LR cr1, .slice Ac LC cc] 29) = W := ⟨_, rfl⟩
  have hb2 := (Below.refl w1.heap.size w1).alloc (Nat.le_refl _) (.cells #[.int .u8 vd, .slice Ar LR cr1, .slice Ac LC cc] 29)
  have kb2 := Blk.new w1 _ rfl 29 #[.int .u8 vd, .slice Ar LR cr1, .slice Ac LC cc]
  have oR2 := oR.alloc (.cells #[.int .u8 vd, .slice Ar LR cr1, .slice Ac LC cc] 29)
  obtain ⟨bb, hbb⟩ : ∃ b, w1.heap.size = b := ⟨_, rfl⟩
  rw [hW2] at hb2 kb2 oR2
  have b12 := hb1.trans (hb2.mono hb1.size)
  rw [hbb] at kb2
  have kn2 := kn.below b12 kn.lt
  have hrA2 := (hrA.below b12 (Nat.le_refl _)).more b12.size
  have hT2 := hT0.below b12 hT0.pos
  have B2 := Lib.hid (HW.out.trans (b12.mono HW.out.size))
  have n0 := kn2.cell 0
  have n1 := kn2.cell 1
  simp at n0 n1
  clear kn hrA hT0 hb1 hb2 b12 HW oR
  go_upto_region 2 with fail
  try rw [hbb]
  try rw [hW2]
  clear hW2 hbb
  go_upto_region 3 with fail
  obtain ⟨W3, hW3⟩ : ∃ W, W2.alloc (.cells #[.int .i64 n, .slice none 0 0] 24) = W := ⟨_, rfl⟩
  have b3 := (Below.refl W2.heap.size W2).alloc (Nat.le_refl _) (.cells #[.int .i64 n, .slice none 0 0] 24)
  have km := Blk.new W2 _ rfl 24 #[.int .i64 n, .slice none 0 0]
  try rw [hW3]
  rw [hW3] at b3 km
  obtain ⟨bm, hbm⟩ : ∃ b, W2.heap.size = b := ⟨_, rfl⟩
  try rw [hbm]
  rw [hbm] at km
  have HBM := Lib.hid hbm
  have kn3 := kn2.below b3 kn2.lt
  have n1' := kn3.cell 1
  simp at n1'
  have hlw : IntKind.i64.wrap ((l : Int) - 1) = (l : Int) - 1 := by rw [IntKind.wrap_i64]; omega
  clear hW3
  go_wp2_with fail
  have b3' := b3
  clear n0 n1 n1' kn3 hbm hlw b3
  go_loopw [6] (fun i wr => ∃ (q : Nat) (v : Value), q ≤ l ∧ i = .int .i64 ((l : Int) - 1 - (q : Int)) ∧ wr.ownsRow bm 44 5 v q (cellsA ((turnN ars).take q)) ∧ Blk wr bm 24 #[.int .i64 n, v] ∧ Below W2.heap.size W2 wr) (fun i _ => (intOf i + 1).toNat)
  case atStart => exact ⟨0, .slice none 0 0, Nat.zero_le _, by simp, World.ownsRow_nil _ _ _ _, km, b3'⟩
  case round =>
    clear km b3'
    obtain ⟨q, v, hq, rfl, oN, km, B3⟩ := hrel
    have kn3 := kn2.below B3 kn2.lt
    have n1 := kn3.cell 1
    simp at n1
    have m0 := km.cell 0
    have m1 := km.cell 1
    have z1 := km.frozen 1
    simp at m0 m1
    obtain ⟨Av, cv, rfl, hcv⟩ := own_slice oN
    by_cases hql : q < l
    · obtain ⟨b0, off, a, rfl, hbl, hfa, c0, c1, c2, c3, c4, -, hat⟩ := (hrA2.below B3 (Nat.le_refl _)).arc (k := l - 1 - q) hx (by omega)
      have HAT := Lib.hid (take_snoc (turnN_at (ars := ars) (k := q) (by omega) (by rw [hl]; exact hat.out)))
      have e1 : ((l : Int) - 1 - (q : Int)) = ((l - 1 - q : Nat) : Int) := by omega
      obtain ⟨p, hp⟩ : ∃ p, l - 1 - q = p := ⟨_, rfl⟩
      rw [hp] at e1 c0 c1 c2 c3 c4
      rw [e1]
      have i1 : (0 : Int) ≤ (p : Int) := by omega
      have i2 : (p : Int) < (l : Int) := by omega
      have HP : Hid (p + 1 + q = l) := by unfold Hid; omega
      clear hp e1 hat hfa
      obtain ⟨f, hf⟩ : ∃ x, a.f = x := ⟨_, rfl⟩
      obtain ⟨t, ht⟩ : ∃ x, a.t = x := ⟨_, rfl⟩
      obtain ⟨g, hg⟩ : ∃ x, a.g = x := ⟨_, rfl⟩
      obtain ⟨kk, hk⟩ : ∃ x, a.k = x := ⟨_, rfl⟩
      obtain ⟨s, hs⟩ : ∃ x, a.s = x := ⟨_, rfl⟩
      have hca : (turnA a).cells = [.int .i64 t, .int .i64 f, .int .i64 kk, .int .i64 g, .int .i64 s] := by simp [turnA, ArcV.cells, hf, ht, hg, hk, hs]
      rw [hf] at c0
      rw [ht] at c1
      rw [hg] at c2
      rw [hk] at c3
      rw [hs] at c4
      have HCA := Lib.hid hca
      clear hf ht hg hk hs hca
      obtain ⟨W4, hW4⟩ : ∃ W, wr.alloc (.cells #[.int .i64 f, .int .i64 t, .int .i64 g, .int .i64 kk, .int .i64 s] 44) = W := ⟨_, rfl⟩
      have b4 := (Below.refl wr.heap.size wr).alloc (Nat.le_refl _) (.cells #[.int .i64 f, .int .i64 t, .int .i64 g, .int .i64 kk, .int .i64 s] 44)
      have ka4 := Blk.new wr _ rfl 44 #[.int .i64 f, .int .i64 t, .int .i64 g, .int .i64 kk, .int .i64 s]
      obtain ⟨ga, hga⟩ : ∃ g, wr.heap.size = g := ⟨_, rfl⟩
      have hkm := km.lt
      rw [hW4] at b4 ka4
      have b34 := B3.trans (b4.mono B3.size)
      have oN4 := own_below oN b4
      have km4 := km.below b4 km.lt
      rw [hga] at ka4 hkm
      have d0 := ka4.cell 0
      have d1 := ka4.cell 1
      have d2 := ka4.cell 2
      have d3 := ka4.cell 3
      have d4 := ka4.cell 4
      have m0 := km4.cell 0
      have m1 := km4.cell 1
      simp at d0 d1 d2 d3 d4 m0 m1
      obtain ⟨W5, hW5⟩ : ∃ W, W4.alloc (.cells #[.int .i64 t, .int .i64 f, .int .i64 kk, .int .i64 g, .int .i64 s] 44) = W := ⟨_, rfl⟩
      have b5 := (Below.refl W4.heap.size W4).alloc (Nat.le_refl _) (.cells #[.int .i64 t, .int .i64 f, .int .i64 kk, .int .i64 g, .int .i64 s] 44)
      have rl := rd_alloc W4 _ rfl 44 [.int .i64 t, .int .i64 f, .int .i64 kk, .int .i64 g, .int .i64 s]
      have rl : Rd (W4.alloc (.cells #[.int .i64 t, .int .i64 f, .int .i64 kk, .int .i64 g, .int .i64 s] 44)) (W4.heap.size + 1) (some ⟨W4.heap.size, 0, none⟩) [.int .i64 t, .int .i64 f, .int .i64 kk, .int .i64 g, .int .i64 s] := rl
      obtain ⟨gl, hgl⟩ : ∃ g, W4.heap.size = g := ⟨_, rfl⟩
      have oN5 := own_below oN4 b5
      have km5 := km4.below b5 km4.lt
      rw [hW5] at b5 rl oN5 km5
      have b35 := Lib.hid (b34.trans (b5.mono b34.size))
      rw [hgl] at rl
      have hs5 : bm ≤ W5.heap.size := by have := km5.lt; omega
      have hAP := fun (op : Array Oper) (rest : List Oper) (o : Oper) (a : Act) (Q : Exit → Act → World → Prop) h1 h2 h3 h4 K => wpList_append_rd (P := Tryd.prog) (w := W5) (ops := op) (rest := rest) (o := o) (a := a) (Q := Q) h1 (.tmp 32) (.tmp 44) 22 h2 bm 44 it (.agg #[.int .i64 0, .int .i64 0, .int .i64 0, .int .i64 0, .int .i64 0]) 5 40 Tryd.underlying22 hi1 hy0 hy1 hy2 rfl (by decide) (.slice Av q cv) q (cellsA ((turnN ars).take q)) h3 oN5 (gl + 1) (some ⟨gl, 0, none⟩) 1 1 [.int .i64 t, .int .i64 f, .int .i64 kk, .int .i64 g, .int .i64 s] h4 rfl rl (by simp [Value.oneCell']) (by unfold maxLen; omega) (by omega) hs5 K
      clear oN oN4 km B3 b4 b34 kn3 ka4 b5 rl km4
      go_upto_region 7 with fail
      try rw [hga]
      try rw [hW4]
      clear hga hW4 n1 c0 c1 c2 c3 c4
      go_wp2_with (at_builtin; refine hAP _ _ _ _ _ ?_ ?_ ?_ ?_ ?_; rfl; rfl; rfl; rfl)
      intro v' W6 o6 hg6 hv6
      obtain ⟨A6, c6, rfl, -⟩ := own_slice o6
      have hlt5 := oN5.lt
      have km6 := km5.grown hg6 (own_ne oN5 km5 (by decide))
      have B6 := b35.out.grown hg6 b35.out.size (fun j hj => by have := (hlt5 j hj).1; have := HBM.out; omega)
      have o6' : W6.ownsRow bm 44 5 (.slice A6 (q + 1) c6) (q + 1) (cellsA ((turnN ars).take (q + 1))) := by
        rw [HAT.out, cellsA_snoc, HCA.out]
        exact o6
      have m1 := km6.cell 1
      have z1 := km6.frozen 1
      simp at m1
      have o7 := own_set o6' km6 (by decide) 1 (.slice A6 (q + 1) c6)
      have km7 := km6.set 1 (.slice A6 (q + 1) c6)
      simp at km7
      have B7 := B6.setCell (p := ⟨bm, 1, none⟩) (by have := HBM.out; simp; omega) (.slice A6 (q + 1) c6)
      have hpw : IntKind.i64.wrap ((p : Int) - 1) = (p : Int) - 1 := by have := HP.out; rw [IntKind.wrap_i64]; omega
      have hpe : (p : Int) - 1 = (l : Int) - 1 - ((q + 1 : Nat) : Int) := by have := HP.out; omega
      have HPE := Lib.hid hpe
      clear o6 hg6 hv6 km5 km6 B6 o6' oN5 hAP hlt5 b35 hpe m0 d0 d1 d2 d3 d4
      go_wp2_with fail
      go_roundw
      case rel => exact ⟨q + 1, .slice A6 (q + 1) c6, by have := HP.out; omega, by rw [HPE.out], o7, km7, B7⟩
      case measure => have := HP.out; simp [intOf]
    · obtain rfl : l = q := by omega
      have e1 : ((l : Int) - 1 - (l : Int)) = -1 := by omega
      rw [e1]
      have htk : (turnN ars).take l = turnN ars := List.take_of_length_le (by rw [turnN_length]; omega)
      rw [htk] at oN
      have hlen : (turnN ars).length = l := by rw [turnN_length]; exact hl
      have hfit : ∀ a ∈ turnN ars, a.fit := fun a ha => by
        unfold turnN at ha
        obtain ⟨b, hb, rfl⟩ := List.mem_map.1 (List.mem_reverse.1 ha)
        exact turnA_fit (hx b hb)
      have HSOL := Lib.hid (solve_any n (turnN ars) Av l cv wr hlen hfit (rd_of_own oN) hm (hT2.below B3 hT2.pos))
      have kb5 := kb2.below B3 kb2.lt
      have oR5 := own_below oR2 B3
      have hT5 := hT2.below B3 hT2.pos
      have B5 := Lib.hid (B2.out.trans (B3.mono B2.out.size))
      clear oN km B3 kn3 n1 hrA2 hT2 kn2 kb2 oR2 B2 e1 htk hcv
      go_wp2_with fail
      refine HSOL.out.mono ?_
      rintro e w5 ⟨vd', reps', cyc', k', Ar', cr', Ac', cc', rfl, hs', -, -, oR', oC', hb5⟩
      obtain ⟨LR', hLR'⟩ : ∃ L, reps'.length = L := ⟨_, rfl⟩
      obtain ⟨LC', hLC'⟩ : ∃ L, cyc'.length = L := ⟨_, rfl⟩
      rw [hLR'] at oR' ⊢
      rw [hLC']
      have HLR' := Lib.hid hLR'
      obtain ⟨W6, hW6⟩ : ∃ W, w5.alloc (.cells #[.int .u8 vd', .slice Ar' LR' cr', .slice Ac' LC' cc'] 29) = W := ⟨_, rfl⟩
      have hb6 := (Below.refl w5.heap.size w5).alloc (Nat.le_refl _) (.cells #[.int .u8 vd', .slice Ar' LR' cr', .slice Ac' LC' cc'] 29)
      have kc6 := Blk.new w5 _ rfl 29 #[.int .u8 vd', .slice Ar' LR' cr', .slice Ac' LC' cc']
      have oR6' := oR'.alloc (.cells #[.int .u8 vd', .slice Ar' LR' cr', .slice Ac' LC' cc'] 29)
      obtain ⟨bc, hbc⟩ : ∃ b, w5.heap.size = b := ⟨_, rfl⟩
      rw [hW6] at hb6 kc6 oR6'
      rw [hbc] at kc6
      have b56 := hb5.trans (hb6.mono hb5.size)
      have kb6 := kb5.below b56 kb5.lt
      have oR6 := own_below oR5 b56
      have hT6 := hT5.below b56 hT5.pos
      have B6 := Lib.hid (B5.out.trans (b56.mono B5.out.size))
      have r0 := kb6.cell 0
      have r1 := kb6.cell 1
      have s0 := kc6.cell 0
      have s1 := kc6.cell 1
      simp at r0 r1 s0 s1
      have HK := Lib.hid HS.out.check
      have HK' := Lib.hid hs'.check
      have HS' := Lib.hid hs'
      have HAW := Lib.hid (fun (w8 : World) (hb : Below W6.heap.size W6 w8) => awake_any w8 (hT6.below hb hT6.pos))
      clear hb5 hb6 b56 kb5 oR5 hT5 B5 oR' HSOL hLR' hLC' hs' oC' kb6 kc6 hT6
      go_upto_region 9 with fail
      try rw [hbc]
      try rw [hW6]
      clear hW6 hbc
      by_cases hk0 : k = 0
      · subst hk0
        have hc0 : checkF n ars = 0 := HK.out.symm
        have hc1 := check_turn hc0
        obtain rfl : k' = 0 := HK'.out.trans hc1
        obtain ⟨-, m1, hm1, hst⟩ := HS.out.steady hc0
        obtain ⟨-, m2, hm2, hst'⟩ := HS'.out.steady hc1
        obtain rfl : m1 = m2 := by omega
        have hcs : Hid (∃ bv, (vd == 1) = bv ∧ (vd' == 1) = bv) ∧ reps = reps' := by
          rcases hst with ⟨h1, h2, h3, -⟩ | ⟨h1, h2, h3⟩
          · subst hm1
            rcases hst' with ⟨g1, g2, g3, -⟩ | ⟨-, g2, -⟩
            · refine ⟨⟨true, by rw [h1]; rfl, by rw [g1]; rfl⟩, ?_⟩
              rw [h3, g3]
              exact (rowN_ext fun v hv => by rw [counts_turn hc0 h2 hv]).symm
            · exact absurd (steady_turn hc0 h2) g2
          · subst hm1
            rcases hst' with ⟨g1, g2, g3, -⟩ | ⟨g1, -, g3⟩
            · have := steady_turn hc1 g2
              rw [turnN_turn] at this
              exact absurd this h2
            · refine ⟨⟨false, ?_, ?_⟩, by rw [h3, g3]⟩
              · rcases h1 with h1 | h1 <;> (rw [h1]; rfl)
              · rcases g1 with g1 | g1 <;> (rw [g1]; rfl)
        obtain ⟨hbv, hrr⟩ := hcs
        subst hrr
        obtain ⟨bv, hv1, hv2⟩ := hbv.out
        obtain rfl : LR = LR' := by rw [← HLR.out, HLR'.out]
        have HSI := Lib.hid (sameInts_yes reps Ar Ar' LR cr1 cr' _ _ W6 HLR.out (sol_fit HS.out) (rd_of_own oR6) (rd_of_own oR6') (by rw [← HLR.out]; exact (sol_len HS.out).1))
        have q1 : (bv == bv) = true := by simp
        clear hst hst' hbv oR6 oR6' hc0 hc1 hm1 hm2
        go_wp2_with fail
        refine HSI.out.mono ?_
        rintro e w7 ⟨rfl, hd7⟩
        have hb7 : Below W6.heap.size W6 w7 := hd7.below _
        have HA := Lib.hid (HAW.out w7 hb7)
        have B7 := Lib.hid (B6.out.trans (hb7.mono B6.out.size))
        clear hb7 hd7 HSI HAW
        go_wp2_with fail
        refine HA.out.mono ?_
        rintro e w8 ⟨rfl, hb8⟩
        have B8 := Lib.hid (B7.out.trans (hb8.mono B7.out.size))
        clear hb8 HA
        go_wp2_with fail
        go_ret
        exact ⟨rfl, B8.out⟩
      · have hk1 : ¬ k' = 0 := fun h => by
          have h1 := HK'.out.symm.trans h
          have h2 := check_turn h1
          rw [turnN_turn] at h2
          exact hk0 (HK.out.trans h2)
        have d1 : (k != 0) = true := by simp [hk0]
        have d2 : (k' != 0) = true := by simp [hk1]
        have HA := Lib.hid (HAW.out W6 (Below.refl _ _))
        clear HAW oR6 oR6'
        go_wp2_with fail
        refine HA.out.mono ?_
        rintro e w8 ⟨rfl, hb8⟩
        have B8 := Lib.hid (B6.out.trans (hb8.mono B6.out.size))
        clear hb8 HA
        go_wp2_with fail
        go_ret
        exact ⟨rfl, B8.out⟩
end Go.Proofs.YtlpmnhllnfhkdaaDoor
