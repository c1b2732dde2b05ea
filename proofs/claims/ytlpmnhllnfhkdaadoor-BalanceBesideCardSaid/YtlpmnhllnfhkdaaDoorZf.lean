/-
  BalanceBeside: two nets side by side.
-/
import Derived.Test.YtlpmnhllnfhkdaaDoorZe
import Derived.Test.YtlpmnhllnfhkdaaDoorZd
namespace Go.Proofs.YtlpmnhllnfhkdaaDoor
open Go.RowKit

theorem SolA.kind {n : Int} {ars : List ArcV} {vd k : Int} {reps : List Int} {cyc : List Stp} (h : SolA n ars vd reps cyc k) (hc : checkF n ars = 0) : ∃ m : Nat, n = m ∧
    ((vd = 3 ∧ Big m (cR m ars) ∧ reps = []) ∨ (vd = 2 ∧ ¬ Big m (cR m ars) ∧ (¬ ∀ a ∈ ars, evA (cR m ars) a = true) ∧ reps = []) ∨ (vd = 1 ∧ ¬ Big m (cR m ars) ∧ (∀ a ∈ ars, evA (cR m ars) a = true) ∧ reps = rowN m (fun v => (cR m ars v : Int)))) := by
  rcases h with ⟨h, -⟩ | ⟨-, -, m, hm, h⟩
  · exact absurd hc h
  · refine ⟨m, hm, ?_⟩
    rcases h with ⟨hb, h1, h2, -⟩ | ⟨hb, h1, h2, i, a, p, hu, -, -⟩ | ⟨hb, he, h1, h2, -⟩
    · exact .inl ⟨h1, hb, h2⟩
    · exact .inr (.inl ⟨h1, hb, fun h => (by have := h a (List.mem_of_getElem? hu.1); rw [hu.2.1] at this; cases this), h2⟩)
    · exact .inr (.inr ⟨h1, hb, he, h2⟩)
/-- the verdict and the counts of two nets side by side -/
theorem kind_beside {n m : Int} {ars ars' : List ArcV} {v1 v2 v3 k1 k2 k3 : Int} {r1 r2 r3 : List Int} {c1 c2 c3 : List Stp} (h1 : SolA n ars v1 r1 c1 k1) (h2 : SolA m ars' v2 r2 c2 k2) (hc1 : checkF n ars = 0) (hc2 : checkF m ars' = 0) (hn : n + m ≤ 32) (hl : ars.length + ars'.length ≤ 96)
    (h3 : SolA (n + m) (besideN n.toNat ars ars') v3 r3 c3 k3) :
    k3 = 0 ∧ ((v1 = 3 ∧ v3 = 3) ∨ (v1 ≠ 3 ∧ v2 = 3 ∧ v3 = 3) ∨ (v1 = 2 ∧ v2 ≠ 3 ∧ v3 = 2) ∨ (v1 = 1 ∧ v2 = 2 ∧ v3 = 2) ∨ (v1 = 1 ∧ v2 = 1 ∧ v3 = 1 ∧ r3 = r1 ++ r2 ∧ r1.length ≤ 32 ∧ r2.length ≤ 32)) := by
  obtain ⟨n', rfl, g1⟩ := h1.kind hc1
  obtain ⟨m', rfl, g2⟩ := h2.kind hc2
  rw [Int.toNat_natCast] at h3
  have hc3 := check_beside hc1 hc2 (by omega) hl
  have e : ((n' : Int) + (m' : Int)) = ((n' + m' : Nat) : Int) := by omega
  rw [e] at h3
  have hk : k3 = 0 := by rw [h3.check, hc3]
  obtain ⟨p, hp, g3⟩ := h3.kind hc3
  obtain rfl : n' + m' = p := by omega
  have hb := big_beside hc1 hc2 (by omega) hl
  have hv := even_beside hc1 hc2 (by omega) hl
  obtain ⟨e1, e2⟩ := counts_beside hc1 hc2 (by omega) hl
  refine ⟨hk, ?_⟩
  rcases g1 with ⟨rfl, b1, -⟩ | ⟨rfl, b1, v1, -⟩ | ⟨rfl, b1, v1, q1⟩
  · rcases g3 with ⟨rfl, -⟩ | ⟨-, b3, -⟩ | ⟨-, b3, -⟩
    · exact .inl ⟨rfl, rfl⟩
    · exact absurd (hb.2 (.inl b1)) b3
    · exact absurd (hb.2 (.inl b1)) b3
  · rcases g2 with ⟨rfl, b2, -⟩ | ⟨rfl, b2, v2, -⟩ | ⟨rfl, b2, v2, q2⟩
    · rcases g3 with ⟨rfl, -⟩ | ⟨-, b3, -⟩ | ⟨-, b3, -⟩
      · exact .inr (.inl ⟨by decide, rfl, rfl⟩)
      · exact absurd (hb.2 (.inr b2)) b3
      · exact absurd (hb.2 (.inr b2)) b3
    · rcases g3 with ⟨-, b3, -⟩ | ⟨rfl, -⟩ | ⟨-, -, v3, -⟩
      · rcases hb.1 b3 with h | h
        · exact absurd h b1
        · exact absurd h b2
      · exact .inr (.inr (.inl ⟨rfl, by decide, rfl⟩))
      · exact absurd (hv.1 v3).1 v1
    · rcases g3 with ⟨-, b3, -⟩ | ⟨rfl, -⟩ | ⟨-, -, v3, -⟩
      · rcases hb.1 b3 with h | h
        · exact absurd h b1
        · exact absurd h b2
      · exact .inr (.inr (.inl ⟨rfl, by decide, rfl⟩))
      · exact absurd (hv.1 v3).1 v1
  · rcases g2 with ⟨rfl, b2, -⟩ | ⟨rfl, b2, v2, -⟩ | ⟨rfl, b2, v2, q2⟩
    · rcases g3 with ⟨rfl, -⟩ | ⟨-, b3, -⟩ | ⟨-, b3, -⟩
      · exact .inr (.inl ⟨by decide, rfl, rfl⟩)
      · exact absurd (hb.2 (.inr b2)) b3
      · exact absurd (hb.2 (.inr b2)) b3
    · rcases g3 with ⟨-, b3, -⟩ | ⟨rfl, -⟩ | ⟨-, -, v3, -⟩
      · rcases hb.1 b3 with h | h
        · exact absurd h b1
        · exact absurd h b2
      · exact .inr (.inr (.inr (.inl ⟨rfl, rfl, rfl⟩)))
      · exact absurd (hv.1 v3).2 v2
    · rcases g3 with ⟨-, b3, -⟩ | ⟨-, -, v3, -⟩ | ⟨rfl, -, -, q3⟩
      · rcases hb.1 b3 with h | h
        · exact absurd h b1
        · exact absurd h b2
      · exact absurd (hv.2 ⟨v1, v2⟩) v3
      · refine .inr (.inr (.inr (.inr ⟨rfl, rfl, rfl, ?_, by rw [q1, rowN_length]; omega, by rw [q2, rowN_length]; omega⟩)))
        rw [q3, q1, q2]
        unfold rowN
        rw [List.range_add, List.map_append, List.map_map]
        congr 1
        · exact List.map_congr_left fun v hv => by rw [e1 v (List.mem_range.1 hv)]
        · exact List.map_congr_left fun v hv => by simp only [Function.comp]; rw [e2 v (List.mem_range.1 hv)]

set_option maxRecDepth 100000 in
set_option maxHeartbeats 16000000 in
theorem besideLaw_any (n : Int) (ars : List ArcV) (A : Option Addr) (l c : Nat) (m : Int) (ars' : List ArcV) (A' : Option Addr) (l' c' : Nat) (w : World) (hl : ars.length = l) (hx : ∀ a ∈ ars, a.fit) (hr : Rd w w.heap.size A (cellsA ars)) (hm : l ≤ maxLen) (hlc : l ≤ c) (hzn : c * 40 ≤ 140737488351232)
    (hl' : ars'.length = l') (hx' : ∀ a ∈ ars', a.fit) (hr' : Rd w w.heap.size A' (cellsA ars')) (hm' : l' ≤ maxLen) (_hlc' : l' ≤ c') (_hzn' : c' * 40 ≤ 140737488351232) (hT : Tab w) :
    Calls Tryd.prog 7 #[.agg #[.int .i64 n, .slice A l c], .agg #[.int .i64 m, .slice A' l' c']] w fun e w' => e = .returned (.bool true) ∧ Below w.heap.size w w' := by
  have hll : l * 40 ≤ 140737488351232 := by omega
  obtain ⟨it, hi1, hy0, hy1, hy2⟩ := info_parts info_arc
  obtain ⟨ii, hj1, hz0, hz1, hz2⟩ := info_parts info_int
  go_enter Tryd.func7, Tryd.ntmps7
  go_upto_region 1 with fail
  obtain ⟨W0, hW0⟩ : ∃ W, (w.alloc (.cells #[.int .i64 n, .slice A l c] 24)).alloc (.cells #[.int .i64 m, .slice A' l' c'] 24) = W := ⟨_, rfl⟩
  have BW := (Below.refl w.heap.size w).alloc (Nat.le_refl _) (.cells #[.int .i64 n, .slice A l c] 24)
  have BW := BW.alloc BW.size (.cells #[.int .i64 m, .slice A' l' c'] 24)
  have kn := (Blk.new w _ rfl 24 #[.int .i64 n, .slice A l c]).alloc (.cells #[.int .i64 m, .slice A' l' c'] 24)
  have kq := Blk.new (w.alloc (.cells #[.int .i64 n, .slice A l c] 24)) (w.heap.size + 1) (by simp) 24 #[.int .i64 m, .slice A' l' c']
  rw [hW0] at BW kn kq ⊢
  have hrA := (hr.below BW (Nat.le_refl _)).more BW.size
  have hrQ := (hr'.below BW (Nat.le_refl _)).more BW.size
  have hT0 := hT.below BW hT.pos
  have HW := Lib.hid BW
  have hsol := Lib.hid (solve_any n ars A l c W0 hl hx hrA hm hT0)
  obtain ⟨bn, hbn⟩ : ∃ b, w.heap.size = b := ⟨_, rfl⟩
  obtain ⟨bq, hbq⟩ : ∃ b, bn + 1 = b := ⟨_, rfl⟩
  rw [hbn] at kn kq ⊢
  rw [hbq] at kq ⊢
  clear hW0 BW hr hr' hbn hbq
  have n0 := kn.cell 0
  have n1 := kn.cell 1
  simp at n0 n1
  go_wp2_with fail
  refine hsol.out.mono ?_
  rintro e w1 ⟨vb, rb, yb, k, Ab, cb, Yb, db, rfl, hs, -, -, oB, oC, hb1⟩
  obtain ⟨LB, hLB⟩ : ∃ L, rb.length = L := ⟨_, rfl⟩
  obtain ⟨LY, hLY⟩ : ∃ L, yb.length = L := ⟨_, rfl⟩
  rw [hLB] at oB ⊢
  rw [hLY]
  have HLB := Lib.hid hLB
  have HS := Lib.hid hs
  clear hsol n0 n1 hLB hLY hs oC
  have hb2 := (Below.refl w1.heap.size w1).alloc (Nat.le_refl _) (.cells #[.int .u8 vb, .slice Ab LB cb, .slice Yb LY db] 29)
  have kb2 := Blk.new w1 _ rfl 29 #[.int .u8 vb, .slice Ab LB cb, .slice Yb LY db]
  have oB2 := oB.alloc (.cells #[.int .u8 vb, .slice Ab LB cb, .slice Yb LY db] 29)
  obtain ⟨W2, hW2⟩ : ∃ W, w1.alloc (.cells #[.int .u8 vb, .slice Ab LB cb, .slice Yb LY db] 29) = W := ⟨_, rfl⟩
  obtain ⟨bb, hbb⟩ : ∃ b, w1.heap.size = b := ⟨_, rfl⟩
  rw [hW2] at hb2 kb2 oB2
  rw [hbb] at kb2
  have b12 := hb1.trans (hb2.mono hb1.size)
  have kn2 := kn.below b12 kn.lt
  have kq2 := kq.below b12 kq.lt
  have hrA2 := (hrA.below b12 (Nat.le_refl _)).more b12.size
  have hrQ2 := (hrQ.below b12 (Nat.le_refl _)).more b12.size
  have hT2 := hT0.below b12 hT0.pos
  have B2 := Lib.hid (HW.out.trans (b12.mono HW.out.size))
  have q0 := kq2.cell 0
  have q1 := kq2.cell 1
  simp at q0 q1
  have hsol := Lib.hid (solve_any m ars' A' l' c' W2 hl' hx' hrQ2 hm' hT2)
  clear kn kq hrA hrQ hT0 hb1 hb2 b12 HW oB
  go_upto_region 2 with fail
  try rw [hbb]
  try rw [hW2]
  clear hW2 hbb
  go_wp2_with fail
  refine hsol.out.mono ?_
  rintro e w3 ⟨vc, rc, yc, k', Ac, cc, Yc, dc, rfl, hs, -, -, oC, oY, hb3⟩
  obtain ⟨LC, hLC⟩ : ∃ L, rc.length = L := ⟨_, rfl⟩
  obtain ⟨LZ, hLZ⟩ : ∃ L, yc.length = L := ⟨_, rfl⟩
  rw [hLC] at oC ⊢
  rw [hLZ]
  have HLC := Lib.hid hLC
  have HS' := Lib.hid hs
  clear hsol q0 q1 hLC hLZ hs oY
  have hb4 := (Below.refl w3.heap.size w3).alloc (Nat.le_refl _) (.cells #[.int .u8 vc, .slice Ac LC cc, .slice Yc LZ dc] 29)
  have kc4 := Blk.new w3 _ rfl 29 #[.int .u8 vc, .slice Ac LC cc, .slice Yc LZ dc]
  have oC4 := oC.alloc (.cells #[.int .u8 vc, .slice Ac LC cc, .slice Yc LZ dc] 29)
  obtain ⟨W4, hW4⟩ : ∃ W, w3.alloc (.cells #[.int .u8 vc, .slice Ac LC cc, .slice Yc LZ dc] 29) = W := ⟨_, rfl⟩
  obtain ⟨bc, hbc⟩ : ∃ b, w3.heap.size = b := ⟨_, rfl⟩
  rw [hW4] at hb4 kc4 oC4
  rw [hbc] at kc4
  have b24 := hb3.trans (hb4.mono hb3.size)
  have kn4 := kn2.below b24 kn2.lt
  have kq4 := kq2.below b24 kq2.lt
  have kb4 := kb2.below b24 kb2.lt
  have hrA4 := (hrA2.below b24 (Nat.le_refl _)).more b24.size
  have hrQ4 := (hrQ2.below b24 (Nat.le_refl _)).more b24.size
  have oB4 := own_below oB2 b24
  have hT4 := hT2.below b24 hT2.pos
  have B4 := Lib.hid (B2.out.trans (b24.mono B2.out.size))
  have n0 := kn4.cell 0
  have n1 := kn4.cell 1
  have q0 := kq4.cell 0
  have q1 := kq4.cell 1
  simp at n0 n1 q0 q1
  have HK := Lib.hid HS.out.check
  have HK' := Lib.hid HS'.out.check
  have HCN := Lib.hid (refCheck_any n ars A l c W4 hl hx hrA4 hm)
  rw [← HK.out] at HCN
  have HCM := Lib.hid (fun (w7 : World) (hb : Below W4.heap.size W4 w7) => refCheck_any m ars' A' l' c' w7 hl' hx' ((hrQ4.below hb (Nat.le_refl _)).more hb.size) hm')
  rw [← HK'.out] at HCM
  have HAW := Lib.hid (fun (w8 : World) (hb : Below W4.heap.size W4 w8) => awake_any w8 (hT4.below hb hT4.pos))
  have KQ := Lib.hid kq4
  clear hb3 hb4 b24 kn2 kq2 kb2 hrA2 hrQ2 oB2 hT2 B2 oC
  by_cases hk0 : k = 0
  · by_cases hk1 : k' = 0
    · subst hk0
      subst hk1
      have hc1 : checkF n ars = 0 := HK.out.symm
      have hc2 : checkF m ars' = 0 := HK'.out.symm
      obtain ⟨n', hn'⟩ := checkF_nat hc1
      obtain ⟨m', hm1⟩ := checkF_nat hc2
      have hb1 := (checkF_zero.1 hc1).1
      have hb2 := (checkF_zero.1 hc2).1
      have hb3 := (checkF_zero.1 hc1).2.1
      have hb4 := (checkF_zero.1 hc2).2.1
      have HC1 := Lib.hid hc1
      have HC2 := Lib.hid hc2
      have HN' := Lib.hid hn'
      have hws : IntKind.i64.wrap (n + m) = n + m := by rw [IntKind.wrap_i64]; omega
      have hwl : IntKind.i64.wrap ((l : Int) + (l' : Int)) = (l : Int) + (l' : Int) := by rw [IntKind.wrap_i64]; omega
      clear hc1 hc2 hn' hm1
      by_cases h32 : n + m ≤ 32
      · have d1 : decide (n + m > 32) = false := decide_eq_false (by omega)
        have d1' : decide (32 < n + m) = false := decide_eq_false (by omega)
        by_cases h96 : l + l' ≤ 96
        · have d2 : decide ((l : Int) + (l' : Int) > 96) = false := decide_eq_false (by omega)
          have d2' : decide (96 < (l : Int) + (l' : Int)) = false := decide_eq_false (by omega)
          have HNC := Lib.hid (netCopy_any n ars A l c W4 hl hrA4 hm hll)
          clear HCN HCM HAW KQ
          go_upto_region 3 with fail
          try rw [hbc]
          try rw [hW4]
          clear hW4 hbc
          go_wp2_with fail
          refine HNC.out.mono ?_
          rintro e w5 ⟨A3, c3, rfl, oN, hb5⟩
          clear HNC n0 n1 q0 q1
          go_upto_region 6 with fail
          have hb6 := (Below.refl w5.heap.size w5).alloc (Nat.le_refl _) (.cells #[.int .i64 n, .slice A3 l c3] 24)
          have ko6 := Blk.new w5 _ rfl 24 #[.int .i64 n, .slice A3 l c3]
          have oN6 := oN.alloc (.cells #[.int .i64 n, .slice A3 l c3] 24)
          have hnlt := oN.lt
          obtain ⟨W6, hW6⟩ : ∃ W, w5.alloc (.cells #[.int .i64 n, .slice A3 l c3] 24) = W := ⟨_, rfl⟩
          obtain ⟨bo, hbo⟩ : ∃ b, w5.heap.size = b := ⟨_, rfl⟩
          rw [hW6] at hb6 ko6 oN6
          try rw [hW6]
          try rw [hbo]
          rw [hbo] at ko6 hnlt
          have b46 := hb5.trans (hb6.mono hb5.size)
          have hbo4 : W4.heap.size ≤ bo := by have := hb5.size; omega
          have n0 := (kn4.below b46 kn4.lt).cell 0
          have q0 := (kq4.below b46 kq4.lt).cell 0
          have o0 := ko6.cell 0
          have z0 := ko6.frozen 0
          simp at n0 q0 o0
          have ko7 := ko6.set 0 (.int .i64 (n + m))
          simp at ko7
          have oN7 := own_set oN6 ko6 (by decide) 0 (.int .i64 (n + m))
          have b47 := b46.setCell (p := ⟨bo, 0, none⟩) (by simp; omega) (.int .i64 (n + m))
          have q1 := (kq4.below b47 kq4.lt).cell 1
          simp at q1
          clear hb5 hb6 b46 ko6 oN6 hnlt oN
          go_wp2_with fail
          clear n0 q0 o0 z0 q1 hW6 hbo
          go_loopw [10] (fun i wr => ∃ (q : Nat) (v : Value), q ≤ l' ∧ i = .int .i64 q ∧ wr.ownsRow W4.heap.size 44 5 v (l + q) (cellsA (ars ++ (ars'.map (shiftA n.toNat)).take q)) ∧ Blk wr bo 24 #[.int .i64 (n + m), v] ∧ Below W4.heap.size W4 wr) (fun i _ => l' - (intOf i).toNat)
          case atStart => exact ⟨0, _, Nat.zero_le _, rfl, by simpa using oN7, ko7, b47⟩
          case round =>
            clear oN7 ko7 b47
            obtain ⟨q, v, hq, rfl, oN, ko, B5⟩ := hrel
            have q1 := (kq4.below B5 kq4.lt).cell 1
            have n0 := (kn4.below B5 kn4.lt).cell 0
            simp at q1 n0
            obtain ⟨Av, cv, rfl, hcv⟩ := own_slice oN
            by_cases hql : q < l'
            · obtain ⟨b0, off, a, rfl, hbl, hfa, c0, c1, c2, c3, c4, -, hat⟩ := (hrQ4.below B5 (Nat.le_refl _)).arc (k := q) hx' (by omega)
              have hma : (ars'.map (shiftA n.toNat))[q]? = some (shiftA n.toNat a) := by rw [List.getElem?_map, hat.out]; rfl
              have hab := (arcF_iff.1 ((checkF_zero.1 HC2.out).2.2 a (List.mem_of_getElem? hat.out))).1
              have HTK := Lib.hid (take_snoc hma)
              obtain ⟨f, hf⟩ : ∃ x, a.f = x := ⟨_, rfl⟩
              obtain ⟨t, ht⟩ : ∃ x, a.t = x := ⟨_, rfl⟩
              obtain ⟨g, hg⟩ : ∃ x, a.g = x := ⟨_, rfl⟩
              obtain ⟨kk, hk⟩ : ∃ x, a.k = x := ⟨_, rfl⟩
              obtain ⟨s, hs⟩ : ∃ x, a.s = x := ⟨_, rfl⟩
              have hnn : ((n.toNat : Nat) : Int) = n := by omega
              have hca : (shiftA n.toNat a).cells = [.int .i64 (f + n), .int .i64 (t + n), .int .i64 g, .int .i64 kk, .int .i64 s] := by simp only [shiftA, ArcV.cells, hf, ht, hg, hk, hs, hnn]
              rw [hf] at c0 hab
              rw [ht] at c1 hab
              rw [hg] at c2
              rw [hk] at c3
              rw [hs] at c4
              have HCA := Lib.hid hca
              have w1 : IntKind.i64.wrap (f + n) = f + n := by rw [IntKind.wrap_i64]; omega
              have w2 : IntKind.i64.wrap (t + n) = t + n := by rw [IntKind.wrap_i64]; omega
              have i1 : (0 : Int) ≤ (q : Int) := by omega
              have i2 : (q : Int) < (l' : Int) := by omega
              clear hf ht hg hk hs hca hma hat hfa hab hnn
              have b6 := (Below.refl wr.heap.size wr).alloc (Nat.le_refl _) (.cells #[.int .i64 f, .int .i64 t, .int .i64 g, .int .i64 kk, .int .i64 s] 44)
              have ka6 := Blk.new wr _ rfl 44 #[.int .i64 f, .int .i64 t, .int .i64 g, .int .i64 kk, .int .i64 s]
              have hkolt := ko.lt
              have hnlt := oN.lt
              go_upto_region 11 with fail
              obtain ⟨W6, hW6⟩ : ∃ W, wr.alloc (.cells #[.int .i64 f, .int .i64 t, .int .i64 g, .int .i64 kk, .int .i64 s] 44) = W := ⟨_, rfl⟩
              obtain ⟨ga, hga⟩ : ∃ g, wr.heap.size = g := ⟨_, rfl⟩
              rw [hW6] at b6 ka6
              try rw [hW6]
              try rw [hga]
              have b46 := B5.trans (b6.mono B5.size)
              have oN6 := own_below oN b6
              have ko6 := ko.below b6 ko.lt
              rw [hga] at ka6 hkolt hnlt
              have n0 := (kn4.below b46 kn4.lt).cell 0
              have d0 := ka6.cell 0
              have z0 := ka6.frozen 0
              simp at n0 d0
              have hga4 : W4.heap.size ≤ ga := by have := B5.size; omega
              have hne : (Value.slice Av (l + q) cv).ownBlock ≠ some ga := fun he => by have := (hnlt ga he).2; omega
              have ka7 := ka6.set 0 (.int .i64 (f + n))
              have oN7 := ownsRow_setCell_other oN6 (a := ⟨ga, 0, none⟩) hne (.int .i64 (f + n))
              have ko7 := ko6.far (p := ⟨ga, 0, none⟩) (by simp; omega) (.int .i64 (f + n))
              have b47 := b46.setCell (p := ⟨ga, 0, none⟩) (by simp; omega) (.int .i64 (f + n))
              simp at ka7
              have n07 := (kn4.below b47 kn4.lt).cell 0
              have d17 := ka7.cell 1
              have z17 := ka7.frozen 1
              simp at n07 d17
              have ka8 := ka7.set 1 (.int .i64 (t + n))
              have oN8 := ownsRow_setCell_other oN7 (a := ⟨ga, 1, none⟩) hne (.int .i64 (t + n))
              have ko8 := ko7.far (p := ⟨ga, 1, none⟩) (by simp; omega) (.int .i64 (t + n))
              have b48 := b47.setCell (p := ⟨ga, 1, none⟩) (by simp; omega) (.int .i64 (t + n))
              simp at ka8
              obtain ⟨W8, hW8⟩ : ∃ W, (W6.setCell ⟨ga, 0, none⟩ (.int .i64 (f + n))).setCell ⟨ga, 1, none⟩ (.int .i64 (t + n)) = W := ⟨_, rfl⟩
              clear ka6 ka7 oN oN6 oN7 ko ko6 ko7 b6 b46 b47 B5 q1 hga hW6 hnlt c0 c1 c2 c3 c4
              go_upto_region 13 with fail
              rw [hW8] at ka8 oN8 ko8 b48
              try rw [hW8]
              clear hW8 n0 d0 z0 n07 d17 z17 w1 w2
              have e0 := ka8.cell 0
              have e1 := ka8.cell 1
              have e2 := ka8.cell 2
              have e3 := ka8.cell 3
              have e4 := ka8.cell 4
              have o1 := ko8.cell 1
              simp at e0 e1 e2 e3 e4 o1
              obtain ⟨W9, hW9⟩ : ∃ W, W8.alloc (.cells #[.int .i64 (f + n), .int .i64 (t + n), .int .i64 g, .int .i64 kk, .int .i64 s] 44) = W := ⟨_, rfl⟩
              have b9 := (Below.refl W8.heap.size W8).alloc (Nat.le_refl _) (.cells #[.int .i64 (f + n), .int .i64 (t + n), .int .i64 g, .int .i64 kk, .int .i64 s] 44)
              have rl := rd_alloc W8 _ rfl 44 [.int .i64 (f + n), .int .i64 (t + n), .int .i64 g, .int .i64 kk, .int .i64 s]
              have rl : Rd (W8.alloc (.cells #[.int .i64 (f + n), .int .i64 (t + n), .int .i64 g, .int .i64 kk, .int .i64 s] 44)) (W8.heap.size + 1) (some ⟨W8.heap.size, 0, none⟩) [.int .i64 (f + n), .int .i64 (t + n), .int .i64 g, .int .i64 kk, .int .i64 s] := rl
              have oN9 := own_below oN8 b9
              have ko9 := ko8.below b9 ko8.lt
              rw [hW9] at b9 rl oN9 ko9
              have b49 := Lib.hid (b48.trans (b9.mono b48.size))
              obtain ⟨gl, hgl⟩ : ∃ g, W8.heap.size = g := ⟨_, rfl⟩
              rw [hgl] at rl
              have hs9 : W4.heap.size ≤ W9.heap.size := b49.out.size
              have hAP := fun (op : Array Oper) (rest : List Oper) (o : Oper) (a : Act) (Q : Exit → Act → World → Prop) h1 h2 h3 h4 K => wpList_append_rd (P := Tryd.prog) (w := W9) (ops := op) (rest := rest) (o := o) (a := a) (Q := Q) h1 (.tmp 95) (.tmp 97) 22 h2 W4.heap.size 44 it (.agg #[.int .i64 0, .int .i64 0, .int .i64 0, .int .i64 0, .int .i64 0]) 5 40 Tryd.underlying22 hi1 hy0 hy1 hy2 rfl (by decide) (.slice Av (l + q) cv) (l + q) (cellsA (ars ++ (ars'.map (shiftA n.toNat)).take q)) h3 oN9 (gl + 1) (some ⟨gl, 0, none⟩) 1 1 [.int .i64 (f + n), .int .i64 (t + n), .int .i64 g, .int .i64 kk, .int .i64 s] h4 rfl rl (by simp [Value.oneCell']) (by unfold maxLen; omega) (by omega) hs9 K
              clear oN8 ko8 b48 b9 rl ka8
              go_wp2_with (at_builtin; refine hAP _ _ _ _ _ ?_ ?_ ?_ ?_ ?_; rfl; rfl; rfl; rfl)
              intro v' W10 o10 hg10 hv10
              obtain ⟨A10, c10, rfl, -⟩ := own_slice o10
              have hlt9 := oN9.lt
              have ko10 := ko9.grown hg10 (own_ne oN9 ko9 (by decide))
              have B10 := b49.out.grown hg10 b49.out.size (fun j hj => (hlt9 j hj).1)
              have o10' : W10.ownsRow W4.heap.size 44 5 (.slice A10 (l + (q + 1)) c10) (l + (q + 1)) (cellsA (ars ++ (ars'.map (shiftA n.toNat)).take (q + 1))) := by
                rw [HTK.out, ← List.append_assoc, cellsA_snoc, HCA.out]
                exact o10
              have o1 := ko10.cell 1
              have z1 := ko10.frozen 1
              simp at o1
              have o11 := own_set o10' ko10 (by decide) 1 (.slice A10 (l + (q + 1)) c10)
              have ko11 := ko10.set 1 (.slice A10 (l + (q + 1)) c10)
              simp at ko11
              have B11 := B10.setCell (p := ⟨bo, 1, none⟩) (by simp; omega) (.slice A10 (l + (q + 1)) c10)
              clear o10 hg10 hv10 ko9 ko10 B10 o10' oN9 hAP hlt9 b49 e0 e1 e2 e3 e4
              go_wp2_with fail
              go_roundw
              case rel => exact ⟨q + 1, _, by omega, by go_num, o11, ko11, B11⟩
              case measure => simp [intOf]; omega
            · obtain rfl : l' = q := by omega
              have htk : (ars'.map (shiftA n.toNat)).take l' = ars'.map (shiftA n.toNat) := List.take_of_length_le (by simp; omega)
              rw [htk] at oN
              have oN : wr.ownsRow W4.heap.size 44 5 (.slice Av (l + l') cv) (l + l') (cellsA (besideN n.toNat ars ars')) := oN
              have hlen : (besideN n.toNat ars ars').length = l + l' := by simp [besideN, hl, hl']
              have hchk : checkF (n + m) (besideN n.toNat ars ars') = 0 := by
                obtain ⟨n2, hn2⟩ := checkF_nat HC1.out
                obtain ⟨m2, hm2⟩ := checkF_nat HC2.out
                subst hn2
                subst hm2
                have := check_beside HC1.out HC2.out (by omega) (by rw [hl, hl']; exact h96)
                rw [Int.toNat_natCast]
                rw [show ((n2 : Int) + (m2 : Int)) = ((n2 + m2 : Nat) : Int) by omega]
                exact this
              have hfit : ∀ a ∈ besideN n.toNat ars ars', a.fit := fun a ha => by
                have := arcF_iff.1 ((checkF_zero.1 hchk).2.2 a ha)
                unfold ArcV.fit fits
                omega
              have hT5 := hT4.below B5 hT4.pos
              have HSOL := Lib.hid (solve_any (n + m) (besideN n.toNat ars ars') Av (l + l') cv wr hlen hfit (rd_of_own oN) (by unfold maxLen; omega) hT5)
              have kb5 := kb4.below B5 kb4.lt
              have kc5 := kc4.below B5 kc4.lt
              have oB5 := own_below oB4 B5
              have oC5 := own_below oC4 B5
              have B5' := Lib.hid (B4.out.trans (B5.mono B4.out.size))
              have o0 := ko.cell 0
              have o1 := ko.cell 1
              simp at o0 o1
              clear oN ko B5 n0 htk hT4 kb4 kc4 oB4 oC4 B4 kn4 kq4 hrA4 hrQ4 hcv
              go_wp2_with fail
              refine HSOL.out.mono ?_
              rintro e w8 ⟨vd, rd', yd, k3, Ad, cd, Yd, dd, rfl, hs3, -, -, oD, oY, hb8⟩
              obtain ⟨LD, hLD⟩ : ∃ L, rd'.length = L := ⟨_, rfl⟩
              obtain ⟨LW, hLW⟩ : ∃ L, yd.length = L := ⟨_, rfl⟩
              rw [hLD] at oD ⊢
              rw [hLW]
              have HLD := Lib.hid hLD
              obtain ⟨hk3, hcases⟩ := kind_beside HS.out HS'.out HC1.out HC2.out h32 (by rw [hl, hl']; exact h96) hs3
              subst hk3
              have HFD := Lib.hid (sol_fit hs3)
              have hb9 := (Below.refl w8.heap.size w8).alloc (Nat.le_refl _) (.cells #[.int .u8 vd, .slice Ad LD cd, .slice Yd LW dd] 29)
              have kd9 := Blk.new w8 _ rfl 29 #[.int .u8 vd, .slice Ad LD cd, .slice Yd LW dd]
              have oD9 := oD.alloc (.cells #[.int .u8 vd, .slice Ad LD cd, .slice Yd LW dd] 29)
              obtain ⟨W9, hW9⟩ : ∃ W, w8.alloc (.cells #[.int .u8 vd, .slice Ad LD cd, .slice Yd LW dd] 29) = W := ⟨_, rfl⟩
              obtain ⟨bd, hbd⟩ : ∃ b, w8.heap.size = b := ⟨_, rfl⟩
              rw [hW9] at hb9 kd9 oD9
              rw [hbd] at kd9
              have b59 := hb8.trans (hb9.mono hb8.size)
              have kb9 := kb5.below b59 kb5.lt
              have kc9 := kc5.below b59 kc5.lt
              have oB9 := own_below oB5 b59
              have oC9 := own_below oC5 b59
              have hT9 := hT5.below b59 hT5.pos
              have B9 := Lib.hid (B5'.out.trans (b59.mono B5'.out.size))
              have r0 := kb9.cell 0
              have r1 := kb9.cell 1
              have s0 := kc9.cell 0
              have s1 := kc9.cell 1
              have t0 := kd9.cell 0
              have t1 := kd9.cell 1
              simp at r0 r1 s0 s1 t0 t1
              have HAW9 := Lib.hid (fun (w5 : World) (hb : Below W9.heap.size W9 w5) => awake_any w5 (hT9.below hb hT9.pos))
              have KD := Lib.hid kd9
              clear hb8 hb9 b59 kb5 kc5 oB5 oC5 hT5 B5' HSOL hLD hLW hs3 oD oY kb9 kc9 hT9 hchk hfit hlen o0 o1 kd9 hws hwl
              rcases hcases with ⟨rfl, rfl⟩ | ⟨hv, rfl, rfl⟩ | ⟨rfl, hv, rfl⟩ | ⟨rfl, rfl, rfl⟩ | ⟨rfl, rfl, rfl, hrr, hL1, hL2⟩
              · have HA := Lib.hid (HAW9.out W9 (Below.refl _ _))
                clear HAW9 oB9 oC9 oD9
                go_upto_region 15 with fail
                try rw [hbd]
                try rw [hW9]
                clear hW9 hbd
                go_wp2_with fail
                refine HA.out.mono ?_
                rintro e w10 ⟨rfl, hb10⟩
                have B10 := Lib.hid (B9.out.trans (hb10.mono B9.out.size))
                clear hb10 HA
                go_wp2_with fail
                go_ret
                exact ⟨rfl, B10.out⟩
              · have j1 : (vb == 3) = false := by simp [hv]
                have HA := Lib.hid (HAW9.out W9 (Below.refl _ _))
                clear HAW9 oB9 oC9 oD9
                go_upto_region 15 with fail
                try rw [hbd]
                try rw [hW9]
                clear hW9 hbd
                go_wp2_with fail
                refine HA.out.mono ?_
                rintro e w10 ⟨rfl, hb10⟩
                have B10 := Lib.hid (B9.out.trans (hb10.mono B9.out.size))
                clear hb10 HA
                go_wp2_with fail
                go_ret
                exact ⟨rfl, B10.out⟩
              · have j1 : (vc == 3) = false := by simp [hv]
                have HA := Lib.hid (HAW9.out W9 (Below.refl _ _))
                clear HAW9 oB9 oC9 oD9
                go_upto_region 15 with fail
                try rw [hbd]
                try rw [hW9]
                clear hW9 hbd
                go_wp2_with fail
                refine HA.out.mono ?_
                rintro e w10 ⟨rfl, hb10⟩
                have B10 := Lib.hid (B9.out.trans (hb10.mono B9.out.size))
                clear hb10 HA
                go_wp2_with fail
                go_ret
                exact ⟨rfl, B10.out⟩
              · have HA := Lib.hid (HAW9.out W9 (Below.refl _ _))
                clear HAW9 oB9 oC9 oD9
                go_upto_region 15 with fail
                try rw [hbd]
                try rw [hW9]
                clear hW9 hbd
                go_wp2_with fail
                refine HA.out.mono ?_
                rintro e w10 ⟨rfl, hb10⟩
                have B10 := Lib.hid (B9.out.trans (hb10.mono B9.out.size))
                clear hb10 HA
                go_wp2_with fail
                go_ret
                exact ⟨rfl, B10.out⟩
              · subst hrr
                have HLD2 : Hid (LD = LB + LC) := by unfold Hid; rw [← HLD.out, List.length_append, HLB.out, HLC.out]
                rw [HLB.out] at hL1
                rw [HLC.out] at hL2
                have rB := rd_of_own oB9
                have rC := rd_of_own oC9
                have e1 : (cellsI rb).length = LB * 1 := by rw [cellsI_length, HLB.out]; omega
                have e2 : (cellsI rc).length = LC * 1 := by rw [cellsI_length, HLC.out]; omega
                have f1 := cellsI_one rb
                have f2 := cellsI_one rc
                have hAP1 := fun (op : Array Oper) (rest : List Oper) (o : Oper) (a : Act) (Q : Exit → Act → World → Prop) h1 h2 h3 h4 K => wpList_append_rd (P := Tryd.prog) (w := W9) (ops := op) (rest := rest) (o := o) (a := a) (Q := Q) h1 (.tmp 135) (.tmp 137) 26 h2 W9.heap.size 3 ii (.int .i64 0) 1 8 Tryd.underlying26 hj1 hz0 hz1 hz2 rfl (by decide) (.slice none 0 0) 0 [] h3 (World.ownsRow_nil _ _ _ _) W9.heap.size Ab LB cb (cellsI rb) h4 e1 rB f1 (by unfold maxLen; omega) (by omega) (Nat.le_refl _) K
                clear e1 f1
                go_upto_region 15 with fail
                try rw [hbd]
                try rw [hW9]
                clear hW9 hbd
                go_upto_region 22 with fail
                go_wp2_with (at_builtin; refine hAP1 _ _ _ _ _ ?_ ?_ ?_ ?_ ?_; rfl; rfl; rfl; rfl)
                intro v1 W10 o10 hg10 hv10
                obtain ⟨A1, c1, rfl, -⟩ := own_slice o10
                have o10 : W10.ownsRow W9.heap.size 3 1 (.slice A1 LB c1) LB (cellsI rb) := by simpa using o10
                have b10 := (Below.refl W9.heap.size W9).grown hg10 (Nat.le_refl _) (fun j hj => by cases hj)
                have rC10 := rC.below b10 (Nat.le_refl _)
                have hs10 := b10.size
                have kd10 := KD.out.below b10 KD.out.lt
                have oC10 := own_below oC9 b10
                have oD10 := own_below oD9 b10
                have s1' := (b10.cell (p := ⟨bc, 1, none⟩) (World.block_lt_of_cell? _ _ s1)).trans s1
                have hAP2 := fun (op : Array Oper) (rest : List Oper) (o : Oper) (a : Act) (Q : Exit → Act → World → Prop) h1 h2 h3 h4 K => wpList_append_rd (P := Tryd.prog) (w := W10) (ops := op) (rest := rest) (o := o) (a := a) (Q := Q) h1 (.tmp 139) (.tmp 141) 26 h2 W9.heap.size 3 ii (.int .i64 0) 1 8 Tryd.underlying26 hj1 hz0 hz1 hz2 rfl (by decide) (.slice A1 LB c1) LB (cellsI rb) h3 o10 W9.heap.size Ac LC cc (cellsI rc) h4 e2 rC10 f2 (by unfold maxLen; omega) (by omega) hs10 K
                have hlt10 := o10.lt
                clear e2 f2 hAP1 rB rC hg10 hv10 r0 r1 s0 s1 t0 t1 rC10
                go_wp2_with (at_builtin; refine hAP2 _ _ _ _ _ ?_ ?_ ?_ ?_ ?_; rfl; rfl; rfl; rfl)
                intro v2 W11 o11 hg11 hv11
                obtain ⟨A2, c2, rfl, -⟩ := own_slice o11
                have b11 := b10.grown hg11 hs10 (fun j hj => (hlt10 j hj).1)
                have kd11 := KD.out.below b11 KD.out.lt
                have oD11 := own_below oD9 b11
                have t0 := kd11.cell 0
                have t1 := kd11.cell 1
                simp at t0 t1
                have o11 : W11.ownsRow W9.heap.size 3 1 (.slice A2 (LB + LC) c2) (LB + LC) (cellsI (rb ++ rc)) := by
                  have : cellsI (rb ++ rc) = cellsI rb ++ cellsI rc := by simp [cellsI]
                  rw [this]
                  exact o11
                have hLD2 := HLD2.out
                rw [hLD2] at oD11 t1
                have HSI := Lib.hid (sameInts_yes (rb ++ rc) Ad A2 (LB + LC) cd c2 _ _ W11 (by rw [← HLD2.out]; exact HLD.out) HFD.out (rd_of_own oD11) (rd_of_own o11) (by unfold maxLen; omega))
                have HA11 := Lib.hid (fun (w5 : World) (hb : Below W11.heap.size W11 w5) => HAW9.out w5 (b11.trans (hb.mono b11.size)))
                have B11 := Lib.hid (B9.out.trans (b11.mono B9.out.size))
                clear hLD2 o10 o11 hAP2 hlt10 hg11 hv11 kd10 oC10 oD10 s1' b10 b11 kd11 oD11 oB9 oC9 oD9 HAW9 KD B9 hs10
                go_wp2_with fail
                refine HSI.out.mono ?_
                rintro e w12 ⟨rfl, hd12⟩
                have hb12 : Below W11.heap.size W11 w12 := hd12.below _
                have HA := Lib.hid (HA11.out w12 hb12)
                have B12 := Lib.hid (B11.out.trans (hb12.mono B11.out.size))
                clear hb12 hd12 HSI HA11
                go_wp2_with fail
                refine HA.out.mono ?_
                rintro e w13 ⟨rfl, hb13⟩
                have B13 := Lib.hid (B12.out.trans (hb13.mono B12.out.size))
                clear hb13 HA
                go_wp2_with fail
                go_ret
                exact ⟨rfl, B13.out⟩
        · have d2 : decide ((l : Int) + (l' : Int) > 96) = true := decide_eq_true (by omega)
          have d2' : decide (96 < (l : Int) + (l' : Int)) = true := decide_eq_true (by omega)
          go_upto_region 3 with fail
          try rw [hbc]
          try rw [hW4]
          clear hW4 hbc
          go_wp2_with fail
          refine HCN.out.mono ?_
          rintro e w5 ⟨rfl, hb5⟩
          have kq5 := KQ.out.below hb5 KQ.out.lt
          have q0 := kq5.cell 0
          have q1 := kq5.cell 1
          simp at q0 q1
          have B5 := Lib.hid (B4.out.trans (hb5.mono B4.out.size))
          have HC2 := Lib.hid (HCM.out w5 hb5)
          have HB5 := Lib.hid hb5
          clear hb5 kq5 HCN HCM
          go_wp2_with fail
          refine HC2.out.mono ?_
          rintro e w6 ⟨rfl, hb6⟩
          have HA := Lib.hid (HAW.out w6 (HB5.out.trans (hb6.mono HB5.out.size)))
          have B6 := Lib.hid (B5.out.trans (hb6.mono B5.out.size))
          clear hb6 HC2 HAW HB5
          go_wp2_with fail
          refine HA.out.mono ?_
          rintro e w7 ⟨rfl, hb7⟩
          have B7 := Lib.hid (B6.out.trans (hb7.mono B6.out.size))
          clear hb7 HA
          go_wp2_with fail
          go_ret
          exact ⟨rfl, B7.out⟩
      · have d1 : decide (n + m > 32) = true := decide_eq_true (by omega)
        have d1' : decide (32 < n + m) = true := decide_eq_true (by omega)
        go_upto_region 3 with fail
        try rw [hbc]
        try rw [hW4]
        clear hW4 hbc
        go_wp2_with fail
        refine HCN.out.mono ?_
        rintro e w5 ⟨rfl, hb5⟩
        have kq5 := KQ.out.below hb5 KQ.out.lt
        have q0 := kq5.cell 0
        have q1 := kq5.cell 1
        simp at q0 q1
        have B5 := Lib.hid (B4.out.trans (hb5.mono B4.out.size))
        have HC2 := Lib.hid (HCM.out w5 hb5)
        have HB5 := Lib.hid hb5
        clear hb5 kq5 HCN HCM
        go_wp2_with fail
        refine HC2.out.mono ?_
        rintro e w6 ⟨rfl, hb6⟩
        have HA := Lib.hid (HAW.out w6 (HB5.out.trans (hb6.mono HB5.out.size)))
        have B6 := Lib.hid (B5.out.trans (hb6.mono B5.out.size))
        clear hb6 HC2 HAW HB5
        go_wp2_with fail
        refine HA.out.mono ?_
        rintro e w7 ⟨rfl, hb7⟩
        have B7 := Lib.hid (B6.out.trans (hb7.mono B6.out.size))
        clear hb7 HA
        go_wp2_with fail
        go_ret
        exact ⟨rfl, B7.out⟩
    · subst hk0
      have d1 : (k' != 0) = true := by simp [hk1]
      go_upto_region 3 with fail
      try rw [hbc]
      try rw [hW4]
      clear hW4 hbc
      go_wp2_with fail
      refine HCN.out.mono ?_
      rintro e w5 ⟨rfl, hb5⟩
      have kq5 := KQ.out.below hb5 KQ.out.lt
      have q0 := kq5.cell 0
      have q1 := kq5.cell 1
      simp at q0 q1
      have B5 := Lib.hid (B4.out.trans (hb5.mono B4.out.size))
      have HC2 := Lib.hid (HCM.out w5 hb5)
      have HB5 := Lib.hid hb5
      clear hb5 kq5 HCN HCM
      go_wp2_with fail
      refine HC2.out.mono ?_
      rintro e w6 ⟨rfl, hb6⟩
      have HA := Lib.hid (HAW.out w6 (HB5.out.trans (hb6.mono HB5.out.size)))
      have B6 := Lib.hid (B5.out.trans (hb6.mono B5.out.size))
      clear hb6 HC2 HAW HB5
      go_wp2_with fail
      refine HA.out.mono ?_
      rintro e w7 ⟨rfl, hb7⟩
      have B7 := Lib.hid (B6.out.trans (hb7.mono B6.out.size))
      clear hb7 HA
      go_wp2_with fail
      go_ret
      exact ⟨rfl, B7.out⟩
  · have d1 : (k != 0) = true := by simp [hk0]
    go_upto_region 3 with fail
    try rw [hbc]
    try rw [hW4]
    clear hW4 hbc
    go_wp2_with fail
    refine HCN.out.mono ?_
    rintro e w5 ⟨rfl, hb5⟩
    have kq5 := KQ.out.below hb5 KQ.out.lt
    have q0 := kq5.cell 0
    have q1 := kq5.cell 1
    simp at q0 q1
    have B5 := Lib.hid (B4.out.trans (hb5.mono B4.out.size))
    have HC2 := Lib.hid (HCM.out w5 hb5)
    have HB5 := Lib.hid hb5
    clear hb5 kq5 HCN HCM
    go_wp2_with fail
    refine HC2.out.mono ?_
    rintro e w6 ⟨rfl, hb6⟩
    have HA := Lib.hid (HAW.out w6 (HB5.out.trans (hb6.mono HB5.out.size)))
    have B6 := Lib.hid (B5.out.trans (hb6.mono B5.out.size))
    clear hb6 HC2 HAW HB5
    go_wp2_with fail
    refine HA.out.mono ?_
    rintro e w7 ⟨rfl, hb7⟩
    have B7 := Lib.hid (B6.out.trans (hb7.mono B6.out.size))
    clear hb7 HA
    go_wp2_with fail
    go_ret
    exact ⟨rfl, B7.out⟩
end Go.Proofs.YtlpmnhllnfhkdaaDoor
