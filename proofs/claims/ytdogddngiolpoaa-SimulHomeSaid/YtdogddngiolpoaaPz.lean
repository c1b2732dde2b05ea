/-
  SimulPrefers.
-/
import Derived.Test.YtdogddngiolpoaaPa
namespace Go.Proofs.Ytdogddngiolpoaa
open Go.RowKit

theorem wrongF_nil {n : Int} {ars : List ArcV} {rs ps : List Int} (h : wrongF n ars rs [] ≠ 0) : wrongF n ars rs ps = wrongF n ars rs [] := by
  unfold wrongF at h ⊢
  split at h
  · rename_i h1
    rw [if_pos h1, if_pos h1]
    split at h
    · rename_i h2
      rw [if_pos h2, if_pos h2]
      split at h
      · rename_i h3
        rw [if_pos h3, if_pos h3]
      · exact absurd rfl h
    · rename_i h2
      rw [if_neg h2, if_neg h2]
  · rename_i h1
    rw [if_neg h1, if_neg h1]
/-- what holds where nothing is wrong -/
theorem wrongF_parts {n : Int} {ars : List ArcV} {rs ps : List Int} (h : wrongF n ars rs ps = 0) : ∃ m : Nat, n = m ∧ checkF m ars = 0 ∧ NetOk m ars ∧ rs.length = m ∧ rs.all repB = true ∧ ars.all (evenB rs) = true ∧ sumF rs ≤ 2048 ∧ nodesB n ps = true := by
  unfold wrongF at h
  split at h
  · split at h
    · rename_i h2
      obtain ⟨a, b, c, d⟩ := holdB_parts h2
      obtain ⟨m, rfl, hN⟩ := netOk_of a
      split at h
      · cases h
      · split at h
        · rename_i h3 h4
          exact ⟨m, rfl, a, hN, by omega, c, d, by omega, h4⟩
        · cases h
    · cases h
  · rename_i h1; exact absurd h h1
theorem wrongF_some {n : Int} {ars : List ArcV} {rs ps : List Int} (h : wrongF n ars rs [] = 0) : wrongF n ars rs ps = if nodesB n ps = true then 0 else 100 := by
  unfold wrongF at h ⊢
  split at h
  · rename_i h1
    rw [if_pos h1]
    split at h
    · rename_i h2
      rw [if_pos h2]
      split at h
      · cases h
      · rename_i h3
        rw [if_neg h3]
    · cases h
  · rename_i h1; exact absurd h h1
/-- two preferences, one end: the same blocks, the same counts -/
theorem ans_same {n : Int} {ars : List ArcV} {rs ps qs : List Int} (h : wrongF n ars rs ps = 0) (h' : wrongF n ars rs qs = 0) :
    (ansF (pickS ars n.toNat rs ps) n ars rs ps).2 = (ansF (pickS ars n.toNat rs qs) n ars rs qs).2 ∧
    (∀ v, countF (ansF (pickS ars n.toNat rs ps) n ars rs ps).1 v = countF (ansF (pickS ars n.toNat rs qs) n ars rs qs).1 v) ∧ nodesB n (ansF (pickS ars n.toNat rs ps) n ars rs ps).1 = true := by
  obtain ⟨m, rfl, hck, hN, hlen, hall, heven, hsum, hno⟩ := wrongF_parts h
  rw [Int.toNat_natCast]
  unfold ansF
  rw [if_pos h, if_pos h', Int.toNat_natCast]
  have hs := run_same hN (pickS_ok ars m rs ps) (pickS_all ars m rs ps) (pickS_ok ars m rs qs) (pickS_all ars m rs qs)
  obtain ⟨-, -, c1, d1⟩ := runF_end (pickS_ok ars m rs ps) (pickS_all ars m rs ps) _ _ .zero (Nat.le_refl _)
  obtain ⟨-, -, c2, d2⟩ := runF_end (pickS_ok ars m rs qs) (pickS_all ars m rs qs) _ _ .zero (Nat.le_refl _)
  generalize runF (pickS ars m rs ps) (leftSum m (leftF rs fun _ => 0)) (fun _ => 0) = r1 at *
  generalize runF (pickS ars m rs qs) (leftSum m (leftF rs fun _ => 0)) (fun _ => 0) = r2 at *
  unfold endF
  rw [hs]
  split
  · refine ⟨rfl, fun v => ?_, d1⟩
    have h1 := c1 v
    have h2 := c2 v
    rw [hs] at h1
    simp only
    omega
  · exact ⟨rfl, fun _ => rfl, rfl⟩
theorem ans_len {n : Int} {ars : List ArcV} {rs ps : List Int} (pick : (Nat → Int) → Int) : (ansF pick n ars rs ps).2.length ≤ n.toNat := by
  unfold ansF
  split
  · unfold endF
    split
    · simp
    · exact blocksF_length _ n.toNat _ _ _
  · simp
theorem runF_len {pick : (Nat → Int) → Int} : ∀ f F, (runF pick f F).1.length ≤ f := by
  intro f
  induction f with
  | zero => intro F; simp [runF]
  | succ f ih =>
    intro F
    simp only [runF]
    split
    · have := ih (bump F (pick F).toNat); simp only [List.length_cons]; omega
    · simp
theorem ans_list {n : Int} {ars : List ArcV} {rs ps : List Int} (pick : (Nat → Int) → Int) : (ansF pick n ars rs ps).1.length ≤ 131072 := by
  unfold ansF
  split
  · rename_i h
    obtain ⟨m, rfl, hck, hN, hlen, hall, heven, hsum, hno⟩ := wrongF_parts h
    rw [Int.toNat_natCast]
    have h1 := leftSum_le (n := m) (m := 4096) (L := leftF rs fun _ => 0) fun v hv => by have := repAt_lt hall (f := v) (by omega); show repAt rs (v : Int) - 0 ≤ _; omega
    have h2 := Nat.mul_le_mul_right 4096 hN.n32
    have h3 := runF_len (pick := pick) (leftSum m (leftF rs fun _ => 0)) fun _ => 0
    unfold endF
    split
    · simp only; omega
    · simp
  · simp
theorem fit_nodes {n : Nat} {xs : List Int} (hn : n ≤ 32) (h : nodesB (n : Int) xs = true) : AllFit xs := by
  intro x hx
  have := List.all_eq_true.1 h x hx
  simp only [decide_eq_true_eq] at this
  unfold fits; omega
theorem fit_counts {xs : List Int} (n : Nat) (h : xs.length ≤ 131072) : AllFit (rowF (countF xs) n) := by
  intro x hx
  obtain ⟨v, hv, rfl⟩ := List.mem_map.1 hx
  have := countF_le xs v
  unfold fits; omega

set_option maxRecDepth 100000 in
set_option maxHeartbeats 4000000 in
theorem prefersLaw_any (n : Int) (ars : List ArcV) (A : Option Addr) (l c : Nat) (rs : List Int) (R : Option Addr) (m cr : Nat) (ps : List Int) (Q : Option Addr) (q cq : Nat) (w : World) (hl : ars.length = l) (hx : ∀ a ∈ ars, a.fit) (hr : Rd w w.heap.size A (cellsA ars)) (hm : l ≤ maxLen)
    (hrs : rs.length = m) (hlcr : m ≤ cr) (hfr : AllFit rs) (hrr : Rd w w.heap.size R (cellsI rs)) (hzr : cr * 8 ≤ 140737488351232) (hps : ps.length = q) (hlcq : q ≤ cq) (hfp : AllFit ps) (hrp : Rd w w.heap.size Q (cellsI ps)) (hzq : cq * 8 ≤ 140737488351232) :
    Calls Try.prog 5 #[.agg #[.int .i64 n, .slice A l c], .slice R m cr, .slice Q q cq] w fun e w' => e = .returned (.bool true) ∧ Below w.heap.size w w' := by
  subst hl hrs hps
  obtain ⟨B, hB⟩ : ∃ B, w.heap.size = B := ⟨_, rfl⟩
  rw [hB] at hr hrr hrp ⊢
  have hmm : rs.length ≤ maxLen := by unfold maxLen; omega
  have b1 := (Below.refl B w).alloc (by omega) (.cells #[.int .i64 n, .slice A ars.length c] 24)
  have k1 := Blk.new w B hB.symm 24 #[.int .i64 n, .slice A ars.length c]
  have hz1 : (w.alloc (.cells #[.int .i64 n, .slice A ars.length c] 24)).heap.size = B + 1 := by simp; omega
  obtain ⟨a1, ha1⟩ : ∃ a, ansF (pickS ars n.toNat rs []) n ars rs [] = a := ⟨_, rfl⟩
  obtain ⟨a2, ha2⟩ : ∃ a, ansF (pickS ars n.toNat rs ps) n ars rs ps = a := ⟨_, rfl⟩
  obtain ⟨e1, he1⟩ : ∃ a, wrongF n ars rs [] = a := ⟨_, rfl⟩
  obtain ⟨e2, he2⟩ : ∃ a, wrongF n ars rs ps = a := ⟨_, rfl⟩
  have hl1 := ans_list (n := n) (ars := ars) (rs := rs) (ps := []) (pickS ars n.toNat rs [])
  have hl2 := ans_list (n := n) (ars := ars) (rs := rs) (ps := ps) (pickS ars n.toNat rs ps)
  have hm1 := ans_len (n := n) (ars := ars) (rs := rs) (ps := []) (pickS ars n.toNat rs [])
  rw [ha1] at hl1 hm1
  rw [ha2] at hl2
  go_enter Try.func5, Try.ntmps5
  go_wp2_with fail
  generalize w.alloc (.cells #[.int .i64 n, .slice A ars.length c] 24) = W1 at *
  refine (simRun_any n ars A ars.length c rs R rs.length cr [] none 0 0 W1 rfl hx ((hr.below b1 (Nat.le_refl _)).more (by omega)) hm rfl hfr ((hrr.below b1 (Nat.le_refl _)).more (by omega)) hmm rfl (fun _ h => by cases h) (.inl rfl) (by omega)).mono ?_
  rintro e w2 ⟨lv, sv, rfl, ol, os, hb2⟩
  rw [ha1] at ol os
  rw [he1]
  obtain ⟨Al, cl, rfl, _⟩ := own_slice ol
  obtain ⟨As, cs, rfl, _⟩ := own_slice os
  have hz2 := hb2.size
  have b2 := b1.trans (hb2.mono (by omega))
  have k2 := k1.below hb2 (by omega)
  have rl2 := rd_of_own ol
  have rs2 := rd_of_own os
  clear ol os b1 k1 hb2
  have ba := (Below.refl w2.heap.size w2).alloc (Nat.le_refl _) (.cells #[.slice Al a1.1.length cl, .slice As a1.2.length cs] 29)
  have kp := Blk.new w2 _ rfl 29 #[.slice Al a1.1.length cl, .slice As a1.2.length cs]
  have b3 := b2.alloc (by omega) (.cells #[.slice Al a1.1.length cl, .slice As a1.2.length cs] 29)
  have k3 := k2.below ba k2.lt
  have rl3 := rl2.below ba (Nat.le_refl _)
  have rs3 := rs2.below ba (Nat.le_refl _)
  have hz3 : (w2.alloc (.cells #[.slice Al a1.1.length cl, .slice As a1.2.length cs] 29)).heap.size = w2.heap.size + 1 := by simp
  have d0 := k3.cell 0
  have d1 := k3.cell 1
  simp only [List.getElem?_toArray, List.getElem?_cons_zero, List.getElem?_cons_succ] at d0 d1
  clear b2 k2 ba rl2 rs2
  go_wp2_with fail
  generalize w2.alloc (.cells #[.slice Al a1.1.length cl, .slice As a1.2.length cs] 29) = W3 at *
  refine (simRun_any n ars A ars.length c rs R rs.length cr ps Q ps.length cq W3 rfl hx ((hr.below b3 (Nat.le_refl _)).more (by omega)) hm rfl hfr ((hrr.below b3 (Nat.le_refl _)).more (by omega)) hmm rfl hfp ((hrp.below b3 (Nat.le_refl _)).more (by omega)) (by omega)).mono ?_
  rintro e w4 ⟨lv, sv, rfl, ol, os, hb4⟩
  rw [ha2] at ol os
  rw [he2]
  obtain ⟨Al2, cl2, rfl, _⟩ := own_slice ol
  obtain ⟨As2, cs2, rfl, _⟩ := own_slice os
  have hz4 := hb4.size
  have b4 := b3.trans (hb4.mono (by omega))
  have k4 := k3.below hb4 (by omega)
  have kp4 := kp.below hb4 (by omega)
  have rl4 := rl3.below hb4 (by omega)
  have rs4 := rs3.below hb4 (by omega)
  have ql4 := rd_of_own ol
  have qs4 := rd_of_own os
  clear ol os b3 k3 hb4 kp rl3 rs3 d0 d1
  have ba := (Below.refl w4.heap.size w4).alloc (Nat.le_refl _) (.cells #[.slice Al2 a2.1.length cl2, .slice As2 a2.2.length cs2] 29)
  have kq := Blk.new w4 _ rfl 29 #[.slice Al2 a2.1.length cl2, .slice As2 a2.2.length cs2]
  have b5 := b4.alloc (by omega) (.cells #[.slice Al2 a2.1.length cl2, .slice As2 a2.2.length cs2] 29)
  have k5 := k4.below ba k4.lt
  have kp5 := kp4.below ba kp4.lt
  have rl5 := rl4.below ba (by omega)
  have rs5 := rs4.below ba (by omega)
  have ql5 := ql4.below ba (Nat.le_refl _)
  have qs5 := qs4.below ba (Nat.le_refl _)
  have hz5 : (w4.alloc (.cells #[.slice Al2 a2.1.length cl2, .slice As2 a2.2.length cs2] 29)).heap.size = w4.heap.size + 1 := by simp
  have hp5 := (hrp.below b5 (Nat.le_refl _))
  clear b4 k4 kp4 rl4 rs4 ql4 qs4 ba
  obtain ⟨W5, hW5⟩ : ∃ W5, w4.alloc (.cells #[.slice Al2 a2.1.length cl2, .slice As2 a2.2.length cs2] 29) = W5 := ⟨_, rfl⟩
  rw [hW5] at kq b5 k5 kp5 rl5 rs5 ql5 qs5 hz5 hp5
  have d0 := k5.cell 0
  have p0 := kp5.cell 0
  have p1 := kp5.cell 1
  have q0 := kq.cell 0
  have q1 := kq.cell 1
  simp only [List.getElem?_toArray, List.getElem?_cons_zero, List.getElem?_cons_succ] at d0 p0 p1 q0 q1
  by_cases h1 : e1 = 0
  · subst h1
    by_cases h2 : e2 = 0
    · subst h2
      obtain ⟨g1, g2, g3⟩ := ans_same he1 he2
      obtain ⟨g4, g5, g6⟩ := ans_same he2 he1
      rw [ha1] at g1 g2 g3
      rw [ha2] at g1 g2 g6
      obtain ⟨nn, rfl, hck, hN, hlen, hall, heven, hsum, hno⟩ := wrongF_parts he1
      have n32 := hN.n32
      have G2 := Lib.hid g2
      have G3 := Lib.hid g3
      have G6 := Lib.hid g6
      rw [Int.toNat_natCast] at hm1
      rw [g1] at rs5 hm1
      have hrow : rowF (countF a1.1) nn = rowF (countF a2.1) nn := List.map_congr_left fun v _ => G2.out v
      have hgo1 := goodP_all G3.out
      have hgo2 := goodP_all G6.out
      have hlb : a1.2.length = a2.2.length := by rw [g1]
      rw [hlb] at kp5 p1
      clear g1 g2 g3 g4 g5 g6 ha1 ha2 he1 he2 hall heven hck hlb kp5 kq k5
      have hsz5 : w2.heap.size + 1 ≤ W5.heap.size := by omega
      go_wp2_with fail
      try rw [hW5]
      clear hW5
      refine (tally_any nn a1.1 Al a1.1.length cl W5 n32 rfl (fit_nodes n32 G3.out) (rl5.more (by omega)) (by omega)).mono ?_
      rintro e w6 ⟨gt1, rfl, hg1, ot1, hb6⟩
      rw [hgo1] at ot1
      rw [G3.out]
      have hz6 := hb6.size
      have b6 := b5.trans (hb6.mono (by omega))
      have d0' := (hb6.cell (p := ⟨B, 0, none⟩) (by simp; omega)).trans d0
      have q0' := (hb6.cell (p := ⟨w4.heap.size, 0, none⟩) (by simp; omega)).trans q0
      have q1' := (hb6.cell (p := ⟨w4.heap.size, 1, none⟩) (by simp; omega)).trans q1
      have p1' := (hb6.cell (p := ⟨w2.heap.size, 1, none⟩) (by simp; omega)).trans p1
      have rs6 := rs5.below hb6 (by omega)
      have ql6 := ql5.below hb6 (by omega)
      have qs6 := qs5.below hb6 (by omega)
      have rt6 := rd_of_own ot1
      clear d0 p0 p1 q0 q1 rl5 rs5 ql5 qs5 hb6 b5 hp5 ot1
      go_wp2_with fail
      refine (tally_any nn a2.1 Al2 a2.1.length cl2 w6 n32 rfl (fit_nodes n32 G6.out) (ql6.more (by omega)) (by omega)).mono ?_
      rintro e w7 ⟨gt2, rfl, hg2, ot2, hb7⟩
      rw [hgo2] at ot2
      rw [G6.out]
      have hz7 := hb7.size
      have b7 := b6.trans (hb7.mono (by omega))
      have q1 := (hb7.cell (p := ⟨w4.heap.size, 1, none⟩) (by simp; omega)).trans q1'
      have p1 := (hb7.cell (p := ⟨w2.heap.size, 1, none⟩) (by simp; omega)).trans p1'
      have rs7 := rs6.below hb7 (by omega)
      have qs7 := qs6.below hb7 (by omega)
      have rt7 := rt6.below hb7 (Nat.le_refl _)
      have ru7 := rd_of_own ot2
      rw [hrow] at rt7
      clear d0' q0' q1' p1' ql6 hb7 b6 rs6 qs6 rt6 ot2
      go_wp2_with fail
      refine (sameInts_yes (rowF (countF a2.1) nn) (some ⟨gt1, 0, none⟩) (some ⟨gt2, 0, none⟩) nn nn nn _ _ w7 (rowF_length _ _) (fit_counts nn hl2) rt7 ru7 (by unfold maxLen; omega)).mono ?_
      rintro e w8 ⟨rfl, hd8⟩
      have q1' := (hd8.cell _).trans q1
      have p1' := (hd8.cell _).trans p1
      have b8 := b7.trans (hd8.below _)
      have rs8 := hd8.rd rs7
      have qs8 := hd8.rd qs7
      clear q1 p1 hd8 rs7 qs7 rt7 ru7
      go_wp2_with fail
      refine (same14_yes a2.2 As As2 a2.2.length cs cs2 _ _ w8 rfl rs8 qs8 (by omega)).mono ?_
      rintro e w9 ⟨rfl, hd9⟩
      have b9 := b8.trans (hd9.below _)
      clear q1' p1' hd9 rs8 qs8 b8 b7
      go_wp2_with fail
      refine (awake_any w9).mono ?_
      rintro e w10 ⟨rfl, hb10⟩
      have b10 := b9.trans (hb10.mono (by have := b9.size; omega))
      go_wp2_with fail
      go_ret
      exact ⟨rfl, b10⟩
    · have he : e2 = if nodesB n ps = true then 0 else 100 := by rw [← he2]; exact wrongF_some he1
      obtain ⟨nn, rfl, hck, hN, hlen, hall, heven, hsum, hno⟩ := wrongF_parts he1
      have n32 := hN.n32
      have hnp : nodesB (nn : Int) ps = false := by
        cases hh : nodesB (nn : Int) ps with
        | false => rfl
        | true => rw [hh, if_pos rfl] at he; exact absurd he h2
      rw [hnp] at he
      obtain rfl : e2 = 100 := by rw [he]; rfl
      clear ha1 ha2 he1 he2 he h2 hall heven hck hm1
      go_wp2_with fail
      try rw [hW5]
      clear hW5
      refine (tally_any nn ps Q ps.length cq W5 n32 rfl hfp (hp5.more (by omega)) (by omega)).mono ?_
      rintro e w6 ⟨gt1, rfl, hg1, ot1, hb6⟩
      rw [hnp]
      have b6 := b5.trans (hb6.mono (by omega))
      clear ot1 hb6 b5
      go_wp2_with fail
      refine (awake_any w6).mono ?_
      rintro e w7 ⟨rfl, hb7⟩
      have b7 := b6.trans (hb7.mono (by have := b6.size; omega))
      go_wp2_with fail
      go_ret
      exact ⟨rfl, b7⟩
  · have he : e2 = e1 := by rw [← he1, ← he2]; exact wrongF_nil (by rw [he1]; exact h1)
    subst he
    have hne : (e2 != 0) = true := by simpa using h1
    have hee : (e2 == e2) = true := by simp
    clear ha1 ha2 he1 he2 d0 p0 p1 q0 q1
    go_wp2_with fail
    try rw [hW5]
    clear hW5
    refine (awake_any W5).mono ?_
    rintro e w6 ⟨rfl, hb6⟩
    have b6 := b5.trans (hb6.mono (by omega))
    go_wp2_with fail
    go_ret
    exact ⟨rfl, b6⟩
end Go.Proofs.Ytdogddngiolpoaa
