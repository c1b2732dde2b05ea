/-
  SimulRuns: the walk.
-/
import Derived.Test.YtdogddngiolpoaaRz
namespace Go.Proofs.Ytdogddngiolpoaa
open Go.RowKit

theorem ans_fit {n : Int} {ars : List ArcV} {rs ps : List Int} : AllFit (ansF (pickS ars n.toNat rs ps) n ars rs ps).1 := by
  by_cases h : wrongF n ars rs ps = 0
  · obtain ⟨m, hm, -, hN, -, -, -, -, -⟩ := wrongF_parts h
    have := (ans_same h h).2.2
    rw [hm] at this ⊢
    exact fit_nodes hN.n32 this
  · rw [ans_wrong h]; intro x hx; cases hx
theorem ans_len2 {n : Int} {ars : List ArcV} {rs ps : List Int} (pick : (Nat → Int) → Int) : (ansF pick n ars rs ps).2.length ≤ 32 := by
  by_cases h : wrongF n ars rs ps = 0
  · obtain ⟨m, hm, -, hN, -, -, -, -, -⟩ := wrongF_parts h
    have := ans_len (n := n) (ars := ars) (rs := rs) (ps := ps) pick
    have := hN.n32
    omega
  · rw [ans_wrong h]; simp

set_option maxRecDepth 100000 in
set_option maxHeartbeats 4000000 in
theorem runsLaw_any (n : Int) (ars : List ArcV) (A : Option Addr) (l c : Nat) (rs : List Int) (R : Option Addr) (m cr : Nat) (ps : List Int) (Q : Option Addr) (q cq : Nat) (w : World) (hl : ars.length = l) (hx : ∀ a ∈ ars, a.fit) (hr : Rd w w.heap.size A (cellsA ars)) (hm : l ≤ maxLen)
    (hrs : rs.length = m) (hlcr : m ≤ cr) (hfr : AllFit rs) (hrr : Rd w w.heap.size R (cellsI rs)) (hzr : cr * 8 ≤ 140737488351232) (hps : ps.length = q) (hlcq : q ≤ cq) (hfp : AllFit ps) (hrp : Rd w w.heap.size Q (cellsI ps)) (hzq : cq * 8 ≤ 140737488351232) :
    Calls Try.prog 3 #[.agg #[.int .i64 n, .slice A l c], .slice R m cr, .slice Q q cq] w fun e w' => e = .returned (.bool true) ∧ Below w.heap.size w w' := by
  subst hl hrs hps
  obtain ⟨B, hB⟩ : ∃ B, w.heap.size = B := ⟨_, rfl⟩
  rw [hB] at hr hrr hrp ⊢
  have hmm : rs.length ≤ maxLen := by unfold maxLen; omega
  have b1 := (Below.refl B w).alloc (by omega) (.cells #[.int .i64 n, .slice A ars.length c] 24)
  have k1 := Blk.new w B hB.symm 24 #[.int .i64 n, .slice A ars.length c]
  have hz1 : (w.alloc (.cells #[.int .i64 n, .slice A ars.length c] 24)).heap.size = B + 1 := by simp; omega
  obtain ⟨an, han⟩ : ∃ a, ansF (pickS ars n.toNat rs ps) n ars rs ps = a := ⟨_, rfl⟩
  obtain ⟨er, her⟩ : ∃ a, wrongF n ars rs ps = a := ⟨_, rfl⟩
  have hl1 := ans_list (n := n) (ars := ars) (rs := rs) (ps := ps) (pickS ars n.toNat rs ps)
  have hl2 := ans_len2 (n := n) (ars := ars) (rs := rs) (ps := ps) (pickS ars n.toNat rs ps)
  have hfit := ans_fit (n := n) (ars := ars) (rs := rs) (ps := ps)
  have href := ans_ref (n := n) (ars := ars) (rs := rs) (ps := ps)
  rw [han] at hl1 hl2 hfit href
  go_enter Try.func3, Try.ntmps3
  go_wp2_with fail
  generalize w.alloc (.cells #[.int .i64 n, .slice A ars.length c] 24) = W1 at *
  refine (lent_any rs R rs.length cr B W1 rfl (hrr.below b1 (Nat.le_refl _)) (by omega) (by omega)).mono ?_
  rintro e w2 ⟨g1, rfl, hg1, o1, hb2⟩
  have hz2 := hb2.size
  have b2 := b1.trans (hb2.mono (by omega))
  have k2 := k1.below hb2 (by omega)
  clear b1 k1 hb2
  go_wp2_with fail
  refine (lent_any ps Q ps.length cq B w2 rfl (hrp.below b2 (Nat.le_refl _)) (by omega) (by omega)).mono ?_
  rintro e w3 ⟨g2, rfl, hg2, o2, hb3⟩
  have hz3 := hb3.size
  have b3 := b2.trans (hb3.mono (by omega))
  have k3 := k2.below hb3 (by omega)
  have hg1s := (o1.lt g1 rfl).2
  have hg2s := (o2.lt g2 rfl).2
  have o1' := own_below o1 hb3
  have d0 := k3.cell 0
  have d1 := k3.cell 1
  simp only [List.getElem?_toArray, List.getElem?_cons_zero, List.getElem?_cons_succ] at d0 d1
  clear b2 k2 hb3
  go_wp2_with fail
  refine (refRun_any n ars A ars.length c rs R rs.length cr ps Q ps.length cq w3 rfl hx ((hr.below b3 (Nat.le_refl _)).more (by omega)) hm rfl hfr ((hrr.below b3 (Nat.le_refl _)).more (by omega)) hmm rfl hfp ((hrp.below b3 (Nat.le_refl _)).more (by omega)) (by omega)).mono ?_
  rintro e w4 ⟨lv, sv, rfl, ol, os, hb4⟩
  rw [href] at ol os
  rw [her]
  obtain ⟨Al, cl, rfl, _⟩ := own_slice ol
  obtain ⟨As, cs, rfl, _⟩ := own_slice os
  have hz4 := hb4.size
  have b4 := b3.trans (hb4.mono (by omega))
  have k4 := k3.below hb4 (by omega)
  have o14 := own_below o1' hb4
  have o24 := own_below o2 hb4
  have rl4 := rd_of_own ol
  have rs4 := rd_of_own os
  clear ol os b3 k3 hb4 o1 o1' o2 d0 d1
  have ba := (Below.refl w4.heap.size w4).alloc (Nat.le_refl _) (.cells #[.slice Al an.1.length cl, .slice As an.2.length cs] 29)
  have kp := Blk.new w4 _ rfl 29 #[.slice Al an.1.length cl, .slice As an.2.length cs]
  have b5 := b4.alloc (by omega) (.cells #[.slice Al an.1.length cl, .slice As an.2.length cs] 29)
  have k5 := k4.below ba k4.lt
  have o15 := own_below o14 ba
  have o25 := own_below o24 ba
  have rl5 := rl4.below ba (Nat.le_refl _)
  have rs5 := rs4.below ba (Nat.le_refl _)
  have hz5 : (w4.alloc (.cells #[.slice Al an.1.length cl, .slice As an.2.length cs] 29)).heap.size = w4.heap.size + 1 := by simp
  have d0 := k5.cell 0
  have d1 := k5.cell 1
  simp only [List.getElem?_toArray, List.getElem?_cons_zero, List.getElem?_cons_succ] at d0 d1
  clear b4 k4 ba o14 o24 rl4 rs4
  go_wp2_with fail
  generalize w4.alloc (.cells #[.slice Al an.1.length cl, .slice As an.2.length cs] 29) = W5 at *
  have rq1 := (lent_cells o15 rfl).1
  have rq2 := (lent_cells o25 rfl).1
  refine (simRun_any n ars A ars.length c rs (some ⟨g1, 0, none⟩) rs.length (rs.length + 4) ps (some ⟨g2, 0, none⟩) ps.length (ps.length + 4) W5 rfl hx ((hr.below b5 (Nat.le_refl _)).more (by omega)) hm rfl hfr rq1 hmm rfl hfp rq2 (by omega)).mono ?_
  rintro e w6 ⟨lv, sv, rfl, ol, os, hb6⟩
  rw [han] at ol os
  rw [her]
  obtain ⟨Al2, cl2, rfl, _⟩ := own_slice ol
  obtain ⟨As2, cs2, rfl, _⟩ := own_slice os
  have hz6 := hb6.size
  have b6 := b5.trans (hb6.mono (by omega))
  have k6 := k5.below hb6 (by omega)
  have kp6 := kp.below hb6 (by omega)
  have o16 := own_below o15 hb6
  have o26 := own_below o25 hb6
  have rl6 := rl5.below hb6 (by omega)
  have rs6 := rs5.below hb6 (by omega)
  have rs6' := rd_of_own os
  clear os b5 k5 hb6 kp o15 o25 rl5 rs5 d0 d1 rq1 rq2
  have ba := (Below.refl w6.heap.size w6).alloc (Nat.le_refl _) (.cells #[.slice Al2 an.1.length cl2, .slice As2 an.2.length cs2] 29)
  have kq := Blk.new w6 _ rfl 29 #[.slice Al2 an.1.length cl2, .slice As2 an.2.length cs2]
  have b7 := b6.alloc (by omega) (.cells #[.slice Al2 an.1.length cl2, .slice As2 an.2.length cs2] 29)
  have kp7 := kp6.below ba kp6.lt
  have o17 := own_below o16 ba
  have o27 := own_below o26 ba
  have ol7 := own_below ol ba
  have rl7 := rl6.below ba (by omega)
  have rs7 := rs6.below ba (by omega)
  have rs7' := rs6'.below ba (Nat.le_refl _)
  have hz7 : (w6.alloc (.cells #[.slice Al2 an.1.length cl2, .slice As2 an.2.length cs2] 29)).heap.size = w6.heap.size + 1 := by simp
  clear b6 k6 kp6 ba o16 o26 ol rl6 rs6 rs6'
  go_wp2_with fail
  generalize w6.alloc (.cells #[.slice Al2 an.1.length cl2, .slice As2 an.2.length cs2] 29) = W7 at *
  refine (kept_yes rs R rs.length cr g1 B _ W7 rfl hfr (hrr.below b7 (Nat.le_refl _)) (by omega) o17).mono ?_
  rintro e w8 ⟨rfl, hd8⟩
  have b8 := b7.trans (hd8.below _)
  have o28 := own_below o27 (hd8.below _)
  go_wp2_with fail
  refine (kept_yes ps Q ps.length cq g2 B _ w8 rfl hfp (hrp.below b8 (Nat.le_refl _)) (by omega) o28).mono ?_
  rintro e w9 ⟨rfl, hd9⟩
  have hd : Drawn W7 w9 := hd8.trans hd9
  have hz9 : w9.heap.size = W7.heap.size := hd.size
  have b9 := b7.trans (hd.below _)
  have kp9 := kp7.below (hd.below _) kp7.lt
  have kq9 := kq.below (hd.below _) kq.lt
  have o19 := own_below o17 (hd.below _)
  have o29 := own_below o27 (hd.below _)
  have ol9 := own_below ol7 (hd.below _)
  have rl9 := hd.rd rl7
  have rs9 := hd.rd rs7
  have rs9' := hd.rd rs7'
  have p0 := kp9.cell 0
  have p1 := kp9.cell 1
  have q0 := kq9.cell 0
  have q1 := kq9.cell 1
  simp only [List.getElem?_toArray, List.getElem?_cons_zero, List.getElem?_cons_succ] at p0 p1 q0 q1
  have hee : (er != er) = false := by simp
  clear b7 b8 o28 o27 o17 ol7 rl7 rs7 rs7' hd8 hd9 hd kp7 kq
  go_wp2_with fail
  refine (refSame_yes an.1 an.2 Al Al2 an.1.length cl cl2 As As2 an.2.length cs cs2 w9 rfl rfl hfit (rl9.more (by omega)) (rd_of_own ol9) (rs9.more (by omega)) (rs9'.more (by omega)) (by omega) (by omega)).mono ?_
  rintro e w10 ⟨rfl, hb10⟩
  have hz10 := hb10.size
  have b10 := b9.trans (hb10.mono (by omega))
  have q0' := (kq9.below hb10 (by omega)).cell 0
  simp only [List.getElem?_toArray, List.getElem?_cons_zero] at q0'
  have o1a := own_below (own_shrink (xs := cellsI rs) (ys := cellsI marks) (by simpa [cellsI] using o19) (cellsI_length rs)) hb10
  have o2a := own_below (own_shrink (xs := cellsI ps) (ys := cellsI marks) (by simpa [cellsI] using o29) (cellsI_length ps)) hb10
  have ola := own_below ol9 hb10
  clear b9 hb10 kp9 kq9 o19 o29 ol9 rl9 rs9 rs9' p0 p1 q0 q1
  have ba := (Below.refl w10.heap.size w10).alloc (Nat.le_refl _) (.cells #[.slice Al2 an.1.length cl2, .slice (some ⟨g1, 0, none⟩) rs.length (rs.length + 4), .slice (some ⟨g2, 0, none⟩) ps.length (ps.length + 4)] 25)
  have kl := Blk.new w10 _ rfl 25 #[.slice Al2 an.1.length cl2, .slice (some ⟨g1, 0, none⟩) rs.length (rs.length + 4), .slice (some ⟨g2, 0, none⟩) ps.length (ps.length + 4)]
  have b11 := b10.alloc (by omega) (.cells #[.slice Al2 an.1.length cl2, .slice (some ⟨g1, 0, none⟩) rs.length (rs.length + 4), .slice (some ⟨g2, 0, none⟩) ps.length (ps.length + 4)] 25)
  have ol11 := own_below ola ba
  have o11 := own_below o1a ba
  have o21 := own_below o2a ba
  have hz11 : (w10.alloc (.cells #[.slice Al2 an.1.length cl2, .slice (some ⟨g1, 0, none⟩) rs.length (rs.length + 4), .slice (some ⟨g2, 0, none⟩) ps.length (ps.length + 4)] 25)).heap.size = w10.heap.size + 1 := by simp
  have hlo : ∀ b, blkOf Al2 = some b → W5.heap.size ≤ b ∧ b < w10.heap.size := fun b hb => ola.lt b (by rw [ownBlock_slice]; exact hb)
  clear b10 ba o1a o2a ola
  go_wp2_with fail
  have n1 : ∀ g b : Nat, blkOf (some ⟨g, 0, none⟩) = some b → g = b := fun g b h => by simp only [blkOf] at h; injection h
  refine (apart_three Al2 (some ⟨g1, 0, none⟩) (some ⟨g2, 0, none⟩) cl2 (rs.length + 4) (ps.length + 4) an.1 rs ps an.1.length rs.length ps.length w10.heap.size B _ rfl rfl rfl (by omega) (by omega) (by omega) (ol11.mono (by omega)) (o11.mono (by omega)) (o21.mono (by omega))
    (fun b hb hc => by have := hlo b hb; have := n1 _ _ hc; omega) (fun b hb hc => by have := hlo b hb; have := n1 _ _ hc; omega) (fun b hb hc => by have := n1 _ _ hb; have := n1 _ _ hc; omega)
    (kl.cell 0) (kl.cell 1) (kl.cell 2) (fun hc => by have := hlo _ hc; omega) (fun hc => by have := n1 _ _ hc; omega) (fun hc => by have := n1 _ _ hc; omega) (by omega) (by omega)).mono ?_
  rintro e w12 ⟨rfl, hb12⟩
  have b12 := b11.trans hb12
  clear b11 hb12 ol11 o11 o21 kl q0' hlo
  go_wp2_with fail
  refine (awake_any w12).mono ?_
  rintro e w13 ⟨rfl, hb13⟩
  have b13 := b12.trans (hb13.mono (by have := b12.size; omega))
  go_wp2_with fail
  go_ret
  exact ⟨rfl, b13⟩
end Go.Proofs.Ytdogddngiolpoaa
