/-
  SimulAny.
-/
import Derived.Test.YtdogddngiolpoaaAa
import Derived.Test.YtdogddngiolpoaaAb
import Derived.Test.YtdogddngiolpoaaSx
namespace Go.Proofs.Ytdogddngiolpoaa
open Go.RowKit

set_option maxRecDepth 100000 in
set_option maxHeartbeats 4000000 in
theorem anyLaw_any (n : Int) (ars : List ArcV) (A : Option Addr) (l c : Nat) (rs : List Int) (R : Option Addr) (m cr : Nat) (ps : List Int) (Q : Option Addr) (q cq : Nat) (w : World) (hl : ars.length = l) (hx : ∀ a ∈ ars, a.fit) (hr : Rd w w.heap.size A (cellsA ars)) (hm : l ≤ maxLen)
    (hrs : rs.length = m) (hlcr : m ≤ cr) (hfr : AllFit rs) (hrr : Rd w w.heap.size R (cellsI rs)) (hzr : cr * 8 ≤ 140737488351232) (hps : ps.length = q) (hlcq : q ≤ cq) (hfp : AllFit ps) (hrp : Rd w w.heap.size Q (cellsI ps)) (hzq : cq * 8 ≤ 140737488351232) :
    Calls Try.prog 6 #[.agg #[.int .i64 n, .slice A l c], .slice R m cr, .slice Q q cq] w fun e w' => e = .returned (.bool true) ∧ Below w.heap.size w w' := by
  subst hl hrs hps
  obtain ⟨B, hB⟩ : ∃ B, w.heap.size = B := ⟨_, rfl⟩
  rw [hB] at hr hrr hrp ⊢
  have hmm : rs.length ≤ maxLen := by unfold maxLen; omega
  have b1 := (Below.refl B w).alloc (by omega) (.cells #[.int .i64 n, .slice A ars.length c] 24)
  have k1 := Blk.new w B hB.symm 24 #[.int .i64 n, .slice A ars.length c]
  have hz1 : (w.alloc (.cells #[.int .i64 n, .slice A ars.length c] 24)).heap.size = B + 1 := by simp; omega
  obtain ⟨a1, ha1⟩ : ∃ a, ansF (pickS ars n.toNat rs []) n ars rs [] = a := ⟨_, rfl⟩
  obtain ⟨e1, he1⟩ : ∃ a, wrongF n ars rs [] = a := ⟨_, rfl⟩
  have hm1 := ans_len (n := n) (ars := ars) (rs := rs) (ps := []) (pickS ars n.toNat rs [])
  rw [ha1] at hm1
  go_enter Try.func6, Try.ntmps6
  go_wp2_with fail
  generalize w.alloc (.cells #[.int .i64 n, .slice A ars.length c] 24) = W1 at *
  refine (simRun_any n ars A ars.length c rs R rs.length cr [] none 0 0 W1 rfl hx ((hr.below b1 (Nat.le_refl _)).more (by omega)) hm rfl hfr ((hrr.below b1 (Nat.le_refl _)).more (by omega)) hmm rfl (fun _ h => by cases h) (.inl rfl) (by omega)).mono ?_
  rintro e w2 ⟨lv, sv, rfl, ol, os, hb2⟩
  rw [ha1] at ol os
  rw [he1]
  obtain ⟨Al, cl, rfl, _⟩ := own_slice ol
  obtain ⟨As, cs, rfl, _⟩ := own_slice os
  have hz2 := hb2.size
  have b2 := b1.trans (hb2.mono (by omega))
  have k2 := k1.below hb2 (by omega)
  clear ol os b1 k1 hb2
  have ba := (Below.refl w2.heap.size w2).alloc (Nat.le_refl _) (.cells #[.slice Al a1.1.length cl, .slice As a1.2.length cs] 29)
  have kp := Blk.new w2 _ rfl 29 #[.slice Al a1.1.length cl, .slice As a1.2.length cs]
  have b3 := b2.alloc (by omega) (.cells #[.slice Al a1.1.length cl, .slice As a1.2.length cs] 29)
  have k3 := k2.below ba k2.lt
  have hz3 : (w2.alloc (.cells #[.slice Al a1.1.length cl, .slice As a1.2.length cs] 29)).heap.size = w2.heap.size + 1 := by simp
  have d0 := k3.cell 0
  have d1 := k3.cell 1
  simp only [List.getElem?_toArray, List.getElem?_cons_zero, List.getElem?_cons_succ] at d0 d1
  have hr3 := hr.below b3 (Nat.le_refl _)
  have hrr3 := hrr.below b3 (Nat.le_refl _)
  have hrp3 := hrp.below b3 (Nat.le_refl _)
  clear b2 k2 ba
  obtain ⟨W3, hW3⟩ : ∃ W3, w2.alloc (.cells #[.slice Al a1.1.length cl, .slice As a1.2.length cs] 29) = W3 := ⟨_, rfl⟩
  rw [hW3] at kp b3 k3 hz3 d0 d1 hr3 hrr3 hrp3
  by_cases h1 : e1 = 0
  · subst h1
    obtain ⟨nn, rfl, hck, hN, hlen, hall, heven, hsum, hno⟩ := wrongF_parts he1
    obtain rfl := hlen
    have n32 := hN.n32
    have hpos := hN.pos
    obtain ⟨bR, oR, x0, rfl, hbR, -, -, -, -⟩ := hrr.at_ hfr (k := 0) hpos
    have hend := fun G hR hF => any_end (G := G) he1 hR hF
    rw [ha1] at hend
    have hleft := sumF_left hall rs.length (Nat.le_refl _)
    rw [List.take_length] at hleft
    have hst : leftSum rs.length (leftF rs fun _ => 0) ≤ 2048 := by omega
    have Hend := Lib.hid hend
    have HN := Lib.hid hN
    have Hall := Lib.hid hall
    have Hck := Lib.hid hck
    clear he1 ha1 heven hck hN hall hend hleft
    go_wp2_with fail
    try rw [hW3]
    refine (new_any rs.length A c ars W3 Hck.out HN.out (hr3.more (by omega))).mono ?_
    rintro e w4 ⟨s, rfl, hS4, hb4, hgs⟩
    have hz4 := hb4.size
    have b4 := b3.trans (hb4.mono (by omega))
    have kp4 := kp.below hb4 (by omega)
    have k4 := k3.below hb4 (by omega)
    have hrr4 := hrr3.below hb4 (by omega)
    have hrp4 := hrp3.below hb4 (by omega)
    obtain ⟨B3, hB3⟩ : ∃ B3, W3.heap.size = B3 := ⟨_, rfl⟩
    rw [hB3] at hS4 hb4 hz4 hz3
    clear b3 k3 d0 d1 hr3 hrr3 hrp3 kp hb4 hW3
    have HB4 := Lib.hid b4
    have HR4 := Lib.hid hrr4
    have HP4 := Lib.hid hrp4
    have HK4 := Lib.hid k4
    have HKp := Lib.hid kp4
    clear b4 hrr4 hrp4 k4 kp4
    go_wp2_with fail
    go_loopw [11] (fun i wr => ∃ (k : Nat) (G : Nat → Int), k ≤ ps.length ∧ i = .int .i64 k ∧ St wr B3 s rs.length ars G ∧ Reach ars rs.length rs G ∧ Below B3 w4 wr) (fun i _ => ps.length - (intOf i).toNat)
    case atStart => exact ⟨0, fun _ => 0, by omega, rfl, hS4, .zero, Below.refl _ _⟩
    case round =>
      clear hS4
      obtain ⟨k, G, hk', rfl, hS, hR, hb⟩ := hrel
      have hsz := hb.size
      by_cases hk : k < ps.length
      · have hrow := (HP4.out.more (by omega : B ≤ B3)).below hb (Nat.le_refl _)
        obtain ⟨bQ, oQ, x, rfl, hbQ, hxf, hcx, hd, hxx⟩ := hrow.at_ hfp hk
        have h1 : (0 : Int) ≤ (k : Int) := by omega
        have h2 : (k : Int) < (ps.length : Int) := by omega
        have HS := Lib.hid hS
        have HR := Lib.hid hR
        clear hd hrow hcx hS hR
        go_wp2_with fail
        refine (fired_any rs.length ars G B3 s wr HN.out HS.out).mono ?_
        rintro e w5 ⟨AF, cF, rfl, oF, bF⟩
        obtain ⟨gF, rfl⟩ := own_addr oF hpos
        have hS5 := HS.out.below bF
        have hz5 := bF.size
        have b5 := hb.trans (bF.mono (by omega))
        have hrow := (HP4.out.more (by omega : B ≤ B3)).below b5 (Nat.le_refl _)
        obtain ⟨bQ', oQ', x', hA', -, -, hcx, -, hxx'⟩ := hrow.at_ hfp hk
        injection hA' with hA'
        injection hA' with hA1 hA2 _
        have hxe : x' = x := by
          have q1 := hxx'.out
          rw [hxx.out] at q1
          injection q1 with q1
          exact q1.symm
        rw [hxe, ← hA1, ← hA2] at hcx
        clear hxx hxx' hA1 hA2 hxe hrow x'
        have HB := Lib.hid b5
        have HS5 := Lib.hid hS5
        clear hb HS b5 hS5 bF
        by_cases hx0 : 0 ≤ x
        · obtain ⟨v, rfl⟩ : ∃ v : Nat, x = v := ⟨x.toNat, by omega⟩
          by_cases hv : v < rs.length
          · have hv0 : (0 : Int) ≤ (v : Int) := by omega
            have hv2 : (v : Int) < (rs.length : Int) := by omega
            have hcf := own_firCell oF hv
            have hcr := rd_repAt ((HR4.out.more (by omega : B ≤ B3)).below HB.out (Nat.le_refl _)) hv
            by_cases hlt : G v < repAt rs v
            · clear oF
              go_wp2_with fail
              go_quiet (fail)
              generalize hW6 : World.drewN w5 _ = W6
              have hd6 : Drawn w5 W6 := by rw [← hW6]; exact (Drawn.refl _).drewN _
              have hcx6 := (hd6.cell _).trans hcx
              have S6 := HS5.out.drawn hd6
              have B6 := HB.out.trans (hd6.below _)
              have r6 := rd_alloc W6 _ rfl 3 [Value.int .i64 v]
              have ba := (Below.refl W6.heap.size W6).alloc (Nat.le_refl _) (.cells #[.int .i64 v] 3)
              have b7 := B6.trans (ba.mono (by have := B6.size; omega))
              have S7 := S6.below ba
              have hgt := (S6.tok.lt s.gt rfl).2
              have hgf := (S6.fir.lt s.gf rfl).2
              have hgt1 := (S6.tok.lt s.gt rfl).1
              have hgf1 := (S6.fir.lt s.gf rfl).1
              have hF6 : ∀ j, j < rs.length → 0 ≤ G j ∧ G j + (1 : Nat) ≤ 1000000 := fun j hj => by
                have q1 := HR.out.nonneg j
                have q2 := HR.out.le_reps (fun v hv => by have := repAt_lt Hall.out (f := v) (by omega); omega) j hj
                have q3 := repAt_lt Hall.out (f := j) (by omega)
                omega
              have Hr6 := Lib.hid r6
              have HS7 := Lib.hid S7
              have HB7 := Lib.hid b7
              have HF6 := Lib.hid hF6
              have hz7 := b7.size
              clear hd6 hcx hcf hcr S6 B6 r6 ba b7 S7 hF6 hW6
              go_wp2_with fail
              refine (fire_any [(v : Int)] (some ⟨W6.heap.size, 0, none⟩) 1 1 rs.length ars G B3 s _ rfl (fun x hx => by simp at hx; subst hx; unfold fits; omega) ((Hr6.out).more (by simp)) (by simp only [blkOf]; intro hc; injection hc with hc; omega) (by simp only [blkOf]; intro hc; injection hc with hc; omega) HN.out HF6.out HS7.out).mono ?_
              rintro e w8 ⟨rfl, S8, O8⟩
              have b8 : Below B3 w4 w8 := HB7.out.trans ⟨O8.os, O8.tape, O8.output, O8.size, fun k hk => O8.block k (by omega) (by omega)⟩
              have hR8 : Reach ars rs.length rs (fireF ars rs.length G [(v : Int)]) := by
                rcases fire_cases (ars := ars) (n := rs.length) (v := v) (F := G) with ⟨hm, -, hf1⟩ | ⟨-, -, hf1⟩
                · rw [hf1]; exact .step HR.out (by unfold leftF; omega) hm
                · rw [hf1]; exact HR.out
              go_wp2_with fail
              go_roundw
              case rel => exact ⟨k + 1, _, by omega, by go_num, S8, hR8, b8⟩
              case measure => simp [intOf]; omega
            · clear oF
              have hd : decide (G v < repAt rs v) = false := decide_eq_false hlt
              go_wp2_with fail
              go_quiet (fail)
              go_wp2_with fail
              go_roundw
              case rel => exact ⟨k + 1, G, by omega, by go_num, HS5.out.below (Drawn.below _ ((Drawn.refl _).drewN _)), HR.out, Below.drewN HB.out _⟩
              case measure => simp [intOf]; omega
          · have hd : decide ((v : Int) < (rs.length : Int)) = false := decide_eq_false (by omega)
            clear oF
            go_wp2_with fail
            go_quiet (fail)
            go_wp2_with fail
            go_roundw
            case rel => exact ⟨k + 1, G, by omega, by go_num, HS5.out.below (Drawn.below _ ((Drawn.refl _).drewN _)), HR.out, Below.drewN HB.out _⟩
            case measure => simp [intOf]; omega
        · have hd : decide (0 ≤ x) = false := decide_eq_false hx0
          clear oF
          go_wp2_with fail
          go_quiet (fail)
          go_wp2_with fail
          go_roundw
          case rel => exact ⟨k + 1, G, by omega, by go_num, HS5.out.below (Drawn.below _ ((Drawn.refl _).drewN _)), HR.out, Below.drewN HB.out _⟩
          case measure => simp [intOf]; omega
      · obtain rfl : k = ps.length := by omega
        have c0 := (HK4.out.below hb (by omega)).cell 0
        simp only [List.getElem?_toArray, List.getElem?_cons_zero] at c0
        have HS := Lib.hid hS
        have HR := Lib.hid hR
        have HB := Lib.hid hb
        clear hS hR hb
        have hls := HR.out.left_le
        go_wp2_with fail
        refine (go1_any rs.length ars rs (some ⟨bR, oR, none⟩) cr G B3 s wr HN.out rfl hfr Hall.out ((HR4.out.more (by omega : B ≤ B3)).below HB.out (Nat.le_refl _)) HS.out (by omega) HR.out (by omega)).mono ?_
        rintro e w5 ⟨G2, rfl, S5, hR5, hF5, b5⟩
        have b5 := HB.out.trans b5
        have hz5 := b5.size
        have He := Lib.hid (Hend.out G2 hR5 hF5)
        have HS5 := Lib.hid S5
        have HB5 := Lib.hid b5
        clear S5 hF5 b5 HS HR HB
        go_wp2_with fail
        refine (fired_any rs.length ars G2 B3 s w5 HN.out HS5.out).mono ?_
        rintro e w6 ⟨AF, cF, rfl, oF, bF⟩
        have b6 := HB5.out.trans (bF.mono (by omega))
        have hz6 := b6.size
        have r6 := rd_of_own oF
        have f6 : AllFit (rowF G2 rs.length) := fun x hx => by
          obtain ⟨j, hj, rfl⟩ := List.mem_map.1 hx
          have hj := List.mem_range.1 hj
          have q1 := hR5.nonneg j
          have q2 := hR5.le_reps (fun v hv => by have := repAt_lt Hall.out (f := v) (by omega); omega) j hj
          have q3 := repAt_lt Hall.out (f := j) (by omega)
          unfold fits; omega
        go_wp2_with fail
        refine (sameInts_any (rowF G2 rs.length) rs AF (some ⟨bR, oR, none⟩) rs.length rs.length cF cr _ _ w6 (rowF_length _ _) rfl f6 hfr r6 ((HR4.out.more (by omega : B ≤ B3)).below b6 (Nat.le_refl _)) hmm).mono ?_
        rintro e w7 ⟨rfl, d7⟩
        have b7 := b6.trans (d7.below _)
        have hz7 := b7.size
        have p1 := (HKp.out.below b7 (by omega)).cell 1
        simp only [List.getElem?_toArray, List.getElem?_cons_zero, List.getElem?_cons_succ] at p1
        have hb0 := HB4.out.trans (b7.mono (by omega))
        have HB0 := Lib.hid hb0
        clear hb0 oF bF b6 r6 f6 d7 b7
        obtain ⟨bb, hbb⟩ : ∃ bb, decide (rowF G2 rs.length = rs) = bb := ⟨_, rfl⟩
        rw [hbb]
        cases bb with
        | true =>
          have h0 := He.out.1 (of_decide_eq_true hbb)
          rw [h0] at p1
          simp only [List.length_nil] at p1
          clear hbb h0
          go_wp2_with fail
          refine (awake_any w7).mono ?_
          rintro e w8 ⟨rfl, hb8⟩
          have b8 := HB0.out.trans (hb8.mono (by omega))
          go_wp2_with fail
          go_ret
          exact ⟨rfl, b8⟩
        | false =>
          have h0 : a1.2 ≠ [] := fun hc => of_decide_eq_false hbb (He.out.2 hc)
          have hlp : 0 < a1.2.length := List.length_pos_iff.2 h0
          obtain ⟨L2, hL2⟩ : ∃ L2, a1.2.length = L2 := ⟨_, rfl⟩
          rw [hL2] at p1 hlp hm1
          have hz : ((L2 : Int) == 0) = false := by simp; omega
          clear hbb h0
          go_wp2_with fail
          refine (awake_any w7).mono ?_
          rintro e w8 ⟨rfl, hb8⟩
          have b8 := HB0.out.trans (hb8.mono (by omega))
          go_wp2_with fail
          go_ret
          exact ⟨rfl, b8⟩
  · have hne : (e1 != 0) = true := by simpa using h1
    clear ha1 he1 d0 d1
    go_wp2_with fail
    try rw [hW3]
    clear hW3
    refine (awake_any W3).mono ?_
    rintro e w6 ⟨rfl, hb6⟩
    have b6 := b3.trans (hb6.mono (by omega))
    go_wp2_with fail
    go_ret
    exact ⟨rfl, b6⟩
end Go.Proofs.Ytdogddngiolpoaa
