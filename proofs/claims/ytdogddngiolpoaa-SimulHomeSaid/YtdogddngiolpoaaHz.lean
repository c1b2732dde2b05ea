/-
  SimulHome.
-/
import Derived.Test.YtdogddngiolpoaaHb
import Derived.Test.YtdogddngiolpoaaAa
namespace Go.Proofs.Ytdogddngiolpoaa
open Go.RowKit

/-- memory while a period goes round: zr: where what came after the state begins -/
structure HoP (w0 : World) (B zr : Nat) (s : SM) (n : Nat) (ars : List ArcV) (AS : Option Addr) (cS : Nat) (AC : Option Addr) (cC : Nat) (rs : List Int) (G : Nat → Int) (w : World) : Prop where
  bel : Below B w0 w
  st : St w B s n ars G
  srow : w.ownsRow zr 3 1 (.slice AS ars.length cS) ars.length (cellsI (rowF (tokI ars fun _ => 0) ars.length))
  crow : w.ownsRow zr 3 1 (.slice AC n cC) n (cellsI rs)
  zgt : s.gt < zr
  zgf : s.gf < zr
  zle : zr ≤ w.heap.size
  ble : B ≤ w.heap.size
theorem HoP.below {w0 w w' : World} {B zr : Nat} {s : SM} {n : Nat} {ars : List ArcV} {AS : Option Addr} {cS : Nat} {AC : Option Addr} {cC : Nat} {rs : List Int} {G : Nat → Int} (h : HoP w0 B zr s n ars AS cS AC cC rs G w) (hb : Below w.heap.size w w') : HoP w0 B zr s n ars AS cS AC cC rs G w' := by
  have := hb.size
  have := h.zle
  have := h.ble
  exact ⟨h.bel.trans ⟨hb.os, hb.tape, hb.output, hb.size, fun k hk => hb.block k (by omega)⟩, h.st.below hb, own_below h.srow hb, own_below h.crow hb, h.zgt, h.zgf, by omega, by omega⟩
theorem HoP.fire {w0 w w' : World} {B zr : Nat} {s : SM} {n : Nat} {ars : List ArcV} {AS : Option Addr} {cS : Nat} {AC : Option Addr} {cC : Nat} {rs : List Int} {G G' : Nat → Int} (h : HoP w0 B zr s n ars AS cS AC cC rs G w) (ho : Only (fun k => k = s.gt ∨ k = s.gf) w w') (hs : St w' B s n ars G') : HoP w0 B zr s n ars AS cS AC cC rs G' w' := by
  have h1 := (h.st.tok.lt s.gt rfl).1
  have h2 := (h.st.fir.lt s.gf rfl).1
  have := ho.size
  have := h.zle
  have := h.ble
  have h3 := h.zgt
  have h4 := h.zgf
  refine ⟨h.bel.trans ⟨ho.os, ho.tape, ho.output, ho.size, fun k hk => ho.block k (by omega) (by omega)⟩, hs, own_only h.srow ho fun b hb hx => ?_, own_only h.crow ho fun b hb hx => ?_, h.zgt, h.zgf, by omega, by omega⟩
  · have := own_ge h.srow hb
    rcases hx with hx | hx <;> omega
  · have := own_ge h.crow hb
    rcases hx with hx | hx <;> omega
theorem sh_zero (rs : List Int) : shF rs 0 (fun _ => 0) = fun _ => 0 := by
  funext v
  simp [shF]
def sAddr : Value → Option Addr
  | .slice a _ _ => a
  | _ => none
def sCap : Value → Nat
  | .slice _ _ c => c
  | _ => 0
structure HoI (w0 : World) (B zr : Nat) (s : SM) (n : Nat) (ars : List ArcV) (AS : Option Addr) (cS : Nat) (AC : Option Addr) (cC : Nat) (rs : List Int) (G G1 : Nat → Int) (gp bl ol al cl : Nat) (L : Nat → Bool) (V : Nat → Value) (w : World) : Prop where
  bel : Below B w0 w
  p0 : L 3 = false → HoP w0 B zr s n ars AS cS AC cC rs G w
  p1 : L 3 = true → HoP w0 B zr s n ars AS cS AC cC rs G1 w
  e3 : L 3 = true → V 131 = .int .i64 (al : Nat)
  e8b : L 8 = true → L 3 = true
  c : L 10 = true → V 138 = .slice (sAddr (V 138)) ars.length (sCap (V 138)) ∧ Rd w w.heap.size (sAddr (V 138)) (cellsI (rowF (tokI ars fun _ => 0) ars.length))
  e12 : L 12 = true → V 140 = .bool true
  e0 : L 0 = true → V 128 = .pointer (some ⟨s.gs, 0, none⟩)
  e1 : L 1 = true → V 129 = .pointer (some ⟨gp, 0, none⟩)
  e2 : L 2 = true → V 130 = .slice (some ⟨bl, ol, none⟩) al cl
  e4 : L 4 = true → V 132 = .pointer (some ⟨gp, 0, none⟩)
  e5 : L 5 = true → V 133 = .slice (some ⟨bl, ol, none⟩) al cl
  e6 : L 6 = true → V 134 = .int .i64 (al : Nat)
  e7 : L 7 = true → V 135 = .bool false
  e8 : L 8 = true → V 136 = .bool false
  e9 : L 9 = true → V 137 = .pointer (some ⟨s.gs, 0, none⟩)
  e11 : L 11 = true → V 139 = .slice AS ars.length cS
  e13 : L 13 = true → V 141 = .bool false
  e14 : L 14 = true → V 142 = .bool false
set_option maxRecDepth 100000 in
set_option maxHeartbeats 4000000 in
theorem homeLaw_any (n : Int) (ars : List ArcV) (A : Option Addr) (l c : Nat) (rs : List Int) (R : Option Addr) (m cr : Nat) (ps : List Int) (Q : Option Addr) (q cq : Nat) (w : World) (hl : ars.length = l) (hx : ∀ a ∈ ars, a.fit) (hr : Rd w w.heap.size A (cellsA ars)) (hm : l ≤ maxLen)
    (hrs : rs.length = m) (hlcr : m ≤ cr) (hfr : AllFit rs) (hrr : Rd w w.heap.size R (cellsI rs)) (hzr : cr * 8 ≤ 140737488351232) (hps : ps.length = q) (hlcq : q ≤ cq) (hfp : AllFit ps) (hrp : Rd w w.heap.size Q (cellsI ps)) (hzq : cq * 8 ≤ 140737488351232) :
    Calls Try.prog 8 #[.agg #[.int .i64 n, .slice A l c], .slice R m cr, .slice Q q cq] w fun e w' => e = .returned (.bool true) ∧ Below w.heap.size w w' := by
  subst hl hrs hps
  obtain ⟨B, hB⟩ : ∃ B, w.heap.size = B := ⟨_, rfl⟩
  rw [hB] at hr hrr hrp ⊢
  have hmm : rs.length ≤ maxLen := by unfold maxLen; omega
  have b1 := (Below.refl B w).alloc (by omega) (.cells #[.int .i64 n, .slice A ars.length c] 24)
  have k1 := Blk.new w B hB.symm 24 #[.int .i64 n, .slice A ars.length c]
  have hz1 : (w.alloc (.cells #[.int .i64 n, .slice A ars.length c] 24)).heap.size = B + 1 := by simp; omega
  obtain ⟨a1, ha1⟩ : ∃ a, ansF (pickS ars n.toNat rs ps) n ars rs ps = a := ⟨_, rfl⟩
  obtain ⟨e1, he1⟩ : ∃ a, wrongF n ars rs ps = a := ⟨_, rfl⟩
  have hm1 := ans_len (n := n) (ars := ars) (rs := rs) (ps := ps) (pickS ars n.toNat rs ps)
  rw [ha1] at hm1
  go_enter Try.func8, Try.ntmps8
  go_wp2_with fail
  generalize w.alloc (.cells #[.int .i64 n, .slice A ars.length c] 24) = W1 at *
  refine (simRun_any n ars A ars.length c rs R rs.length cr ps Q ps.length cq W1 rfl hx ((hr.below b1 (Nat.le_refl _)).more (by omega)) hm rfl hfr ((hrr.below b1 (Nat.le_refl _)).more (by omega)) hmm rfl hfp ((hrp.below b1 (Nat.le_refl _)).more (by omega)) (by omega)).mono ?_
  rintro e w2 ⟨lv, sv, rfl, ol, os, hb2⟩
  rw [ha1] at ol os
  rw [he1]
  obtain ⟨Al, cl, rfl, _⟩ := own_slice ol
  obtain ⟨As, cs, rfl, _⟩ := own_slice os
  have hz2 := hb2.size
  have b2 := b1.trans (hb2.mono (by omega))
  have k2 := k1.below hb2 (by omega)
  have rl2 := rd_of_own ol
  have rs2 := rd_of_own os
  clear ol os b1 k1 hb2
  have ba := (Below.refl w2.heap.size w2).alloc (Nat.le_refl _) (.cells #[.slice Al a1.1.length cl, .slice As a1.2.length cs] 29)
  have kp := Blk.new w2 _ rfl 29 #[.slice Al a1.1.length cl, .slice As a1.2.length cs]
  have b3 := b2.alloc (by omega) (.cells #[.slice Al a1.1.length cl, .slice As a1.2.length cs] 29)
  have k3 := k2.below ba k2.lt
  have rl3 := rl2.below ba (Nat.le_refl _)
  have rs3 := rs2.below ba (Nat.le_refl _)
  have hz3 : (w2.alloc (.cells #[.slice Al a1.1.length cl, .slice As a1.2.length cs] 29)).heap.size = w2.heap.size + 1 := by simp
  have d0 := k3.cell 0
  have d1 := k3.cell 1
  have p0 := kp.cell 0
  have p1 := kp.cell 1
  simp only [List.getElem?_toArray, List.getElem?_cons_zero, List.getElem?_cons_succ] at d0 d1 p0 p1
  have hr3 := hr.below b3 (Nat.le_refl _)
  have hrr3 := hrr.below b3 (Nat.le_refl _)
  clear b2 k2 ba rl2 rs2
  obtain ⟨W3, hW3⟩ : ∃ W3, w2.alloc (.cells #[.slice Al a1.1.length cl, .slice As a1.2.length cs] 29) = W3 := ⟨_, rfl⟩
  rw [hW3] at kp b3 k3 hz3 d0 d1 p0 p1 hr3 hrr3 rl3 rs3
  by_cases h1 : e1 = 0
  · subst h1
    obtain ⟨nn, rfl, hck, hN, hlen, hall, heven, hsum, hno⟩ := wrongF_parts he1
    obtain rfl := hlen
    have n32 := hN.n32
    have l96 := hN.l96
    have hpos := hN.pos
    obtain ⟨bR, oR, x0, rfl, hbR, -, -, -, -⟩ := hrr.at_ hfr (k := 0) hpos
    have hnn : ((rs.length : Int) != (rs.length : Int)) = false := by simp
    by_cases h2 : a1.2 = []
    · have hhome := home_list he1 (by rw [ha1]; exact h2)
      rw [ha1] at hhome
      obtain ⟨hfire, hcnt, hnod, hlp, hlm⟩ := hhome
      have h2l : a1.2.length = 0 := by rw [h2]; rfl
      obtain ⟨xs, hxs⟩ : ∃ xs, a1.1 = xs := ⟨_, rfl⟩
      obtain ⟨al, hal⟩ : ∃ al, xs.length = al := ⟨_, rfl⟩
      simp only [hxs, hal, h2l] at hfire hcnt hnod hlp hlm kp rl3 p0 p1 hW3
      have hz : ((al : Int) == 0) = false := beq_eq_false_iff_ne.2 (by omega)
      have Hcnt := Lib.hid hcnt
      have Hnod := Lib.hid hnod
      have Hfire := Lib.hid hfire
      have HN := Lib.hid hN
      have Hck := Lib.hid hck
      have Hal := Lib.hid hal
      have Hall := Lib.hid hall
      have Heven := Lib.hid heven
      simp only [hxs, hal, h2l]
      clear he1 ha1 heven hck hN hall hcnt hnod hfire hal hxs h2 h2l hm1
      obtain ⟨bl, ol, x1, rfl, hbl0, -, -, -, -⟩ := rl3.at_ (fit_nodes n32 Hnod.out) (k := 0) (by have := Hal.out; omega)
      go_wp2_with fail
      try rw [hW3]
      refine (new_any rs.length A c ars W3 Hck.out HN.out (hr3.more (by omega))).mono ?_
      rintro e w4 ⟨s, rfl, hS4, hb4, hgs⟩
      have hz4 := hb4.size
      have b4 := b3.trans (hb4.mono (by omega))
      have kp4 := kp.below hb4 (by omega)
      have k4 := k3.below hb4 (by omega)
      have rl4 := rl3.below hb4 (by omega)
      have hrr4 := hrr3.below hb4 (by omega)
      obtain ⟨B3, hB3⟩ : ∃ B3, W3.heap.size = B3 := ⟨_, rfl⟩
      rw [hB3] at hS4 hb4 hz4 hz3 hgs
      obtain ⟨gp, hgp⟩ : ∃ gp, w2.heap.size = gp := ⟨_, rfl⟩
      rw [hgp] at kp4 hz3 rl4 hbl0
      have hpb : gp < B3 := by omega
      have p0 := kp4.cell 0
      have p1 := kp4.cell 1
      have d0 := k4.cell 0
      simp only [List.getElem?_toArray, List.getElem?_cons_zero, List.getElem?_cons_succ] at d0 p0 p1
      have hgt4 := (hS4.tok.lt s.gt rfl).2
      have hgf4 := (hS4.fir.lt s.gf rfl).2
      have HB4 := Lib.hid b4
      have HKp := Lib.hid kp4
      have HR4 := Lib.hid hrr4
      have HS4 := Lib.hid hS4
      have HRl : Hid (Rd w4 B3 (some ⟨bl, ol, none⟩) (cellsI xs)) := rl4.more (by omega)
      clear b3 k3 hr3 hrr3 kp hb4 hW3 rl3 rs3 b4 kp4 k4 rl4 hrr4 hS4
      go_wp2_with fail
      try rw [hgp]
      refine (tally_any rs.length xs (some ⟨bl, ol, none⟩) al cl w4 n32 Hal.out (fit_nodes n32 Hnod.out) (HRl.out.more (by omega)) (by omega)).mono ?_
      rintro e w5 ⟨gt1, rfl, hg1, ot1, hb5⟩
      rw [goodP_all Hnod.out, Hcnt.out] at ot1
      rw [Hnod.out]
      have hz5 := hb5.size
      have S5 := HS4.out.below hb5
      have b5 := hb5
      clear d0 p0 p1
      go_wp2_with fail
      refine (counts_any rs.length ars (fun _ => 0) B3 s w5 HN.out S5).mono ?_
      rintro e w6 ⟨AS, cS, rfl, oS, bS⟩
      have hz6 := bS.size
      obtain ⟨zr, hzr⟩ : ∃ z, w4.heap.size = z := ⟨_, rfl⟩
      rw [hzr] at hz4 hz5 hgt4 hgf4 hb5 ot1 b5
      have P6 : HoP w4 B3 zr s rs.length ars AS cS (some ⟨gt1, 0, none⟩) rs.length rs (fun _ => 0) w6 := ⟨(b5.mono hz4).trans (bS.mono (by omega)), S5.below bS, World.ownsRow.mono oS hz5, own_below ot1 bS, hgt4, hgf4, by omega, by omega⟩
      have hft : AllFit (rowF (tokI ars fun _ => 0) ars.length) := fun x hx => by
        obtain ⟨i, hi, rfl⟩ := List.mem_map.1 hx
        have hi := List.mem_range.1 hi
        have := (HN.out.ok _ (arcAt_mem hi)).2.2.2.2.2.2.2.2
        unfold tokI tokA fits
        rw [Int.mul_zero, Int.mul_zero]
        omega
      have Hft := Lib.hid hft
      have Hxl := Lib.hid Hal.out
      have Hfx := Lib.hid (fit_nodes n32 Hnod.out)
      have HP6 := Lib.hid P6
      clear ot1 hb5 b5 S5 oS bS P6 hft hg1
      go_wp2_with fail
      go_loopw [16] (fun i wr => ∃ p : Nat, p ≤ 3 ∧ i = .int .i64 p ∧ HoP w4 B3 zr s rs.length ars AS cS (some ⟨gt1, 0, none⟩) rs.length rs (shF rs p fun _ => 0) wr) (fun i _ => 3 - (intOf i).toNat)
      case atStart => exact ⟨0, by omega, rfl, by rw [sh_zero]; exact HP6.out⟩
      case round =>
        clear HP6
        obtain ⟨p, hp, rfl, P⟩ := hrel
        by_cases hp3 : p < 3
        · have h3 : (p : Int) < 3 := by omega
          obtain ⟨f1, f2⟩ := Hfire.out p
          have hT : rowF (tokI ars (shF rs (p + 1) fun _ => 0)) ars.length = rowF (tokI ars fun _ => 0) ars.length := List.map_congr_left fun i hi => tok_shift HN.out Heven.out (p + 1) _ (List.mem_range.1 hi)
          have hG : ∀ j, j < rs.length → 0 ≤ shF rs p (fun _ => 0) j ∧ shF rs p (fun _ => 0) j + (al : Nat) ≤ 1000000 := fun j hj => by
            have hR := repAt_lt Hall.out hj
            show 0 ≤ (p : Int) * repAt rs j + 0 ∧ (p : Int) * repAt rs j + 0 + (al : Nat) ≤ 1000000
            rcases (show p = 0 ∨ p = 1 ∨ p = 2 by omega) with rfl | rfl | rfl <;> omega
          obtain ⟨G1, hg1⟩ : ∃ G1, shF rs (p + 1) (fun _ => 0) = G1 := ⟨_, rfl⟩
          rw [hg1] at f2 hT
          have Hg1 := Lib.hid hg1
          clear hg1
          generalize shF rs p (fun _ => 0) = G at P f1 f2 hG
          have HFN := Lib.hid f1
          have HFF := Lib.hid f2
          have HT := Lib.hid hT
          have HG := Lib.hid hG
          have HP := Lib.hid P
          clear f1 f2 hT hG P
          go_wp2_with fail
          have hI0 : ∀ V, HoI w4 B3 zr s rs.length ars AS cS (some ⟨gt1, 0, none⟩) rs.length rs G G1 gp bl ol al cl (fun _ => false) V wr.drew := fun V => by
            have h0 := HP.out.below (Drawn.below _ ((Drawn.refl wr).drewN 1))
            constructor
            all_goals first
              | exact h0.bel
              | exact fun _ => h0
              | (intro h; cases h)
          refine wp_region_put3 [128, 129, 130, 131, 132, 133, 134, 135, 136, 137, 138, 139, 140, 141, 142] (HoI w4 B3 zr s rs.length ars AS cS (some ⟨gt1, 0, none⟩) rs.length rs G G1 gp bl ol al cl) (by kernel_rfl) (by kernel_rfl) ?_ ?_ ?_
          · exact hI0 _
          · intro i o ho L V w1 hi hL hno h K hK
            rcases i with _ | _ | _ | _ | _ | _ | _ | _ | _ | _ | _ | _ | _ | _ | _ | i
            · replace ho := Option.some.inj ho
              subst ho
              simp only [putAll, List.foldl_cons, List.foldl_nil, List.setIfInBounds_toArray, List.set_cons_zero, List.set_cons_succ]
              clear hL hno
              go_simp
              refine hK (updV V 128 (.pointer (some ⟨s.gs, 0, none⟩))) _ _ (by simp [putAll, updV]) ?_
              exact { h with e0 := fun _ => rfl }
            · replace ho := Option.some.inj ho
              subst ho
              simp only [putAll, List.foldl_cons, List.foldl_nil, List.setIfInBounds_toArray, List.set_cons_zero, List.set_cons_succ]
              clear hL hno
              go_simp
              refine hK (updV V 129 (.pointer (some ⟨gp, 0, none⟩))) _ _ (by simp [putAll, updV]) ?_
              exact { h with e1 := fun _ => rfl }
            · replace ho := Option.some.inj ho
              subst ho
              simp only [putAll, List.foldl_cons, List.foldl_nil, List.setIfInBounds_toArray, List.set_cons_zero, List.set_cons_succ]
              have e1 : V 129 = _ := h.e1 (hL ⟨1, .data⟩ (by simp) rfl)
              have hbl := h.bel
              have ct := (HKp.out.below hbl hpb).cell 0
              simp only [List.getElem?_toArray, List.getElem?_cons_zero] at ct
              clear hL hno
              go_simp
              refine hK (updV V 130 (.slice (some ⟨bl, ol, none⟩) al cl)) _ _ (by simp [putAll, updV, e1]) ?_
              exact { h with e2 := fun _ => rfl }
            · replace ho := Option.some.inj ho
              subst ho
              have e0 : V 128 = _ := h.e0 (hL ⟨0, .data⟩ (by simp) rfl)
              have e2 : V 130 = _ := h.e2 (hL ⟨2, .data⟩ (by simp) rfl)
              have P := h.p0 hi
              have l10 : L 10 = false := hno 10 (by kernel_rfl)
              have l8 : L 8 = false := hno 8 (by kernel_rfl)
              clear hL hno
              simp only [putAll, List.foldl_cons, List.foldl_nil, List.setIfInBounds_toArray, List.set_cons_zero, List.set_cons_succ]
              have hrl := HRl.out.below P.bel (Nat.le_refl _)
              have q1 := (P.st.tok.lt s.gt rfl).1
              have q2 := (P.st.fir.lt s.gf rfl).1
              have q3 := P.ble
              go_simp
              refine (fire_any xs (some ⟨bl, ol, none⟩) al cl rs.length ars G B3 s w1 Hxl.out Hfx.out (hrl.more q3) (by simp only [blkOf]; intro hc; injection hc with hc; omega) (by simp only [blkOf]; intro hc; injection hc with hc; omega) HN.out HG.out P.st).mono ?_
              rintro e w3 ⟨rfl, hS, hO⟩
              rw [HFN.out]
              rw [HFF.out] at hS
              have P2 := P.fire hO hS
              refine hK (updV V 131 (.int .i64 (al : Nat))) _ _ (by simp [putAll, updV, e0, e2]) ?_
              exact { h with
                bel := P2.bel
                p0 := fun hn => (by cases hn)
                p1 := fun _ => P2
                e3 := fun _ => rfl
                e8b := fun hn => (by cases (hn.symm.trans l8))
                c := fun hn => (by cases (hn.symm.trans l10)) }
            · replace ho := Option.some.inj ho
              subst ho
              simp only [putAll, List.foldl_cons, List.foldl_nil, List.setIfInBounds_toArray, List.set_cons_zero, List.set_cons_succ]
              clear hL hno
              go_simp
              refine hK (updV V 132 (.pointer (some ⟨gp, 0, none⟩))) _ _ (by simp [putAll, updV]) ?_
              exact { h with e4 := fun _ => rfl }
            · replace ho := Option.some.inj ho
              subst ho
              simp only [putAll, List.foldl_cons, List.foldl_nil, List.setIfInBounds_toArray, List.set_cons_zero, List.set_cons_succ]
              have e4 : V 132 = _ := h.e4 (hL ⟨4, .data⟩ (by simp) rfl)
              have hbl := h.bel
              have ct := (HKp.out.below hbl hpb).cell 0
              simp only [List.getElem?_toArray, List.getElem?_cons_zero] at ct
              clear hL hno
              go_simp
              refine hK (updV V 133 (.slice (some ⟨bl, ol, none⟩) al cl)) _ _ (by simp [putAll, updV, e4]) ?_
              exact { h with e5 := fun _ => rfl }
            · replace ho := Option.some.inj ho
              subst ho
              simp only [putAll, List.foldl_cons, List.foldl_nil, List.setIfInBounds_toArray, List.set_cons_zero, List.set_cons_succ]
              have e5 : V 133 = _ := h.e5 (hL ⟨5, .data⟩ (by simp) rfl)
              clear hL hno
              go_simp
              refine hK (updV V 134 (.int .i64 (al : Nat))) _ _ (by simp [putAll, updV, e5]) ?_
              exact { h with e6 := fun _ => rfl }
            · replace ho := Option.some.inj ho
              subst ho
              simp only [putAll, List.foldl_cons, List.foldl_nil, List.setIfInBounds_toArray, List.set_cons_zero, List.set_cons_succ]
              have e3 : V 131 = _ := h.e3 (hL ⟨3, .data⟩ (by simp) rfl)
              have e6 : V 134 = _ := h.e6 (hL ⟨6, .data⟩ (by simp) rfl)
              clear hL hno
              go_simp
              refine hK (updV V 135 (.bool false)) _ _ (by simp [putAll, updV, e3, e6]) ?_
              exact { h with e7 := fun _ => rfl }
            · replace ho := Option.some.inj ho
              subst ho
              simp only [putAll, List.foldl_cons, List.foldl_nil, List.setIfInBounds_toArray, List.set_cons_zero, List.set_cons_succ]
              have e7 : V 135 = _ := h.e7 (hL ⟨7, .data⟩ (by simp) rfl)
              have l3 : L 3 = true := hL ⟨3, .chain⟩ (by simp) rfl
              clear hL hno
              go_simp
              refine hK (updV V 136 (.bool false)) _ _ (by simp [putAll, updV, e7]) ?_
              exact { h with e8 := fun _ => rfl, e8b := fun _ => l3 }
            · replace ho := Option.some.inj ho
              subst ho
              simp only [putAll, List.foldl_cons, List.foldl_nil, List.setIfInBounds_toArray, List.set_cons_zero, List.set_cons_succ]
              have e8 : V 136 = _ := h.e8 (hL ⟨8, .guard⟩ (by simp) rfl)
              clear hL hno
              go_simp
              refine hK (updV V 137 (.pointer (some ⟨s.gs, 0, none⟩))) _ _ (by simp [putAll, updV, e8]) ?_
              exact { h with e9 := fun _ => rfl }
            · replace ho := Option.some.inj ho
              subst ho
              have e8 : V 136 = _ := h.e8 (hL ⟨8, .guard⟩ (by simp) rfl)
              have e9 : V 137 = _ := h.e9 (hL ⟨9, .data⟩ (by simp) rfl)
              have l3 : L 3 = true := h.e8b (hL ⟨8, .guard⟩ (by simp) rfl)
              have P := h.p1 l3
              clear hL hno
              simp only [putAll, List.foldl_cons, List.foldl_nil, List.setIfInBounds_toArray, List.set_cons_zero, List.set_cons_succ]
              go_simp
              refine (counts_any rs.length ars G1 B3 s w1 HN.out P.st).mono ?_
              rintro e w3 ⟨A3, c3, rfl, o3, b3⟩
              rw [HT.out] at o3
              have P2 := P.below b3
              refine hK (updV V 138 (.slice A3 ars.length c3)) _ _ (by simp [putAll, updV, e8, e9]) ?_
              exact { h with
                bel := P2.bel
                p0 := fun hn => (by cases (hn.symm.trans l3))
                p1 := fun _ => P2
                c := fun _ => ⟨rfl, rd_of_own o3⟩ }
            · replace ho := Option.some.inj ho
              subst ho
              simp only [putAll, List.foldl_cons, List.foldl_nil, List.setIfInBounds_toArray, List.set_cons_zero, List.set_cons_succ]
              have e8 : V 136 = _ := h.e8 (hL ⟨8, .guard⟩ (by simp) rfl)
              clear hL hno
              go_simp
              refine hK (updV V 139 (.slice AS ars.length cS)) _ _ (by simp [putAll, updV, e8]) ?_
              exact { h with e11 := fun _ => rfl }
            · replace ho := Option.some.inj ho
              subst ho
              have e8 : V 136 = _ := h.e8 (hL ⟨8, .guard⟩ (by simp) rfl)
              have e11 : V 139 = _ := h.e11 (hL ⟨11, .data⟩ (by simp) rfl)
              have l3 : L 3 = true := h.e8b (hL ⟨8, .guard⟩ (by simp) rfl)
              have P := h.p1 l3
              have hc := h.c (hL ⟨10, .data⟩ (by simp) rfl)
              have Hc := Lib.hid hc
              generalize sAddr (V 138) = A3 at hc
              generalize sCap (V 138) = c3 at hc
              have e10 : V 138 = _ := hc.1
              have hcr := hc.2
              clear hL hno hc
              simp only [putAll, List.foldl_cons, List.foldl_nil, List.setIfInBounds_toArray, List.set_cons_zero, List.set_cons_succ]
              go_simp
              refine (sameInts_yes (rowF (tokI ars fun _ => 0) ars.length) A3 AS ars.length c3 cS _ _ w1 (rowF_length _ _) Hft.out hcr (rd_of_own P.srow) (by unfold maxLen; omega)).mono ?_
              rintro e w3 ⟨rfl, d3⟩
              have P2 := P.below (d3.below _)
              refine hK (updV V 140 (.bool true)) _ _ (by simp [putAll, updV, e8, e11, e10]) ?_
              exact { h with
                bel := P2.bel
                p0 := fun hn => (by cases (hn.symm.trans l3))
                p1 := fun _ => P2
                c := fun _ => ⟨Hc.out.1, (d3.rd Hc.out.2).more (d3.below 0).size⟩
                e12 := fun _ => rfl }
            · replace ho := Option.some.inj ho
              subst ho
              simp only [putAll, List.foldl_cons, List.foldl_nil, List.setIfInBounds_toArray, List.set_cons_zero, List.set_cons_succ]
              have e8 : V 136 = _ := h.e8 (hL ⟨8, .guard⟩ (by simp) rfl)
              have e12 : V 140 = _ := h.e12 (hL ⟨12, .data⟩ (by simp) rfl)
              clear hL hno
              go_simp
              refine hK (updV V 141 (.bool false)) _ _ (by simp [putAll, updV, e8, e12]) ?_
              exact { h with e13 := fun _ => rfl }
            · replace ho := Option.some.inj ho
              subst ho
              simp only [putAll, List.foldl_cons, List.foldl_nil, List.setIfInBounds_toArray, List.set_cons_zero, List.set_cons_succ]
              have e8 : V 136 = _ := h.e8 (hL ⟨8, .data⟩ (by simp) rfl)
              have e13 : V 141 = _ := h.e13 (hL ⟨13, .data⟩ (by simp) rfl)
              clear hL hno
              go_simp
              refine hK (updV V 142 (.bool false)) _ _ (by simp [putAll, updV, e8, e13]) ?_
              exact { h with e14 := fun _ => rfl }
            · simp at ho
          · clear hI0
            intro L V w6 hL h
            have hP6 := h.p1 (hL 3 (by simp))
            have e14 := h.e14 (hL 14 (by simp))
            simp only [putAll, List.foldl_cons, List.foldl_nil, List.setIfInBounds_toArray, List.set_cons_zero, List.set_cons_succ, e14]
            clear h hL HP
            have hP7 := Lib.hid hP6
            clear hP6
            go_wp2_with fail
            refine ⟨⟨p + 1, by omega, by go_num, by rw [Hg1.out]; exact hP7.out⟩, by simp [intOf]; omega⟩
        · obtain rfl : p = 3 := by omega
          have HP := Lib.hid P
          clear P
          go_wp2_with fail
          refine (sameInts_yes rs (some ⟨gt1, 0, none⟩) (some ⟨bR, oR, none⟩) rs.length rs.length cr _ _ wr rfl hfr (rd_of_own HP.out.crow) ((HR4.out.more (by omega : B ≤ B3)).below HP.out.bel (Nat.le_refl _)) hmm).mono ?_
          rintro e w7 ⟨rfl, d7⟩
          have b7 := (HP.out.bel).trans (d7.below _)
          have hz7 := b7.size
          have HB7 := Lib.hid b7
          clear d7 b7
          go_wp2_with fail
          refine (awake_any w7).mono ?_
          rintro e w8 ⟨rfl, hb8⟩
          have b8 := (HB4.out.trans (HB7.out.mono (by omega))).trans (hb8.mono (by omega))
          go_wp2_with fail
          go_ret
          exact ⟨rfl, b8⟩
    · have hhome := home_blocks he1 (by rw [ha1]; exact h2)
      rw [ha1] at hhome
      obtain ⟨F, vs, hFv, hV, hlt⟩ := hhome
      subst hFv
      obtain ⟨m1, hvl⟩ : ∃ m, vs.length = m := ⟨_, rfl⟩
      have h2l : (vs.map (blkN ars F)).length = m1 := by rw [List.length_map]; exact hvl
      have h1l : ([] : List Int).length = 0 := rfl
      have hmp : 0 < m1 := hvl ▸ hV.ne
      simp only [h2l, h1l] at kp rs3 p0 p1 hW3 hm1 ⊢
      have hz : ((m1 : Int) == 0) = false := beq_eq_false_iff_ne.2 (by omega)
      have hmn : m1 ≤ rs.length := by omega
      have hmi : (0 : Int) < (m1 : Int) := by omega
      have HN := Lib.hid hN
      have Hck := Lib.hid hck
      have Hall := Lib.hid hall
      have HV := Lib.hid hV
      have Hlt := Lib.hid hlt
      have Hvl := Lib.hid hvl
      clear he1 ha1 heven hck hN hall h2 h2l h1l hm1 hV hlt hvl
      go_wp2_with fail
      try rw [hW3]
      refine (new_any rs.length A c ars W3 Hck.out HN.out (hr3.more (by omega))).mono ?_
      rintro e w4 ⟨s, rfl, hS4, hb4, hgs⟩
      have hz4 := hb4.size
      have b4 := b3.trans (hb4.mono (by omega))
      have kp4 := kp.below hb4 (by omega)
      have k4 := k3.below hb4 (by omega)
      have rs4 := rs3.below hb4 (by omega)
      have hrr4 := hrr3.below hb4 (by omega)
      have hr4 := hr3.below hb4 (by omega)
      obtain ⟨gp, hgp⟩ : ∃ gp, w2.heap.size = gp := ⟨_, rfl⟩
      rw [hgp] at kp4 hz3 rs4
      have p0 := kp4.cell 0
      have p1 := kp4.cell 1
      have d0 := k4.cell 0
      have d1 := k4.cell 1
      simp only [List.getElem?_toArray, List.getElem?_cons_zero, List.getElem?_cons_succ] at d0 d1 p0 p1
      have HB4 := Lib.hid b4
      have HR4 := Lib.hid hrr4
      have HA4 := Lib.hid hr4
      have HS4 := Lib.hid rs4
      clear b3 k3 hr3 hrr3 kp hb4 hW3 rl3 rs3 b4 hrr4 hS4 hr4 rs4
      go_wp2_with fail
      try rw [hgp]
      have HKp := Lib.hid kp4
      have HK4 := Lib.hid k4
      clear kp4 k4 p0 p1 d0 d1
      go_loopw [11] (fun i wr => ∃ k : Nat, k ≤ m1 ∧ i = .int .i64 k ∧ Drawn w4 wr) (fun i _ => m1 - (intOf i).toNat)
      case atStart => exact ⟨0, by omega, rfl, Drawn.refl _⟩
      case round =>
        obtain ⟨k, hk, rfl, hdw⟩ := hrel
        have hbw := hdw.below w4.heap.size
        have kp := HKp.out.below hbw HKp.out.lt
        have kn := HK4.out.below hbw HK4.out.lt
        have p1 := kp.cell 1
        have d0 := kn.cell 0
        simp only [List.getElem?_toArray, List.getElem?_cons_zero, List.getElem?_cons_succ] at d0 p1
        by_cases hlt : k < m1
        · have hkv : k < vs.length := by rw [Hvl.out]; exact hlt
          obtain ⟨v, hv⟩ : ∃ v, vs[k]? = some v := ⟨_, List.getElem?_eq_getElem hkv⟩
          have hvm := List.mem_of_getElem? hv
          obtain ⟨sb, so, x, rfl, c0, c1, -, hxx⟩ := (hdw.rd HS4.out).blkAt (k := k) (by rw [List.length_map]; exact hkv)
          obtain rfl : x = blkN ars F v := by have h := hxx.out; rw [List.getElem?_map, hv] at h; exact (Option.some.inj h).symm
          simp only [blkN] at c0 c1
          have hvn := HV.out.lt v hvm
          have hvr := Hlt.out v hvm
          have hcr := rd_repAt (hdw.rd HR4.out) hvn
          have hd1 : decide (repAt rs v ≤ F v) = false := decide_eq_false (by omega)
          have hd2 : decide (rs.length ≤ v) = false := decide_eq_false (by omega)
          have h1 : (0 : Int) ≤ (k : Int) := by omega
          have h2 : (k : Int) < (m1 : Int) := by omega
          have h3 : (0 : Int) ≤ (v : Int) := by omega
          have h4 : (v : Int) < (rs.length : Int) := by omega
          have Hdw := Lib.hid hdw
          clear hdw hbw kp kn hxx hvr
          go_wp2_with fail
          go_quiet (fail)
          go_wp2_with fail
          go_roundw
          case rel => exact ⟨k + 1, by omega, by go_num, Hdw.out.drewN _⟩
          case measure => simp [intOf]; omega
        · obtain rfl : k = m1 := by omega
          have d1 := kn.cell 1
          simp only [List.getElem?_toArray, List.getElem?_cons_zero, List.getElem?_cons_succ] at d1
          have Hdw := Lib.hid hdw
          have hsz := hbw.size
          clear hdw hbw kp kn
          go_wp2_with fail
          refine (confirm_yes rs.length ars A c F vs As k cs wr Hvl.out Hck.out HN.out ((Hdw.out.rd HA4.out).more (by omega)) ((Hdw.out.rd HS4.out).more (by omega)) HV.out).mono ?_
          rintro e w5 ⟨rfl, hb5⟩
          have hz5 := hb5.size
          have b5 := (HB4.out.trans (Hdw.out.below B)).trans (hb5.mono (by omega))
          have HB5 := Lib.hid b5
          clear b5 hb5 d0 d1 p1
          go_wp2_with fail
          refine (awake_any w5).mono ?_
          rintro e w8 ⟨rfl, hb8⟩
          have b8 := HB5.out.trans (hb8.mono (by omega))
          go_wp2_with fail
          go_ret
          exact ⟨rfl, b8⟩
  · have hne : (e1 != 0) = true := by simpa using h1
    have ha2 : a1 = ([], []) := by
      rw [← ha1]
      unfold ansF
      rw [if_neg (by rw [he1]; exact h1)]
    subst ha2
    simp only [List.length_nil] at p0 p1 hW3 ⊢
    clear ha1 he1 d0 d1
    go_wp2_with fail
    try rw [hW3]
    clear hW3
    refine (awake_any W3).mono ?_
    rintro e w6 ⟨rfl, hb6⟩
    have b6 := b3.trans (hb6.mono (by omega))
    go_wp2_with fail
    go_ret
    exact ⟨rfl, b6⟩
end Go.Proofs.Ytdogddngiolpoaa
