/-
  balance.Solve.
-/
import Derived.Test.YtdogddngiolpoaaDoorM7
namespace Go.Proofs.YtdogddngiolpoaaDoor
open Go.RowKit

/-- what Solve answers, with what it owns -/
def SolOut (n : Int) (ars : List ArcV) (w : World) (e : Ending) (w' : World) : Prop :=
  ∃ vd reps cyc k Ar cr Ac cc, e = .returned (.tuple #[.agg #[.int .u8 vd, .slice Ar reps.length cr, .slice Ac cyc.length cc], .int .i64 k]) ∧ SolA n ars vd reps cyc k ∧ (reps = [] → Ar = none ∧ cr = 0) ∧ (cyc = [] → Ac = none ∧ cc = 0) ∧
    w'.ownsRow w.heap.size 3 1 (.slice Ar reps.length cr) reps.length (cellsI reps) ∧ w'.ownsRow w.heap.size 57 2 (.slice Ac cyc.length cc) cyc.length (cellsS cyc) ∧ Below w.heap.size w w'
theorem rd_blk {w : World} {B : Nat} {A : Option Addr} {cs : List Value} (h : Rd w B A cs) (hne : cs ≠ []) : ∀ b, blkOf A = some b → b < B := by
  intro b hb
  rcases h with h | ⟨b', off, rfl, hlt, -⟩
  · exact absurd h hne
  · injection hb with hb
    subst hb
    exact hlt

theorem But.rdB {g : Nat} {w w' : World} (h : But g w w') {A : Option Addr} {cs : List Value} (hr : Rd w g A cs) (hg : g ≤ w.heap.size) : Rd w' g A cs := by
  rcases hr with hr | ⟨b, off, rfl, hb, hc⟩
  · exact .inl hr
  · refine .inr ⟨b, off, rfl, hb, fun j u hu => ?_⟩
    rw [World.cell?_of_block (w := w) (a := ⟨b, off + j, none⟩) (h.block b (by omega) (by omega))]
    exact hc j u hu
structure SolT (W6 : World) (ga gS n f : Nat) (fn fd g kk tn td : Int) (ok : Bool) (L : Nat → Bool) (V : Nat → Value) (w : World) : Prop where
  p : Below W6.heap.size W6 w
  b : L 13 = true → L 14 = false → ∃ g6, V 13 = .pointer (some ⟨g6, 0, none⟩) ∧ W6.heap.size ≤ g6 ∧ Blk w g6 51 #[.int .i64 0, .int .i64 0]
  st : L 14 = true → ∃ g6, V 13 = .pointer (some ⟨g6, 0, none⟩) ∧ W6.heap.size ≤ g6 ∧ Blk w g6 51 #[.int .i64 tn, .int .i64 td]
  e0 : L 0 = true → V 67 = .slice (some ⟨gS, 0, none⟩) n n
  e1 : L 1 = true → V 68 = .pointer (some ⟨ga, 0, none⟩)
  e2 : L 2 = true → V 69 = .int .i64 (f : Nat)
  e3 : L 3 = true → V 70 = .pointer (some ⟨gS, f * 2, none⟩)
  e4 : L 4 = true → V 71 = .agg #[.int .i64 fn, .int .i64 fd]
  e5 : L 5 = true → V 72 = .pointer (some ⟨ga, 2, none⟩)
  e6 : L 6 = true → V 73 = .int .i64 g
  e7 : L 7 = true → V 74 = .pointer (some ⟨ga, 3, none⟩)
  e8 : L 8 = true → V 75 = .int .i64 kk
  e10 : L 10 = true → V 66 = .tuple #[.agg #[.int .i64 tn, .int .i64 td], .bool ok]
  e11 : L 11 = true → V 77 = .agg #[.int .i64 tn, .int .i64 td]
  e12 : L 12 = true → V 78 = .bool ok
  e15 : L 15 = true → V 14 = .bool ok
  e9 : L 9 = true → V 76 = .tuple #[.agg #[.int .i64 tn, .int .i64 td], .bool ok]

set_option maxRecDepth 100000 in
set_option maxHeartbeats 16000000 in
theorem solve_ok (n : Nat) (ars : List ArcV) (A : Option Addr) (l c : Nat) (w : World) (hl : ars.length = l) (hx : ∀ a ∈ ars, a.fit) (hr : Rd w w.heap.size A (cellsA ars)) (hT : Tab w) (hc : checkF n ars = 0) :
    Calls Tryd.prog 4 #[.agg #[.int .i64 n, .slice A l c]] w (SolOut n ars w) := by
  obtain ⟨i0, hi, hz0, hz1, hz2⟩ := info_parts info_int
  obtain ⟨hn1, hn2, h96, -⟩ := checkF_ok hc
  rw [hl] at h96
  have C := ctx_at hc
  have hml : l ≤ maxLen := by unfold maxLen; omega
  go_enter Tryd.func4, Tryd.ntmps4
  go_upto_region 1 with fail
  have BW := (Below.refl w.heap.size w).alloc (Nat.le_refl _) (.cells #[.int .i64 n, .slice A l c] 24)
  have BW := BW.alloc BW.size (.cells #[.int .u8 0, .slice none 0 0, .slice none 0 0] 29)
  have kn := (Blk.new w _ rfl 24 #[.int .i64 n, .slice A l c]).alloc (.cells #[.int .u8 0, .slice none 0 0, .slice none 0 0] 29)
  have kb := Blk.new (w.alloc (.cells #[.int .i64 n, .slice A l c] 24)) (w.heap.size + 1) (by simp) 29 #[.int .u8 0, .slice none 0 0, .slice none 0 0]
  obtain ⟨W0, hW0⟩ : ∃ W, (w.alloc (.cells #[.int .i64 n, .slice A l c] 24)).alloc (.cells #[.int .u8 0, .slice none 0 0, .slice none 0 0] 29) = W := ⟨_, rfl⟩
  rw [hW0] at BW kn kb ⊢
  have hrA := (hr.below BW (Nat.le_refl _)).more BW.size
  have hT0 := hT.below BW hT.pos
  obtain ⟨bn, hbn⟩ : ∃ b, w.heap.size = b := ⟨_, rfl⟩
  obtain ⟨bb, hbb⟩ : ∃ b, bn + 1 = b := ⟨_, rfl⟩
  have HW := Lib.hid BW
  rw [hbn] at kn kb ⊢
  rw [hbb] at kb ⊢
  have HBN := Lib.hid hbn
  have HBB := Lib.hid hbb
  clear hW0 BW hr hT hbn hbb
  have n0 := kn.cell 0
  have n1 := kn.cell 1
  simp at n0 n1
  go_wp2_with fail
  refine (of_any n ars A l c W0 hl hx hrA hml).mono ?_
  rintro e w1 ⟨At, ct, Ah, ch, k, tree, home, rfl, hof, hrt, hrh, hb1⟩
  obtain ⟨rfl, rfl, rfl⟩ : k = 0 ∧ tree = treeF n ars ∧ home = homeF n ars := by
    rcases hof with ⟨h, -⟩ | ⟨-, rfl, m, hnm, rfl, rfl⟩
    · exact absurd hc h
    · obtain rfl : n = m := by omega
      exact ⟨rfl, rfl, rfl⟩
  rw [homeF_length] at *
  clear hof n0 n1
  have hrA1 := (hrA.below hb1 (Nat.le_refl _)).more hb1.size
  have kn1 := kn.below hb1 kn.lt
  have kb1 := kb.below hb1 kb.lt
  have hT1 := hT0.below hb1 hT0.pos
  have HW1 := Lib.hid (HW.out.trans (hb1.mono HW.out.size))
  clear hrA kn kb hT0 hb1 HW
  obtain ⟨W2, hW2⟩ : ∃ W, w1.alloc (.cells #[.slice At (treeF n ars).length ct, .slice Ah n ch] 41) = W := ⟨_, rfl⟩
  have hb2 := (Below.refl w1.heap.size w1).alloc (Nat.le_refl _) (.cells #[.slice At (treeF n ars).length ct, .slice Ah n ch] 41)
  have kf2 := Blk.new w1 _ rfl 41 #[.slice At (treeF n ars).length ct, .slice Ah n ch]
  rw [hW2] at hb2 kf2
  obtain ⟨bf, hbf⟩ : ∃ b, w1.heap.size = b := ⟨_, rfl⟩
  rw [hbf] at kf2
  have hrA2 := (hrA1.below hb2 (Nat.le_refl _)).more hb2.size
  have hrt2 := (hrt.below hb2 (Nat.le_refl _)).more hb2.size
  have hrh2 := (hrh.below hb2 (Nat.le_refl _)).more hb2.size
  have kn2 := kn1.below hb2 kn1.lt
  have kb2 := kb1.below hb2 kb1.lt
  have hT2 := hT1.below hb2 hT1.pos
  have HW2 := Lib.hid (HW1.out.trans (hb2.mono HW1.out.size))
  have HBF := Lib.hid (show bb < bf from hbf ▸ kb1.lt)
  clear hrA1 kn1 kb1 hT1 hb2 HW1 hrt hrh
  have n0 := kn2.cell 0
  have n1 := kn2.cell 1
  have f0 := kf2.cell 0
  have f1 := kf2.cell 1
  simp at n0 n1 f0 f1
  go_upto_region 2 with fail
  try rw [hbf]
  try rw [hW2]
  clear hW2 hbf
  go_wp2_with fail
  refine (spread_any n ars _ _ _ A At Ah l c ct ch W2 C hl hx hrA2 h96 hrt2 hrh2).mono ?_
  rintro e w3 ⟨gS, fs, b, rfl, oS, hb3, hB1, hB2⟩
  have hrA3 := (hrA2.below hb3 (Nat.le_refl _)).more hb3.size
  have hrt3 := (hrt2.below hb3 (Nat.le_refl _)).more hb3.size
  have hrh3 := (hrh2.below hb3 (Nat.le_refl _)).more hb3.size
  have kn3 := kn2.below hb3 kn2.lt
  have kb3 := kb2.below hb3 kb2.lt
  have kf3 := kf2.below hb3 kf2.lt
  have hT3 := hT2.below hb3 hT2.pos
  have HW3 := Lib.hid (HW2.out.trans (hb3.mono HW2.out.size))
  have HB1 := Lib.hid hB1
  have HB2 := Lib.hid hB2
  clear hrA2 hrt2 kn2 kb2 kf2 hT2 HW2 hrh2 hb3 n0 n1 f0 f1 hB1 hB2
  have n0 := kn3.cell 0
  simp at n0
  go_wp2_with (at_make; refine wpList_make_full _ rfl _ _ 26 rfl w3.heap.size 3 i0 (.int .i64 0) 1 Tryd.underlying26 hi hz0 hz1 _ _ _ _ n rfl rfl (by omega) (by omega) (by rw [hz2]; omega) (by unfold maxLen; omega) (by simp) ?_)
  intro W4 oR g4
  have hmade : (madeCells #[Value.int .i64 0] n).toList = cellsI (rowN n fun _ => 0) := by
    have h1 := madeCells_int n
    have h2 : rowN n (fun _ => (0 : Int)) = List.replicate n 0 := by
      refine List.ext_getElem? fun v => ?_
      by_cases hv : v < n
      · rw [rowN_at hv]; simp [hv]
      · rw [List.getElem?_eq_none (by rw [rowN_length]; omega), List.getElem?_eq_none (by simp; omega)]
    rw [h2]
    simpa [Value.cells] using h1
  rw [hmade] at oR
  have hb4 := (Below.refl w3.heap.size w3).grown g4 (Nat.le_refl _) (fun k hk => by cases hk)
  have hrA4 := (hrA3.below hb4 (Nat.le_refl _))
  have hrt4 := (hrt3.below hb4 (Nat.le_refl _))
  have hrh4 := (hrh3.below hb4 (Nat.le_refl _))
  have kn4 := kn3.below hb4 kn3.lt
  have kb4 := kb3.below hb4 kb3.lt
  have kf4 := kf3.below hb4 kf3.lt
  have hT4 := hT3.below hb4 hT3.pos
  have oS4 := own_below oS hb4
  have HW4 := Lib.hid (HW3.out.trans (hb4.mono HW3.out.size))
  have hlS := own_lt oS
  have hl4 := hb4.size
  have hlR := own_lt oR
  have hlf := kf3.lt
  have hpT := hT3.pos
  have hR1 : ∀ b, blkOf Ah = some b → b ≠ w3.heap.size := fun b hb => by
    have := rd_blk hrh3 (by intro e; have := congrArg List.length e; rw [cellsI_length, homeF_length] at this; simp at this; omega) b hb
    omega
  have HWs := Lib.hid (show w.heap.size ≤ w3.heap.size from HW3.out.size)
  obtain ⟨gR, hgR⟩ : ∃ g, w3.heap.size = g := ⟨_, rfl⟩
  rw [hgR] at oR hlS hl4 hlR hlf hpT hR1 HWs hrA4 hrt4 hrh4 ⊢
  clear hrA3 hrt3 hrh3 kn3 kb3 kf3 hT3 HW3 hb4 g4 hmade hgR n0 oS
  have f1 := kf4.cell 1
  simp at f1
  have HI := Lib.hid (show (b = true → b = true ∧ ∀ v, v < n → ((fun _ => 0 : Nat → Int) v = if hm n ars v < 0 then (cR n ars v : Int) else 0) ∧ (hm n ars v < 0 → cR n ars v ≤ 4096)) from fun hb => ⟨hb, fun v hv => ⟨by simp, fun h => by omega⟩⟩)
  go_wp2_with fail
  clear f1
  go_loopw [7, 38] (fun s i wr => ∃ (k : Nat) (V : Nat → Int) (ok : Bool), k ≤ n ∧ i = .int .i64 k ∧ s = .bool ok ∧ wr.ownsRow gR 3 1 (.slice (some ⟨gR, 0, none⟩) n n) n (cellsI (rowN n V)) ∧ But gR W4 wr ∧ Hid (ok = true → b = true ∧ ∀ v, v < n → (V v = if hm n ars v < k then (cR n ars v : Int) else 0) ∧ (hm n ars v < k → cR n ars v ≤ 4096)) ∧ Hid (ok = false → Big n (cR n ars))) (fun _ i _ => n - (intOf i).toNat)
  case atStart => exact ⟨0, fun _ => 0, b, Nat.zero_le _, rfl, rfl, oR, ⟨rfl, rfl, rfl, Nat.le_refl _, fun _ _ _ => rfl⟩, HI, HB2⟩
  case round =>
    clear oR HI
    obtain ⟨k, V, ok, hk, rfl, rfl, oR, B4, H1, H2⟩ := hrel
    by_cases hkn : k < n
    · obtain ⟨b0, off, x, rfl, hb, hfx, h0, hd, hat⟩ := (B4.rd hrh4 hl4 hR1).at_ (k := k) (home_fit_of C) (by rw [homeF_length]; exact hkn)
      obtain rfl : x = (hm n ars k : Nat) := by have := hat.out; rw [homeF_at hkn] at this; exact (Option.some.inj this).symm
      clear hd hat
      cases ok with
      | false =>
        go_wp2_with fail
        go_roundw
        case rel => exact ⟨k + 1, V, false, by omega, by go_num, rfl, oR, B4, fun h => (by cases h), H2⟩
        case measure => simp [intOf]; omega
      | true =>
        obtain ⟨hbt, hV⟩ := H1.out rfl
        by_cases hh : hm n ars k = k
        · rw [hh] at h0
          obtain ⟨hfs, hsm⟩ := HB1.out hbt
          have kfr := B4.blk kf4 (by omega)
          have f0 := kfr.cell 0
          have f1 := kfr.cell 1
          simp at f0 f1
          have hSR := B4.own oS4 (by simp [Value.ownBlock]; omega)
          rw [hfs] at hSR
          have hSr := rd_of_own hSR
          have hsz := B4.size
          have hRh := (B4.rd hrh4 hl4 hR1).more (B := gR) (B' := wr.heap.size) (by omega)
          have HSC := scale_any n ars _ _ _ At (some ⟨b0, off, none⟩) (some ⟨gS, 0, none⟩) (treeF n ars).length ct ch k gR gR V wr C hkn hh hsm hRh hSr (hT4.but B4 (by omega)) oR hR1 (fun b hb => by simp [blkOf] at hb; omega)
          have HV := Lib.hid hV
          have HBT := Lib.hid hbt
          clear hSR hSr hRh kfr hV H1 H2 hbt hfs hsm
          go_wp2_with fail
          refine HSC.mono ?_
          rintro e w5 ⟨ok', V', rfl, oR', B5, H3, H4⟩
          have H1' := Lib.hid (show (ok' = true → b = true ∧ ∀ v, v < n → (V' v = if hm n ars v < k + 1 then (cR n ars v : Int) else 0) ∧ (hm n ars v < k + 1 → cR n ars v ≤ 4096)) from fun ho => ⟨HBT.out, fun v hv => by
            obtain ⟨e1, e2⟩ := H3 ho
            obtain ⟨d1, d2⟩ := HV.out v hv
            rw [e1 v hv]
            by_cases hvk : hm n ars v = k
            · rw [if_pos hvk, if_pos (by omega)]
              exact ⟨rfl, fun _ => e2 v hv hvk⟩
            · rw [if_neg hvk, d1]
              by_cases hlt : hm n ars v < k
              · rw [if_pos hlt, if_pos (by omega)]
                exact ⟨rfl, fun _ => d2 hlt⟩
              · rw [if_neg hlt, if_neg (by omega)]
                exact ⟨rfl, fun h => by omega⟩⟩)
          have H2' := Lib.hid H4
          clear H3 H4 HV HSC
          go_wp2_with fail
          go_roundw
          case rel => exact ⟨k + 1, V', ok', by omega, by go_num, rfl, oR', B4.trans B5, H1', H2'⟩
          case measure => simp [intOf]; omega
        · have hq : ((k : Int) == (hm n ars k : Nat)) = false := by simp; omega
          have H1' := Lib.hid (show (true = true → b = true ∧ ∀ v, v < n → (V v = if hm n ars v < k + 1 then (cR n ars v : Int) else 0) ∧ (hm n ars v < k + 1 → cR n ars v ≤ 4096)) from fun ho => ⟨hbt, fun v hv => by
            obtain ⟨d1, d2⟩ := hV v hv
            have hvk : hm n ars v ≠ k := fun e => hh (by rw [← e, hm_hm])
            rw [d1]
            by_cases hlt : hm n ars v < k
            · rw [if_pos hlt, if_pos (by omega)]
              exact ⟨rfl, fun _ => d2 hlt⟩
            · rw [if_neg hlt, if_neg (by omega)]
              exact ⟨rfl, fun h => by omega⟩⟩)
          clear hV H1 hbt
          go_wp2_with fail
          go_roundw
          case rel => exact ⟨k + 1, V, true, by omega, by go_num, rfl, oR, B4, H1', H2⟩
          case measure => simp [intOf]; omega
    · obtain rfl : n = k := by omega
      have kbr := B4.blk kb4 (by have := HBF.out; omega)
      cases ok with
      | false =>
        have r0 := kbr.cell 0
        have r1 := kbr.cell 1
        have r2 := kbr.cell 2
        have z0 := kbr.frozen 0
        have z1 := kbr.frozen 1
        have z2 := kbr.frozen 2
        simp at r0 r1 r2
        have kb5 := ((kbr.set 0 (.int .u8 3)).set 1 (.slice none 0 0)).set 2 (.slice none 0 0)
        simp at kb5
        have s0 := kb5.cell 0
        have s1 := kb5.cell 1
        have s2 := kb5.cell 2
        simp at s0 s1 s2
        have B5 := (((B4.down HW4.out (by have := HWs.out; omega)).setCell (p := ⟨bb, 0, none⟩) (by have := HBN.out; have := HBB.out; simp; omega) (.int .u8 3)).setCell (p := ⟨bb, 1, none⟩) (by have := HBN.out; have := HBB.out; simp; omega) (.slice none 0 0)).setCell (p := ⟨bb, 2, none⟩) (by have := HBN.out; have := HBB.out; simp; omega) (.slice none 0 0)
        have HB5 := Lib.hid B5
        have HBIG := Lib.hid (H2.out rfl)
        clear B5 kb5 kbr H1 H2
        go_wp2_with fail
        refine bodyPost_ret (v := .tuple #[.agg #[.int .u8 3, .slice none 0 0, .slice none 0 0], .int .i64 0]) (by simp [results, Tryd.results4, go_sem, s0, s1, s2]) rfl ?_
        exact ⟨3, [], [], 0, none, 0, none, 0, rfl, .inr ⟨hc, rfl, n, rfl, .inl ⟨HBIG.out, rfl, rfl, rfl⟩⟩, fun _ => ⟨rfl, rfl⟩, fun _ => ⟨rfl, rfl⟩, World.ownsRow_nil _ _ _ _, World.ownsRow_nil _ _ _ _, HB5.out⟩
      | true =>
        obtain ⟨hbt, hV⟩ := H1.out rfl
        obtain ⟨hfs, hsm⟩ := HB1.out hbt
        have NB : Hid (¬ Big n (cR n ars)) := fun ⟨v, hv, h4⟩ => by
          have := (hV v hv).2 (by have := hm_le n ars v; omega)
          omega
        have hrow : rowN n V = rowN n (fun v => (cR n ars v : Int)) := rowN_ext fun v hv => by
          rw [(hV v hv).1, if_pos (by have := hm_le n ars v; omega)]
        rw [hrow] at oR
        have oS5 := B4.own oS4 (by simp [Value.ownBlock]; omega)
        rw [hfs] at oS5
        have kn5 := B4.blk kn4 (by have := HBB.out; have := HBF.out; omega)
        have hsz := B4.size
        have hrA5 := (B4.rdB hrA4 hl4).more (B' := wr.heap.size) (by omega)
        have HW5 := Lib.hid (B4.down HW4.out (by have := HWs.out; omega))
        have hT5 := hT4.but B4 (by omega)
        obtain ⟨W5, hW5⟩ : ∃ W, W = wr := ⟨_, rfl⟩
        rw [← hW5] at oR oS5 kn5 kbr hrA5 hsz HW5 hT5 ⊢
        have HSM := Lib.hid hsm
        clear hW5 hV H1 H2 hrow hfs hsm hbt B4 kb4 kn4 kf4 hrA4 hrh4 hrt4 oS4 hT4 HW4 HB1 HB2 hkn hk hlR hl4 hsz
        have n1 := kn5.cell 1
        simp at n1
        go_wp2_with fail
        clear n1
        go_loopw [61] (fun i wr => ∃ k : Nat, k ≤ l ∧ i = .int .i64 k ∧ Below W5.heap.size W5 wr ∧ Hid (∀ j b, j < k → ars[j]? = some b → evA (cR n ars) b = true)) (fun i _ => l - (intOf i).toNat)
        case atStart => exact ⟨0, Nat.zero_le _, rfl, Below.refl _ _, fun j b hj => by omega⟩
        case round =>
          obtain ⟨k, hk, rfl, B5, HE⟩ := hrel
          by_cases hkl : k < l
          · obtain ⟨b0, off, a, rfl, hbl, hfa, c0, c1, c2, c3, c4, hd, hat⟩ := (hrA5.below B5 (Nat.le_refl _)).arc (k := k) hx (by omega)
            obtain ⟨q1, q2, q3, q4, q5, q6, q7, q8⟩ := C.arc a (List.mem_of_getElem? hat.out)
            obtain ⟨f, hf⟩ : ∃ f : Nat, a.f = f := ⟨a.f.toNat, by omega⟩
            obtain ⟨t, ht⟩ : ∃ t : Nat, a.t = t := ⟨a.t.toNat, by omega⟩
            have hEV := arc_even C NB.out hat.out
            have hhm := C.same hat.out
            have hfn : a.f.toNat = f := by omega
            have htn : a.t.toNat = t := by omega
            rw [hfn, htn] at hEV
            have hsf := HSM.out f (by omega)
            have hst := HSM.out t (by omega)
            have HTM := Lib.hid (fun w => btimes_any (shF n ars (cR n ars) f) a.g a.k w hsf q5 q6 q7 q8)
            obtain ⟨s0, s1, hbS, -⟩ := (rd_of_own oS5).frAt (fun x hx => by obtain ⟨v, hv, rfl⟩ := List.mem_map.1 hx; exact (HSM.out v (List.mem_range.1 hv)).fit) (k := f) (f := shF n ars (cR n ars) f) (by simp [show f < n by omega])
            obtain ⟨t0, t1, -, -⟩ := (rd_of_own oS5).frAt (fun x hx => by obtain ⟨v, hv, rfl⟩ := List.mem_map.1 hx; exact (HSM.out v (List.mem_range.1 hv)).fit) (k := t) (f := shF n ars (cR n ars) t) (by simp [show t < n by omega])
            rw [Nat.zero_add] at s0 s1 t0 t1
            rw [hf] at c0
            rw [ht] at c1
            have HOKT := Lib.hid (okT_small hst)
            obtain ⟨T, hT'⟩ : ∃ T, timesF (shF n ars (cR n ars) f) a.g a.k = T := ⟨_, rfl⟩
            obtain ⟨F, hF⟩ : ∃ T, shF n ars (cR n ars) f = T := ⟨_, rfl⟩
            obtain ⟨X, hX⟩ : ∃ T, shF n ars (cR n ars) t = T := ⟨_, rfl⟩
            rw [hT'] at HTM hEV
            rw [hX] at hEV t0 t1 HOKT
            rw [hF] at HTM s0 s1
            obtain ⟨ok, hok⟩ : ∃ o, okT T = o := ⟨_, rfl⟩
            rw [hok] at HTM
            have HOK := Lib.hid hok
            obtain ⟨tn, td⟩ := T
            obtain ⟨fn, fd⟩ := F
            obtain ⟨xn, xd⟩ := X
            simp only at HTM s0 s1 t0 t1
            have HEV := Lib.hid hEV
            have HAT := Lib.hid hat.out
            have HF := Lib.hid hf
            have HT := Lib.hid ht
            have HHM := Lib.hid hhm
            obtain ⟨g, hg⟩ : ∃ g, a.g = g := ⟨_, rfl⟩
            obtain ⟨kk, hk'⟩ : ∃ g, a.k = g := ⟨_, rfl⟩
            obtain ⟨st, hs'⟩ : ∃ g, a.s = g := ⟨_, rfl⟩
            rw [hg] at c2 HTM
            rw [hk'] at c3 HTM
            rw [hs'] at c4
            have hfl : f < n := by omega
            have htl : t < n := by omega
            clear hEV hat hd hsf hst hfa hT' hF hX hok hf ht hhm hfn htn hg hk' hs' q1 q2 q3 q4 q5 q6 q7 q8
            obtain ⟨W6, hW6⟩ : ∃ W, wr.alloc (.cells #[.int .i64 f, .int .i64 t, .int .i64 g, .int .i64 kk, .int .i64 st] 49) = W := ⟨_, rfl⟩
            obtain ⟨ga, hga⟩ : ∃ g, wr.heap.size = g := ⟨_, rfl⟩
            have ka := Blk.new wr ga hga.symm 49 #[.int .i64 f, .int .i64 t, .int .i64 g, .int .i64 kk, .int .i64 st]
            have B6 := B5.alloc B5.size (.cells #[.int .i64 f, .int .i64 t, .int .i64 g, .int .i64 kk, .int .i64 st] 49)
            rw [hW6] at ka B6
            have hgS5 := own_lt oS5
            have s0' := (B6.cell (p := ⟨gS, f * 2, none⟩) hgS5).trans s0
            have s1' := (B6.cell (p := ⟨gS, f * 2 + 1, none⟩) hgS5).trans s1
            have C0 := Lib.hid s0'
            have C1 := Lib.hid s1'
            have KA := Lib.hid ka
            have HB6 := Lib.hid B6
            have hgS6 : gS < W6.heap.size := by have := B6.size; omega
            have hT0 := Lib.hid t0
            have hT1 := Lib.hid t1
            clear s0 s1 t0 t1 s0' s1' ka B6 B5
            go_upto_region 17 with fail
            try rw [hga]
            try rw [hW6]
            clear hga hW6 c0 c1 c2 c3 c4
            have hff : (0 : Int) ≤ (f : Int) := by omega
            have hfn : (f : Int) < (n : Int) := by omega
            have hIT : ∀ V, SolT W6 ga gS n f fn fd g kk tn td ok (fun _ => false) V W6.drew := fun V => by
              have h0 : Below W6.heap.size W6 W6.drew := Drawn.below _ ((Drawn.refl W6).drewN 1)
              constructor
              all_goals first
                | exact h0
                | (intro h; cases h)
            refine wp_region_put3 [67, 68, 69, 70, 71, 72, 73, 74, 75, 76, 66, 77, 78, 13, 14] (SolT W6 ga gS n f fn fd g kk tn td ok) (by kernel_rfl) (by kernel_rfl) ?_ ?_ ?_
            · exact hIT _
            · intro i o ho L V w1 hi hL hno h K hK
              rcases i with _ | _ | _ | _ | _ | _ | _ | _ | _ | _ | _ | _ | _ | _ | _ | _ | i
              · replace ho := Option.some.inj ho
                subst ho
                simp only [putAll, List.foldl_cons, List.foldl_nil, List.setIfInBounds_toArray, List.set_cons_zero, List.set_cons_succ]
                clear hL hno
                go_simp
                refine hK (updV V 67 (.slice (some ⟨gS, 0, none⟩) n n)) _ _ (by simp [putAll, updV]) ?_
                exact { h with e0 := fun _ => rfl }
              · replace ho := Option.some.inj ho
                subst ho
                simp only [putAll, List.foldl_cons, List.foldl_nil, List.setIfInBounds_toArray, List.set_cons_zero, List.set_cons_succ]
                clear hL hno
                go_simp
                refine hK (updV V 68 (.pointer (some ⟨ga, 0, none⟩))) _ _ (by simp [putAll, updV]) ?_
                exact { h with e1 := fun _ => rfl }
              · replace ho := Option.some.inj ho
                subst ho
                simp only [putAll, List.foldl_cons, List.foldl_nil, List.setIfInBounds_toArray, List.set_cons_zero, List.set_cons_succ]
                have e1 : V 68 = _ := h.e1 (hL ⟨1, .data⟩ (by simp) rfl)
                have ct := (KA.out.below h.p KA.out.lt).cell 0
                simp only [List.getElem?_toArray, List.getElem?_cons_zero] at ct
                clear hL hno
                go_simp
                refine hK (updV V 69 (.int .i64 (f : Nat))) _ _ (by simp [putAll, updV, e1]) ?_
                exact { h with e2 := fun _ => rfl }
              · replace ho := Option.some.inj ho
                subst ho
                simp only [putAll, List.foldl_cons, List.foldl_nil, List.setIfInBounds_toArray, List.set_cons_zero, List.set_cons_succ]
                have e0 : V 67 = _ := h.e0 (hL ⟨0, .data⟩ (by simp) rfl)
                have e2 : V 69 = _ := h.e2 (hL ⟨2, .data⟩ (by simp) rfl)
                clear hL hno
                go_simp
                refine hK (updV V 70 (.pointer (some ⟨gS, f * 2, none⟩))) _ _ (by simp [putAll, updV, e0, e2]) ?_
                exact { h with e3 := fun _ => rfl }
              · replace ho := Option.some.inj ho
                subst ho
                simp only [putAll, List.foldl_cons, List.foldl_nil, List.setIfInBounds_toArray, List.set_cons_zero, List.set_cons_succ]
                have e3 : V 70 = _ := h.e3 (hL ⟨3, .data⟩ (by simp) rfl)
                have d0 := (h.p.cell (p := ⟨gS, f * 2, none⟩) hgS6).trans C0.out
                have d1 := (h.p.cell (p := ⟨gS, f * 2 + 1, none⟩) hgS6).trans C1.out
                clear hL hno
                go_simp
                refine hK (updV V 71 (.agg #[.int .i64 fn, .int .i64 fd])) _ _ (by simp [putAll, updV, e3]) ?_
                exact { h with e4 := fun _ => rfl }
              · replace ho := Option.some.inj ho
                subst ho
                simp only [putAll, List.foldl_cons, List.foldl_nil, List.setIfInBounds_toArray, List.set_cons_zero, List.set_cons_succ]
                clear hL hno
                go_simp
                refine hK (updV V 72 (.pointer (some ⟨ga, 2, none⟩))) _ _ (by simp [putAll, updV]) ?_
                exact { h with e5 := fun _ => rfl }
              · replace ho := Option.some.inj ho
                subst ho
                simp only [putAll, List.foldl_cons, List.foldl_nil, List.setIfInBounds_toArray, List.set_cons_zero, List.set_cons_succ]
                have e5 : V 72 = _ := h.e5 (hL ⟨5, .data⟩ (by simp) rfl)
                have ct := (KA.out.below h.p KA.out.lt).cell 2
                simp only [List.getElem?_toArray, List.getElem?_cons_zero, List.getElem?_cons_succ] at ct
                clear hL hno
                go_simp
                refine hK (updV V 73 (.int .i64 g)) _ _ (by simp [putAll, updV, e5]) ?_
                exact { h with e6 := fun _ => rfl }
              · replace ho := Option.some.inj ho
                subst ho
                simp only [putAll, List.foldl_cons, List.foldl_nil, List.setIfInBounds_toArray, List.set_cons_zero, List.set_cons_succ]
                clear hL hno
                go_simp
                refine hK (updV V 74 (.pointer (some ⟨ga, 3, none⟩))) _ _ (by simp [putAll, updV]) ?_
                exact { h with e7 := fun _ => rfl }
              · replace ho := Option.some.inj ho
                subst ho
                simp only [putAll, List.foldl_cons, List.foldl_nil, List.setIfInBounds_toArray, List.set_cons_zero, List.set_cons_succ]
                have e7 : V 74 = _ := h.e7 (hL ⟨7, .data⟩ (by simp) rfl)
                have ct := (KA.out.below h.p KA.out.lt).cell 3
                simp only [List.getElem?_toArray, List.getElem?_cons_zero, List.getElem?_cons_succ] at ct
                clear hL hno
                go_simp
                refine hK (updV V 75 (.int .i64 kk)) _ _ (by simp [putAll, updV, e7]) ?_
                exact { h with e8 := fun _ => rfl }
              · replace ho := Option.some.inj ho
                subst ho
                have e4 : V 71 = _ := h.e4 (hL ⟨4, .data⟩ (by simp) rfl)
                have e6 : V 73 = _ := h.e6 (hL ⟨6, .data⟩ (by simp) rfl)
                have e8 : V 75 = _ := h.e8 (hL ⟨8, .data⟩ (by simp) rfl)
                have l14 : L 14 = false := hno 14 (by kernel_rfl)
                clear hL hno
                simp only [putAll, List.foldl_cons, List.foldl_nil, List.setIfInBounds_toArray, List.set_cons_zero, List.set_cons_succ]
                go_simp
                refine (HTM.out w1).mono ?_
                rintro e w3 ⟨rfl, hb3⟩
                refine hK (updV V 76 (.tuple #[.agg #[.int .i64 tn, .int .i64 td], .bool ok])) _ _ (by simp [putAll, updV, e4, e6, e8]) ?_
                exact { h with
                  p := h.p.trans (hb3.mono h.p.size)
                  b := fun h13 h14 => by obtain ⟨g6, q1, q2, q3⟩ := h.b h13 h14; exact ⟨g6, q1, q2, q3.below hb3 q3.lt⟩
                  st := fun h14 => (by cases (h14.symm.trans l14))
                  e9 := fun _ => rfl }
              · replace ho := Option.some.inj ho
                subst ho
                simp only [putAll, List.foldl_cons, List.foldl_nil, List.setIfInBounds_toArray, List.set_cons_zero, List.set_cons_succ]
                have e9 : V 76 = _ := h.e9 (hL ⟨9, .data⟩ (by simp) rfl)
                clear hL hno
                go_simp
                refine hK (updV V 66 (.tuple #[.agg #[.int .i64 tn, .int .i64 td], .bool ok])) _ _ (by simp [putAll, updV, e9]) ?_
                exact { h with e10 := fun _ => rfl }
              · replace ho := Option.some.inj ho
                subst ho
                simp only [putAll, List.foldl_cons, List.foldl_nil, List.setIfInBounds_toArray, List.set_cons_zero, List.set_cons_succ]
                have e10 : V 66 = _ := h.e10 (hL ⟨10, .data⟩ (by simp) rfl)
                clear hL hno
                go_simp
                refine hK (updV V 77 (.agg #[.int .i64 tn, .int .i64 td])) _ _ (by simp [putAll, updV, e10]) ?_
                exact { h with e11 := fun _ => rfl }
              · replace ho := Option.some.inj ho
                subst ho
                simp only [putAll, List.foldl_cons, List.foldl_nil, List.setIfInBounds_toArray, List.set_cons_zero, List.set_cons_succ]
                have e10 : V 66 = _ := h.e10 (hL ⟨10, .data⟩ (by simp) rfl)
                clear hL hno
                go_simp
                refine hK (updV V 78 (.bool ok)) _ _ (by simp [putAll, updV, e10]) ?_
                exact { h with e12 := fun _ => rfl }
              · replace ho := Option.some.inj ho
                subst ho
                have l14 : L 14 = false := hno 14 (by kernel_rfl)
                clear hL hno
                simp only [putAll, List.foldl_cons, List.foldl_nil, List.setIfInBounds_toArray, List.set_cons_zero, List.set_cons_succ]
                have hb := (Below.refl w1.heap.size w1).alloc (Nat.le_refl _) (.cells #[.int .i64 0, .int .i64 0] 51)
                have hnew := Blk.new w1 _ rfl 51 #[.int .i64 0, .int .i64 0]
                go_simp
                refine hK (updV V 13 (.pointer (some ⟨w1.heap.size, 0, none⟩))) _ _ (by simp [putAll, updV]) ?_
                exact { h with
                  p := h.p.trans (hb.mono h.p.size)
                  b := fun _ _ => ⟨_, rfl, h.p.size, hnew⟩
                  st := fun h14 => (by cases (h14.symm.trans l14)) }
              · replace ho := Option.some.inj ho
                subst ho
                have e11 : V 77 = _ := h.e11 (hL ⟨11, .data⟩ (by simp) rfl)
                have t1 : L 13 = true := hL ⟨13, .data⟩ (by simp) rfl
                have t2 : L 14 = false := hi
                clear hL hno
                simp only [putAll, List.foldl_cons, List.foldl_nil, List.setIfInBounds_toArray, List.set_cons_zero, List.set_cons_succ]
                refine Exists.elim (h.b t1 t2) fun g6 hq => ?_
                have q1 := hq.1
                have q2 := hq.2.1
                have q3 := hq.2.2
                clear t1 t2 hq
                have e13 : V 13 = _ := q1
                have f0 := q3.cell 0
                have f1 := q3.cell 1
                have z0 := q3.frozen 0
                have z1 := q3.frozen 1
                simp only [List.getElem?_toArray, List.getElem?_cons_zero, List.getElem?_cons_succ] at f0 f1
                have kb2 := (q3.set 0 (.int .i64 tn)).set 1 (.int .i64 td)
                have bb2 := (h.p.setCell (p := ⟨g6, 0, none⟩) q2 (.int .i64 tn)).setCell (p := ⟨g6, 1, none⟩) q2 (.int .i64 td)
                simp at kb2
                clear q3
                go_simp
                refine hK V _ _ (by simp [putAll, e11, e13]) ?_
                exact { h with p := bb2, b := fun _ hn => (by cases hn), st := fun _ => ⟨g6, q1, q2, kb2⟩ }
              · replace ho := Option.some.inj ho
                subst ho
                simp only [putAll, List.foldl_cons, List.foldl_nil, List.setIfInBounds_toArray, List.set_cons_zero, List.set_cons_succ]
                have e12 : V 78 = _ := h.e12 (hL ⟨12, .data⟩ (by simp) rfl)
                clear hL hno
                go_simp
                refine hK (updV V 14 (.bool ok)) _ _ (by simp [putAll, updV, e12]) ?_
                exact { h with e15 := fun _ => rfl }
              · simp at ho
            · clear hIT
              intro L V W7 hL h
              have t1 : L 14 = true := hL 14 (by simp)
              refine Exists.elim (h.st t1) fun gx hq => ?_
              have q1 := hq.1
              have q2 := hq.2.1
              have q3 := hq.2.2
              have e14 : V 14 = .bool ok := h.e15 (hL 15 (by simp))
              clear t1 hq
              have p1 := h.p
              simp only [putAll, List.foldl_cons, List.foldl_nil, List.setIfInBounds_toArray, List.set_cons_zero, List.set_cons_succ, q1, e14]
              clear h hL q1 e14 hff hfn
              have KA7 := Lib.hid (KA.out.below p1 KA.out.lt)
              have B7 := Lib.hid (HB6.out.trans (p1.mono HB6.out.size))
              clear KA HB6 p1 HTM C0 C1 q2
              generalize V 67 = v67
              generalize V 68 = v68
              generalize V 69 = v69
              generalize V 70 = v70
              generalize V 71 = v71
              generalize V 72 = v72
              generalize V 73 = v73
              generalize V 74 = v74
              generalize V 75 = v75
              generalize V 76 = v76
              generalize V 66 = v66
              generalize V 77 = v77
              generalize V 78 = v78
              clear V
              have x0 := q3.cell 0
              have x1 := q3.cell 1
              have a1 := KA7.out.cell 1
              have a0 := KA7.out.cell 0
              simp at x0 x1 a1 a0
              have y0 := (B7.out.cell (p := ⟨gS, t * 2, none⟩) hgS5).trans hT0.out
              have y1 := (B7.out.cell (p := ⟨gS, t * 2 + 1, none⟩) hgS5).trans hT1.out
              have i1 : (0 : Int) ≤ (t : Int) := by omega
              have i2 : (t : Int) < (n : Int) := by omega
              obtain ⟨ev, hev⟩ : ∃ e, evA (cR n ars) a = e := ⟨_, rfl⟩
              have HEV2 := Lib.hid hev
              clear hev
              go_upto_region 18 with fail
              go_cut [89] (fun s89 wx => s89 = .bool (!ev) ∧ Drawn W7 wx)
              case first =>
                cases ev with
                | true =>
                  have hq := HEV.out.2 HEV2.out
                  injection hq with h1 h2
                  subst h1
                  subst h2
                  obtain rfl : ok = true := by rw [← HOK.out]; exact HOKT.out
                  clear HEV HEV2 HOK HOKT
                  go_region
                  go_wp2
                  go_meet
                  exact ⟨rfl, (Drawn.refl W7).drewN 1⟩
                | false =>
                  have hne : ¬ (tn = xn ∧ td = xd) := fun he => by
                    have := HEV.out.1 (by rw [he.1, he.2])
                    rw [HEV2.out] at this
                    cases this
                  clear HEV HEV2
                  cases ok with
                  | false =>
                    clear HOK HOKT hne
                    go_region
                    go_wp2
                    go_meet
                    exact ⟨rfl, (Drawn.refl W7).drewN 1⟩
                  | true =>
                    clear HOK HOKT
                    by_cases h1 : tn = xn
                    · subst h1
                      have q2 : (td == xd) = false := by simp; exact fun h => hne ⟨rfl, h⟩
                      have q3 : ¬ td = xd := fun h => hne ⟨rfl, h⟩
                      clear hne
                      go_region
                      go_wp2
                      go_meet
                      exact ⟨rfl, (Drawn.refl W7).drewN 1⟩
                    · have q2 : (tn == xn) = false := by simp; exact h1
                      clear hne
                      go_region
                      go_wp2
                      go_meet
                      exact ⟨rfl, (Drawn.refl W7).drewN 1⟩
              case rest =>
                obtain ⟨rfl, hdr⟩ := hcut
                have B8 := Lib.hid (B7.out.trans (hdr.below W5.heap.size))
                have KA8 := Lib.hid (KA7.out.below (hdr.below W7.heap.size) KA7.out.lt)
                clear hdr B7 KA7 q3 x0 x1 y0 y1 a0 a1 i1 i2 HOK HOKT hT0 hT1
                cases ev with
                | true =>
                  have HE2 := Lib.hid (show ∀ j b, j < k + 1 → ars[j]? = some b → evA (cR n ars) b = true from fun j b hj hb => by
                    by_cases hjk : j = k
                    · subst hjk
                      have := HAT.out
                      rw [hb] at this
                      injection this with this
                      subst this
                      exact HEV2.out
                    · exact HE.out j b (by omega) hb)
                  clear HEV HEV2 HE KA8
                  go_wp2_with fail
                  go_roundw
                  case rel => exact ⟨k + 1, by omega, by go_num, B8.out, HE2⟩
                  case measure => simp [intOf]; omega
                | false =>
                  obtain ⟨W8, rfl⟩ : ∃ w1 : World, w1 = wc := ⟨_, rfl⟩
                  have a0 := KA8.out.cell 0
                  have a1 := KA8.out.cell 1
                  have kn8 := kn5.below B8.out kn5.lt
                  have n0 := kn8.cell 0
                  have n1 := kn8.cell 1
                  simp at a0 a1 n0 n1
                  have hrA8 := (hrA5.below B8.out (Nat.le_refl _)).more B8.out.size
                  clear hrA5
                  have hSame : root (upF n ars) t = root (upF n ars) f := by
                    have := HHM.out
                    unfold hm at this
                    rw [HF.out, HT.out] at this
                    simpa using this.symm
                  go_wp2_with fail
                  refine (path_any (n : Int) ars (some ⟨b0, off, none⟩) l c (t : Int) (f : Int) W8 hl hx hrA8 hml (by unfold fits; omega) (by unfold fits; omega)).mono ?_
                  rintro e w9 ⟨A', c', k', p, rfl, hpa, hrp, hpl, hb9⟩
                  obtain rfl : k' = 0 := by
                    rcases hpa with ⟨h, -⟩ | ⟨-, h, -⟩ | ⟨-, m, x, y, h1, h2, h3, -, -, h4, -⟩ | ⟨-, m, x, y, -, -, -, -, -, -, h, -⟩
                    · exact absurd hc h
                    · omega
                    · obtain rfl : n = m := by omega
                      obtain rfl : t = x := by omega
                      obtain rfl : f = y := by omega
                      exact absurd hSame h4
                    · exact h
                  have HPA := Lib.hid hpa
                  have B9 := Lib.hid (B8.out.trans (hb9.mono B8.out.size))
                  clear hpa hb9 B8 KA8 a0 a1 n0 n1 kn8 hrA8 hSame
                  obtain ⟨i1, hi1, hy0, hy1, hy2⟩ := info_parts info_step
                  have kb9 := kbr.below B9.out kbr.lt
                  have ol := World.ownsRow_lit (base := w9.heap.size) (e := 57) (size := 2) w9 #[.int .i64 (k : Nat), .bool false] 1 (Nat.le_refl _) (by unfold maxLen; omega) rfl
                  have hb10 := (Below.refl w9.heap.size w9).alloc (Nat.le_refl _) (.cells #[.int .i64 (k : Nat), .bool false] 57)
                  have hrp10 := hrp.below hb10 (Nat.le_refl _)
                  obtain ⟨W10, hW10⟩ : ∃ W, w9.alloc (.cells #[.int .i64 (k : Nat), .bool false] 57) = W := ⟨_, rfl⟩
                  rw [hW10] at ol hb10 hrp10
                  have kb10 := kb9.below hb10 kb9.lt
                  have hz9 := Lib.hid (show W5.heap.size ≤ w9.heap.size from B9.out.size)
                  obtain ⟨g9, hg9⟩ : ∃ g, w9.heap.size = g := ⟨_, rfl⟩
                  have hb10s := hb10.size
                  have hkb9 := kb9.lt
                  rw [hg9] at ol hb10s hrp10 hz9 hkb9
                  have B10 := Lib.hid (B9.out.trans (hb10.mono B9.out.size))
                  clear hb10 kb9 B9 hrp
                  have e1 : 1 + p.length ≤ maxLen := by unfold maxLen; omega
                  have e2 : (1 + p.length) * 16 ≤ 140737488355328 := by omega
                  have e3 : g9 ≤ W10.heap.size := hb10s
                  have e4 := cellsS_length p
                  have e5 := cellsS_one p
                  have e6 : W10.ownsRow g9 57 2 (.slice (some ⟨g9, 0, none⟩) 1 1) 1 [.int .i64 (k : Nat), .bool false] := ol
                  have e7 : Rd W10 g9 A' (cellsS p) := hrp10
                  have hAPP := fun (op : Array Oper) (rest : List Oper) (o : Oper) (a : Act) (Q : Exit → Act → World → Prop) h1 h2 h3 h4 K => wpList_append_rd (P := Tryd.prog) (w := W10) (ops := op) (rest := rest) (o := o) (a := a) (Q := Q) h1 (.tmp 105) (.tmp 106) 27 h2 g9 57 i1 (.agg #[.int .i64 0, .bool false]) 2 16 Tryd.underlying27 hi1 hy0 hy1 hy2 rfl (by decide) (.slice (some ⟨g9, 0, none⟩) 1 1) 1 [.int .i64 (k : Nat), .bool false] h3 e6 g9 A' p.length c' (cellsS p) h4 e4 e7 e5 e1 e2 e3 K
                  go_upto_region 22 with fail
                  clear e1 e2 e3 e4 e5 e6 e7
                  go_wp2_with (at_builtin; refine hAPP _ _ _ _ _ rfl rfl rfl rfl ?_)
                  intro v' W11 o11 hgr11 hv11
                  have hv := own_slice o11
                  obtain ⟨Ac, cc, rfl, -⟩ := hv
                  have B11 := Lib.hid (B10.out.grown hgr11 (by have := B10.out.size; exact this) (fun q hq => by simp [Value.ownBlock] at hq; subst hq; exact hz9.out))
                  have kb11 := kb10.grown hgr11 (by simp [Value.ownBlock]; omega)
                  have oc : W11.ownsRow g9 57 2 (.slice Ac (1 + p.length) cc) (1 + p.length) (cellsS ((k, false) :: p)) := by
                    have h1 : cellsS ((k, false) :: p) = [.int .i64 (k : Nat), .bool false] ++ cellsS p := by simp [cellsS, stepCells]
                    rw [h1]
                    exact o11
                  clear o11 hgr11 hv11 kb10 B10 ol hrp10
                  have r0 := kb11.cell 0
                  have r1 := kb11.cell 1
                  have r2 := kb11.cell 2
                  have z0 := kb11.frozen 0
                  have z1 := kb11.frozen 1
                  have z2 := kb11.frozen 2
                  simp at r0 r1 r2
                  have kb5 := ((kb11.set 0 (.int .u8 2)).set 1 (.slice none 0 0)).set 2 (.slice Ac (1 + p.length) cc)
                  simp at kb5
                  have s0 := kb5.cell 0
                  have s1 := kb5.cell 1
                  have s2 := kb5.cell 2
                  simp at s0 s1 s2
                  have hbbw : w.heap.size ≤ bb := by have := HBN.out; have := HBB.out; omega
                  have BZ := Lib.hid ((((HW5.out.trans (B11.out.mono HW5.out.size)).setCell (p := ⟨bb, 0, none⟩) hbbw (.int .u8 2)).setCell (p := ⟨bb, 1, none⟩) hbbw (.slice none 0 0)).setCell (p := ⟨bb, 2, none⟩) hbbw (.slice Ac (1 + p.length) cc))
                  have hob : ∀ q, (Value.slice Ac (1 + p.length) cc).ownBlock = some q → g9 ≤ q := fun q hq => own_ge oc hq
                  have hnb : (Value.slice Ac (1 + p.length) cc).ownBlock ≠ some bb := fun he => by have := hob _ he; omega
                  have o12 := ownsRow_setCell_other (ownsRow_setCell_other (ownsRow_setCell_other oc (a := ⟨bb, 0, none⟩) hnb (.int .u8 2)) (a := ⟨bb, 1, none⟩) hnb (.slice none 0 0)) (a := ⟨bb, 2, none⟩) hnb (.slice Ac (1 + p.length) cc)
                  have OZ := Lib.hid (own_mono o12 (show w.heap.size ≤ g9 by have := HW5.out.size; have := hz9.out; omega))
                  clear kb5 kb11 oc o12 B11 hob hnb
                  go_wp2_with fail
                  refine bodyPost_ret (v := .tuple #[.agg #[.int .u8 2, .slice none 0 0, .slice Ac (1 + p.length) cc], .int .i64 0]) (by simp [results, Tryd.results4, go_sem, s0, s1, s2]) rfl ?_
                  have hln : ((k, false) :: p).length = 1 + p.length := by simp; omega
                  exact ⟨2, [], (k, false) :: p, 0, none, 0, Ac, cc, by rw [hln]; rfl, .inr ⟨hc, rfl, n, rfl, .inr (.inl ⟨NB.out, rfl, rfl, k, a, p, ⟨HAT.out, HEV2.out, HE.out⟩, by rw [HT.out, HF.out]; exact HPA.out, rfl⟩)⟩, fun _ => ⟨rfl, rfl⟩, fun h => (by cases h), World.ownsRow_nil _ _ _ _, by rw [hln]; exact OZ.out, BZ.out⟩
          · obtain rfl : l = k := by omega
            have kb9 := kbr.below B5 kbr.lt
            have r0 := kb9.cell 0
            have r1 := kb9.cell 1
            have r2 := kb9.cell 2
            have z0 := kb9.frozen 0
            have z1 := kb9.frozen 1
            have z2 := kb9.frozen 2
            simp at r0 r1 r2
            have kb5 := ((kb9.set 0 (.int .u8 1)).set 1 (.slice (some ⟨gR, 0, none⟩) n n)).set 2 (.slice none 0 0)
            simp at kb5
            have s0 := kb5.cell 0
            have s1 := kb5.cell 1
            have s2 := kb5.cell 2
            simp at s0 s1 s2
            have hbbw : w.heap.size ≤ bb := by have := HBN.out; have := HBB.out; omega
            have hbbR : bb < gR := by have := HBF.out; omega
            have BZ := Lib.hid ((((HW5.out.trans (B5.mono HW5.out.size)).setCell (p := ⟨bb, 0, none⟩) hbbw (.int .u8 1)).setCell (p := ⟨bb, 1, none⟩) hbbw (.slice (some ⟨gR, 0, none⟩) n n)).setCell (p := ⟨bb, 2, none⟩) hbbw (.slice none 0 0))
            have o9 := own_below oR B5
            have o10 := ownsRow_setCell_other (ownsRow_setCell_other (ownsRow_setCell_other o9 (a := ⟨bb, 0, none⟩) (by simp [Value.ownBlock]; omega) (.int .u8 1)) (a := ⟨bb, 1, none⟩) (by simp [Value.ownBlock]; omega) (.slice (some ⟨gR, 0, none⟩) n n)) (a := ⟨bb, 2, none⟩) (by simp [Value.ownBlock]; omega) (.slice none 0 0)
            have OZ := Lib.hid (own_mono o10 HWs.out)
            have HALL := Lib.hid (show ∀ a ∈ ars, evA (cR n ars) a = true from fun a ha => by
              obtain ⟨j, hj⟩ := List.getElem?_of_mem ha
              exact HE.out j a (by have := (List.getElem?_eq_some_iff.1 hj).1; omega) hj)
            clear kb5 kb9 o9 o10 HE B5
            go_wp2_with fail
            refine bodyPost_ret (v := .tuple #[.agg #[.int .u8 1, .slice (some ⟨gR, 0, none⟩) n n, .slice none 0 0], .int .i64 0]) (by simp [results, Tryd.results4, go_sem, s0, s1, s2]) rfl ?_
            have hln := rowN_length n (fun v => (cR n ars v : Int))
            exact ⟨1, rowN n (fun v => (cR n ars v : Int)), [], 0, some ⟨gR, 0, none⟩, n, none, 0, by rw [hln]; rfl, .inr ⟨hc, rfl, n, rfl, .inr (.inr ⟨NB.out, HALL.out, rfl, rfl, rfl⟩)⟩, fun h => (by rw [h] at hln; simp at hln; omega), fun _ => ⟨rfl, rfl⟩, by rw [hln]; exact OZ.out, World.ownsRow_nil _ _ _ _, BZ.out⟩
end Go.Proofs.YtdogddngiolpoaaDoor
