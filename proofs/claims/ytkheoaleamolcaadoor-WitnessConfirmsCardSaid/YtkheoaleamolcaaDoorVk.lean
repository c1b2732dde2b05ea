/-
  pianolaref12.Products: the rates along steps, and against them.
-/
import Derived.Test.YtkheoaleamolcaaDoorVb
import Derived.BigRegion
namespace Go.Proofs.YtkheoaleamolcaaDoor
open Go.RowKit

set_option maxRecDepth 100000 in
set_option maxHeartbeats 4000000 in
theorem refProducts_any (n : Int) (ars : List ArcV) (A : Option Addr) (l c : Nat) (p : List StI) (Ap : Option Addr) (m cp : Nat) (w : World) (hl : ars.length = l) (hx : ∀ a ∈ ars, a.fit) (hr : Rd w w.heap.size A (cellsA ars)) (hm : l ≤ maxLen)
    (hp : p.length = m) (hxp : FitT p) (hrp : Rd w w.heap.size Ap (cellsT p)) (hmp : m ≤ maxLen) :
    Calls Tryd.prog 8 #[.agg #[.int .i64 n, .slice A l c], .slice Ap m cp] w (TwoPost w (prodsF n ars p).1 (prodsF n ars p).2.1 (prodsF n ars p).2.2) := by
  obtain ⟨i, hi, hz0, hz1, hz2⟩ := info_parts info_int
  obtain ⟨W, hW⟩ : ∃ W, w.alloc (.cells #[.int .i64 n, .slice A l c] 24) = W := ⟨_, rfl⟩
  have bW : Below w.heap.size w W := by subst hW; exact (Below.refl _ _).alloc (Nat.le_refl _) _
  have k0 : Blk W w.heap.size 24 #[.int .i64 n, .slice A l c] := by subst hW; exact Blk.new w _ rfl _ _
  have hWs : W.heap.size = w.heap.size + 1 := by subst hW; simp
  have HC := Lib.hid (refCheck_any n ars A l c W hl hx ((hr.below bW (Nat.le_refl _)).more bW.size) hm)
  have f0 := k0.cell 0
  have f1 := k0.cell 1
  simp at f0 f1
  unfold maxLen at hm hmp
  by_cases h1 : checkF n ars ≠ 0
  · have e : prodsF n ars p = ([], [], checkF n ars) := by unfold prodsF; rw [if_pos h1]
    rw [e]
    obtain ⟨k, hk⟩ : ∃ k, checkF n ars = k := ⟨_, rfl⟩
    rw [hk] at HC h1 ⊢
    have q : (k != 0) = true := by simpa using h1
    clear e hk h1 hx hr hxp hrp
    go_enter Tryd.func8, Tryd.ntmps8
    go_wp2_with fail
    try rw [hW]
    refine HC.out.mono ?_
    rintro e w2 ⟨rfl, hb2⟩
    clear hW f0 f1
    go_wp2_with fail
    go_ret3
    exact two_none (bW.trans (hb2.mono (by omega)))
  · have h1 : checkF n ars = 0 := Decidable.not_not.1 h1
    rw [h1] at HC
    by_cases h2 : 96 < p.length
    · have e : prodsF n ars p = ([], [], 2) := by unfold prodsF; rw [if_neg (by simpa using h1), if_pos h2]
      rw [e]
      have q : decide ((m : Int) > 96) = true := decide_eq_true (by omega)
      clear e h1 hx hr hxp hrp
      go_enter Tryd.func8, Tryd.ntmps8
      go_wp2_with fail
      try rw [hW]
      refine HC.out.mono ?_
      rintro e w2 ⟨rfl, hb2⟩
      clear hW f0 f1
      go_wp2_with fail
      go_ret3
      exact two_none (bW.trans (hb2.mono (by omega)))
    · have e : prodsF n ars p = if allIn ars.length p = true then (p.map (giveS ars), p.map (takeS ars), 0) else ([], [], 120) := by unfold prodsF; rw [if_neg (by simpa using h1), if_neg h2]
      have q : decide ((m : Int) > 96) = false := decide_eq_false (by omega)
      have HE := Lib.hid e
      have HX := Lib.hid hx
      have HXP := Lib.hid hxp
      have HL := Lib.hid hl
      have HP := Lib.hid hp
      have HR := Lib.hid hr
      have HRP := Lib.hid hrp
      have K0 := Lib.hid k0
      have hm96 : m ≤ 96 := by omega
      clear e h1 hx hr hxp hrp hl hp h2 k0
      go_enter Tryd.func8, Tryd.ntmps8
      go_wp2_with fail
      try rw [hW]
      refine HC.out.mono ?_
      rintro e w2 ⟨rfl, hb2⟩
      have b2 := bW.trans (hb2.mono (by omega))
      have k2 := K0.out.lowr hb2 (by omega)
      have hs2 := hb2.size
      clear hb2 hW f0 f1 HC
      go_wp2_with fail
      have S0 : PrSt w w2 n A l c 0 (.slice none 0 0) (.slice none 0 0) [] [] :=
        ⟨k2, World.ownsRow_nil _ _ _ _, World.ownsRow_nil _ _ _ _, fun k h h' => by simp [Value.ownBlock] at h, b2⟩
      clear k2 b2 bW K0
      go_loopw [8, 9, 10] (fun va vb i wr => ∃ k : Nat, k ≤ m ∧ i = .int .i64 k ∧ PrSt w wr n A l c k va vb ((p.take k).map (giveS ars)) ((p.take k).map (takeS ars)) ∧ Hid (allIn ars.length (p.take k) = true)) (fun _ _ i _ => m - (intOf i).toNat)
      case atStart => exact ⟨0, Nat.zero_le _, rfl, by simpa using S0, by unfold Hid; simp [allIn]⟩
      case round =>
        clear S0 hs2
        obtain ⟨k, hk, rfl, S, HI⟩ := hrel
        have bw := S.bw
        by_cases hlt : k < m
        · obtain ⟨bp, op, x, t, rfl, hbp, hxf, c0, c1, hd, hxx⟩ := (HRP.out.below bw (Nat.le_refl _)).sti HXP.out (k := k) (by rw [HP.out]; exact hlt)
          have hbwr : bp < wr.heap.size := by have := bw.size; omega
          have n1 := S.kn.cell 1
          simp at n1
          have j1 : (0 : Int) ≤ (k : Int) := by omega
          have j2 : (k : Int) < (m : Int) := by omega
          have hnsz := S.kn.lt
          by_cases hx0 : x < 0
          · have q1 : decide (x < 0) = true := decide_eq_true hx0
            have HN := Lib.hid (show prodsF n ars p = ([], [], 120) by rw [HE.out, allIn_not (L := ars.length) hxx.out (by unfold inS; exact decide_eq_false (by show ¬ (0 ≤ x ∧ _); omega))]; rfl)
            have HB := Lib.hid S.bw
            rw [HN.out]
            clear S hd hxx bw HE
            go_wp2_with fail
            go_quiet (fail)
            go_wp2_with fail
            go_ret3
            exact two_none (Below.drewN HB.out _)
          · by_cases hxl : x < (l : Int)
            · obtain ⟨j, rfl⟩ : ∃ j : Nat, x = (j : Int) := ⟨x.toNat, by omega⟩
              obtain ⟨ba, oa, a, rfl, hba, hfa, c4, c5, c6, c7, c8, -, haa⟩ := (HR.out.below S.bw (Nat.le_refl _)).arc HX.out (k := j) (by rw [HL.out]; omega)
              have q1 : decide ((j : Int) < 0) = false := decide_eq_false (by omega)
              have q2 : decide ((j : Int) ≥ (l : Int)) = false := decide_eq_false (by omega)
              have hin : inS ars.length ((j : Int), t) = true := by unfold inS; rw [HL.out]; exact decide_eq_true (by show 0 ≤ (j : Int) ∧ _; omega)
              have HI2 : Hid (allIn ars.length (p.take (k + 1)) = true) := by unfold Hid; rw [allIn_take hxx.out, HI.out, hin]; rfl
              have ha := arc_at haa.out t
              have HG := Lib.hid (show (p.take (k + 1)).map (giveS ars) = (p.take k).map (giveS ars) ++ [if t = true then a.k else a.g] by rw [map_take_succ _ hxx.out]; unfold giveS; rw [ha])
              have HT := Lib.hid (show (p.take (k + 1)).map (takeS ars) = (p.take k).map (takeS ars) ++ [if t = true then a.g else a.k] by rw [map_take_succ _ hxx.out]; unfold takeS; rw [ha])
              obtain ⟨la, hla⟩ : ∃ la, (p.take k).map (giveS ars) = la := ⟨_, rfl⟩
              obtain ⟨lb, hlb⟩ : ∃ lb, (p.take k).map (takeS ars) = lb := ⟨_, rfl⟩
              rw [hla] at HG S
              rw [hlb] at HT S
              have i1 : (0 : Int) ≤ (j : Int) := by omega
              have i2 : (j : Int) < (l : Int) := by omega
              have hbaw : ba < wr.heap.size := by have := S.bw.size; omega
              clear hla hlb ha haa hin hd hxx bw hx0 hxl hfa hxf
              go_wp2_with fail
              go_quiet (fail)
              generalize hW4 : World.drewN _ _ = W4
              have S4 : PrSt w W4 n (some ⟨ba, oa, none⟩) l c k u8 u9 la lb := by rw [← hW4]; exact S.drawn _
              have n1 := S4.kn.cell 1
              simp at n1
              have c0 : W4.cell? ⟨bp, op + k * 2, none⟩ = some (.int .i64 (j : Nat)) := by rw [← hW4]; exact c0
              have c1 : W4.cell? ⟨bp, op + k * 2 + 1, none⟩ = some (.bool t) := by rw [← hW4]; exact c1
              have c4 : W4.cell? ⟨ba, oa + j * 5, none⟩ = some (.int .i64 a.f) := by rw [← hW4]; exact c4
              have c5 : W4.cell? ⟨ba, oa + j * 5 + 1, none⟩ = some (.int .i64 a.t) := by rw [← hW4]; exact c5
              have c6 : W4.cell? ⟨ba, oa + j * 5 + 2, none⟩ = some (.int .i64 a.g) := by rw [← hW4]; exact c6
              have c7 : W4.cell? ⟨ba, oa + j * 5 + 3, none⟩ = some (.int .i64 a.k) := by rw [← hW4]; exact c7
              have c8 : W4.cell? ⟨ba, oa + j * 5 + 4, none⟩ = some (.int .i64 a.s) := by rw [← hW4]; exact c8
              have hbpw : bp < W4.heap.size := by rw [← hW4]; exact hbwr
              have hbaw : ba < W4.heap.size := by rw [← hW4]; exact hbaw
              have far : ∀ (b' : Nat) (o : Nat), b' < W4.heap.size → (W4.alloc (.cells #[.int .i64 0, .int .i64 0, .int .i64 0, .int .i64 0, .int .i64 0] 46)).cell? ⟨b', o, none⟩ = W4.cell? ⟨b', o, none⟩ := fun b' o hb => ((Below.refl W4.heap.size W4).alloc (Nat.le_refl _) (.cells #[.int .i64 0, .int .i64 0, .int .i64 0, .int .i64 0, .int .i64 0] 46)).cell (p := ⟨b', o, none⟩) hb
              have zn1 := (far _ 1 S4.kn.lt).trans n1
              have zc0 := (far _ _ hbpw).trans c0
              have z4 := (far _ _ hbaw).trans c4
              have z5 := (far _ _ hbaw).trans c5
              have z6 := (far _ _ hbaw).trans c6
              have z7 := (far _ _ hbaw).trans c7
              have z8 := (far _ _ hbaw).trans c8
              clear S hW4 hnsz far
              go_wp2_with fail
              go_region
              have bA := (Below.refl W4.heap.size W4).alloc (Nat.le_refl _) (.cells #[.int .i64 a.f, .int .i64 a.t, .int .i64 a.g, .int .i64 a.k, .int .i64 a.s] 46)
              have S5 := (S4.alloc (.cells #[.int .i64 a.f, .int .i64 a.t, .int .i64 a.g, .int .i64 a.k, .int .i64 a.s] 46)).drawn 1
              have ka := Blk.new W4 _ rfl 46 #[.int .i64 a.f, .int .i64 a.t, .int .i64 a.g, .int .i64 a.k, .int .i64 a.s]
              have ka5 : Blk (W4.alloc (.cells #[.int .i64 a.f, .int .i64 a.t, .int .i64 a.g, .int .i64 a.k, .int .i64 a.s] 46)).drew W4.heap.size 46 #[.int .i64 a.f, .int .i64 a.t, .int .i64 a.g, .int .i64 a.k, .int .i64 a.s] := ka
              have c1 : (W4.alloc (.cells #[.int .i64 a.f, .int .i64 a.t, .int .i64 a.g, .int .i64 a.k, .int .i64 a.s] 46)).drew.cell? ⟨bp, op + k * 2 + 1, none⟩ = some (.bool t) := (bA.cell (p := ⟨bp, op + k * 2 + 1, none⟩) hbpw).trans c1
              have hva : ∀ j, u8.ownBlock = some j → j < W4.heap.size := fun j hj => (S4.oa.lt j hj).2
              have hvb : ∀ j, u9.ownBlock = some j → j < W4.heap.size := fun j hj => (S4.ob.lt j hj).2
              have S5 : PrSt w (W4.alloc (.cells #[.int .i64 a.f, .int .i64 a.t, .int .i64 a.g, .int .i64 a.k, .int .i64 a.s] 46)).drew n (some ⟨ba, oa, none⟩) l c k u8 u9 la lb := S5
              clear S4 ka bA n1 c0 c4 c5 c6 c7 c8 zn1 zc0 z4 z5 z6 z7 z8 hbaw
              obtain ⟨gA, hgA⟩ : ∃ g, W4.heap.size = g := ⟨_, rfl⟩
              obtain ⟨W5, hW5⟩ : ∃ W, (W4.alloc (.cells #[.int .i64 a.f, .int .i64 a.t, .int .i64 a.g, .int .i64 a.k, .int .i64 a.s] 46)).drew = W := ⟨_, rfl⟩
              rw [hW5] at S5 ka5 c1
              rw [hgA] at ka5 hva hvb
              rw [hW5, hgA]
              clear hW5 hgA hbpw hbwr
              have S4 := S5
              have hsz4 := S4.bw.size
              have d0 := ka5.cell 2
              have d1 := ka5.cell 3
              simp at d0 d1
              have KA5 := Lib.hid ka5
              have HVA := Lib.hid hva
              have ALA := Lib.hid (S4.oa)
              clear S5 hva hvb ka5
              cases t with
              | true =>
                go_wp2_with (at_builtin; refine wpList_append_rd _ rfl (.tmp 57) (.tmp 60) 26 rfl (w.heap.size + 1) 3 i (.int .i64 0) 1 8 Tryd.underlying26 hi hz0 hz1 hz2 rfl (by decide) _ k (cellsI la) rfl (ALA.out.alloc _) (W5.heap.size + 1) (some ⟨W5.heap.size, 0, none⟩) 1 1 (cellsI [a.k]) rfl rfl (rd_alloc W5 _ rfl 3 (cellsI [a.k])) (cellsI_one _) (by unfold maxLen; omega) (by omega) (by simp; omega) ?_)
                intro v5 w5 o5 g5 hat
                have h5 := step_two S4 g5 hat
                have KN5 := Lib.hid h5.1
                have OB5 := Lib.hid h5.2.1
                have NE5 := Lib.hid h5.2.2.1
                have b5 := h5.2.2.2
                have hs5 := b5.size
                have hv5 : ∀ j, v5.ownBlock = some j → w.heap.size + 1 ≤ j ∧ j < w5.heap.size := o5.lt
                have O5 := Lib.hid o5
                have HV5 := Lib.hid hv5
                have ka6 := (KA5.out.alloc (.cells (cellsI [a.k]).toArray 3)).grown g5 (fun he => by have := HVA.out _ he.symm; have := KA5.out.lt; omega)
                have d0 := ka6.cell 2
                have d1 := ka6.cell 3
                simp at d0 d1
                clear hat h5 o5 g5 hv5 S4 ka6
                go_wp2_with (at_builtin; refine wpList_append_rd _ rfl (.tmp 62) (.tmp 65) 26 rfl (w.heap.size + 1) 3 i (.int .i64 0) 1 8 Tryd.underlying26 hi hz0 hz1 hz2 rfl (by decide) _ k (cellsI lb) rfl (OB5.out.alloc _) (w5.heap.size + 1) (some ⟨w5.heap.size, 0, none⟩) 1 1 (cellsI [a.g]) rfl rfl (rd_alloc w5 _ rfl 3 (cellsI [a.g])) (cellsI_one _) (by unfold maxLen; omega) (by omega) (by simp; omega) ?_)
                intro v6 w6 o6 g6 hat
                have S6 := step_two2 KN5.out O5.out OB5.out NE5.out b5 o6 g6 hat
                rw [show cellsI la ++ cellsI [a.k] = cellsI (la ++ [a.k]) by simp [cellsI], show cellsI lb ++ cellsI [a.g] = cellsI (lb ++ [a.g]) by simp [cellsI]] at S6
                clear hat o6 g6 KN5 O5 OB5 NE5 b5 hs5 HV5
                go_wp2_with fail
                go_roundw
                case rel => exact ⟨k + 1, by omega, by go_num, by rw [HG.out, HT.out]; exact ⟨S6.1, S6.2.1, S6.2.2.1, S6.2.2.2.1, S6.2.2.2.2⟩, HI2⟩
                case measure => simp [intOf]; omega
              | false =>
                go_wp2_with (at_builtin; refine wpList_append_rd _ rfl (.tmp 67) (.tmp 70) 26 rfl (w.heap.size + 1) 3 i (.int .i64 0) 1 8 Tryd.underlying26 hi hz0 hz1 hz2 rfl (by decide) _ k (cellsI la) rfl (ALA.out.alloc _) (W5.heap.size + 1) (some ⟨W5.heap.size, 0, none⟩) 1 1 (cellsI [a.g]) rfl rfl (rd_alloc W5 _ rfl 3 (cellsI [a.g])) (cellsI_one _) (by unfold maxLen; omega) (by omega) (by simp; omega) ?_)
                intro v5 w5 o5 g5 hat
                have h5 := step_two S4 g5 hat
                have KN5 := Lib.hid h5.1
                have OB5 := Lib.hid h5.2.1
                have NE5 := Lib.hid h5.2.2.1
                have b5 := h5.2.2.2
                have hs5 := b5.size
                have hv5 : ∀ j, v5.ownBlock = some j → w.heap.size + 1 ≤ j ∧ j < w5.heap.size := o5.lt
                have O5 := Lib.hid o5
                have HV5 := Lib.hid hv5
                have ka6 := (KA5.out.alloc (.cells (cellsI [a.g]).toArray 3)).grown g5 (fun he => by have := HVA.out _ he.symm; have := KA5.out.lt; omega)
                have d0 := ka6.cell 2
                have d1 := ka6.cell 3
                simp at d0 d1
                clear hat h5 o5 g5 hv5 S4 ka6
                go_wp2_with (at_builtin; refine wpList_append_rd _ rfl (.tmp 72) (.tmp 75) 26 rfl (w.heap.size + 1) 3 i (.int .i64 0) 1 8 Tryd.underlying26 hi hz0 hz1 hz2 rfl (by decide) _ k (cellsI lb) rfl (OB5.out.alloc _) (w5.heap.size + 1) (some ⟨w5.heap.size, 0, none⟩) 1 1 (cellsI [a.k]) rfl rfl (rd_alloc w5 _ rfl 3 (cellsI [a.k])) (cellsI_one _) (by unfold maxLen; omega) (by omega) (by simp; omega) ?_)
                intro v6 w6 o6 g6 hat
                have S6 := step_two2 KN5.out O5.out OB5.out NE5.out b5 o6 g6 hat
                rw [show cellsI la ++ cellsI [a.g] = cellsI (la ++ [a.g]) by simp [cellsI], show cellsI lb ++ cellsI [a.k] = cellsI (lb ++ [a.k]) by simp [cellsI]] at S6
                clear hat o6 g6 KN5 O5 OB5 NE5 b5 hs5 HV5
                go_wp2_with fail
                go_roundw
                case rel => exact ⟨k + 1, by omega, by go_num, by rw [HG.out, HT.out]; exact ⟨S6.1, S6.2.1, S6.2.2.1, S6.2.2.2.1, S6.2.2.2.2⟩, HI2⟩
                case measure => simp [intOf]; omega
            · have q1 : decide (x < 0) = false := decide_eq_false hx0
              have q2 : decide (x ≥ (l : Int)) = true := decide_eq_true (by omega)
              have HN := Lib.hid (show prodsF n ars p = ([], [], 120) by rw [HE.out, allIn_not (L := ars.length) hxx.out (by unfold inS; rw [HL.out]; exact decide_eq_false (by show ¬ (_ ∧ x < _); omega))]; rfl)
              have HB := Lib.hid S.bw
              rw [HN.out]
              clear S hd hxx bw HE
              go_wp2_with fail
              go_quiet (fail)
              go_wp2_with fail
              go_ret3
              exact two_none (Below.drewN HB.out _)
        · have hkm : p.take k = p := List.take_of_length_le (by rw [HP.out]; omega)
          rw [hkm] at S HI
          have HN := Lib.hid (show prodsF n ars p = (p.map (giveS ars), p.map (takeS ars), 0) by rw [HE.out, if_pos HI.out])
          obtain rfl : k = m := by omega
          obtain ⟨Aa, ca, rfl, -⟩ := own_slice S.oa
          obtain ⟨Ab, cb, rfl, -⟩ := own_slice S.ob
          have hS := Lib.hid S
          have HL1 := Lib.hid (show (p.map (giveS ars)).length = k by rw [List.length_map, HP.out])
          have HL2 := Lib.hid (show (p.map (takeS ars)).length = k by rw [List.length_map, HP.out])
          clear S bw hkm HE HI
          go_wp2_with fail
          go_ret3
          rw [HN.out]
          exact two_of HL1.out HL2.out (World.ownsRow.mono hS.out.oa (by omega)) (World.ownsRow.mono hS.out.ob (by omega)) hS.out.ne hS.out.bw
end Go.Proofs.YtkheoaleamolcaaDoor
