/-
  WitnessTurns: it answers true.
-/
import Derived.Test.YtkheoaleamolcaaDoorVf
namespace Go.Proofs.YtkheoaleamolcaaDoor
open Go.RowKit

theorem fit_turn {p : List StI} (h : FitT p) : FitT (turnT p) := by
  intro s hs
  unfold turnT at hs
  obtain ⟨t, ht, rfl⟩ := List.mem_map.1 (List.mem_reverse.1 hs)
  exact h t ht

theorem front_rd {w : World} {B : Nat} {A : Option Addr} {xs ys : List Value} (h : Rd w B A (xs ++ ys)) : Rd w B A xs := by
  rcases h with h | ⟨b, off, ha, hb, hc⟩
  · exact .inl (List.append_eq_nil_iff.1 h).1
  · refine .inr ⟨b, off, ha, hb, fun j u hu => hc j u ?_⟩
    rw [List.getElem?_append_left (List.getElem?_eq_some_iff.1 hu).1]; exact hu
theorem back_rd {w : World} {B k : Nat} {ad : Addr} {xs ys : List Value} (h : Rd w B (some ad) (xs ++ ys)) (hk : xs.length = k) : Rd w B (some (ad.add k)) ys := by
  rcases h with h | ⟨b, off, ha, hb, hc⟩
  · exact .inl (List.append_eq_nil_iff.1 h).2
  · injection ha with ha
    subst ha hk
    refine .inr ⟨b, off + xs.length, ?_, hb, fun j u hu => ?_⟩
    · unfold Addr.add
      split
      · rename_i h0; rw [h0]; rfl
      · rfl
    · have := hc (xs.length + j) u (by rw [List.getElem?_append_right (by omega), Nat.add_sub_cancel_left]; exact hu)
      rwa [Nat.add_assoc]

set_option maxRecDepth 100000 in
set_option maxHeartbeats 8000000 in
theorem wturns_any (n : Int) (ars : List ArcV) (A : Option Addr) (l c : Nat) (p : List StI) (Ap : Option Addr) (m cp : Nat) (k : Int) (w : World) (hl : ars.length = l) (hx : ∀ a ∈ ars, a.fit) (hr : Rd w w.heap.size A (cellsA ars)) (hm : l ≤ maxLen)
    (hp : p.length = m) (hmc : m ≤ cp) (hxp : FitT p) (hrp : Rd w w.heap.size Ap (cellsT p)) (hz : cp * 16 ≤ 140737488351232) (hk : fits k) (hT : Tab w) :
    Calls Tryd.prog 6 #[.agg #[.int .i64 n, .slice A l c], .slice Ap m cp, .int .i64 k] w fun e w' => e = .returned (.bool true) ∧ Below w.heap.size w w' := by
  obtain ⟨i1, hj, hy0, hy1, hy2⟩ := info_parts info_step
  obtain ⟨W, hW⟩ : ∃ W, w.alloc (.cells #[.int .i64 n, .slice A l c] 24) = W := ⟨_, rfl⟩
  have bW : Below w.heap.size w W := by subst hW; exact (Below.refl _ _).alloc (Nat.le_refl _) _
  have k0 : Blk W w.heap.size 24 #[.int .i64 n, .slice A l c] := by subst hW; exact Blk.new w _ rfl _ _
  have hWs : W.heap.size = w.heap.size + 1 := by subst hW; simp
  have mm : m ≤ maxLen := by unfold maxLen; omega
  have zz : m * 16 ≤ 140737488351232 := by omega
  have TO := Lib.hid (fun w1 (hb : Below w.heap.size w w1) => hT.below hb hT.pos)
  have FA := Lib.hid (fun w1 (hb : Below w.heap.size w w1) => (hr.below hb (Nat.le_refl _)).more hb.size)
  have FP := Lib.hid (fun w1 (hb : Below w.heap.size w w1) => (hrp.below hb (Nat.le_refl _)).more hb.size)
  have HCF := Lib.hid (fun (q : List StI) (Aq : Option Addr) (cq : Nat) (w1 : World) (hq : q.length = m) (hf : FitT q) (hc : m ≤ cq) (hb : Below w.heap.size w w1) (hrq : Rd w1 w1.heap.size Aq (cellsT q)) => confirm_any n ars A l c q Aq m cq w1 hl hx (FA.out w1 hb) hm hq hf hrq mm hc (TO.out w1 hb))
  have HTU := Lib.hid (fun (w1 : World) (hr1 : Rd w1 w1.heap.size Ap (cellsT p)) => turnedT_any p Ap m cp w1 hp hxp hr1 zz)
  have hc1 := HCF.out p Ap cp W hp hxp hmc bW (FP.out W bW)
  have ht := confirm_turn n ars p
  obtain ⟨r, hre⟩ : ∃ r, confirmF n ars p = r := ⟨_, rfl⟩
  rw [hre] at hc1 ht
  have HC1 := Lib.hid hc1
  have HTR := Lib.hid ht
  have HRE := Lib.hid hre
  have HP := Lib.hid hp
  have HXP := Lib.hid hxp
  have K0 := Lib.hid k0
  have f0 := k0.cell 0
  have f1 := k0.cell 1
  simp at f0 f1
  clear hT hr hrp hx hxp hc1 ht hre k0 hp hl
  go_enter Tryd.func6, Tryd.ntmps6
  go_wp2_with fail
  try rw [hW]
  refine HC1.out.mono ?_
  rintro e w2 ⟨rfl, hb2⟩
  have b2 := bW.trans (hb2.mono (by omega))
  have k2 := K0.out.lowr hb2 (by omega)
  have f0 := k2.cell 0
  have f1 := k2.cell 1
  simp at f0 f1
  have B2 := Lib.hid b2
  have K2 := Lib.hid k2
  have hlw := k2.lt
  clear hW hb2 bW b2 k2 HC1 K0
  go_upto_region 2 with fail
  go_cut [8] (fun s8 wx => s8 = .int .i64 r ∧ Below w2.heap.size w2 wx)
  case first =>
    go_region_held3 (fun w' => w'.cell? ⟨w.heap.size, 0, none⟩ = some (.int .i64 n) ∧ w'.cell? ⟨w.heap.size, 1, none⟩ = some (.slice A l c))
      (go_keep)
      (first
        | (go_at_call 20; refine (HTU.out _ (FP.out _ (Below.drewN B2.out 1))).mono ?_; rintro e' w4 ⟨A4, c4, rfl, hc4, ho4, hb4⟩; have h24 : Below w2.heap.size w2 w4 := (Below.drewN (Below.refl _ w2) 1).trans hb4; have q0 : w4.cell? ⟨w.heap.size, 0, none⟩ = some (.int .i64 n) := (h24.cell (p := ⟨w.heap.size, 0, none⟩) hlw).trans f0; have q1 : w4.cell? ⟨w.heap.size, 1, none⟩ = some (.slice A l c) := (h24.cell (p := ⟨w.heap.size, 1, none⟩) hlw).trans f1)
        | (go_at_call 16; refine (HCF.out (turnT p) A4 c4 w4 ((turnT_length p).trans HP.out) (fit_turn HXP.out) hc4 (B2.out.trans (h24.mono B2.out.size)) (rd_of_own ho4)).mono ?_; rw [HTR.out]; rintro e'' w5 ⟨rfl, hb5⟩; have h25 := h24.trans (hb5.mono h24.size); have q0 : w5.cell? ⟨w.heap.size, 0, none⟩ = some (.int .i64 n) := (h25.cell (p := ⟨w.heap.size, 0, none⟩) hlw).trans f0; have q1 : w5.cell? ⟨w.heap.size, 1, none⟩ = some (.slice A l c) := (h25.cell (p := ⟨w.heap.size, 1, none⟩) hlw).trans f1))
    go_wp2
    go_meet
    exact ⟨rfl, h25⟩
  case rest =>
    obtain ⟨rfl, hb6⟩ := hcut
    obtain ⟨w6, rfl⟩ : ∃ w6 : World, w6 = wc := ⟨_, rfl⟩
    have b6 := B2.out.trans (hb6.mono B2.out.size)
    have k6 := K2.out.lowr hb6 hlw
    have K6 := Lib.hid k6
    have f0 := k6.cell 0
    have f1 := k6.cell 1
    simp at f0 f1
    have q0 : (r == r) = true := by simp
    clear hb6 B2 K2 k6 HTU
    by_cases hk0 : k < 0
    · have d0 : decide (k < 0) = true := decide_eq_true hk0
      go_wp2_with fail
      refine (awake_any w6 (TO.out w6 b6)).mono ?_
      rintro e w7 ⟨rfl, hb7⟩
      have b7 := b6.trans (hb7.mono b6.size)
      clear hb7
      go_wp2_with fail
      go_ret
      exact ⟨rfl, b7⟩
    · have d0 : decide (k < 0) = false := decide_eq_false hk0
      by_cases hkm : (m : Int) < k
      · have d1 : decide (k > (m : Int)) = true := decide_eq_true hkm
        go_wp2_with fail
        refine (awake_any w6 (TO.out w6 b6)).mono ?_
        rintro e w7 ⟨rfl, hb7⟩
        have b7 := b6.trans (hb7.mono b6.size)
        clear hb7
        go_wp2_with fail
        go_ret
        exact ⟨rfl, b7⟩
      · rcases Ap with _ | ad
        · have r6 := FP.out w6 b6
          have h0 : cellsT p = [] := by
            rcases r6 with h | ⟨b, off, ha, _⟩
            · exact h
            · exact (by cases ha)
          have hm0 := cellsT_length p
          rw [h0, HP.out] at hm0
          have hm0' : m = 0 := by simp at hm0; omega
          subst hm0'
          obtain rfl : p = [] := List.eq_nil_of_length_eq_zero HP.out
          obtain rfl : k = 0 := by omega
          clear hk0 hkm h0 hm0
          have ra : Rd w6 w6.heap.size none (cellsT []) := .inl rfl
          have rb : Rd w6 w6.heap.size none (cellsT []) := .inl rfl
          go_wp2_with (at_builtin; refine wpList_append_rd _ rfl (.tmp 31) (.tmp 34) 25 rfl w6.heap.size 43 i1 (.agg #[.int .i64 0, .bool false]) 2 16 Tryd.underlying25 hj hy0 hy1 hy2 rfl (by decide) _ 0 [] rfl (World.ownsRow_nil _ _ _ _) w6.heap.size none (0) (cp) (cellsT []) rfl rfl ra (cellsT_one _) (by unfold maxLen; omega) (by omega) (Nat.le_refl _) ?_)
          intro v7 w7 o7 g7 hb7
          obtain ⟨A7, c7, rfl, -⟩ := own_slice o7
          try rw [List.nil_append] at o7
          have b67 : Below w6.heap.size w6 w7 := (Below.refl _ _).grown g7 (Nat.le_refl _) (fun k hk => by simp [Value.ownBlock] at hk)
          have rb7 := (rb.below b67 (Nat.le_refl _)).more b67.size
          go_wp2_with (at_builtin; refine wpList_append_rd _ rfl (.tmp 36) (.tmp 39) 25 rfl w6.heap.size 43 i1 (.agg #[.int .i64 0, .bool false]) 2 16 Tryd.underlying25 hj hy0 hy1 hy2 rfl (by decide) _ (0) (cellsT []) rfl o7 w7.heap.size none (0) (cp) (cellsT []) rfl rfl rb7 (cellsT_one _) (by unfold maxLen; omega) (by omega) b67.size ?_)
          intro v8 w8 o8 g8 hb8
          obtain ⟨A8, c8, rfl, hc8⟩ := own_slice o8
          have o9 : w8.ownsRow w6.heap.size 43 2 (.slice A8 0 c8) 0 (cellsT (([] : List StI) ++ [])) := by rw [cellsT_append]; first | exact o8 | (rw [Nat.zero_add] at o8; exact o8) 
          have hc9 : 0 ≤ c8 := by omega
          have e9 : 0 + 0 = 0 := by omega
          try rw [e9]
          have b68 : Below w6.heap.size w6 w8 := b67.grown g8 b67.size (fun k hk => own_ge o7 hk)
          have b8 := b6.trans (b68.mono b6.size)
          have k8 := K6.out.lowr b68 (by have := K6.out.lt; omega)
          have f0 := k8.cell 0
          have f1 := k8.cell 1
          simp at f0 f1
          have hq8 : ([] ++ [] : List StI).length = 0 := rfl
          have hf8 : FitT ([] ++ []) := HXP.out
          have hC9 := HCF.out ([] ++ []) A8 c8 w8 hq8 hf8 hc9 b8 (rd_of_own o9)
          rw [List.append_nil, HRE.out] at hC9
          clear o7 o8 o9 g7 g8 hb7 hb8 rb7 ra rb b67 b68 i1 hj hy0 hy1 hy2
          go_wp2_with fail
          refine hC9.mono ?_
          rintro e w9 ⟨rfl, hb9⟩
          have b9 := b8.trans (hb9.mono b8.size)
          go_wp2_with fail
          refine (awake_any w9 (TO.out w9 b9)).mono ?_
          rintro e w10 ⟨rfl, hb10⟩
          have b10 := b9.trans (hb10.mono b9.size)
          clear hb10
          go_wp2_with fail
          go_ret
          exact ⟨rfl, b10⟩
        · obtain ⟨j, rfl⟩ : ∃ j : Nat, k = (j : Int) := ⟨k.toNat, by omega⟩
          have d1 : decide ((j : Int) > (m : Int)) = false := decide_eq_false hkm
          have hjm : j ≤ m := by omega
          have hjc : j ≤ cp := by omega
          clear hk0 hkm hk
          have r6 := FP.out w6 b6
          have hla : (cellsT (p.drop j)).length = (m - j) * 2 := by rw [cellsT_length, List.length_drop, HP.out]
          have hlb : (cellsT (p.take j)).length = j * 2 := by rw [cellsT_length, List.length_take, HP.out, Nat.min_eq_left hjm]
          have h6 : cellsT p = cellsT (p.take j) ++ cellsT (p.drop j) := by rw [← cellsT_append, List.take_append_drop]
          rw [h6] at r6
          by_cases hcj : cp = j
          · subst hcj
            obtain rfl : m = cp := by omega
            have ra : Rd w6 w6.heap.size (some ad) (cellsT (p.drop m)) := .inl (List.eq_nil_of_length_eq_zero (by rw [hla]; omega))
            have rb : Rd w6 w6.heap.size (some ad) (cellsT (p.take m)) := front_rd r6
            go_wp2_with (at_builtin; refine wpList_append_rd _ rfl (.tmp 31) (.tmp 34) 25 rfl w6.heap.size 43 i1 (.agg #[.int .i64 0, .bool false]) 2 16 Tryd.underlying25 hj hy0 hy1 hy2 rfl (by decide) _ 0 [] rfl (World.ownsRow_nil _ _ _ _) w6.heap.size (some ad) (0) (0) (cellsT (p.drop m)) rfl (hla.trans (by omega)) ra (cellsT_one _) (by unfold maxLen at mm ⊢; omega) (by omega) (Nat.le_refl _) ?_)
            intro v7 w7 o7 g7 hb7
            obtain ⟨A7, c7, rfl, -⟩ := own_slice o7
            try rw [List.nil_append] at o7
            have b67 : Below w6.heap.size w6 w7 := (Below.refl _ _).grown g7 (Nat.le_refl _) (fun k hk => by simp [Value.ownBlock] at hk)
            have rb7 := (rb.below b67 (Nat.le_refl _)).more b67.size
            go_wp2_with (at_builtin; refine wpList_append_rd _ rfl (.tmp 36) (.tmp 39) 25 rfl w6.heap.size 43 i1 (.agg #[.int .i64 0, .bool false]) 2 16 Tryd.underlying25 hj hy0 hy1 hy2 rfl (by decide) _ (0) (cellsT (p.drop m)) rfl o7 w7.heap.size (some ad) (m) (m) (cellsT (p.take m)) rfl (hlb.trans (by omega)) rb7 (cellsT_one _) (by unfold maxLen at mm ⊢; omega) (by omega) b67.size ?_)
            intro v8 w8 o8 g8 hb8
            obtain ⟨A8, c8, rfl, hc8⟩ := own_slice o8
            have o9 : w8.ownsRow w6.heap.size 43 2 (.slice A8 m c8) m (cellsT (p.drop m ++ p.take m)) := by rw [cellsT_append]; first | exact o8 | (rw [Nat.zero_add] at o8; exact o8) 
            have hc9 : m ≤ c8 := by omega
            have e9 : 0 + m = m := by omega
            try rw [e9]
            have b68 : Below w6.heap.size w6 w8 := b67.grown g8 b67.size (fun k hk => own_ge o7 hk)
            have b8 := b6.trans (b68.mono b6.size)
            have k8 := K6.out.lowr b68 (by have := K6.out.lt; omega)
            have f0 := k8.cell 0
            have f1 := k8.cell 1
            simp at f0 f1
            have hq8 : (p.drop m ++ p.take m).length = m := by rw [← HP.out, List.length_append, List.length_drop, List.length_take]; omega
            have hf8 : FitT (p.drop m ++ p.take m) := fun s hs => HXP.out s ((List.mem_append.1 hs).elim List.mem_of_mem_drop List.mem_of_mem_take)
            have hC9 := HCF.out (p.drop m ++ p.take m) A8 c8 w8 hq8 hf8 hc9 b8 (rd_of_own o9)
            rw [confirm_swap n ars (p.take m) (p.drop m), List.take_append_drop, HRE.out] at hC9
            clear o7 o8 o9 g7 g8 hb7 hb8 rb7 ra rb b67 b68 i1 hj hy0 hy1 hy2
            go_wp2_with fail
            refine hC9.mono ?_
            rintro e w9 ⟨rfl, hb9⟩
            have b9 := b8.trans (hb9.mono b8.size)
            go_wp2_with fail
            refine (awake_any w9 (TO.out w9 b9)).mono ?_
            rintro e w10 ⟨rfl, hb10⟩
            have b10 := b9.trans (hb10.mono b9.size)
            clear hb10
            go_wp2_with fail
            go_ret
            exact ⟨rfl, b10⟩
          · have ra : Rd w6 w6.heap.size (some (ad.add (j * 2))) (cellsT (p.drop j)) := back_rd r6 hlb
            have rb : Rd w6 w6.heap.size (some ad) (cellsT (p.take j)) := front_rd r6
            go_wp2_with (at_builtin; refine wpList_append_rd _ rfl (.tmp 31) (.tmp 34) 25 rfl w6.heap.size 43 i1 (.agg #[.int .i64 0, .bool false]) 2 16 Tryd.underlying25 hj hy0 hy1 hy2 rfl (by decide) _ 0 [] rfl (World.ownsRow_nil _ _ _ _) w6.heap.size (some (ad.add (j * 2))) ((m - j)) (cp - j) (cellsT (p.drop j)) rfl (hla.trans (by omega)) ra (cellsT_one _) (by unfold maxLen at mm ⊢; omega) (by omega) (Nat.le_refl _) ?_)
            intro v7 w7 o7 g7 hb7
            obtain ⟨A7, c7, rfl, -⟩ := own_slice o7
            try rw [List.nil_append] at o7
            have b67 : Below w6.heap.size w6 w7 := (Below.refl _ _).grown g7 (Nat.le_refl _) (fun k hk => by simp [Value.ownBlock] at hk)
            have rb7 := (rb.below b67 (Nat.le_refl _)).more b67.size
            go_wp2_with (at_builtin; refine wpList_append_rd _ rfl (.tmp 36) (.tmp 39) 25 rfl w6.heap.size 43 i1 (.agg #[.int .i64 0, .bool false]) 2 16 Tryd.underlying25 hj hy0 hy1 hy2 rfl (by decide) _ ((m - j)) (cellsT (p.drop j)) rfl o7 w7.heap.size (some ad) (j) (cp) (cellsT (p.take j)) rfl (hlb.trans (by omega)) rb7 (cellsT_one _) (by unfold maxLen at mm ⊢; omega) (by omega) b67.size ?_)
            intro v8 w8 o8 g8 hb8
            obtain ⟨A8, c8, rfl, hc8⟩ := own_slice o8
            have o9 : w8.ownsRow w6.heap.size 43 2 (.slice A8 m c8) m (cellsT (p.drop j ++ p.take j)) := by rw [cellsT_append]; first | exact o8 | (rw [Nat.zero_add] at o8; exact o8) 
            have hc9 : m ≤ c8 := by omega
            have e9 : (m - j) + j = m := by omega
            try rw [e9]
            have b68 : Below w6.heap.size w6 w8 := b67.grown g8 b67.size (fun k hk => own_ge o7 hk)
            have b8 := b6.trans (b68.mono b6.size)
            have k8 := K6.out.lowr b68 (by have := K6.out.lt; omega)
            have f0 := k8.cell 0
            have f1 := k8.cell 1
            simp at f0 f1
            have hq8 : (p.drop j ++ p.take j).length = m := by rw [← HP.out, List.length_append, List.length_drop, List.length_take]; omega
            have hf8 : FitT (p.drop j ++ p.take j) := fun s hs => HXP.out s ((List.mem_append.1 hs).elim List.mem_of_mem_drop List.mem_of_mem_take)
            have hC9 := HCF.out (p.drop j ++ p.take j) A8 c8 w8 hq8 hf8 hc9 b8 (rd_of_own o9)
            rw [confirm_swap n ars (p.take j) (p.drop j), List.take_append_drop, HRE.out] at hC9
            clear o7 o8 o9 g7 g8 hb7 hb8 rb7 ra rb b67 b68 i1 hj hy0 hy1 hy2
            go_wp2_with fail
            refine hC9.mono ?_
            rintro e w9 ⟨rfl, hb9⟩
            have b9 := b8.trans (hb9.mono b8.size)
            go_wp2_with fail
            refine (awake_any w9 (TO.out w9 b9)).mono ?_
            rintro e w10 ⟨rfl, hb10⟩
            have b10 := b9.trans (hb10.mono b9.size)
            clear hb10
            go_wp2_with fail
            go_ret
            exact ⟨rfl, b10⟩
end Go.Proofs.YtkheoaleamolcaaDoor
