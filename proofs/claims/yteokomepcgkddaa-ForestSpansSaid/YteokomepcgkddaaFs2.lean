/-
  The law ForestSpans: the forest spans, and has no cycle.
-/
import Derived.Test.YteokomepcgkddaaFj2
namespace Go.Proofs.Yteokomepcgkddaa
open Go.RowKit

def partsK (up : List Int) (k : Nat) : Nat := (List.range k).countP fun v => decide (root up v = v)
theorem partsK_succ (up : List Int) (k : Nat) : partsK up (k + 1) = partsK up k + if root up k = k then 1 else 0 := by
  unfold partsK
  rw [List.range_succ, List.countP_append]
  by_cases h : root up k = k <;> simp [h]
theorem partsK_le (up : List Int) (k : Nat) : partsK up k ≤ k := by
  have := List.countP_le_length (p := fun v => decide (root up v = v)) (l := List.range k)
  simpa [partsK] using this

set_option maxRecDepth 100000 in
set_option maxHeartbeats 4000000 in
theorem spansLaw_any (n : Int) (ars : List ArcV) (A : Option Addr) (l c : Nat) (w : World) (hl : ars.length = l) (hx : ∀ a ∈ ars, a.fit) (hr : Rd w w.heap.size A (cellsA ars)) (hm : l ≤ maxLen) :
    Calls Try.prog 5 #[.agg #[.int .i64 n, .slice A l c]] w fun e w' => e = .returned (.bool true) ∧ Below w.heap.size w w' := by
  have b1 := (Below.refl w.heap.size w).alloc (Nat.le_refl _) (.cells #[.int .i64 n, .slice A l c] 24)
  have kb := Blk.new w _ rfl 24 #[.int .i64 n, .slice A l c]
  go_enter Try.func5, Try.ntmps5
  go_wp2_with fail
  refine (of_any n ars A l c _ hl hx ((hr.below b1 (Nat.le_refl _)).more b1.size) hm).mono ?_; rintro e w2 ⟨At, ct, Ah, ch, k1, tree, home, rfl, ha1, rt, rh, hb2⟩
  have b2 := b1.trans (hb2.mono b1.size)
  have k2 := (kb.below hb2 (by simp)).alloc (.cells #[.slice At tree.length ct, .slice Ah home.length ch] 27)
  have f2 := Blk.new w2 _ rfl 27 #[.slice At tree.length ct, .slice Ah home.length ch]
  have b3 := b2.alloc b2.size (.cells #[.slice At tree.length ct, .slice Ah home.length ch] 27)
  have rt3 : Rd (w2.alloc (.cells #[.slice At tree.length ct, .slice Ah home.length ch] 27)) w2.heap.size At (cellsI tree) := rt.below ((Below.refl w2.heap.size w2).alloc (Nat.le_refl _) _) (Nat.le_refl _)
  have rh3 : Rd (w2.alloc (.cells #[.slice At tree.length ct, .slice Ah home.length ch] 27)) w2.heap.size Ah (cellsI home) := rh.below ((Below.refl w2.heap.size w2).alloc (Nat.le_refl _) _) (Nat.le_refl _)
  obtain ⟨W, hW⟩ : ∃ W, w2.alloc (.cells #[.slice At tree.length ct, .slice Ah home.length ch] 27) = W := ⟨_, rfl⟩
  obtain ⟨bF, hbF⟩ : ∃ bF, w2.heap.size = bF := ⟨_, rfl⟩
  rw [hW] at k2 f2 b3 rt3 rh3
  rw [hbF] at f2 rt3 rh3
  have rW := (hr.below b3 (Nat.le_refl _)).more b3.size
  have hfl := f2.lt
  have n0 := k2.cell 0
  have n1 := k2.cell 1
  have f0 := f2.cell 0
  have f1 := f2.cell 1
  simp at n0 n1 f0 f1
  clear kb b1 hb2 b2 rt rh
  go_upto_region 2 with fail
  try rw [hW]
  clear hW hbF
  rcases ha1 with ⟨hc, hk, rfl, rfl⟩ | ⟨hc, rfl, m, rfl, rfl, rfl⟩
  · have hne : (k1 != 0) = true := by rw [hk]; simpa using hc
    clear hc hk
    go_wp2_with fail
    refine (awake_any _).mono ?_; rintro e w7 ⟨rfl, hb7⟩
    have b7 := b3.trans (hb7.mono b3.size)
    go_wp2_with fail
    go_ret
    exact ⟨rfl, b7⟩
  · obtain ⟨h1, h2, h3, hok⟩ := checkF_ok hc
    obtain ⟨T, hT⟩ := finv_end hok
    have hsp := spans hok
    have hall := hT.all
    have htf := tree_fit hc
    have hhf := home_fit hc
    have htl := treeF_le m ars
    have Hc := Lib.hid hc
    have Hall := Lib.hid hall
    have Hsp := Lib.hid hsp
    rw [homeF_length] at f1 f2 ⊢
    clear hc hall hT T hsp
    have hhl := homeF_length m ars
    have Hhl := Lib.hid hhl
    clear hhl
    obtain ⟨bh, off, rfl, hbh⟩ : ∃ bh off, Ah = some ⟨bh, off, none⟩ ∧ bh < bF := by
      obtain ⟨b, o, y, h1, h2, _⟩ := rh3.at_ hhf (k := 0) (by rw [Hhl.out]; omega)
      exact ⟨b, o, h1, h2⟩
    have hcell : ∀ v, v < m → W.cell? ⟨bh, off + v, none⟩ = some (.int .i64 (root (upF m ars) v : Nat)) := by
      intro v hv
      rcases rh3 with h | ⟨b', off', hA, _, hcl⟩
      · exfalso; have := cellsI_length (homeF m ars); rw [h, Hhl.out] at this; simp at this; omega
      · cases hA
        exact hcl v _ (by simp [cellsI, homeF_at hv])
    have Hcell := Lib.hid hcell
    clear hcell
    go_wp2_with fail
    refine (joined_any m ars A l c At ct W hl hx rW Hc.out (rt3.more (by omega))).mono ?_; rintro e w3 ⟨g, rfl, og, hb3⟩
    have b4 := b3.trans (hb3.mono b3.size)
    have f4 := f2.below hb3 hfl
    have k4 := k2.below hb3 k2.lt
    have f0 := f4.cell 0
    have f1 := f4.cell 1
    simp at f0 f1
    have rg := rd_of_own og
    have rh4 := rh3.below hb3 (by omega)
    clear n0 n1
    go_wp2_with fail
    refine (sameInts_yes (homeF m ars) (some ⟨g, 0, none⟩) (some ⟨bh, off, none⟩) m m ch _ _ _ Hhl.out hhf rg rh4 (by unfold maxLen; omega)).mono ?_; rintro e w5 ⟨rfl, d5⟩
    have b5 := b4.trans (d5.below _)
    have hbW : Below W.heap.size W w5 := hb3.trans ((d5.below w3.heap.size).mono hb3.size)
    have f5 := f2.below hbW hfl
    have k5 := k2.below hbW k2.lt
    clear b4 f4 k4 f0 f1 rg rh4 og d5 hb3 rh3 rt3 b3 rW
    obtain ⟨wo, rfl⟩ : ∃ wo : World, wo = w5 := ⟨_, rfl⟩
    go_wp2
    go_loopw [7] (fun i wr => ∃ k : Nat, k ≤ l ∧ i = .int .i64 k ∧ Drawn wo wr) (fun i _ => l - (intOf i).toNat)
    case atStart => exact ⟨0, Nat.zero_le _, rfl, Drawn.refl _⟩
    case round =>
      obtain ⟨k, hk, rfl, hd⟩ := hrel
      have f0 := (hd.cell ⟨bF, 1, none⟩).trans (f5.cell 1)
      have n0 := (hd.cell ⟨w.heap.size, 0, none⟩).trans (k5.cell 0)
      have n1 := (hd.cell ⟨w.heap.size, 1, none⟩).trans (k5.cell 1)
      simp at f0 n0 n1
      by_cases hlt : k < l
      · obtain ⟨b', off', a, rfl, hbl', hfa, c0, c1, c2, c3, c4, _, hae⟩ := ((hr.below b5 (Nat.le_refl _))).arc (k := k) hx (by omega)
        obtain ⟨q1, q2, q3, q4⟩ := hok a (List.mem_of_getElem? hae.out)
        have hee := Hall.out k a (by omega) hae.out
        obtain ⟨fx, hfx⟩ : ∃ fx : Nat, a.f = fx := ⟨a.f.toNat, by omega⟩
        obtain ⟨tx, htx⟩ : ∃ tx : Nat, a.t = tx := ⟨a.t.toNat, by omega⟩
        rw [hfx, htx, Int.toNat_natCast, Int.toNat_natCast] at hee
        rw [hfx] at c0 q1 q2
        rw [htx] at c1 q3 q4
        have e1 := (hd.cell ⟨bh, off + fx, none⟩).trans ((hbW.cell (p := ⟨bh, off + fx, none⟩) (by simp; omega)).trans (Hcell.out fx (by omega)))
        have e2 := (hd.cell ⟨bh, off + tx, none⟩).trans ((hbW.cell (p := ⟨bh, off + tx, none⟩) (by simp; omega)).trans (Hcell.out tx (by omega)))
        rw [hee] at e1
        have c0' := (hd.cell ⟨b', off' + k * 5, none⟩).trans c0
        have c1' := (hd.cell ⟨b', off' + k * 5 + 1, none⟩).trans c1
        have h1 : (0 : Int) ≤ (k : Int) := by omega
        have h2 : (k : Int) < (l : Int) := by omega
        generalize root (upF m ars) tx = ra at *
        clear hee hfx htx hae c0 c1 c2 c3 c4
        go_wp2
        go_quiet (fail)
        go_wp2
        go_roundw
        case rel => exact ⟨k + 1, by omega, by go_num, hd.drewN _⟩
        case measure => simp [intOf]; omega
      · have b6 := b5.trans (hd.below _)
        have hbW6 : Below W.heap.size W wr := hbW.trans (hd.below _)
        have f6 : Blk wr bF 27 #[.slice At (treeF m ars).length ct, .slice (some ⟨bh, off, none⟩) m ch] := f2.below hbW6 hfl
        have k6 : Blk wr w.heap.size 24 #[.int .i64 m, .slice A l c] := k2.below hbW6 k2.lt
        have n60 := k6.cell 0
        have n61 := k6.cell 1
        have f60 := f6.cell 0
        have f61 := f6.cell 1
        simp at n60 n61 f60 f61
        have Hc2 : Hid (∀ v, v < m → wr.cell? ⟨bh, off + v, none⟩ = some (.int .i64 (root (upF m ars) v : Nat))) := fun v hv => (hbW6.cell (p := ⟨bh, off + v, none⟩) (by simp; omega)).trans (Hcell.out v hv)
        have hple := partsK_le (upF m ars)
        clear hbW6 hbW f6 k6 f5 k5 hd b5 hr f0 n0 n1 k2 f2 Hcell
        have Hple := Lib.hid hple
        clear hple
        generalize hup : upF m ars = up at *
        clear hup
        go_wp2
        go_loop [8, 9] (fun s8 s9 => ∃ v : Nat, v ≤ m ∧ s9 = .int .i64 v ∧ s8 = .int .i64 (partsK up v)) (fun _ s9 => m - (intOf s9).toNat)
        case atStart => exact ⟨0, Nat.zero_le _, rfl, rfl⟩
        case round =>
          obtain ⟨v, hv, rfl, rfl⟩ := hrel
          have hpv := Hple.out v
          by_cases hlt : v < m
          · have hcv := Hc2.out v hlt
            have hps := partsK_succ up v
            by_cases hrv : root up v = v
            · rw [hrv] at hcv
              rw [if_pos hrv] at hps
              have Hps := Lib.hid hps
              clear hps hrv
              go_wp2
              go_round
              case rel => exact ⟨v + 1, by omega, by go_num, by rw [Hps.out]; go_num⟩
              case measure => simp [intOf]; omega
            · rw [if_neg hrv] at hps
              have Hps := Lib.hid hps
              have q1 : ((root up v : Int) == (v : Int)) = false := by simp; omega
              generalize root up v = rv at *
              clear hps hrv
              go_wp2
              go_round
              case rel => exact ⟨v + 1, by omega, by go_num, by rw [Hps.out]; rfl⟩
              case measure => simp [intOf]; omega
          · obtain rfl : v = m := by omega
            have e1 : (((treeF v ars).length : Int) + (partsK up v : Int) == (v : Int)) = true := by
              have : (treeF v ars).length + partsK up v = v := Hsp.out
              simp; omega
            generalize treeF v ars = tr at *
            clear Hsp
            go_wp2_with fail
            refine (awake_any _).mono ?_; rintro e w7 ⟨rfl, hb7⟩
            have b7 := b6.trans (hb7.mono b6.size)
            go_wp2_with fail
            go_ret
            exact ⟨rfl, b7⟩
end Go.Proofs.Yteokomepcgkddaa
