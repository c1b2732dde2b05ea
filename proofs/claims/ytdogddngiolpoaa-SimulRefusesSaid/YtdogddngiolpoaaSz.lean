/-
  SimulRefuses.
-/
import Derived.Test.YtdogddngiolpoaaSy
namespace Go.Proofs.Ytdogddngiolpoaa
open Go.RowKit

theorem sumF_mono {rs : List Int} (h : rs.all repB = true) (k : Nat) : sumF (rs.take k) ≤ sumF rs := by
  have step : ∀ d k, sumF (rs.take k) ≤ sumF (rs.take (k + d)) := by
    intro d
    induction d with
    | zero => intro k; exact Int.le_refl _
    | succ d ih =>
      intro k
      refine Int.le_trans (ih k) ?_
      rw [← Nat.add_assoc]
      by_cases hk : k + d < rs.length
      · rw [sumF_take (List.getElem?_eq_getElem hk)]
        have h1 := List.all_eq_true.1 h _ (List.getElem_mem hk)
        simp only [repB, decide_eq_true_eq] at h1
        omega
      · rw [List.take_of_length_le (by omega), List.take_of_length_le (by omega)]; exact Int.le_refl _
  have := step rs.length k
  rwa [List.take_of_length_le (i := k + rs.length) (by omega)] at this

set_option maxRecDepth 100000 in
set_option maxHeartbeats 4000000 in
theorem refusesLaw_any (n : Int) (ars : List ArcV) (A : Option Addr) (l c : Nat) (rs : List Int) (R : Option Addr) (m cr : Nat) (ps : List Int) (Q : Option Addr) (q cq : Nat) (w : World) (hl : ars.length = l) (hx : ∀ a ∈ ars, a.fit) (hr : Rd w w.heap.size A (cellsA ars)) (hm : l ≤ maxLen)
    (hrs : rs.length = m) (hlcr : m ≤ cr) (hfr : AllFit rs) (hrr : Rd w w.heap.size R (cellsI rs)) (hzr : cr * 8 ≤ 140737488351232) (hps : ps.length = q) (hlcq : q ≤ cq) (hfp : AllFit ps) (hrp : Rd w w.heap.size Q (cellsI ps)) (hzq : cq * 8 ≤ 140737488351232) :
    Calls Try.prog 4 #[.agg #[.int .i64 n, .slice A l c], .slice R m cr, .slice Q q cq] w fun e w' => e = .returned (.bool true) ∧ Below w.heap.size w w' := by
  subst hl hrs hps
  obtain ⟨B, hB⟩ : ∃ B, w.heap.size = B := ⟨_, rfl⟩
  rw [hB] at hr hrr hrp ⊢
  have hmm : rs.length ≤ maxLen := by unfold maxLen; omega
  have b1 := (Below.refl B w).alloc (by omega) (.cells #[.int .i64 n, .slice A ars.length c] 24)
  have k1 := Blk.new w B hB.symm 24 #[.int .i64 n, .slice A ars.length c]
  have hz1 : (w.alloc (.cells #[.int .i64 n, .slice A ars.length c] 24)).heap.size = B + 1 := by simp; omega
  go_enter Try.func4, Try.ntmps4
  go_wp2_with fail
  generalize w.alloc (.cells #[.int .i64 n, .slice A ars.length c] 24) = W1 at *
  refine (simRun_any n ars A ars.length c rs R rs.length cr ps Q ps.length cq W1 rfl hx ((hr.below b1 (Nat.le_refl _)).more (by omega)) hm rfl hfr ((hrr.below b1 (Nat.le_refl _)).more (by omega)) hmm rfl hfp ((hrp.below b1 (Nat.le_refl _)).more (by omega)) (by omega)).mono ?_
  rintro e w2 ⟨lv, sv, rfl, ol, os, hb2⟩
  obtain ⟨Al, cl, rfl, _⟩ := own_slice ol
  obtain ⟨As, cs, rfl, _⟩ := own_slice os
  have hz2 := hb2.size
  have b2 := b1.trans (hb2.mono (by omega))
  have k2 := k1.below hb2 (by omega)
  clear ol os b1 k1 hb2
  have b3 := b2.alloc (by omega) (.cells #[.slice Al (ansF (pickS ars n.toNat rs ps) n ars rs ps).1.length cl, .slice As (ansF (pickS ars n.toNat rs ps) n ars rs ps).2.length cs] 29)
  have k3 := k2.alloc (.cells #[.slice Al (ansF (pickS ars n.toNat rs ps) n ars rs ps).1.length cl, .slice As (ansF (pickS ars n.toNat rs ps) n ars rs ps).2.length cs] 29)
  have hz3 : (w2.alloc (.cells #[.slice Al (ansF (pickS ars n.toNat rs ps) n ars rs ps).1.length cl, .slice As (ansF (pickS ars n.toNat rs ps) n ars rs ps).2.length cs] 29)).heap.size = w2.heap.size + 1 := by simp
  generalize ansF (pickS ars n.toNat rs ps) n ars rs ps = an at *
  have d0 := k3.cell 0
  have d1 := k3.cell 1
  simp only [List.getElem?_toArray, List.getElem?_cons_zero, List.getElem?_cons_succ] at d0 d1
  obtain ⟨res, hres⟩ : ∃ r, wrongF n ars rs ps = r := ⟨_, rfl⟩
  rw [hres]
  have Hres := Lib.hid hres
  clear hres b2 k2
  go_wp2_with fail
  generalize w2.alloc (.cells #[.slice Al an.1.length cl, .slice As an.2.length cs] 29) = W3 at *
  refine (holds_any n ars A ars.length c rs R rs.length cr W3 rfl hx ((hr.below b3 (Nat.le_refl _)).more (by omega)) hm rfl hfr ((hrr.below b3 (Nat.le_refl _)).more (by omega)) hmm).mono ?_; rintro e w4 ⟨rfl, hb4⟩
  have hz4 := hb4.size
  have b4 := b3.trans (hb4.mono (by omega))
  have k4 := k3.below hb4 (by omega)
  have fin : ∀ w', Below w4.heap.size w4 w' → Below B w w' := fun w' hb => b4.trans (hb.mono (by omega))
  have d0 := k4.cell 0
  simp only [List.getElem?_toArray, List.getElem?_cons_zero] at d0
  obtain ⟨hE, hhE⟩ : ∃ x, holdE n ars rs = x := ⟨_, rfl⟩
  obtain ⟨hBo, hhB⟩ : ∃ x, holdB n ars rs = x := ⟨_, rfl⟩
  rw [hhE, hhB]
  have HE := Lib.hid hhE
  have HB := Lib.hid hhB
  clear hhE hhB b3 k3 hb4 d1
  by_cases hE0 : hE = 0
  · subst hE0
    cases hBo
    · have e : res = 130 := by rw [← Hres.out]; unfold wrongF; rw [if_pos HE.out, if_neg (by rw [HB.out]; simp)]
      subst e
      go_wp2_with fail
      refine (awake_any w4).mono ?_
      rintro e w5 ⟨rfl, hb5⟩
      have b5 := fin _ hb5
      go_wp2_with fail
      go_ret
      exact ⟨rfl, b5⟩
    · obtain ⟨hck, hln, hall, -⟩ := holdB_parts HB.out
      obtain ⟨nn, rfl, hN⟩ := netOk_of hck
      have n32 := hN.n32
      have hln2 : rs.length = nn := by omega
      have hsb := sumF_bound hall
      have e : res = if 2048 < sumF rs then 5 else if nodesB (nn : Int) ps = true then 0 else 100 := by rw [← Hres.out]; unfold wrongF; rw [if_pos HE.out, if_pos HB.out]
      have E := Lib.hid e
      have Hall := Lib.hid hall
      have Hsb := Lib.hid hsb
      clear e hall hsb hck hN
      go_wp2_with fail
      go_loopw [11, 12] (fun s i wr => ∃ k : Nat, k ≤ rs.length ∧ i = .int .i64 k ∧ s = .int .i64 (sumF (rs.take k)) ∧ wr = w4) (fun _ i _ => rs.length - (intOf i).toNat)
      case atStart => exact ⟨0, by omega, rfl, rfl, rfl⟩
      case round =>
        obtain ⟨k, hk, rfl, rfl, hw⟩ := hrel
        have hw' := hw.symm
        clear hw
        subst hw'
        have hs1 := Hsb.out k
        have hmono := sumF_mono Hall.out k
        by_cases hS : sumF (rs.take k) ≤ 2048
        · by_cases hlt : k < rs.length
          · obtain ⟨b, off, x, rfl, hb, hxf, hc, hd, hxx⟩ := (hrr.below b4 (Nat.le_refl _)).at_ hfr hlt
            have hst := sumF_take hxx.out
            have hxr := List.all_eq_true.1 Hall.out x (List.mem_of_getElem? hxx.out)
            simp only [repB, decide_eq_true_eq] at hxr
            have hmin : min x 4096 = x := by omega
            generalize sumF (rs.take k) = S at *
            clear hd hxx hmono
            go_wp2_with fail
            refine ⟨⟨k + 1, by omega, by go_num, by rw [hst], trivial⟩, by simp [intOf]; omega⟩
          · rw [List.take_of_length_le (by omega)] at hS hs1 ⊢
            have E2 : Hid (res = if nodesB (nn : Int) ps = true then 0 else 100) := by unfold Hid; rw [E.out, if_neg (by omega)]
            generalize sumF rs = S at *
            have hS2 : ¬ 2048 < S := by omega
            clear hmono hs1
            go_wp2_with fail
            refine (tally_any nn ps Q ps.length cq w4 n32 rfl hfp ((hrp.below b4 (Nat.le_refl _)).more (by omega)) (by omega)).mono ?_
            rintro e w5 ⟨gt, rfl, hgt, ot, hb5⟩
            have b5 := fin _ hb5
            cases hnp : nodesB (nn : Int) ps with
            | false =>
              have e : res = 100 := by rw [E2.out, if_neg (by rw [hnp]; simp)]
              subst e
              clear hnp E2 E
              go_wp2_with fail
              refine (awake_any w5).mono ?_
              rintro e w6 ⟨rfl, hb6⟩
              have b6 := b5.trans (hb6.mono (by have := hb5.size; omega))
              go_wp2_with fail
              go_ret
              exact ⟨rfl, b6⟩
            | true =>
              have e : res = 0 := by rw [E2.out, if_pos hnp]
              subst e
              clear hnp E2 E
              go_wp2_with fail
              refine (awake_any w5).mono ?_
              rintro e w6 ⟨rfl, hb6⟩
              have b6 := b5.trans (hb6.mono (by have := hb5.size; omega))
              go_wp2_with fail
              go_ret
              exact ⟨rfl, b6⟩
        · have e : res = 5 := by rw [E.out, if_pos (by omega)]
          subst e
          have hS2 : 2048 < sumF (rs.take k) := by omega
          generalize sumF (rs.take k) = S at *
          have hd : decide (S ≤ 2048) = false := decide_eq_false hS
          clear hmono
          by_cases hlt : k < rs.length
          · go_wp2_with fail
            refine (awake_any w4).mono ?_
            rintro e w5 ⟨rfl, hb5⟩
            have b5 := fin _ hb5
            go_wp2_with fail
            go_ret
            exact ⟨rfl, b5⟩
          · go_wp2_with fail
            refine (awake_any w4).mono ?_
            rintro e w5 ⟨rfl, hb5⟩
            have b5 := fin _ hb5
            go_wp2_with fail
            go_ret
            exact ⟨rfl, b5⟩
  · have e : res = hE := by rw [← Hres.out]; unfold wrongF; rw [HE.out, if_neg hE0]
    subst e
    have hqq : (res != 0) = true := by simpa using hE0
    have hqe : (res == res) = true := by simp
    go_wp2_with fail
    refine (awake_any w4).mono ?_
    rintro e w5 ⟨rfl, hb5⟩
    have b5 := fin _ hb5
    go_wp2_with fail
    go_ret
    exact ⟨rfl, b5⟩
end Go.Proofs.Ytdogddngiolpoaa
