/-
  IntsLcms, IntsDots: the code's answer is the document's.
-/
import Derived.Test.YtlnbmjebkpkclaaDoorIo
namespace Go.Proofs.YtlnbmjebkpkclaaDoor
open Go.RowKit

set_option maxHeartbeats 1000000 in
theorem lcms_any (xs : List Int) (A : Option Addr) (n c : Nat) (w : World) (hn : xs.length = n) (hc : n ≤ c) (hx : AllFit xs) (hr : Rd w w.heap.size A (cellsI xs)) (hz : c * 8 ≤ 140737488351232) (hT : Tab w) :
    Calls Tryd.prog 6 #[.slice A n c] w fun e w' => e = .returned (.bool true) ∧ Below w.heap.size w w' := by
  have hnm : xs.length ≤ maxLen := by unfold maxLen; omega
  go_enter Tryd.func6, Tryd.ntmps6
  go_wp2_with fail
  refine (lent_any xs A n c w.heap.size w hn hr (by omega) (Nat.le_refl _)).mono ?_
  rintro e w1 ⟨g, rfl, hg, hown, hb1⟩
  have hr1 := hr.below hb1 (Nat.le_refl _)
  obtain ⟨hr2, -⟩ := lent_cells hown hn
  have hT1 := hT.below hb1 hT.pos
  go_wp2_with fail
  refine (lcm_any xs _ n _ _ _ hn hx hr2 hnm hT1).mono ?_; rintro e wd ⟨rfl, hdd⟩
  have hb1' := hb1.trans (hdd.below w.heap.size)
  have hown' := own_below hown (hdd.below _)
  have hr1' := hdd.rd hr1
  have hTd := hdd.tab hT1
  clear hr1 hT1 hown hr2
  go_wp2_with fail
  refine (refLcm_any xs _ n _ _ hn hx (hr1'.more hb1'.size) hnm).mono ?_; rintro e w2 ⟨rfl, hb2⟩
  have hT2 := hTd.below hb2 hTd.pos
  have hr2 := (hr1'.more hb1'.size).below hb2 (Nat.le_refl _)
  have hown2 := own_below hown' hb2
  go_wp2_with (go_at_call 20; refine (awake_any _ hT2).mono ?_; rintro e w3 ⟨rfl, hb3⟩)
  have hr3 := (hr2.more hb2.size).below hb3 (Nat.le_refl _)
  have hown3 := own_below hown2 hb3
  go_wp2_with (go_at_call 24; refine (kept_yes xs A n c g _ _ _ hn hx hr3 (by omega) hown3).mono ?_; rintro e w4 ⟨rfl, hd4⟩)
  go_ret
  exact ⟨rfl, ((hb1'.trans (hb2.mono hb1'.size)).trans (hb3.mono (Nat.le_trans hb1'.size hb2.size))).trans (hd4.below _)⟩

theorem own_far {w w' : World} {base : Nat} {e : TypeId} {size n : Nat} {v : Value} {xs : List Value} (h : w.ownsRow base e size v n xs) (hb : Below w.heap.size w w') : w'.ownsRow base e size v n xs := own_below h hb

set_option maxHeartbeats 1000000 in
theorem dots_any (xs : List Int) (A : Option Addr) (n c : Nat) (ys : List Int) (A' : Option Addr) (n' c' : Nat) (w : World) (hn : xs.length = n) (hc : n ≤ c) (hx : AllFit xs) (hr : Rd w w.heap.size A (cellsI xs)) (hz : c * 8 ≤ 140737488351232)
    (hn' : ys.length = n') (hc' : n' ≤ c') (hy : AllFit ys) (hr' : Rd w w.heap.size A' (cellsI ys)) (hz' : c' * 8 ≤ 140737488351232) (hT : Tab w) :
    Calls Tryd.prog 7 #[.slice A n c, .slice A' n' c'] w fun e w' => e = .returned (.bool true) ∧ Below w.heap.size w w' := by
  have hnm : xs.length ≤ maxLen := by unfold maxLen; omega
  have hnm' : ys.length ≤ maxLen := by unfold maxLen; omega
  go_enter Tryd.func7, Tryd.ntmps7
  go_wp2_with fail
  refine (lent_any xs A n c w.heap.size w hn hr (by omega) (Nat.le_refl _)).mono ?_
  rintro e w1 ⟨g, rfl, hg, hown, hb1⟩
  have hra := (hr.below hb1 (Nat.le_refl _)).more hb1.size
  have hrb := (hr'.below hb1 (Nat.le_refl _)).more hb1.size
  have hT1 := hT.below hb1 hT.pos
  go_wp2_with fail
  refine (lent_any ys A' n' c' w1.heap.size w1 hn' hrb (by omega) (Nat.le_refl _)).mono ?_
  rintro e w2 ⟨g', rfl, hg', hown', hb2⟩
  have hra2 := (hra.below hb2 (Nat.le_refl _)).more hb2.size
  have hrb2 := (hrb.below hb2 (Nat.le_refl _)).more hb2.size
  have hown2 := own_below hown hb2
  have hT2 := hT1.below hb2 hT1.pos
  obtain ⟨ho1, -⟩ := lent_cells hown2 hn
  obtain ⟨ho2, -⟩ := lent_cells hown' hn'
  have i1 := dot_any xs ys _ _ n n' (n + 4) (n' + 4) _ _ hn hn' hx hy ho1 ho2 hnm hnm'
  have i2 := refDot_any xs ys _ _ n n' c c' _ hn hn' hx hy hra2 hrb2 hnm hnm'
  obtain ⟨r1, hr1⟩ : ∃ r, (dotR xs ys).1 = r := ⟨_, rfl⟩
  obtain ⟨r2, hr2⟩ : ∃ r, (dotR xs ys).2 = r := ⟨_, rfl⟩
  rw [hr1, hr2] at i1 i2
  clear hr1 hr2
  go_wp2_with fail
  refine i1.mono ?_; rintro e w' ⟨rfl, rfl⟩
  go_wp2_with fail
  refine i2.mono ?_; rintro e w3 ⟨rfl, hb3⟩
  clear i1 i2
  have hra3 := (hra2.below hb3 (Nat.le_refl _)).more hb3.size
  have hrb3 := (hrb2.below hb3 (Nat.le_refl _)).more hb3.size
  have hown3 := own_below hown2 hb3
  have hown3' := own_below hown' hb3
  have hT3 := hT2.below hb3 hT2.pos
  clear ho1 ho2 hra hrb hra2 hrb2 hown hown2 hown' hT1 hT2
  go_wp2_with (go_at_call 20; refine (awake_any _ hT3).mono ?_; rintro e w4 ⟨rfl, hb4⟩)
  have hra4 := (hra3.below hb4 (Nat.le_refl _)).more hb4.size
  have hrb4 := (hrb3.below hb4 (Nat.le_refl _)).more hb4.size
  have hown4 := own_below hown3 hb4
  have hown4' := own_below hown3' hb4
  have e2 := hb1.trans (hb2.mono hb1.size)
  have e3 := e2.trans (hb3.mono e2.size)
  have e4 := e3.trans (hb4.mono e3.size)
  clear hra3 hrb3 hown3 hown3'
  go_wp2_with fail
  refine (kept_yes xs A n c g _ _ _ hn hx hra4 (by omega) hown4).mono ?_; rintro e w5 ⟨rfl, hd5⟩
  have hrb5 := hd5.rd hrb4
  have hown5' := own_below hown4' (hd5.below _)
  go_wp2_with fail
  refine (kept_yes ys A' n' c' g' _ _ _ hn' hy hrb5 (by omega) hown5').mono ?_; rintro e w6 ⟨rfl, hd6⟩
  go_wp2
  go_ret
  exact ⟨rfl, (e4.trans (hd5.below _)).trans (hd6.below _)⟩
end Go.Proofs.YtlnbmjebkpkclaaDoor
