/-
  IntsAdds, IntsSums: the code's answer is the document's.
-/
import Derived.Test.YtlnbmjebkpkclaaDoorWl
import Derived.Test.YtlnbmjebkpkclaaDoorIi
namespace Go.Proofs.YtlnbmjebkpkclaaDoor
open Go.RowKit

set_option maxHeartbeats 1000000 in
theorem adds_any (a b : Int) (w : World) (ha : fits a) (hb : fits b) (hT : Tab w) :
    Calls Tryd.prog 3 #[.int .i64 a, .int .i64 b] w fun e w' => e = .returned (.bool true) ∧ Below w.heap.size w w' := by
  go_enter Tryd.func3, Tryd.ntmps3
  obtain ⟨s, hs⟩ : ∃ s, okOf (a + b) = s := ⟨_, rfl⟩
  obtain ⟨s', hs'⟩ : ∃ s, okB (a + b) = s := ⟨_, rfl⟩
  obtain ⟨d, hd⟩ : ∃ s, okOf (a - b) = s := ⟨_, rfl⟩
  obtain ⟨d', hd'⟩ : ∃ s, okB (a - b) = s := ⟨_, rfl⟩
  obtain ⟨p, hp⟩ : ∃ s, okOf (a * b) = s := ⟨_, rfl⟩
  obtain ⟨p', hp'⟩ : ∃ s, okB (a * b) = s := ⟨_, rfl⟩
  have i1 := add_any a b w ha hb
  have i2 := sub_any a b w ha hb
  have i3 := mul_any a b w ha hb
  have i4 := fun w => refAdd_any a b w ha hb
  have i5 := fun w => refSub_any a b w ha hb
  have i6 := fun w => refMul_any a b w ha hb
  unfold IntPost at i4 i5 i6
  rw [hs, hs'] at i1
  rw [hd, hd'] at i2
  rw [hp, hp'] at i3
  simp only [hs, hs'] at i4
  simp only [hd, hd'] at i5
  simp only [hp, hp'] at i6
  clear hs hs' hd hd' hp hp'
  go_wp2_with fail
  refine i1.mono ?_; rintro e w' ⟨rfl, rfl⟩
  go_wp2_with fail
  refine i2.mono ?_; rintro e w' ⟨rfl, rfl⟩
  go_wp2_with fail
  refine i3.mono ?_; rintro e w' ⟨rfl, rfl⟩
  go_wp2_with fail
  refine (i4 _).mono ?_; rintro e w1 ⟨rfl, hb1⟩
  go_wp2_with fail
  refine (i5 _).mono ?_; rintro e w2 ⟨rfl, hb2⟩
  go_wp2_with fail
  refine (i6 _).mono ?_; rintro e w3 ⟨rfl, hb3⟩
  have hb4 := (hb1.trans (hb2.mono hb1.size)).trans (hb3.mono (Nat.le_trans hb1.size hb2.size))
  have hT3 := hT.below hb4 hT.pos
  clear i1 i2 i3 i4 i5 i6
  go_wp2_with (go_at_call 20; refine (awake_any _ hT3).mono ?_; rintro e w4 ⟨rfl, hb5⟩)
  go_ret
  exact ⟨rfl, hb4.trans (hb5.mono hb4.size)⟩

set_option maxHeartbeats 1000000 in
theorem sums_any (xs : List Int) (A : Option Addr) (n c : Nat) (w : World) (hn : xs.length = n) (hc : n ≤ c) (hx : AllFit xs) (hr : Rd w w.heap.size A (cellsI xs)) (hz : c * 8 ≤ 140737488351232) (hT : Tab w) :
    Calls Tryd.prog 4 #[.slice A n c] w fun e w' => e = .returned (.bool true) ∧ Below w.heap.size w w' := by
  have hnm : xs.length ≤ maxLen := by unfold maxLen; omega
  go_enter Tryd.func4, Tryd.ntmps4
  go_wp2_with fail
  refine (lent_any xs A n c w.heap.size w hn hr (by omega) (Nat.le_refl _)).mono ?_
  rintro e w1 ⟨g, rfl, hg, hown, hb1⟩
  have hr1 := hr.below hb1 (Nat.le_refl _)
  obtain ⟨hr2, -⟩ := lent_cells hown hn
  have hT1 := hT.below hb1 hT.pos
  go_wp2_with fail
  refine (sum_any xs _ n _ _ _ hn hx hr2 hnm).mono ?_; rintro e w' ⟨rfl, rfl⟩
  go_wp2_with fail
  refine (refSum_any xs _ n _ _ hn hx (hr1.more hb1.size) hnm).mono ?_; rintro e w2 ⟨rfl, hb2⟩
  have hT2 := hT1.below hb2 hT1.pos
  have hr2 := (hr1.more hb1.size).below hb2 (Nat.le_refl _)
  have hown2 := own_below hown hb2
  go_wp2_with (go_at_call 20; refine (awake_any _ hT2).mono ?_; rintro e w3 ⟨rfl, hb3⟩)
  have hr3 := (hr2.more hb2.size).below hb3 (Nat.le_refl _)
  have hown3 := own_below hown2 hb3
  go_wp2_with (go_at_call 24; refine (kept_yes xs A n c g _ _ _ hn hx hr3 (by omega) hown3).mono ?_; rintro e w4 ⟨rfl, hd4⟩)
  go_ret
  exact ⟨rfl, ((hb1.trans (hb2.mono hb1.size)).trans (hb3.mono (Nat.le_trans hb1.size hb2.size))).trans (hd4.below _)⟩
end Go.Proofs.YtlnbmjebkpkclaaDoor
