/-
  The law ForestTurned: the path back is the path turned about.
-/
import Derived.Test.YteokomepcgkddaaFy
namespace Go.Proofs.Yteokomepcgkddaa
open Go.RowKit

set_option maxHeartbeats 1000000 in
theorem turnedLaw_any (n : Int) (ars : List ArcV) (A : Option Addr) (l c : Nat) (s t : Int) (w : World) (hl : ars.length = l) (hx : ∀ a ∈ ars, a.fit) (hr : Rd w w.heap.size A (cellsA ars)) (hm : l ≤ maxLen) (hs : fits s) (ht : fits t) :
    Calls Try.prog 7 #[.agg #[.int .i64 n, .slice A l c], .int .i64 s, .int .i64 t] w fun e w' => e = .returned (.bool true) ∧ Below w.heap.size w w' := by
  have b1 := (Below.refl w.heap.size w).alloc (Nat.le_refl _) (.cells #[.int .i64 n, .slice A l c] 24)
  have kb := Blk.new w _ rfl 24 #[.int .i64 n, .slice A l c]
  go_enter Try.func7, Try.ntmps7
  go_wp2_with fail
  refine (path_any n ars A l c s t _ hl hx ((hr.below b1 (Nat.le_refl _)).more b1.size) hm hs ht).mono ?_; rintro e w2 ⟨A2, c2, k, p, rfl, ha2, r2, hl2, hb2⟩
  have b2 := b1.trans (hb2.mono b1.size)
  have k2 := kb.below hb2 (by simp)
  have n0 := k2.cell 0
  have n1 := k2.cell 1
  simp at n0 n1
  go_wp2_with fail
  refine (path_any n ars A l c t s _ hl hx ((hr.below b2 (Nat.le_refl _)).more b2.size) hm ht hs).mono ?_; rintro e w3 ⟨A3, c3, k', q, rfl, ha3, r3, hl3, hb3⟩
  have b3 := b2.trans (hb3.mono b2.size)
  have hh := ha2.turn.one ha3
  obtain ⟨rfl, rfl⟩ := hh
  have r23 := r2.below hb3 (Nat.le_refl _)
  clear ha2 ha3 n0 n1 k2 kb b1 hb2 b2 r2
  rw [turned_length]
  go_wp2_with fail
  refine (turned_any p A2 p.length c2 w3 rfl (r23.more hb3.size) (by omega)).mono ?_; rintro e w4 ⟨A4, c4, rfl, o4, hb4⟩
  have b4 := b3.trans (hb4.mono b3.size)
  have r4 := rd_of_own o4
  have r34 := r3.below hb4 (Nat.le_refl _)
  clear b3 r3 r23 hb3 hb4 o4
  go_wp2_with fail
  refine (sameSteps_yes (turned p) A4 A3 p.length c4 c3 _ _ w4 (turned_length p) r4 r34 (by unfold maxLen; omega)).mono ?_; rintro e w5 ⟨rfl, d5⟩
  have b5 := b4.trans (d5.below _)
  clear b4 r4 r34 d5
  go_wp2_with fail
  refine (awake_any w5).mono ?_; rintro e w6 ⟨rfl, hb6⟩
  have b6 := b5.trans (hb6.mono b5.size)
  go_wp2_with fail
  go_ret
  exact ⟨rfl, b6⟩
end Go.Proofs.Yteokomepcgkddaa
