/-
  pianolalaw03.awake answers true.
-/
import Derived.Test.YtblkcdenmgkddaaDoorNh
namespace Go.Proofs.YtblkcdenmgkddaaDoor
open Go.RowKit

theorem two_rd (w : World) (xs ys : List Int) : Rd ((w.alloc (.cells (cellsI xs).toArray 3)).alloc (.cells (cellsI ys).toArray 3)) (w.heap.size + 2) (some ⟨w.heap.size, 0, none⟩) (cellsI xs) ∧
    Rd ((w.alloc (.cells (cellsI xs).toArray 3)).alloc (.cells (cellsI ys).toArray 3)) (w.heap.size + 2) (some ⟨w.heap.size + 1, 0, none⟩) (cellsI ys) ∧ Below w.heap.size w ((w.alloc (.cells (cellsI xs).toArray 3)).alloc (.cells (cellsI ys).toArray 3)) ∧
    w.heap.size + 2 ≤ ((w.alloc (.cells (cellsI xs).toArray 3)).alloc (.cells (cellsI ys).toArray 3)).heap.size := by
  refine ⟨((rd_alloc w _ rfl 3 (cellsI xs)).below ((Below.refl (w.heap.size + 1) _).alloc (by simp) _) (Nat.le_refl _)).more (by omega), (rd_alloc (w.alloc (.cells (cellsI xs).toArray 3)) _ (by simp) 3 (cellsI ys)).more (by omega), ((Below.refl _ _).alloc (Nat.le_refl _) _).alloc (by simp) _, by simp⟩
theorem fit_lit {xs : List Int} (h : (xs.all fun x => decide (-9223372036854775808 ≤ x ∧ x ≤ 9223372036854775807)) = true) : AllFit xs := by
  intro x hx
  have h2 := List.all_eq_true.1 h x hx
  unfold fits
  exact of_decide_eq_true h2
theorem equal_lit (xs ys : List Int) (t : Bool) (k : Int) (w : World) (hx : (xs.all fun x => decide (-9223372036854775808 ≤ x ∧ x ≤ 9223372036854775807)) = true) (hy : (ys.all fun x => decide (-9223372036854775808 ≤ x ∧ x ≤ 9223372036854775807)) = true) (hl : xs.length ≤ 100) (hl' : ys.length ≤ 100)
    (ht : equalF xs ys = t) (hk : cwrongF xs ys = k) (hT : Tab w) :
    Calls Tryd.prog 18 #[.slice (some ⟨w.heap.size, 0, none⟩) xs.length xs.length, .slice (some ⟨w.heap.size + 1, 0, none⟩) ys.length ys.length] ((w.alloc (.cells (cellsI xs).toArray 3)).alloc (.cells (cellsI ys).toArray 3)) fun e w' => e = .returned (.tuple #[.bool t, .int .i64 k]) ∧ Below w.heap.size w w' := by
  obtain ⟨r1, r2, hb, hs⟩ := two_rd w xs ys
  refine (equal_any xs ys _ _ xs.length ys.length _ _ _ _ _ rfl rfl (fit_lit hx) (fit_lit hy) r1 r2 (by unfold maxLen; omega) (by unfold maxLen; omega) hs hs (hT.below hb hT.pos)).mono ?_
  rintro e w' ⟨rfl, hb2⟩
  rw [ht, hk]
  exact ⟨rfl, hb.trans (hb2.mono hb.size)⟩
theorem ratio_lit (xs ys : List Int) (x y k : Int) (w : World) (hx : (xs.all fun x => decide (-9223372036854775808 ≤ x ∧ x ≤ 9223372036854775807)) = true) (hy : (ys.all fun x => decide (-9223372036854775808 ≤ x ∧ x ≤ 9223372036854775807)) = true) (hl : xs.length ≤ 100) (hl' : ys.length ≤ 100)
    (ht : ratioF xs ys = (⟨x, y⟩, k)) (hT : Tab w) :
    Calls Tryd.prog 20 #[.slice (some ⟨w.heap.size, 0, none⟩) xs.length xs.length, .slice (some ⟨w.heap.size + 1, 0, none⟩) ys.length ys.length] ((w.alloc (.cells (cellsI xs).toArray 3)).alloc (.cells (cellsI ys).toArray 3)) fun e w' => e = .returned (.tuple #[.agg #[.int .i64 x, .int .i64 y], .int .i64 k]) ∧ Below w.heap.size w w' := by
  obtain ⟨r1, r2, hb, hs⟩ := two_rd w xs ys
  refine (ratio_any xs ys _ _ xs.length ys.length _ _ _ _ _ rfl rfl (fit_lit hx) (fit_lit hy) r1 r2 (by unfold maxLen; omega) (by unfold maxLen; omega) hs hs (hT.below hb hT.pos)).mono ?_
  rintro e w' ⟨rfl, hb2⟩
  rw [ht]
  exact ⟨rfl, hb.trans (hb2.mono hb.size)⟩
theorem reduce_lit (w : World) (hT : Tab w) :
    Calls Tryd.prog 12 #[.slice (some ⟨w.heap.size, 0, none⟩) 2 2, .slice (some ⟨w.heap.size + 1, 0, none⟩) 2 2] ((w.alloc (.cells #[.int .i64 4, .int .i64 6] 3)).alloc (.cells #[.int .i64 2, .int .i64 9] 3)) fun e w' => ∃ ga gb, e = .returned (.tuple #[.slice (some ⟨ga, 0, none⟩) 2 2, .slice (some ⟨gb, 0, none⟩) 2 2, .int .i64 0]) ∧
      Rd w' w'.heap.size (some ⟨ga, 0, none⟩) (cellsI [2, 2]) ∧ Rd w' w'.heap.size (some ⟨gb, 0, none⟩) (cellsI [1, 3]) ∧ Below w.heap.size w w' := by
  obtain ⟨r1, r2, hb, hs⟩ := two_rd w [4, 6] [2, 9]
  refine (reduce_ok [4, 6] [2, 9] _ _ 2 2 _ _ _ (by intro x hx; simp at hx; omega) (by intro x hx; simp at hx; omega) (by decide) (by decide) r1 r2 hs hs (hT.below hb hT.pos)).mono ?_
  rintro e w' ⟨ga, gb, rfl, S⟩
  have e1 : (redGo [4, 6] [2, 9]) = ([2, 2], [1, 3]) := by decide +kernel
  rw [e1] at S
  exact ⟨ga, gb, rfl, rd_of_own S.oa, rd_of_own S.ob, hb.trans (S.bw.mono hb.size)⟩

set_option maxRecDepth 100000 in
set_option maxHeartbeats 4000000 in
theorem awake_any (w : World) (hT : Tab w) : Calls Tryd.prog 16 #[] w fun e w' => e = .returned (.bool true) ∧ Below w.heap.size w w' := by
  have TO := Lib.hid (fun w1 (hb : Below w.heap.size w w1) => hT.below hb hT.pos)
  have HR := Lib.hid (reduce_lit w hT)
  clear hT
  go_enter Tryd.func16, Tryd.ntmps16
  go_wp2_with fail
  refine HR.out.mono ?_
  rintro e w1 ⟨ga, gb, rfl, ra, rb, b1⟩
  have RA := Lib.hid ra
  have RB := Lib.hid rb
  clear ra rb HR
  go_wp2_with fail
  refine (equal_lit [4, 9] [6, 6] true 0 w1 (by decide) (by decide) (by decide) (by decide) (by decide) (by decide) (TO.out w1 b1)).mono ?_
  rintro e w2 ⟨rfl, hb2⟩
  have b2 := b1.trans (hb2.mono b1.size)
  have c2 := hb2
  go_wp2_with fail
  refine (equal_lit [4, 9] [6, 7] false 0 w2 (by decide) (by decide) (by decide) (by decide) (by decide) (by decide) (TO.out w2 b2)).mono ?_
  rintro e w3 ⟨rfl, hb3⟩
  have b3 := b2.trans (hb3.mono b2.size)
  have c3 := c2.trans (hb3.mono c2.size)
  go_wp2_with fail
  refine (ratio_lit [4, 6] [2, 9] 4 3 0 w3 (by decide) (by decide) (by decide) (by decide) (by kernel_rfl) (TO.out w3 b3)).mono ?_
  rintro e w4 ⟨rfl, hb4⟩
  have b4 := b3.trans (hb4.mono b3.size)
  have c4 := c3.trans (hb4.mono c3.size)
  have k4 := Blk.new w4 _ rfl 34 #[.int .i64 4, .int .i64 3]
  have b5 := b4.alloc b4.size (.cells #[.int .i64 4, .int .i64 3] 34)
  have c5 := c4.alloc c4.size (.cells #[.int .i64 4, .int .i64 3] 34)
  obtain ⟨g8, hg8⟩ : ∃ g, w4.heap.size = g := ⟨_, rfl⟩
  obtain ⟨W5, hW5⟩ : ∃ W, w4.alloc (.cells #[.int .i64 4, .int .i64 3] 34) = W := ⟨_, rfl⟩
  rw [hW5] at k4 b5 c5
  rw [hg8] at k4
  have K4 := Lib.hid k4
  clear k4 hb2 hb3 hb4 b2 b3 b4 c2 c3 c4
  go_wp2_with fail
  try rw [hW5]
  try rw [hg8]
  clear hW5 hg8
  refine (equal_lit [0] [1] false 1 W5 (by decide) (by decide) (by decide) (by decide) (by decide) (by decide) (TO.out W5 b5)).mono ?_
  rintro e w6 ⟨rfl, hb6⟩
  have k6 := K4.out.lowr hb6 K4.out.lt
  have b6 := b5.trans (hb6.mono b5.size)
  have c6 := c5.trans (hb6.mono c5.size)
  have b7 := b6.alloc b6.size (.cells #[.int .i64 2, .int .i64 2] 3)
  have c7 := c6.alloc c6.size (.cells #[.int .i64 2, .int .i64 2] 3)
  have k7 := k6.alloc (.cells #[.int .i64 2, .int .i64 2] 3)
  have n7 := rd_alloc w6 _ rfl 3 (cellsI [2, 2])
  obtain ⟨W7, hW7⟩ : ∃ W, w6.alloc (.cells #[.int .i64 2, .int .i64 2] 3) = W := ⟨_, rfl⟩
  have n7 : Rd W7 (w6.heap.size + 1) (some ⟨w6.heap.size, 0, none⟩) (cellsI [2, 2]) := by rw [← hW7]; exact n7
  rw [hW7] at b7 c7 k7
  have N7 := Lib.hid n7
  have K7 := Lib.hid k7
  clear n7 k7 k6 K4 hb6 b5 c5 b6 c6
  go_wp2_with fail
  try rw [hW7]
  refine (sameInts_yes [2, 2] _ _ 2 2 2 _ _ _ rfl (fit_lit (by decide)) (RA.out.below c7 (Nat.le_refl _)) N7.out (by unfold maxLen; decide)).mono ?_
  rintro e w8 ⟨rfl, hd8⟩
  have hb8 := hd8.below W7.heap.size
  have b8 := b7.trans (hb8.mono b7.size)
  have c8 := c7.trans (hb8.mono c7.size)
  have k8 := K7.out.lowr hb8 K7.out.lt
  have b9 := b8.alloc b8.size (.cells #[.int .i64 1, .int .i64 3] 3)
  have c9 := c8.alloc c8.size (.cells #[.int .i64 1, .int .i64 3] 3)
  have k9 := k8.alloc (.cells #[.int .i64 1, .int .i64 3] 3)
  have n9 := rd_alloc w8 _ rfl 3 (cellsI [1, 3])
  obtain ⟨W9, hW9⟩ : ∃ W, w8.alloc (.cells #[.int .i64 1, .int .i64 3] 3) = W := ⟨_, rfl⟩
  have n9 : Rd W9 (w8.heap.size + 1) (some ⟨w8.heap.size, 0, none⟩) (cellsI [1, 3]) := by rw [← hW9]; exact n9
  rw [hW9] at b9 c9 k9
  have N9 := Lib.hid n9
  have K9 := Lib.hid k9
  clear n9 k9 k8 K7 N7 hb8 hd8 b7 c7 b8 c8 hW7
  go_wp2_with fail
  try rw [hW9]
  refine (sameInts_yes [1, 3] _ _ 2 2 2 _ _ _ rfl (fit_lit (by decide)) (RB.out.below c9 (Nat.le_refl _)) N9.out (by unfold maxLen; decide)).mono ?_
  rintro e w10 ⟨rfl, hd10⟩
  have hb10 := hd10.below W9.heap.size
  have b10 := b9.trans (hb10.mono b9.size)
  have k10 := K9.out.lowr hb10 K9.out.lt
  have f0 := k10.cell 0
  have f1 := k10.cell 1
  simp at f0 f1
  clear k10 K9 N9 hb10 hd10 b9 c9 hW9
  go_wp2_with fail
  go_ret
  exact ⟨rfl, b10⟩
end Go.Proofs.YtblkcdenmgkddaaDoor
