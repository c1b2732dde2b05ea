/-
  CancelNames: it answers true.
-/
import Derived.Test.YtblkcdenmgkddaaDoorNk
namespace Go.Proofs.YtblkcdenmgkddaaDoor
open Go.RowKit

def threes (n : Nat) : List Int := List.replicate n 3
theorem threes_length (n : Nat) : (threes n).length = n := by simp [threes]
theorem threes_fit (n : Nat) : AllFit (threes n) := fun x hx => by rw [List.eq_of_mem_replicate hx]; unfold fits; omega
theorem threes_low (n : Nat) : clowB (threes n) = false := by
  unfold clowB; rw [List.any_eq_false]; intro x hx; rw [List.eq_of_mem_replicate hx]; decide
theorem threes_succ (n : Nat) : cellsI (threes n) ++ [.int .i64 3] = cellsI (threes (n + 1)) := by
  unfold cellsI threes
  rw [List.replicate_succ', List.map_append]; rfl
theorem nm1 : cwrongF (threes 1024) (threes 1024) = 0 ∧ equalF (threes 1024) (threes 1024) = true := by
  have h : cwrongF (threes 1024) (threes 1024) = 0 := by
    unfold cwrongF
    rw [threes_length, if_neg (by omega), threes_low]; rfl
  refine ⟨h, ?_⟩
  unfold equalF
  rw [h]; simp
theorem nm2 : cwrongF (threes 1024 ++ [0]) (threes 1024) = 2 := by
  unfold cwrongF
  rw [if_pos (by left; rw [List.length_append, threes_length]; decide)]
theorem nm3 (xs : List Int) : cwrongF xs (threes 1024 ++ [0]) = 2 := by
  unfold cwrongF
  rw [if_pos (by right; rw [List.length_append, threes_length]; decide)]
theorem nm4 : ratioF [-1] (threes 1024 ++ [0]) = (⟨0, 0⟩, 2) := by
  unfold ratioF
  rw [nm3]; rfl
theorem nm5 : ratioF [-1] [] = (⟨0, 0⟩, 1) := by kernel_rfl
theorem nm6 : ratioF [4611686018427387904, 2] [] = (⟨0, 0⟩, 4) := by kernel_rfl
theorem ratio_new (xs ys : List Int) (A' : Option Addr) (n' c' : Nat) (k : Int) (w : World) (hx : AllFit xs) (hy : AllFit ys) (hl : xs.length ≤ 100) (hn : ys.length = n') (hl' : n' ≤ 2000) (hr : Rd w w.heap.size A' (cellsI ys)) (ht : ratioF xs ys = (⟨0, 0⟩, k)) (hT : Tab w) :
    Calls Tryd.prog 20 #[.slice (some ⟨w.heap.size, 0, none⟩) xs.length xs.length, .slice A' n' c'] (w.alloc (.cells (cellsI xs).toArray 3)) fun e w' => e = .returned (.tuple #[.agg #[.int .i64 0, .int .i64 0], .int .i64 k]) ∧ Below w.heap.size w w' := by
  have ba := (Below.refl w.heap.size w).alloc (Nat.le_refl _) (.cells (cellsI xs).toArray 3)
  refine (ratio_any xs ys _ A' xs.length n' _ c' _ _ _ rfl hn hx hy (rd_alloc w _ rfl 3 (cellsI xs)) (hr.below ba (Nat.le_refl _)) (by unfold maxLen; omega) (by unfold maxLen; omega) (by simp) (by simp) (hT.below ba hT.pos)).mono ?_
  rintro e w' ⟨rfl, hb2⟩
  rw [ht]
  exact ⟨rfl, ba.trans (hb2.mono ba.size)⟩

set_option maxRecDepth 100000 in
set_option maxHeartbeats 4000000 in
theorem cnames_any (w : World) (hT : Tab w) : Calls Tryd.prog 10 #[] w fun e w' => e = .returned (.bool true) ∧ Below w.heap.size w w' := by
  obtain ⟨i, hi, hz0, hz1, hz2⟩ := info_parts info_int
  have TO := Lib.hid (fun w1 (hb : Below w.heap.size w w1) => hT.below hb hT.pos)
  clear hT
  go_enter Tryd.func10, Tryd.ntmps10
  go_wp2
  go_loopw [1, 2] (fun v i wr => ∃ k : Nat, k ≤ 1024 ∧ i = .int .i64 k ∧ wr.ownsRow w.heap.size 3 1 v k (cellsI (threes k)) ∧ Below w.heap.size w wr) (fun _ i _ => 1024 - (intOf i).toNat)
  case atStart => exact ⟨0, by omega, rfl, World.ownsRow_nil _ _ _ _, Below.refl _ _⟩
  case round =>
    obtain ⟨k, hk, rfl, hown, hbw⟩ := hrel
    by_cases hlt : k < 1024
    · go_wp2_with (at_builtin; refine wpList_append_own _ rfl _ _ 22 rfl w.heap.size 3 i (.int .i64 0) 1 8 Tryd.underlying22 hi hz0 hz1 hz2 rfl (by decide) _ k (cellsI (threes k)) rfl (hown.alloc _) ⟨wr.heap.size, 0, none⟩ 1 1 [.int .i64 3] rfl rfl (cell_one_new _ _ _) (by simp [Value.oneCell']) (by unfold maxLen; omega) (by omega) (by have := hbw.size; simp; omega) ?_)
      intro v' w2 hown2 hg2 _
      rw [threes_succ] at hown2
      have hbw2 : Below w.heap.size w w2 := (hbw.alloc hbw.size _).grown hg2 (by have := hbw.size; simp; omega) (fun j hj => (hown.lt j hj).1)
      clear hown hg2 hbw
      go_wp2
      go_roundw
      case rel => exact ⟨k + 1, by omega, by go_num, hown2, hbw2⟩
      case measure => simp [intOf]; omega
    · obtain rfl : k = 1024 := by omega
      obtain ⟨A, c, rfl, -⟩ := own_slice hown
      have RL := Lib.hid (rd_of_own hown)
      clear hown
      go_wp2_with fail
      refine (ints_any (threes 1024) A 1024 c _ wr (threes_length _) RL.out (by omega)).mono ?_
      rintro e w1 ⟨A1, c1, rfl, -, r1, -, hb1⟩
      have b1 := hbw.trans (hb1.mono hbw.size)
      have RL1 := Lib.hid ((RL.out.below hb1 (Nat.le_refl _)).more hb1.size)
      have R1 := Lib.hid r1
      clear r1
      go_wp2_with fail
      have hc := equal_any (threes 1024) (threes 1024) A A1 1024 1024 c c1 _ _ w1 (threes_length _) (threes_length _) (threes_fit _) (threes_fit _) RL1.out R1.out (by unfold maxLen; omega) (by unfold maxLen; omega) (Nat.le_refl _) (Nat.le_refl _) (TO.out w1 b1)
      rw [nm1.1, nm1.2] at hc
      refine hc.mono ?_
      rintro e w2 ⟨rfl, hb2⟩
      have b2 := b1.trans (hb2.mono b1.size)
      have RL2 := Lib.hid ((RL1.out.below hb2 (Nat.le_refl _)).more hb2.size)
      clear hb1 hb2 hbw b1 RL RL1 R1 hc
      have hlen : (cellsI (threes 1024)).length = 1024 * 1 := by rw [cellsI_length, threes_length]
      go_wp2_with (at_builtin; refine wpList_append_rd _ rfl _ _ 22 rfl w2.heap.size 3 i (.int .i64 0) 1 8 Tryd.underlying22 hi hz0 hz1 hz2 rfl (by decide) _ 0 [] rfl (World.ownsRow_nil _ _ _ _) w2.heap.size A 1024 c (cellsI (threes 1024)) rfl hlen RL2.out (cellsI_one _) (by unfold maxLen; omega) (by omega) (Nat.le_refl _) ?_)
      intro v3 w3 o3 hg3 hat
      clear hat
      have hb3 : Below w2.heap.size w2 w3 := (Below.refl _ _).grown hg3 (Nat.le_refl _) (fun k hk => by simp [Value.ownBlock] at hk)
      have o3 : w3.ownsRow w2.heap.size 3 1 v3 1024 (cellsI (threes 1024)) := by simpa using o3
      have hs3 := hb3.size
      have B2 := Lib.hid b2
      clear hg3 b2
      go_wp2_with (at_builtin; refine wpList_append_own _ rfl _ _ 22 rfl w2.heap.size 3 i (.int .i64 0) 1 8 Tryd.underlying22 hi hz0 hz1 hz2 rfl (by decide) _ 1024 (cellsI (threes 1024)) rfl (o3.alloc _) ⟨w3.heap.size, 0, none⟩ 1 1 [.int .i64 0] rfl rfl (cell_one_new _ _ _) (by simp [Value.oneCell']) (by unfold maxLen; omega) (by omega) (by simp; omega) ?_)
      intro v4 w4 o4 hg4 hat
      clear hat
      have h24 : Below w2.heap.size w2 w4 := (hb3.alloc hb3.size _).grown hg4 (by simp; omega) (fun j hj => (o3.lt j hj).1)
      have b4 : Below w.heap.size w w4 := B2.out.trans (h24.mono B2.out.size)
      have RL4 := Lib.hid ((RL2.out.below h24 (Nat.le_refl _)).more h24.size)
      have o4 : w4.ownsRow w2.heap.size 3 1 v4 1025 (cellsI (threes 1024 ++ [0])) := by
        have e : cellsI (threes 1024) ++ [Value.int .i64 0] = cellsI (threes 1024 ++ [0]) := by simp [cellsI]
        rw [← e]; exact o4
      obtain ⟨Am, cm, rfl, -⟩ := own_slice o4
      have RM := Lib.hid (rd_of_own o4)
      have fm : AllFit (threes 1024 ++ [0]) := by
        intro x hx
        rcases List.mem_append.1 hx with hx | hx
        · exact threes_fit _ x hx
        · simp at hx; subst hx; unfold fits; omega
      have FM := Lib.hid fm
      have LM := Lib.hid (show (threes 1024 ++ [0]).length = 1025 by rw [List.length_append, threes_length]; rfl)
      clear hb3 o3 o4 hg4 h24 RL2 fm hs3 B2
      go_wp2_with fail
      have hc := equal_any (threes 1024 ++ [0]) (threes 1024) Am A 1025 1024 cm c _ _ w4 LM.out (threes_length _) FM.out (threes_fit _) RM.out RL4.out (by unfold maxLen; omega) (by unfold maxLen; omega) (Nat.le_refl _) (Nat.le_refl _) (TO.out w4 b4)
      rw [nm2] at hc
      obtain ⟨t, ht⟩ : ∃ t, equalF (threes 1024 ++ [0]) (threes 1024) = t := ⟨_, rfl⟩
      rw [ht] at hc
      refine hc.mono ?_
      rintro e w5 ⟨rfl, hb5⟩
      have b5 := b4.trans (hb5.mono b4.size)
      have RM := Lib.hid ((RM.out.below hb5 (Nat.le_refl _)).more hb5.size)
      clear hb5 b4 hc RL4 ht
      go_wp2_with fail
      refine (reduce_bad [] (threes 1024 ++ [0]) none Am 0 1025 0 cm 0 _ w5 rfl LM.out (fun x h => (by cases h)) FM.out (.inl rfl) RM.out (by unfold maxLen; omega) (by unfold maxLen; omega) (by rw [nm3]; decide)).mono ?_
      rw [nm3]
      rintro e w6 ⟨rfl, rfl⟩
      go_wp2_with fail
      refine (ratio_new [-1] (threes 1024 ++ [0]) Am 1025 cm 2 w5 (fit_lit (by decide)) FM.out (by decide) LM.out (by omega) RM.out nm4 (TO.out w5 b5)).mono ?_
      rintro e w7 ⟨rfl, hb7⟩
      have b7 := b5.trans (hb7.mono b5.size)
      have ba := (Below.refl w7.heap.size w7).alloc (Nat.le_refl _) (.cells #[.int .i64 0, .int .i64 0] 34)
      have b8 := b7.trans (ba.mono b7.size)
      obtain ⟨W8, hW8⟩ : ∃ W, w7.alloc (.cells #[.int .i64 0, .int .i64 0] 34) = W := ⟨_, rfl⟩
      rw [hW8] at b8
      have HW8 := Lib.hid hW8
      have HS8 := Lib.hid (show W8.heap.size = w7.heap.size + 1 by rw [← hW8]; simp)
      clear hW8
      have R8 : Rd W8 W8.heap.size none (cellsI []) := .inl rfl
      clear hb7 b5 b7 ba RM
      go_wp2_with fail
      try rw [HW8.out]
      try rw [← HS8.out]
      refine (ratio_new [-1] [] none 0 0 1 W8 (fit_lit (by decide)) (fun x h => (by cases h)) (by decide) rfl (by omega) R8 nm5 (TO.out W8 b8)).mono ?_
      rintro e w9 ⟨rfl, hb9⟩
      have b9 := b8.trans (hb9.mono b8.size)
      have ba := (Below.refl w9.heap.size w9).alloc (Nat.le_refl _) (.cells #[.int .i64 0, .int .i64 0] 34)
      have b10 := b9.trans (ba.mono b9.size)
      obtain ⟨W10, hW10⟩ : ∃ W, w9.alloc (.cells #[.int .i64 0, .int .i64 0] 34) = W := ⟨_, rfl⟩
      rw [hW10] at b10
      have HW10 := Lib.hid hW10
      have HS10 := Lib.hid (show W10.heap.size = w9.heap.size + 1 by rw [← hW10]; simp)
      clear hW10
      have R10 : Rd W10 W10.heap.size none (cellsI []) := .inl rfl
      clear hb9 b8 b9 ba R8 HW8
      go_wp2_with fail
      try rw [HW10.out]
      try rw [← HS10.out]
      refine (ratio_new [4611686018427387904, 2] [] none 0 0 4 W10 (fit_lit (by decide)) (fun x h => (by cases h)) (by decide) rfl (by omega) R10 nm6 (TO.out W10 b10)).mono ?_
      rintro e w11 ⟨rfl, hb11⟩
      have b11 := b10.trans (hb11.mono b10.size)
      have b12 := b11.alloc b11.size (.cells #[.int .i64 0, .int .i64 0] 34)
      obtain ⟨W12, hW12⟩ : ∃ W, w11.alloc (.cells #[.int .i64 0, .int .i64 0] 34) = W := ⟨_, rfl⟩
      rw [hW12] at b12
      have HW12 := Lib.hid hW12
      have HS12 := Lib.hid (show W12.heap.size = w11.heap.size + 1 by rw [← hW12]; simp)
      clear hW12
      clear hb11 b10 b11 R10 HW10
      go_wp2_with fail
      try rw [HW12.out]
      try rw [← HS12.out]
      refine (awake_any W12 (TO.out W12 b12)).mono ?_
      rintro e w13 ⟨rfl, hb13⟩
      have b13 := b12.trans (hb13.mono b12.size)
      clear hb13 b12 HW12
      go_wp2_with fail
      go_ret
      exact ⟨rfl, b13⟩
end Go.Proofs.YtblkcdenmgkddaaDoor
