/-
  The chapter's examples: awake.
-/
import Derived.Test.YtfielhbepnkekaaKl
namespace Go.Proofs.Ytfielhbepnkekaa
open Go.RowKit

theorem fitI (z : Int) (h : -9223372036854775808 ≤ z ∧ z ≤ 9223372036854775807) : fits z := h
theorem aw1 (w : World) : Calls Try.prog 15 #[.int .i64 6, .int .i64 (-4)] w fun e w' => e = .returned (.tuple #[.agg #[.int .i64 (-3), .int .i64 2], .int .i64 0]) ∧ Below w.heap.size w w' := new_any 6 (-4) w (fitI _ (by omega)) (fitI _ (by omega))
theorem aw2 (w : World) : Calls Try.prog 15 #[.int .i64 5, .int .i64 0] w fun e w' => e = .returned (.tuple #[.agg #[.int .i64 0, .int .i64 0], .int .i64 20]) ∧ Below w.heap.size w w' := new_any 5 0 w (fitI _ (by omega)) (fitI _ (by omega))
theorem fit2 {a b c d : Int} (ha : fits a) (hb : fits b) (hc : fits c) (hd : fits d) : ∀ f ∈ [(⟨a, b⟩ : Fr), ⟨c, d⟩], f.fit := fun f hf => by
  simp at hf
  rcases hf with rfl | rfl
  · exact ⟨ha, hb⟩
  · exact ⟨hc, hd⟩
theorem aw3 (w : World) (b c : Nat) (hb : b = w.heap.size) : Calls Try.prog 21 #[.slice (some ⟨b, 0, none⟩) 2 c] (w.alloc (.cells #[.int .i64 2, .int .i64 3, .int .i64 3, .int .i64 4] 23)) fun e w' => e = .returned (.tuple #[.agg #[.int .i64 1, .int .i64 2], .int .i64 0]) ∧ Below (w.alloc (.cells #[.int .i64 2, .int .i64 3, .int .i64 3, .int .i64 4] 23)).heap.size (w.alloc (.cells #[.int .i64 2, .int .i64 3, .int .i64 3, .int .i64 4] 23)) w' :=
  fmul_any [⟨2, 3⟩, ⟨3, 4⟩] (some ⟨b, 0, none⟩) 2 c _ rfl (fit2 (fitI _ (by omega)) (fitI _ (by omega)) (fitI _ (by omega)) (fitI _ (by omega))) ((rd_alloc w b hb 23 (cellsF [⟨2, 3⟩, ⟨3, 4⟩])).more (by subst hb; simp)) (by unfold maxLen; omega)
theorem aw4 (w : World) : Calls Try.prog 24 #[.agg #[.int .i64 (-2), .int .i64 3]] w fun e w' => e = .returned (.tuple #[.agg #[.int .i64 (-3), .int .i64 2], .int .i64 0]) ∧ Below w.heap.size w w' := inv_any ⟨-2, 3⟩ w ⟨fitI _ (by simp), fitI _ (by simp)⟩
theorem aw5 (w : World) : Calls Try.prog 26 #[.agg #[.int .i64 1, .int .i64 3], .agg #[.int .i64 1, .int .i64 2]] w fun e w' => e = .returned (.tuple #[.int .i64 (-1), .int .i64 0]) ∧ Below w.heap.size w w' := fcmp_any ⟨1, 3⟩ ⟨1, 2⟩ w ⟨fitI _ (by simp), fitI _ (by simp)⟩ ⟨fitI _ (by simp), fitI _ (by simp)⟩
theorem aw6v : scaleR [⟨1, 2⟩, ⟨-2, 3⟩] = (6, [3, -4], 0) := by rfl
theorem aw6 (w : World) (b c : Nat) (hb : b = w.heap.size) : Calls Try.prog 28 #[.slice (some ⟨b, 0, none⟩) 2 c] (w.alloc (.cells #[.int .i64 1, .int .i64 2, .int .i64 (-2), .int .i64 3] 23)) fun e w' => ∃ g c', e = .returned (.tuple #[.int .i64 6, .slice (some ⟨g, 0, none⟩) 2 c', .int .i64 0]) ∧ w'.cell? ⟨g, 0, none⟩ = some (.int .i64 3) ∧ w'.cell? ⟨g, 1, none⟩ = some (.int .i64 (-4)) ∧ Below (w.alloc (.cells #[.int .i64 1, .int .i64 2, .int .i64 (-2), .int .i64 3] 23)).heap.size (w.alloc (.cells #[.int .i64 1, .int .i64 2, .int .i64 (-2), .int .i64 3] 23)) w' := by
  refine (fscale_any [⟨1, 2⟩, ⟨-2, 3⟩] (some ⟨b, 0, none⟩) 2 c _ rfl (fit2 (fitI _ (by omega)) (fitI _ (by omega)) (fitI _ (by omega)) (fitI _ (by omega))) ((rd_alloc w b hb 23 (cellsF [⟨1, 2⟩, ⟨-2, 3⟩])).more (by subst hb; simp)) (by omega)).mono ?_
  rintro e w' ⟨lv, he, ho, hbl⟩
  rw [aw6v] at he ho
  obtain ⟨A, cl, rfl, hcl⟩ := own_slice ho
  rcases ho.2 with ⟨h1, _⟩ | ⟨g, cap, cur, h1, _, _⟩
  · injection h1 with h1 h2 h3; simp at h2
  · injection h1 with h1 h2 h3
    subst h1
    rcases rd_of_own ho with hr | ⟨g', off, ha, _, hc⟩
    · simp [cellsI] at hr
    · injection ha with ha
      injection ha with ha1 ha2
      subst ha1 ha2
      have c0 := hc 0 (.int .i64 3) rfl
      have c1 := hc 1 (.int .i64 (-4)) rfl
      simp only [Nat.zero_add] at c0 c1
      exact ⟨g, cl, he, c0, c1, hbl⟩
theorem aw7 (w : World) : Calls Try.prog 17 #[.agg #[.int .i64 3, .int .i64 2]] w fun e w' => e = .returned (.bool true) ∧ Below w.heap.size w w' := valid_any 3 2 w (fitI _ (by omega)) (fitI _ (by omega))
theorem aw8 (w : World) : Calls Try.prog 17 #[.agg #[.int .i64 6, .int .i64 4]] w fun e w' => e = .returned (.bool false) ∧ Below w.heap.size w w' := valid_any 6 4 w (fitI _ (by omega)) (fitI _ (by omega))

set_option maxRecDepth 100000 in
set_option maxHeartbeats 2000000 in
theorem awake_any (w : World) : Calls Try.prog 18 #[] w fun e w' => e = .returned (.bool true) ∧ Below w.heap.size w w' := by
  go_enter Try.func18, Try.ntmps18
  go_wp2_with fail
  refine (aw1 _).mono ?_
  rintro e w1 ⟨rfl, hb1⟩
  have k1 := Blk.new w1 _ rfl 23 #[.int .i64 (-3), .int .i64 2]
  have b1 := hb1.alloc hb1.size (.cells #[.int .i64 (-3), .int .i64 2] 23)
  have s1 := hb1.size
  clear hb1
  go_wp2_with fail
  refine (aw2 _).mono ?_
  rintro e w2 ⟨rfl, hb2⟩
  have k1 := k1.low hb2 (by simp)
  have b2 := b1.trans (hb2.mono (by simp; omega))
  have s2 := hb2.size
  simp at s2
  have k3 := k1.alloc (.cells #[.int .i64 0, .int .i64 0] 23)
  have b3 := b2.alloc (by omega) (.cells #[.int .i64 0, .int .i64 0] 23)
  clear hb2 b1 k1 b2
  go_wp2_with fail
  refine (aw3 _ _ _ (by simp)).mono ?_
  rintro e w3 ⟨rfl, hb3⟩
  have k3 := (k3.alloc (.cells #[.int .i64 2, .int .i64 3, .int .i64 3, .int .i64 4] 23)).low hb3 (by simp; omega)
  have b4 := (b3.alloc (by simp; omega) (.cells #[.int .i64 2, .int .i64 3, .int .i64 3, .int .i64 4] 23)).trans (hb3.mono (by simp; omega))
  have s3 := hb3.size
  simp at s3
  have k4 := k3.alloc (.cells #[.int .i64 1, .int .i64 2] 23)
  have m4 := Blk.new w3 _ rfl 23 #[.int .i64 1, .int .i64 2]
  have b5 := b4.alloc (by omega) (.cells #[.int .i64 1, .int .i64 2] 23)
  clear hb3 b3 b4 k3
  go_wp2_with fail
  refine (aw4 _).mono ?_
  rintro e w4 ⟨rfl, hb4⟩
  have k4 := k4.low hb4 (by simp; omega)
  have m4 := m4.low hb4 (by simp)
  have b6 := b5.trans (hb4.mono (by simp; omega))
  have s4 := hb4.size
  simp at s4
  have k5 := k4.alloc (.cells #[.int .i64 (-3), .int .i64 2] 23)
  have m5 := m4.alloc (.cells #[.int .i64 (-3), .int .i64 2] 23)
  have n5 := Blk.new w4 _ rfl 23 #[.int .i64 (-3), .int .i64 2]
  have b7 := b6.alloc (by omega) (.cells #[.int .i64 (-3), .int .i64 2] 23)
  clear hb4 b5 b6 k4 m4
  go_wp2_with fail
  refine (aw5 _).mono ?_
  rintro e w5 ⟨rfl, hb5⟩
  have k5 := k5.low hb5 (by simp; omega)
  have m5 := m5.low hb5 (by simp; omega)
  have n5 := n5.low hb5 (by simp)
  have b8 := b7.trans (hb5.mono (by simp; omega))
  have s5 := hb5.size
  simp at s5
  clear hb5 b7
  go_wp2_with fail
  refine (aw6 _ _ _ rfl).mono ?_
  rintro e w6 ⟨g, c', rfl, c0, c1, hb6⟩
  have k6 := (k5.alloc _).low hb6 (by simp; omega)
  have m6 := (m5.alloc _).low hb6 (by simp; omega)
  have n6 := (n5.alloc _).low hb6 (by simp; omega)
  have b9 := (b8.alloc (by omega) _).trans (hb6.mono (by simp; omega))
  have d0 := k6.cell 0
  have d1 := k6.cell 1
  have d2 := m6.cell 0
  have d3 := m6.cell 1
  have d4 := n6.cell 0
  have d5 := n6.cell 1
  have s6 := b9.size
  simp only [List.getElem?_toArray, List.getElem?_cons_zero, List.getElem?_cons_succ] at d0 d1 d2 d3 d4 d5
  clear hb6 b8 k5 m5 n5 k6 m6 n6 s1 s2 s3 s4 s5
  go_wp2_with fail
  refine (aw7 _).mono ?_
  rintro e w7 ⟨rfl, hb7⟩
  have b10 := b9.trans (hb7.mono s6)
  go_wp2_with fail
  refine (aw8 _).mono ?_
  rintro e w8 ⟨rfl, hb8⟩
  go_wp2_with fail
  go_ret
  exact ⟨rfl, b10.trans (hb8.mono b10.size)⟩
end Go.Proofs.Ytfielhbepnkekaa
