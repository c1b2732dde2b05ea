/-
  Add, Sub and Mul where the answer fits and where it does not; IntsBack answers true at all numbers.
-/
import Derived.Test.YtlnbmjebkpkclaaDoorIf
namespace Go.Proofs.YtlnbmjebkpkclaaDoor
open Go.RowKit

section
variable (x y s : Int) (w : World) (hx : fits x) (hy : fits y)
include hx hy
theorem add_yes (h : x + y = s) (hs : fits s) : Calls Tryd.prog 14 #[.int .i64 x, .int .i64 y] w fun e w' => e = .returned (.tuple #[.int .i64 s, .bool true]) ∧ w = w' := by
  subst h; exact (add_any x y w hx hy).mono fun _ _ ⟨h, h'⟩ => ⟨h.trans (tup2 (val_yes hs).symm (b_yes hs).symm), h'⟩
theorem add_no (h : x + y = s) (hs : ¬ fits s) : Calls Tryd.prog 14 #[.int .i64 x, .int .i64 y] w fun e w' => e = .returned (.tuple #[.int .i64 0, .bool false]) ∧ w = w' := by
  subst h; exact (add_any x y w hx hy).mono fun _ _ ⟨h, h'⟩ => ⟨h.trans (tup2 (val_no hs).symm (b_no hs).symm), h'⟩
theorem sub_yes (h : x - y = s) (hs : fits s) : Calls Tryd.prog 15 #[.int .i64 x, .int .i64 y] w fun e w' => e = .returned (.tuple #[.int .i64 s, .bool true]) ∧ w = w' := by
  subst h; exact (sub_any x y w hx hy).mono fun _ _ ⟨h, h'⟩ => ⟨h.trans (tup2 (val_yes hs).symm (b_yes hs).symm), h'⟩
theorem mul_yes (h : x * y = s) (hs : fits s) : Calls Tryd.prog 16 #[.int .i64 x, .int .i64 y] w fun e w' => e = .returned (.tuple #[.int .i64 s, .bool true]) ∧ w = w' := by
  subst h; exact (mul_any x y w hx hy).mono fun _ _ ⟨h, h'⟩ => ⟨h.trans (tup2 (val_yes hs).symm (b_yes hs).symm), h'⟩
theorem mul_no (h : x * y = s) (hs : ¬ fits s) : Calls Tryd.prog 16 #[.int .i64 x, .int .i64 y] w fun e w' => e = .returned (.tuple #[.int .i64 0, .bool false]) ∧ w = w' := by
  subst h; exact (mul_any x y w hx hy).mono fun _ _ ⟨h, h'⟩ => ⟨h.trans (tup2 (val_no hs).symm (b_no hs).symm), h'⟩
end

theorem back_quo {a b : Int} (ha : fits a) (hb : b ≠ 0) : wrap64 ((a * b).tdiv b) = a ∧ (a * b).tmod b = 0 := by
  rw [Int.mul_tdiv_cancel _ hb, Int.mul_tmod_left]
  unfold fits at ha
  exact ⟨IntWalk.wrap64_in _ ha, rfl⟩

def BackGoal (a b c : Int) (w : World) : Prop := Calls Tryd.prog 8 #[.int .i64 a, .int .i64 b, .int .i64 c] w fun e w' => e = .returned (.bool true) ∧ Below w.heap.size w w'
section
variable (a b c : Int) (w : World) (ha : fits a) (hb : fits b) (hc : fits c) (hT : Tab w)
include ha hb hc hT
set_option maxRecDepth 100000 in
set_option maxHeartbeats 4000000 in
theorem back_0 (h1 : fits (a + b)) (hb0 : b = 0) (h3 : fits (a * c)) (h4 : fits (b * c)) (h5 : fits ((a + b) * c)) : BackGoal a b c w := by
  unfold BackGoal
  have f0 : fits 0 := by unfold fits; omega
  have h2 : fits (a * b) := by rw [hb0]; simpa using f0
  have hz : (b != 0) = false := by simpa using hb0
  clear hb0
  have ha' := ha
  have h1' := h1
  unfold fits at ha' h1'
  go_enter Tryd.func8, Tryd.ntmps8
  go_wp2_with (first | (go_at_call 14; ((with_reducible refine (add_yes a b (a + b) _ ha hb rfl h1).mono ?_)); rintro e w' ⟨rfl, rfl⟩) | (go_at_call 14; ((with_reducible refine (add_yes b a (a + b) _ hb ha (Int.add_comm _ _) h1).mono ?_)); rintro e w' ⟨rfl, rfl⟩) | (go_at_call 15; refine (sub_yes (a + b) b a _ h1 hb (by omega) ha).mono ?_; rintro e w' ⟨rfl, rfl⟩) | (go_at_call 16; ((with_reducible refine (mul_yes a b (a * b) _ ha hb rfl h2).mono ?_)); rintro e w' ⟨rfl, rfl⟩) | (go_at_call 16; ((with_reducible refine (mul_yes b a (a * b) _ hb ha (Int.mul_comm _ _) h2).mono ?_)); rintro e w' ⟨rfl, rfl⟩) | (go_at_call 16; ((with_reducible refine (mul_yes a c (a * c) _ ha hc rfl h3).mono ?_)); rintro e w' ⟨rfl, rfl⟩) | (go_at_call 16; ((with_reducible refine (mul_yes b c (b * c) _ hb hc rfl h4).mono ?_)); rintro e w' ⟨rfl, rfl⟩) | (go_at_call 16; ((with_reducible refine (mul_yes (a + b) c ((a + b) * c) _ h1 hc rfl h5).mono ?_)); rintro e w' ⟨rfl, rfl⟩) | (go_at_call 14; ((with_reducible refine (add_yes (a * c) (b * c) ((a + b) * c) _ h3 h4 (Int.add_mul a b c).symm h5).mono ?_)); rintro e w' ⟨rfl, rfl⟩) | (go_at_call 20; refine (awake_any _ hT).mono ?_; rintro e w' ⟨rfl, hw⟩))
  go_ret
  exact ⟨rfl, hw⟩

set_option maxRecDepth 100000 in
set_option maxHeartbeats 4000000 in
theorem back_1 (h1 : fits (a + b)) (hb0 : b = 0) (h3 : ¬ fits (a * c)) : BackGoal a b c w := by
  unfold BackGoal
  have f0 : fits 0 := by unfold fits; omega
  have h2 : fits (a * b) := by rw [hb0]; simpa using f0
  have hz : (b != 0) = false := by simpa using hb0
  clear hb0
  have ha' := ha
  have h1' := h1
  unfold fits at ha' h1'
  go_enter Tryd.func8, Tryd.ntmps8
  go_wp2_with (first | (go_at_call 14; ((with_reducible refine (add_yes a b (a + b) _ ha hb rfl h1).mono ?_)); rintro e w' ⟨rfl, rfl⟩) | (go_at_call 14; ((with_reducible refine (add_yes b a (a + b) _ hb ha (Int.add_comm _ _) h1).mono ?_)); rintro e w' ⟨rfl, rfl⟩) | (go_at_call 15; refine (sub_yes (a + b) b a _ h1 hb (by omega) ha).mono ?_; rintro e w' ⟨rfl, rfl⟩) | (go_at_call 16; ((with_reducible refine (mul_yes a b (a * b) _ ha hb rfl h2).mono ?_)); rintro e w' ⟨rfl, rfl⟩) | (go_at_call 16; ((with_reducible refine (mul_yes b a (a * b) _ hb ha (Int.mul_comm _ _) h2).mono ?_)); rintro e w' ⟨rfl, rfl⟩) | (go_at_call 16; ((with_reducible refine (mul_no a c (a * c) _ ha hc rfl h3).mono ?_)); rintro e w' ⟨rfl, rfl⟩) | (go_at_call 16; ((with_reducible refine (mul_any _ _ _ hb hc).mono ?_)); rintro e w' ⟨rfl, rfl⟩) | (go_at_call 16; ((with_reducible refine (mul_any _ _ _ h1 hc).mono ?_)); rintro e w' ⟨rfl, rfl⟩) | (go_at_call 14; ((with_reducible refine (add_any _ _ _ f0 (okOf_fits _)).mono ?_)); rintro e w' ⟨rfl, rfl⟩) | (go_at_call 20; refine (awake_any _ hT).mono ?_; rintro e w' ⟨rfl, hw⟩))
  go_ret
  exact ⟨rfl, hw⟩

set_option maxRecDepth 100000 in
set_option maxHeartbeats 4000000 in
theorem back_2 (h1 : fits (a + b)) (hb0 : b = 0) (h3 : fits (a * c)) (h4 : ¬ fits (b * c)) : BackGoal a b c w := by
  unfold BackGoal
  have f0 : fits 0 := by unfold fits; omega
  have h2 : fits (a * b) := by rw [hb0]; simpa using f0
  have hz : (b != 0) = false := by simpa using hb0
  clear hb0
  have ha' := ha
  have h1' := h1
  unfold fits at ha' h1'
  go_enter Tryd.func8, Tryd.ntmps8
  go_wp2_with (first | (go_at_call 14; ((with_reducible refine (add_yes a b (a + b) _ ha hb rfl h1).mono ?_)); rintro e w' ⟨rfl, rfl⟩) | (go_at_call 14; ((with_reducible refine (add_yes b a (a + b) _ hb ha (Int.add_comm _ _) h1).mono ?_)); rintro e w' ⟨rfl, rfl⟩) | (go_at_call 15; refine (sub_yes (a + b) b a _ h1 hb (by omega) ha).mono ?_; rintro e w' ⟨rfl, rfl⟩) | (go_at_call 16; ((with_reducible refine (mul_yes a b (a * b) _ ha hb rfl h2).mono ?_)); rintro e w' ⟨rfl, rfl⟩) | (go_at_call 16; ((with_reducible refine (mul_yes b a (a * b) _ hb ha (Int.mul_comm _ _) h2).mono ?_)); rintro e w' ⟨rfl, rfl⟩) | (go_at_call 16; ((with_reducible refine (mul_yes a c (a * c) _ ha hc rfl h3).mono ?_)); rintro e w' ⟨rfl, rfl⟩) | (go_at_call 16; ((with_reducible refine (mul_no b c (b * c) _ hb hc rfl h4).mono ?_)); rintro e w' ⟨rfl, rfl⟩) | (go_at_call 16; ((with_reducible refine (mul_any _ _ _ h1 hc).mono ?_)); rintro e w' ⟨rfl, rfl⟩) | (go_at_call 14; ((with_reducible refine (add_any _ _ _ h3 f0).mono ?_)); rintro e w' ⟨rfl, rfl⟩) | (go_at_call 20; refine (awake_any _ hT).mono ?_; rintro e w' ⟨rfl, hw⟩))
  go_ret
  exact ⟨rfl, hw⟩

set_option maxRecDepth 100000 in
set_option maxHeartbeats 4000000 in
theorem back_3 (h1 : fits (a + b)) (hb0 : b = 0) (h3 : fits (a * c)) (h4 : fits (b * c)) (h5 : ¬ fits ((a + b) * c)) : BackGoal a b c w := by
  unfold BackGoal
  have f0 : fits 0 := by unfold fits; omega
  have h2 : fits (a * b) := by rw [hb0]; simpa using f0
  have hz : (b != 0) = false := by simpa using hb0
  clear hb0
  have ha' := ha
  have h1' := h1
  unfold fits at ha' h1'
  go_enter Tryd.func8, Tryd.ntmps8
  go_wp2_with (first | (go_at_call 14; ((with_reducible refine (add_yes a b (a + b) _ ha hb rfl h1).mono ?_)); rintro e w' ⟨rfl, rfl⟩) | (go_at_call 14; ((with_reducible refine (add_yes b a (a + b) _ hb ha (Int.add_comm _ _) h1).mono ?_)); rintro e w' ⟨rfl, rfl⟩) | (go_at_call 15; refine (sub_yes (a + b) b a _ h1 hb (by omega) ha).mono ?_; rintro e w' ⟨rfl, rfl⟩) | (go_at_call 16; ((with_reducible refine (mul_yes a b (a * b) _ ha hb rfl h2).mono ?_)); rintro e w' ⟨rfl, rfl⟩) | (go_at_call 16; ((with_reducible refine (mul_yes b a (a * b) _ hb ha (Int.mul_comm _ _) h2).mono ?_)); rintro e w' ⟨rfl, rfl⟩) | (go_at_call 16; ((with_reducible refine (mul_yes a c (a * c) _ ha hc rfl h3).mono ?_)); rintro e w' ⟨rfl, rfl⟩) | (go_at_call 16; ((with_reducible refine (mul_yes b c (b * c) _ hb hc rfl h4).mono ?_)); rintro e w' ⟨rfl, rfl⟩) | (go_at_call 16; ((with_reducible refine (mul_no (a + b) c ((a + b) * c) _ h1 hc rfl h5).mono ?_)); rintro e w' ⟨rfl, rfl⟩) | (go_at_call 14; ((with_reducible refine (add_any _ _ _ h3 h4).mono ?_)); rintro e w' ⟨rfl, rfl⟩) | (go_at_call 20; refine (awake_any _ hT).mono ?_; rintro e w' ⟨rfl, hw⟩))
  go_ret
  exact ⟨rfl, hw⟩

set_option maxRecDepth 100000 in
set_option maxHeartbeats 4000000 in
theorem back_4 (h1 : fits (a + b)) (hb0 : b ≠ 0) (h2 : fits (a * b)) (h3 : fits (a * c)) (h4 : fits (b * c)) (h5 : fits ((a + b) * c)) : BackGoal a b c w := by
  unfold BackGoal
  have f0 : fits 0 := by unfold fits; omega
  have hz : (b != 0) = true := by simpa using hb0
  have ha' := ha
  have h1' := h1
  unfold fits at ha' h1'
  go_enter Tryd.func8, Tryd.ntmps8
  go_wp2_with (first | (go_at_call 14; ((with_reducible refine (add_yes a b (a + b) _ ha hb rfl h1).mono ?_)); rintro e w' ⟨rfl, rfl⟩) | (go_at_call 14; ((with_reducible refine (add_yes b a (a + b) _ hb ha (Int.add_comm _ _) h1).mono ?_)); rintro e w' ⟨rfl, rfl⟩) | (go_at_call 15; refine (sub_yes (a + b) b a _ h1 hb (by omega) ha).mono ?_; rintro e w' ⟨rfl, rfl⟩) | (go_at_call 16; ((with_reducible refine (mul_yes a b (a * b) _ ha hb rfl h2).mono ?_)); rintro e w' ⟨rfl, rfl⟩) | (go_at_call 16; ((with_reducible refine (mul_yes b a (a * b) _ hb ha (Int.mul_comm _ _) h2).mono ?_)); rintro e w' ⟨rfl, rfl⟩) | (go_at_call 16; ((with_reducible refine (mul_yes a c (a * c) _ ha hc rfl h3).mono ?_)); rintro e w' ⟨rfl, rfl⟩) | (go_at_call 16; ((with_reducible refine (mul_yes b c (b * c) _ hb hc rfl h4).mono ?_)); rintro e w' ⟨rfl, rfl⟩) | (go_at_call 16; ((with_reducible refine (mul_yes (a + b) c ((a + b) * c) _ h1 hc rfl h5).mono ?_)); rintro e w' ⟨rfl, rfl⟩) | (go_at_call 14; ((with_reducible refine (add_yes (a * c) (b * c) ((a + b) * c) _ h3 h4 (Int.add_mul a b c).symm h5).mono ?_)); rintro e w' ⟨rfl, rfl⟩) | (go_at_call 20; refine (awake_any _ hT).mono ?_; rintro e w' ⟨rfl, hw⟩))
  go_ret
  exact ⟨rfl, hw⟩

set_option maxRecDepth 100000 in
set_option maxHeartbeats 4000000 in
theorem back_5 (h1 : fits (a + b)) (hb0 : b ≠ 0) (h2 : fits (a * b)) (h3 : ¬ fits (a * c)) : BackGoal a b c w := by
  unfold BackGoal
  have f0 : fits 0 := by unfold fits; omega
  have hz : (b != 0) = true := by simpa using hb0
  have ha' := ha
  have h1' := h1
  unfold fits at ha' h1'
  go_enter Tryd.func8, Tryd.ntmps8
  go_wp2_with (first | (go_at_call 14; ((with_reducible refine (add_yes a b (a + b) _ ha hb rfl h1).mono ?_)); rintro e w' ⟨rfl, rfl⟩) | (go_at_call 14; ((with_reducible refine (add_yes b a (a + b) _ hb ha (Int.add_comm _ _) h1).mono ?_)); rintro e w' ⟨rfl, rfl⟩) | (go_at_call 15; refine (sub_yes (a + b) b a _ h1 hb (by omega) ha).mono ?_; rintro e w' ⟨rfl, rfl⟩) | (go_at_call 16; ((with_reducible refine (mul_yes a b (a * b) _ ha hb rfl h2).mono ?_)); rintro e w' ⟨rfl, rfl⟩) | (go_at_call 16; ((with_reducible refine (mul_yes b a (a * b) _ hb ha (Int.mul_comm _ _) h2).mono ?_)); rintro e w' ⟨rfl, rfl⟩) | (go_at_call 16; ((with_reducible refine (mul_no a c (a * c) _ ha hc rfl h3).mono ?_)); rintro e w' ⟨rfl, rfl⟩) | (go_at_call 16; ((with_reducible refine (mul_any _ _ _ hb hc).mono ?_)); rintro e w' ⟨rfl, rfl⟩) | (go_at_call 16; ((with_reducible refine (mul_any _ _ _ h1 hc).mono ?_)); rintro e w' ⟨rfl, rfl⟩) | (go_at_call 14; ((with_reducible refine (add_any _ _ _ f0 (okOf_fits _)).mono ?_)); rintro e w' ⟨rfl, rfl⟩) | (go_at_call 20; refine (awake_any _ hT).mono ?_; rintro e w' ⟨rfl, hw⟩))
  go_ret
  exact ⟨rfl, hw⟩

set_option maxRecDepth 100000 in
set_option maxHeartbeats 4000000 in
theorem back_6 (h1 : fits (a + b)) (hb0 : b ≠ 0) (h2 : fits (a * b)) (h3 : fits (a * c)) (h4 : ¬ fits (b * c)) : BackGoal a b c w := by
  unfold BackGoal
  have f0 : fits 0 := by unfold fits; omega
  have hz : (b != 0) = true := by simpa using hb0
  have ha' := ha
  have h1' := h1
  unfold fits at ha' h1'
  go_enter Tryd.func8, Tryd.ntmps8
  go_wp2_with (first | (go_at_call 14; ((with_reducible refine (add_yes a b (a + b) _ ha hb rfl h1).mono ?_)); rintro e w' ⟨rfl, rfl⟩) | (go_at_call 14; ((with_reducible refine (add_yes b a (a + b) _ hb ha (Int.add_comm _ _) h1).mono ?_)); rintro e w' ⟨rfl, rfl⟩) | (go_at_call 15; refine (sub_yes (a + b) b a _ h1 hb (by omega) ha).mono ?_; rintro e w' ⟨rfl, rfl⟩) | (go_at_call 16; ((with_reducible refine (mul_yes a b (a * b) _ ha hb rfl h2).mono ?_)); rintro e w' ⟨rfl, rfl⟩) | (go_at_call 16; ((with_reducible refine (mul_yes b a (a * b) _ hb ha (Int.mul_comm _ _) h2).mono ?_)); rintro e w' ⟨rfl, rfl⟩) | (go_at_call 16; ((with_reducible refine (mul_yes a c (a * c) _ ha hc rfl h3).mono ?_)); rintro e w' ⟨rfl, rfl⟩) | (go_at_call 16; ((with_reducible refine (mul_no b c (b * c) _ hb hc rfl h4).mono ?_)); rintro e w' ⟨rfl, rfl⟩) | (go_at_call 16; ((with_reducible refine (mul_any _ _ _ h1 hc).mono ?_)); rintro e w' ⟨rfl, rfl⟩) | (go_at_call 14; ((with_reducible refine (add_any _ _ _ h3 f0).mono ?_)); rintro e w' ⟨rfl, rfl⟩) | (go_at_call 20; refine (awake_any _ hT).mono ?_; rintro e w' ⟨rfl, hw⟩))
  go_ret
  exact ⟨rfl, hw⟩

set_option maxRecDepth 100000 in
set_option maxHeartbeats 4000000 in
theorem back_7 (h1 : fits (a + b)) (hb0 : b ≠ 0) (h2 : fits (a * b)) (h3 : fits (a * c)) (h4 : fits (b * c)) (h5 : ¬ fits ((a + b) * c)) : BackGoal a b c w := by
  unfold BackGoal
  have f0 : fits 0 := by unfold fits; omega
  have hz : (b != 0) = true := by simpa using hb0
  have ha' := ha
  have h1' := h1
  unfold fits at ha' h1'
  go_enter Tryd.func8, Tryd.ntmps8
  go_wp2_with (first | (go_at_call 14; ((with_reducible refine (add_yes a b (a + b) _ ha hb rfl h1).mono ?_)); rintro e w' ⟨rfl, rfl⟩) | (go_at_call 14; ((with_reducible refine (add_yes b a (a + b) _ hb ha (Int.add_comm _ _) h1).mono ?_)); rintro e w' ⟨rfl, rfl⟩) | (go_at_call 15; refine (sub_yes (a + b) b a _ h1 hb (by omega) ha).mono ?_; rintro e w' ⟨rfl, rfl⟩) | (go_at_call 16; ((with_reducible refine (mul_yes a b (a * b) _ ha hb rfl h2).mono ?_)); rintro e w' ⟨rfl, rfl⟩) | (go_at_call 16; ((with_reducible refine (mul_yes b a (a * b) _ hb ha (Int.mul_comm _ _) h2).mono ?_)); rintro e w' ⟨rfl, rfl⟩) | (go_at_call 16; ((with_reducible refine (mul_yes a c (a * c) _ ha hc rfl h3).mono ?_)); rintro e w' ⟨rfl, rfl⟩) | (go_at_call 16; ((with_reducible refine (mul_yes b c (b * c) _ hb hc rfl h4).mono ?_)); rintro e w' ⟨rfl, rfl⟩) | (go_at_call 16; ((with_reducible refine (mul_no (a + b) c ((a + b) * c) _ h1 hc rfl h5).mono ?_)); rintro e w' ⟨rfl, rfl⟩) | (go_at_call 14; ((with_reducible refine (add_any _ _ _ h3 h4).mono ?_)); rintro e w' ⟨rfl, rfl⟩) | (go_at_call 20; refine (awake_any _ hT).mono ?_; rintro e w' ⟨rfl, hw⟩))
  go_ret
  exact ⟨rfl, hw⟩

set_option maxRecDepth 100000 in
set_option maxHeartbeats 4000000 in
theorem back_8 (h1 : fits (a + b)) (h2 : ¬ fits (a * b)) (h3 : fits (a * c)) (h4 : fits (b * c)) (h5 : fits ((a + b) * c)) : BackGoal a b c w := by
  unfold BackGoal
  have f0 : fits 0 := by unfold fits; omega
  have ha0 : (a == 0) = false := by simp; rintro rfl; simp [f0] at h2
  have hb0 : (b == 0) = false := by simp; rintro rfl; simp [f0] at h2
  have ha1 : (a == 1) = false := by simp; rintro rfl; simp [hb] at h2
  have hb1 : (b == 1) = false := by simp; rintro rfl; simp [ha] at h2
  have ha' := ha
  have h1' := h1
  unfold fits at ha' h1'
  go_enter Tryd.func8, Tryd.ntmps8
  go_wp2_with (first | (go_at_call 14; ((with_reducible refine (add_yes a b (a + b) _ ha hb rfl h1).mono ?_)); rintro e w' ⟨rfl, rfl⟩) | (go_at_call 14; ((with_reducible refine (add_yes b a (a + b) _ hb ha (Int.add_comm _ _) h1).mono ?_)); rintro e w' ⟨rfl, rfl⟩) | (go_at_call 15; refine (sub_yes (a + b) b a _ h1 hb (by omega) ha).mono ?_; rintro e w' ⟨rfl, rfl⟩) | (go_at_call 16; ((with_reducible refine (mul_no a b (a * b) _ ha hb rfl h2).mono ?_)); rintro e w' ⟨rfl, rfl⟩) | (go_at_call 16; ((with_reducible refine (mul_no b a (a * b) _ hb ha (Int.mul_comm _ _) h2).mono ?_)); rintro e w' ⟨rfl, rfl⟩) | (go_at_call 16; ((with_reducible refine (mul_yes a c (a * c) _ ha hc rfl h3).mono ?_)); rintro e w' ⟨rfl, rfl⟩) | (go_at_call 16; ((with_reducible refine (mul_yes b c (b * c) _ hb hc rfl h4).mono ?_)); rintro e w' ⟨rfl, rfl⟩) | (go_at_call 16; ((with_reducible refine (mul_yes (a + b) c ((a + b) * c) _ h1 hc rfl h5).mono ?_)); rintro e w' ⟨rfl, rfl⟩) | (go_at_call 14; ((with_reducible refine (add_yes (a * c) (b * c) ((a + b) * c) _ h3 h4 (Int.add_mul a b c).symm h5).mono ?_)); rintro e w' ⟨rfl, rfl⟩) | (go_at_call 20; refine (awake_any _ hT).mono ?_; rintro e w' ⟨rfl, hw⟩))
  go_ret
  exact ⟨rfl, hw⟩

set_option maxRecDepth 100000 in
set_option maxHeartbeats 4000000 in
theorem back_9 (h1 : fits (a + b)) (h2 : ¬ fits (a * b)) (h3 : ¬ fits (a * c)) : BackGoal a b c w := by
  unfold BackGoal
  have f0 : fits 0 := by unfold fits; omega
  have ha0 : (a == 0) = false := by simp; rintro rfl; simp [f0] at h2
  have hb0 : (b == 0) = false := by simp; rintro rfl; simp [f0] at h2
  have ha1 : (a == 1) = false := by simp; rintro rfl; simp [hb] at h2
  have hb1 : (b == 1) = false := by simp; rintro rfl; simp [ha] at h2
  have ha' := ha
  have h1' := h1
  unfold fits at ha' h1'
  go_enter Tryd.func8, Tryd.ntmps8
  go_wp2_with (first | (go_at_call 14; ((with_reducible refine (add_yes a b (a + b) _ ha hb rfl h1).mono ?_)); rintro e w' ⟨rfl, rfl⟩) | (go_at_call 14; ((with_reducible refine (add_yes b a (a + b) _ hb ha (Int.add_comm _ _) h1).mono ?_)); rintro e w' ⟨rfl, rfl⟩) | (go_at_call 15; refine (sub_yes (a + b) b a _ h1 hb (by omega) ha).mono ?_; rintro e w' ⟨rfl, rfl⟩) | (go_at_call 16; ((with_reducible refine (mul_no a b (a * b) _ ha hb rfl h2).mono ?_)); rintro e w' ⟨rfl, rfl⟩) | (go_at_call 16; ((with_reducible refine (mul_no b a (a * b) _ hb ha (Int.mul_comm _ _) h2).mono ?_)); rintro e w' ⟨rfl, rfl⟩) | (go_at_call 16; ((with_reducible refine (mul_no a c (a * c) _ ha hc rfl h3).mono ?_)); rintro e w' ⟨rfl, rfl⟩) | (go_at_call 16; ((with_reducible refine (mul_any _ _ _ hb hc).mono ?_)); rintro e w' ⟨rfl, rfl⟩) | (go_at_call 16; ((with_reducible refine (mul_any _ _ _ h1 hc).mono ?_)); rintro e w' ⟨rfl, rfl⟩) | (go_at_call 14; ((with_reducible refine (add_any _ _ _ f0 (okOf_fits _)).mono ?_)); rintro e w' ⟨rfl, rfl⟩) | (go_at_call 20; refine (awake_any _ hT).mono ?_; rintro e w' ⟨rfl, hw⟩))
  go_ret
  exact ⟨rfl, hw⟩

set_option maxRecDepth 100000 in
set_option maxHeartbeats 4000000 in
theorem back_10 (h1 : fits (a + b)) (h2 : ¬ fits (a * b)) (h3 : fits (a * c)) (h4 : ¬ fits (b * c)) : BackGoal a b c w := by
  unfold BackGoal
  have f0 : fits 0 := by unfold fits; omega
  have ha0 : (a == 0) = false := by simp; rintro rfl; simp [f0] at h2
  have hb0 : (b == 0) = false := by simp; rintro rfl; simp [f0] at h2
  have ha1 : (a == 1) = false := by simp; rintro rfl; simp [hb] at h2
  have hb1 : (b == 1) = false := by simp; rintro rfl; simp [ha] at h2
  have ha' := ha
  have h1' := h1
  unfold fits at ha' h1'
  go_enter Tryd.func8, Tryd.ntmps8
  go_wp2_with (first | (go_at_call 14; ((with_reducible refine (add_yes a b (a + b) _ ha hb rfl h1).mono ?_)); rintro e w' ⟨rfl, rfl⟩) | (go_at_call 14; ((with_reducible refine (add_yes b a (a + b) _ hb ha (Int.add_comm _ _) h1).mono ?_)); rintro e w' ⟨rfl, rfl⟩) | (go_at_call 15; refine (sub_yes (a + b) b a _ h1 hb (by omega) ha).mono ?_; rintro e w' ⟨rfl, rfl⟩) | (go_at_call 16; ((with_reducible refine (mul_no a b (a * b) _ ha hb rfl h2).mono ?_)); rintro e w' ⟨rfl, rfl⟩) | (go_at_call 16; ((with_reducible refine (mul_no b a (a * b) _ hb ha (Int.mul_comm _ _) h2).mono ?_)); rintro e w' ⟨rfl, rfl⟩) | (go_at_call 16; ((with_reducible refine (mul_yes a c (a * c) _ ha hc rfl h3).mono ?_)); rintro e w' ⟨rfl, rfl⟩) | (go_at_call 16; ((with_reducible refine (mul_no b c (b * c) _ hb hc rfl h4).mono ?_)); rintro e w' ⟨rfl, rfl⟩) | (go_at_call 16; ((with_reducible refine (mul_any _ _ _ h1 hc).mono ?_)); rintro e w' ⟨rfl, rfl⟩) | (go_at_call 14; ((with_reducible refine (add_any _ _ _ h3 f0).mono ?_)); rintro e w' ⟨rfl, rfl⟩) | (go_at_call 20; refine (awake_any _ hT).mono ?_; rintro e w' ⟨rfl, hw⟩))
  go_ret
  exact ⟨rfl, hw⟩

set_option maxRecDepth 100000 in
set_option maxHeartbeats 4000000 in
theorem back_11 (h1 : fits (a + b)) (h2 : ¬ fits (a * b)) (h3 : fits (a * c)) (h4 : fits (b * c)) (h5 : ¬ fits ((a + b) * c)) : BackGoal a b c w := by
  unfold BackGoal
  have f0 : fits 0 := by unfold fits; omega
  have ha0 : (a == 0) = false := by simp; rintro rfl; simp [f0] at h2
  have hb0 : (b == 0) = false := by simp; rintro rfl; simp [f0] at h2
  have ha1 : (a == 1) = false := by simp; rintro rfl; simp [hb] at h2
  have hb1 : (b == 1) = false := by simp; rintro rfl; simp [ha] at h2
  have ha' := ha
  have h1' := h1
  unfold fits at ha' h1'
  go_enter Tryd.func8, Tryd.ntmps8
  go_wp2_with (first | (go_at_call 14; ((with_reducible refine (add_yes a b (a + b) _ ha hb rfl h1).mono ?_)); rintro e w' ⟨rfl, rfl⟩) | (go_at_call 14; ((with_reducible refine (add_yes b a (a + b) _ hb ha (Int.add_comm _ _) h1).mono ?_)); rintro e w' ⟨rfl, rfl⟩) | (go_at_call 15; refine (sub_yes (a + b) b a _ h1 hb (by omega) ha).mono ?_; rintro e w' ⟨rfl, rfl⟩) | (go_at_call 16; ((with_reducible refine (mul_no a b (a * b) _ ha hb rfl h2).mono ?_)); rintro e w' ⟨rfl, rfl⟩) | (go_at_call 16; ((with_reducible refine (mul_no b a (a * b) _ hb ha (Int.mul_comm _ _) h2).mono ?_)); rintro e w' ⟨rfl, rfl⟩) | (go_at_call 16; ((with_reducible refine (mul_yes a c (a * c) _ ha hc rfl h3).mono ?_)); rintro e w' ⟨rfl, rfl⟩) | (go_at_call 16; ((with_reducible refine (mul_yes b c (b * c) _ hb hc rfl h4).mono ?_)); rintro e w' ⟨rfl, rfl⟩) | (go_at_call 16; ((with_reducible refine (mul_no (a + b) c ((a + b) * c) _ h1 hc rfl h5).mono ?_)); rintro e w' ⟨rfl, rfl⟩) | (go_at_call 14; ((with_reducible refine (add_any _ _ _ h3 h4).mono ?_)); rintro e w' ⟨rfl, rfl⟩) | (go_at_call 20; refine (awake_any _ hT).mono ?_; rintro e w' ⟨rfl, hw⟩))
  go_ret
  exact ⟨rfl, hw⟩

set_option maxRecDepth 100000 in
set_option maxHeartbeats 4000000 in
theorem back_12 (h1 : ¬ fits (a + b)) (hb0 : b = 0) : BackGoal a b c w := by
  unfold BackGoal
  have f0 : fits 0 := by unfold fits; omega
  have h2 : fits (a * b) := by rw [hb0]; simpa using f0
  have hz : (b != 0) = false := by simpa using hb0
  clear hb0
  have ha' := ha
  unfold fits at ha'
  go_enter Tryd.func8, Tryd.ntmps8
  go_wp2_with (first | (go_at_call 14; ((with_reducible refine (add_no a b (a + b) _ ha hb rfl h1).mono ?_)); rintro e w' ⟨rfl, rfl⟩) | (go_at_call 14; ((with_reducible refine (add_no b a (a + b) _ hb ha (Int.add_comm _ _) h1).mono ?_)); rintro e w' ⟨rfl, rfl⟩) | (go_at_call 16; ((with_reducible refine (mul_yes a b (a * b) _ ha hb rfl h2).mono ?_)); rintro e w' ⟨rfl, rfl⟩) | (go_at_call 16; ((with_reducible refine (mul_yes b a (a * b) _ hb ha (Int.mul_comm _ _) h2).mono ?_)); rintro e w' ⟨rfl, rfl⟩) | (go_at_call 16; ((with_reducible refine (mul_any _ _ _ ha hc).mono ?_)); rintro e w' ⟨rfl, rfl⟩) | (go_at_call 16; ((with_reducible refine (mul_any _ _ _ hb hc).mono ?_)); rintro e w' ⟨rfl, rfl⟩) | (go_at_call 16; ((with_reducible refine (mul_any _ _ _ f0 hc).mono ?_)); rintro e w' ⟨rfl, rfl⟩) | (go_at_call 14; ((with_reducible refine (add_any _ _ _ (okOf_fits _) (okOf_fits _)).mono ?_)); rintro e w' ⟨rfl, rfl⟩) | (go_at_call 20; refine (awake_any _ hT).mono ?_; rintro e w' ⟨rfl, hw⟩))
  go_ret
  exact ⟨rfl, hw⟩

set_option maxRecDepth 100000 in
set_option maxHeartbeats 4000000 in
theorem back_13 (h1 : ¬ fits (a + b)) (hb0 : b ≠ 0) (h2 : fits (a * b)) : BackGoal a b c w := by
  unfold BackGoal
  have f0 : fits 0 := by unfold fits; omega
  have hz : (b != 0) = true := by simpa using hb0
  have ha' := ha
  unfold fits at ha'
  go_enter Tryd.func8, Tryd.ntmps8
  go_wp2_with (first | (go_at_call 14; ((with_reducible refine (add_no a b (a + b) _ ha hb rfl h1).mono ?_)); rintro e w' ⟨rfl, rfl⟩) | (go_at_call 14; ((with_reducible refine (add_no b a (a + b) _ hb ha (Int.add_comm _ _) h1).mono ?_)); rintro e w' ⟨rfl, rfl⟩) | (go_at_call 16; ((with_reducible refine (mul_yes a b (a * b) _ ha hb rfl h2).mono ?_)); rintro e w' ⟨rfl, rfl⟩) | (go_at_call 16; ((with_reducible refine (mul_yes b a (a * b) _ hb ha (Int.mul_comm _ _) h2).mono ?_)); rintro e w' ⟨rfl, rfl⟩) | (go_at_call 16; ((with_reducible refine (mul_any _ _ _ ha hc).mono ?_)); rintro e w' ⟨rfl, rfl⟩) | (go_at_call 16; ((with_reducible refine (mul_any _ _ _ hb hc).mono ?_)); rintro e w' ⟨rfl, rfl⟩) | (go_at_call 16; ((with_reducible refine (mul_any _ _ _ f0 hc).mono ?_)); rintro e w' ⟨rfl, rfl⟩) | (go_at_call 14; ((with_reducible refine (add_any _ _ _ (okOf_fits _) (okOf_fits _)).mono ?_)); rintro e w' ⟨rfl, rfl⟩) | (go_at_call 20; refine (awake_any _ hT).mono ?_; rintro e w' ⟨rfl, hw⟩))
  go_ret
  exact ⟨rfl, hw⟩

set_option maxRecDepth 100000 in
set_option maxHeartbeats 4000000 in
theorem back_14 (h1 : ¬ fits (a + b)) (h2 : ¬ fits (a * b)) : BackGoal a b c w := by
  unfold BackGoal
  have f0 : fits 0 := by unfold fits; omega
  have ha0 : (a == 0) = false := by simp; rintro rfl; simp [f0] at h2
  have hb0 : (b == 0) = false := by simp; rintro rfl; simp [f0] at h2
  have ha1 : (a == 1) = false := by simp; rintro rfl; simp [hb] at h2
  have hb1 : (b == 1) = false := by simp; rintro rfl; simp [ha] at h2
  have ha' := ha
  unfold fits at ha'
  go_enter Tryd.func8, Tryd.ntmps8
  go_wp2_with (first | (go_at_call 14; ((with_reducible refine (add_no a b (a + b) _ ha hb rfl h1).mono ?_)); rintro e w' ⟨rfl, rfl⟩) | (go_at_call 14; ((with_reducible refine (add_no b a (a + b) _ hb ha (Int.add_comm _ _) h1).mono ?_)); rintro e w' ⟨rfl, rfl⟩) | (go_at_call 16; ((with_reducible refine (mul_no a b (a * b) _ ha hb rfl h2).mono ?_)); rintro e w' ⟨rfl, rfl⟩) | (go_at_call 16; ((with_reducible refine (mul_no b a (a * b) _ hb ha (Int.mul_comm _ _) h2).mono ?_)); rintro e w' ⟨rfl, rfl⟩) | (go_at_call 16; ((with_reducible refine (mul_any _ _ _ ha hc).mono ?_)); rintro e w' ⟨rfl, rfl⟩) | (go_at_call 16; ((with_reducible refine (mul_any _ _ _ hb hc).mono ?_)); rintro e w' ⟨rfl, rfl⟩) | (go_at_call 16; ((with_reducible refine (mul_any _ _ _ f0 hc).mono ?_)); rintro e w' ⟨rfl, rfl⟩) | (go_at_call 14; ((with_reducible refine (add_any _ _ _ (okOf_fits _) (okOf_fits _)).mono ?_)); rintro e w' ⟨rfl, rfl⟩) | (go_at_call 20; refine (awake_any _ hT).mono ?_; rintro e w' ⟨rfl, hw⟩))
  go_ret
  exact ⟨rfl, hw⟩


end

theorem back_any (a b c : Int) (w : World) (ha : fits a) (hb : fits b) (hc : fits c) (hT : Tab w) :
    Calls Tryd.prog 8 #[.int .i64 a, .int .i64 b, .int .i64 c] w fun e w' => e = .returned (.bool true) ∧ Below w.heap.size w w' := by
  show BackGoal a b c w
  by_cases h1 : fits (a + b)
  · by_cases h3 : fits (a * c)
    · by_cases h4 : fits (b * c)
      · by_cases h5 : fits ((a + b) * c)
        · by_cases hb0 : b = 0
          · exact back_0 a b c w ha hb hc hT h1 hb0 h3 h4 h5
          · by_cases h2 : fits (a * b)
            · exact back_4 a b c w ha hb hc hT h1 hb0 h2 h3 h4 h5
            · exact back_8 a b c w ha hb hc hT h1 h2 h3 h4 h5
        · by_cases hb0 : b = 0
          · exact back_3 a b c w ha hb hc hT h1 hb0 h3 h4 h5
          · by_cases h2 : fits (a * b)
            · exact back_7 a b c w ha hb hc hT h1 hb0 h2 h3 h4 h5
            · exact back_11 a b c w ha hb hc hT h1 h2 h3 h4 h5
      · by_cases hb0 : b = 0
        · exact back_2 a b c w ha hb hc hT h1 hb0 h3 h4
        · by_cases h2 : fits (a * b)
          · exact back_6 a b c w ha hb hc hT h1 hb0 h2 h3 h4
          · exact back_10 a b c w ha hb hc hT h1 h2 h3 h4
    · by_cases hb0 : b = 0
      · exact back_1 a b c w ha hb hc hT h1 hb0 h3
      · by_cases h2 : fits (a * b)
        · exact back_5 a b c w ha hb hc hT h1 hb0 h2 h3
        · exact back_9 a b c w ha hb hc hT h1 h2 h3
  · by_cases hb0 : b = 0
    · exact back_12 a b c w ha hb hc hT h1 hb0
    · by_cases h2 : fits (a * b)
      · exact back_13 a b c w ha hb hc hT h1 hb0 h2
      · exact back_14 a b c w ha hb hc hT h1 h2
end Go.Proofs.YtlnbmjebkpkclaaDoor
