/-
  The references' whole numbers: Int: a Whole as an int, if it fits.
-/
import Derived.Test.YtblkcdenmgkddaaDoorWg
namespace Go.Proofs.YtblkcdenmgkddaaDoor
open Go.RowKit
attribute [local go_sem ↓] Go.wp_at_zero Go.wp_at_succ

theorem one_blk {w w1 : World} {x0 y0 : Value} {T : TypeId} (hb : Below (w.alloc (.cells #[x0, y0] T)).drew.heap.size (w.alloc (.cells #[x0, y0] T)).drew w1) : Blk w1 w.heap.size T #[x0, y0] := by
  have s3 : (w.alloc (.cells #[x0, y0] T)).drew.heap.size = w.heap.size + 1 := by simp [World.drew]
  exact (hb.block w.heap.size (by rw [s3]; omega)).trans (Blk.new w _ rfl T #[x0, y0])
theorem val_part {ds : List Int} (h : Dig ds) (j : Nat) : val (ds.drop j) ≤ val ds := by
  have e := val_append (ds.take j) (ds.drop j)
  rw [List.take_append_drop] at e
  have h1 := val_nonneg (h.take j)
  have h2 := val_nonneg (h.drop j)
  have h3 := pw_pos (ds.take j).length
  have h4 := Int.mul_le_mul_of_nonneg_right h3 h2
  omega
theorem fitsLow : fits (-9223372036854775808) := by unfold fits; omega
theorem fitsHigh : fits 9223372036854775807 := by unfold fits; omega

def IntPost (w : World) (z : Int) (e : Ending) (w' : World) : Prop := e = .returned (.tuple #[.int .i64 (okOf z), .bool (okB z)]) ∧ Below w.heap.size w w'

set_option maxRecDepth 100000 in
set_option maxHeartbeats 2000000 in
theorem int_low (v : Value) (z : Int) (n : Nat) (w : World) (h : WIs w v z n) (hz : z < -9223372036854775808) :
    Calls Tryd.prog 37 #[v] w (IntPost w z) := by
  have h0 := h
  obtain ⟨s, A, c, a, rfl, hn, hc, hcm, ha, hr, hzv, hs⟩ := h
  have hb1 : ∀ o, Below w.heap.size w (w.alloc o).drew := fun o => ((Below.refl _ _).alloc (Nat.le_refl _) o).drew
  have Hc := Lib.hid (cmpI_lt hz)
  have Hf : ¬ fits z := by unfold fits; omega
  go_enter Tryd.func37, Tryd.ntmps37
  go_wp2_with fail
  go_region_with (first | (go_at_call 28; refine (of_any _ _ fitsLow).mono ?_; rintro e w1 ⟨v1, n1, rfl, hw1, hn1, hbw1⟩; have b0 := one_blk hbw1; have q0 := b0.cell 0; have q1 := b0.cell 1; simp at q0 q1; have hbb := (hb1 _).trans (hbw1.mono (hb1 _).size); have hp1 := h0.below hbb) | (go_at_call 26; refine (cmp_any _ v1 z _ n n1 _ hp1 hw1).mono ?_; rintro e w2 ⟨rfl, hb2⟩; rw [Hc.out]; have p0 := (b0.kept hb2).cell 0; have p1 := (b0.kept hb2).cell 1; simp at p0 p1))
  all_goals
    go_wp2
    go_ret2
    exact ⟨tup2 (val_no Hf) (b_no Hf), hbb.trans (hb2.mono hbb.size)⟩

set_option maxRecDepth 100000 in
set_option maxHeartbeats 4000000 in
theorem int_high (v : Value) (z : Int) (n : Nat) (w : World) (h : WIs w v z n) (hz : 9223372036854775807 < z) :
    Calls Tryd.prog 37 #[v] w (IntPost w z) := by
  have h0 := h
  obtain ⟨s, A, c, a, rfl, hn, hc, hcm, ha, hr, hzv, hs⟩ := h
  have hb1 : ∀ o, Below w.heap.size w (w.alloc o).drew := fun o => ((Below.refl _ _).alloc (Nat.le_refl _) o).drew
  have Hc := Lib.hid (cmpI_gt (show -9223372036854775808 < z by omega))
  have Hc2 := Lib.hid (cmpI_gt hz)
  have Hf : ¬ fits z := by unfold fits; omega
  go_enter Tryd.func37, Tryd.ntmps37
  go_wp2_with fail
  go_region_with (first | (go_at_call 28; ((with_reducible refine (of_any (-9223372036854775808) _ fitsLow).mono ?_)); rintro e w1 ⟨v1, n1, rfl, hw1, hn1, hbw1⟩; have b0 := one_blk hbw1; have q0 := b0.cell 0; have q1 := b0.cell 1; simp at q0 q1; have hbb := (hb1 _).trans (hbw1.mono (hb1 _).size); have hp1 := h0.below hbb) | (go_at_call_of 26 v1; refine (cmp_any _ v1 z _ n n1 _ hp1 hw1).mono ?_; rintro e w2 ⟨rfl, hb2⟩; rw [Hc.out]; have c0 := b0.kept hb2; have p0 := c0.cell 0; have p1 := c0.cell 1; simp at p0 p1; have hbb2 := hbb.trans (hb2.mono hbb.size)) | (go_at_call 28; refine (of_any 9223372036854775807 _ fitsHigh).mono ?_; rintro e w3 ⟨v3, n3, rfl, hw3, hn3, hb3⟩; have e0 := c0.kept hb3; have r0 := e0.cell 0; have r1 := e0.cell 1; simp at r0 r1; have hbb3 := hbb2.trans (hb3.mono hbb2.size); have hp3 := h0.below hbb3) | (go_at_call_of 26 v3; refine (cmp_any _ v3 z _ n n3 _ hp3 hw3).mono ?_; rintro e w4 ⟨rfl, hb4⟩; rw [Hc2.out]; have g0 := e0.kept hb4; have s0 := g0.cell 0; have s1 := g0.cell 1; simp at s0 s1; have hbb4 := hbb3.trans (hb4.mono hbb3.size)))
  all_goals
    go_wp2
    go_ret2
    exact ⟨tup2 (val_no Hf) (b_no Hf), hbb4⟩

set_option maxRecDepth 100000 in
set_option maxHeartbeats 4000000 in
theorem int_in_false (A : Option Addr) (c n : Nat) (a : List Int) (z : Int) (w : World) (h0 : WIs w (.agg #[.bool false, .slice A n c]) z n) (hn : a.length = n) (hc : n ≤ c) (hcm : c ≤ maxLen) (ha : Norm a) (hr : Rd w w.heap.size A (cellsI a)) (hzv : z = val a) (hz : fits z) :
    Calls Tryd.prog 37 #[.agg #[.bool false, .slice A n c]] w (IntPost w z) := by
  have hb1 : ∀ o, Below w.heap.size w (w.alloc o).drew := fun o => ((Below.refl _ _).alloc (Nat.le_refl _) o).drew
  have hzz := hz
  unfold fits at hzz
  obtain ⟨c1, hc1, hc1n⟩ : ∃ c1, cmpI z (-9223372036854775808) = c1 ∧ 0 ≤ c1 := ⟨_, rfl, by unfold cmpI; rw [if_neg (by omega)]; split <;> omega⟩
  obtain ⟨c2, hc2, hc2n⟩ : ∃ c2, cmpI z 9223372036854775807 = c2 ∧ c2 ≤ 0 := ⟨_, rfl, by unfold cmpI; split; omega; rw [if_neg (by omega)]; omega⟩
  have Hc := Lib.hid hc1
  have Hc2 := Lib.hid hc2
  have t1 : decide (c1 < 0) = false := by simpa using hc1n
  have t2 : decide (c2 > 0) = false := by simpa using hc2n
  have hcm' := hcm
  unfold maxLen at hcm'
  have Hzv := Lib.hid hzv
  have hvb : val a ≤ 9223372036854775807 := by omega
  clear hc1 hc2 hzv
  go_enter Tryd.func37, Tryd.ntmps37
  go_wp2_with fail
  go_region_held3 (fun w' => w'.cell? ⟨w.heap.size, 0, none⟩ = some (.bool false) ∧ w'.cell? ⟨w.heap.size, 1, none⟩ = some (.slice A n c)) (first | exact ⟨by assumption, by assumption⟩ | go_keep) (first | (go_at_call 28; ((with_reducible refine (of_any (-9223372036854775808) _ fitsLow).mono ?_)); rintro e w1 ⟨v1, n1, rfl, hw1, hn1, hbw1⟩; have b0 := one_blk hbw1; have q0 := b0.cell 0; have q1 := b0.cell 1; simp at q0 q1; have hbb := (hb1 _).trans (hbw1.mono (hb1 _).size); have hp1 := h0.below hbb) | (go_at_call_of 26 v1; refine (cmp_any _ v1 z _ n n1 _ hp1 hw1).mono ?_; rintro e w2 ⟨rfl, hb2⟩; rw [Hc.out]; have c0 := b0.kept hb2; have p0 := c0.cell 0; have p1 := c0.cell 1; simp at p0 p1; have hbb2 := hbb.trans (hb2.mono hbb.size)) | (go_at_call 28; refine (of_any 9223372036854775807 _ fitsHigh).mono ?_; rintro e w3 ⟨v3, n3, rfl, hw3, hn3, hb3⟩; have e0 := c0.kept hb3; have r0 := e0.cell 0; have r1 := e0.cell 1; simp at r0 r1; have hbb3 := hbb2.trans (hb3.mono hbb2.size); have hp3 := h0.below hbb3) | (go_at_call_of 26 v3; refine (cmp_any _ v3 z _ n n3 _ hp3 hw3).mono ?_; rintro e w4 ⟨rfl, hb4⟩; rw [Hc2.out]; have g0 := e0.kept hb4; have s0 := g0.cell 0; have s1 := g0.cell 1; simp at s0 s1; have hbb4 := hbb3.trans (hb4.mono hbb3.size)))
  clear q0 q1 p0 p1 r0 r1 hw1 hw3 hbw1 hb2 hb3 hb4 hp1 hp3 b0 c0 e0 hbb hbb2 hbb3
  go_wp2
  have hr4 := hr.below hbb4 (Nat.le_refl _)
  clear hr
  subst hn
  go_loop [4, 5] (fun v i => ∃ (k : Nat) (q : Int), k ≤ a.length ∧ ((k = 0 ∧ i = .int .i64 (-1)) ∨ ∃ j : Nat, k = j + 1 ∧ i = .int .i64 j) ∧ v = .int .i64 (q) ∧ 0 ≤ q ∧ Hid (val (a.drop k) = q)) (fun _ i => (intOf i + 1).toNat)
  case atStart =>
    refine ⟨a.length, 0, Nat.le_refl _, ?_, rfl, by omega, by unfold Hid; rw [List.drop_eq_nil_of_le (Nat.le_refl _)]; rfl⟩
    by_cases h0 : a.length = 0
    · exact .inl ⟨h0, by rw [h0]; rfl⟩
    · exact .inr ⟨a.length - 1, by omega, by go_num⟩
  case round =>
    obtain ⟨k, q, hk, hi, rfl, hq0, Hq⟩ := hrel
    rcases hi with ⟨rfl, rfl⟩ | ⟨j, rfl, rfl⟩
    · have hqz : q = val a := by have := Hq.out; simpa using this.symm
      have Hqz := Lib.hid hqz
      clear hqz
      go_wp2
      go_ret2
      exact ⟨tup2 (by rw [← val_yes hz, Hzv.out, Hqz.out]) (b_yes hz), hbb4⟩
    · obtain ⟨b, off, x, rfl, hbl, hxk, hck, hdk, hxx⟩ := hr4.at_ ha.1.fits (show j < a.length by omega)
      have hxd := ha.1 x (List.mem_of_getElem? hxx.out)
      have hv : val (a.drop j) = x + 1073741824 * q := by rw [hdk.out]; simp only [val]; rw [Hq.out]
      have hvp := val_part ha.1 j
      have hqx : q * 1073741824 + x ≤ 9223372036854775807 := by omega
      have Hq' : Hid (val (a.drop j) = q * 1073741824 + x) := by unfold Hid; omega
      clear hv hvp hdk hxx Hq
      go_wp2
      go_round
      case rel =>
        refine ⟨j, q * 1073741824 + x, by omega, ?_, by go_num, by omega, Hq'⟩
        by_cases h0 : j = 0
        · exact .inl ⟨h0, by subst h0; rfl⟩
        · exact .inr ⟨j - 1, by omega, by go_num⟩
      case measure => simp [intOf]

set_option maxRecDepth 100000 in
set_option maxHeartbeats 4000000 in
theorem int_in_true (A : Option Addr) (c n : Nat) (a : List Int) (z : Int) (w : World) (h0 : WIs w (.agg #[.bool true, .slice A n c]) z n) (hn : a.length = n) (hc : n ≤ c) (hcm : c ≤ maxLen) (ha : Norm a) (hr : Rd w w.heap.size A (cellsI a)) (hzv : z = -val a) (hz : fits z) :
    Calls Tryd.prog 37 #[.agg #[.bool true, .slice A n c]] w (IntPost w z) := by
  have hb1 : ∀ o, Below w.heap.size w (w.alloc o).drew := fun o => ((Below.refl _ _).alloc (Nat.le_refl _) o).drew
  have hzz := hz
  unfold fits at hzz
  obtain ⟨c1, hc1, hc1n⟩ : ∃ c1, cmpI z (-9223372036854775808) = c1 ∧ 0 ≤ c1 := ⟨_, rfl, by unfold cmpI; rw [if_neg (by omega)]; split <;> omega⟩
  obtain ⟨c2, hc2, hc2n⟩ : ∃ c2, cmpI z 9223372036854775807 = c2 ∧ c2 ≤ 0 := ⟨_, rfl, by unfold cmpI; split; omega; rw [if_neg (by omega)]; omega⟩
  have Hc := Lib.hid hc1
  have Hc2 := Lib.hid hc2
  have t1 : decide (c1 < 0) = false := by simpa using hc1n
  have t2 : decide (c2 > 0) = false := by simpa using hc2n
  have hcm' := hcm
  unfold maxLen at hcm'
  have Hzv := Lib.hid hzv
  have hvb : val a ≤ 9223372036854775808 := by omega
  clear hc1 hc2 hzv
  go_enter Tryd.func37, Tryd.ntmps37
  go_wp2_with fail
  go_region_held3 (fun w' => w'.cell? ⟨w.heap.size, 0, none⟩ = some (.bool true) ∧ w'.cell? ⟨w.heap.size, 1, none⟩ = some (.slice A n c)) (first | exact ⟨by assumption, by assumption⟩ | go_keep) (first | (go_at_call 28; ((with_reducible refine (of_any (-9223372036854775808) _ fitsLow).mono ?_)); rintro e w1 ⟨v1, n1, rfl, hw1, hn1, hbw1⟩; have b0 := one_blk hbw1; have q0 := b0.cell 0; have q1 := b0.cell 1; simp at q0 q1; have hbb := (hb1 _).trans (hbw1.mono (hb1 _).size); have hp1 := h0.below hbb) | (go_at_call_of 26 v1; refine (cmp_any _ v1 z _ n n1 _ hp1 hw1).mono ?_; rintro e w2 ⟨rfl, hb2⟩; rw [Hc.out]; have c0 := b0.kept hb2; have p0 := c0.cell 0; have p1 := c0.cell 1; simp at p0 p1; have hbb2 := hbb.trans (hb2.mono hbb.size)) | (go_at_call 28; refine (of_any 9223372036854775807 _ fitsHigh).mono ?_; rintro e w3 ⟨v3, n3, rfl, hw3, hn3, hb3⟩; have e0 := c0.kept hb3; have r0 := e0.cell 0; have r1 := e0.cell 1; simp at r0 r1; have hbb3 := hbb2.trans (hb3.mono hbb2.size); have hp3 := h0.below hbb3) | (go_at_call_of 26 v3; refine (cmp_any _ v3 z _ n n3 _ hp3 hw3).mono ?_; rintro e w4 ⟨rfl, hb4⟩; rw [Hc2.out]; have g0 := e0.kept hb4; have s0 := g0.cell 0; have s1 := g0.cell 1; simp at s0 s1; have hbb4 := hbb3.trans (hb4.mono hbb3.size)))
  clear q0 q1 p0 p1 r0 r1 hw1 hw3 hbw1 hb2 hb3 hb4 hp1 hp3 b0 c0 e0 hbb hbb2 hbb3
  go_wp2
  have hr4 := hr.below hbb4 (Nat.le_refl _)
  clear hr
  subst hn
  go_loop [4, 5] (fun v i => ∃ (k : Nat) (q : Int), k ≤ a.length ∧ ((k = 0 ∧ i = .int .i64 (-1)) ∨ ∃ j : Nat, k = j + 1 ∧ i = .int .i64 j) ∧ v = .int .i64 (-q) ∧ 0 ≤ q ∧ Hid (val (a.drop k) = q)) (fun _ i => (intOf i + 1).toNat)
  case atStart =>
    refine ⟨a.length, 0, Nat.le_refl _, ?_, rfl, by omega, by unfold Hid; rw [List.drop_eq_nil_of_le (Nat.le_refl _)]; rfl⟩
    by_cases h0 : a.length = 0
    · exact .inl ⟨h0, by rw [h0]; rfl⟩
    · exact .inr ⟨a.length - 1, by omega, by go_num⟩
  case round =>
    obtain ⟨k, q, hk, hi, rfl, hq0, Hq⟩ := hrel
    rcases hi with ⟨rfl, rfl⟩ | ⟨j, rfl, rfl⟩
    · have hqz : q = val a := by have := Hq.out; simpa using this.symm
      have Hqz := Lib.hid hqz
      clear hqz
      go_wp2
      go_ret2
      exact ⟨tup2 (by rw [← val_yes hz, Hzv.out, Hqz.out]) (b_yes hz), hbb4⟩
    · obtain ⟨b, off, x, rfl, hbl, hxk, hck, hdk, hxx⟩ := hr4.at_ ha.1.fits (show j < a.length by omega)
      have hxd := ha.1 x (List.mem_of_getElem? hxx.out)
      have hv : val (a.drop j) = x + 1073741824 * q := by rw [hdk.out]; simp only [val]; rw [Hq.out]
      have hvp := val_part ha.1 j
      have hqx : q * 1073741824 + x ≤ 9223372036854775808 := by omega
      have Hq' : Hid (val (a.drop j) = q * 1073741824 + x) := by unfold Hid; omega
      clear hv hvp hdk hxx Hq
      go_wp2
      go_round
      case rel =>
        refine ⟨j, q * 1073741824 + x, by omega, ?_, by go_num, by omega, Hq'⟩
        by_cases h0 : j = 0
        · exact .inl ⟨h0, by subst h0; rfl⟩
        · exact .inr ⟨j - 1, by omega, by go_num⟩
      case measure => simp [intOf]

theorem int_any (v : Value) (z : Int) (n : Nat) (w : World) (h : WIs w v z n) :
    Calls Tryd.prog 37 #[v] w (IntPost w z) := by
  by_cases h1 : z < -9223372036854775808
  · exact int_low v z n w h h1
  · by_cases h2 : 9223372036854775807 < z
    · exact int_high v z n w h h2
    · have h0 := h
      obtain ⟨s, A, c, a, rfl, hn, hc, hcm, ha, hr, hzv, hs⟩ := h
      have hf : fits z := by unfold fits; omega
      cases s
      · exact int_in_false A c n a z w h0 hn hc hcm ha hr (by simpa using hzv) hf
      · exact int_in_true A c n a z w h0 hn hc hcm ha hr (by simpa using hzv) hf
end Go.Proofs.YtblkcdenmgkddaaDoor
