/-
  frac.Cmp; the references' Inv and Cmp.
-/
import Derived.Test.YtfielhbepnkekaaKf
namespace Go.Proofs.Ytfielhbepnkekaa
open Go.RowKit

theorem quiet_left2 {P : Program} {f : FuncId} {args : Array Value} {w : World} {a n : Nat} {v : Value}
    (h : Calls P f args (w.drewN (a + n)) fun e w' => e = .returned v ∧ w.drewN (a + n) = w') : Calls P f args (w.drewN (a + n)) fun e w'' => e = .returned v ∧ ∃ m, w'' = w.drewN (a + m) :=
  h.mono fun _ _ ⟨he, hm⟩ => ⟨he, n, hm.symm⟩
theorem quiet_left3 {P : Program} {f : FuncId} {args : Array Value} {w : World} {a n : Nat} {v : Value}
    (h : Calls P f args (w.drewN (a + n)) fun e w' => e = .returned v ∧ w.drewN (a + n) = w') : Calls P f args (w.drewN (a + n)) fun e w'' => e = .returned v ∧ ∃ m, w'' = (w.drewN a).drewN m :=
  h.mono fun _ _ ⟨he, hm⟩ => ⟨he, n, by rw [World.drewN_drewN]; exact hm.symm⟩
theorem mul64_of (x y : Nat) (hx : x < 18446744073709551616) (hy : y < 18446744073709551616) (w : World) :
    Calls Try.prog 46 #[.int .u64 x, .int .u64 y] w fun e w' => e = .returned (.tuple #[.int .u64 ((x * y / 18446744073709551616 : Nat) : Int), .int .u64 ((x * y % 18446744073709551616 : Nat) : Int)]) ∧ w = w' := mul64_any x y hx hy w

theorem abs_mul_nat (a b : Int) : ((a.natAbs * b.natAbs : Nat) : Int) = if a < 0 then (if b < 0 then a * b else -(a * b)) else (if b < 0 then -(a * b) else a * b) := by
  rw [Int.natCast_mul]
  split <;> rename_i h1 <;> split <;> rename_i h2
  · rw [show ((a.natAbs : Nat) : Int) = -a by omega, show ((b.natAbs : Nat) : Int) = -b by omega, Int.neg_mul_neg]
  · rw [show ((a.natAbs : Nat) : Int) = -a by omega, show ((b.natAbs : Nat) : Int) = b by omega, Int.neg_mul]
  · rw [show ((a.natAbs : Nat) : Int) = a by omega, show ((b.natAbs : Nat) : Int) = -b by omega, Int.mul_neg]
  · rw [show ((a.natAbs : Nat) : Int) = a by omega, show ((b.natAbs : Nat) : Int) = b by omega]
/-- two of one sign -/
theorem cmp_same {an ad bn bd : Int} (ha : 0 < ad) (hb : 0 < bd) (hs : decide (an < 0) = decide (bn < 0)) :
    cmpI (an * bd) (bn * ad) = if an < 0 then - cmpI ((an.natAbs * bd.natAbs : Nat) : Int) ((bn.natAbs * ad.natAbs : Nat) : Int) else cmpI ((an.natAbs * bd.natAbs : Nat) : Int) ((bn.natAbs * ad.natAbs : Nat) : Int) := by
  rw [abs_mul_nat, abs_mul_nat, if_neg (show ¬ bd < 0 by omega), if_neg (show ¬ ad < 0 by omega)]
  by_cases h : an < 0
  · have h2 : bn < 0 := by rw [decide_eq_true h] at hs; exact of_decide_eq_true hs.symm
    rw [if_pos h, if_pos h, if_pos h2, cmpI_neg, Int.neg_neg]
  · have h2 : ¬ bn < 0 := by rw [decide_eq_false h] at hs; exact of_decide_eq_false hs.symm
    rw [if_neg h, if_neg h, if_neg h2, if_neg (show ¬ bd < 0 by omega), if_neg (show ¬ ad < 0 by omega)]
theorem cmp_diff {an ad bn bd : Int} (ha : 0 < ad) (hb : 0 < bd) (hs : decide (an < 0) ≠ decide (bn < 0)) : cmpI (an * bd) (bn * ad) = if an < 0 then -1 else 1 := by
  by_cases h : an < 0
  · have h2 : 0 ≤ bn := by
      by_cases h2 : bn < 0
      · exact absurd ((decide_eq_true h).trans (decide_eq_true h2).symm) hs
      · omega
    rw [if_pos h]
    have h3 := Int.mul_neg_of_neg_of_pos h hb
    have h4 := Int.mul_nonneg h2 (show 0 ≤ ad by omega)
    exact cmpI_lt (by omega)
  · have h2 : bn < 0 := by
      by_cases h2 : bn < 0
      · exact h2
      · exact absurd ((decide_eq_false h).trans (decide_eq_false h2).symm) hs
    rw [if_neg h]
    have h3 := Int.mul_neg_of_neg_of_pos h2 ha
    have h4 := Int.mul_nonneg (show 0 ≤ an by omega) (show 0 ≤ bd by omega)
    exact cmpI_gt (by omega)


set_option maxRecDepth 100000 in
set_option maxHeartbeats 2000000 in
theorem cmp_bad1 (an ad bn bd : Int) (w : World) (VA : Hid (∀ w, Calls Try.prog 17 #[.agg #[.int .i64 an, .int .i64 ad]] w fun e w' => e = .returned (.bool false) ∧ Below w.heap.size w w')) :
    Calls Try.prog 26 #[.agg #[.int .i64 an, .int .i64 ad], .agg #[.int .i64 bn, .int .i64 bd]] w fun e w' => e = .returned (.tuple #[.int .i64 0, .int .i64 1]) ∧ Below w.heap.size w w' := by
  obtain ⟨W, hW⟩ : ∃ W, (w.alloc (.cells #[.int .i64 an, .int .i64 ad] 23)).alloc (.cells #[.int .i64 bn, .int .i64 bd] 23) = W := ⟨_, rfl⟩
  have bW : Below w.heap.size w W := by subst hW; exact ((Below.refl _ _).alloc (Nat.le_refl _) _).alloc (by simp) _
  have k0 : Blk W w.heap.size 23 #[.int .i64 an, .int .i64 ad] := by subst hW; exact (Blk.new w _ rfl _ _).alloc _
  have k1 : Blk W (w.heap.size + 1) 23 #[.int .i64 bn, .int .i64 bd] := by subst hW; exact Blk.new _ _ (by simp) _ _
  have hWs : W.heap.size = w.heap.size + 2 := by subst hW; simp
  have f0 := k0.cell 0
  have f1 := k0.cell 1
  simp only [List.getElem?_toArray, List.getElem?_cons_zero, List.getElem?_cons_succ] at f0 f1
  go_enter Try.func26, Try.ntmps26
  go_wp2_with fail
  try rw [hW]
  refine (VA.out _).mono ?_
  rintro e w2 ⟨rfl, hb2⟩
  have b2 := bW.trans (hb2.mono (by omega))
  clear f0 f1
  go_wp2_with fail
  go_ret2
  exact ⟨rfl, b2⟩

set_option maxRecDepth 100000 in
set_option maxHeartbeats 2000000 in
theorem cmp_bad2 (an ad bn bd : Int) (w : World) (VA : Hid (∀ w, Calls Try.prog 17 #[.agg #[.int .i64 an, .int .i64 ad]] w fun e w' => e = .returned (.bool true) ∧ Below w.heap.size w w')) (VB : Hid (∀ w, Calls Try.prog 17 #[.agg #[.int .i64 bn, .int .i64 bd]] w fun e w' => e = .returned (.bool false) ∧ Below w.heap.size w w')) :
    Calls Try.prog 26 #[.agg #[.int .i64 an, .int .i64 ad], .agg #[.int .i64 bn, .int .i64 bd]] w fun e w' => e = .returned (.tuple #[.int .i64 0, .int .i64 1]) ∧ Below w.heap.size w w' := by
  obtain ⟨W, hW⟩ : ∃ W, (w.alloc (.cells #[.int .i64 an, .int .i64 ad] 23)).alloc (.cells #[.int .i64 bn, .int .i64 bd] 23) = W := ⟨_, rfl⟩
  have bW : Below w.heap.size w W := by subst hW; exact ((Below.refl _ _).alloc (Nat.le_refl _) _).alloc (by simp) _
  have k0 : Blk W w.heap.size 23 #[.int .i64 an, .int .i64 ad] := by subst hW; exact (Blk.new w _ rfl _ _).alloc _
  have k1 : Blk W (w.heap.size + 1) 23 #[.int .i64 bn, .int .i64 bd] := by subst hW; exact Blk.new _ _ (by simp) _ _
  have hWs : W.heap.size = w.heap.size + 2 := by subst hW; simp
  have f0 := k0.cell 0
  have f1 := k0.cell 1
  simp only [List.getElem?_toArray, List.getElem?_cons_zero, List.getElem?_cons_succ] at f0 f1
  go_enter Try.func26, Try.ntmps26
  go_wp2_with fail
  try rw [hW]
  refine (VA.out _).mono ?_
  rintro e w2 ⟨rfl, hb2⟩
  have b2 := bW.trans (hb2.mono (by omega))
  have hz2 := hb2.size
  have q0 := k0.low hb2 (by omega)
  have q1 := k1.low hb2 (by omega)
  have d0 := q1.cell 0
  have d1 := q1.cell 1
  simp only [List.getElem?_toArray, List.getElem?_cons_zero, List.getElem?_cons_succ] at d0 d1
  clear k0 k1 f0 f1 hW bW hb2 VA
  go_wp2_with fail
  refine (VB.out _).mono ?_
  rintro e w3 ⟨rfl, hb3⟩
  have b3 := b2.trans (hb3.mono (by omega))
  clear d0 d1
  go_wp2_with fail
  go_ret2
  exact ⟨rfl, b3⟩

set_option maxRecDepth 100000 in
set_option maxHeartbeats 2000000 in
theorem cmp_lt (an ad bn bd : Int) (w : World) (VA : Hid (∀ w, Calls Try.prog 17 #[.agg #[.int .i64 an, .int .i64 ad]] w fun e w' => e = .returned (.bool true) ∧ Below w.heap.size w w')) (VB : Hid (∀ w, Calls Try.prog 17 #[.agg #[.int .i64 bn, .int .i64 bd]] w fun e w' => e = .returned (.bool true) ∧ Below w.heap.size w w')) (sa : decide (an < 0) = true) (sb : decide (bn < 0) = false) :
    Calls Try.prog 26 #[.agg #[.int .i64 an, .int .i64 ad], .agg #[.int .i64 bn, .int .i64 bd]] w fun e w' => e = .returned (.tuple #[.int .i64 (-1), .int .i64 0]) ∧ Below w.heap.size w w' := by
  obtain ⟨W, hW⟩ : ∃ W, (w.alloc (.cells #[.int .i64 an, .int .i64 ad] 23)).alloc (.cells #[.int .i64 bn, .int .i64 bd] 23) = W := ⟨_, rfl⟩
  have bW : Below w.heap.size w W := by subst hW; exact ((Below.refl _ _).alloc (Nat.le_refl _) _).alloc (by simp) _
  have k0 : Blk W w.heap.size 23 #[.int .i64 an, .int .i64 ad] := by subst hW; exact (Blk.new w _ rfl _ _).alloc _
  have k1 : Blk W (w.heap.size + 1) 23 #[.int .i64 bn, .int .i64 bd] := by subst hW; exact Blk.new _ _ (by simp) _ _
  have hWs : W.heap.size = w.heap.size + 2 := by subst hW; simp
  have f0 := k0.cell 0
  have f1 := k0.cell 1
  simp only [List.getElem?_toArray, List.getElem?_cons_zero, List.getElem?_cons_succ] at f0 f1
  go_enter Try.func26, Try.ntmps26
  go_wp2_with fail
  try rw [hW]
  refine (VA.out _).mono ?_
  rintro e w2 ⟨rfl, hb2⟩
  have b2 := bW.trans (hb2.mono (by omega))
  have hz2 := hb2.size
  have q0 := k0.low hb2 (by omega)
  have q1 := k1.low hb2 (by omega)
  have d0 := q1.cell 0
  have d1 := q1.cell 1
  simp only [List.getElem?_toArray, List.getElem?_cons_zero, List.getElem?_cons_succ] at d0 d1
  clear k0 k1 f0 f1 hW bW hb2 VA
  go_wp2_with fail
  refine (VB.out _).mono ?_
  rintro e w3 ⟨rfl, hb3⟩
  have b3 := b2.trans (hb3.mono (by omega))
  have r0 := q0.low hb3 (by omega)
  have r1 := q1.low hb3 (by omega)
  have hz3 := hb3.size
  have c0 := r0.cell 0
  have c1 := r0.cell 1
  have c2 := r1.cell 0
  have c3 := r1.cell 1
  simp only [List.getElem?_toArray, List.getElem?_cons_zero, List.getElem?_cons_succ] at c0 c1 c2 c3
  have hz4 : w.heap.size + 2 ≤ w3.heap.size := by omega
  have R0 : Hid (∀ n, Blk (w3.drewN n) w.heap.size 23 #[.int .i64 an, .int .i64 ad]) := fun n => r0
  clear q0 q1 r0 r1 d0 d1 b2 hb3 VB hWs hz2 hz3
  clear R0
  go_wp2_with fail
  go_ret2
  exact ⟨rfl, b3⟩

set_option maxRecDepth 100000 in
set_option maxHeartbeats 2000000 in
theorem cmp_gt (an ad bn bd : Int) (w : World) (VA : Hid (∀ w, Calls Try.prog 17 #[.agg #[.int .i64 an, .int .i64 ad]] w fun e w' => e = .returned (.bool true) ∧ Below w.heap.size w w')) (VB : Hid (∀ w, Calls Try.prog 17 #[.agg #[.int .i64 bn, .int .i64 bd]] w fun e w' => e = .returned (.bool true) ∧ Below w.heap.size w w')) (sa : decide (an < 0) = false) (sb : decide (bn < 0) = true) :
    Calls Try.prog 26 #[.agg #[.int .i64 an, .int .i64 ad], .agg #[.int .i64 bn, .int .i64 bd]] w fun e w' => e = .returned (.tuple #[.int .i64 1, .int .i64 0]) ∧ Below w.heap.size w w' := by
  obtain ⟨W, hW⟩ : ∃ W, (w.alloc (.cells #[.int .i64 an, .int .i64 ad] 23)).alloc (.cells #[.int .i64 bn, .int .i64 bd] 23) = W := ⟨_, rfl⟩
  have bW : Below w.heap.size w W := by subst hW; exact ((Below.refl _ _).alloc (Nat.le_refl _) _).alloc (by simp) _
  have k0 : Blk W w.heap.size 23 #[.int .i64 an, .int .i64 ad] := by subst hW; exact (Blk.new w _ rfl _ _).alloc _
  have k1 : Blk W (w.heap.size + 1) 23 #[.int .i64 bn, .int .i64 bd] := by subst hW; exact Blk.new _ _ (by simp) _ _
  have hWs : W.heap.size = w.heap.size + 2 := by subst hW; simp
  have f0 := k0.cell 0
  have f1 := k0.cell 1
  simp only [List.getElem?_toArray, List.getElem?_cons_zero, List.getElem?_cons_succ] at f0 f1
  go_enter Try.func26, Try.ntmps26
  go_wp2_with fail
  try rw [hW]
  refine (VA.out _).mono ?_
  rintro e w2 ⟨rfl, hb2⟩
  have b2 := bW.trans (hb2.mono (by omega))
  have hz2 := hb2.size
  have q0 := k0.low hb2 (by omega)
  have q1 := k1.low hb2 (by omega)
  have d0 := q1.cell 0
  have d1 := q1.cell 1
  simp only [List.getElem?_toArray, List.getElem?_cons_zero, List.getElem?_cons_succ] at d0 d1
  clear k0 k1 f0 f1 hW bW hb2 VA
  go_wp2_with fail
  refine (VB.out _).mono ?_
  rintro e w3 ⟨rfl, hb3⟩
  have b3 := b2.trans (hb3.mono (by omega))
  have r0 := q0.low hb3 (by omega)
  have r1 := q1.low hb3 (by omega)
  have hz3 := hb3.size
  have c0 := r0.cell 0
  have c1 := r0.cell 1
  have c2 := r1.cell 0
  have c3 := r1.cell 1
  simp only [List.getElem?_toArray, List.getElem?_cons_zero, List.getElem?_cons_succ] at c0 c1 c2 c3
  have hz4 : w.heap.size + 2 ≤ w3.heap.size := by omega
  have R0 : Hid (∀ n, Blk (w3.drewN n) w.heap.size 23 #[.int .i64 an, .int .i64 ad]) := fun n => r0
  clear q0 q1 r0 r1 d0 d1 b2 hb3 VB hWs hz2 hz3
  clear R0
  go_wp2_with fail
  go_ret2
  exact ⟨rfl, b3⟩

set_option maxRecDepth 100000 in
set_option maxHeartbeats 2000000 in
theorem cmp_neg (an ad bn bd : Int) (w : World) (han : fits an) (had : fits ad) (hbn : fits bn) (hbd : fits bd) (VA : Hid (∀ w, Calls Try.prog 17 #[.agg #[.int .i64 an, .int .i64 ad]] w fun e w' => e = .returned (.bool true) ∧ Below w.heap.size w w')) (VB : Hid (∀ w, Calls Try.prog 17 #[.agg #[.int .i64 bn, .int .i64 bd]] w fun e w' => e = .returned (.bool true) ∧ Below w.heap.size w w')) (sa : decide (an < 0) = true) (sb : decide (bn < 0) = true) (h1 l1 h2 l2 : Nat) (x1 x2 o : Int)
    (M1 : Hid (∀ w, Calls Try.prog 46 #[.int .u64 an.natAbs, .int .u64 bd.natAbs] w fun e w' => e = .returned (.tuple #[.int .u64 h1, .int .u64 l1]) ∧ w = w'))
    (M2 : Hid (∀ w, Calls Try.prog 46 #[.int .u64 bn.natAbs, .int .u64 ad.natAbs] w fun e w' => e = .returned (.tuple #[.int .u64 h2, .int .u64 l2]) ∧ w = w'))
    (P1 : Hid (∀ w, Calls Try.prog 48 #[.int .u64 h1, .int .u64 h2] w fun e w' => e = .returned (.int .i64 x1) ∧ w = w'))
    (P2 : Hid (∀ w, Calls Try.prog 48 #[.int .u64 l1, .int .u64 l2] w fun e w' => e = .returned (.int .i64 x2) ∧ w = w'))
    (OC : Hid (∀ w : World, Calls Try.prog 47 #[.slice (some ⟨w.heap.size, 0, none⟩) 2 2] (w.alloc (.cells #[.int .i64 x1, .int .i64 x2] 3)) fun e w' => e = .returned (.int .i64 o) ∧ (w.alloc (.cells #[.int .i64 x1, .int .i64 x2] 3)) = w'))
    (ho : -1 ≤ o ∧ o ≤ 1) :
    Calls Try.prog 26 #[.agg #[.int .i64 an, .int .i64 ad], .agg #[.int .i64 bn, .int .i64 bd]] w fun e w' => e = .returned (.tuple #[.int .i64 (-o), .int .i64 0]) ∧ Below w.heap.size w w' := by
  obtain ⟨W, hW⟩ : ∃ W, (w.alloc (.cells #[.int .i64 an, .int .i64 ad] 23)).alloc (.cells #[.int .i64 bn, .int .i64 bd] 23) = W := ⟨_, rfl⟩
  have bW : Below w.heap.size w W := by subst hW; exact ((Below.refl _ _).alloc (Nat.le_refl _) _).alloc (by simp) _
  have k0 : Blk W w.heap.size 23 #[.int .i64 an, .int .i64 ad] := by subst hW; exact (Blk.new w _ rfl _ _).alloc _
  have k1 : Blk W (w.heap.size + 1) 23 #[.int .i64 bn, .int .i64 bd] := by subst hW; exact Blk.new _ _ (by simp) _ _
  have hWs : W.heap.size = w.heap.size + 2 := by subst hW; simp
  have f0 := k0.cell 0
  have f1 := k0.cell 1
  simp only [List.getElem?_toArray, List.getElem?_cons_zero, List.getElem?_cons_succ] at f0 f1
  go_enter Try.func26, Try.ntmps26
  go_wp2_with fail
  try rw [hW]
  refine (VA.out _).mono ?_
  rintro e w2 ⟨rfl, hb2⟩
  have b2 := bW.trans (hb2.mono (by omega))
  have hz2 := hb2.size
  have q0 := k0.low hb2 (by omega)
  have q1 := k1.low hb2 (by omega)
  have d0 := q1.cell 0
  have d1 := q1.cell 1
  simp only [List.getElem?_toArray, List.getElem?_cons_zero, List.getElem?_cons_succ] at d0 d1
  clear k0 k1 f0 f1 hW bW hb2 VA
  go_wp2_with fail
  refine (VB.out _).mono ?_
  rintro e w3 ⟨rfl, hb3⟩
  have b3 := b2.trans (hb3.mono (by omega))
  have r0 := q0.low hb3 (by omega)
  have r1 := q1.low hb3 (by omega)
  have hz3 := hb3.size
  have c0 := r0.cell 0
  have c1 := r0.cell 1
  have c2 := r1.cell 0
  have c3 := r1.cell 1
  simp only [List.getElem?_toArray, List.getElem?_cons_zero, List.getElem?_cons_succ] at c0 c1 c2 c3
  have hz4 : w.heap.size + 2 ≤ w3.heap.size := by omega
  have R0 : Hid (∀ n, Blk (w3.drewN n) w.heap.size 23 #[.int .i64 an, .int .i64 ad]) := fun n => r0
  clear q0 q1 r0 r1 d0 d1 b2 hb3 VB hWs hz2 hz3
  have cA : ∀ (n : Nat) (o : Obj), ((w3.drewN n).alloc o).cell? ⟨w.heap.size, 0, none⟩ = some (.int .i64 an) := fun n o => ((R0.out n).alloc o).cell 0
  clear R0
  have CA := Lib.hid cA
  clear cA
  have hS : (an < 0) = True := by simpa using sa
  have HS := Lib.hid hS
  clear hS
  go_wp2_with fail
  go_quiet ((first | (go_at_call 37; exact quiet_left (fsize_any _ _ han)) | (go_at_call 37; exact quiet_left (fsize_any _ _ hbd)) | (go_at_call 46; exact quiet_left (M1.out _))))
  go_wp2_with fail
  go_quiet ((first | (go_at_call 37; exact quiet_left (fsize_any _ _ hbn)) | (go_at_call 37; exact quiet_left2 (fsize_any _ _ hbn)) | (go_at_call 37; exact quiet_left3 (fsize_any _ _ hbn)) | (go_at_call 37; exact quiet_left (fsize_any _ _ had)) | (go_at_call 37; exact quiet_left2 (fsize_any _ _ had)) | (go_at_call 37; exact quiet_left3 (fsize_any _ _ had)) | (go_at_call 46; exact quiet_left (M2.out _)) | (go_at_call 46; exact quiet_left2 (M2.out _)) | (go_at_call 46; exact quiet_left3 (M2.out _))))
  go_wp2_with fail
  refine (P1.out _).mono ?_
  rintro e w4 ⟨rfl, rfl⟩
  go_wp2_with fail
  refine (P2.out _).mono ?_
  rintro e w4 ⟨rfl, rfl⟩
  go_wp2_with fail
  refine (OC.out _).mono ?_
  rintro e w4 ⟨rfl, rfl⟩
  have cA := CA.out
  go_wp2_with fail
  go_ret2
  exact ⟨by first | rfl | (congr 3; omega), by repeat (first | exact b3 | refine below_drewN ?_ _ | (refine Below.alloc ?_ (by have := b3.size; simp; omega) _))⟩

set_option maxRecDepth 100000 in
set_option maxHeartbeats 2000000 in
theorem cmp_pos (an ad bn bd : Int) (w : World) (han : fits an) (had : fits ad) (hbn : fits bn) (hbd : fits bd) (VA : Hid (∀ w, Calls Try.prog 17 #[.agg #[.int .i64 an, .int .i64 ad]] w fun e w' => e = .returned (.bool true) ∧ Below w.heap.size w w')) (VB : Hid (∀ w, Calls Try.prog 17 #[.agg #[.int .i64 bn, .int .i64 bd]] w fun e w' => e = .returned (.bool true) ∧ Below w.heap.size w w')) (sa : decide (an < 0) = false) (sb : decide (bn < 0) = false) (h1 l1 h2 l2 : Nat) (x1 x2 o : Int)
    (M1 : Hid (∀ w, Calls Try.prog 46 #[.int .u64 an.natAbs, .int .u64 bd.natAbs] w fun e w' => e = .returned (.tuple #[.int .u64 h1, .int .u64 l1]) ∧ w = w'))
    (M2 : Hid (∀ w, Calls Try.prog 46 #[.int .u64 bn.natAbs, .int .u64 ad.natAbs] w fun e w' => e = .returned (.tuple #[.int .u64 h2, .int .u64 l2]) ∧ w = w'))
    (P1 : Hid (∀ w, Calls Try.prog 48 #[.int .u64 h1, .int .u64 h2] w fun e w' => e = .returned (.int .i64 x1) ∧ w = w'))
    (P2 : Hid (∀ w, Calls Try.prog 48 #[.int .u64 l1, .int .u64 l2] w fun e w' => e = .returned (.int .i64 x2) ∧ w = w'))
    (OC : Hid (∀ w : World, Calls Try.prog 47 #[.slice (some ⟨w.heap.size, 0, none⟩) 2 2] (w.alloc (.cells #[.int .i64 x1, .int .i64 x2] 3)) fun e w' => e = .returned (.int .i64 o) ∧ (w.alloc (.cells #[.int .i64 x1, .int .i64 x2] 3)) = w'))
    (_ho : -1 ≤ o ∧ o ≤ 1) :
    Calls Try.prog 26 #[.agg #[.int .i64 an, .int .i64 ad], .agg #[.int .i64 bn, .int .i64 bd]] w fun e w' => e = .returned (.tuple #[.int .i64 o, .int .i64 0]) ∧ Below w.heap.size w w' := by
  obtain ⟨W, hW⟩ : ∃ W, (w.alloc (.cells #[.int .i64 an, .int .i64 ad] 23)).alloc (.cells #[.int .i64 bn, .int .i64 bd] 23) = W := ⟨_, rfl⟩
  have bW : Below w.heap.size w W := by subst hW; exact ((Below.refl _ _).alloc (Nat.le_refl _) _).alloc (by simp) _
  have k0 : Blk W w.heap.size 23 #[.int .i64 an, .int .i64 ad] := by subst hW; exact (Blk.new w _ rfl _ _).alloc _
  have k1 : Blk W (w.heap.size + 1) 23 #[.int .i64 bn, .int .i64 bd] := by subst hW; exact Blk.new _ _ (by simp) _ _
  have hWs : W.heap.size = w.heap.size + 2 := by subst hW; simp
  have f0 := k0.cell 0
  have f1 := k0.cell 1
  simp only [List.getElem?_toArray, List.getElem?_cons_zero, List.getElem?_cons_succ] at f0 f1
  go_enter Try.func26, Try.ntmps26
  go_wp2_with fail
  try rw [hW]
  refine (VA.out _).mono ?_
  rintro e w2 ⟨rfl, hb2⟩
  have b2 := bW.trans (hb2.mono (by omega))
  have hz2 := hb2.size
  have q0 := k0.low hb2 (by omega)
  have q1 := k1.low hb2 (by omega)
  have d0 := q1.cell 0
  have d1 := q1.cell 1
  simp only [List.getElem?_toArray, List.getElem?_cons_zero, List.getElem?_cons_succ] at d0 d1
  clear k0 k1 f0 f1 hW bW hb2 VA
  go_wp2_with fail
  refine (VB.out _).mono ?_
  rintro e w3 ⟨rfl, hb3⟩
  have b3 := b2.trans (hb3.mono (by omega))
  have r0 := q0.low hb3 (by omega)
  have r1 := q1.low hb3 (by omega)
  have hz3 := hb3.size
  have c0 := r0.cell 0
  have c1 := r0.cell 1
  have c2 := r1.cell 0
  have c3 := r1.cell 1
  simp only [List.getElem?_toArray, List.getElem?_cons_zero, List.getElem?_cons_succ] at c0 c1 c2 c3
  have hz4 : w.heap.size + 2 ≤ w3.heap.size := by omega
  have R0 : Hid (∀ n, Blk (w3.drewN n) w.heap.size 23 #[.int .i64 an, .int .i64 ad]) := fun n => r0
  clear q0 q1 r0 r1 d0 d1 b2 hb3 VB hWs hz2 hz3
  have cA : ∀ (n : Nat) (o : Obj), ((w3.drewN n).alloc o).cell? ⟨w.heap.size, 0, none⟩ = some (.int .i64 an) := fun n o => ((R0.out n).alloc o).cell 0
  clear R0
  have CA := Lib.hid cA
  clear cA
  have hS : (an < 0) = False := by simpa using sa
  have HS := Lib.hid hS
  clear hS
  go_wp2_with fail
  go_quiet ((first | (go_at_call 37; exact quiet_left (fsize_any _ _ han)) | (go_at_call 37; exact quiet_left (fsize_any _ _ hbd)) | (go_at_call 46; exact quiet_left (M1.out _))))
  go_wp2_with fail
  go_quiet ((first | (go_at_call 37; exact quiet_left (fsize_any _ _ hbn)) | (go_at_call 37; exact quiet_left2 (fsize_any _ _ hbn)) | (go_at_call 37; exact quiet_left3 (fsize_any _ _ hbn)) | (go_at_call 37; exact quiet_left (fsize_any _ _ had)) | (go_at_call 37; exact quiet_left2 (fsize_any _ _ had)) | (go_at_call 37; exact quiet_left3 (fsize_any _ _ had)) | (go_at_call 46; exact quiet_left (M2.out _)) | (go_at_call 46; exact quiet_left2 (M2.out _)) | (go_at_call 46; exact quiet_left3 (M2.out _))))
  go_wp2_with fail
  refine (P1.out _).mono ?_
  rintro e w4 ⟨rfl, rfl⟩
  go_wp2_with fail
  refine (P2.out _).mono ?_
  rintro e w4 ⟨rfl, rfl⟩
  go_wp2_with fail
  refine (OC.out _).mono ?_
  rintro e w4 ⟨rfl, rfl⟩
  have cA := CA.out
  go_wp2_with fail
  go_ret2
  exact ⟨by first | rfl | (congr 3; omega), by repeat (first | exact b3 | refine below_drewN ?_ _ | (refine Below.alloc ?_ (by have := b3.size; simp; omega) _))⟩

theorem fcmp_any (a b : Fr) (w : World) (ha : a.fit) (hb : b.fit) :
    Calls Try.prog 26 #[.agg #[.int .i64 a.n, .int .i64 a.d], .agg #[.int .i64 b.n, .int .i64 b.d]] w fun e w' => e = .returned (.tuple #[.int .i64 (cmpR a b).1, .int .i64 (cmpR a b).2]) ∧ Below w.heap.size w w' := by
  have va := Lib.hid fun w => valid_of a w ha
  have vb := Lib.hid fun w => valid_of b w hb
  cases hv : a.valid with
  | false =>
    have e : cmpR a b = (0, 1) := by unfold cmpR; rw [hv]; simp
    rw [e]
    rw [hv] at va
    exact cmp_bad1 _ _ _ _ w va
  | true =>
    rw [hv] at va
    cases hvb : b.valid with
    | false =>
      have e : cmpR a b = (0, 1) := by unfold cmpR; rw [hvb]; simp
      rw [e]
      rw [hvb] at vb
      exact cmp_bad2 _ _ _ _ w va vb
    | true =>
      rw [hvb] at vb
      have hpa := Fr.pos hv
      have hpb := Fr.pos hvb
      have e : cmpR a b = (cmpI (a.n * b.d) (b.n * a.d), 0) := by unfold cmpR; rw [hv, hvb]; simp
      rw [e]
      by_cases hs : decide (a.n < 0) = decide (b.n < 0)
      · have hE := cmp_same (an := a.n) (bn := b.n) hpa hpb hs
        rw [← cmp_halves] at hE
        have bd1 := cmpI_bd ((a.n.natAbs * b.d.natAbs / 18446744073709551616 : Nat) : Int) ((b.n.natAbs * a.d.natAbs / 18446744073709551616 : Nat) : Int)
        have bd2 := cmpI_bd ((a.n.natAbs * b.d.natAbs % 18446744073709551616 : Nat) : Int) ((b.n.natAbs * a.d.natAbs % 18446744073709551616 : Nat) : Int)
        have m1 := Lib.hid fun w => mul64_of a.n.natAbs b.d.natAbs (natAbs_lt ha.1) (natAbs_lt hb.2) w
        have m2 := Lib.hid fun w => mul64_of b.n.natAbs a.d.natAbs (natAbs_lt hb.1) (natAbs_lt ha.2) w
        have p1 := Lib.hid fun w => compare_any (a.n.natAbs * b.d.natAbs / 18446744073709551616) (b.n.natAbs * a.d.natAbs / 18446744073709551616) w
        have p2 := Lib.hid fun w => compare_any (a.n.natAbs * b.d.natAbs % 18446744073709551616) (b.n.natAbs * a.d.natAbs % 18446744073709551616) w
        generalize cmpI ((a.n.natAbs * b.d.natAbs / 18446744073709551616 : Nat) : Int) ((b.n.natAbs * a.d.natAbs / 18446744073709551616 : Nat) : Int) = x1 at *
        generalize cmpI ((a.n.natAbs * b.d.natAbs % 18446744073709551616 : Nat) : Int) ((b.n.natAbs * a.d.natAbs % 18446744073709551616 : Nat) : Int) = x2 at *
        have hof : AllFit [x1, x2] := fun x hx => by
          simp at hx
          rcases hx with rfl | rfl <;> (unfold fits; omega)
        have hob : -1 ≤ orF [x1, x2] ∧ orF [x1, x2] ≤ 1 := by
          simp only [orF]
          split
          · split <;> omega
          · omega
        have oc := Lib.hid fun (w : World) => or_any [x1, x2] (some ⟨w.heap.size, 0, none⟩) 2 2 (w.heap.size + 1) (w.alloc (.cells #[.int .i64 x1, .int .i64 x2] 3)) rfl hof (rd_alloc w w.heap.size rfl 3 (cellsI [x1, x2])) (by unfold maxLen; decide)
        cases sa : decide (a.n < 0) with
        | true =>
          rw [sa] at hs
          have h := cmp_neg a.n a.d b.n b.d w ha.1 ha.2 hb.1 hb.2 va vb sa hs.symm _ _ _ _ x1 x2 _ m1 m2 p1 p2 oc hob
          rw [hE, if_pos (of_decide_eq_true sa)]
          exact h
        | false =>
          rw [sa] at hs
          have h := cmp_pos a.n a.d b.n b.d w ha.1 ha.2 hb.1 hb.2 va vb sa hs.symm _ _ _ _ x1 x2 _ m1 m2 p1 p2 oc hob
          rw [hE, if_neg (of_decide_eq_false sa)]
          exact h
      · have hE := cmp_diff (an := a.n) (bn := b.n) hpa hpb hs
        rw [hE]
        cases sa : decide (a.n < 0) with
        | true =>
          have sb : decide (b.n < 0) = false := by cases h : decide (b.n < 0) with
            | false => rfl
            | true => exact absurd (sa.trans h.symm) hs
          rw [if_pos (of_decide_eq_true sa)]
          exact cmp_lt _ _ _ _ w va vb sa sb
        | false =>
          have sb : decide (b.n < 0) = true := by cases h : decide (b.n < 0) with
            | true => rfl
            | false => exact absurd (sa.trans h.symm) hs
          rw [if_neg (of_decide_eq_false sa)]
          exact cmp_gt _ _ _ _ w va vb sa sb
end Go.Proofs.Ytfielhbepnkekaa
