/-
  FracTurns: what the law computes is true.
-/
import Derived.Test.YtfielhbepnkekaaKm
namespace Go.Proofs.Ytfielhbepnkekaa
open Go.RowKit

theorem cmpI_scale {x y k : Int} (hk : 0 < k) : cmpI (x * k) (y * k) = cmpI x y := by
  unfold cmpI
  by_cases h : x < y
  · rw [if_pos h, if_pos (Int.mul_lt_mul_of_pos_right h hk)]
  · rw [if_neg h, if_neg (fun h2 => h (Int.lt_of_mul_lt_mul_right h2 (by omega)))]
    by_cases h2 : y < x
    · rw [if_pos h2, if_pos (Int.mul_lt_mul_of_pos_right h2 hk)]
    · rw [if_neg h2, if_neg (fun h3 => h2 (Int.lt_of_mul_lt_mul_right h3 (by omega)))]
theorem one_valid : (⟨1, 1⟩ : Fr).valid = true := rfl
theorem mul2_one {a : Fr} (ha : a.valid = true) : mul2 ⟨1, 1⟩ a = a := by
  refine Fr.uniq (mul2_valid one_valid ha) ha ?_
  have := mul2_worth one_valid ha
  simpa using this
theorem mul2_comm (a b : Fr) : mul2 a b = mul2 b a := by
  unfold mul2
  rw [Int.mul_comm, Int.mul_comm (newD a.n b.d)]
theorem okB_fits {z : Int} (h : fits z) : okB z = true := okB_iff.2 h
theorem mulR_two {a b : Fr} (ha : a.valid = true) (hb : b.valid = true) (fa : a.fit) : mulR [a, b] = if (okB (mul2 a b).n && okB (mul2 a b).d) = true then (mul2 a b, 0) else (⟨0, 0⟩, 4) := by
  unfold mulR
  rw [if_pos (by simp [ha, hb])]
  rw [mulGo, mul2_one ha, okB_fits fa.1, okB_fits fa.2]
  rfl
theorem mulR_comm (a b : Fr) (fa : a.fit) (fb : b.fit) : mulR [a, b] = mulR [b, a] := by
  by_cases h : a.valid = true ∧ b.valid = true
  · rw [mulR_two h.1 h.2 fa, mulR_two h.2 h.1 fb, mul2_comm]
  · have e : ∀ c d : Fr, ¬ (c.valid = true ∧ d.valid = true) → mulR [c, d] = (⟨0, 0⟩, 1) := fun c d h => by
      unfold mulR
      rw [if_neg (by simpa using h)]
    rw [e a b h, e b a (fun h2 => h ⟨h2.2, h2.1⟩)]
theorem inv_facts {a i : Fr} (h : invR a = (i, 0)) : a.valid = true ∧ a.n ≠ 0 ∧ i.valid = true ∧ i.fit ∧ i.n * a.n = a.d * i.d := by
  unfold invR at h
  split at h
  · rename_i hv
    obtain ⟨h0, h1, h2⟩ := newR_ok h
    refine ⟨hv, h0, ?_, h2, ?_⟩
    · rw [h1]; exact new_valid h0
    · rw [h1]; exact new_worth h0
  · simp at h
theorem inv_mul {a i : Fr} (fa : a.fit) (h : invR a = (i, 0)) : mulR [a, i] = (⟨1, 1⟩, 0) := by
  obtain ⟨hv, h0, hi, hf, hw⟩ := inv_facts h
  have hm : mul2 a i = ⟨1, 1⟩ := by
    refine Fr.uniq (mul2_valid hv hi) one_valid ?_
    have h1 := mul2_worth hv hi
    have pa := Fr.pos hv
    have pi := Fr.pos hi
    have hp : a.d * i.d ≠ 0 := by have := Int.mul_pos pa pi; omega
    simp only [Int.mul_one, Int.one_mul]
    refine Int.eq_of_mul_eq_mul_right hp ?_
    rw [h1, Int.mul_comm a.n i.n, hw, Int.mul_comm]
  rw [mulR_two hv hi fa, hm]; rfl
theorem inv_back {a i : Fr} (fa : a.fit) (h : invR a = (i, 0)) : invR i = (a, 0) := by
  obtain ⟨hv, h0, hi, hf, hw⟩ := inv_facts h
  have pa := Fr.pos hv
  have pi := Fr.pos hi
  have hin : i.n ≠ 0 := by
    intro h1
    rw [h1, Int.zero_mul] at hw
    have := Int.mul_pos pa pi
    omega
  have e : (⟨newN i.d i.n, newD i.d i.n⟩ : Fr) = a := by
    refine Fr.uniq (show Fr.valid _ = true from new_valid hin) hv ?_
    have h1 := new_worth (n := i.d) hin
    simp only
    refine Int.eq_of_mul_eq_mul_right hin ?_
    calc newN i.d i.n * a.d * i.n = newN i.d i.n * i.n * a.d := by rw [Int.mul_assoc, Int.mul_comm a.d, ← Int.mul_assoc]
      _ = a.d * i.d * newD i.d i.n := by rw [h1, Int.mul_comm (i.d * _) a.d, ← Int.mul_assoc]
      _ = i.n * a.n * newD i.d i.n := by rw [hw]
      _ = a.n * newD i.d i.n * i.n := by rw [Int.mul_assoc, Int.mul_comm i.n]
  have e1 : newN i.d i.n = a.n := congrArg Fr.n e
  have e2 : newD i.d i.n = a.d := congrArg Fr.d e
  unfold invR newR
  rw [if_pos hi, if_neg hin, e1, e2, okB_fits fa.1, okB_fits fa.2]; rfl
theorem inv_cmp {a b i j : Fr} (ha : invR a = (i, 0)) (hb : invR b = (j, 0)) (pa : 0 < a.n) (pb : 0 < b.n) : cmpR j i = cmpR a b := by
  obtain ⟨hv, _, hi, _, hw⟩ := inv_facts ha
  obtain ⟨hv2, _, hj, _, hw2⟩ := inv_facts hb
  unfold cmpR
  rw [if_pos ⟨hj, hi⟩, if_pos ⟨hv, hv2⟩]
  congr 1
  have hK := Int.mul_pos pa pb
  have hM := Int.mul_pos (Fr.pos hi) (Fr.pos hj)
  rw [← cmpI_scale (x := j.n * i.d) hK, ← cmpI_scale (x := a.n * b.d) hM]
  congr 1
  · calc j.n * i.d * (a.n * b.n) = j.n * b.n * (i.d * a.n) := by rw [Int.mul_assoc, Int.mul_assoc, Int.mul_comm a.n b.n, ← Int.mul_assoc i.d, Int.mul_comm i.d b.n, Int.mul_assoc b.n]
      _ = b.d * j.d * (i.d * a.n) := by rw [hw2]
      _ = a.n * b.d * (i.d * j.d) := by rw [Int.mul_comm (i.d) a.n, Int.mul_comm (b.d * j.d), Int.mul_assoc a.n, Int.mul_assoc a.n, ← Int.mul_assoc i.d, Int.mul_comm i.d b.d, Int.mul_assoc b.d]
  · calc i.n * j.d * (a.n * b.n) = i.n * a.n * (j.d * b.n) := by rw [Int.mul_assoc, Int.mul_assoc, ← Int.mul_assoc j.d, Int.mul_comm j.d a.n, Int.mul_assoc a.n]
      _ = a.d * i.d * (j.d * b.n) := by rw [hw]
      _ = b.n * a.d * (i.d * j.d) := by rw [Int.mul_comm j.d b.n, Int.mul_comm (a.d * i.d), Int.mul_assoc b.n, Int.mul_assoc b.n, ← Int.mul_assoc j.d, Int.mul_comm j.d a.d, Int.mul_assoc a.d, Int.mul_comm j.d]
theorem mul_two (a b : Fr) (fa : a.fit) (fb : b.fit) : Hid (∀ (w : World) (g c : Nat), g = w.heap.size → Calls Try.prog 21 #[.slice (some ⟨g, 0, none⟩) 2 c] (w.alloc (.cells #[.int .i64 a.n, .int .i64 a.d, .int .i64 b.n, .int .i64 b.d] 23)) fun e w' => e = .returned (.tuple #[.agg #[.int .i64 (mulR [a, b]).1.n, .int .i64 (mulR [a, b]).1.d], .int .i64 (mulR [a, b]).2]) ∧ Below (w.alloc (.cells #[.int .i64 a.n, .int .i64 a.d, .int .i64 b.n, .int .i64 b.d] 23)).heap.size (w.alloc (.cells #[.int .i64 a.n, .int .i64 a.d, .int .i64 b.n, .int .i64 b.d] 23)) w') :=
  fun w g c hg => fmul_any [a, b] (some ⟨g, 0, none⟩) 2 c _ rfl (fun f hf => by simp at hf; rcases hf with rfl | rfl <;> assumption) ((rd_alloc w g hg 23 (cellsF [a, b])).more (by subst hg; simp)) (by unfold maxLen; omega)

set_option maxRecDepth 100000 in
set_option maxHeartbeats 2000000 in
theorem turns_err (an ad bn bd x y er u v e1 : Int) (w : World) (h1 : (e1 == 0) = false) (M1 : Hid (∀ (w : World) (b c : Nat), b = w.heap.size → Calls Try.prog 21 #[.slice (some ⟨b, 0, none⟩) 2 c] (w.alloc (.cells #[.int .i64 an, .int .i64 ad, .int .i64 bn, .int .i64 bd] 23)) fun e w' => e = .returned (.tuple #[.agg #[.int .i64 x, .int .i64 y], .int .i64 er]) ∧ Below (w.alloc (.cells #[.int .i64 an, .int .i64 ad, .int .i64 bn, .int .i64 bd] 23)).heap.size (w.alloc (.cells #[.int .i64 an, .int .i64 ad, .int .i64 bn, .int .i64 bd] 23)) w')) (M2 : Hid (∀ (w : World) (b c : Nat), b = w.heap.size → Calls Try.prog 21 #[.slice (some ⟨b, 0, none⟩) 2 c] (w.alloc (.cells #[.int .i64 bn, .int .i64 bd, .int .i64 an, .int .i64 ad] 23)) fun e w' => e = .returned (.tuple #[.agg #[.int .i64 x, .int .i64 y], .int .i64 er]) ∧ Below (w.alloc (.cells #[.int .i64 bn, .int .i64 bd, .int .i64 an, .int .i64 ad] 23)).heap.size (w.alloc (.cells #[.int .i64 bn, .int .i64 bd, .int .i64 an, .int .i64 ad] 23)) w')) (I1 : Hid (∀ w, Calls Try.prog 24 #[.agg #[.int .i64 an, .int .i64 ad]] w fun e w' => e = .returned (.tuple #[.agg #[.int .i64 u, .int .i64 v], .int .i64 e1]) ∧ Below w.heap.size w w')) :
    Calls Try.prog 11 #[.agg #[.int .i64 an, .int .i64 ad], .agg #[.int .i64 bn, .int .i64 bd]] w fun e w' => e = .returned (.bool true) ∧ Below w.heap.size w w' := by
  have bb := Below.refl w.heap.size w
  have ka := Blk.new w (w.heap.size) (by simp) 23 #[.int .i64 an, .int .i64 ad]
  have bb := bb.alloc bb.size (.cells #[.int .i64 an, .int .i64 ad] 23)
  have ka := ka.alloc (.cells #[.int .i64 bn, .int .i64 bd] 23)
  have kb := Blk.new (w.alloc (.cells #[.int .i64 an, .int .i64 ad] 23)) (w.heap.size + 1) (by simp) 23 #[.int .i64 bn, .int .i64 bd]
  have bb := bb.alloc bb.size (.cells #[.int .i64 bn, .int .i64 bd] 23)
  have ca0 := ka.cell 0
  have ca1 := ka.cell 1
  have cb0 := kb.cell 0
  have cb1 := kb.cell 1
  simp only [List.getElem?_toArray, List.getElem?_cons_zero, List.getElem?_cons_succ] at ca0 ca1 cb0 cb1
  go_enter Try.func11, Try.ntmps11
  have ka := ka.alloc (.cells #[.int .i64 an, .int .i64 ad, .int .i64 bn, .int .i64 bd] 23)
  have kb := kb.alloc (.cells #[.int .i64 an, .int .i64 ad, .int .i64 bn, .int .i64 bd] 23)
  have bb := bb.alloc bb.size (.cells #[.int .i64 an, .int .i64 ad, .int .i64 bn, .int .i64 bd] 23)
  go_wp2_with fail
  refine (M1.out _ _ _ (by simp)).mono ?_
  rintro e w1 ⟨rfl, hb1⟩
  clear ca0 ca1 cb0 cb1
  have ka := ka.low hb1 ka.lt
  have kb := kb.low hb1 kb.lt
  have bb := bb.trans (hb1.mono bb.size)
  clear hb1
  have ka := ka.alloc (.cells #[.int .i64 x, .int .i64 y] 23)
  have kb := kb.alloc (.cells #[.int .i64 x, .int .i64 y] 23)
  have kp := Blk.new w1 (w1.heap.size) (by simp) 23 #[.int .i64 x, .int .i64 y]
  have bb := bb.alloc bb.size (.cells #[.int .i64 x, .int .i64 y] 23)
  have ca0 := ka.cell 0
  have ca1 := ka.cell 1
  have cb0 := kb.cell 0
  have cb1 := kb.cell 1
  have cp0 := kp.cell 0
  have cp1 := kp.cell 1
  simp only [List.getElem?_toArray, List.getElem?_cons_zero, List.getElem?_cons_succ] at ca0 ca1 cb0 cb1 cp0 cp1
  have ka := ka.alloc (.cells #[.int .i64 bn, .int .i64 bd, .int .i64 an, .int .i64 ad] 23)
  have kb := kb.alloc (.cells #[.int .i64 bn, .int .i64 bd, .int .i64 an, .int .i64 ad] 23)
  have kp := kp.alloc (.cells #[.int .i64 bn, .int .i64 bd, .int .i64 an, .int .i64 ad] 23)
  have bb := bb.alloc bb.size (.cells #[.int .i64 bn, .int .i64 bd, .int .i64 an, .int .i64 ad] 23)
  go_wp2_with fail
  refine (M2.out _ _ _ (by simp)).mono ?_
  rintro e w2 ⟨rfl, hb2⟩
  clear ca0 ca1 cb0 cb1 cp0 cp1
  have ka := ka.low hb2 ka.lt
  have kb := kb.low hb2 kb.lt
  have kp := kp.low hb2 kp.lt
  have bb := bb.trans (hb2.mono bb.size)
  clear hb2
  have ka := ka.alloc (.cells #[.int .i64 x, .int .i64 y] 23)
  have kb := kb.alloc (.cells #[.int .i64 x, .int .i64 y] 23)
  have kp := kp.alloc (.cells #[.int .i64 x, .int .i64 y] 23)
  have kq := Blk.new w2 (w2.heap.size) (by simp) 23 #[.int .i64 x, .int .i64 y]
  have bb := bb.alloc bb.size (.cells #[.int .i64 x, .int .i64 y] 23)
  have ca0 := ka.cell 0
  have ca1 := ka.cell 1
  have cb0 := kb.cell 0
  have cb1 := kb.cell 1
  have cp0 := kp.cell 0
  have cp1 := kp.cell 1
  have cq0 := kq.cell 0
  have cq1 := kq.cell 1
  simp only [List.getElem?_toArray, List.getElem?_cons_zero, List.getElem?_cons_succ] at ca0 ca1 cb0 cb1 cp0 cp1 cq0 cq1
  go_wp2_with fail
  refine (I1.out _).mono ?_
  rintro e w3 ⟨rfl, hb3⟩
  clear ca0 ca1 cb0 cb1 cp0 cp1 cq0 cq1
  have ka := ka.low hb3 ka.lt
  have kb := kb.low hb3 kb.lt
  have kp := kp.low hb3 kp.lt
  have kq := kq.low hb3 kq.lt
  have bb := bb.trans (hb3.mono bb.size)
  clear hb3
  have ka := ka.alloc (.cells #[.int .i64 u, .int .i64 v] 23)
  have kb := kb.alloc (.cells #[.int .i64 u, .int .i64 v] 23)
  have kp := kp.alloc (.cells #[.int .i64 u, .int .i64 v] 23)
  have kq := kq.alloc (.cells #[.int .i64 u, .int .i64 v] 23)
  have ki := Blk.new w3 (w3.heap.size) (by simp) 23 #[.int .i64 u, .int .i64 v]
  have bb := bb.alloc bb.size (.cells #[.int .i64 u, .int .i64 v] 23)
  have ca0 := ka.cell 0
  have ca1 := ka.cell 1
  have cb0 := kb.cell 0
  have cb1 := kb.cell 1
  have cp0 := kp.cell 0
  have cp1 := kp.cell 1
  have cq0 := kq.cell 0
  have cq1 := kq.cell 1
  have ci0 := ki.cell 0
  have ci1 := ki.cell 1
  simp only [List.getElem?_toArray, List.getElem?_cons_zero, List.getElem?_cons_succ] at ca0 ca1 cb0 cb1 cp0 cp1 cq0 cq1 ci0 ci1
  go_wp2_with fail
  refine (awake_any _).mono ?_
  rintro e w4 ⟨rfl, hb4⟩
  clear ca0 ca1 cb0 cb1 cp0 cp1 cq0 cq1 ci0 ci1
  have ka := ka.low hb4 ka.lt
  have kb := kb.low hb4 kb.lt
  have kp := kp.low hb4 kp.lt
  have kq := kq.low hb4 kq.lt
  have ki := ki.low hb4 ki.lt
  have bb := bb.trans (hb4.mono bb.size)
  clear hb4
  go_wp2_with fail
  go_ret
  exact ⟨rfl, bb⟩

set_option maxRecDepth 100000 in
set_option maxHeartbeats 2000000 in
theorem turns_e (an ad bn bd x y er iN iD jn jd e2 : Int) (w : World) (h2 : (e2 == 0) = false) (M1 : Hid (∀ (w : World) (b c : Nat), b = w.heap.size → Calls Try.prog 21 #[.slice (some ⟨b, 0, none⟩) 2 c] (w.alloc (.cells #[.int .i64 an, .int .i64 ad, .int .i64 bn, .int .i64 bd] 23)) fun e w' => e = .returned (.tuple #[.agg #[.int .i64 x, .int .i64 y], .int .i64 er]) ∧ Below (w.alloc (.cells #[.int .i64 an, .int .i64 ad, .int .i64 bn, .int .i64 bd] 23)).heap.size (w.alloc (.cells #[.int .i64 an, .int .i64 ad, .int .i64 bn, .int .i64 bd] 23)) w')) (M2 : Hid (∀ (w : World) (b c : Nat), b = w.heap.size → Calls Try.prog 21 #[.slice (some ⟨b, 0, none⟩) 2 c] (w.alloc (.cells #[.int .i64 bn, .int .i64 bd, .int .i64 an, .int .i64 ad] 23)) fun e w' => e = .returned (.tuple #[.agg #[.int .i64 x, .int .i64 y], .int .i64 er]) ∧ Below (w.alloc (.cells #[.int .i64 bn, .int .i64 bd, .int .i64 an, .int .i64 ad] 23)).heap.size (w.alloc (.cells #[.int .i64 bn, .int .i64 bd, .int .i64 an, .int .i64 ad] 23)) w')) (I1 : Hid (∀ w, Calls Try.prog 24 #[.agg #[.int .i64 an, .int .i64 ad]] w fun e w' => e = .returned (.tuple #[.agg #[.int .i64 iN, .int .i64 iD], .int .i64 0]) ∧ Below w.heap.size w w')) (M3 : Hid (∀ (w : World) (b c : Nat), b = w.heap.size → Calls Try.prog 21 #[.slice (some ⟨b, 0, none⟩) 2 c] (w.alloc (.cells #[.int .i64 an, .int .i64 ad, .int .i64 iN, .int .i64 iD] 23)) fun e w' => e = .returned (.tuple #[.agg #[.int .i64 1, .int .i64 1], .int .i64 0]) ∧ Below (w.alloc (.cells #[.int .i64 an, .int .i64 ad, .int .i64 iN, .int .i64 iD] 23)).heap.size (w.alloc (.cells #[.int .i64 an, .int .i64 ad, .int .i64 iN, .int .i64 iD] 23)) w')) (I2 : Hid (∀ w, Calls Try.prog 24 #[.agg #[.int .i64 iN, .int .i64 iD]] w fun e w' => e = .returned (.tuple #[.agg #[.int .i64 an, .int .i64 ad], .int .i64 0]) ∧ Below w.heap.size w w')) (I3 : Hid (∀ w, Calls Try.prog 24 #[.agg #[.int .i64 bn, .int .i64 bd]] w fun e w' => e = .returned (.tuple #[.agg #[.int .i64 jn, .int .i64 jd], .int .i64 e2]) ∧ Below w.heap.size w w')) :
    Calls Try.prog 11 #[.agg #[.int .i64 an, .int .i64 ad], .agg #[.int .i64 bn, .int .i64 bd]] w fun e w' => e = .returned (.bool true) ∧ Below w.heap.size w w' := by
  have bb := Below.refl w.heap.size w
  have ka := Blk.new w (w.heap.size) (by simp) 23 #[.int .i64 an, .int .i64 ad]
  have bb := bb.alloc bb.size (.cells #[.int .i64 an, .int .i64 ad] 23)
  have ka := ka.alloc (.cells #[.int .i64 bn, .int .i64 bd] 23)
  have kb := Blk.new (w.alloc (.cells #[.int .i64 an, .int .i64 ad] 23)) (w.heap.size + 1) (by simp) 23 #[.int .i64 bn, .int .i64 bd]
  have bb := bb.alloc bb.size (.cells #[.int .i64 bn, .int .i64 bd] 23)
  have ca0 := ka.cell 0
  have ca1 := ka.cell 1
  have cb0 := kb.cell 0
  have cb1 := kb.cell 1
  simp only [List.getElem?_toArray, List.getElem?_cons_zero, List.getElem?_cons_succ] at ca0 ca1 cb0 cb1
  go_enter Try.func11, Try.ntmps11
  have ka := ka.alloc (.cells #[.int .i64 an, .int .i64 ad, .int .i64 bn, .int .i64 bd] 23)
  have kb := kb.alloc (.cells #[.int .i64 an, .int .i64 ad, .int .i64 bn, .int .i64 bd] 23)
  have bb := bb.alloc bb.size (.cells #[.int .i64 an, .int .i64 ad, .int .i64 bn, .int .i64 bd] 23)
  go_wp2_with fail
  refine (M1.out _ _ _ (by simp)).mono ?_
  rintro e w1 ⟨rfl, hb1⟩
  clear ca0 ca1 cb0 cb1
  have ka := ka.low hb1 ka.lt
  have kb := kb.low hb1 kb.lt
  have bb := bb.trans (hb1.mono bb.size)
  clear hb1
  have ka := ka.alloc (.cells #[.int .i64 x, .int .i64 y] 23)
  have kb := kb.alloc (.cells #[.int .i64 x, .int .i64 y] 23)
  have kp := Blk.new w1 (w1.heap.size) (by simp) 23 #[.int .i64 x, .int .i64 y]
  have bb := bb.alloc bb.size (.cells #[.int .i64 x, .int .i64 y] 23)
  have ca0 := ka.cell 0
  have ca1 := ka.cell 1
  have cb0 := kb.cell 0
  have cb1 := kb.cell 1
  have cp0 := kp.cell 0
  have cp1 := kp.cell 1
  simp only [List.getElem?_toArray, List.getElem?_cons_zero, List.getElem?_cons_succ] at ca0 ca1 cb0 cb1 cp0 cp1
  have ka := ka.alloc (.cells #[.int .i64 bn, .int .i64 bd, .int .i64 an, .int .i64 ad] 23)
  have kb := kb.alloc (.cells #[.int .i64 bn, .int .i64 bd, .int .i64 an, .int .i64 ad] 23)
  have kp := kp.alloc (.cells #[.int .i64 bn, .int .i64 bd, .int .i64 an, .int .i64 ad] 23)
  have bb := bb.alloc bb.size (.cells #[.int .i64 bn, .int .i64 bd, .int .i64 an, .int .i64 ad] 23)
  go_wp2_with fail
  refine (M2.out _ _ _ (by simp)).mono ?_
  rintro e w2 ⟨rfl, hb2⟩
  clear ca0 ca1 cb0 cb1 cp0 cp1
  have ka := ka.low hb2 ka.lt
  have kb := kb.low hb2 kb.lt
  have kp := kp.low hb2 kp.lt
  have bb := bb.trans (hb2.mono bb.size)
  clear hb2
  have ka := ka.alloc (.cells #[.int .i64 x, .int .i64 y] 23)
  have kb := kb.alloc (.cells #[.int .i64 x, .int .i64 y] 23)
  have kp := kp.alloc (.cells #[.int .i64 x, .int .i64 y] 23)
  have kq := Blk.new w2 (w2.heap.size) (by simp) 23 #[.int .i64 x, .int .i64 y]
  have bb := bb.alloc bb.size (.cells #[.int .i64 x, .int .i64 y] 23)
  have ca0 := ka.cell 0
  have ca1 := ka.cell 1
  have cb0 := kb.cell 0
  have cb1 := kb.cell 1
  have cp0 := kp.cell 0
  have cp1 := kp.cell 1
  have cq0 := kq.cell 0
  have cq1 := kq.cell 1
  simp only [List.getElem?_toArray, List.getElem?_cons_zero, List.getElem?_cons_succ] at ca0 ca1 cb0 cb1 cp0 cp1 cq0 cq1
  go_wp2_with fail
  refine (I1.out _).mono ?_
  rintro e w3 ⟨rfl, hb3⟩
  clear ca0 ca1 cb0 cb1 cp0 cp1 cq0 cq1
  have ka := ka.low hb3 ka.lt
  have kb := kb.low hb3 kb.lt
  have kp := kp.low hb3 kp.lt
  have kq := kq.low hb3 kq.lt
  have bb := bb.trans (hb3.mono bb.size)
  clear hb3
  have ka := ka.alloc (.cells #[.int .i64 iN, .int .i64 iD] 23)
  have kb := kb.alloc (.cells #[.int .i64 iN, .int .i64 iD] 23)
  have kp := kp.alloc (.cells #[.int .i64 iN, .int .i64 iD] 23)
  have kq := kq.alloc (.cells #[.int .i64 iN, .int .i64 iD] 23)
  have ki := Blk.new w3 (w3.heap.size) (by simp) 23 #[.int .i64 iN, .int .i64 iD]
  have bb := bb.alloc bb.size (.cells #[.int .i64 iN, .int .i64 iD] 23)
  have ca0 := ka.cell 0
  have ca1 := ka.cell 1
  have cb0 := kb.cell 0
  have cb1 := kb.cell 1
  have cp0 := kp.cell 0
  have cp1 := kp.cell 1
  have cq0 := kq.cell 0
  have cq1 := kq.cell 1
  have ci0 := ki.cell 0
  have ci1 := ki.cell 1
  simp only [List.getElem?_toArray, List.getElem?_cons_zero, List.getElem?_cons_succ] at ca0 ca1 cb0 cb1 cp0 cp1 cq0 cq1 ci0 ci1
  have ka := ka.alloc (.cells #[.int .i64 an, .int .i64 ad, .int .i64 iN, .int .i64 iD] 23)
  have kb := kb.alloc (.cells #[.int .i64 an, .int .i64 ad, .int .i64 iN, .int .i64 iD] 23)
  have kp := kp.alloc (.cells #[.int .i64 an, .int .i64 ad, .int .i64 iN, .int .i64 iD] 23)
  have kq := kq.alloc (.cells #[.int .i64 an, .int .i64 ad, .int .i64 iN, .int .i64 iD] 23)
  have ki := ki.alloc (.cells #[.int .i64 an, .int .i64 ad, .int .i64 iN, .int .i64 iD] 23)
  have bb := bb.alloc bb.size (.cells #[.int .i64 an, .int .i64 ad, .int .i64 iN, .int .i64 iD] 23)
  go_wp2_with fail
  refine (M3.out _ _ _ (by simp)).mono ?_
  rintro e w4 ⟨rfl, hb4⟩
  clear ca0 ca1 cb0 cb1 cp0 cp1 cq0 cq1 ci0 ci1
  have ka := ka.low hb4 ka.lt
  have kb := kb.low hb4 kb.lt
  have kp := kp.low hb4 kp.lt
  have kq := kq.low hb4 kq.lt
  have ki := ki.low hb4 ki.lt
  have bb := bb.trans (hb4.mono bb.size)
  clear hb4
  have ka := ka.alloc (.cells #[.int .i64 1, .int .i64 1] 23)
  have kb := kb.alloc (.cells #[.int .i64 1, .int .i64 1] 23)
  have kp := kp.alloc (.cells #[.int .i64 1, .int .i64 1] 23)
  have kq := kq.alloc (.cells #[.int .i64 1, .int .i64 1] 23)
  have ki := ki.alloc (.cells #[.int .i64 1, .int .i64 1] 23)
  have ko := Blk.new w4 (w4.heap.size) (by simp) 23 #[.int .i64 1, .int .i64 1]
  have bb := bb.alloc bb.size (.cells #[.int .i64 1, .int .i64 1] 23)
  have ca0 := ka.cell 0
  have ca1 := ka.cell 1
  have cb0 := kb.cell 0
  have cb1 := kb.cell 1
  have cp0 := kp.cell 0
  have cp1 := kp.cell 1
  have cq0 := kq.cell 0
  have cq1 := kq.cell 1
  have ci0 := ki.cell 0
  have ci1 := ki.cell 1
  have co0 := ko.cell 0
  have co1 := ko.cell 1
  simp only [List.getElem?_toArray, List.getElem?_cons_zero, List.getElem?_cons_succ] at ca0 ca1 cb0 cb1 cp0 cp1 cq0 cq1 ci0 ci1 co0 co1
  go_wp2_with fail
  refine (I2.out _).mono ?_
  rintro e w5 ⟨rfl, hb5⟩
  clear ca0 ca1 cb0 cb1 cp0 cp1 cq0 cq1 ci0 ci1 co0 co1
  have ka := ka.low hb5 ka.lt
  have kb := kb.low hb5 kb.lt
  have kp := kp.low hb5 kp.lt
  have kq := kq.low hb5 kq.lt
  have ki := ki.low hb5 ki.lt
  have ko := ko.low hb5 ko.lt
  have bb := bb.trans (hb5.mono bb.size)
  clear hb5
  have ka := ka.alloc (.cells #[.int .i64 an, .int .i64 ad] 23)
  have kb := kb.alloc (.cells #[.int .i64 an, .int .i64 ad] 23)
  have kp := kp.alloc (.cells #[.int .i64 an, .int .i64 ad] 23)
  have kq := kq.alloc (.cells #[.int .i64 an, .int .i64 ad] 23)
  have ki := ki.alloc (.cells #[.int .i64 an, .int .i64 ad] 23)
  have ko := ko.alloc (.cells #[.int .i64 an, .int .i64 ad] 23)
  have kk := Blk.new w5 (w5.heap.size) (by simp) 23 #[.int .i64 an, .int .i64 ad]
  have bb := bb.alloc bb.size (.cells #[.int .i64 an, .int .i64 ad] 23)
  have ca0 := ka.cell 0
  have ca1 := ka.cell 1
  have cb0 := kb.cell 0
  have cb1 := kb.cell 1
  have cp0 := kp.cell 0
  have cp1 := kp.cell 1
  have cq0 := kq.cell 0
  have cq1 := kq.cell 1
  have ci0 := ki.cell 0
  have ci1 := ki.cell 1
  have co0 := ko.cell 0
  have co1 := ko.cell 1
  have ck0 := kk.cell 0
  have ck1 := kk.cell 1
  simp only [List.getElem?_toArray, List.getElem?_cons_zero, List.getElem?_cons_succ] at ca0 ca1 cb0 cb1 cp0 cp1 cq0 cq1 ci0 ci1 co0 co1 ck0 ck1
  go_wp2_with fail
  refine (I3.out _).mono ?_
  rintro e w6 ⟨rfl, hb6⟩
  clear ca0 ca1 cb0 cb1 cp0 cp1 cq0 cq1 ci0 ci1 co0 co1 ck0 ck1
  have ka := ka.low hb6 ka.lt
  have kb := kb.low hb6 kb.lt
  have kp := kp.low hb6 kp.lt
  have kq := kq.low hb6 kq.lt
  have ki := ki.low hb6 ki.lt
  have ko := ko.low hb6 ko.lt
  have kk := kk.low hb6 kk.lt
  have bb := bb.trans (hb6.mono bb.size)
  clear hb6
  have ka := ka.alloc (.cells #[.int .i64 jn, .int .i64 jd] 23)
  have kb := kb.alloc (.cells #[.int .i64 jn, .int .i64 jd] 23)
  have kp := kp.alloc (.cells #[.int .i64 jn, .int .i64 jd] 23)
  have kq := kq.alloc (.cells #[.int .i64 jn, .int .i64 jd] 23)
  have ki := ki.alloc (.cells #[.int .i64 jn, .int .i64 jd] 23)
  have ko := ko.alloc (.cells #[.int .i64 jn, .int .i64 jd] 23)
  have kk := kk.alloc (.cells #[.int .i64 jn, .int .i64 jd] 23)
  have kj := Blk.new w6 (w6.heap.size) (by simp) 23 #[.int .i64 jn, .int .i64 jd]
  have bb := bb.alloc bb.size (.cells #[.int .i64 jn, .int .i64 jd] 23)
  have ca0 := ka.cell 0
  have ca1 := ka.cell 1
  have cb0 := kb.cell 0
  have cb1 := kb.cell 1
  have cp0 := kp.cell 0
  have cp1 := kp.cell 1
  have cq0 := kq.cell 0
  have cq1 := kq.cell 1
  have ci0 := ki.cell 0
  have ci1 := ki.cell 1
  have co0 := ko.cell 0
  have co1 := ko.cell 1
  have ck0 := kk.cell 0
  have ck1 := kk.cell 1
  have cj0 := kj.cell 0
  have cj1 := kj.cell 1
  simp only [List.getElem?_toArray, List.getElem?_cons_zero, List.getElem?_cons_succ] at ca0 ca1 cb0 cb1 cp0 cp1 cq0 cq1 ci0 ci1 co0 co1 ck0 ck1 cj0 cj1
  go_wp2_with fail
  refine (awake_any _).mono ?_
  rintro e w7 ⟨rfl, hb7⟩
  clear ca0 ca1 cb0 cb1 cp0 cp1 cq0 cq1 ci0 ci1 co0 co1 ck0 ck1 cj0 cj1
  have ka := ka.low hb7 ka.lt
  have kb := kb.low hb7 kb.lt
  have kp := kp.low hb7 kp.lt
  have kq := kq.low hb7 kq.lt
  have ki := ki.low hb7 ki.lt
  have ko := ko.low hb7 ko.lt
  have kk := kk.low hb7 kk.lt
  have kj := kj.low hb7 kj.lt
  have bb := bb.trans (hb7.mono bb.size)
  clear hb7
  go_wp2_with fail
  go_ret
  exact ⟨rfl, bb⟩

set_option maxRecDepth 100000 in
set_option maxHeartbeats 2000000 in
theorem turns_a (an ad bn bd x y er iN iD jn jd : Int) (w : World) (h2 : decide (an > 0) = false) (M1 : Hid (∀ (w : World) (b c : Nat), b = w.heap.size → Calls Try.prog 21 #[.slice (some ⟨b, 0, none⟩) 2 c] (w.alloc (.cells #[.int .i64 an, .int .i64 ad, .int .i64 bn, .int .i64 bd] 23)) fun e w' => e = .returned (.tuple #[.agg #[.int .i64 x, .int .i64 y], .int .i64 er]) ∧ Below (w.alloc (.cells #[.int .i64 an, .int .i64 ad, .int .i64 bn, .int .i64 bd] 23)).heap.size (w.alloc (.cells #[.int .i64 an, .int .i64 ad, .int .i64 bn, .int .i64 bd] 23)) w')) (M2 : Hid (∀ (w : World) (b c : Nat), b = w.heap.size → Calls Try.prog 21 #[.slice (some ⟨b, 0, none⟩) 2 c] (w.alloc (.cells #[.int .i64 bn, .int .i64 bd, .int .i64 an, .int .i64 ad] 23)) fun e w' => e = .returned (.tuple #[.agg #[.int .i64 x, .int .i64 y], .int .i64 er]) ∧ Below (w.alloc (.cells #[.int .i64 bn, .int .i64 bd, .int .i64 an, .int .i64 ad] 23)).heap.size (w.alloc (.cells #[.int .i64 bn, .int .i64 bd, .int .i64 an, .int .i64 ad] 23)) w')) (I1 : Hid (∀ w, Calls Try.prog 24 #[.agg #[.int .i64 an, .int .i64 ad]] w fun e w' => e = .returned (.tuple #[.agg #[.int .i64 iN, .int .i64 iD], .int .i64 0]) ∧ Below w.heap.size w w')) (M3 : Hid (∀ (w : World) (b c : Nat), b = w.heap.size → Calls Try.prog 21 #[.slice (some ⟨b, 0, none⟩) 2 c] (w.alloc (.cells #[.int .i64 an, .int .i64 ad, .int .i64 iN, .int .i64 iD] 23)) fun e w' => e = .returned (.tuple #[.agg #[.int .i64 1, .int .i64 1], .int .i64 0]) ∧ Below (w.alloc (.cells #[.int .i64 an, .int .i64 ad, .int .i64 iN, .int .i64 iD] 23)).heap.size (w.alloc (.cells #[.int .i64 an, .int .i64 ad, .int .i64 iN, .int .i64 iD] 23)) w')) (I2 : Hid (∀ w, Calls Try.prog 24 #[.agg #[.int .i64 iN, .int .i64 iD]] w fun e w' => e = .returned (.tuple #[.agg #[.int .i64 an, .int .i64 ad], .int .i64 0]) ∧ Below w.heap.size w w')) (I3 : Hid (∀ w, Calls Try.prog 24 #[.agg #[.int .i64 bn, .int .i64 bd]] w fun e w' => e = .returned (.tuple #[.agg #[.int .i64 jn, .int .i64 jd], .int .i64 0]) ∧ Below w.heap.size w w')) :
    Calls Try.prog 11 #[.agg #[.int .i64 an, .int .i64 ad], .agg #[.int .i64 bn, .int .i64 bd]] w fun e w' => e = .returned (.bool true) ∧ Below w.heap.size w w' := by
  have bb := Below.refl w.heap.size w
  have ka := Blk.new w (w.heap.size) (by simp) 23 #[.int .i64 an, .int .i64 ad]
  have bb := bb.alloc bb.size (.cells #[.int .i64 an, .int .i64 ad] 23)
  have ka := ka.alloc (.cells #[.int .i64 bn, .int .i64 bd] 23)
  have kb := Blk.new (w.alloc (.cells #[.int .i64 an, .int .i64 ad] 23)) (w.heap.size + 1) (by simp) 23 #[.int .i64 bn, .int .i64 bd]
  have bb := bb.alloc bb.size (.cells #[.int .i64 bn, .int .i64 bd] 23)
  have ca0 := ka.cell 0
  have ca1 := ka.cell 1
  have cb0 := kb.cell 0
  have cb1 := kb.cell 1
  simp only [List.getElem?_toArray, List.getElem?_cons_zero, List.getElem?_cons_succ] at ca0 ca1 cb0 cb1
  go_enter Try.func11, Try.ntmps11
  have ka := ka.alloc (.cells #[.int .i64 an, .int .i64 ad, .int .i64 bn, .int .i64 bd] 23)
  have kb := kb.alloc (.cells #[.int .i64 an, .int .i64 ad, .int .i64 bn, .int .i64 bd] 23)
  have bb := bb.alloc bb.size (.cells #[.int .i64 an, .int .i64 ad, .int .i64 bn, .int .i64 bd] 23)
  go_wp2_with fail
  refine (M1.out _ _ _ (by simp)).mono ?_
  rintro e w1 ⟨rfl, hb1⟩
  clear ca0 ca1 cb0 cb1
  have ka := ka.low hb1 ka.lt
  have kb := kb.low hb1 kb.lt
  have bb := bb.trans (hb1.mono bb.size)
  clear hb1
  have ka := ka.alloc (.cells #[.int .i64 x, .int .i64 y] 23)
  have kb := kb.alloc (.cells #[.int .i64 x, .int .i64 y] 23)
  have kp := Blk.new w1 (w1.heap.size) (by simp) 23 #[.int .i64 x, .int .i64 y]
  have bb := bb.alloc bb.size (.cells #[.int .i64 x, .int .i64 y] 23)
  have ca0 := ka.cell 0
  have ca1 := ka.cell 1
  have cb0 := kb.cell 0
  have cb1 := kb.cell 1
  have cp0 := kp.cell 0
  have cp1 := kp.cell 1
  simp only [List.getElem?_toArray, List.getElem?_cons_zero, List.getElem?_cons_succ] at ca0 ca1 cb0 cb1 cp0 cp1
  have ka := ka.alloc (.cells #[.int .i64 bn, .int .i64 bd, .int .i64 an, .int .i64 ad] 23)
  have kb := kb.alloc (.cells #[.int .i64 bn, .int .i64 bd, .int .i64 an, .int .i64 ad] 23)
  have kp := kp.alloc (.cells #[.int .i64 bn, .int .i64 bd, .int .i64 an, .int .i64 ad] 23)
  have bb := bb.alloc bb.size (.cells #[.int .i64 bn, .int .i64 bd, .int .i64 an, .int .i64 ad] 23)
  go_wp2_with fail
  refine (M2.out _ _ _ (by simp)).mono ?_
  rintro e w2 ⟨rfl, hb2⟩
  clear ca0 ca1 cb0 cb1 cp0 cp1
  have ka := ka.low hb2 ka.lt
  have kb := kb.low hb2 kb.lt
  have kp := kp.low hb2 kp.lt
  have bb := bb.trans (hb2.mono bb.size)
  clear hb2
  have ka := ka.alloc (.cells #[.int .i64 x, .int .i64 y] 23)
  have kb := kb.alloc (.cells #[.int .i64 x, .int .i64 y] 23)
  have kp := kp.alloc (.cells #[.int .i64 x, .int .i64 y] 23)
  have kq := Blk.new w2 (w2.heap.size) (by simp) 23 #[.int .i64 x, .int .i64 y]
  have bb := bb.alloc bb.size (.cells #[.int .i64 x, .int .i64 y] 23)
  have ca0 := ka.cell 0
  have ca1 := ka.cell 1
  have cb0 := kb.cell 0
  have cb1 := kb.cell 1
  have cp0 := kp.cell 0
  have cp1 := kp.cell 1
  have cq0 := kq.cell 0
  have cq1 := kq.cell 1
  simp only [List.getElem?_toArray, List.getElem?_cons_zero, List.getElem?_cons_succ] at ca0 ca1 cb0 cb1 cp0 cp1 cq0 cq1
  go_wp2_with fail
  refine (I1.out _).mono ?_
  rintro e w3 ⟨rfl, hb3⟩
  clear ca0 ca1 cb0 cb1 cp0 cp1 cq0 cq1
  have ka := ka.low hb3 ka.lt
  have kb := kb.low hb3 kb.lt
  have kp := kp.low hb3 kp.lt
  have kq := kq.low hb3 kq.lt
  have bb := bb.trans (hb3.mono bb.size)
  clear hb3
  have ka := ka.alloc (.cells #[.int .i64 iN, .int .i64 iD] 23)
  have kb := kb.alloc (.cells #[.int .i64 iN, .int .i64 iD] 23)
  have kp := kp.alloc (.cells #[.int .i64 iN, .int .i64 iD] 23)
  have kq := kq.alloc (.cells #[.int .i64 iN, .int .i64 iD] 23)
  have ki := Blk.new w3 (w3.heap.size) (by simp) 23 #[.int .i64 iN, .int .i64 iD]
  have bb := bb.alloc bb.size (.cells #[.int .i64 iN, .int .i64 iD] 23)
  have ca0 := ka.cell 0
  have ca1 := ka.cell 1
  have cb0 := kb.cell 0
  have cb1 := kb.cell 1
  have cp0 := kp.cell 0
  have cp1 := kp.cell 1
  have cq0 := kq.cell 0
  have cq1 := kq.cell 1
  have ci0 := ki.cell 0
  have ci1 := ki.cell 1
  simp only [List.getElem?_toArray, List.getElem?_cons_zero, List.getElem?_cons_succ] at ca0 ca1 cb0 cb1 cp0 cp1 cq0 cq1 ci0 ci1
  have ka := ka.alloc (.cells #[.int .i64 an, .int .i64 ad, .int .i64 iN, .int .i64 iD] 23)
  have kb := kb.alloc (.cells #[.int .i64 an, .int .i64 ad, .int .i64 iN, .int .i64 iD] 23)
  have kp := kp.alloc (.cells #[.int .i64 an, .int .i64 ad, .int .i64 iN, .int .i64 iD] 23)
  have kq := kq.alloc (.cells #[.int .i64 an, .int .i64 ad, .int .i64 iN, .int .i64 iD] 23)
  have ki := ki.alloc (.cells #[.int .i64 an, .int .i64 ad, .int .i64 iN, .int .i64 iD] 23)
  have bb := bb.alloc bb.size (.cells #[.int .i64 an, .int .i64 ad, .int .i64 iN, .int .i64 iD] 23)
  go_wp2_with fail
  refine (M3.out _ _ _ (by simp)).mono ?_
  rintro e w4 ⟨rfl, hb4⟩
  clear ca0 ca1 cb0 cb1 cp0 cp1 cq0 cq1 ci0 ci1
  have ka := ka.low hb4 ka.lt
  have kb := kb.low hb4 kb.lt
  have kp := kp.low hb4 kp.lt
  have kq := kq.low hb4 kq.lt
  have ki := ki.low hb4 ki.lt
  have bb := bb.trans (hb4.mono bb.size)
  clear hb4
  have ka := ka.alloc (.cells #[.int .i64 1, .int .i64 1] 23)
  have kb := kb.alloc (.cells #[.int .i64 1, .int .i64 1] 23)
  have kp := kp.alloc (.cells #[.int .i64 1, .int .i64 1] 23)
  have kq := kq.alloc (.cells #[.int .i64 1, .int .i64 1] 23)
  have ki := ki.alloc (.cells #[.int .i64 1, .int .i64 1] 23)
  have ko := Blk.new w4 (w4.heap.size) (by simp) 23 #[.int .i64 1, .int .i64 1]
  have bb := bb.alloc bb.size (.cells #[.int .i64 1, .int .i64 1] 23)
  have ca0 := ka.cell 0
  have ca1 := ka.cell 1
  have cb0 := kb.cell 0
  have cb1 := kb.cell 1
  have cp0 := kp.cell 0
  have cp1 := kp.cell 1
  have cq0 := kq.cell 0
  have cq1 := kq.cell 1
  have ci0 := ki.cell 0
  have ci1 := ki.cell 1
  have co0 := ko.cell 0
  have co1 := ko.cell 1
  simp only [List.getElem?_toArray, List.getElem?_cons_zero, List.getElem?_cons_succ] at ca0 ca1 cb0 cb1 cp0 cp1 cq0 cq1 ci0 ci1 co0 co1
  go_wp2_with fail
  refine (I2.out _).mono ?_
  rintro e w5 ⟨rfl, hb5⟩
  clear ca0 ca1 cb0 cb1 cp0 cp1 cq0 cq1 ci0 ci1 co0 co1
  have ka := ka.low hb5 ka.lt
  have kb := kb.low hb5 kb.lt
  have kp := kp.low hb5 kp.lt
  have kq := kq.low hb5 kq.lt
  have ki := ki.low hb5 ki.lt
  have ko := ko.low hb5 ko.lt
  have bb := bb.trans (hb5.mono bb.size)
  clear hb5
  have ka := ka.alloc (.cells #[.int .i64 an, .int .i64 ad] 23)
  have kb := kb.alloc (.cells #[.int .i64 an, .int .i64 ad] 23)
  have kp := kp.alloc (.cells #[.int .i64 an, .int .i64 ad] 23)
  have kq := kq.alloc (.cells #[.int .i64 an, .int .i64 ad] 23)
  have ki := ki.alloc (.cells #[.int .i64 an, .int .i64 ad] 23)
  have ko := ko.alloc (.cells #[.int .i64 an, .int .i64 ad] 23)
  have kk := Blk.new w5 (w5.heap.size) (by simp) 23 #[.int .i64 an, .int .i64 ad]
  have bb := bb.alloc bb.size (.cells #[.int .i64 an, .int .i64 ad] 23)
  have ca0 := ka.cell 0
  have ca1 := ka.cell 1
  have cb0 := kb.cell 0
  have cb1 := kb.cell 1
  have cp0 := kp.cell 0
  have cp1 := kp.cell 1
  have cq0 := kq.cell 0
  have cq1 := kq.cell 1
  have ci0 := ki.cell 0
  have ci1 := ki.cell 1
  have co0 := ko.cell 0
  have co1 := ko.cell 1
  have ck0 := kk.cell 0
  have ck1 := kk.cell 1
  simp only [List.getElem?_toArray, List.getElem?_cons_zero, List.getElem?_cons_succ] at ca0 ca1 cb0 cb1 cp0 cp1 cq0 cq1 ci0 ci1 co0 co1 ck0 ck1
  go_wp2_with fail
  refine (I3.out _).mono ?_
  rintro e w6 ⟨rfl, hb6⟩
  clear ca0 ca1 cb0 cb1 cp0 cp1 cq0 cq1 ci0 ci1 co0 co1 ck0 ck1
  have ka := ka.low hb6 ka.lt
  have kb := kb.low hb6 kb.lt
  have kp := kp.low hb6 kp.lt
  have kq := kq.low hb6 kq.lt
  have ki := ki.low hb6 ki.lt
  have ko := ko.low hb6 ko.lt
  have kk := kk.low hb6 kk.lt
  have bb := bb.trans (hb6.mono bb.size)
  clear hb6
  have ka := ka.alloc (.cells #[.int .i64 jn, .int .i64 jd] 23)
  have kb := kb.alloc (.cells #[.int .i64 jn, .int .i64 jd] 23)
  have kp := kp.alloc (.cells #[.int .i64 jn, .int .i64 jd] 23)
  have kq := kq.alloc (.cells #[.int .i64 jn, .int .i64 jd] 23)
  have ki := ki.alloc (.cells #[.int .i64 jn, .int .i64 jd] 23)
  have ko := ko.alloc (.cells #[.int .i64 jn, .int .i64 jd] 23)
  have kk := kk.alloc (.cells #[.int .i64 jn, .int .i64 jd] 23)
  have kj := Blk.new w6 (w6.heap.size) (by simp) 23 #[.int .i64 jn, .int .i64 jd]
  have bb := bb.alloc bb.size (.cells #[.int .i64 jn, .int .i64 jd] 23)
  have ca0 := ka.cell 0
  have ca1 := ka.cell 1
  have cb0 := kb.cell 0
  have cb1 := kb.cell 1
  have cp0 := kp.cell 0
  have cp1 := kp.cell 1
  have cq0 := kq.cell 0
  have cq1 := kq.cell 1
  have ci0 := ki.cell 0
  have ci1 := ki.cell 1
  have co0 := ko.cell 0
  have co1 := ko.cell 1
  have ck0 := kk.cell 0
  have ck1 := kk.cell 1
  have cj0 := kj.cell 0
  have cj1 := kj.cell 1
  simp only [List.getElem?_toArray, List.getElem?_cons_zero, List.getElem?_cons_succ] at ca0 ca1 cb0 cb1 cp0 cp1 cq0 cq1 ci0 ci1 co0 co1 ck0 ck1 cj0 cj1
  go_wp2_with fail
  refine (awake_any _).mono ?_
  rintro e w7 ⟨rfl, hb7⟩
  clear ca0 ca1 cb0 cb1 cp0 cp1 cq0 cq1 ci0 ci1 co0 co1 ck0 ck1 cj0 cj1
  have ka := ka.low hb7 ka.lt
  have kb := kb.low hb7 kb.lt
  have kp := kp.low hb7 kp.lt
  have kq := kq.low hb7 kq.lt
  have ki := ki.low hb7 ki.lt
  have ko := ko.low hb7 ko.lt
  have kk := kk.low hb7 kk.lt
  have kj := kj.low hb7 kj.lt
  have bb := bb.trans (hb7.mono bb.size)
  clear hb7
  go_wp2_with fail
  go_ret
  exact ⟨rfl, bb⟩

set_option maxRecDepth 100000 in
set_option maxHeartbeats 2000000 in
theorem turns_b (an ad bn bd x y er iN iD jn jd : Int) (w : World) (h2 : decide (an > 0) = true) (h3 : decide (bn > 0) = false) (M1 : Hid (∀ (w : World) (b c : Nat), b = w.heap.size → Calls Try.prog 21 #[.slice (some ⟨b, 0, none⟩) 2 c] (w.alloc (.cells #[.int .i64 an, .int .i64 ad, .int .i64 bn, .int .i64 bd] 23)) fun e w' => e = .returned (.tuple #[.agg #[.int .i64 x, .int .i64 y], .int .i64 er]) ∧ Below (w.alloc (.cells #[.int .i64 an, .int .i64 ad, .int .i64 bn, .int .i64 bd] 23)).heap.size (w.alloc (.cells #[.int .i64 an, .int .i64 ad, .int .i64 bn, .int .i64 bd] 23)) w')) (M2 : Hid (∀ (w : World) (b c : Nat), b = w.heap.size → Calls Try.prog 21 #[.slice (some ⟨b, 0, none⟩) 2 c] (w.alloc (.cells #[.int .i64 bn, .int .i64 bd, .int .i64 an, .int .i64 ad] 23)) fun e w' => e = .returned (.tuple #[.agg #[.int .i64 x, .int .i64 y], .int .i64 er]) ∧ Below (w.alloc (.cells #[.int .i64 bn, .int .i64 bd, .int .i64 an, .int .i64 ad] 23)).heap.size (w.alloc (.cells #[.int .i64 bn, .int .i64 bd, .int .i64 an, .int .i64 ad] 23)) w')) (I1 : Hid (∀ w, Calls Try.prog 24 #[.agg #[.int .i64 an, .int .i64 ad]] w fun e w' => e = .returned (.tuple #[.agg #[.int .i64 iN, .int .i64 iD], .int .i64 0]) ∧ Below w.heap.size w w')) (M3 : Hid (∀ (w : World) (b c : Nat), b = w.heap.size → Calls Try.prog 21 #[.slice (some ⟨b, 0, none⟩) 2 c] (w.alloc (.cells #[.int .i64 an, .int .i64 ad, .int .i64 iN, .int .i64 iD] 23)) fun e w' => e = .returned (.tuple #[.agg #[.int .i64 1, .int .i64 1], .int .i64 0]) ∧ Below (w.alloc (.cells #[.int .i64 an, .int .i64 ad, .int .i64 iN, .int .i64 iD] 23)).heap.size (w.alloc (.cells #[.int .i64 an, .int .i64 ad, .int .i64 iN, .int .i64 iD] 23)) w')) (I2 : Hid (∀ w, Calls Try.prog 24 #[.agg #[.int .i64 iN, .int .i64 iD]] w fun e w' => e = .returned (.tuple #[.agg #[.int .i64 an, .int .i64 ad], .int .i64 0]) ∧ Below w.heap.size w w')) (I3 : Hid (∀ w, Calls Try.prog 24 #[.agg #[.int .i64 bn, .int .i64 bd]] w fun e w' => e = .returned (.tuple #[.agg #[.int .i64 jn, .int .i64 jd], .int .i64 0]) ∧ Below w.heap.size w w')) :
    Calls Try.prog 11 #[.agg #[.int .i64 an, .int .i64 ad], .agg #[.int .i64 bn, .int .i64 bd]] w fun e w' => e = .returned (.bool true) ∧ Below w.heap.size w w' := by
  have bb := Below.refl w.heap.size w
  have ka := Blk.new w (w.heap.size) (by simp) 23 #[.int .i64 an, .int .i64 ad]
  have bb := bb.alloc bb.size (.cells #[.int .i64 an, .int .i64 ad] 23)
  have ka := ka.alloc (.cells #[.int .i64 bn, .int .i64 bd] 23)
  have kb := Blk.new (w.alloc (.cells #[.int .i64 an, .int .i64 ad] 23)) (w.heap.size + 1) (by simp) 23 #[.int .i64 bn, .int .i64 bd]
  have bb := bb.alloc bb.size (.cells #[.int .i64 bn, .int .i64 bd] 23)
  have ca0 := ka.cell 0
  have ca1 := ka.cell 1
  have cb0 := kb.cell 0
  have cb1 := kb.cell 1
  simp only [List.getElem?_toArray, List.getElem?_cons_zero, List.getElem?_cons_succ] at ca0 ca1 cb0 cb1
  go_enter Try.func11, Try.ntmps11
  have ka := ka.alloc (.cells #[.int .i64 an, .int .i64 ad, .int .i64 bn, .int .i64 bd] 23)
  have kb := kb.alloc (.cells #[.int .i64 an, .int .i64 ad, .int .i64 bn, .int .i64 bd] 23)
  have bb := bb.alloc bb.size (.cells #[.int .i64 an, .int .i64 ad, .int .i64 bn, .int .i64 bd] 23)
  go_wp2_with fail
  refine (M1.out _ _ _ (by simp)).mono ?_
  rintro e w1 ⟨rfl, hb1⟩
  clear ca0 ca1 cb0 cb1
  have ka := ka.low hb1 ka.lt
  have kb := kb.low hb1 kb.lt
  have bb := bb.trans (hb1.mono bb.size)
  clear hb1
  have ka := ka.alloc (.cells #[.int .i64 x, .int .i64 y] 23)
  have kb := kb.alloc (.cells #[.int .i64 x, .int .i64 y] 23)
  have kp := Blk.new w1 (w1.heap.size) (by simp) 23 #[.int .i64 x, .int .i64 y]
  have bb := bb.alloc bb.size (.cells #[.int .i64 x, .int .i64 y] 23)
  have ca0 := ka.cell 0
  have ca1 := ka.cell 1
  have cb0 := kb.cell 0
  have cb1 := kb.cell 1
  have cp0 := kp.cell 0
  have cp1 := kp.cell 1
  simp only [List.getElem?_toArray, List.getElem?_cons_zero, List.getElem?_cons_succ] at ca0 ca1 cb0 cb1 cp0 cp1
  have ka := ka.alloc (.cells #[.int .i64 bn, .int .i64 bd, .int .i64 an, .int .i64 ad] 23)
  have kb := kb.alloc (.cells #[.int .i64 bn, .int .i64 bd, .int .i64 an, .int .i64 ad] 23)
  have kp := kp.alloc (.cells #[.int .i64 bn, .int .i64 bd, .int .i64 an, .int .i64 ad] 23)
  have bb := bb.alloc bb.size (.cells #[.int .i64 bn, .int .i64 bd, .int .i64 an, .int .i64 ad] 23)
  go_wp2_with fail
  refine (M2.out _ _ _ (by simp)).mono ?_
  rintro e w2 ⟨rfl, hb2⟩
  clear ca0 ca1 cb0 cb1 cp0 cp1
  have ka := ka.low hb2 ka.lt
  have kb := kb.low hb2 kb.lt
  have kp := kp.low hb2 kp.lt
  have bb := bb.trans (hb2.mono bb.size)
  clear hb2
  have ka := ka.alloc (.cells #[.int .i64 x, .int .i64 y] 23)
  have kb := kb.alloc (.cells #[.int .i64 x, .int .i64 y] 23)
  have kp := kp.alloc (.cells #[.int .i64 x, .int .i64 y] 23)
  have kq := Blk.new w2 (w2.heap.size) (by simp) 23 #[.int .i64 x, .int .i64 y]
  have bb := bb.alloc bb.size (.cells #[.int .i64 x, .int .i64 y] 23)
  have ca0 := ka.cell 0
  have ca1 := ka.cell 1
  have cb0 := kb.cell 0
  have cb1 := kb.cell 1
  have cp0 := kp.cell 0
  have cp1 := kp.cell 1
  have cq0 := kq.cell 0
  have cq1 := kq.cell 1
  simp only [List.getElem?_toArray, List.getElem?_cons_zero, List.getElem?_cons_succ] at ca0 ca1 cb0 cb1 cp0 cp1 cq0 cq1
  go_wp2_with fail
  refine (I1.out _).mono ?_
  rintro e w3 ⟨rfl, hb3⟩
  clear ca0 ca1 cb0 cb1 cp0 cp1 cq0 cq1
  have ka := ka.low hb3 ka.lt
  have kb := kb.low hb3 kb.lt
  have kp := kp.low hb3 kp.lt
  have kq := kq.low hb3 kq.lt
  have bb := bb.trans (hb3.mono bb.size)
  clear hb3
  have ka := ka.alloc (.cells #[.int .i64 iN, .int .i64 iD] 23)
  have kb := kb.alloc (.cells #[.int .i64 iN, .int .i64 iD] 23)
  have kp := kp.alloc (.cells #[.int .i64 iN, .int .i64 iD] 23)
  have kq := kq.alloc (.cells #[.int .i64 iN, .int .i64 iD] 23)
  have ki := Blk.new w3 (w3.heap.size) (by simp) 23 #[.int .i64 iN, .int .i64 iD]
  have bb := bb.alloc bb.size (.cells #[.int .i64 iN, .int .i64 iD] 23)
  have ca0 := ka.cell 0
  have ca1 := ka.cell 1
  have cb0 := kb.cell 0
  have cb1 := kb.cell 1
  have cp0 := kp.cell 0
  have cp1 := kp.cell 1
  have cq0 := kq.cell 0
  have cq1 := kq.cell 1
  have ci0 := ki.cell 0
  have ci1 := ki.cell 1
  simp only [List.getElem?_toArray, List.getElem?_cons_zero, List.getElem?_cons_succ] at ca0 ca1 cb0 cb1 cp0 cp1 cq0 cq1 ci0 ci1
  have ka := ka.alloc (.cells #[.int .i64 an, .int .i64 ad, .int .i64 iN, .int .i64 iD] 23)
  have kb := kb.alloc (.cells #[.int .i64 an, .int .i64 ad, .int .i64 iN, .int .i64 iD] 23)
  have kp := kp.alloc (.cells #[.int .i64 an, .int .i64 ad, .int .i64 iN, .int .i64 iD] 23)
  have kq := kq.alloc (.cells #[.int .i64 an, .int .i64 ad, .int .i64 iN, .int .i64 iD] 23)
  have ki := ki.alloc (.cells #[.int .i64 an, .int .i64 ad, .int .i64 iN, .int .i64 iD] 23)
  have bb := bb.alloc bb.size (.cells #[.int .i64 an, .int .i64 ad, .int .i64 iN, .int .i64 iD] 23)
  go_wp2_with fail
  refine (M3.out _ _ _ (by simp)).mono ?_
  rintro e w4 ⟨rfl, hb4⟩
  clear ca0 ca1 cb0 cb1 cp0 cp1 cq0 cq1 ci0 ci1
  have ka := ka.low hb4 ka.lt
  have kb := kb.low hb4 kb.lt
  have kp := kp.low hb4 kp.lt
  have kq := kq.low hb4 kq.lt
  have ki := ki.low hb4 ki.lt
  have bb := bb.trans (hb4.mono bb.size)
  clear hb4
  have ka := ka.alloc (.cells #[.int .i64 1, .int .i64 1] 23)
  have kb := kb.alloc (.cells #[.int .i64 1, .int .i64 1] 23)
  have kp := kp.alloc (.cells #[.int .i64 1, .int .i64 1] 23)
  have kq := kq.alloc (.cells #[.int .i64 1, .int .i64 1] 23)
  have ki := ki.alloc (.cells #[.int .i64 1, .int .i64 1] 23)
  have ko := Blk.new w4 (w4.heap.size) (by simp) 23 #[.int .i64 1, .int .i64 1]
  have bb := bb.alloc bb.size (.cells #[.int .i64 1, .int .i64 1] 23)
  have ca0 := ka.cell 0
  have ca1 := ka.cell 1
  have cb0 := kb.cell 0
  have cb1 := kb.cell 1
  have cp0 := kp.cell 0
  have cp1 := kp.cell 1
  have cq0 := kq.cell 0
  have cq1 := kq.cell 1
  have ci0 := ki.cell 0
  have ci1 := ki.cell 1
  have co0 := ko.cell 0
  have co1 := ko.cell 1
  simp only [List.getElem?_toArray, List.getElem?_cons_zero, List.getElem?_cons_succ] at ca0 ca1 cb0 cb1 cp0 cp1 cq0 cq1 ci0 ci1 co0 co1
  go_wp2_with fail
  refine (I2.out _).mono ?_
  rintro e w5 ⟨rfl, hb5⟩
  clear ca0 ca1 cb0 cb1 cp0 cp1 cq0 cq1 ci0 ci1 co0 co1
  have ka := ka.low hb5 ka.lt
  have kb := kb.low hb5 kb.lt
  have kp := kp.low hb5 kp.lt
  have kq := kq.low hb5 kq.lt
  have ki := ki.low hb5 ki.lt
  have ko := ko.low hb5 ko.lt
  have bb := bb.trans (hb5.mono bb.size)
  clear hb5
  have ka := ka.alloc (.cells #[.int .i64 an, .int .i64 ad] 23)
  have kb := kb.alloc (.cells #[.int .i64 an, .int .i64 ad] 23)
  have kp := kp.alloc (.cells #[.int .i64 an, .int .i64 ad] 23)
  have kq := kq.alloc (.cells #[.int .i64 an, .int .i64 ad] 23)
  have ki := ki.alloc (.cells #[.int .i64 an, .int .i64 ad] 23)
  have ko := ko.alloc (.cells #[.int .i64 an, .int .i64 ad] 23)
  have kk := Blk.new w5 (w5.heap.size) (by simp) 23 #[.int .i64 an, .int .i64 ad]
  have bb := bb.alloc bb.size (.cells #[.int .i64 an, .int .i64 ad] 23)
  have ca0 := ka.cell 0
  have ca1 := ka.cell 1
  have cb0 := kb.cell 0
  have cb1 := kb.cell 1
  have cp0 := kp.cell 0
  have cp1 := kp.cell 1
  have cq0 := kq.cell 0
  have cq1 := kq.cell 1
  have ci0 := ki.cell 0
  have ci1 := ki.cell 1
  have co0 := ko.cell 0
  have co1 := ko.cell 1
  have ck0 := kk.cell 0
  have ck1 := kk.cell 1
  simp only [List.getElem?_toArray, List.getElem?_cons_zero, List.getElem?_cons_succ] at ca0 ca1 cb0 cb1 cp0 cp1 cq0 cq1 ci0 ci1 co0 co1 ck0 ck1
  go_wp2_with fail
  refine (I3.out _).mono ?_
  rintro e w6 ⟨rfl, hb6⟩
  clear ca0 ca1 cb0 cb1 cp0 cp1 cq0 cq1 ci0 ci1 co0 co1 ck0 ck1
  have ka := ka.low hb6 ka.lt
  have kb := kb.low hb6 kb.lt
  have kp := kp.low hb6 kp.lt
  have kq := kq.low hb6 kq.lt
  have ki := ki.low hb6 ki.lt
  have ko := ko.low hb6 ko.lt
  have kk := kk.low hb6 kk.lt
  have bb := bb.trans (hb6.mono bb.size)
  clear hb6
  have ka := ka.alloc (.cells #[.int .i64 jn, .int .i64 jd] 23)
  have kb := kb.alloc (.cells #[.int .i64 jn, .int .i64 jd] 23)
  have kp := kp.alloc (.cells #[.int .i64 jn, .int .i64 jd] 23)
  have kq := kq.alloc (.cells #[.int .i64 jn, .int .i64 jd] 23)
  have ki := ki.alloc (.cells #[.int .i64 jn, .int .i64 jd] 23)
  have ko := ko.alloc (.cells #[.int .i64 jn, .int .i64 jd] 23)
  have kk := kk.alloc (.cells #[.int .i64 jn, .int .i64 jd] 23)
  have kj := Blk.new w6 (w6.heap.size) (by simp) 23 #[.int .i64 jn, .int .i64 jd]
  have bb := bb.alloc bb.size (.cells #[.int .i64 jn, .int .i64 jd] 23)
  have ca0 := ka.cell 0
  have ca1 := ka.cell 1
  have cb0 := kb.cell 0
  have cb1 := kb.cell 1
  have cp0 := kp.cell 0
  have cp1 := kp.cell 1
  have cq0 := kq.cell 0
  have cq1 := kq.cell 1
  have ci0 := ki.cell 0
  have ci1 := ki.cell 1
  have co0 := ko.cell 0
  have co1 := ko.cell 1
  have ck0 := kk.cell 0
  have ck1 := kk.cell 1
  have cj0 := kj.cell 0
  have cj1 := kj.cell 1
  simp only [List.getElem?_toArray, List.getElem?_cons_zero, List.getElem?_cons_succ] at ca0 ca1 cb0 cb1 cp0 cp1 cq0 cq1 ci0 ci1 co0 co1 ck0 ck1 cj0 cj1
  go_wp2_with fail
  refine (awake_any _).mono ?_
  rintro e w7 ⟨rfl, hb7⟩
  clear ca0 ca1 cb0 cb1 cp0 cp1 cq0 cq1 ci0 ci1 co0 co1 ck0 ck1 cj0 cj1
  have ka := ka.low hb7 ka.lt
  have kb := kb.low hb7 kb.lt
  have kp := kp.low hb7 kp.lt
  have kq := kq.low hb7 kq.lt
  have ki := ki.low hb7 ki.lt
  have ko := ko.low hb7 ko.lt
  have kk := kk.low hb7 kk.lt
  have kj := kj.low hb7 kj.lt
  have bb := bb.trans (hb7.mono bb.size)
  clear hb7
  go_wp2_with fail
  go_ret
  exact ⟨rfl, bb⟩

set_option maxRecDepth 100000 in
set_option maxHeartbeats 2000000 in
theorem turns_c (an ad bn bd x y er iN iD jn jd c : Int) (w : World) (h2 : decide (an > 0) = true) (h3 : decide (bn > 0) = true) (M1 : Hid (∀ (w : World) (b c : Nat), b = w.heap.size → Calls Try.prog 21 #[.slice (some ⟨b, 0, none⟩) 2 c] (w.alloc (.cells #[.int .i64 an, .int .i64 ad, .int .i64 bn, .int .i64 bd] 23)) fun e w' => e = .returned (.tuple #[.agg #[.int .i64 x, .int .i64 y], .int .i64 er]) ∧ Below (w.alloc (.cells #[.int .i64 an, .int .i64 ad, .int .i64 bn, .int .i64 bd] 23)).heap.size (w.alloc (.cells #[.int .i64 an, .int .i64 ad, .int .i64 bn, .int .i64 bd] 23)) w')) (M2 : Hid (∀ (w : World) (b c : Nat), b = w.heap.size → Calls Try.prog 21 #[.slice (some ⟨b, 0, none⟩) 2 c] (w.alloc (.cells #[.int .i64 bn, .int .i64 bd, .int .i64 an, .int .i64 ad] 23)) fun e w' => e = .returned (.tuple #[.agg #[.int .i64 x, .int .i64 y], .int .i64 er]) ∧ Below (w.alloc (.cells #[.int .i64 bn, .int .i64 bd, .int .i64 an, .int .i64 ad] 23)).heap.size (w.alloc (.cells #[.int .i64 bn, .int .i64 bd, .int .i64 an, .int .i64 ad] 23)) w')) (I1 : Hid (∀ w, Calls Try.prog 24 #[.agg #[.int .i64 an, .int .i64 ad]] w fun e w' => e = .returned (.tuple #[.agg #[.int .i64 iN, .int .i64 iD], .int .i64 0]) ∧ Below w.heap.size w w')) (M3 : Hid (∀ (w : World) (b c : Nat), b = w.heap.size → Calls Try.prog 21 #[.slice (some ⟨b, 0, none⟩) 2 c] (w.alloc (.cells #[.int .i64 an, .int .i64 ad, .int .i64 iN, .int .i64 iD] 23)) fun e w' => e = .returned (.tuple #[.agg #[.int .i64 1, .int .i64 1], .int .i64 0]) ∧ Below (w.alloc (.cells #[.int .i64 an, .int .i64 ad, .int .i64 iN, .int .i64 iD] 23)).heap.size (w.alloc (.cells #[.int .i64 an, .int .i64 ad, .int .i64 iN, .int .i64 iD] 23)) w')) (I2 : Hid (∀ w, Calls Try.prog 24 #[.agg #[.int .i64 iN, .int .i64 iD]] w fun e w' => e = .returned (.tuple #[.agg #[.int .i64 an, .int .i64 ad], .int .i64 0]) ∧ Below w.heap.size w w')) (I3 : Hid (∀ w, Calls Try.prog 24 #[.agg #[.int .i64 bn, .int .i64 bd]] w fun e w' => e = .returned (.tuple #[.agg #[.int .i64 jn, .int .i64 jd], .int .i64 0]) ∧ Below w.heap.size w w')) (C1 : Hid (∀ w, Calls Try.prog 26 #[.agg #[.int .i64 an, .int .i64 ad], .agg #[.int .i64 bn, .int .i64 bd]] w fun e w' => e = .returned (.tuple #[.int .i64 c, .int .i64 0]) ∧ Below w.heap.size w w')) (C2 : Hid (∀ w, Calls Try.prog 26 #[.agg #[.int .i64 jn, .int .i64 jd], .agg #[.int .i64 iN, .int .i64 iD]] w fun e w' => e = .returned (.tuple #[.int .i64 c, .int .i64 0]) ∧ Below w.heap.size w w')) :
    Calls Try.prog 11 #[.agg #[.int .i64 an, .int .i64 ad], .agg #[.int .i64 bn, .int .i64 bd]] w fun e w' => e = .returned (.bool true) ∧ Below w.heap.size w w' := by
  have bb := Below.refl w.heap.size w
  have ka := Blk.new w (w.heap.size) (by simp) 23 #[.int .i64 an, .int .i64 ad]
  have bb := bb.alloc bb.size (.cells #[.int .i64 an, .int .i64 ad] 23)
  have ka := ka.alloc (.cells #[.int .i64 bn, .int .i64 bd] 23)
  have kb := Blk.new (w.alloc (.cells #[.int .i64 an, .int .i64 ad] 23)) (w.heap.size + 1) (by simp) 23 #[.int .i64 bn, .int .i64 bd]
  have bb := bb.alloc bb.size (.cells #[.int .i64 bn, .int .i64 bd] 23)
  have ca0 := ka.cell 0
  have ca1 := ka.cell 1
  have cb0 := kb.cell 0
  have cb1 := kb.cell 1
  simp only [List.getElem?_toArray, List.getElem?_cons_zero, List.getElem?_cons_succ] at ca0 ca1 cb0 cb1
  go_enter Try.func11, Try.ntmps11
  have ka := ka.alloc (.cells #[.int .i64 an, .int .i64 ad, .int .i64 bn, .int .i64 bd] 23)
  have kb := kb.alloc (.cells #[.int .i64 an, .int .i64 ad, .int .i64 bn, .int .i64 bd] 23)
  have bb := bb.alloc bb.size (.cells #[.int .i64 an, .int .i64 ad, .int .i64 bn, .int .i64 bd] 23)
  go_wp2_with fail
  refine (M1.out _ _ _ (by simp)).mono ?_
  rintro e w1 ⟨rfl, hb1⟩
  clear ca0 ca1 cb0 cb1
  have ka := ka.low hb1 ka.lt
  have kb := kb.low hb1 kb.lt
  have bb := bb.trans (hb1.mono bb.size)
  clear hb1
  have ka := ka.alloc (.cells #[.int .i64 x, .int .i64 y] 23)
  have kb := kb.alloc (.cells #[.int .i64 x, .int .i64 y] 23)
  have kp := Blk.new w1 (w1.heap.size) (by simp) 23 #[.int .i64 x, .int .i64 y]
  have bb := bb.alloc bb.size (.cells #[.int .i64 x, .int .i64 y] 23)
  have ca0 := ka.cell 0
  have ca1 := ka.cell 1
  have cb0 := kb.cell 0
  have cb1 := kb.cell 1
  have cp0 := kp.cell 0
  have cp1 := kp.cell 1
  simp only [List.getElem?_toArray, List.getElem?_cons_zero, List.getElem?_cons_succ] at ca0 ca1 cb0 cb1 cp0 cp1
  have ka := ka.alloc (.cells #[.int .i64 bn, .int .i64 bd, .int .i64 an, .int .i64 ad] 23)
  have kb := kb.alloc (.cells #[.int .i64 bn, .int .i64 bd, .int .i64 an, .int .i64 ad] 23)
  have kp := kp.alloc (.cells #[.int .i64 bn, .int .i64 bd, .int .i64 an, .int .i64 ad] 23)
  have bb := bb.alloc bb.size (.cells #[.int .i64 bn, .int .i64 bd, .int .i64 an, .int .i64 ad] 23)
  go_wp2_with fail
  refine (M2.out _ _ _ (by simp)).mono ?_
  rintro e w2 ⟨rfl, hb2⟩
  clear ca0 ca1 cb0 cb1 cp0 cp1
  have ka := ka.low hb2 ka.lt
  have kb := kb.low hb2 kb.lt
  have kp := kp.low hb2 kp.lt
  have bb := bb.trans (hb2.mono bb.size)
  clear hb2
  have ka := ka.alloc (.cells #[.int .i64 x, .int .i64 y] 23)
  have kb := kb.alloc (.cells #[.int .i64 x, .int .i64 y] 23)
  have kp := kp.alloc (.cells #[.int .i64 x, .int .i64 y] 23)
  have kq := Blk.new w2 (w2.heap.size) (by simp) 23 #[.int .i64 x, .int .i64 y]
  have bb := bb.alloc bb.size (.cells #[.int .i64 x, .int .i64 y] 23)
  have ca0 := ka.cell 0
  have ca1 := ka.cell 1
  have cb0 := kb.cell 0
  have cb1 := kb.cell 1
  have cp0 := kp.cell 0
  have cp1 := kp.cell 1
  have cq0 := kq.cell 0
  have cq1 := kq.cell 1
  simp only [List.getElem?_toArray, List.getElem?_cons_zero, List.getElem?_cons_succ] at ca0 ca1 cb0 cb1 cp0 cp1 cq0 cq1
  go_wp2_with fail
  refine (I1.out _).mono ?_
  rintro e w3 ⟨rfl, hb3⟩
  clear ca0 ca1 cb0 cb1 cp0 cp1 cq0 cq1
  have ka := ka.low hb3 ka.lt
  have kb := kb.low hb3 kb.lt
  have kp := kp.low hb3 kp.lt
  have kq := kq.low hb3 kq.lt
  have bb := bb.trans (hb3.mono bb.size)
  clear hb3
  have ka := ka.alloc (.cells #[.int .i64 iN, .int .i64 iD] 23)
  have kb := kb.alloc (.cells #[.int .i64 iN, .int .i64 iD] 23)
  have kp := kp.alloc (.cells #[.int .i64 iN, .int .i64 iD] 23)
  have kq := kq.alloc (.cells #[.int .i64 iN, .int .i64 iD] 23)
  have ki := Blk.new w3 (w3.heap.size) (by simp) 23 #[.int .i64 iN, .int .i64 iD]
  have bb := bb.alloc bb.size (.cells #[.int .i64 iN, .int .i64 iD] 23)
  have ca0 := ka.cell 0
  have ca1 := ka.cell 1
  have cb0 := kb.cell 0
  have cb1 := kb.cell 1
  have cp0 := kp.cell 0
  have cp1 := kp.cell 1
  have cq0 := kq.cell 0
  have cq1 := kq.cell 1
  have ci0 := ki.cell 0
  have ci1 := ki.cell 1
  simp only [List.getElem?_toArray, List.getElem?_cons_zero, List.getElem?_cons_succ] at ca0 ca1 cb0 cb1 cp0 cp1 cq0 cq1 ci0 ci1
  have ka := ka.alloc (.cells #[.int .i64 an, .int .i64 ad, .int .i64 iN, .int .i64 iD] 23)
  have kb := kb.alloc (.cells #[.int .i64 an, .int .i64 ad, .int .i64 iN, .int .i64 iD] 23)
  have kp := kp.alloc (.cells #[.int .i64 an, .int .i64 ad, .int .i64 iN, .int .i64 iD] 23)
  have kq := kq.alloc (.cells #[.int .i64 an, .int .i64 ad, .int .i64 iN, .int .i64 iD] 23)
  have ki := ki.alloc (.cells #[.int .i64 an, .int .i64 ad, .int .i64 iN, .int .i64 iD] 23)
  have bb := bb.alloc bb.size (.cells #[.int .i64 an, .int .i64 ad, .int .i64 iN, .int .i64 iD] 23)
  go_wp2_with fail
  refine (M3.out _ _ _ (by simp)).mono ?_
  rintro e w4 ⟨rfl, hb4⟩
  clear ca0 ca1 cb0 cb1 cp0 cp1 cq0 cq1 ci0 ci1
  have ka := ka.low hb4 ka.lt
  have kb := kb.low hb4 kb.lt
  have kp := kp.low hb4 kp.lt
  have kq := kq.low hb4 kq.lt
  have ki := ki.low hb4 ki.lt
  have bb := bb.trans (hb4.mono bb.size)
  clear hb4
  have ka := ka.alloc (.cells #[.int .i64 1, .int .i64 1] 23)
  have kb := kb.alloc (.cells #[.int .i64 1, .int .i64 1] 23)
  have kp := kp.alloc (.cells #[.int .i64 1, .int .i64 1] 23)
  have kq := kq.alloc (.cells #[.int .i64 1, .int .i64 1] 23)
  have ki := ki.alloc (.cells #[.int .i64 1, .int .i64 1] 23)
  have ko := Blk.new w4 (w4.heap.size) (by simp) 23 #[.int .i64 1, .int .i64 1]
  have bb := bb.alloc bb.size (.cells #[.int .i64 1, .int .i64 1] 23)
  have ca0 := ka.cell 0
  have ca1 := ka.cell 1
  have cb0 := kb.cell 0
  have cb1 := kb.cell 1
  have cp0 := kp.cell 0
  have cp1 := kp.cell 1
  have cq0 := kq.cell 0
  have cq1 := kq.cell 1
  have ci0 := ki.cell 0
  have ci1 := ki.cell 1
  have co0 := ko.cell 0
  have co1 := ko.cell 1
  simp only [List.getElem?_toArray, List.getElem?_cons_zero, List.getElem?_cons_succ] at ca0 ca1 cb0 cb1 cp0 cp1 cq0 cq1 ci0 ci1 co0 co1
  go_wp2_with fail
  refine (I2.out _).mono ?_
  rintro e w5 ⟨rfl, hb5⟩
  clear ca0 ca1 cb0 cb1 cp0 cp1 cq0 cq1 ci0 ci1 co0 co1
  have ka := ka.low hb5 ka.lt
  have kb := kb.low hb5 kb.lt
  have kp := kp.low hb5 kp.lt
  have kq := kq.low hb5 kq.lt
  have ki := ki.low hb5 ki.lt
  have ko := ko.low hb5 ko.lt
  have bb := bb.trans (hb5.mono bb.size)
  clear hb5
  have ka := ka.alloc (.cells #[.int .i64 an, .int .i64 ad] 23)
  have kb := kb.alloc (.cells #[.int .i64 an, .int .i64 ad] 23)
  have kp := kp.alloc (.cells #[.int .i64 an, .int .i64 ad] 23)
  have kq := kq.alloc (.cells #[.int .i64 an, .int .i64 ad] 23)
  have ki := ki.alloc (.cells #[.int .i64 an, .int .i64 ad] 23)
  have ko := ko.alloc (.cells #[.int .i64 an, .int .i64 ad] 23)
  have kk := Blk.new w5 (w5.heap.size) (by simp) 23 #[.int .i64 an, .int .i64 ad]
  have bb := bb.alloc bb.size (.cells #[.int .i64 an, .int .i64 ad] 23)
  have ca0 := ka.cell 0
  have ca1 := ka.cell 1
  have cb0 := kb.cell 0
  have cb1 := kb.cell 1
  have cp0 := kp.cell 0
  have cp1 := kp.cell 1
  have cq0 := kq.cell 0
  have cq1 := kq.cell 1
  have ci0 := ki.cell 0
  have ci1 := ki.cell 1
  have co0 := ko.cell 0
  have co1 := ko.cell 1
  have ck0 := kk.cell 0
  have ck1 := kk.cell 1
  simp only [List.getElem?_toArray, List.getElem?_cons_zero, List.getElem?_cons_succ] at ca0 ca1 cb0 cb1 cp0 cp1 cq0 cq1 ci0 ci1 co0 co1 ck0 ck1
  go_wp2_with fail
  refine (I3.out _).mono ?_
  rintro e w6 ⟨rfl, hb6⟩
  clear ca0 ca1 cb0 cb1 cp0 cp1 cq0 cq1 ci0 ci1 co0 co1 ck0 ck1
  have ka := ka.low hb6 ka.lt
  have kb := kb.low hb6 kb.lt
  have kp := kp.low hb6 kp.lt
  have kq := kq.low hb6 kq.lt
  have ki := ki.low hb6 ki.lt
  have ko := ko.low hb6 ko.lt
  have kk := kk.low hb6 kk.lt
  have bb := bb.trans (hb6.mono bb.size)
  clear hb6
  have ka := ka.alloc (.cells #[.int .i64 jn, .int .i64 jd] 23)
  have kb := kb.alloc (.cells #[.int .i64 jn, .int .i64 jd] 23)
  have kp := kp.alloc (.cells #[.int .i64 jn, .int .i64 jd] 23)
  have kq := kq.alloc (.cells #[.int .i64 jn, .int .i64 jd] 23)
  have ki := ki.alloc (.cells #[.int .i64 jn, .int .i64 jd] 23)
  have ko := ko.alloc (.cells #[.int .i64 jn, .int .i64 jd] 23)
  have kk := kk.alloc (.cells #[.int .i64 jn, .int .i64 jd] 23)
  have kj := Blk.new w6 (w6.heap.size) (by simp) 23 #[.int .i64 jn, .int .i64 jd]
  have bb := bb.alloc bb.size (.cells #[.int .i64 jn, .int .i64 jd] 23)
  have ca0 := ka.cell 0
  have ca1 := ka.cell 1
  have cb0 := kb.cell 0
  have cb1 := kb.cell 1
  have cp0 := kp.cell 0
  have cp1 := kp.cell 1
  have cq0 := kq.cell 0
  have cq1 := kq.cell 1
  have ci0 := ki.cell 0
  have ci1 := ki.cell 1
  have co0 := ko.cell 0
  have co1 := ko.cell 1
  have ck0 := kk.cell 0
  have ck1 := kk.cell 1
  have cj0 := kj.cell 0
  have cj1 := kj.cell 1
  simp only [List.getElem?_toArray, List.getElem?_cons_zero, List.getElem?_cons_succ] at ca0 ca1 cb0 cb1 cp0 cp1 cq0 cq1 ci0 ci1 co0 co1 ck0 ck1 cj0 cj1
  go_wp2_with fail
  refine (C1.out _).mono ?_
  rintro e w7 ⟨rfl, hb7⟩
  clear ca0 ca1 cb0 cb1 cp0 cp1 cq0 cq1 ci0 ci1 co0 co1 ck0 ck1 cj0 cj1
  have ka := ka.low hb7 ka.lt
  have kb := kb.low hb7 kb.lt
  have kp := kp.low hb7 kp.lt
  have kq := kq.low hb7 kq.lt
  have ki := ki.low hb7 ki.lt
  have ko := ko.low hb7 ko.lt
  have kk := kk.low hb7 kk.lt
  have kj := kj.low hb7 kj.lt
  have bb := bb.trans (hb7.mono bb.size)
  clear hb7
  have ca0 := ka.cell 0
  have ca1 := ka.cell 1
  have cb0 := kb.cell 0
  have cb1 := kb.cell 1
  have cp0 := kp.cell 0
  have cp1 := kp.cell 1
  have cq0 := kq.cell 0
  have cq1 := kq.cell 1
  have ci0 := ki.cell 0
  have ci1 := ki.cell 1
  have co0 := ko.cell 0
  have co1 := ko.cell 1
  have ck0 := kk.cell 0
  have ck1 := kk.cell 1
  have cj0 := kj.cell 0
  have cj1 := kj.cell 1
  simp only [List.getElem?_toArray, List.getElem?_cons_zero, List.getElem?_cons_succ] at ca0 ca1 cb0 cb1 cp0 cp1 cq0 cq1 ci0 ci1 co0 co1 ck0 ck1 cj0 cj1
  go_wp2_with fail
  refine (C2.out _).mono ?_
  rintro e w8 ⟨rfl, hb8⟩
  clear ca0 ca1 cb0 cb1 cp0 cp1 cq0 cq1 ci0 ci1 co0 co1 ck0 ck1 cj0 cj1
  have ka := ka.low hb8 ka.lt
  have kb := kb.low hb8 kb.lt
  have kp := kp.low hb8 kp.lt
  have kq := kq.low hb8 kq.lt
  have ki := ki.low hb8 ki.lt
  have ko := ko.low hb8 ko.lt
  have kk := kk.low hb8 kk.lt
  have kj := kj.low hb8 kj.lt
  have bb := bb.trans (hb8.mono bb.size)
  clear hb8
  have ca0 := ka.cell 0
  have ca1 := ka.cell 1
  have cb0 := kb.cell 0
  have cb1 := kb.cell 1
  have cp0 := kp.cell 0
  have cp1 := kp.cell 1
  have cq0 := kq.cell 0
  have cq1 := kq.cell 1
  have ci0 := ki.cell 0
  have ci1 := ki.cell 1
  have co0 := ko.cell 0
  have co1 := ko.cell 1
  have ck0 := kk.cell 0
  have ck1 := kk.cell 1
  have cj0 := kj.cell 0
  have cj1 := kj.cell 1
  simp only [List.getElem?_toArray, List.getElem?_cons_zero, List.getElem?_cons_succ] at ca0 ca1 cb0 cb1 cp0 cp1 cq0 cq1 ci0 ci1 co0 co1 ck0 ck1 cj0 cj1
  go_wp2_with fail
  refine (awake_any _).mono ?_
  rintro e w9 ⟨rfl, hb9⟩
  clear ca0 ca1 cb0 cb1 cp0 cp1 cq0 cq1 ci0 ci1 co0 co1 ck0 ck1 cj0 cj1
  have ka := ka.low hb9 ka.lt
  have kb := kb.low hb9 kb.lt
  have kp := kp.low hb9 kp.lt
  have kq := kq.low hb9 kq.lt
  have ki := ki.low hb9 ki.lt
  have ko := ko.low hb9 ko.lt
  have kk := kk.low hb9 kk.lt
  have kj := kj.low hb9 kj.lt
  have bb := bb.trans (hb9.mono bb.size)
  clear hb9
  go_wp2_with fail
  go_ret
  exact ⟨rfl, bb⟩

theorem turnsFLaw_any (a b : Fr) (w : World) (fa : a.fit) (fb : b.fit) : Calls Try.prog 11 #[.agg #[.int .i64 a.n, .int .i64 a.d], .agg #[.int .i64 b.n, .int .i64 b.d]] w fun e w' => e = .returned (.bool true) ∧ Below w.heap.size w w' := by
  have M1 := mul_two a b fa fb
  have M2 := mul_two b a fb fa
  rw [← mulR_comm a b fa fb] at M2
  have I1 := Lib.hid fun w => inv_any a w fa
  have I3 := Lib.hid fun w => inv_any b w fb
  by_cases e1 : (invR a).2 = 0
  · obtain ⟨i, hi⟩ : ∃ i, (invR a).1 = i := ⟨_, rfl⟩
    have ha : invR a = (i, 0) := Prod.ext hi e1
    obtain ⟨hv, _, hiv, hif, _⟩ := inv_facts ha
    rw [ha] at I1
    have M3 := mul_two a i fa hif
    rw [inv_mul fa ha] at M3
    have I2 := Lib.hid fun w => inv_any i w hif
    rw [inv_back fa ha] at I2
    by_cases e2 : (invR b).2 = 0
    · obtain ⟨j, hj⟩ : ∃ j, (invR b).1 = j := ⟨_, rfl⟩
      have hb : invR b = (j, 0) := Prod.ext hj e2
      obtain ⟨hvb, _, hjv, hjf, _⟩ := inv_facts hb
      rw [hb] at I3
      by_cases pa : 0 < a.n
      · by_cases pb : 0 < b.n
        · have C1 := Lib.hid fun w => fcmp_any a b w fa fb
          have C2 := Lib.hid fun w => fcmp_any j i w hjf hif
          rw [inv_cmp ha hb pa pb] at C2
          have hc : (cmpR a b).2 = 0 := by unfold cmpR; rw [if_pos ⟨hv, hvb⟩]
          rw [hc] at C1 C2
          exact turns_c _ _ _ _ _ _ _ _ _ _ _ _ w (decide_eq_true pa) (decide_eq_true pb) M1 M2 I1 M3 I2 I3 C1 C2
        · exact turns_b _ _ _ _ _ _ _ _ _ _ _ w (decide_eq_true pa) (decide_eq_false pb) M1 M2 I1 M3 I2 I3
      · exact turns_a _ _ _ _ _ _ _ _ _ _ _ w (decide_eq_false pa) M1 M2 I1 M3 I2 I3
    · exact turns_e _ _ _ _ _ _ _ _ _ _ _ _ w (by simpa using e2) M1 M2 I1 M3 I2 I3
  · exact turns_err _ _ _ _ _ _ _ _ _ _ w (by simpa using e1) M1 M2 I1
end Go.Proofs.Ytfielhbepnkekaa
