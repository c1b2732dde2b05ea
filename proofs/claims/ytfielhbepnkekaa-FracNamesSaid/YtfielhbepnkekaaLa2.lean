/-
  FracNews, FracInvs, FracCmps, FracNames: what the law computes is true.
-/
import Derived.Test.YtfielhbepnkekaaKm
namespace Go.Proofs.Ytfielhbepnkekaa
open Go.RowKit

set_option maxRecDepth 100000 in
set_option maxHeartbeats 2000000 in
theorem newsLaw_any (n d : Int) (w : World) (hn : fits n) (hd : fits d) : Calls Try.prog 3 #[.int .i64 n, .int .i64 d] w fun e w' => e = .returned (.bool true) ∧ Below w.heap.size w w' := by
  have N1 := Lib.hid fun w => new_any n d w hn hd
  have N2 := Lib.hid fun w => refNew_any n d w hn hd
  have V1 := Lib.hid fun w => valid_any n d w hn hd
  have V2 := Lib.hid fun w => refValid_any n d w hn hd
  obtain ⟨x, hx⟩ : ∃ x, (newR n d).1.n = x := ⟨_, rfl⟩
  obtain ⟨y, hy⟩ : ∃ y, (newR n d).1.d = y := ⟨_, rfl⟩
  obtain ⟨z, hz⟩ : ∃ z, (newR n d).2 = z := ⟨_, rfl⟩
  obtain ⟨v, hv⟩ : ∃ v, validB n d = v := ⟨_, rfl⟩
  rw [hx, hy, hz] at N1 N2
  rw [hv] at V1 V2
  clear hx hy hz hv
  have bb := Below.refl w.heap.size w
  go_enter Try.func3, Try.ntmps3
  go_wp2_with fail
  refine (N1.out _).mono ?_
  rintro e w1 ⟨rfl, hb1⟩
  have bb := bb.trans (hb1.mono bb.size)
  clear hb1
  have kf := Blk.new w1 (w1.heap.size) (by simp) 23 #[.int .i64 x, .int .i64 y]
  have bb := bb.alloc bb.size (.cells #[.int .i64 x, .int .i64 y] 23)
  go_wp2_with fail
  refine (N2.out _).mono ?_
  rintro e w2 ⟨rfl, hb2⟩
  have kf := kf.low hb2 kf.lt
  have bb := bb.trans (hb2.mono bb.size)
  clear hb2
  have kf := kf.alloc (.cells #[.int .i64 x, .int .i64 y] 23)
  have kx := Blk.new w2 (w2.heap.size) (by simp) 23 #[.int .i64 x, .int .i64 y]
  have bb := bb.alloc bb.size (.cells #[.int .i64 x, .int .i64 y] 23)
  have cf0 := kf.cell 0
  have cf1 := kf.cell 1
  have cx0 := kx.cell 0
  have cx1 := kx.cell 1
  simp only [List.getElem?_toArray, List.getElem?_cons_zero, List.getElem?_cons_succ] at cf0 cf1 cx0 cx1
  go_wp2_with fail
  refine (V1.out _).mono ?_
  rintro e w3 ⟨rfl, hb3⟩
  clear cf0 cf1 cx0 cx1
  have kf := kf.low hb3 kf.lt
  have kx := kx.low hb3 kx.lt
  have bb := bb.trans (hb3.mono bb.size)
  clear hb3
  have cf0 := kf.cell 0
  have cf1 := kf.cell 1
  have cx0 := kx.cell 0
  have cx1 := kx.cell 1
  simp only [List.getElem?_toArray, List.getElem?_cons_zero, List.getElem?_cons_succ] at cf0 cf1 cx0 cx1
  go_wp2_with fail
  refine (awake_any _).mono ?_
  rintro e w4 ⟨rfl, hb4⟩
  clear cf0 cf1 cx0 cx1
  have kf := kf.low hb4 kf.lt
  have kx := kx.low hb4 kx.lt
  have bb := bb.trans (hb4.mono bb.size)
  clear hb4
  have cf0 := kf.cell 0
  have cf1 := kf.cell 1
  have cx0 := kx.cell 0
  have cx1 := kx.cell 1
  simp only [List.getElem?_toArray, List.getElem?_cons_zero, List.getElem?_cons_succ] at cf0 cf1 cx0 cx1
  go_wp2_with fail
  refine (V2.out _).mono ?_
  rintro e w5 ⟨rfl, hb5⟩
  clear cf0 cf1 cx0 cx1
  have kf := kf.low hb5 kf.lt
  have kx := kx.low hb5 kx.lt
  have bb := bb.trans (hb5.mono bb.size)
  clear hb5
  go_wp2_with fail
  go_ret
  exact ⟨by simp, bb⟩

set_option maxRecDepth 100000 in
set_option maxHeartbeats 2000000 in
theorem invsLaw_any (f : Fr) (w : World) (hf : f.fit) : Calls Try.prog 5 #[.agg #[.int .i64 f.n, .int .i64 f.d]] w fun e w' => e = .returned (.bool true) ∧ Below w.heap.size w w' := by
  have N1 := Lib.hid fun w => inv_any f w hf
  have N2 := Lib.hid fun w => refInv_any f w hf
  obtain ⟨x, hx⟩ : ∃ x, (invR f).1.n = x := ⟨_, rfl⟩
  obtain ⟨y, hy⟩ : ∃ y, (invR f).1.d = y := ⟨_, rfl⟩
  obtain ⟨z, hz⟩ : ∃ z, (invR f).2 = z := ⟨_, rfl⟩
  rw [hx, hy, hz] at N1 N2
  clear hx hy hz
  have bb := Below.refl w.heap.size w
  have ka := Blk.new w (w.heap.size) (by simp) 23 #[.int .i64 f.n, .int .i64 f.d]
  have bb := bb.alloc bb.size (.cells #[.int .i64 f.n, .int .i64 f.d] 23)
  have ca0 := ka.cell 0
  have ca1 := ka.cell 1
  simp only [List.getElem?_toArray, List.getElem?_cons_zero, List.getElem?_cons_succ] at ca0 ca1
  go_enter Try.func5, Try.ntmps5
  go_wp2_with fail
  refine (N1.out _).mono ?_
  rintro e w1 ⟨rfl, hb1⟩
  clear ca0 ca1
  have ka := ka.low hb1 ka.lt
  have bb := bb.trans (hb1.mono bb.size)
  clear hb1
  have ka := ka.alloc (.cells #[.int .i64 x, .int .i64 y] 23)
  have kf := Blk.new w1 (w1.heap.size) (by simp) 23 #[.int .i64 x, .int .i64 y]
  have bb := bb.alloc bb.size (.cells #[.int .i64 x, .int .i64 y] 23)
  have ca0 := ka.cell 0
  have ca1 := ka.cell 1
  have cf0 := kf.cell 0
  have cf1 := kf.cell 1
  simp only [List.getElem?_toArray, List.getElem?_cons_zero, List.getElem?_cons_succ] at ca0 ca1 cf0 cf1
  go_wp2_with fail
  refine (N2.out _).mono ?_
  rintro e w2 ⟨rfl, hb2⟩
  clear ca0 ca1 cf0 cf1
  have ka := ka.low hb2 ka.lt
  have kf := kf.low hb2 kf.lt
  have bb := bb.trans (hb2.mono bb.size)
  clear hb2
  have ka := ka.alloc (.cells #[.int .i64 x, .int .i64 y] 23)
  have kf := kf.alloc (.cells #[.int .i64 x, .int .i64 y] 23)
  have kx := Blk.new w2 (w2.heap.size) (by simp) 23 #[.int .i64 x, .int .i64 y]
  have bb := bb.alloc bb.size (.cells #[.int .i64 x, .int .i64 y] 23)
  have ca0 := ka.cell 0
  have ca1 := ka.cell 1
  have cf0 := kf.cell 0
  have cf1 := kf.cell 1
  have cx0 := kx.cell 0
  have cx1 := kx.cell 1
  simp only [List.getElem?_toArray, List.getElem?_cons_zero, List.getElem?_cons_succ] at ca0 ca1 cf0 cf1 cx0 cx1
  go_wp2_with fail
  refine (awake_any _).mono ?_
  rintro e w3 ⟨rfl, hb3⟩
  clear ca0 ca1 cf0 cf1 cx0 cx1
  have ka := ka.low hb3 ka.lt
  have kf := kf.low hb3 kf.lt
  have kx := kx.low hb3 kx.lt
  have bb := bb.trans (hb3.mono bb.size)
  clear hb3
  have ca0 := ka.cell 0
  have ca1 := ka.cell 1
  have cf0 := kf.cell 0
  have cf1 := kf.cell 1
  have cx0 := kx.cell 0
  have cx1 := kx.cell 1
  simp only [List.getElem?_toArray, List.getElem?_cons_zero, List.getElem?_cons_succ] at ca0 ca1 cf0 cf1 cx0 cx1
  go_wp2_with fail
  go_ret
  exact ⟨by simp, bb⟩

set_option maxRecDepth 100000 in
set_option maxHeartbeats 2000000 in
theorem cmpsLaw_any (a b : Fr) (w : World) (ha : a.fit) (hb : b.fit) : Calls Try.prog 6 #[.agg #[.int .i64 a.n, .int .i64 a.d], .agg #[.int .i64 b.n, .int .i64 b.d]] w fun e w' => e = .returned (.bool true) ∧ Below w.heap.size w w' := by
  have N1 := Lib.hid fun w => fcmp_any a b w ha hb
  have N2 := Lib.hid fun w => refCmp_any a b w ha hb
  obtain ⟨x, hx⟩ : ∃ x, (cmpR a b).1 = x := ⟨_, rfl⟩
  obtain ⟨z, hz⟩ : ∃ z, (cmpR a b).2 = z := ⟨_, rfl⟩
  rw [hx, hz] at N1 N2
  clear hx hz
  have bb := Below.refl w.heap.size w
  have ka := Blk.new w (w.heap.size) (by simp) 23 #[.int .i64 a.n, .int .i64 a.d]
  have bb := bb.alloc bb.size (.cells #[.int .i64 a.n, .int .i64 a.d] 23)
  have ka := ka.alloc (.cells #[.int .i64 b.n, .int .i64 b.d] 23)
  have kb := Blk.new (w.alloc (.cells #[.int .i64 a.n, .int .i64 a.d] 23)) (w.heap.size + 1) (by simp) 23 #[.int .i64 b.n, .int .i64 b.d]
  have bb := bb.alloc bb.size (.cells #[.int .i64 b.n, .int .i64 b.d] 23)
  have ca0 := ka.cell 0
  have ca1 := ka.cell 1
  have cb0 := kb.cell 0
  have cb1 := kb.cell 1
  simp only [List.getElem?_toArray, List.getElem?_cons_zero, List.getElem?_cons_succ] at ca0 ca1 cb0 cb1
  go_enter Try.func6, Try.ntmps6
  go_wp2_with fail
  refine (N1.out _).mono ?_
  rintro e w1 ⟨rfl, hb1⟩
  clear ca0 ca1 cb0 cb1
  have ka := ka.low hb1 ka.lt
  have kb := kb.low hb1 kb.lt
  have bb := bb.trans (hb1.mono bb.size)
  clear hb1
  have ca0 := ka.cell 0
  have ca1 := ka.cell 1
  have cb0 := kb.cell 0
  have cb1 := kb.cell 1
  simp only [List.getElem?_toArray, List.getElem?_cons_zero, List.getElem?_cons_succ] at ca0 ca1 cb0 cb1
  go_wp2_with fail
  refine (N2.out _).mono ?_
  rintro e w2 ⟨rfl, hb2⟩
  clear ca0 ca1 cb0 cb1
  have ka := ka.low hb2 ka.lt
  have kb := kb.low hb2 kb.lt
  have bb := bb.trans (hb2.mono bb.size)
  clear hb2
  have ca0 := ka.cell 0
  have ca1 := ka.cell 1
  have cb0 := kb.cell 0
  have cb1 := kb.cell 1
  simp only [List.getElem?_toArray, List.getElem?_cons_zero, List.getElem?_cons_succ] at ca0 ca1 cb0 cb1
  go_wp2_with fail
  refine (awake_any _).mono ?_
  rintro e w3 ⟨rfl, hb3⟩
  clear ca0 ca1 cb0 cb1
  have ka := ka.low hb3 ka.lt
  have kb := kb.low hb3 kb.lt
  have bb := bb.trans (hb3.mono bb.size)
  clear hb3
  go_wp2_with fail
  go_ret
  exact ⟨by simp, bb⟩

theorem nm1 (w : World) : Calls Try.prog 15 #[.int .i64 1, .int .i64 0] w fun e w' => e = .returned (.tuple #[.agg #[.int .i64 0, .int .i64 0], .int .i64 20]) ∧ Below w.heap.size w w' := new_any 1 0 w (fitI _ (by omega)) (fitI _ (by omega))
theorem nm2 (w : World) : Calls Try.prog 15 #[.int .i64 (-9223372036854775808), .int .i64 (-1)] w fun e w' => e = .returned (.tuple #[.agg #[.int .i64 0, .int .i64 0], .int .i64 4]) ∧ Below w.heap.size w w' := new_any (-9223372036854775808) (-1) w (fitI _ (by omega)) (fitI _ (by omega))
theorem nm3 (w : World) : Calls Try.prog 24 #[.agg #[.int .i64 0, .int .i64 0]] w fun e w' => e = .returned (.tuple #[.agg #[.int .i64 0, .int .i64 0], .int .i64 1]) ∧ Below w.heap.size w w' := inv_any ⟨0, 0⟩ w ⟨fitI _ (by simp), fitI _ (by simp)⟩
theorem nm4 (w : World) : Calls Try.prog 24 #[.agg #[.int .i64 0, .int .i64 1]] w fun e w' => e = .returned (.tuple #[.agg #[.int .i64 0, .int .i64 0], .int .i64 20]) ∧ Below w.heap.size w w' := inv_any ⟨0, 1⟩ w ⟨fitI _ (by simp), fitI _ (by simp)⟩
theorem nm5 (w : World) : Calls Try.prog 28 #[.slice none 0 0] w fun e w' => (∃ A c, e = .returned (.tuple #[.int .i64 1, .slice A 0 c, .int .i64 0])) ∧ Below w.heap.size w w' := by
  refine (fscale_any [] none 0 0 w rfl (fun _ h => by cases h) (.inl rfl) (by omega)).mono ?_
  rintro e w' ⟨lv, he, ho, hb⟩
  obtain ⟨A, c, rfl, _⟩ := own_slice ho
  exact ⟨⟨A, c, he⟩, hb⟩
theorem nm6 (w : World) : Calls Try.prog 21 #[.slice none 0 0] w fun e w' => e = .returned (.tuple #[.agg #[.int .i64 1, .int .i64 1], .int .i64 0]) ∧ Below w.heap.size w w' :=
  fmul_any [] none 0 0 w rfl (fun _ h => by cases h) (.inl rfl) (by unfold maxLen; omega)
set_option maxRecDepth 100000 in
set_option maxHeartbeats 2000000 in
theorem namesLaw_any (w : World) : Calls Try.prog 14 #[] w fun e w' => e = .returned (.bool true) ∧ Below w.heap.size w w' := by
  have bb := Below.refl w.heap.size w
  go_enter Try.func14, Try.ntmps14
  go_wp2_with fail
  refine (nm1 _).mono ?_
  rintro e w1 ⟨rfl, hb1⟩
  have bb := bb.trans (hb1.mono bb.size)
  clear hb1
  have bb := bb.alloc bb.size (.cells #[.int .i64 0, .int .i64 0] 23)
  go_wp2_with fail
  refine (nm2 _).mono ?_
  rintro e w2 ⟨rfl, hb2⟩
  have bb := bb.trans (hb2.mono bb.size)
  clear hb2
  have bb := bb.alloc bb.size (.cells #[.int .i64 0, .int .i64 0] 23)
  go_wp2_with fail
  refine (nm3 _).mono ?_
  rintro e w3 ⟨rfl, hb3⟩
  have bb := bb.trans (hb3.mono bb.size)
  clear hb3
  have bb := bb.alloc bb.size (.cells #[.int .i64 0, .int .i64 0] 23)
  go_wp2_with fail
  refine (nm4 _).mono ?_
  rintro e w4 ⟨rfl, hb4⟩
  have bb := bb.trans (hb4.mono bb.size)
  clear hb4
  have bb := bb.alloc bb.size (.cells #[.int .i64 0, .int .i64 0] 23)
  go_wp2_with fail
  refine (nm5 _).mono ?_
  rintro e w5 ⟨⟨A, c, rfl⟩, hb5⟩
  have bb := bb.trans (hb5.mono bb.size)
  clear hb5
  go_wp2_with fail
  refine (nm6 _).mono ?_
  rintro e w6 ⟨rfl, hb6⟩
  have bb := bb.trans (hb6.mono bb.size)
  clear hb6
  have ko := Blk.new w6 (w6.heap.size) (by simp) 23 #[.int .i64 1, .int .i64 1]
  have bb := bb.alloc bb.size (.cells #[.int .i64 1, .int .i64 1] 23)
  have co0 := ko.cell 0
  have co1 := ko.cell 1
  simp only [List.getElem?_toArray, List.getElem?_cons_zero, List.getElem?_cons_succ] at co0 co1
  go_wp2_with fail
  refine (awake_any _).mono ?_
  rintro e w7 ⟨rfl, hb7⟩
  clear co0 co1
  have ko := ko.low hb7 ko.lt
  have bb := bb.trans (hb7.mono bb.size)
  clear hb7
  go_wp2_with fail
  go_ret
  exact ⟨rfl, bb⟩
end Go.Proofs.Ytfielhbepnkekaa
