/-
  FracOrders: what the law computes is true (the orders that may come).
-/
import Derived.Test.YtfielhbepnkekaaKm
namespace Go.Proofs.Ytfielhbepnkekaa
open Go.RowKit

set_option maxRecDepth 100000 in
set_option maxHeartbeats 2000000 in
theorem ord_mn_zm (an ad bn bd cn cd : Int) (w : World) (hn : (an == bn) = false) (C1 : Hid (∀ w, Calls Try.prog 26 #[.agg #[.int .i64 an, .int .i64 ad], .agg #[.int .i64 bn, .int .i64 bd]] w fun e w' => e = .returned (.tuple #[.int .i64 (-1), .int .i64 0]) ∧ Below w.heap.size w w')) (C2 : Hid (∀ w, Calls Try.prog 26 #[.agg #[.int .i64 bn, .int .i64 bd], .agg #[.int .i64 an, .int .i64 ad]] w fun e w' => e = .returned (.tuple #[.int .i64 1, .int .i64 0]) ∧ Below w.heap.size w w')) (C3 : Hid (∀ w, Calls Try.prog 26 #[.agg #[.int .i64 bn, .int .i64 bd], .agg #[.int .i64 cn, .int .i64 cd]] w fun e w' => e = .returned (.tuple #[.int .i64 0, .int .i64 0]) ∧ Below w.heap.size w w')) (C4 : Hid (∀ w, Calls Try.prog 26 #[.agg #[.int .i64 an, .int .i64 ad], .agg #[.int .i64 cn, .int .i64 cd]] w fun e w' => e = .returned (.tuple #[.int .i64 (-1), .int .i64 0]) ∧ Below w.heap.size w w')) (VA : Hid (∀ w, Calls Try.prog 17 #[.agg #[.int .i64 an, .int .i64 ad]] w fun e w' => e = .returned (.bool true) ∧ Below w.heap.size w w')) (VB : Hid (∀ w, Calls Try.prog 17 #[.agg #[.int .i64 bn, .int .i64 bd]] w fun e w' => e = .returned (.bool true) ∧ Below w.heap.size w w')) :
    Calls Try.prog 12 #[.agg #[.int .i64 an, .int .i64 ad], .agg #[.int .i64 bn, .int .i64 bd], .agg #[.int .i64 cn, .int .i64 cd]] w fun e w' => e = .returned (.bool true) ∧ Below w.heap.size w w' := by
  have bb := Below.refl w.heap.size w
  have ka := Blk.new w (w.heap.size) (by simp) 23 #[.int .i64 an, .int .i64 ad]
  have bb := bb.alloc bb.size (.cells #[.int .i64 an, .int .i64 ad] 23)
  have ka := ka.alloc (.cells #[.int .i64 bn, .int .i64 bd] 23)
  have kb := Blk.new (w.alloc (.cells #[.int .i64 an, .int .i64 ad] 23)) (w.heap.size + 1) (by simp) 23 #[.int .i64 bn, .int .i64 bd]
  have bb := bb.alloc bb.size (.cells #[.int .i64 bn, .int .i64 bd] 23)
  have ka := ka.alloc (.cells #[.int .i64 cn, .int .i64 cd] 23)
  have kb := kb.alloc (.cells #[.int .i64 cn, .int .i64 cd] 23)
  have kc := Blk.new ((w.alloc (.cells #[.int .i64 an, .int .i64 ad] 23)).alloc (.cells #[.int .i64 bn, .int .i64 bd] 23)) (w.heap.size + 1 + 1) (by simp) 23 #[.int .i64 cn, .int .i64 cd]
  have bb := bb.alloc bb.size (.cells #[.int .i64 cn, .int .i64 cd] 23)
  have ca0 := ka.cell 0
  have ca1 := ka.cell 1
  have cb0 := kb.cell 0
  have cb1 := kb.cell 1
  have cc0 := kc.cell 0
  have cc1 := kc.cell 1
  simp only [List.getElem?_toArray, List.getElem?_cons_zero, List.getElem?_cons_succ] at ca0 ca1 cb0 cb1 cc0 cc1
  go_enter Try.func12, Try.ntmps12
  go_wp2_with fail
  refine (C1.out _).mono ?_
  rintro e w1 ⟨rfl, hb1⟩
  clear ca0 ca1 cb0 cb1 cc0 cc1
  have ka := ka.low hb1 ka.lt
  have kb := kb.low hb1 kb.lt
  have kc := kc.low hb1 kc.lt
  have bb := bb.trans (hb1.mono bb.size)
  clear hb1
  have ca0 := ka.cell 0
  have ca1 := ka.cell 1
  have cb0 := kb.cell 0
  have cb1 := kb.cell 1
  have cc0 := kc.cell 0
  have cc1 := kc.cell 1
  simp only [List.getElem?_toArray, List.getElem?_cons_zero, List.getElem?_cons_succ] at ca0 ca1 cb0 cb1 cc0 cc1
  go_wp2_with fail
  refine (C2.out _).mono ?_
  rintro e w2 ⟨rfl, hb2⟩
  clear ca0 ca1 cb0 cb1 cc0 cc1
  have ka := ka.low hb2 ka.lt
  have kb := kb.low hb2 kb.lt
  have kc := kc.low hb2 kc.lt
  have bb := bb.trans (hb2.mono bb.size)
  clear hb2
  have ca0 := ka.cell 0
  have ca1 := ka.cell 1
  have cb0 := kb.cell 0
  have cb1 := kb.cell 1
  have cc0 := kc.cell 0
  have cc1 := kc.cell 1
  simp only [List.getElem?_toArray, List.getElem?_cons_zero, List.getElem?_cons_succ] at ca0 ca1 cb0 cb1 cc0 cc1
  go_wp2_with fail
  refine (C3.out _).mono ?_
  rintro e w3 ⟨rfl, hb3⟩
  clear ca0 ca1 cb0 cb1 cc0 cc1
  have ka := ka.low hb3 ka.lt
  have kb := kb.low hb3 kb.lt
  have kc := kc.low hb3 kc.lt
  have bb := bb.trans (hb3.mono bb.size)
  clear hb3
  have ca0 := ka.cell 0
  have ca1 := ka.cell 1
  have cb0 := kb.cell 0
  have cb1 := kb.cell 1
  have cc0 := kc.cell 0
  have cc1 := kc.cell 1
  simp only [List.getElem?_toArray, List.getElem?_cons_zero, List.getElem?_cons_succ] at ca0 ca1 cb0 cb1 cc0 cc1
  go_wp2_with fail
  refine (C4.out _).mono ?_
  rintro e w4 ⟨rfl, hb4⟩
  clear ca0 ca1 cb0 cb1 cc0 cc1
  have ka := ka.low hb4 ka.lt
  have kb := kb.low hb4 kb.lt
  have kc := kc.low hb4 kc.lt
  have bb := bb.trans (hb4.mono bb.size)
  clear hb4
  have ca0 := ka.cell 0
  have ca1 := ka.cell 1
  have cb0 := kb.cell 0
  have cb1 := kb.cell 1
  have cc0 := kc.cell 0
  have cc1 := kc.cell 1
  simp only [List.getElem?_toArray, List.getElem?_cons_zero, List.getElem?_cons_succ] at ca0 ca1 cb0 cb1 cc0 cc1
  go_wp2_with fail
  refine (awake_any _).mono ?_
  rintro e w5 ⟨rfl, hb5⟩
  clear ca0 ca1 cb0 cb1 cc0 cc1
  have ka := ka.low hb5 ka.lt
  have kb := kb.low hb5 kb.lt
  have kc := kc.low hb5 kc.lt
  have bb := bb.trans (hb5.mono bb.size)
  clear hb5
  have ca0 := ka.cell 0
  have ca1 := ka.cell 1
  have cb0 := kb.cell 0
  have cb1 := kb.cell 1
  have cc0 := kc.cell 0
  have cc1 := kc.cell 1
  simp only [List.getElem?_toArray, List.getElem?_cons_zero, List.getElem?_cons_succ] at ca0 ca1 cb0 cb1 cc0 cc1
  go_wp2_with fail
  refine (VA.out _).mono ?_
  rintro e w6 ⟨rfl, hb6⟩
  clear ca0 ca1 cb0 cb1 cc0 cc1
  have ka := ka.low hb6 ka.lt
  have kb := kb.low hb6 kb.lt
  have kc := kc.low hb6 kc.lt
  have bb := bb.trans (hb6.mono bb.size)
  clear hb6
  have ca0 := ka.cell 0
  have ca1 := ka.cell 1
  have cb0 := kb.cell 0
  have cb1 := kb.cell 1
  have cc0 := kc.cell 0
  have cc1 := kc.cell 1
  simp only [List.getElem?_toArray, List.getElem?_cons_zero, List.getElem?_cons_succ] at ca0 ca1 cb0 cb1 cc0 cc1
  go_wp2_with fail
  refine (VB.out _).mono ?_
  rintro e w7 ⟨rfl, hb7⟩
  clear ca0 ca1 cb0 cb1 cc0 cc1
  have ka := ka.low hb7 ka.lt
  have kb := kb.low hb7 kb.lt
  have kc := kc.low hb7 kc.lt
  have bb := bb.trans (hb7.mono bb.size)
  clear hb7
  go_wp2_with fail
  go_ret
  exact ⟨by simp, bb⟩

set_option maxRecDepth 100000 in
set_option maxHeartbeats 2000000 in
theorem ord_mn_pm (an ad bn bd cn cd : Int) (w : World) (hn : (an == bn) = false) (C1 : Hid (∀ w, Calls Try.prog 26 #[.agg #[.int .i64 an, .int .i64 ad], .agg #[.int .i64 bn, .int .i64 bd]] w fun e w' => e = .returned (.tuple #[.int .i64 (-1), .int .i64 0]) ∧ Below w.heap.size w w')) (C2 : Hid (∀ w, Calls Try.prog 26 #[.agg #[.int .i64 bn, .int .i64 bd], .agg #[.int .i64 an, .int .i64 ad]] w fun e w' => e = .returned (.tuple #[.int .i64 1, .int .i64 0]) ∧ Below w.heap.size w w')) (C3 : Hid (∀ w, Calls Try.prog 26 #[.agg #[.int .i64 bn, .int .i64 bd], .agg #[.int .i64 cn, .int .i64 cd]] w fun e w' => e = .returned (.tuple #[.int .i64 1, .int .i64 0]) ∧ Below w.heap.size w w')) (C4 : Hid (∀ w, Calls Try.prog 26 #[.agg #[.int .i64 an, .int .i64 ad], .agg #[.int .i64 cn, .int .i64 cd]] w fun e w' => e = .returned (.tuple #[.int .i64 (-1), .int .i64 0]) ∧ Below w.heap.size w w')) (VA : Hid (∀ w, Calls Try.prog 17 #[.agg #[.int .i64 an, .int .i64 ad]] w fun e w' => e = .returned (.bool true) ∧ Below w.heap.size w w')) (VB : Hid (∀ w, Calls Try.prog 17 #[.agg #[.int .i64 bn, .int .i64 bd]] w fun e w' => e = .returned (.bool true) ∧ Below w.heap.size w w')) :
    Calls Try.prog 12 #[.agg #[.int .i64 an, .int .i64 ad], .agg #[.int .i64 bn, .int .i64 bd], .agg #[.int .i64 cn, .int .i64 cd]] w fun e w' => e = .returned (.bool true) ∧ Below w.heap.size w w' := by
  have bb := Below.refl w.heap.size w
  have ka := Blk.new w (w.heap.size) (by simp) 23 #[.int .i64 an, .int .i64 ad]
  have bb := bb.alloc bb.size (.cells #[.int .i64 an, .int .i64 ad] 23)
  have ka := ka.alloc (.cells #[.int .i64 bn, .int .i64 bd] 23)
  have kb := Blk.new (w.alloc (.cells #[.int .i64 an, .int .i64 ad] 23)) (w.heap.size + 1) (by simp) 23 #[.int .i64 bn, .int .i64 bd]
  have bb := bb.alloc bb.size (.cells #[.int .i64 bn, .int .i64 bd] 23)
  have ka := ka.alloc (.cells #[.int .i64 cn, .int .i64 cd] 23)
  have kb := kb.alloc (.cells #[.int .i64 cn, .int .i64 cd] 23)
  have kc := Blk.new ((w.alloc (.cells #[.int .i64 an, .int .i64 ad] 23)).alloc (.cells #[.int .i64 bn, .int .i64 bd] 23)) (w.heap.size + 1 + 1) (by simp) 23 #[.int .i64 cn, .int .i64 cd]
  have bb := bb.alloc bb.size (.cells #[.int .i64 cn, .int .i64 cd] 23)
  have ca0 := ka.cell 0
  have ca1 := ka.cell 1
  have cb0 := kb.cell 0
  have cb1 := kb.cell 1
  have cc0 := kc.cell 0
  have cc1 := kc.cell 1
  simp only [List.getElem?_toArray, List.getElem?_cons_zero, List.getElem?_cons_succ] at ca0 ca1 cb0 cb1 cc0 cc1
  go_enter Try.func12, Try.ntmps12
  go_wp2_with fail
  refine (C1.out _).mono ?_
  rintro e w1 ⟨rfl, hb1⟩
  clear ca0 ca1 cb0 cb1 cc0 cc1
  have ka := ka.low hb1 ka.lt
  have kb := kb.low hb1 kb.lt
  have kc := kc.low hb1 kc.lt
  have bb := bb.trans (hb1.mono bb.size)
  clear hb1
  have ca0 := ka.cell 0
  have ca1 := ka.cell 1
  have cb0 := kb.cell 0
  have cb1 := kb.cell 1
  have cc0 := kc.cell 0
  have cc1 := kc.cell 1
  simp only [List.getElem?_toArray, List.getElem?_cons_zero, List.getElem?_cons_succ] at ca0 ca1 cb0 cb1 cc0 cc1
  go_wp2_with fail
  refine (C2.out _).mono ?_
  rintro e w2 ⟨rfl, hb2⟩
  clear ca0 ca1 cb0 cb1 cc0 cc1
  have ka := ka.low hb2 ka.lt
  have kb := kb.low hb2 kb.lt
  have kc := kc.low hb2 kc.lt
  have bb := bb.trans (hb2.mono bb.size)
  clear hb2
  have ca0 := ka.cell 0
  have ca1 := ka.cell 1
  have cb0 := kb.cell 0
  have cb1 := kb.cell 1
  have cc0 := kc.cell 0
  have cc1 := kc.cell 1
  simp only [List.getElem?_toArray, List.getElem?_cons_zero, List.getElem?_cons_succ] at ca0 ca1 cb0 cb1 cc0 cc1
  go_wp2_with fail
  refine (C3.out _).mono ?_
  rintro e w3 ⟨rfl, hb3⟩
  clear ca0 ca1 cb0 cb1 cc0 cc1
  have ka := ka.low hb3 ka.lt
  have kb := kb.low hb3 kb.lt
  have kc := kc.low hb3 kc.lt
  have bb := bb.trans (hb3.mono bb.size)
  clear hb3
  have ca0 := ka.cell 0
  have ca1 := ka.cell 1
  have cb0 := kb.cell 0
  have cb1 := kb.cell 1
  have cc0 := kc.cell 0
  have cc1 := kc.cell 1
  simp only [List.getElem?_toArray, List.getElem?_cons_zero, List.getElem?_cons_succ] at ca0 ca1 cb0 cb1 cc0 cc1
  go_wp2_with fail
  refine (C4.out _).mono ?_
  rintro e w4 ⟨rfl, hb4⟩
  clear ca0 ca1 cb0 cb1 cc0 cc1
  have ka := ka.low hb4 ka.lt
  have kb := kb.low hb4 kb.lt
  have kc := kc.low hb4 kc.lt
  have bb := bb.trans (hb4.mono bb.size)
  clear hb4
  have ca0 := ka.cell 0
  have ca1 := ka.cell 1
  have cb0 := kb.cell 0
  have cb1 := kb.cell 1
  have cc0 := kc.cell 0
  have cc1 := kc.cell 1
  simp only [List.getElem?_toArray, List.getElem?_cons_zero, List.getElem?_cons_succ] at ca0 ca1 cb0 cb1 cc0 cc1
  go_wp2_with fail
  refine (awake_any _).mono ?_
  rintro e w5 ⟨rfl, hb5⟩
  clear ca0 ca1 cb0 cb1 cc0 cc1
  have ka := ka.low hb5 ka.lt
  have kb := kb.low hb5 kb.lt
  have kc := kc.low hb5 kc.lt
  have bb := bb.trans (hb5.mono bb.size)
  clear hb5
  have ca0 := ka.cell 0
  have ca1 := ka.cell 1
  have cb0 := kb.cell 0
  have cb1 := kb.cell 1
  have cc0 := kc.cell 0
  have cc1 := kc.cell 1
  simp only [List.getElem?_toArray, List.getElem?_cons_zero, List.getElem?_cons_succ] at ca0 ca1 cb0 cb1 cc0 cc1
  go_wp2_with fail
  refine (VA.out _).mono ?_
  rintro e w6 ⟨rfl, hb6⟩
  clear ca0 ca1 cb0 cb1 cc0 cc1
  have ka := ka.low hb6 ka.lt
  have kb := kb.low hb6 kb.lt
  have kc := kc.low hb6 kc.lt
  have bb := bb.trans (hb6.mono bb.size)
  clear hb6
  have ca0 := ka.cell 0
  have ca1 := ka.cell 1
  have cb0 := kb.cell 0
  have cb1 := kb.cell 1
  have cc0 := kc.cell 0
  have cc1 := kc.cell 1
  simp only [List.getElem?_toArray, List.getElem?_cons_zero, List.getElem?_cons_succ] at ca0 ca1 cb0 cb1 cc0 cc1
  go_wp2_with fail
  refine (VB.out _).mono ?_
  rintro e w7 ⟨rfl, hb7⟩
  clear ca0 ca1 cb0 cb1 cc0 cc1
  have ka := ka.low hb7 ka.lt
  have kb := kb.low hb7 kb.lt
  have kc := kc.low hb7 kc.lt
  have bb := bb.trans (hb7.mono bb.size)
  clear hb7
  go_wp2_with fail
  go_ret
  exact ⟨by simp, bb⟩

set_option maxRecDepth 100000 in
set_option maxHeartbeats 2000000 in
theorem ord_mn_pp (an ad bn bd cn cd : Int) (w : World) (hn : (an == bn) = false) (C1 : Hid (∀ w, Calls Try.prog 26 #[.agg #[.int .i64 an, .int .i64 ad], .agg #[.int .i64 bn, .int .i64 bd]] w fun e w' => e = .returned (.tuple #[.int .i64 (-1), .int .i64 0]) ∧ Below w.heap.size w w')) (C2 : Hid (∀ w, Calls Try.prog 26 #[.agg #[.int .i64 bn, .int .i64 bd], .agg #[.int .i64 an, .int .i64 ad]] w fun e w' => e = .returned (.tuple #[.int .i64 1, .int .i64 0]) ∧ Below w.heap.size w w')) (C3 : Hid (∀ w, Calls Try.prog 26 #[.agg #[.int .i64 bn, .int .i64 bd], .agg #[.int .i64 cn, .int .i64 cd]] w fun e w' => e = .returned (.tuple #[.int .i64 1, .int .i64 0]) ∧ Below w.heap.size w w')) (C4 : Hid (∀ w, Calls Try.prog 26 #[.agg #[.int .i64 an, .int .i64 ad], .agg #[.int .i64 cn, .int .i64 cd]] w fun e w' => e = .returned (.tuple #[.int .i64 1, .int .i64 0]) ∧ Below w.heap.size w w')) (VA : Hid (∀ w, Calls Try.prog 17 #[.agg #[.int .i64 an, .int .i64 ad]] w fun e w' => e = .returned (.bool true) ∧ Below w.heap.size w w')) (VB : Hid (∀ w, Calls Try.prog 17 #[.agg #[.int .i64 bn, .int .i64 bd]] w fun e w' => e = .returned (.bool true) ∧ Below w.heap.size w w')) :
    Calls Try.prog 12 #[.agg #[.int .i64 an, .int .i64 ad], .agg #[.int .i64 bn, .int .i64 bd], .agg #[.int .i64 cn, .int .i64 cd]] w fun e w' => e = .returned (.bool true) ∧ Below w.heap.size w w' := by
  have bb := Below.refl w.heap.size w
  have ka := Blk.new w (w.heap.size) (by simp) 23 #[.int .i64 an, .int .i64 ad]
  have bb := bb.alloc bb.size (.cells #[.int .i64 an, .int .i64 ad] 23)
  have ka := ka.alloc (.cells #[.int .i64 bn, .int .i64 bd] 23)
  have kb := Blk.new (w.alloc (.cells #[.int .i64 an, .int .i64 ad] 23)) (w.heap.size + 1) (by simp) 23 #[.int .i64 bn, .int .i64 bd]
  have bb := bb.alloc bb.size (.cells #[.int .i64 bn, .int .i64 bd] 23)
  have ka := ka.alloc (.cells #[.int .i64 cn, .int .i64 cd] 23)
  have kb := kb.alloc (.cells #[.int .i64 cn, .int .i64 cd] 23)
  have kc := Blk.new ((w.alloc (.cells #[.int .i64 an, .int .i64 ad] 23)).alloc (.cells #[.int .i64 bn, .int .i64 bd] 23)) (w.heap.size + 1 + 1) (by simp) 23 #[.int .i64 cn, .int .i64 cd]
  have bb := bb.alloc bb.size (.cells #[.int .i64 cn, .int .i64 cd] 23)
  have ca0 := ka.cell 0
  have ca1 := ka.cell 1
  have cb0 := kb.cell 0
  have cb1 := kb.cell 1
  have cc0 := kc.cell 0
  have cc1 := kc.cell 1
  simp only [List.getElem?_toArray, List.getElem?_cons_zero, List.getElem?_cons_succ] at ca0 ca1 cb0 cb1 cc0 cc1
  go_enter Try.func12, Try.ntmps12
  go_wp2_with fail
  refine (C1.out _).mono ?_
  rintro e w1 ⟨rfl, hb1⟩
  clear ca0 ca1 cb0 cb1 cc0 cc1
  have ka := ka.low hb1 ka.lt
  have kb := kb.low hb1 kb.lt
  have kc := kc.low hb1 kc.lt
  have bb := bb.trans (hb1.mono bb.size)
  clear hb1
  have ca0 := ka.cell 0
  have ca1 := ka.cell 1
  have cb0 := kb.cell 0
  have cb1 := kb.cell 1
  have cc0 := kc.cell 0
  have cc1 := kc.cell 1
  simp only [List.getElem?_toArray, List.getElem?_cons_zero, List.getElem?_cons_succ] at ca0 ca1 cb0 cb1 cc0 cc1
  go_wp2_with fail
  refine (C2.out _).mono ?_
  rintro e w2 ⟨rfl, hb2⟩
  clear ca0 ca1 cb0 cb1 cc0 cc1
  have ka := ka.low hb2 ka.lt
  have kb := kb.low hb2 kb.lt
  have kc := kc.low hb2 kc.lt
  have bb := bb.trans (hb2.mono bb.size)
  clear hb2
  have ca0 := ka.cell 0
  have ca1 := ka.cell 1
  have cb0 := kb.cell 0
  have cb1 := kb.cell 1
  have cc0 := kc.cell 0
  have cc1 := kc.cell 1
  simp only [List.getElem?_toArray, List.getElem?_cons_zero, List.getElem?_cons_succ] at ca0 ca1 cb0 cb1 cc0 cc1
  go_wp2_with fail
  refine (C3.out _).mono ?_
  rintro e w3 ⟨rfl, hb3⟩
  clear ca0 ca1 cb0 cb1 cc0 cc1
  have ka := ka.low hb3 ka.lt
  have kb := kb.low hb3 kb.lt
  have kc := kc.low hb3 kc.lt
  have bb := bb.trans (hb3.mono bb.size)
  clear hb3
  have ca0 := ka.cell 0
  have ca1 := ka.cell 1
  have cb0 := kb.cell 0
  have cb1 := kb.cell 1
  have cc0 := kc.cell 0
  have cc1 := kc.cell 1
  simp only [List.getElem?_toArray, List.getElem?_cons_zero, List.getElem?_cons_succ] at ca0 ca1 cb0 cb1 cc0 cc1
  go_wp2_with fail
  refine (C4.out _).mono ?_
  rintro e w4 ⟨rfl, hb4⟩
  clear ca0 ca1 cb0 cb1 cc0 cc1
  have ka := ka.low hb4 ka.lt
  have kb := kb.low hb4 kb.lt
  have kc := kc.low hb4 kc.lt
  have bb := bb.trans (hb4.mono bb.size)
  clear hb4
  have ca0 := ka.cell 0
  have ca1 := ka.cell 1
  have cb0 := kb.cell 0
  have cb1 := kb.cell 1
  have cc0 := kc.cell 0
  have cc1 := kc.cell 1
  simp only [List.getElem?_toArray, List.getElem?_cons_zero, List.getElem?_cons_succ] at ca0 ca1 cb0 cb1 cc0 cc1
  go_wp2_with fail
  refine (awake_any _).mono ?_
  rintro e w5 ⟨rfl, hb5⟩
  clear ca0 ca1 cb0 cb1 cc0 cc1
  have ka := ka.low hb5 ka.lt
  have kb := kb.low hb5 kb.lt
  have kc := kc.low hb5 kc.lt
  have bb := bb.trans (hb5.mono bb.size)
  clear hb5
  have ca0 := ka.cell 0
  have ca1 := ka.cell 1
  have cb0 := kb.cell 0
  have cb1 := kb.cell 1
  have cc0 := kc.cell 0
  have cc1 := kc.cell 1
  simp only [List.getElem?_toArray, List.getElem?_cons_zero, List.getElem?_cons_succ] at ca0 ca1 cb0 cb1 cc0 cc1
  go_wp2_with fail
  refine (VA.out _).mono ?_
  rintro e w6 ⟨rfl, hb6⟩
  clear ca0 ca1 cb0 cb1 cc0 cc1
  have ka := ka.low hb6 ka.lt
  have kb := kb.low hb6 kb.lt
  have kc := kc.low hb6 kc.lt
  have bb := bb.trans (hb6.mono bb.size)
  clear hb6
  have ca0 := ka.cell 0
  have ca1 := ka.cell 1
  have cb0 := kb.cell 0
  have cb1 := kb.cell 1
  have cc0 := kc.cell 0
  have cc1 := kc.cell 1
  simp only [List.getElem?_toArray, List.getElem?_cons_zero, List.getElem?_cons_succ] at ca0 ca1 cb0 cb1 cc0 cc1
  go_wp2_with fail
  refine (VB.out _).mono ?_
  rintro e w7 ⟨rfl, hb7⟩
  clear ca0 ca1 cb0 cb1 cc0 cc1
  have ka := ka.low hb7 ka.lt
  have kb := kb.low hb7 kb.lt
  have kc := kc.low hb7 kc.lt
  have bb := bb.trans (hb7.mono bb.size)
  clear hb7
  go_wp2_with fail
  go_ret
  exact ⟨by simp, bb⟩

set_option maxRecDepth 100000 in
set_option maxHeartbeats 2000000 in
theorem ord_md_mm (an ad bn bd cn cd : Int) (w : World) (hn : (an == bn) = true) (hd : (ad == bd) = false) (C1 : Hid (∀ w, Calls Try.prog 26 #[.agg #[.int .i64 an, .int .i64 ad], .agg #[.int .i64 bn, .int .i64 bd]] w fun e w' => e = .returned (.tuple #[.int .i64 (-1), .int .i64 0]) ∧ Below w.heap.size w w')) (C2 : Hid (∀ w, Calls Try.prog 26 #[.agg #[.int .i64 bn, .int .i64 bd], .agg #[.int .i64 an, .int .i64 ad]] w fun e w' => e = .returned (.tuple #[.int .i64 1, .int .i64 0]) ∧ Below w.heap.size w w')) (C3 : Hid (∀ w, Calls Try.prog 26 #[.agg #[.int .i64 bn, .int .i64 bd], .agg #[.int .i64 cn, .int .i64 cd]] w fun e w' => e = .returned (.tuple #[.int .i64 (-1), .int .i64 0]) ∧ Below w.heap.size w w')) (C4 : Hid (∀ w, Calls Try.prog 26 #[.agg #[.int .i64 an, .int .i64 ad], .agg #[.int .i64 cn, .int .i64 cd]] w fun e w' => e = .returned (.tuple #[.int .i64 (-1), .int .i64 0]) ∧ Below w.heap.size w w')) (VA : Hid (∀ w, Calls Try.prog 17 #[.agg #[.int .i64 an, .int .i64 ad]] w fun e w' => e = .returned (.bool true) ∧ Below w.heap.size w w')) (VB : Hid (∀ w, Calls Try.prog 17 #[.agg #[.int .i64 bn, .int .i64 bd]] w fun e w' => e = .returned (.bool true) ∧ Below w.heap.size w w')) :
    Calls Try.prog 12 #[.agg #[.int .i64 an, .int .i64 ad], .agg #[.int .i64 bn, .int .i64 bd], .agg #[.int .i64 cn, .int .i64 cd]] w fun e w' => e = .returned (.bool true) ∧ Below w.heap.size w w' := by
  have bb := Below.refl w.heap.size w
  have ka := Blk.new w (w.heap.size) (by simp) 23 #[.int .i64 an, .int .i64 ad]
  have bb := bb.alloc bb.size (.cells #[.int .i64 an, .int .i64 ad] 23)
  have ka := ka.alloc (.cells #[.int .i64 bn, .int .i64 bd] 23)
  have kb := Blk.new (w.alloc (.cells #[.int .i64 an, .int .i64 ad] 23)) (w.heap.size + 1) (by simp) 23 #[.int .i64 bn, .int .i64 bd]
  have bb := bb.alloc bb.size (.cells #[.int .i64 bn, .int .i64 bd] 23)
  have ka := ka.alloc (.cells #[.int .i64 cn, .int .i64 cd] 23)
  have kb := kb.alloc (.cells #[.int .i64 cn, .int .i64 cd] 23)
  have kc := Blk.new ((w.alloc (.cells #[.int .i64 an, .int .i64 ad] 23)).alloc (.cells #[.int .i64 bn, .int .i64 bd] 23)) (w.heap.size + 1 + 1) (by simp) 23 #[.int .i64 cn, .int .i64 cd]
  have bb := bb.alloc bb.size (.cells #[.int .i64 cn, .int .i64 cd] 23)
  have ca0 := ka.cell 0
  have ca1 := ka.cell 1
  have cb0 := kb.cell 0
  have cb1 := kb.cell 1
  have cc0 := kc.cell 0
  have cc1 := kc.cell 1
  simp only [List.getElem?_toArray, List.getElem?_cons_zero, List.getElem?_cons_succ] at ca0 ca1 cb0 cb1 cc0 cc1
  go_enter Try.func12, Try.ntmps12
  go_wp2_with fail
  refine (C1.out _).mono ?_
  rintro e w1 ⟨rfl, hb1⟩
  clear ca0 ca1 cb0 cb1 cc0 cc1
  have ka := ka.low hb1 ka.lt
  have kb := kb.low hb1 kb.lt
  have kc := kc.low hb1 kc.lt
  have bb := bb.trans (hb1.mono bb.size)
  clear hb1
  have ca0 := ka.cell 0
  have ca1 := ka.cell 1
  have cb0 := kb.cell 0
  have cb1 := kb.cell 1
  have cc0 := kc.cell 0
  have cc1 := kc.cell 1
  simp only [List.getElem?_toArray, List.getElem?_cons_zero, List.getElem?_cons_succ] at ca0 ca1 cb0 cb1 cc0 cc1
  go_wp2_with fail
  refine (C2.out _).mono ?_
  rintro e w2 ⟨rfl, hb2⟩
  clear ca0 ca1 cb0 cb1 cc0 cc1
  have ka := ka.low hb2 ka.lt
  have kb := kb.low hb2 kb.lt
  have kc := kc.low hb2 kc.lt
  have bb := bb.trans (hb2.mono bb.size)
  clear hb2
  have ca0 := ka.cell 0
  have ca1 := ka.cell 1
  have cb0 := kb.cell 0
  have cb1 := kb.cell 1
  have cc0 := kc.cell 0
  have cc1 := kc.cell 1
  simp only [List.getElem?_toArray, List.getElem?_cons_zero, List.getElem?_cons_succ] at ca0 ca1 cb0 cb1 cc0 cc1
  go_wp2_with fail
  refine (C3.out _).mono ?_
  rintro e w3 ⟨rfl, hb3⟩
  clear ca0 ca1 cb0 cb1 cc0 cc1
  have ka := ka.low hb3 ka.lt
  have kb := kb.low hb3 kb.lt
  have kc := kc.low hb3 kc.lt
  have bb := bb.trans (hb3.mono bb.size)
  clear hb3
  have ca0 := ka.cell 0
  have ca1 := ka.cell 1
  have cb0 := kb.cell 0
  have cb1 := kb.cell 1
  have cc0 := kc.cell 0
  have cc1 := kc.cell 1
  simp only [List.getElem?_toArray, List.getElem?_cons_zero, List.getElem?_cons_succ] at ca0 ca1 cb0 cb1 cc0 cc1
  go_wp2_with fail
  refine (C4.out _).mono ?_
  rintro e w4 ⟨rfl, hb4⟩
  clear ca0 ca1 cb0 cb1 cc0 cc1
  have ka := ka.low hb4 ka.lt
  have kb := kb.low hb4 kb.lt
  have kc := kc.low hb4 kc.lt
  have bb := bb.trans (hb4.mono bb.size)
  clear hb4
  have ca0 := ka.cell 0
  have ca1 := ka.cell 1
  have cb0 := kb.cell 0
  have cb1 := kb.cell 1
  have cc0 := kc.cell 0
  have cc1 := kc.cell 1
  simp only [List.getElem?_toArray, List.getElem?_cons_zero, List.getElem?_cons_succ] at ca0 ca1 cb0 cb1 cc0 cc1
  go_wp2_with fail
  refine (awake_any _).mono ?_
  rintro e w5 ⟨rfl, hb5⟩
  clear ca0 ca1 cb0 cb1 cc0 cc1
  have ka := ka.low hb5 ka.lt
  have kb := kb.low hb5 kb.lt
  have kc := kc.low hb5 kc.lt
  have bb := bb.trans (hb5.mono bb.size)
  clear hb5
  have ca0 := ka.cell 0
  have ca1 := ka.cell 1
  have cb0 := kb.cell 0
  have cb1 := kb.cell 1
  have cc0 := kc.cell 0
  have cc1 := kc.cell 1
  simp only [List.getElem?_toArray, List.getElem?_cons_zero, List.getElem?_cons_succ] at ca0 ca1 cb0 cb1 cc0 cc1
  go_wp2_with fail
  refine (VA.out _).mono ?_
  rintro e w6 ⟨rfl, hb6⟩
  clear ca0 ca1 cb0 cb1 cc0 cc1
  have ka := ka.low hb6 ka.lt
  have kb := kb.low hb6 kb.lt
  have kc := kc.low hb6 kc.lt
  have bb := bb.trans (hb6.mono bb.size)
  clear hb6
  have ca0 := ka.cell 0
  have ca1 := ka.cell 1
  have cb0 := kb.cell 0
  have cb1 := kb.cell 1
  have cc0 := kc.cell 0
  have cc1 := kc.cell 1
  simp only [List.getElem?_toArray, List.getElem?_cons_zero, List.getElem?_cons_succ] at ca0 ca1 cb0 cb1 cc0 cc1
  go_wp2_with fail
  refine (VB.out _).mono ?_
  rintro e w7 ⟨rfl, hb7⟩
  clear ca0 ca1 cb0 cb1 cc0 cc1
  have ka := ka.low hb7 ka.lt
  have kb := kb.low hb7 kb.lt
  have kc := kc.low hb7 kc.lt
  have bb := bb.trans (hb7.mono bb.size)
  clear hb7
  go_wp2_with fail
  go_ret
  exact ⟨by simp, bb⟩

set_option maxRecDepth 100000 in
set_option maxHeartbeats 2000000 in
theorem ord_md_pm (an ad bn bd cn cd : Int) (w : World) (hn : (an == bn) = true) (hd : (ad == bd) = false) (C1 : Hid (∀ w, Calls Try.prog 26 #[.agg #[.int .i64 an, .int .i64 ad], .agg #[.int .i64 bn, .int .i64 bd]] w fun e w' => e = .returned (.tuple #[.int .i64 (-1), .int .i64 0]) ∧ Below w.heap.size w w')) (C2 : Hid (∀ w, Calls Try.prog 26 #[.agg #[.int .i64 bn, .int .i64 bd], .agg #[.int .i64 an, .int .i64 ad]] w fun e w' => e = .returned (.tuple #[.int .i64 1, .int .i64 0]) ∧ Below w.heap.size w w')) (C3 : Hid (∀ w, Calls Try.prog 26 #[.agg #[.int .i64 bn, .int .i64 bd], .agg #[.int .i64 cn, .int .i64 cd]] w fun e w' => e = .returned (.tuple #[.int .i64 1, .int .i64 0]) ∧ Below w.heap.size w w')) (C4 : Hid (∀ w, Calls Try.prog 26 #[.agg #[.int .i64 an, .int .i64 ad], .agg #[.int .i64 cn, .int .i64 cd]] w fun e w' => e = .returned (.tuple #[.int .i64 (-1), .int .i64 0]) ∧ Below w.heap.size w w')) (VA : Hid (∀ w, Calls Try.prog 17 #[.agg #[.int .i64 an, .int .i64 ad]] w fun e w' => e = .returned (.bool true) ∧ Below w.heap.size w w')) (VB : Hid (∀ w, Calls Try.prog 17 #[.agg #[.int .i64 bn, .int .i64 bd]] w fun e w' => e = .returned (.bool true) ∧ Below w.heap.size w w')) :
    Calls Try.prog 12 #[.agg #[.int .i64 an, .int .i64 ad], .agg #[.int .i64 bn, .int .i64 bd], .agg #[.int .i64 cn, .int .i64 cd]] w fun e w' => e = .returned (.bool true) ∧ Below w.heap.size w w' := by
  have bb := Below.refl w.heap.size w
  have ka := Blk.new w (w.heap.size) (by simp) 23 #[.int .i64 an, .int .i64 ad]
  have bb := bb.alloc bb.size (.cells #[.int .i64 an, .int .i64 ad] 23)
  have ka := ka.alloc (.cells #[.int .i64 bn, .int .i64 bd] 23)
  have kb := Blk.new (w.alloc (.cells #[.int .i64 an, .int .i64 ad] 23)) (w.heap.size + 1) (by simp) 23 #[.int .i64 bn, .int .i64 bd]
  have bb := bb.alloc bb.size (.cells #[.int .i64 bn, .int .i64 bd] 23)
  have ka := ka.alloc (.cells #[.int .i64 cn, .int .i64 cd] 23)
  have kb := kb.alloc (.cells #[.int .i64 cn, .int .i64 cd] 23)
  have kc := Blk.new ((w.alloc (.cells #[.int .i64 an, .int .i64 ad] 23)).alloc (.cells #[.int .i64 bn, .int .i64 bd] 23)) (w.heap.size + 1 + 1) (by simp) 23 #[.int .i64 cn, .int .i64 cd]
  have bb := bb.alloc bb.size (.cells #[.int .i64 cn, .int .i64 cd] 23)
  have ca0 := ka.cell 0
  have ca1 := ka.cell 1
  have cb0 := kb.cell 0
  have cb1 := kb.cell 1
  have cc0 := kc.cell 0
  have cc1 := kc.cell 1
  simp only [List.getElem?_toArray, List.getElem?_cons_zero, List.getElem?_cons_succ] at ca0 ca1 cb0 cb1 cc0 cc1
  go_enter Try.func12, Try.ntmps12
  go_wp2_with fail
  refine (C1.out _).mono ?_
  rintro e w1 ⟨rfl, hb1⟩
  clear ca0 ca1 cb0 cb1 cc0 cc1
  have ka := ka.low hb1 ka.lt
  have kb := kb.low hb1 kb.lt
  have kc := kc.low hb1 kc.lt
  have bb := bb.trans (hb1.mono bb.size)
  clear hb1
  have ca0 := ka.cell 0
  have ca1 := ka.cell 1
  have cb0 := kb.cell 0
  have cb1 := kb.cell 1
  have cc0 := kc.cell 0
  have cc1 := kc.cell 1
  simp only [List.getElem?_toArray, List.getElem?_cons_zero, List.getElem?_cons_succ] at ca0 ca1 cb0 cb1 cc0 cc1
  go_wp2_with fail
  refine (C2.out _).mono ?_
  rintro e w2 ⟨rfl, hb2⟩
  clear ca0 ca1 cb0 cb1 cc0 cc1
  have ka := ka.low hb2 ka.lt
  have kb := kb.low hb2 kb.lt
  have kc := kc.low hb2 kc.lt
  have bb := bb.trans (hb2.mono bb.size)
  clear hb2
  have ca0 := ka.cell 0
  have ca1 := ka.cell 1
  have cb0 := kb.cell 0
  have cb1 := kb.cell 1
  have cc0 := kc.cell 0
  have cc1 := kc.cell 1
  simp only [List.getElem?_toArray, List.getElem?_cons_zero, List.getElem?_cons_succ] at ca0 ca1 cb0 cb1 cc0 cc1
  go_wp2_with fail
  refine (C3.out _).mono ?_
  rintro e w3 ⟨rfl, hb3⟩
  clear ca0 ca1 cb0 cb1 cc0 cc1
  have ka := ka.low hb3 ka.lt
  have kb := kb.low hb3 kb.lt
  have kc := kc.low hb3 kc.lt
  have bb := bb.trans (hb3.mono bb.size)
  clear hb3
  have ca0 := ka.cell 0
  have ca1 := ka.cell 1
  have cb0 := kb.cell 0
  have cb1 := kb.cell 1
  have cc0 := kc.cell 0
  have cc1 := kc.cell 1
  simp only [List.getElem?_toArray, List.getElem?_cons_zero, List.getElem?_cons_succ] at ca0 ca1 cb0 cb1 cc0 cc1
  go_wp2_with fail
  refine (C4.out _).mono ?_
  rintro e w4 ⟨rfl, hb4⟩
  clear ca0 ca1 cb0 cb1 cc0 cc1
  have ka := ka.low hb4 ka.lt
  have kb := kb.low hb4 kb.lt
  have kc := kc.low hb4 kc.lt
  have bb := bb.trans (hb4.mono bb.size)
  clear hb4
  have ca0 := ka.cell 0
  have ca1 := ka.cell 1
  have cb0 := kb.cell 0
  have cb1 := kb.cell 1
  have cc0 := kc.cell 0
  have cc1 := kc.cell 1
  simp only [List.getElem?_toArray, List.getElem?_cons_zero, List.getElem?_cons_succ] at ca0 ca1 cb0 cb1 cc0 cc1
  go_wp2_with fail
  refine (awake_any _).mono ?_
  rintro e w5 ⟨rfl, hb5⟩
  clear ca0 ca1 cb0 cb1 cc0 cc1
  have ka := ka.low hb5 ka.lt
  have kb := kb.low hb5 kb.lt
  have kc := kc.low hb5 kc.lt
  have bb := bb.trans (hb5.mono bb.size)
  clear hb5
  have ca0 := ka.cell 0
  have ca1 := ka.cell 1
  have cb0 := kb.cell 0
  have cb1 := kb.cell 1
  have cc0 := kc.cell 0
  have cc1 := kc.cell 1
  simp only [List.getElem?_toArray, List.getElem?_cons_zero, List.getElem?_cons_succ] at ca0 ca1 cb0 cb1 cc0 cc1
  go_wp2_with fail
  refine (VA.out _).mono ?_
  rintro e w6 ⟨rfl, hb6⟩
  clear ca0 ca1 cb0 cb1 cc0 cc1
  have ka := ka.low hb6 ka.lt
  have kb := kb.low hb6 kb.lt
  have kc := kc.low hb6 kc.lt
  have bb := bb.trans (hb6.mono bb.size)
  clear hb6
  have ca0 := ka.cell 0
  have ca1 := ka.cell 1
  have cb0 := kb.cell 0
  have cb1 := kb.cell 1
  have cc0 := kc.cell 0
  have cc1 := kc.cell 1
  simp only [List.getElem?_toArray, List.getElem?_cons_zero, List.getElem?_cons_succ] at ca0 ca1 cb0 cb1 cc0 cc1
  go_wp2_with fail
  refine (VB.out _).mono ?_
  rintro e w7 ⟨rfl, hb7⟩
  clear ca0 ca1 cb0 cb1 cc0 cc1
  have ka := ka.low hb7 ka.lt
  have kb := kb.low hb7 kb.lt
  have kc := kc.low hb7 kc.lt
  have bb := bb.trans (hb7.mono bb.size)
  clear hb7
  go_wp2_with fail
  go_ret
  exact ⟨by simp, bb⟩

set_option maxRecDepth 100000 in
set_option maxHeartbeats 2000000 in
theorem ord_md_pz (an ad bn bd cn cd : Int) (w : World) (hn : (an == bn) = true) (hd : (ad == bd) = false) (C1 : Hid (∀ w, Calls Try.prog 26 #[.agg #[.int .i64 an, .int .i64 ad], .agg #[.int .i64 bn, .int .i64 bd]] w fun e w' => e = .returned (.tuple #[.int .i64 (-1), .int .i64 0]) ∧ Below w.heap.size w w')) (C2 : Hid (∀ w, Calls Try.prog 26 #[.agg #[.int .i64 bn, .int .i64 bd], .agg #[.int .i64 an, .int .i64 ad]] w fun e w' => e = .returned (.tuple #[.int .i64 1, .int .i64 0]) ∧ Below w.heap.size w w')) (C3 : Hid (∀ w, Calls Try.prog 26 #[.agg #[.int .i64 bn, .int .i64 bd], .agg #[.int .i64 cn, .int .i64 cd]] w fun e w' => e = .returned (.tuple #[.int .i64 1, .int .i64 0]) ∧ Below w.heap.size w w')) (C4 : Hid (∀ w, Calls Try.prog 26 #[.agg #[.int .i64 an, .int .i64 ad], .agg #[.int .i64 cn, .int .i64 cd]] w fun e w' => e = .returned (.tuple #[.int .i64 0, .int .i64 0]) ∧ Below w.heap.size w w')) (VA : Hid (∀ w, Calls Try.prog 17 #[.agg #[.int .i64 an, .int .i64 ad]] w fun e w' => e = .returned (.bool true) ∧ Below w.heap.size w w')) (VB : Hid (∀ w, Calls Try.prog 17 #[.agg #[.int .i64 bn, .int .i64 bd]] w fun e w' => e = .returned (.bool true) ∧ Below w.heap.size w w')) :
    Calls Try.prog 12 #[.agg #[.int .i64 an, .int .i64 ad], .agg #[.int .i64 bn, .int .i64 bd], .agg #[.int .i64 cn, .int .i64 cd]] w fun e w' => e = .returned (.bool true) ∧ Below w.heap.size w w' := by
  have bb := Below.refl w.heap.size w
  have ka := Blk.new w (w.heap.size) (by simp) 23 #[.int .i64 an, .int .i64 ad]
  have bb := bb.alloc bb.size (.cells #[.int .i64 an, .int .i64 ad] 23)
  have ka := ka.alloc (.cells #[.int .i64 bn, .int .i64 bd] 23)
  have kb := Blk.new (w.alloc (.cells #[.int .i64 an, .int .i64 ad] 23)) (w.heap.size + 1) (by simp) 23 #[.int .i64 bn, .int .i64 bd]
  have bb := bb.alloc bb.size (.cells #[.int .i64 bn, .int .i64 bd] 23)
  have ka := ka.alloc (.cells #[.int .i64 cn, .int .i64 cd] 23)
  have kb := kb.alloc (.cells #[.int .i64 cn, .int .i64 cd] 23)
  have kc := Blk.new ((w.alloc (.cells #[.int .i64 an, .int .i64 ad] 23)).alloc (.cells #[.int .i64 bn, .int .i64 bd] 23)) (w.heap.size + 1 + 1) (by simp) 23 #[.int .i64 cn, .int .i64 cd]
  have bb := bb.alloc bb.size (.cells #[.int .i64 cn, .int .i64 cd] 23)
  have ca0 := ka.cell 0
  have ca1 := ka.cell 1
  have cb0 := kb.cell 0
  have cb1 := kb.cell 1
  have cc0 := kc.cell 0
  have cc1 := kc.cell 1
  simp only [List.getElem?_toArray, List.getElem?_cons_zero, List.getElem?_cons_succ] at ca0 ca1 cb0 cb1 cc0 cc1
  go_enter Try.func12, Try.ntmps12
  go_wp2_with fail
  refine (C1.out _).mono ?_
  rintro e w1 ⟨rfl, hb1⟩
  clear ca0 ca1 cb0 cb1 cc0 cc1
  have ka := ka.low hb1 ka.lt
  have kb := kb.low hb1 kb.lt
  have kc := kc.low hb1 kc.lt
  have bb := bb.trans (hb1.mono bb.size)
  clear hb1
  have ca0 := ka.cell 0
  have ca1 := ka.cell 1
  have cb0 := kb.cell 0
  have cb1 := kb.cell 1
  have cc0 := kc.cell 0
  have cc1 := kc.cell 1
  simp only [List.getElem?_toArray, List.getElem?_cons_zero, List.getElem?_cons_succ] at ca0 ca1 cb0 cb1 cc0 cc1
  go_wp2_with fail
  refine (C2.out _).mono ?_
  rintro e w2 ⟨rfl, hb2⟩
  clear ca0 ca1 cb0 cb1 cc0 cc1
  have ka := ka.low hb2 ka.lt
  have kb := kb.low hb2 kb.lt
  have kc := kc.low hb2 kc.lt
  have bb := bb.trans (hb2.mono bb.size)
  clear hb2
  have ca0 := ka.cell 0
  have ca1 := ka.cell 1
  have cb0 := kb.cell 0
  have cb1 := kb.cell 1
  have cc0 := kc.cell 0
  have cc1 := kc.cell 1
  simp only [List.getElem?_toArray, List.getElem?_cons_zero, List.getElem?_cons_succ] at ca0 ca1 cb0 cb1 cc0 cc1
  go_wp2_with fail
  refine (C3.out _).mono ?_
  rintro e w3 ⟨rfl, hb3⟩
  clear ca0 ca1 cb0 cb1 cc0 cc1
  have ka := ka.low hb3 ka.lt
  have kb := kb.low hb3 kb.lt
  have kc := kc.low hb3 kc.lt
  have bb := bb.trans (hb3.mono bb.size)
  clear hb3
  have ca0 := ka.cell 0
  have ca1 := ka.cell 1
  have cb0 := kb.cell 0
  have cb1 := kb.cell 1
  have cc0 := kc.cell 0
  have cc1 := kc.cell 1
  simp only [List.getElem?_toArray, List.getElem?_cons_zero, List.getElem?_cons_succ] at ca0 ca1 cb0 cb1 cc0 cc1
  go_wp2_with fail
  refine (C4.out _).mono ?_
  rintro e w4 ⟨rfl, hb4⟩
  clear ca0 ca1 cb0 cb1 cc0 cc1
  have ka := ka.low hb4 ka.lt
  have kb := kb.low hb4 kb.lt
  have kc := kc.low hb4 kc.lt
  have bb := bb.trans (hb4.mono bb.size)
  clear hb4
  have ca0 := ka.cell 0
  have ca1 := ka.cell 1
  have cb0 := kb.cell 0
  have cb1 := kb.cell 1
  have cc0 := kc.cell 0
  have cc1 := kc.cell 1
  simp only [List.getElem?_toArray, List.getElem?_cons_zero, List.getElem?_cons_succ] at ca0 ca1 cb0 cb1 cc0 cc1
  go_wp2_with fail
  refine (awake_any _).mono ?_
  rintro e w5 ⟨rfl, hb5⟩
  clear ca0 ca1 cb0 cb1 cc0 cc1
  have ka := ka.low hb5 ka.lt
  have kb := kb.low hb5 kb.lt
  have kc := kc.low hb5 kc.lt
  have bb := bb.trans (hb5.mono bb.size)
  clear hb5
  have ca0 := ka.cell 0
  have ca1 := ka.cell 1
  have cb0 := kb.cell 0
  have cb1 := kb.cell 1
  have cc0 := kc.cell 0
  have cc1 := kc.cell 1
  simp only [List.getElem?_toArray, List.getElem?_cons_zero, List.getElem?_cons_succ] at ca0 ca1 cb0 cb1 cc0 cc1
  go_wp2_with fail
  refine (VA.out _).mono ?_
  rintro e w6 ⟨rfl, hb6⟩
  clear ca0 ca1 cb0 cb1 cc0 cc1
  have ka := ka.low hb6 ka.lt
  have kb := kb.low hb6 kb.lt
  have kc := kc.low hb6 kc.lt
  have bb := bb.trans (hb6.mono bb.size)
  clear hb6
  have ca0 := ka.cell 0
  have ca1 := ka.cell 1
  have cb0 := kb.cell 0
  have cb1 := kb.cell 1
  have cc0 := kc.cell 0
  have cc1 := kc.cell 1
  simp only [List.getElem?_toArray, List.getElem?_cons_zero, List.getElem?_cons_succ] at ca0 ca1 cb0 cb1 cc0 cc1
  go_wp2_with fail
  refine (VB.out _).mono ?_
  rintro e w7 ⟨rfl, hb7⟩
  clear ca0 ca1 cb0 cb1 cc0 cc1
  have ka := ka.low hb7 ka.lt
  have kb := kb.low hb7 kb.lt
  have kc := kc.low hb7 kc.lt
  have bb := bb.trans (hb7.mono bb.size)
  clear hb7
  go_wp2_with fail
  go_ret
  exact ⟨by simp, bb⟩

set_option maxRecDepth 100000 in
set_option maxHeartbeats 2000000 in
theorem ord_z_mm (an ad cn cd : Int) (w : World) (C1 : Hid (∀ w, Calls Try.prog 26 #[.agg #[.int .i64 an, .int .i64 ad], .agg #[.int .i64 an, .int .i64 ad]] w fun e w' => e = .returned (.tuple #[.int .i64 0, .int .i64 0]) ∧ Below w.heap.size w w')) (C2 : Hid (∀ w, Calls Try.prog 26 #[.agg #[.int .i64 an, .int .i64 ad], .agg #[.int .i64 an, .int .i64 ad]] w fun e w' => e = .returned (.tuple #[.int .i64 0, .int .i64 0]) ∧ Below w.heap.size w w')) (C3 : Hid (∀ w, Calls Try.prog 26 #[.agg #[.int .i64 an, .int .i64 ad], .agg #[.int .i64 cn, .int .i64 cd]] w fun e w' => e = .returned (.tuple #[.int .i64 (-1), .int .i64 0]) ∧ Below w.heap.size w w')) (C4 : Hid (∀ w, Calls Try.prog 26 #[.agg #[.int .i64 an, .int .i64 ad], .agg #[.int .i64 cn, .int .i64 cd]] w fun e w' => e = .returned (.tuple #[.int .i64 (-1), .int .i64 0]) ∧ Below w.heap.size w w')) (VA : Hid (∀ w, Calls Try.prog 17 #[.agg #[.int .i64 an, .int .i64 ad]] w fun e w' => e = .returned (.bool true) ∧ Below w.heap.size w w'))  :
    Calls Try.prog 12 #[.agg #[.int .i64 an, .int .i64 ad], .agg #[.int .i64 an, .int .i64 ad], .agg #[.int .i64 cn, .int .i64 cd]] w fun e w' => e = .returned (.bool true) ∧ Below w.heap.size w w' := by
  have bb := Below.refl w.heap.size w
  have ka := Blk.new w (w.heap.size) (by simp) 23 #[.int .i64 an, .int .i64 ad]
  have bb := bb.alloc bb.size (.cells #[.int .i64 an, .int .i64 ad] 23)
  have ka := ka.alloc (.cells #[.int .i64 an, .int .i64 ad] 23)
  have kb := Blk.new (w.alloc (.cells #[.int .i64 an, .int .i64 ad] 23)) (w.heap.size + 1) (by simp) 23 #[.int .i64 an, .int .i64 ad]
  have bb := bb.alloc bb.size (.cells #[.int .i64 an, .int .i64 ad] 23)
  have ka := ka.alloc (.cells #[.int .i64 cn, .int .i64 cd] 23)
  have kb := kb.alloc (.cells #[.int .i64 cn, .int .i64 cd] 23)
  have kc := Blk.new ((w.alloc (.cells #[.int .i64 an, .int .i64 ad] 23)).alloc (.cells #[.int .i64 an, .int .i64 ad] 23)) (w.heap.size + 1 + 1) (by simp) 23 #[.int .i64 cn, .int .i64 cd]
  have bb := bb.alloc bb.size (.cells #[.int .i64 cn, .int .i64 cd] 23)
  have ca0 := ka.cell 0
  have ca1 := ka.cell 1
  have cb0 := kb.cell 0
  have cb1 := kb.cell 1
  have cc0 := kc.cell 0
  have cc1 := kc.cell 1
  simp only [List.getElem?_toArray, List.getElem?_cons_zero, List.getElem?_cons_succ] at ca0 ca1 cb0 cb1 cc0 cc1
  go_enter Try.func12, Try.ntmps12
  go_wp2_with fail
  refine (C1.out _).mono ?_
  rintro e w1 ⟨rfl, hb1⟩
  clear ca0 ca1 cb0 cb1 cc0 cc1
  have ka := ka.low hb1 ka.lt
  have kb := kb.low hb1 kb.lt
  have kc := kc.low hb1 kc.lt
  have bb := bb.trans (hb1.mono bb.size)
  clear hb1
  have ca0 := ka.cell 0
  have ca1 := ka.cell 1
  have cb0 := kb.cell 0
  have cb1 := kb.cell 1
  have cc0 := kc.cell 0
  have cc1 := kc.cell 1
  simp only [List.getElem?_toArray, List.getElem?_cons_zero, List.getElem?_cons_succ] at ca0 ca1 cb0 cb1 cc0 cc1
  go_wp2_with fail
  refine (C2.out _).mono ?_
  rintro e w2 ⟨rfl, hb2⟩
  clear ca0 ca1 cb0 cb1 cc0 cc1
  have ka := ka.low hb2 ka.lt
  have kb := kb.low hb2 kb.lt
  have kc := kc.low hb2 kc.lt
  have bb := bb.trans (hb2.mono bb.size)
  clear hb2
  have ca0 := ka.cell 0
  have ca1 := ka.cell 1
  have cb0 := kb.cell 0
  have cb1 := kb.cell 1
  have cc0 := kc.cell 0
  have cc1 := kc.cell 1
  simp only [List.getElem?_toArray, List.getElem?_cons_zero, List.getElem?_cons_succ] at ca0 ca1 cb0 cb1 cc0 cc1
  go_wp2_with fail
  refine (C3.out _).mono ?_
  rintro e w3 ⟨rfl, hb3⟩
  clear ca0 ca1 cb0 cb1 cc0 cc1
  have ka := ka.low hb3 ka.lt
  have kb := kb.low hb3 kb.lt
  have kc := kc.low hb3 kc.lt
  have bb := bb.trans (hb3.mono bb.size)
  clear hb3
  have ca0 := ka.cell 0
  have ca1 := ka.cell 1
  have cb0 := kb.cell 0
  have cb1 := kb.cell 1
  have cc0 := kc.cell 0
  have cc1 := kc.cell 1
  simp only [List.getElem?_toArray, List.getElem?_cons_zero, List.getElem?_cons_succ] at ca0 ca1 cb0 cb1 cc0 cc1
  go_wp2_with fail
  refine (C4.out _).mono ?_
  rintro e w4 ⟨rfl, hb4⟩
  clear ca0 ca1 cb0 cb1 cc0 cc1
  have ka := ka.low hb4 ka.lt
  have kb := kb.low hb4 kb.lt
  have kc := kc.low hb4 kc.lt
  have bb := bb.trans (hb4.mono bb.size)
  clear hb4
  have ca0 := ka.cell 0
  have ca1 := ka.cell 1
  have cb0 := kb.cell 0
  have cb1 := kb.cell 1
  have cc0 := kc.cell 0
  have cc1 := kc.cell 1
  simp only [List.getElem?_toArray, List.getElem?_cons_zero, List.getElem?_cons_succ] at ca0 ca1 cb0 cb1 cc0 cc1
  go_wp2_with fail
  refine (awake_any _).mono ?_
  rintro e w5 ⟨rfl, hb5⟩
  clear ca0 ca1 cb0 cb1 cc0 cc1
  have ka := ka.low hb5 ka.lt
  have kb := kb.low hb5 kb.lt
  have kc := kc.low hb5 kc.lt
  have bb := bb.trans (hb5.mono bb.size)
  clear hb5
  have ca0 := ka.cell 0
  have ca1 := ka.cell 1
  have cb0 := kb.cell 0
  have cb1 := kb.cell 1
  have cc0 := kc.cell 0
  have cc1 := kc.cell 1
  simp only [List.getElem?_toArray, List.getElem?_cons_zero, List.getElem?_cons_succ] at ca0 ca1 cb0 cb1 cc0 cc1
  go_wp2_with fail
  refine (VA.out _).mono ?_
  rintro e w6 ⟨rfl, hb6⟩
  clear ca0 ca1 cb0 cb1 cc0 cc1
  have ka := ka.low hb6 ka.lt
  have kb := kb.low hb6 kb.lt
  have kc := kc.low hb6 kc.lt
  have bb := bb.trans (hb6.mono bb.size)
  clear hb6
  have ca0 := ka.cell 0
  have ca1 := ka.cell 1
  have cb0 := kb.cell 0
  have cb1 := kb.cell 1
  have cc0 := kc.cell 0
  have cc1 := kc.cell 1
  simp only [List.getElem?_toArray, List.getElem?_cons_zero, List.getElem?_cons_succ] at ca0 ca1 cb0 cb1 cc0 cc1
  go_wp2_with fail
  refine (VA.out _).mono ?_
  rintro e w7 ⟨rfl, hb7⟩
  clear ca0 ca1 cb0 cb1 cc0 cc1
  have ka := ka.low hb7 ka.lt
  have kb := kb.low hb7 kb.lt
  have kc := kc.low hb7 kc.lt
  have bb := bb.trans (hb7.mono bb.size)
  clear hb7
  go_wp2_with fail
  go_ret
  exact ⟨by simp, bb⟩

set_option maxRecDepth 100000 in
set_option maxHeartbeats 2000000 in
theorem ord_z_zz (an ad cn cd : Int) (w : World) (C1 : Hid (∀ w, Calls Try.prog 26 #[.agg #[.int .i64 an, .int .i64 ad], .agg #[.int .i64 an, .int .i64 ad]] w fun e w' => e = .returned (.tuple #[.int .i64 0, .int .i64 0]) ∧ Below w.heap.size w w')) (C2 : Hid (∀ w, Calls Try.prog 26 #[.agg #[.int .i64 an, .int .i64 ad], .agg #[.int .i64 an, .int .i64 ad]] w fun e w' => e = .returned (.tuple #[.int .i64 0, .int .i64 0]) ∧ Below w.heap.size w w')) (C3 : Hid (∀ w, Calls Try.prog 26 #[.agg #[.int .i64 an, .int .i64 ad], .agg #[.int .i64 cn, .int .i64 cd]] w fun e w' => e = .returned (.tuple #[.int .i64 0, .int .i64 0]) ∧ Below w.heap.size w w')) (C4 : Hid (∀ w, Calls Try.prog 26 #[.agg #[.int .i64 an, .int .i64 ad], .agg #[.int .i64 cn, .int .i64 cd]] w fun e w' => e = .returned (.tuple #[.int .i64 0, .int .i64 0]) ∧ Below w.heap.size w w')) (VA : Hid (∀ w, Calls Try.prog 17 #[.agg #[.int .i64 an, .int .i64 ad]] w fun e w' => e = .returned (.bool true) ∧ Below w.heap.size w w'))  :
    Calls Try.prog 12 #[.agg #[.int .i64 an, .int .i64 ad], .agg #[.int .i64 an, .int .i64 ad], .agg #[.int .i64 cn, .int .i64 cd]] w fun e w' => e = .returned (.bool true) ∧ Below w.heap.size w w' := by
  have bb := Below.refl w.heap.size w
  have ka := Blk.new w (w.heap.size) (by simp) 23 #[.int .i64 an, .int .i64 ad]
  have bb := bb.alloc bb.size (.cells #[.int .i64 an, .int .i64 ad] 23)
  have ka := ka.alloc (.cells #[.int .i64 an, .int .i64 ad] 23)
  have kb := Blk.new (w.alloc (.cells #[.int .i64 an, .int .i64 ad] 23)) (w.heap.size + 1) (by simp) 23 #[.int .i64 an, .int .i64 ad]
  have bb := bb.alloc bb.size (.cells #[.int .i64 an, .int .i64 ad] 23)
  have ka := ka.alloc (.cells #[.int .i64 cn, .int .i64 cd] 23)
  have kb := kb.alloc (.cells #[.int .i64 cn, .int .i64 cd] 23)
  have kc := Blk.new ((w.alloc (.cells #[.int .i64 an, .int .i64 ad] 23)).alloc (.cells #[.int .i64 an, .int .i64 ad] 23)) (w.heap.size + 1 + 1) (by simp) 23 #[.int .i64 cn, .int .i64 cd]
  have bb := bb.alloc bb.size (.cells #[.int .i64 cn, .int .i64 cd] 23)
  have ca0 := ka.cell 0
  have ca1 := ka.cell 1
  have cb0 := kb.cell 0
  have cb1 := kb.cell 1
  have cc0 := kc.cell 0
  have cc1 := kc.cell 1
  simp only [List.getElem?_toArray, List.getElem?_cons_zero, List.getElem?_cons_succ] at ca0 ca1 cb0 cb1 cc0 cc1
  go_enter Try.func12, Try.ntmps12
  go_wp2_with fail
  refine (C1.out _).mono ?_
  rintro e w1 ⟨rfl, hb1⟩
  clear ca0 ca1 cb0 cb1 cc0 cc1
  have ka := ka.low hb1 ka.lt
  have kb := kb.low hb1 kb.lt
  have kc := kc.low hb1 kc.lt
  have bb := bb.trans (hb1.mono bb.size)
  clear hb1
  have ca0 := ka.cell 0
  have ca1 := ka.cell 1
  have cb0 := kb.cell 0
  have cb1 := kb.cell 1
  have cc0 := kc.cell 0
  have cc1 := kc.cell 1
  simp only [List.getElem?_toArray, List.getElem?_cons_zero, List.getElem?_cons_succ] at ca0 ca1 cb0 cb1 cc0 cc1
  go_wp2_with fail
  refine (C2.out _).mono ?_
  rintro e w2 ⟨rfl, hb2⟩
  clear ca0 ca1 cb0 cb1 cc0 cc1
  have ka := ka.low hb2 ka.lt
  have kb := kb.low hb2 kb.lt
  have kc := kc.low hb2 kc.lt
  have bb := bb.trans (hb2.mono bb.size)
  clear hb2
  have ca0 := ka.cell 0
  have ca1 := ka.cell 1
  have cb0 := kb.cell 0
  have cb1 := kb.cell 1
  have cc0 := kc.cell 0
  have cc1 := kc.cell 1
  simp only [List.getElem?_toArray, List.getElem?_cons_zero, List.getElem?_cons_succ] at ca0 ca1 cb0 cb1 cc0 cc1
  go_wp2_with fail
  refine (C3.out _).mono ?_
  rintro e w3 ⟨rfl, hb3⟩
  clear ca0 ca1 cb0 cb1 cc0 cc1
  have ka := ka.low hb3 ka.lt
  have kb := kb.low hb3 kb.lt
  have kc := kc.low hb3 kc.lt
  have bb := bb.trans (hb3.mono bb.size)
  clear hb3
  have ca0 := ka.cell 0
  have ca1 := ka.cell 1
  have cb0 := kb.cell 0
  have cb1 := kb.cell 1
  have cc0 := kc.cell 0
  have cc1 := kc.cell 1
  simp only [List.getElem?_toArray, List.getElem?_cons_zero, List.getElem?_cons_succ] at ca0 ca1 cb0 cb1 cc0 cc1
  go_wp2_with fail
  refine (C4.out _).mono ?_
  rintro e w4 ⟨rfl, hb4⟩
  clear ca0 ca1 cb0 cb1 cc0 cc1
  have ka := ka.low hb4 ka.lt
  have kb := kb.low hb4 kb.lt
  have kc := kc.low hb4 kc.lt
  have bb := bb.trans (hb4.mono bb.size)
  clear hb4
  have ca0 := ka.cell 0
  have ca1 := ka.cell 1
  have cb0 := kb.cell 0
  have cb1 := kb.cell 1
  have cc0 := kc.cell 0
  have cc1 := kc.cell 1
  simp only [List.getElem?_toArray, List.getElem?_cons_zero, List.getElem?_cons_succ] at ca0 ca1 cb0 cb1 cc0 cc1
  go_wp2_with fail
  refine (awake_any _).mono ?_
  rintro e w5 ⟨rfl, hb5⟩
  clear ca0 ca1 cb0 cb1 cc0 cc1
  have ka := ka.low hb5 ka.lt
  have kb := kb.low hb5 kb.lt
  have kc := kc.low hb5 kc.lt
  have bb := bb.trans (hb5.mono bb.size)
  clear hb5
  have ca0 := ka.cell 0
  have ca1 := ka.cell 1
  have cb0 := kb.cell 0
  have cb1 := kb.cell 1
  have cc0 := kc.cell 0
  have cc1 := kc.cell 1
  simp only [List.getElem?_toArray, List.getElem?_cons_zero, List.getElem?_cons_succ] at ca0 ca1 cb0 cb1 cc0 cc1
  go_wp2_with fail
  refine (VA.out _).mono ?_
  rintro e w6 ⟨rfl, hb6⟩
  clear ca0 ca1 cb0 cb1 cc0 cc1
  have ka := ka.low hb6 ka.lt
  have kb := kb.low hb6 kb.lt
  have kc := kc.low hb6 kc.lt
  have bb := bb.trans (hb6.mono bb.size)
  clear hb6
  have ca0 := ka.cell 0
  have ca1 := ka.cell 1
  have cb0 := kb.cell 0
  have cb1 := kb.cell 1
  have cc0 := kc.cell 0
  have cc1 := kc.cell 1
  simp only [List.getElem?_toArray, List.getElem?_cons_zero, List.getElem?_cons_succ] at ca0 ca1 cb0 cb1 cc0 cc1
  go_wp2_with fail
  refine (VA.out _).mono ?_
  rintro e w7 ⟨rfl, hb7⟩
  clear ca0 ca1 cb0 cb1 cc0 cc1
  have ka := ka.low hb7 ka.lt
  have kb := kb.low hb7 kb.lt
  have kc := kc.low hb7 kc.lt
  have bb := bb.trans (hb7.mono bb.size)
  clear hb7
  go_wp2_with fail
  go_ret
  exact ⟨by simp, bb⟩

set_option maxRecDepth 100000 in
set_option maxHeartbeats 2000000 in
theorem ord_pn_mm (an ad bn bd cn cd : Int) (w : World) (hn : (an == bn) = false) (C1 : Hid (∀ w, Calls Try.prog 26 #[.agg #[.int .i64 an, .int .i64 ad], .agg #[.int .i64 bn, .int .i64 bd]] w fun e w' => e = .returned (.tuple #[.int .i64 1, .int .i64 0]) ∧ Below w.heap.size w w')) (C2 : Hid (∀ w, Calls Try.prog 26 #[.agg #[.int .i64 bn, .int .i64 bd], .agg #[.int .i64 an, .int .i64 ad]] w fun e w' => e = .returned (.tuple #[.int .i64 (-1), .int .i64 0]) ∧ Below w.heap.size w w')) (C3 : Hid (∀ w, Calls Try.prog 26 #[.agg #[.int .i64 bn, .int .i64 bd], .agg #[.int .i64 cn, .int .i64 cd]] w fun e w' => e = .returned (.tuple #[.int .i64 (-1), .int .i64 0]) ∧ Below w.heap.size w w')) (C4 : Hid (∀ w, Calls Try.prog 26 #[.agg #[.int .i64 an, .int .i64 ad], .agg #[.int .i64 cn, .int .i64 cd]] w fun e w' => e = .returned (.tuple #[.int .i64 (-1), .int .i64 0]) ∧ Below w.heap.size w w')) (VA : Hid (∀ w, Calls Try.prog 17 #[.agg #[.int .i64 an, .int .i64 ad]] w fun e w' => e = .returned (.bool true) ∧ Below w.heap.size w w')) (VB : Hid (∀ w, Calls Try.prog 17 #[.agg #[.int .i64 bn, .int .i64 bd]] w fun e w' => e = .returned (.bool true) ∧ Below w.heap.size w w')) :
    Calls Try.prog 12 #[.agg #[.int .i64 an, .int .i64 ad], .agg #[.int .i64 bn, .int .i64 bd], .agg #[.int .i64 cn, .int .i64 cd]] w fun e w' => e = .returned (.bool true) ∧ Below w.heap.size w w' := by
  have bb := Below.refl w.heap.size w
  have ka := Blk.new w (w.heap.size) (by simp) 23 #[.int .i64 an, .int .i64 ad]
  have bb := bb.alloc bb.size (.cells #[.int .i64 an, .int .i64 ad] 23)
  have ka := ka.alloc (.cells #[.int .i64 bn, .int .i64 bd] 23)
  have kb := Blk.new (w.alloc (.cells #[.int .i64 an, .int .i64 ad] 23)) (w.heap.size + 1) (by simp) 23 #[.int .i64 bn, .int .i64 bd]
  have bb := bb.alloc bb.size (.cells #[.int .i64 bn, .int .i64 bd] 23)
  have ka := ka.alloc (.cells #[.int .i64 cn, .int .i64 cd] 23)
  have kb := kb.alloc (.cells #[.int .i64 cn, .int .i64 cd] 23)
  have kc := Blk.new ((w.alloc (.cells #[.int .i64 an, .int .i64 ad] 23)).alloc (.cells #[.int .i64 bn, .int .i64 bd] 23)) (w.heap.size + 1 + 1) (by simp) 23 #[.int .i64 cn, .int .i64 cd]
  have bb := bb.alloc bb.size (.cells #[.int .i64 cn, .int .i64 cd] 23)
  have ca0 := ka.cell 0
  have ca1 := ka.cell 1
  have cb0 := kb.cell 0
  have cb1 := kb.cell 1
  have cc0 := kc.cell 0
  have cc1 := kc.cell 1
  simp only [List.getElem?_toArray, List.getElem?_cons_zero, List.getElem?_cons_succ] at ca0 ca1 cb0 cb1 cc0 cc1
  go_enter Try.func12, Try.ntmps12
  go_wp2_with fail
  refine (C1.out _).mono ?_
  rintro e w1 ⟨rfl, hb1⟩
  clear ca0 ca1 cb0 cb1 cc0 cc1
  have ka := ka.low hb1 ka.lt
  have kb := kb.low hb1 kb.lt
  have kc := kc.low hb1 kc.lt
  have bb := bb.trans (hb1.mono bb.size)
  clear hb1
  have ca0 := ka.cell 0
  have ca1 := ka.cell 1
  have cb0 := kb.cell 0
  have cb1 := kb.cell 1
  have cc0 := kc.cell 0
  have cc1 := kc.cell 1
  simp only [List.getElem?_toArray, List.getElem?_cons_zero, List.getElem?_cons_succ] at ca0 ca1 cb0 cb1 cc0 cc1
  go_wp2_with fail
  refine (C2.out _).mono ?_
  rintro e w2 ⟨rfl, hb2⟩
  clear ca0 ca1 cb0 cb1 cc0 cc1
  have ka := ka.low hb2 ka.lt
  have kb := kb.low hb2 kb.lt
  have kc := kc.low hb2 kc.lt
  have bb := bb.trans (hb2.mono bb.size)
  clear hb2
  have ca0 := ka.cell 0
  have ca1 := ka.cell 1
  have cb0 := kb.cell 0
  have cb1 := kb.cell 1
  have cc0 := kc.cell 0
  have cc1 := kc.cell 1
  simp only [List.getElem?_toArray, List.getElem?_cons_zero, List.getElem?_cons_succ] at ca0 ca1 cb0 cb1 cc0 cc1
  go_wp2_with fail
  refine (C3.out _).mono ?_
  rintro e w3 ⟨rfl, hb3⟩
  clear ca0 ca1 cb0 cb1 cc0 cc1
  have ka := ka.low hb3 ka.lt
  have kb := kb.low hb3 kb.lt
  have kc := kc.low hb3 kc.lt
  have bb := bb.trans (hb3.mono bb.size)
  clear hb3
  have ca0 := ka.cell 0
  have ca1 := ka.cell 1
  have cb0 := kb.cell 0
  have cb1 := kb.cell 1
  have cc0 := kc.cell 0
  have cc1 := kc.cell 1
  simp only [List.getElem?_toArray, List.getElem?_cons_zero, List.getElem?_cons_succ] at ca0 ca1 cb0 cb1 cc0 cc1
  go_wp2_with fail
  refine (C4.out _).mono ?_
  rintro e w4 ⟨rfl, hb4⟩
  clear ca0 ca1 cb0 cb1 cc0 cc1
  have ka := ka.low hb4 ka.lt
  have kb := kb.low hb4 kb.lt
  have kc := kc.low hb4 kc.lt
  have bb := bb.trans (hb4.mono bb.size)
  clear hb4
  have ca0 := ka.cell 0
  have ca1 := ka.cell 1
  have cb0 := kb.cell 0
  have cb1 := kb.cell 1
  have cc0 := kc.cell 0
  have cc1 := kc.cell 1
  simp only [List.getElem?_toArray, List.getElem?_cons_zero, List.getElem?_cons_succ] at ca0 ca1 cb0 cb1 cc0 cc1
  go_wp2_with fail
  refine (awake_any _).mono ?_
  rintro e w5 ⟨rfl, hb5⟩
  clear ca0 ca1 cb0 cb1 cc0 cc1
  have ka := ka.low hb5 ka.lt
  have kb := kb.low hb5 kb.lt
  have kc := kc.low hb5 kc.lt
  have bb := bb.trans (hb5.mono bb.size)
  clear hb5
  have ca0 := ka.cell 0
  have ca1 := ka.cell 1
  have cb0 := kb.cell 0
  have cb1 := kb.cell 1
  have cc0 := kc.cell 0
  have cc1 := kc.cell 1
  simp only [List.getElem?_toArray, List.getElem?_cons_zero, List.getElem?_cons_succ] at ca0 ca1 cb0 cb1 cc0 cc1
  go_wp2_with fail
  refine (VA.out _).mono ?_
  rintro e w6 ⟨rfl, hb6⟩
  clear ca0 ca1 cb0 cb1 cc0 cc1
  have ka := ka.low hb6 ka.lt
  have kb := kb.low hb6 kb.lt
  have kc := kc.low hb6 kc.lt
  have bb := bb.trans (hb6.mono bb.size)
  clear hb6
  have ca0 := ka.cell 0
  have ca1 := ka.cell 1
  have cb0 := kb.cell 0
  have cb1 := kb.cell 1
  have cc0 := kc.cell 0
  have cc1 := kc.cell 1
  simp only [List.getElem?_toArray, List.getElem?_cons_zero, List.getElem?_cons_succ] at ca0 ca1 cb0 cb1 cc0 cc1
  go_wp2_with fail
  refine (VB.out _).mono ?_
  rintro e w7 ⟨rfl, hb7⟩
  clear ca0 ca1 cb0 cb1 cc0 cc1
  have ka := ka.low hb7 ka.lt
  have kb := kb.low hb7 kb.lt
  have kc := kc.low hb7 kc.lt
  have bb := bb.trans (hb7.mono bb.size)
  clear hb7
  go_wp2_with fail
  go_ret
  exact ⟨by simp, bb⟩

set_option maxRecDepth 100000 in
set_option maxHeartbeats 2000000 in
theorem ord_pn_mz (an ad bn bd cn cd : Int) (w : World) (hn : (an == bn) = false) (C1 : Hid (∀ w, Calls Try.prog 26 #[.agg #[.int .i64 an, .int .i64 ad], .agg #[.int .i64 bn, .int .i64 bd]] w fun e w' => e = .returned (.tuple #[.int .i64 1, .int .i64 0]) ∧ Below w.heap.size w w')) (C2 : Hid (∀ w, Calls Try.prog 26 #[.agg #[.int .i64 bn, .int .i64 bd], .agg #[.int .i64 an, .int .i64 ad]] w fun e w' => e = .returned (.tuple #[.int .i64 (-1), .int .i64 0]) ∧ Below w.heap.size w w')) (C3 : Hid (∀ w, Calls Try.prog 26 #[.agg #[.int .i64 bn, .int .i64 bd], .agg #[.int .i64 cn, .int .i64 cd]] w fun e w' => e = .returned (.tuple #[.int .i64 (-1), .int .i64 0]) ∧ Below w.heap.size w w')) (C4 : Hid (∀ w, Calls Try.prog 26 #[.agg #[.int .i64 an, .int .i64 ad], .agg #[.int .i64 cn, .int .i64 cd]] w fun e w' => e = .returned (.tuple #[.int .i64 0, .int .i64 0]) ∧ Below w.heap.size w w')) (VA : Hid (∀ w, Calls Try.prog 17 #[.agg #[.int .i64 an, .int .i64 ad]] w fun e w' => e = .returned (.bool true) ∧ Below w.heap.size w w')) (VB : Hid (∀ w, Calls Try.prog 17 #[.agg #[.int .i64 bn, .int .i64 bd]] w fun e w' => e = .returned (.bool true) ∧ Below w.heap.size w w')) :
    Calls Try.prog 12 #[.agg #[.int .i64 an, .int .i64 ad], .agg #[.int .i64 bn, .int .i64 bd], .agg #[.int .i64 cn, .int .i64 cd]] w fun e w' => e = .returned (.bool true) ∧ Below w.heap.size w w' := by
  have bb := Below.refl w.heap.size w
  have ka := Blk.new w (w.heap.size) (by simp) 23 #[.int .i64 an, .int .i64 ad]
  have bb := bb.alloc bb.size (.cells #[.int .i64 an, .int .i64 ad] 23)
  have ka := ka.alloc (.cells #[.int .i64 bn, .int .i64 bd] 23)
  have kb := Blk.new (w.alloc (.cells #[.int .i64 an, .int .i64 ad] 23)) (w.heap.size + 1) (by simp) 23 #[.int .i64 bn, .int .i64 bd]
  have bb := bb.alloc bb.size (.cells #[.int .i64 bn, .int .i64 bd] 23)
  have ka := ka.alloc (.cells #[.int .i64 cn, .int .i64 cd] 23)
  have kb := kb.alloc (.cells #[.int .i64 cn, .int .i64 cd] 23)
  have kc := Blk.new ((w.alloc (.cells #[.int .i64 an, .int .i64 ad] 23)).alloc (.cells #[.int .i64 bn, .int .i64 bd] 23)) (w.heap.size + 1 + 1) (by simp) 23 #[.int .i64 cn, .int .i64 cd]
  have bb := bb.alloc bb.size (.cells #[.int .i64 cn, .int .i64 cd] 23)
  have ca0 := ka.cell 0
  have ca1 := ka.cell 1
  have cb0 := kb.cell 0
  have cb1 := kb.cell 1
  have cc0 := kc.cell 0
  have cc1 := kc.cell 1
  simp only [List.getElem?_toArray, List.getElem?_cons_zero, List.getElem?_cons_succ] at ca0 ca1 cb0 cb1 cc0 cc1
  go_enter Try.func12, Try.ntmps12
  go_wp2_with fail
  refine (C1.out _).mono ?_
  rintro e w1 ⟨rfl, hb1⟩
  clear ca0 ca1 cb0 cb1 cc0 cc1
  have ka := ka.low hb1 ka.lt
  have kb := kb.low hb1 kb.lt
  have kc := kc.low hb1 kc.lt
  have bb := bb.trans (hb1.mono bb.size)
  clear hb1
  have ca0 := ka.cell 0
  have ca1 := ka.cell 1
  have cb0 := kb.cell 0
  have cb1 := kb.cell 1
  have cc0 := kc.cell 0
  have cc1 := kc.cell 1
  simp only [List.getElem?_toArray, List.getElem?_cons_zero, List.getElem?_cons_succ] at ca0 ca1 cb0 cb1 cc0 cc1
  go_wp2_with fail
  refine (C2.out _).mono ?_
  rintro e w2 ⟨rfl, hb2⟩
  clear ca0 ca1 cb0 cb1 cc0 cc1
  have ka := ka.low hb2 ka.lt
  have kb := kb.low hb2 kb.lt
  have kc := kc.low hb2 kc.lt
  have bb := bb.trans (hb2.mono bb.size)
  clear hb2
  have ca0 := ka.cell 0
  have ca1 := ka.cell 1
  have cb0 := kb.cell 0
  have cb1 := kb.cell 1
  have cc0 := kc.cell 0
  have cc1 := kc.cell 1
  simp only [List.getElem?_toArray, List.getElem?_cons_zero, List.getElem?_cons_succ] at ca0 ca1 cb0 cb1 cc0 cc1
  go_wp2_with fail
  refine (C3.out _).mono ?_
  rintro e w3 ⟨rfl, hb3⟩
  clear ca0 ca1 cb0 cb1 cc0 cc1
  have ka := ka.low hb3 ka.lt
  have kb := kb.low hb3 kb.lt
  have kc := kc.low hb3 kc.lt
  have bb := bb.trans (hb3.mono bb.size)
  clear hb3
  have ca0 := ka.cell 0
  have ca1 := ka.cell 1
  have cb0 := kb.cell 0
  have cb1 := kb.cell 1
  have cc0 := kc.cell 0
  have cc1 := kc.cell 1
  simp only [List.getElem?_toArray, List.getElem?_cons_zero, List.getElem?_cons_succ] at ca0 ca1 cb0 cb1 cc0 cc1
  go_wp2_with fail
  refine (C4.out _).mono ?_
  rintro e w4 ⟨rfl, hb4⟩
  clear ca0 ca1 cb0 cb1 cc0 cc1
  have ka := ka.low hb4 ka.lt
  have kb := kb.low hb4 kb.lt
  have kc := kc.low hb4 kc.lt
  have bb := bb.trans (hb4.mono bb.size)
  clear hb4
  have ca0 := ka.cell 0
  have ca1 := ka.cell 1
  have cb0 := kb.cell 0
  have cb1 := kb.cell 1
  have cc0 := kc.cell 0
  have cc1 := kc.cell 1
  simp only [List.getElem?_toArray, List.getElem?_cons_zero, List.getElem?_cons_succ] at ca0 ca1 cb0 cb1 cc0 cc1
  go_wp2_with fail
  refine (awake_any _).mono ?_
  rintro e w5 ⟨rfl, hb5⟩
  clear ca0 ca1 cb0 cb1 cc0 cc1
  have ka := ka.low hb5 ka.lt
  have kb := kb.low hb5 kb.lt
  have kc := kc.low hb5 kc.lt
  have bb := bb.trans (hb5.mono bb.size)
  clear hb5
  have ca0 := ka.cell 0
  have ca1 := ka.cell 1
  have cb0 := kb.cell 0
  have cb1 := kb.cell 1
  have cc0 := kc.cell 0
  have cc1 := kc.cell 1
  simp only [List.getElem?_toArray, List.getElem?_cons_zero, List.getElem?_cons_succ] at ca0 ca1 cb0 cb1 cc0 cc1
  go_wp2_with fail
  refine (VA.out _).mono ?_
  rintro e w6 ⟨rfl, hb6⟩
  clear ca0 ca1 cb0 cb1 cc0 cc1
  have ka := ka.low hb6 ka.lt
  have kb := kb.low hb6 kb.lt
  have kc := kc.low hb6 kc.lt
  have bb := bb.trans (hb6.mono bb.size)
  clear hb6
  have ca0 := ka.cell 0
  have ca1 := ka.cell 1
  have cb0 := kb.cell 0
  have cb1 := kb.cell 1
  have cc0 := kc.cell 0
  have cc1 := kc.cell 1
  simp only [List.getElem?_toArray, List.getElem?_cons_zero, List.getElem?_cons_succ] at ca0 ca1 cb0 cb1 cc0 cc1
  go_wp2_with fail
  refine (VB.out _).mono ?_
  rintro e w7 ⟨rfl, hb7⟩
  clear ca0 ca1 cb0 cb1 cc0 cc1
  have ka := ka.low hb7 ka.lt
  have kb := kb.low hb7 kb.lt
  have kc := kc.low hb7 kc.lt
  have bb := bb.trans (hb7.mono bb.size)
  clear hb7
  go_wp2_with fail
  go_ret
  exact ⟨by simp, bb⟩

set_option maxRecDepth 100000 in
set_option maxHeartbeats 2000000 in
theorem ord_pn_zp (an ad bn bd cn cd : Int) (w : World) (hn : (an == bn) = false) (C1 : Hid (∀ w, Calls Try.prog 26 #[.agg #[.int .i64 an, .int .i64 ad], .agg #[.int .i64 bn, .int .i64 bd]] w fun e w' => e = .returned (.tuple #[.int .i64 1, .int .i64 0]) ∧ Below w.heap.size w w')) (C2 : Hid (∀ w, Calls Try.prog 26 #[.agg #[.int .i64 bn, .int .i64 bd], .agg #[.int .i64 an, .int .i64 ad]] w fun e w' => e = .returned (.tuple #[.int .i64 (-1), .int .i64 0]) ∧ Below w.heap.size w w')) (C3 : Hid (∀ w, Calls Try.prog 26 #[.agg #[.int .i64 bn, .int .i64 bd], .agg #[.int .i64 cn, .int .i64 cd]] w fun e w' => e = .returned (.tuple #[.int .i64 0, .int .i64 0]) ∧ Below w.heap.size w w')) (C4 : Hid (∀ w, Calls Try.prog 26 #[.agg #[.int .i64 an, .int .i64 ad], .agg #[.int .i64 cn, .int .i64 cd]] w fun e w' => e = .returned (.tuple #[.int .i64 1, .int .i64 0]) ∧ Below w.heap.size w w')) (VA : Hid (∀ w, Calls Try.prog 17 #[.agg #[.int .i64 an, .int .i64 ad]] w fun e w' => e = .returned (.bool true) ∧ Below w.heap.size w w')) (VB : Hid (∀ w, Calls Try.prog 17 #[.agg #[.int .i64 bn, .int .i64 bd]] w fun e w' => e = .returned (.bool true) ∧ Below w.heap.size w w')) :
    Calls Try.prog 12 #[.agg #[.int .i64 an, .int .i64 ad], .agg #[.int .i64 bn, .int .i64 bd], .agg #[.int .i64 cn, .int .i64 cd]] w fun e w' => e = .returned (.bool true) ∧ Below w.heap.size w w' := by
  have bb := Below.refl w.heap.size w
  have ka := Blk.new w (w.heap.size) (by simp) 23 #[.int .i64 an, .int .i64 ad]
  have bb := bb.alloc bb.size (.cells #[.int .i64 an, .int .i64 ad] 23)
  have ka := ka.alloc (.cells #[.int .i64 bn, .int .i64 bd] 23)
  have kb := Blk.new (w.alloc (.cells #[.int .i64 an, .int .i64 ad] 23)) (w.heap.size + 1) (by simp) 23 #[.int .i64 bn, .int .i64 bd]
  have bb := bb.alloc bb.size (.cells #[.int .i64 bn, .int .i64 bd] 23)
  have ka := ka.alloc (.cells #[.int .i64 cn, .int .i64 cd] 23)
  have kb := kb.alloc (.cells #[.int .i64 cn, .int .i64 cd] 23)
  have kc := Blk.new ((w.alloc (.cells #[.int .i64 an, .int .i64 ad] 23)).alloc (.cells #[.int .i64 bn, .int .i64 bd] 23)) (w.heap.size + 1 + 1) (by simp) 23 #[.int .i64 cn, .int .i64 cd]
  have bb := bb.alloc bb.size (.cells #[.int .i64 cn, .int .i64 cd] 23)
  have ca0 := ka.cell 0
  have ca1 := ka.cell 1
  have cb0 := kb.cell 0
  have cb1 := kb.cell 1
  have cc0 := kc.cell 0
  have cc1 := kc.cell 1
  simp only [List.getElem?_toArray, List.getElem?_cons_zero, List.getElem?_cons_succ] at ca0 ca1 cb0 cb1 cc0 cc1
  go_enter Try.func12, Try.ntmps12
  go_wp2_with fail
  refine (C1.out _).mono ?_
  rintro e w1 ⟨rfl, hb1⟩
  clear ca0 ca1 cb0 cb1 cc0 cc1
  have ka := ka.low hb1 ka.lt
  have kb := kb.low hb1 kb.lt
  have kc := kc.low hb1 kc.lt
  have bb := bb.trans (hb1.mono bb.size)
  clear hb1
  have ca0 := ka.cell 0
  have ca1 := ka.cell 1
  have cb0 := kb.cell 0
  have cb1 := kb.cell 1
  have cc0 := kc.cell 0
  have cc1 := kc.cell 1
  simp only [List.getElem?_toArray, List.getElem?_cons_zero, List.getElem?_cons_succ] at ca0 ca1 cb0 cb1 cc0 cc1
  go_wp2_with fail
  refine (C2.out _).mono ?_
  rintro e w2 ⟨rfl, hb2⟩
  clear ca0 ca1 cb0 cb1 cc0 cc1
  have ka := ka.low hb2 ka.lt
  have kb := kb.low hb2 kb.lt
  have kc := kc.low hb2 kc.lt
  have bb := bb.trans (hb2.mono bb.size)
  clear hb2
  have ca0 := ka.cell 0
  have ca1 := ka.cell 1
  have cb0 := kb.cell 0
  have cb1 := kb.cell 1
  have cc0 := kc.cell 0
  have cc1 := kc.cell 1
  simp only [List.getElem?_toArray, List.getElem?_cons_zero, List.getElem?_cons_succ] at ca0 ca1 cb0 cb1 cc0 cc1
  go_wp2_with fail
  refine (C3.out _).mono ?_
  rintro e w3 ⟨rfl, hb3⟩
  clear ca0 ca1 cb0 cb1 cc0 cc1
  have ka := ka.low hb3 ka.lt
  have kb := kb.low hb3 kb.lt
  have kc := kc.low hb3 kc.lt
  have bb := bb.trans (hb3.mono bb.size)
  clear hb3
  have ca0 := ka.cell 0
  have ca1 := ka.cell 1
  have cb0 := kb.cell 0
  have cb1 := kb.cell 1
  have cc0 := kc.cell 0
  have cc1 := kc.cell 1
  simp only [List.getElem?_toArray, List.getElem?_cons_zero, List.getElem?_cons_succ] at ca0 ca1 cb0 cb1 cc0 cc1
  go_wp2_with fail
  refine (C4.out _).mono ?_
  rintro e w4 ⟨rfl, hb4⟩
  clear ca0 ca1 cb0 cb1 cc0 cc1
  have ka := ka.low hb4 ka.lt
  have kb := kb.low hb4 kb.lt
  have kc := kc.low hb4 kc.lt
  have bb := bb.trans (hb4.mono bb.size)
  clear hb4
  have ca0 := ka.cell 0
  have ca1 := ka.cell 1
  have cb0 := kb.cell 0
  have cb1 := kb.cell 1
  have cc0 := kc.cell 0
  have cc1 := kc.cell 1
  simp only [List.getElem?_toArray, List.getElem?_cons_zero, List.getElem?_cons_succ] at ca0 ca1 cb0 cb1 cc0 cc1
  go_wp2_with fail
  refine (awake_any _).mono ?_
  rintro e w5 ⟨rfl, hb5⟩
  clear ca0 ca1 cb0 cb1 cc0 cc1
  have ka := ka.low hb5 ka.lt
  have kb := kb.low hb5 kb.lt
  have kc := kc.low hb5 kc.lt
  have bb := bb.trans (hb5.mono bb.size)
  clear hb5
  have ca0 := ka.cell 0
  have ca1 := ka.cell 1
  have cb0 := kb.cell 0
  have cb1 := kb.cell 1
  have cc0 := kc.cell 0
  have cc1 := kc.cell 1
  simp only [List.getElem?_toArray, List.getElem?_cons_zero, List.getElem?_cons_succ] at ca0 ca1 cb0 cb1 cc0 cc1
  go_wp2_with fail
  refine (VA.out _).mono ?_
  rintro e w6 ⟨rfl, hb6⟩
  clear ca0 ca1 cb0 cb1 cc0 cc1
  have ka := ka.low hb6 ka.lt
  have kb := kb.low hb6 kb.lt
  have kc := kc.low hb6 kc.lt
  have bb := bb.trans (hb6.mono bb.size)
  clear hb6
  have ca0 := ka.cell 0
  have ca1 := ka.cell 1
  have cb0 := kb.cell 0
  have cb1 := kb.cell 1
  have cc0 := kc.cell 0
  have cc1 := kc.cell 1
  simp only [List.getElem?_toArray, List.getElem?_cons_zero, List.getElem?_cons_succ] at ca0 ca1 cb0 cb1 cc0 cc1
  go_wp2_with fail
  refine (VB.out _).mono ?_
  rintro e w7 ⟨rfl, hb7⟩
  clear ca0 ca1 cb0 cb1 cc0 cc1
  have ka := ka.low hb7 ka.lt
  have kb := kb.low hb7 kb.lt
  have kc := kc.low hb7 kc.lt
  have bb := bb.trans (hb7.mono bb.size)
  clear hb7
  go_wp2_with fail
  go_ret
  exact ⟨by simp, bb⟩

set_option maxRecDepth 100000 in
set_option maxHeartbeats 2000000 in
theorem ord_pn_pp (an ad bn bd cn cd : Int) (w : World) (hn : (an == bn) = false) (C1 : Hid (∀ w, Calls Try.prog 26 #[.agg #[.int .i64 an, .int .i64 ad], .agg #[.int .i64 bn, .int .i64 bd]] w fun e w' => e = .returned (.tuple #[.int .i64 1, .int .i64 0]) ∧ Below w.heap.size w w')) (C2 : Hid (∀ w, Calls Try.prog 26 #[.agg #[.int .i64 bn, .int .i64 bd], .agg #[.int .i64 an, .int .i64 ad]] w fun e w' => e = .returned (.tuple #[.int .i64 (-1), .int .i64 0]) ∧ Below w.heap.size w w')) (C3 : Hid (∀ w, Calls Try.prog 26 #[.agg #[.int .i64 bn, .int .i64 bd], .agg #[.int .i64 cn, .int .i64 cd]] w fun e w' => e = .returned (.tuple #[.int .i64 1, .int .i64 0]) ∧ Below w.heap.size w w')) (C4 : Hid (∀ w, Calls Try.prog 26 #[.agg #[.int .i64 an, .int .i64 ad], .agg #[.int .i64 cn, .int .i64 cd]] w fun e w' => e = .returned (.tuple #[.int .i64 1, .int .i64 0]) ∧ Below w.heap.size w w')) (VA : Hid (∀ w, Calls Try.prog 17 #[.agg #[.int .i64 an, .int .i64 ad]] w fun e w' => e = .returned (.bool true) ∧ Below w.heap.size w w')) (VB : Hid (∀ w, Calls Try.prog 17 #[.agg #[.int .i64 bn, .int .i64 bd]] w fun e w' => e = .returned (.bool true) ∧ Below w.heap.size w w')) :
    Calls Try.prog 12 #[.agg #[.int .i64 an, .int .i64 ad], .agg #[.int .i64 bn, .int .i64 bd], .agg #[.int .i64 cn, .int .i64 cd]] w fun e w' => e = .returned (.bool true) ∧ Below w.heap.size w w' := by
  have bb := Below.refl w.heap.size w
  have ka := Blk.new w (w.heap.size) (by simp) 23 #[.int .i64 an, .int .i64 ad]
  have bb := bb.alloc bb.size (.cells #[.int .i64 an, .int .i64 ad] 23)
  have ka := ka.alloc (.cells #[.int .i64 bn, .int .i64 bd] 23)
  have kb := Blk.new (w.alloc (.cells #[.int .i64 an, .int .i64 ad] 23)) (w.heap.size + 1) (by simp) 23 #[.int .i64 bn, .int .i64 bd]
  have bb := bb.alloc bb.size (.cells #[.int .i64 bn, .int .i64 bd] 23)
  have ka := ka.alloc (.cells #[.int .i64 cn, .int .i64 cd] 23)
  have kb := kb.alloc (.cells #[.int .i64 cn, .int .i64 cd] 23)
  have kc := Blk.new ((w.alloc (.cells #[.int .i64 an, .int .i64 ad] 23)).alloc (.cells #[.int .i64 bn, .int .i64 bd] 23)) (w.heap.size + 1 + 1) (by simp) 23 #[.int .i64 cn, .int .i64 cd]
  have bb := bb.alloc bb.size (.cells #[.int .i64 cn, .int .i64 cd] 23)
  have ca0 := ka.cell 0
  have ca1 := ka.cell 1
  have cb0 := kb.cell 0
  have cb1 := kb.cell 1
  have cc0 := kc.cell 0
  have cc1 := kc.cell 1
  simp only [List.getElem?_toArray, List.getElem?_cons_zero, List.getElem?_cons_succ] at ca0 ca1 cb0 cb1 cc0 cc1
  go_enter Try.func12, Try.ntmps12
  go_wp2_with fail
  refine (C1.out _).mono ?_
  rintro e w1 ⟨rfl, hb1⟩
  clear ca0 ca1 cb0 cb1 cc0 cc1
  have ka := ka.low hb1 ka.lt
  have kb := kb.low hb1 kb.lt
  have kc := kc.low hb1 kc.lt
  have bb := bb.trans (hb1.mono bb.size)
  clear hb1
  have ca0 := ka.cell 0
  have ca1 := ka.cell 1
  have cb0 := kb.cell 0
  have cb1 := kb.cell 1
  have cc0 := kc.cell 0
  have cc1 := kc.cell 1
  simp only [List.getElem?_toArray, List.getElem?_cons_zero, List.getElem?_cons_succ] at ca0 ca1 cb0 cb1 cc0 cc1
  go_wp2_with fail
  refine (C2.out _).mono ?_
  rintro e w2 ⟨rfl, hb2⟩
  clear ca0 ca1 cb0 cb1 cc0 cc1
  have ka := ka.low hb2 ka.lt
  have kb := kb.low hb2 kb.lt
  have kc := kc.low hb2 kc.lt
  have bb := bb.trans (hb2.mono bb.size)
  clear hb2
  have ca0 := ka.cell 0
  have ca1 := ka.cell 1
  have cb0 := kb.cell 0
  have cb1 := kb.cell 1
  have cc0 := kc.cell 0
  have cc1 := kc.cell 1
  simp only [List.getElem?_toArray, List.getElem?_cons_zero, List.getElem?_cons_succ] at ca0 ca1 cb0 cb1 cc0 cc1
  go_wp2_with fail
  refine (C3.out _).mono ?_
  rintro e w3 ⟨rfl, hb3⟩
  clear ca0 ca1 cb0 cb1 cc0 cc1
  have ka := ka.low hb3 ka.lt
  have kb := kb.low hb3 kb.lt
  have kc := kc.low hb3 kc.lt
  have bb := bb.trans (hb3.mono bb.size)
  clear hb3
  have ca0 := ka.cell 0
  have ca1 := ka.cell 1
  have cb0 := kb.cell 0
  have cb1 := kb.cell 1
  have cc0 := kc.cell 0
  have cc1 := kc.cell 1
  simp only [List.getElem?_toArray, List.getElem?_cons_zero, List.getElem?_cons_succ] at ca0 ca1 cb0 cb1 cc0 cc1
  go_wp2_with fail
  refine (C4.out _).mono ?_
  rintro e w4 ⟨rfl, hb4⟩
  clear ca0 ca1 cb0 cb1 cc0 cc1
  have ka := ka.low hb4 ka.lt
  have kb := kb.low hb4 kb.lt
  have kc := kc.low hb4 kc.lt
  have bb := bb.trans (hb4.mono bb.size)
  clear hb4
  have ca0 := ka.cell 0
  have ca1 := ka.cell 1
  have cb0 := kb.cell 0
  have cb1 := kb.cell 1
  have cc0 := kc.cell 0
  have cc1 := kc.cell 1
  simp only [List.getElem?_toArray, List.getElem?_cons_zero, List.getElem?_cons_succ] at ca0 ca1 cb0 cb1 cc0 cc1
  go_wp2_with fail
  refine (awake_any _).mono ?_
  rintro e w5 ⟨rfl, hb5⟩
  clear ca0 ca1 cb0 cb1 cc0 cc1
  have ka := ka.low hb5 ka.lt
  have kb := kb.low hb5 kb.lt
  have kc := kc.low hb5 kc.lt
  have bb := bb.trans (hb5.mono bb.size)
  clear hb5
  have ca0 := ka.cell 0
  have ca1 := ka.cell 1
  have cb0 := kb.cell 0
  have cb1 := kb.cell 1
  have cc0 := kc.cell 0
  have cc1 := kc.cell 1
  simp only [List.getElem?_toArray, List.getElem?_cons_zero, List.getElem?_cons_succ] at ca0 ca1 cb0 cb1 cc0 cc1
  go_wp2_with fail
  refine (VA.out _).mono ?_
  rintro e w6 ⟨rfl, hb6⟩
  clear ca0 ca1 cb0 cb1 cc0 cc1
  have ka := ka.low hb6 ka.lt
  have kb := kb.low hb6 kb.lt
  have kc := kc.low hb6 kc.lt
  have bb := bb.trans (hb6.mono bb.size)
  clear hb6
  have ca0 := ka.cell 0
  have ca1 := ka.cell 1
  have cb0 := kb.cell 0
  have cb1 := kb.cell 1
  have cc0 := kc.cell 0
  have cc1 := kc.cell 1
  simp only [List.getElem?_toArray, List.getElem?_cons_zero, List.getElem?_cons_succ] at ca0 ca1 cb0 cb1 cc0 cc1
  go_wp2_with fail
  refine (VB.out _).mono ?_
  rintro e w7 ⟨rfl, hb7⟩
  clear ca0 ca1 cb0 cb1 cc0 cc1
  have ka := ka.low hb7 ka.lt
  have kb := kb.low hb7 kb.lt
  have kc := kc.low hb7 kc.lt
  have bb := bb.trans (hb7.mono bb.size)
  clear hb7
  go_wp2_with fail
  go_ret
  exact ⟨by simp, bb⟩

set_option maxRecDepth 100000 in
set_option maxHeartbeats 2000000 in
theorem ord_pd_mz (an ad bn bd cn cd : Int) (w : World) (hn : (an == bn) = true) (hd : (ad == bd) = false) (C1 : Hid (∀ w, Calls Try.prog 26 #[.agg #[.int .i64 an, .int .i64 ad], .agg #[.int .i64 bn, .int .i64 bd]] w fun e w' => e = .returned (.tuple #[.int .i64 1, .int .i64 0]) ∧ Below w.heap.size w w')) (C2 : Hid (∀ w, Calls Try.prog 26 #[.agg #[.int .i64 bn, .int .i64 bd], .agg #[.int .i64 an, .int .i64 ad]] w fun e w' => e = .returned (.tuple #[.int .i64 (-1), .int .i64 0]) ∧ Below w.heap.size w w')) (C3 : Hid (∀ w, Calls Try.prog 26 #[.agg #[.int .i64 bn, .int .i64 bd], .agg #[.int .i64 cn, .int .i64 cd]] w fun e w' => e = .returned (.tuple #[.int .i64 (-1), .int .i64 0]) ∧ Below w.heap.size w w')) (C4 : Hid (∀ w, Calls Try.prog 26 #[.agg #[.int .i64 an, .int .i64 ad], .agg #[.int .i64 cn, .int .i64 cd]] w fun e w' => e = .returned (.tuple #[.int .i64 0, .int .i64 0]) ∧ Below w.heap.size w w')) (VA : Hid (∀ w, Calls Try.prog 17 #[.agg #[.int .i64 an, .int .i64 ad]] w fun e w' => e = .returned (.bool true) ∧ Below w.heap.size w w')) (VB : Hid (∀ w, Calls Try.prog 17 #[.agg #[.int .i64 bn, .int .i64 bd]] w fun e w' => e = .returned (.bool true) ∧ Below w.heap.size w w')) :
    Calls Try.prog 12 #[.agg #[.int .i64 an, .int .i64 ad], .agg #[.int .i64 bn, .int .i64 bd], .agg #[.int .i64 cn, .int .i64 cd]] w fun e w' => e = .returned (.bool true) ∧ Below w.heap.size w w' := by
  have bb := Below.refl w.heap.size w
  have ka := Blk.new w (w.heap.size) (by simp) 23 #[.int .i64 an, .int .i64 ad]
  have bb := bb.alloc bb.size (.cells #[.int .i64 an, .int .i64 ad] 23)
  have ka := ka.alloc (.cells #[.int .i64 bn, .int .i64 bd] 23)
  have kb := Blk.new (w.alloc (.cells #[.int .i64 an, .int .i64 ad] 23)) (w.heap.size + 1) (by simp) 23 #[.int .i64 bn, .int .i64 bd]
  have bb := bb.alloc bb.size (.cells #[.int .i64 bn, .int .i64 bd] 23)
  have ka := ka.alloc (.cells #[.int .i64 cn, .int .i64 cd] 23)
  have kb := kb.alloc (.cells #[.int .i64 cn, .int .i64 cd] 23)
  have kc := Blk.new ((w.alloc (.cells #[.int .i64 an, .int .i64 ad] 23)).alloc (.cells #[.int .i64 bn, .int .i64 bd] 23)) (w.heap.size + 1 + 1) (by simp) 23 #[.int .i64 cn, .int .i64 cd]
  have bb := bb.alloc bb.size (.cells #[.int .i64 cn, .int .i64 cd] 23)
  have ca0 := ka.cell 0
  have ca1 := ka.cell 1
  have cb0 := kb.cell 0
  have cb1 := kb.cell 1
  have cc0 := kc.cell 0
  have cc1 := kc.cell 1
  simp only [List.getElem?_toArray, List.getElem?_cons_zero, List.getElem?_cons_succ] at ca0 ca1 cb0 cb1 cc0 cc1
  go_enter Try.func12, Try.ntmps12
  go_wp2_with fail
  refine (C1.out _).mono ?_
  rintro e w1 ⟨rfl, hb1⟩
  clear ca0 ca1 cb0 cb1 cc0 cc1
  have ka := ka.low hb1 ka.lt
  have kb := kb.low hb1 kb.lt
  have kc := kc.low hb1 kc.lt
  have bb := bb.trans (hb1.mono bb.size)
  clear hb1
  have ca0 := ka.cell 0
  have ca1 := ka.cell 1
  have cb0 := kb.cell 0
  have cb1 := kb.cell 1
  have cc0 := kc.cell 0
  have cc1 := kc.cell 1
  simp only [List.getElem?_toArray, List.getElem?_cons_zero, List.getElem?_cons_succ] at ca0 ca1 cb0 cb1 cc0 cc1
  go_wp2_with fail
  refine (C2.out _).mono ?_
  rintro e w2 ⟨rfl, hb2⟩
  clear ca0 ca1 cb0 cb1 cc0 cc1
  have ka := ka.low hb2 ka.lt
  have kb := kb.low hb2 kb.lt
  have kc := kc.low hb2 kc.lt
  have bb := bb.trans (hb2.mono bb.size)
  clear hb2
  have ca0 := ka.cell 0
  have ca1 := ka.cell 1
  have cb0 := kb.cell 0
  have cb1 := kb.cell 1
  have cc0 := kc.cell 0
  have cc1 := kc.cell 1
  simp only [List.getElem?_toArray, List.getElem?_cons_zero, List.getElem?_cons_succ] at ca0 ca1 cb0 cb1 cc0 cc1
  go_wp2_with fail
  refine (C3.out _).mono ?_
  rintro e w3 ⟨rfl, hb3⟩
  clear ca0 ca1 cb0 cb1 cc0 cc1
  have ka := ka.low hb3 ka.lt
  have kb := kb.low hb3 kb.lt
  have kc := kc.low hb3 kc.lt
  have bb := bb.trans (hb3.mono bb.size)
  clear hb3
  have ca0 := ka.cell 0
  have ca1 := ka.cell 1
  have cb0 := kb.cell 0
  have cb1 := kb.cell 1
  have cc0 := kc.cell 0
  have cc1 := kc.cell 1
  simp only [List.getElem?_toArray, List.getElem?_cons_zero, List.getElem?_cons_succ] at ca0 ca1 cb0 cb1 cc0 cc1
  go_wp2_with fail
  refine (C4.out _).mono ?_
  rintro e w4 ⟨rfl, hb4⟩
  clear ca0 ca1 cb0 cb1 cc0 cc1
  have ka := ka.low hb4 ka.lt
  have kb := kb.low hb4 kb.lt
  have kc := kc.low hb4 kc.lt
  have bb := bb.trans (hb4.mono bb.size)
  clear hb4
  have ca0 := ka.cell 0
  have ca1 := ka.cell 1
  have cb0 := kb.cell 0
  have cb1 := kb.cell 1
  have cc0 := kc.cell 0
  have cc1 := kc.cell 1
  simp only [List.getElem?_toArray, List.getElem?_cons_zero, List.getElem?_cons_succ] at ca0 ca1 cb0 cb1 cc0 cc1
  go_wp2_with fail
  refine (awake_any _).mono ?_
  rintro e w5 ⟨rfl, hb5⟩
  clear ca0 ca1 cb0 cb1 cc0 cc1
  have ka := ka.low hb5 ka.lt
  have kb := kb.low hb5 kb.lt
  have kc := kc.low hb5 kc.lt
  have bb := bb.trans (hb5.mono bb.size)
  clear hb5
  have ca0 := ka.cell 0
  have ca1 := ka.cell 1
  have cb0 := kb.cell 0
  have cb1 := kb.cell 1
  have cc0 := kc.cell 0
  have cc1 := kc.cell 1
  simp only [List.getElem?_toArray, List.getElem?_cons_zero, List.getElem?_cons_succ] at ca0 ca1 cb0 cb1 cc0 cc1
  go_wp2_with fail
  refine (VA.out _).mono ?_
  rintro e w6 ⟨rfl, hb6⟩
  clear ca0 ca1 cb0 cb1 cc0 cc1
  have ka := ka.low hb6 ka.lt
  have kb := kb.low hb6 kb.lt
  have kc := kc.low hb6 kc.lt
  have bb := bb.trans (hb6.mono bb.size)
  clear hb6
  have ca0 := ka.cell 0
  have ca1 := ka.cell 1
  have cb0 := kb.cell 0
  have cb1 := kb.cell 1
  have cc0 := kc.cell 0
  have cc1 := kc.cell 1
  simp only [List.getElem?_toArray, List.getElem?_cons_zero, List.getElem?_cons_succ] at ca0 ca1 cb0 cb1 cc0 cc1
  go_wp2_with fail
  refine (VB.out _).mono ?_
  rintro e w7 ⟨rfl, hb7⟩
  clear ca0 ca1 cb0 cb1 cc0 cc1
  have ka := ka.low hb7 ka.lt
  have kb := kb.low hb7 kb.lt
  have kc := kc.low hb7 kc.lt
  have bb := bb.trans (hb7.mono bb.size)
  clear hb7
  go_wp2_with fail
  go_ret
  exact ⟨by simp, bb⟩

set_option maxRecDepth 100000 in
set_option maxHeartbeats 2000000 in
theorem ord_pd_mp (an ad bn bd cn cd : Int) (w : World) (hn : (an == bn) = true) (hd : (ad == bd) = false) (C1 : Hid (∀ w, Calls Try.prog 26 #[.agg #[.int .i64 an, .int .i64 ad], .agg #[.int .i64 bn, .int .i64 bd]] w fun e w' => e = .returned (.tuple #[.int .i64 1, .int .i64 0]) ∧ Below w.heap.size w w')) (C2 : Hid (∀ w, Calls Try.prog 26 #[.agg #[.int .i64 bn, .int .i64 bd], .agg #[.int .i64 an, .int .i64 ad]] w fun e w' => e = .returned (.tuple #[.int .i64 (-1), .int .i64 0]) ∧ Below w.heap.size w w')) (C3 : Hid (∀ w, Calls Try.prog 26 #[.agg #[.int .i64 bn, .int .i64 bd], .agg #[.int .i64 cn, .int .i64 cd]] w fun e w' => e = .returned (.tuple #[.int .i64 (-1), .int .i64 0]) ∧ Below w.heap.size w w')) (C4 : Hid (∀ w, Calls Try.prog 26 #[.agg #[.int .i64 an, .int .i64 ad], .agg #[.int .i64 cn, .int .i64 cd]] w fun e w' => e = .returned (.tuple #[.int .i64 1, .int .i64 0]) ∧ Below w.heap.size w w')) (VA : Hid (∀ w, Calls Try.prog 17 #[.agg #[.int .i64 an, .int .i64 ad]] w fun e w' => e = .returned (.bool true) ∧ Below w.heap.size w w')) (VB : Hid (∀ w, Calls Try.prog 17 #[.agg #[.int .i64 bn, .int .i64 bd]] w fun e w' => e = .returned (.bool true) ∧ Below w.heap.size w w')) :
    Calls Try.prog 12 #[.agg #[.int .i64 an, .int .i64 ad], .agg #[.int .i64 bn, .int .i64 bd], .agg #[.int .i64 cn, .int .i64 cd]] w fun e w' => e = .returned (.bool true) ∧ Below w.heap.size w w' := by
  have bb := Below.refl w.heap.size w
  have ka := Blk.new w (w.heap.size) (by simp) 23 #[.int .i64 an, .int .i64 ad]
  have bb := bb.alloc bb.size (.cells #[.int .i64 an, .int .i64 ad] 23)
  have ka := ka.alloc (.cells #[.int .i64 bn, .int .i64 bd] 23)
  have kb := Blk.new (w.alloc (.cells #[.int .i64 an, .int .i64 ad] 23)) (w.heap.size + 1) (by simp) 23 #[.int .i64 bn, .int .i64 bd]
  have bb := bb.alloc bb.size (.cells #[.int .i64 bn, .int .i64 bd] 23)
  have ka := ka.alloc (.cells #[.int .i64 cn, .int .i64 cd] 23)
  have kb := kb.alloc (.cells #[.int .i64 cn, .int .i64 cd] 23)
  have kc := Blk.new ((w.alloc (.cells #[.int .i64 an, .int .i64 ad] 23)).alloc (.cells #[.int .i64 bn, .int .i64 bd] 23)) (w.heap.size + 1 + 1) (by simp) 23 #[.int .i64 cn, .int .i64 cd]
  have bb := bb.alloc bb.size (.cells #[.int .i64 cn, .int .i64 cd] 23)
  have ca0 := ka.cell 0
  have ca1 := ka.cell 1
  have cb0 := kb.cell 0
  have cb1 := kb.cell 1
  have cc0 := kc.cell 0
  have cc1 := kc.cell 1
  simp only [List.getElem?_toArray, List.getElem?_cons_zero, List.getElem?_cons_succ] at ca0 ca1 cb0 cb1 cc0 cc1
  go_enter Try.func12, Try.ntmps12
  go_wp2_with fail
  refine (C1.out _).mono ?_
  rintro e w1 ⟨rfl, hb1⟩
  clear ca0 ca1 cb0 cb1 cc0 cc1
  have ka := ka.low hb1 ka.lt
  have kb := kb.low hb1 kb.lt
  have kc := kc.low hb1 kc.lt
  have bb := bb.trans (hb1.mono bb.size)
  clear hb1
  have ca0 := ka.cell 0
  have ca1 := ka.cell 1
  have cb0 := kb.cell 0
  have cb1 := kb.cell 1
  have cc0 := kc.cell 0
  have cc1 := kc.cell 1
  simp only [List.getElem?_toArray, List.getElem?_cons_zero, List.getElem?_cons_succ] at ca0 ca1 cb0 cb1 cc0 cc1
  go_wp2_with fail
  refine (C2.out _).mono ?_
  rintro e w2 ⟨rfl, hb2⟩
  clear ca0 ca1 cb0 cb1 cc0 cc1
  have ka := ka.low hb2 ka.lt
  have kb := kb.low hb2 kb.lt
  have kc := kc.low hb2 kc.lt
  have bb := bb.trans (hb2.mono bb.size)
  clear hb2
  have ca0 := ka.cell 0
  have ca1 := ka.cell 1
  have cb0 := kb.cell 0
  have cb1 := kb.cell 1
  have cc0 := kc.cell 0
  have cc1 := kc.cell 1
  simp only [List.getElem?_toArray, List.getElem?_cons_zero, List.getElem?_cons_succ] at ca0 ca1 cb0 cb1 cc0 cc1
  go_wp2_with fail
  refine (C3.out _).mono ?_
  rintro e w3 ⟨rfl, hb3⟩
  clear ca0 ca1 cb0 cb1 cc0 cc1
  have ka := ka.low hb3 ka.lt
  have kb := kb.low hb3 kb.lt
  have kc := kc.low hb3 kc.lt
  have bb := bb.trans (hb3.mono bb.size)
  clear hb3
  have ca0 := ka.cell 0
  have ca1 := ka.cell 1
  have cb0 := kb.cell 0
  have cb1 := kb.cell 1
  have cc0 := kc.cell 0
  have cc1 := kc.cell 1
  simp only [List.getElem?_toArray, List.getElem?_cons_zero, List.getElem?_cons_succ] at ca0 ca1 cb0 cb1 cc0 cc1
  go_wp2_with fail
  refine (C4.out _).mono ?_
  rintro e w4 ⟨rfl, hb4⟩
  clear ca0 ca1 cb0 cb1 cc0 cc1
  have ka := ka.low hb4 ka.lt
  have kb := kb.low hb4 kb.lt
  have kc := kc.low hb4 kc.lt
  have bb := bb.trans (hb4.mono bb.size)
  clear hb4
  have ca0 := ka.cell 0
  have ca1 := ka.cell 1
  have cb0 := kb.cell 0
  have cb1 := kb.cell 1
  have cc0 := kc.cell 0
  have cc1 := kc.cell 1
  simp only [List.getElem?_toArray, List.getElem?_cons_zero, List.getElem?_cons_succ] at ca0 ca1 cb0 cb1 cc0 cc1
  go_wp2_with fail
  refine (awake_any _).mono ?_
  rintro e w5 ⟨rfl, hb5⟩
  clear ca0 ca1 cb0 cb1 cc0 cc1
  have ka := ka.low hb5 ka.lt
  have kb := kb.low hb5 kb.lt
  have kc := kc.low hb5 kc.lt
  have bb := bb.trans (hb5.mono bb.size)
  clear hb5
  have ca0 := ka.cell 0
  have ca1 := ka.cell 1
  have cb0 := kb.cell 0
  have cb1 := kb.cell 1
  have cc0 := kc.cell 0
  have cc1 := kc.cell 1
  simp only [List.getElem?_toArray, List.getElem?_cons_zero, List.getElem?_cons_succ] at ca0 ca1 cb0 cb1 cc0 cc1
  go_wp2_with fail
  refine (VA.out _).mono ?_
  rintro e w6 ⟨rfl, hb6⟩
  clear ca0 ca1 cb0 cb1 cc0 cc1
  have ka := ka.low hb6 ka.lt
  have kb := kb.low hb6 kb.lt
  have kc := kc.low hb6 kc.lt
  have bb := bb.trans (hb6.mono bb.size)
  clear hb6
  have ca0 := ka.cell 0
  have ca1 := ka.cell 1
  have cb0 := kb.cell 0
  have cb1 := kb.cell 1
  have cc0 := kc.cell 0
  have cc1 := kc.cell 1
  simp only [List.getElem?_toArray, List.getElem?_cons_zero, List.getElem?_cons_succ] at ca0 ca1 cb0 cb1 cc0 cc1
  go_wp2_with fail
  refine (VB.out _).mono ?_
  rintro e w7 ⟨rfl, hb7⟩
  clear ca0 ca1 cb0 cb1 cc0 cc1
  have ka := ka.low hb7 ka.lt
  have kb := kb.low hb7 kb.lt
  have kc := kc.low hb7 kc.lt
  have bb := bb.trans (hb7.mono bb.size)
  clear hb7
  go_wp2_with fail
  go_ret
  exact ⟨by simp, bb⟩

set_option maxRecDepth 100000 in
set_option maxHeartbeats 2000000 in
theorem ord_pd_pp (an ad bn bd cn cd : Int) (w : World) (hn : (an == bn) = true) (hd : (ad == bd) = false) (C1 : Hid (∀ w, Calls Try.prog 26 #[.agg #[.int .i64 an, .int .i64 ad], .agg #[.int .i64 bn, .int .i64 bd]] w fun e w' => e = .returned (.tuple #[.int .i64 1, .int .i64 0]) ∧ Below w.heap.size w w')) (C2 : Hid (∀ w, Calls Try.prog 26 #[.agg #[.int .i64 bn, .int .i64 bd], .agg #[.int .i64 an, .int .i64 ad]] w fun e w' => e = .returned (.tuple #[.int .i64 (-1), .int .i64 0]) ∧ Below w.heap.size w w')) (C3 : Hid (∀ w, Calls Try.prog 26 #[.agg #[.int .i64 bn, .int .i64 bd], .agg #[.int .i64 cn, .int .i64 cd]] w fun e w' => e = .returned (.tuple #[.int .i64 1, .int .i64 0]) ∧ Below w.heap.size w w')) (C4 : Hid (∀ w, Calls Try.prog 26 #[.agg #[.int .i64 an, .int .i64 ad], .agg #[.int .i64 cn, .int .i64 cd]] w fun e w' => e = .returned (.tuple #[.int .i64 1, .int .i64 0]) ∧ Below w.heap.size w w')) (VA : Hid (∀ w, Calls Try.prog 17 #[.agg #[.int .i64 an, .int .i64 ad]] w fun e w' => e = .returned (.bool true) ∧ Below w.heap.size w w')) (VB : Hid (∀ w, Calls Try.prog 17 #[.agg #[.int .i64 bn, .int .i64 bd]] w fun e w' => e = .returned (.bool true) ∧ Below w.heap.size w w')) :
    Calls Try.prog 12 #[.agg #[.int .i64 an, .int .i64 ad], .agg #[.int .i64 bn, .int .i64 bd], .agg #[.int .i64 cn, .int .i64 cd]] w fun e w' => e = .returned (.bool true) ∧ Below w.heap.size w w' := by
  have bb := Below.refl w.heap.size w
  have ka := Blk.new w (w.heap.size) (by simp) 23 #[.int .i64 an, .int .i64 ad]
  have bb := bb.alloc bb.size (.cells #[.int .i64 an, .int .i64 ad] 23)
  have ka := ka.alloc (.cells #[.int .i64 bn, .int .i64 bd] 23)
  have kb := Blk.new (w.alloc (.cells #[.int .i64 an, .int .i64 ad] 23)) (w.heap.size + 1) (by simp) 23 #[.int .i64 bn, .int .i64 bd]
  have bb := bb.alloc bb.size (.cells #[.int .i64 bn, .int .i64 bd] 23)
  have ka := ka.alloc (.cells #[.int .i64 cn, .int .i64 cd] 23)
  have kb := kb.alloc (.cells #[.int .i64 cn, .int .i64 cd] 23)
  have kc := Blk.new ((w.alloc (.cells #[.int .i64 an, .int .i64 ad] 23)).alloc (.cells #[.int .i64 bn, .int .i64 bd] 23)) (w.heap.size + 1 + 1) (by simp) 23 #[.int .i64 cn, .int .i64 cd]
  have bb := bb.alloc bb.size (.cells #[.int .i64 cn, .int .i64 cd] 23)
  have ca0 := ka.cell 0
  have ca1 := ka.cell 1
  have cb0 := kb.cell 0
  have cb1 := kb.cell 1
  have cc0 := kc.cell 0
  have cc1 := kc.cell 1
  simp only [List.getElem?_toArray, List.getElem?_cons_zero, List.getElem?_cons_succ] at ca0 ca1 cb0 cb1 cc0 cc1
  go_enter Try.func12, Try.ntmps12
  go_wp2_with fail
  refine (C1.out _).mono ?_
  rintro e w1 ⟨rfl, hb1⟩
  clear ca0 ca1 cb0 cb1 cc0 cc1
  have ka := ka.low hb1 ka.lt
  have kb := kb.low hb1 kb.lt
  have kc := kc.low hb1 kc.lt
  have bb := bb.trans (hb1.mono bb.size)
  clear hb1
  have ca0 := ka.cell 0
  have ca1 := ka.cell 1
  have cb0 := kb.cell 0
  have cb1 := kb.cell 1
  have cc0 := kc.cell 0
  have cc1 := kc.cell 1
  simp only [List.getElem?_toArray, List.getElem?_cons_zero, List.getElem?_cons_succ] at ca0 ca1 cb0 cb1 cc0 cc1
  go_wp2_with fail
  refine (C2.out _).mono ?_
  rintro e w2 ⟨rfl, hb2⟩
  clear ca0 ca1 cb0 cb1 cc0 cc1
  have ka := ka.low hb2 ka.lt
  have kb := kb.low hb2 kb.lt
  have kc := kc.low hb2 kc.lt
  have bb := bb.trans (hb2.mono bb.size)
  clear hb2
  have ca0 := ka.cell 0
  have ca1 := ka.cell 1
  have cb0 := kb.cell 0
  have cb1 := kb.cell 1
  have cc0 := kc.cell 0
  have cc1 := kc.cell 1
  simp only [List.getElem?_toArray, List.getElem?_cons_zero, List.getElem?_cons_succ] at ca0 ca1 cb0 cb1 cc0 cc1
  go_wp2_with fail
  refine (C3.out _).mono ?_
  rintro e w3 ⟨rfl, hb3⟩
  clear ca0 ca1 cb0 cb1 cc0 cc1
  have ka := ka.low hb3 ka.lt
  have kb := kb.low hb3 kb.lt
  have kc := kc.low hb3 kc.lt
  have bb := bb.trans (hb3.mono bb.size)
  clear hb3
  have ca0 := ka.cell 0
  have ca1 := ka.cell 1
  have cb0 := kb.cell 0
  have cb1 := kb.cell 1
  have cc0 := kc.cell 0
  have cc1 := kc.cell 1
  simp only [List.getElem?_toArray, List.getElem?_cons_zero, List.getElem?_cons_succ] at ca0 ca1 cb0 cb1 cc0 cc1
  go_wp2_with fail
  refine (C4.out _).mono ?_
  rintro e w4 ⟨rfl, hb4⟩
  clear ca0 ca1 cb0 cb1 cc0 cc1
  have ka := ka.low hb4 ka.lt
  have kb := kb.low hb4 kb.lt
  have kc := kc.low hb4 kc.lt
  have bb := bb.trans (hb4.mono bb.size)
  clear hb4
  have ca0 := ka.cell 0
  have ca1 := ka.cell 1
  have cb0 := kb.cell 0
  have cb1 := kb.cell 1
  have cc0 := kc.cell 0
  have cc1 := kc.cell 1
  simp only [List.getElem?_toArray, List.getElem?_cons_zero, List.getElem?_cons_succ] at ca0 ca1 cb0 cb1 cc0 cc1
  go_wp2_with fail
  refine (awake_any _).mono ?_
  rintro e w5 ⟨rfl, hb5⟩
  clear ca0 ca1 cb0 cb1 cc0 cc1
  have ka := ka.low hb5 ka.lt
  have kb := kb.low hb5 kb.lt
  have kc := kc.low hb5 kc.lt
  have bb := bb.trans (hb5.mono bb.size)
  clear hb5
  have ca0 := ka.cell 0
  have ca1 := ka.cell 1
  have cb0 := kb.cell 0
  have cb1 := kb.cell 1
  have cc0 := kc.cell 0
  have cc1 := kc.cell 1
  simp only [List.getElem?_toArray, List.getElem?_cons_zero, List.getElem?_cons_succ] at ca0 ca1 cb0 cb1 cc0 cc1
  go_wp2_with fail
  refine (VA.out _).mono ?_
  rintro e w6 ⟨rfl, hb6⟩
  clear ca0 ca1 cb0 cb1 cc0 cc1
  have ka := ka.low hb6 ka.lt
  have kb := kb.low hb6 kb.lt
  have kc := kc.low hb6 kc.lt
  have bb := bb.trans (hb6.mono bb.size)
  clear hb6
  have ca0 := ka.cell 0
  have ca1 := ka.cell 1
  have cb0 := kb.cell 0
  have cb1 := kb.cell 1
  have cc0 := kc.cell 0
  have cc1 := kc.cell 1
  simp only [List.getElem?_toArray, List.getElem?_cons_zero, List.getElem?_cons_succ] at ca0 ca1 cb0 cb1 cc0 cc1
  go_wp2_with fail
  refine (VB.out _).mono ?_
  rintro e w7 ⟨rfl, hb7⟩
  clear ca0 ca1 cb0 cb1 cc0 cc1
  have ka := ka.low hb7 ka.lt
  have kb := kb.low hb7 kb.lt
  have kc := kc.low hb7 kc.lt
  have bb := bb.trans (hb7.mono bb.size)
  clear hb7
  go_wp2_with fail
  go_ret
  exact ⟨by simp, bb⟩
end Go.Proofs.Ytfielhbepnkekaa
