/-
  FracOrders: what the law computes is true.
-/
import Derived.Test.YtfielhbepnkekaaLc2
import Derived.Test.YtfielhbepnkekaaLd3
namespace Go.Proofs.Ytfielhbepnkekaa
open Go.RowKit

set_option maxRecDepth 100000 in
set_option maxHeartbeats 2000000 in
theorem ord_ia (an ad bn bd z g zw h cn cd : Int) (w : World) (C1 : Hid (∀ w, Calls Try.prog 26 #[.agg #[.int .i64 an, .int .i64 ad], .agg #[.int .i64 bn, .int .i64 bd]] w fun e w' => e = .returned (.tuple #[.int .i64 0, .int .i64 1]) ∧ Below w.heap.size w w')) (C2 : Hid (∀ w, Calls Try.prog 26 #[.agg #[.int .i64 bn, .int .i64 bd], .agg #[.int .i64 an, .int .i64 ad]] w fun e w' => e = .returned (.tuple #[.int .i64 0, .int .i64 1]) ∧ Below w.heap.size w w')) (C3 : Hid (∀ w, Calls Try.prog 26 #[.agg #[.int .i64 bn, .int .i64 bd], .agg #[.int .i64 cn, .int .i64 cd]] w fun e w' => e = .returned (.tuple #[.int .i64 z, .int .i64 g]) ∧ Below w.heap.size w w')) (C4 : Hid (∀ w, Calls Try.prog 26 #[.agg #[.int .i64 an, .int .i64 ad], .agg #[.int .i64 cn, .int .i64 cd]] w fun e w' => e = .returned (.tuple #[.int .i64 zw, .int .i64 h]) ∧ Below w.heap.size w w')) (VA : Hid (∀ w, Calls Try.prog 17 #[.agg #[.int .i64 an, .int .i64 ad]] w fun e w' => e = .returned (.bool false) ∧ Below w.heap.size w w'))  :
    Calls Try.prog 12 #[.agg #[.int .i64 an, .int .i64 ad], .agg #[.int .i64 bn, .int .i64 bd], .agg #[.int .i64 cn, .int .i64 cd]] w fun e w' => e = .returned (.bool true) ∧ Below w.heap.size w w' := by
  have bb := Below.refl w.heap.size w
  have ka := Blk.new w (w.heap.size) (by simp) 23 #[.int .i64 an, .int .i64 ad]
  have bb := bb.alloc bb.size (.cells #[.int .i64 an, .int .i64 ad] 23)
  have ka := ka.alloc (.cells #[.int .i64 bn, .int .i64 bd] 23)
  have kb := Blk.new (w.alloc (.cells #[.int .i64 an, .int .i64 ad] 23)) (w.heap.size + 1) (by simp) 23 #[.int .i64 bn, .int .i64 bd]
  have bb := bb.alloc bb.size (.cells #[.int .i64 bn, .int .i64 bd] 23)
  have ka := ka.alloc (.cells #[.int .i64 cn, .int .i64 cd] 23)
  have kb := kb.alloc (.cells #[.int .i64 cn, .int .i64 cd] 23)
  have kc := Blk.new ((w.alloc (.cells #[.int .i64 an, .int .i64 ad] 23)).alloc (.cells #[.int .i64 bn, .int .i64 bd] 23)) (w.heap.size + 1 + 1) (by simp) 23 #[.int .i64 cn, .int .i64 cd]
  have bb := bb.alloc bb.size (.cells #[.int .i64 cn, .int .i64 cd] 23)
  have ca0 := ka.cell 0
  have ca1 := ka.cell 1
  have cb0 := kb.cell 0
  have cb1 := kb.cell 1
  have cc0 := kc.cell 0
  have cc1 := kc.cell 1
  simp only [List.getElem?_toArray, List.getElem?_cons_zero, List.getElem?_cons_succ] at ca0 ca1 cb0 cb1 cc0 cc1
  go_enter Try.func12, Try.ntmps12
  go_wp2_with fail
  refine (C1.out _).mono ?_
  rintro e w1 ⟨rfl, hb1⟩
  clear ca0 ca1 cb0 cb1 cc0 cc1
  have ka := ka.low hb1 ka.lt
  have kb := kb.low hb1 kb.lt
  have kc := kc.low hb1 kc.lt
  have bb := bb.trans (hb1.mono bb.size)
  clear hb1
  have ca0 := ka.cell 0
  have ca1 := ka.cell 1
  have cb0 := kb.cell 0
  have cb1 := kb.cell 1
  have cc0 := kc.cell 0
  have cc1 := kc.cell 1
  simp only [List.getElem?_toArray, List.getElem?_cons_zero, List.getElem?_cons_succ] at ca0 ca1 cb0 cb1 cc0 cc1
  go_wp2_with fail
  refine (C2.out _).mono ?_
  rintro e w2 ⟨rfl, hb2⟩
  clear ca0 ca1 cb0 cb1 cc0 cc1
  have ka := ka.low hb2 ka.lt
  have kb := kb.low hb2 kb.lt
  have kc := kc.low hb2 kc.lt
  have bb := bb.trans (hb2.mono bb.size)
  clear hb2
  have ca0 := ka.cell 0
  have ca1 := ka.cell 1
  have cb0 := kb.cell 0
  have cb1 := kb.cell 1
  have cc0 := kc.cell 0
  have cc1 := kc.cell 1
  simp only [List.getElem?_toArray, List.getElem?_cons_zero, List.getElem?_cons_succ] at ca0 ca1 cb0 cb1 cc0 cc1
  go_wp2_with fail
  refine (C3.out _).mono ?_
  rintro e w3 ⟨rfl, hb3⟩
  clear ca0 ca1 cb0 cb1 cc0 cc1
  have ka := ka.low hb3 ka.lt
  have kb := kb.low hb3 kb.lt
  have kc := kc.low hb3 kc.lt
  have bb := bb.trans (hb3.mono bb.size)
  clear hb3
  have ca0 := ka.cell 0
  have ca1 := ka.cell 1
  have cb0 := kb.cell 0
  have cb1 := kb.cell 1
  have cc0 := kc.cell 0
  have cc1 := kc.cell 1
  simp only [List.getElem?_toArray, List.getElem?_cons_zero, List.getElem?_cons_succ] at ca0 ca1 cb0 cb1 cc0 cc1
  go_wp2_with fail
  refine (C4.out _).mono ?_
  rintro e w4 ⟨rfl, hb4⟩
  clear ca0 ca1 cb0 cb1 cc0 cc1
  have ka := ka.low hb4 ka.lt
  have kb := kb.low hb4 kb.lt
  have kc := kc.low hb4 kc.lt
  have bb := bb.trans (hb4.mono bb.size)
  clear hb4
  have ca0 := ka.cell 0
  have ca1 := ka.cell 1
  have cb0 := kb.cell 0
  have cb1 := kb.cell 1
  have cc0 := kc.cell 0
  have cc1 := kc.cell 1
  simp only [List.getElem?_toArray, List.getElem?_cons_zero, List.getElem?_cons_succ] at ca0 ca1 cb0 cb1 cc0 cc1
  go_wp2_with fail
  refine (awake_any _).mono ?_
  rintro e w5 ⟨rfl, hb5⟩
  clear ca0 ca1 cb0 cb1 cc0 cc1
  have ka := ka.low hb5 ka.lt
  have kb := kb.low hb5 kb.lt
  have kc := kc.low hb5 kc.lt
  have bb := bb.trans (hb5.mono bb.size)
  clear hb5
  have ca0 := ka.cell 0
  have ca1 := ka.cell 1
  have cb0 := kb.cell 0
  have cb1 := kb.cell 1
  have cc0 := kc.cell 0
  have cc1 := kc.cell 1
  simp only [List.getElem?_toArray, List.getElem?_cons_zero, List.getElem?_cons_succ] at ca0 ca1 cb0 cb1 cc0 cc1
  go_wp2_with fail
  refine (VA.out _).mono ?_
  rintro e w6 ⟨rfl, hb6⟩
  clear ca0 ca1 cb0 cb1 cc0 cc1
  have ka := ka.low hb6 ka.lt
  have kb := kb.low hb6 kb.lt
  have kc := kc.low hb6 kc.lt
  have bb := bb.trans (hb6.mono bb.size)
  clear hb6
  have ca0 := ka.cell 0
  have ca1 := ka.cell 1
  have cb0 := kb.cell 0
  have cb1 := kb.cell 1
  have cc0 := kc.cell 0
  have cc1 := kc.cell 1
  simp only [List.getElem?_toArray, List.getElem?_cons_zero, List.getElem?_cons_succ] at ca0 ca1 cb0 cb1 cc0 cc1
  go_wp2_with fail
  go_ret
  exact ⟨by simp, bb⟩

set_option maxRecDepth 100000 in
set_option maxHeartbeats 2000000 in
theorem ord_ib (an ad bn bd z g zw h cn cd : Int) (w : World) (C1 : Hid (∀ w, Calls Try.prog 26 #[.agg #[.int .i64 an, .int .i64 ad], .agg #[.int .i64 bn, .int .i64 bd]] w fun e w' => e = .returned (.tuple #[.int .i64 0, .int .i64 1]) ∧ Below w.heap.size w w')) (C2 : Hid (∀ w, Calls Try.prog 26 #[.agg #[.int .i64 bn, .int .i64 bd], .agg #[.int .i64 an, .int .i64 ad]] w fun e w' => e = .returned (.tuple #[.int .i64 0, .int .i64 1]) ∧ Below w.heap.size w w')) (C3 : Hid (∀ w, Calls Try.prog 26 #[.agg #[.int .i64 bn, .int .i64 bd], .agg #[.int .i64 cn, .int .i64 cd]] w fun e w' => e = .returned (.tuple #[.int .i64 z, .int .i64 g]) ∧ Below w.heap.size w w')) (C4 : Hid (∀ w, Calls Try.prog 26 #[.agg #[.int .i64 an, .int .i64 ad], .agg #[.int .i64 cn, .int .i64 cd]] w fun e w' => e = .returned (.tuple #[.int .i64 zw, .int .i64 h]) ∧ Below w.heap.size w w')) (VA : Hid (∀ w, Calls Try.prog 17 #[.agg #[.int .i64 an, .int .i64 ad]] w fun e w' => e = .returned (.bool true) ∧ Below w.heap.size w w')) (VB : Hid (∀ w, Calls Try.prog 17 #[.agg #[.int .i64 bn, .int .i64 bd]] w fun e w' => e = .returned (.bool false) ∧ Below w.heap.size w w')) :
    Calls Try.prog 12 #[.agg #[.int .i64 an, .int .i64 ad], .agg #[.int .i64 bn, .int .i64 bd], .agg #[.int .i64 cn, .int .i64 cd]] w fun e w' => e = .returned (.bool true) ∧ Below w.heap.size w w' := by
  have bb := Below.refl w.heap.size w
  have ka := Blk.new w (w.heap.size) (by simp) 23 #[.int .i64 an, .int .i64 ad]
  have bb := bb.alloc bb.size (.cells #[.int .i64 an, .int .i64 ad] 23)
  have ka := ka.alloc (.cells #[.int .i64 bn, .int .i64 bd] 23)
  have kb := Blk.new (w.alloc (.cells #[.int .i64 an, .int .i64 ad] 23)) (w.heap.size + 1) (by simp) 23 #[.int .i64 bn, .int .i64 bd]
  have bb := bb.alloc bb.size (.cells #[.int .i64 bn, .int .i64 bd] 23)
  have ka := ka.alloc (.cells #[.int .i64 cn, .int .i64 cd] 23)
  have kb := kb.alloc (.cells #[.int .i64 cn, .int .i64 cd] 23)
  have kc := Blk.new ((w.alloc (.cells #[.int .i64 an, .int .i64 ad] 23)).alloc (.cells #[.int .i64 bn, .int .i64 bd] 23)) (w.heap.size + 1 + 1) (by simp) 23 #[.int .i64 cn, .int .i64 cd]
  have bb := bb.alloc bb.size (.cells #[.int .i64 cn, .int .i64 cd] 23)
  have ca0 := ka.cell 0
  have ca1 := ka.cell 1
  have cb0 := kb.cell 0
  have cb1 := kb.cell 1
  have cc0 := kc.cell 0
  have cc1 := kc.cell 1
  simp only [List.getElem?_toArray, List.getElem?_cons_zero, List.getElem?_cons_succ] at ca0 ca1 cb0 cb1 cc0 cc1
  go_enter Try.func12, Try.ntmps12
  go_wp2_with fail
  refine (C1.out _).mono ?_
  rintro e w1 ⟨rfl, hb1⟩
  clear ca0 ca1 cb0 cb1 cc0 cc1
  have ka := ka.low hb1 ka.lt
  have kb := kb.low hb1 kb.lt
  have kc := kc.low hb1 kc.lt
  have bb := bb.trans (hb1.mono bb.size)
  clear hb1
  have ca0 := ka.cell 0
  have ca1 := ka.cell 1
  have cb0 := kb.cell 0
  have cb1 := kb.cell 1
  have cc0 := kc.cell 0
  have cc1 := kc.cell 1
  simp only [List.getElem?_toArray, List.getElem?_cons_zero, List.getElem?_cons_succ] at ca0 ca1 cb0 cb1 cc0 cc1
  go_wp2_with fail
  refine (C2.out _).mono ?_
  rintro e w2 ⟨rfl, hb2⟩
  clear ca0 ca1 cb0 cb1 cc0 cc1
  have ka := ka.low hb2 ka.lt
  have kb := kb.low hb2 kb.lt
  have kc := kc.low hb2 kc.lt
  have bb := bb.trans (hb2.mono bb.size)
  clear hb2
  have ca0 := ka.cell 0
  have ca1 := ka.cell 1
  have cb0 := kb.cell 0
  have cb1 := kb.cell 1
  have cc0 := kc.cell 0
  have cc1 := kc.cell 1
  simp only [List.getElem?_toArray, List.getElem?_cons_zero, List.getElem?_cons_succ] at ca0 ca1 cb0 cb1 cc0 cc1
  go_wp2_with fail
  refine (C3.out _).mono ?_
  rintro e w3 ⟨rfl, hb3⟩
  clear ca0 ca1 cb0 cb1 cc0 cc1
  have ka := ka.low hb3 ka.lt
  have kb := kb.low hb3 kb.lt
  have kc := kc.low hb3 kc.lt
  have bb := bb.trans (hb3.mono bb.size)
  clear hb3
  have ca0 := ka.cell 0
  have ca1 := ka.cell 1
  have cb0 := kb.cell 0
  have cb1 := kb.cell 1
  have cc0 := kc.cell 0
  have cc1 := kc.cell 1
  simp only [List.getElem?_toArray, List.getElem?_cons_zero, List.getElem?_cons_succ] at ca0 ca1 cb0 cb1 cc0 cc1
  go_wp2_with fail
  refine (C4.out _).mono ?_
  rintro e w4 ⟨rfl, hb4⟩
  clear ca0 ca1 cb0 cb1 cc0 cc1
  have ka := ka.low hb4 ka.lt
  have kb := kb.low hb4 kb.lt
  have kc := kc.low hb4 kc.lt
  have bb := bb.trans (hb4.mono bb.size)
  clear hb4
  have ca0 := ka.cell 0
  have ca1 := ka.cell 1
  have cb0 := kb.cell 0
  have cb1 := kb.cell 1
  have cc0 := kc.cell 0
  have cc1 := kc.cell 1
  simp only [List.getElem?_toArray, List.getElem?_cons_zero, List.getElem?_cons_succ] at ca0 ca1 cb0 cb1 cc0 cc1
  go_wp2_with fail
  refine (awake_any _).mono ?_
  rintro e w5 ⟨rfl, hb5⟩
  clear ca0 ca1 cb0 cb1 cc0 cc1
  have ka := ka.low hb5 ka.lt
  have kb := kb.low hb5 kb.lt
  have kc := kc.low hb5 kc.lt
  have bb := bb.trans (hb5.mono bb.size)
  clear hb5
  have ca0 := ka.cell 0
  have ca1 := ka.cell 1
  have cb0 := kb.cell 0
  have cb1 := kb.cell 1
  have cc0 := kc.cell 0
  have cc1 := kc.cell 1
  simp only [List.getElem?_toArray, List.getElem?_cons_zero, List.getElem?_cons_succ] at ca0 ca1 cb0 cb1 cc0 cc1
  go_wp2_with fail
  refine (VA.out _).mono ?_
  rintro e w6 ⟨rfl, hb6⟩
  clear ca0 ca1 cb0 cb1 cc0 cc1
  have ka := ka.low hb6 ka.lt
  have kb := kb.low hb6 kb.lt
  have kc := kc.low hb6 kc.lt
  have bb := bb.trans (hb6.mono bb.size)
  clear hb6
  have ca0 := ka.cell 0
  have ca1 := ka.cell 1
  have cb0 := kb.cell 0
  have cb1 := kb.cell 1
  have cc0 := kc.cell 0
  have cc1 := kc.cell 1
  simp only [List.getElem?_toArray, List.getElem?_cons_zero, List.getElem?_cons_succ] at ca0 ca1 cb0 cb1 cc0 cc1
  go_wp2_with fail
  refine (VB.out _).mono ?_
  rintro e w7 ⟨rfl, hb7⟩
  clear ca0 ca1 cb0 cb1 cc0 cc1
  have ka := ka.low hb7 ka.lt
  have kb := kb.low hb7 kb.lt
  have kc := kc.low hb7 kc.lt
  have bb := bb.trans (hb7.mono bb.size)
  clear hb7
  go_wp2_with fail
  go_ret
  exact ⟨by simp, bb⟩

set_option maxRecDepth 100000 in
set_option maxHeartbeats 2000000 in
theorem ord_mn_bad (an ad bn bd cn cd : Int) (w : World) (hn : (an == bn) = false) (C1 : Hid (∀ w, Calls Try.prog 26 #[.agg #[.int .i64 an, .int .i64 ad], .agg #[.int .i64 bn, .int .i64 bd]] w fun e w' => e = .returned (.tuple #[.int .i64 (-1), .int .i64 0]) ∧ Below w.heap.size w w')) (C2 : Hid (∀ w, Calls Try.prog 26 #[.agg #[.int .i64 bn, .int .i64 bd], .agg #[.int .i64 an, .int .i64 ad]] w fun e w' => e = .returned (.tuple #[.int .i64 1, .int .i64 0]) ∧ Below w.heap.size w w')) (C3 : Hid (∀ w, Calls Try.prog 26 #[.agg #[.int .i64 bn, .int .i64 bd], .agg #[.int .i64 cn, .int .i64 cd]] w fun e w' => e = .returned (.tuple #[.int .i64 0, .int .i64 1]) ∧ Below w.heap.size w w')) (C4 : Hid (∀ w, Calls Try.prog 26 #[.agg #[.int .i64 an, .int .i64 ad], .agg #[.int .i64 cn, .int .i64 cd]] w fun e w' => e = .returned (.tuple #[.int .i64 0, .int .i64 1]) ∧ Below w.heap.size w w')) (VA : Hid (∀ w, Calls Try.prog 17 #[.agg #[.int .i64 an, .int .i64 ad]] w fun e w' => e = .returned (.bool true) ∧ Below w.heap.size w w')) (VB : Hid (∀ w, Calls Try.prog 17 #[.agg #[.int .i64 bn, .int .i64 bd]] w fun e w' => e = .returned (.bool true) ∧ Below w.heap.size w w')) :
    Calls Try.prog 12 #[.agg #[.int .i64 an, .int .i64 ad], .agg #[.int .i64 bn, .int .i64 bd], .agg #[.int .i64 cn, .int .i64 cd]] w fun e w' => e = .returned (.bool true) ∧ Below w.heap.size w w' := by
  have bb := Below.refl w.heap.size w
  have ka := Blk.new w (w.heap.size) (by simp) 23 #[.int .i64 an, .int .i64 ad]
  have bb := bb.alloc bb.size (.cells #[.int .i64 an, .int .i64 ad] 23)
  have ka := ka.alloc (.cells #[.int .i64 bn, .int .i64 bd] 23)
  have kb := Blk.new (w.alloc (.cells #[.int .i64 an, .int .i64 ad] 23)) (w.heap.size + 1) (by simp) 23 #[.int .i64 bn, .int .i64 bd]
  have bb := bb.alloc bb.size (.cells #[.int .i64 bn, .int .i64 bd] 23)
  have ka := ka.alloc (.cells #[.int .i64 cn, .int .i64 cd] 23)
  have kb := kb.alloc (.cells #[.int .i64 cn, .int .i64 cd] 23)
  have kc := Blk.new ((w.alloc (.cells #[.int .i64 an, .int .i64 ad] 23)).alloc (.cells #[.int .i64 bn, .int .i64 bd] 23)) (w.heap.size + 1 + 1) (by simp) 23 #[.int .i64 cn, .int .i64 cd]
  have bb := bb.alloc bb.size (.cells #[.int .i64 cn, .int .i64 cd] 23)
  have ca0 := ka.cell 0
  have ca1 := ka.cell 1
  have cb0 := kb.cell 0
  have cb1 := kb.cell 1
  have cc0 := kc.cell 0
  have cc1 := kc.cell 1
  simp only [List.getElem?_toArray, List.getElem?_cons_zero, List.getElem?_cons_succ] at ca0 ca1 cb0 cb1 cc0 cc1
  go_enter Try.func12, Try.ntmps12
  go_wp2_with fail
  refine (C1.out _).mono ?_
  rintro e w1 ⟨rfl, hb1⟩
  clear ca0 ca1 cb0 cb1 cc0 cc1
  have ka := ka.low hb1 ka.lt
  have kb := kb.low hb1 kb.lt
  have kc := kc.low hb1 kc.lt
  have bb := bb.trans (hb1.mono bb.size)
  clear hb1
  have ca0 := ka.cell 0
  have ca1 := ka.cell 1
  have cb0 := kb.cell 0
  have cb1 := kb.cell 1
  have cc0 := kc.cell 0
  have cc1 := kc.cell 1
  simp only [List.getElem?_toArray, List.getElem?_cons_zero, List.getElem?_cons_succ] at ca0 ca1 cb0 cb1 cc0 cc1
  go_wp2_with fail
  refine (C2.out _).mono ?_
  rintro e w2 ⟨rfl, hb2⟩
  clear ca0 ca1 cb0 cb1 cc0 cc1
  have ka := ka.low hb2 ka.lt
  have kb := kb.low hb2 kb.lt
  have kc := kc.low hb2 kc.lt
  have bb := bb.trans (hb2.mono bb.size)
  clear hb2
  have ca0 := ka.cell 0
  have ca1 := ka.cell 1
  have cb0 := kb.cell 0
  have cb1 := kb.cell 1
  have cc0 := kc.cell 0
  have cc1 := kc.cell 1
  simp only [List.getElem?_toArray, List.getElem?_cons_zero, List.getElem?_cons_succ] at ca0 ca1 cb0 cb1 cc0 cc1
  go_wp2_with fail
  refine (C3.out _).mono ?_
  rintro e w3 ⟨rfl, hb3⟩
  clear ca0 ca1 cb0 cb1 cc0 cc1
  have ka := ka.low hb3 ka.lt
  have kb := kb.low hb3 kb.lt
  have kc := kc.low hb3 kc.lt
  have bb := bb.trans (hb3.mono bb.size)
  clear hb3
  have ca0 := ka.cell 0
  have ca1 := ka.cell 1
  have cb0 := kb.cell 0
  have cb1 := kb.cell 1
  have cc0 := kc.cell 0
  have cc1 := kc.cell 1
  simp only [List.getElem?_toArray, List.getElem?_cons_zero, List.getElem?_cons_succ] at ca0 ca1 cb0 cb1 cc0 cc1
  go_wp2_with fail
  refine (C4.out _).mono ?_
  rintro e w4 ⟨rfl, hb4⟩
  clear ca0 ca1 cb0 cb1 cc0 cc1
  have ka := ka.low hb4 ka.lt
  have kb := kb.low hb4 kb.lt
  have kc := kc.low hb4 kc.lt
  have bb := bb.trans (hb4.mono bb.size)
  clear hb4
  have ca0 := ka.cell 0
  have ca1 := ka.cell 1
  have cb0 := kb.cell 0
  have cb1 := kb.cell 1
  have cc0 := kc.cell 0
  have cc1 := kc.cell 1
  simp only [List.getElem?_toArray, List.getElem?_cons_zero, List.getElem?_cons_succ] at ca0 ca1 cb0 cb1 cc0 cc1
  go_wp2_with fail
  refine (awake_any _).mono ?_
  rintro e w5 ⟨rfl, hb5⟩
  clear ca0 ca1 cb0 cb1 cc0 cc1
  have ka := ka.low hb5 ka.lt
  have kb := kb.low hb5 kb.lt
  have kc := kc.low hb5 kc.lt
  have bb := bb.trans (hb5.mono bb.size)
  clear hb5
  have ca0 := ka.cell 0
  have ca1 := ka.cell 1
  have cb0 := kb.cell 0
  have cb1 := kb.cell 1
  have cc0 := kc.cell 0
  have cc1 := kc.cell 1
  simp only [List.getElem?_toArray, List.getElem?_cons_zero, List.getElem?_cons_succ] at ca0 ca1 cb0 cb1 cc0 cc1
  go_wp2_with fail
  refine (VA.out _).mono ?_
  rintro e w6 ⟨rfl, hb6⟩
  clear ca0 ca1 cb0 cb1 cc0 cc1
  have ka := ka.low hb6 ka.lt
  have kb := kb.low hb6 kb.lt
  have kc := kc.low hb6 kc.lt
  have bb := bb.trans (hb6.mono bb.size)
  clear hb6
  have ca0 := ka.cell 0
  have ca1 := ka.cell 1
  have cb0 := kb.cell 0
  have cb1 := kb.cell 1
  have cc0 := kc.cell 0
  have cc1 := kc.cell 1
  simp only [List.getElem?_toArray, List.getElem?_cons_zero, List.getElem?_cons_succ] at ca0 ca1 cb0 cb1 cc0 cc1
  go_wp2_with fail
  refine (VB.out _).mono ?_
  rintro e w7 ⟨rfl, hb7⟩
  clear ca0 ca1 cb0 cb1 cc0 cc1
  have ka := ka.low hb7 ka.lt
  have kb := kb.low hb7 kb.lt
  have kc := kc.low hb7 kc.lt
  have bb := bb.trans (hb7.mono bb.size)
  clear hb7
  go_wp2_with fail
  go_ret
  exact ⟨by simp, bb⟩

set_option maxRecDepth 100000 in
set_option maxHeartbeats 2000000 in
theorem ord_md_bad (an ad bn bd cn cd : Int) (w : World) (hn : (an == bn) = true) (hd : (ad == bd) = false) (C1 : Hid (∀ w, Calls Try.prog 26 #[.agg #[.int .i64 an, .int .i64 ad], .agg #[.int .i64 bn, .int .i64 bd]] w fun e w' => e = .returned (.tuple #[.int .i64 (-1), .int .i64 0]) ∧ Below w.heap.size w w')) (C2 : Hid (∀ w, Calls Try.prog 26 #[.agg #[.int .i64 bn, .int .i64 bd], .agg #[.int .i64 an, .int .i64 ad]] w fun e w' => e = .returned (.tuple #[.int .i64 1, .int .i64 0]) ∧ Below w.heap.size w w')) (C3 : Hid (∀ w, Calls Try.prog 26 #[.agg #[.int .i64 bn, .int .i64 bd], .agg #[.int .i64 cn, .int .i64 cd]] w fun e w' => e = .returned (.tuple #[.int .i64 0, .int .i64 1]) ∧ Below w.heap.size w w')) (C4 : Hid (∀ w, Calls Try.prog 26 #[.agg #[.int .i64 an, .int .i64 ad], .agg #[.int .i64 cn, .int .i64 cd]] w fun e w' => e = .returned (.tuple #[.int .i64 0, .int .i64 1]) ∧ Below w.heap.size w w')) (VA : Hid (∀ w, Calls Try.prog 17 #[.agg #[.int .i64 an, .int .i64 ad]] w fun e w' => e = .returned (.bool true) ∧ Below w.heap.size w w')) (VB : Hid (∀ w, Calls Try.prog 17 #[.agg #[.int .i64 bn, .int .i64 bd]] w fun e w' => e = .returned (.bool true) ∧ Below w.heap.size w w')) :
    Calls Try.prog 12 #[.agg #[.int .i64 an, .int .i64 ad], .agg #[.int .i64 bn, .int .i64 bd], .agg #[.int .i64 cn, .int .i64 cd]] w fun e w' => e = .returned (.bool true) ∧ Below w.heap.size w w' := by
  have bb := Below.refl w.heap.size w
  have ka := Blk.new w (w.heap.size) (by simp) 23 #[.int .i64 an, .int .i64 ad]
  have bb := bb.alloc bb.size (.cells #[.int .i64 an, .int .i64 ad] 23)
  have ka := ka.alloc (.cells #[.int .i64 bn, .int .i64 bd] 23)
  have kb := Blk.new (w.alloc (.cells #[.int .i64 an, .int .i64 ad] 23)) (w.heap.size + 1) (by simp) 23 #[.int .i64 bn, .int .i64 bd]
  have bb := bb.alloc bb.size (.cells #[.int .i64 bn, .int .i64 bd] 23)
  have ka := ka.alloc (.cells #[.int .i64 cn, .int .i64 cd] 23)
  have kb := kb.alloc (.cells #[.int .i64 cn, .int .i64 cd] 23)
  have kc := Blk.new ((w.alloc (.cells #[.int .i64 an, .int .i64 ad] 23)).alloc (.cells #[.int .i64 bn, .int .i64 bd] 23)) (w.heap.size + 1 + 1) (by simp) 23 #[.int .i64 cn, .int .i64 cd]
  have bb := bb.alloc bb.size (.cells #[.int .i64 cn, .int .i64 cd] 23)
  have ca0 := ka.cell 0
  have ca1 := ka.cell 1
  have cb0 := kb.cell 0
  have cb1 := kb.cell 1
  have cc0 := kc.cell 0
  have cc1 := kc.cell 1
  simp only [List.getElem?_toArray, List.getElem?_cons_zero, List.getElem?_cons_succ] at ca0 ca1 cb0 cb1 cc0 cc1
  go_enter Try.func12, Try.ntmps12
  go_wp2_with fail
  refine (C1.out _).mono ?_
  rintro e w1 ⟨rfl, hb1⟩
  clear ca0 ca1 cb0 cb1 cc0 cc1
  have ka := ka.low hb1 ka.lt
  have kb := kb.low hb1 kb.lt
  have kc := kc.low hb1 kc.lt
  have bb := bb.trans (hb1.mono bb.size)
  clear hb1
  have ca0 := ka.cell 0
  have ca1 := ka.cell 1
  have cb0 := kb.cell 0
  have cb1 := kb.cell 1
  have cc0 := kc.cell 0
  have cc1 := kc.cell 1
  simp only [List.getElem?_toArray, List.getElem?_cons_zero, List.getElem?_cons_succ] at ca0 ca1 cb0 cb1 cc0 cc1
  go_wp2_with fail
  refine (C2.out _).mono ?_
  rintro e w2 ⟨rfl, hb2⟩
  clear ca0 ca1 cb0 cb1 cc0 cc1
  have ka := ka.low hb2 ka.lt
  have kb := kb.low hb2 kb.lt
  have kc := kc.low hb2 kc.lt
  have bb := bb.trans (hb2.mono bb.size)
  clear hb2
  have ca0 := ka.cell 0
  have ca1 := ka.cell 1
  have cb0 := kb.cell 0
  have cb1 := kb.cell 1
  have cc0 := kc.cell 0
  have cc1 := kc.cell 1
  simp only [List.getElem?_toArray, List.getElem?_cons_zero, List.getElem?_cons_succ] at ca0 ca1 cb0 cb1 cc0 cc1
  go_wp2_with fail
  refine (C3.out _).mono ?_
  rintro e w3 ⟨rfl, hb3⟩
  clear ca0 ca1 cb0 cb1 cc0 cc1
  have ka := ka.low hb3 ka.lt
  have kb := kb.low hb3 kb.lt
  have kc := kc.low hb3 kc.lt
  have bb := bb.trans (hb3.mono bb.size)
  clear hb3
  have ca0 := ka.cell 0
  have ca1 := ka.cell 1
  have cb0 := kb.cell 0
  have cb1 := kb.cell 1
  have cc0 := kc.cell 0
  have cc1 := kc.cell 1
  simp only [List.getElem?_toArray, List.getElem?_cons_zero, List.getElem?_cons_succ] at ca0 ca1 cb0 cb1 cc0 cc1
  go_wp2_with fail
  refine (C4.out _).mono ?_
  rintro e w4 ⟨rfl, hb4⟩
  clear ca0 ca1 cb0 cb1 cc0 cc1
  have ka := ka.low hb4 ka.lt
  have kb := kb.low hb4 kb.lt
  have kc := kc.low hb4 kc.lt
  have bb := bb.trans (hb4.mono bb.size)
  clear hb4
  have ca0 := ka.cell 0
  have ca1 := ka.cell 1
  have cb0 := kb.cell 0
  have cb1 := kb.cell 1
  have cc0 := kc.cell 0
  have cc1 := kc.cell 1
  simp only [List.getElem?_toArray, List.getElem?_cons_zero, List.getElem?_cons_succ] at ca0 ca1 cb0 cb1 cc0 cc1
  go_wp2_with fail
  refine (awake_any _).mono ?_
  rintro e w5 ⟨rfl, hb5⟩
  clear ca0 ca1 cb0 cb1 cc0 cc1
  have ka := ka.low hb5 ka.lt
  have kb := kb.low hb5 kb.lt
  have kc := kc.low hb5 kc.lt
  have bb := bb.trans (hb5.mono bb.size)
  clear hb5
  have ca0 := ka.cell 0
  have ca1 := ka.cell 1
  have cb0 := kb.cell 0
  have cb1 := kb.cell 1
  have cc0 := kc.cell 0
  have cc1 := kc.cell 1
  simp only [List.getElem?_toArray, List.getElem?_cons_zero, List.getElem?_cons_succ] at ca0 ca1 cb0 cb1 cc0 cc1
  go_wp2_with fail
  refine (VA.out _).mono ?_
  rintro e w6 ⟨rfl, hb6⟩
  clear ca0 ca1 cb0 cb1 cc0 cc1
  have ka := ka.low hb6 ka.lt
  have kb := kb.low hb6 kb.lt
  have kc := kc.low hb6 kc.lt
  have bb := bb.trans (hb6.mono bb.size)
  clear hb6
  have ca0 := ka.cell 0
  have ca1 := ka.cell 1
  have cb0 := kb.cell 0
  have cb1 := kb.cell 1
  have cc0 := kc.cell 0
  have cc1 := kc.cell 1
  simp only [List.getElem?_toArray, List.getElem?_cons_zero, List.getElem?_cons_succ] at ca0 ca1 cb0 cb1 cc0 cc1
  go_wp2_with fail
  refine (VB.out _).mono ?_
  rintro e w7 ⟨rfl, hb7⟩
  clear ca0 ca1 cb0 cb1 cc0 cc1
  have ka := ka.low hb7 ka.lt
  have kb := kb.low hb7 kb.lt
  have kc := kc.low hb7 kc.lt
  have bb := bb.trans (hb7.mono bb.size)
  clear hb7
  go_wp2_with fail
  go_ret
  exact ⟨by simp, bb⟩

set_option maxRecDepth 100000 in
set_option maxHeartbeats 2000000 in
theorem ord_z_bad (an ad cn cd : Int) (w : World) (C1 : Hid (∀ w, Calls Try.prog 26 #[.agg #[.int .i64 an, .int .i64 ad], .agg #[.int .i64 an, .int .i64 ad]] w fun e w' => e = .returned (.tuple #[.int .i64 0, .int .i64 0]) ∧ Below w.heap.size w w')) (C2 : Hid (∀ w, Calls Try.prog 26 #[.agg #[.int .i64 an, .int .i64 ad], .agg #[.int .i64 an, .int .i64 ad]] w fun e w' => e = .returned (.tuple #[.int .i64 0, .int .i64 0]) ∧ Below w.heap.size w w')) (C3 : Hid (∀ w, Calls Try.prog 26 #[.agg #[.int .i64 an, .int .i64 ad], .agg #[.int .i64 cn, .int .i64 cd]] w fun e w' => e = .returned (.tuple #[.int .i64 0, .int .i64 1]) ∧ Below w.heap.size w w')) (C4 : Hid (∀ w, Calls Try.prog 26 #[.agg #[.int .i64 an, .int .i64 ad], .agg #[.int .i64 cn, .int .i64 cd]] w fun e w' => e = .returned (.tuple #[.int .i64 0, .int .i64 1]) ∧ Below w.heap.size w w')) (VA : Hid (∀ w, Calls Try.prog 17 #[.agg #[.int .i64 an, .int .i64 ad]] w fun e w' => e = .returned (.bool true) ∧ Below w.heap.size w w'))  :
    Calls Try.prog 12 #[.agg #[.int .i64 an, .int .i64 ad], .agg #[.int .i64 an, .int .i64 ad], .agg #[.int .i64 cn, .int .i64 cd]] w fun e w' => e = .returned (.bool true) ∧ Below w.heap.size w w' := by
  have bb := Below.refl w.heap.size w
  have ka := Blk.new w (w.heap.size) (by simp) 23 #[.int .i64 an, .int .i64 ad]
  have bb := bb.alloc bb.size (.cells #[.int .i64 an, .int .i64 ad] 23)
  have ka := ka.alloc (.cells #[.int .i64 an, .int .i64 ad] 23)
  have kb := Blk.new (w.alloc (.cells #[.int .i64 an, .int .i64 ad] 23)) (w.heap.size + 1) (by simp) 23 #[.int .i64 an, .int .i64 ad]
  have bb := bb.alloc bb.size (.cells #[.int .i64 an, .int .i64 ad] 23)
  have ka := ka.alloc (.cells #[.int .i64 cn, .int .i64 cd] 23)
  have kb := kb.alloc (.cells #[.int .i64 cn, .int .i64 cd] 23)
  have kc := Blk.new ((w.alloc (.cells #[.int .i64 an, .int .i64 ad] 23)).alloc (.cells #[.int .i64 an, .int .i64 ad] 23)) (w.heap.size + 1 + 1) (by simp) 23 #[.int .i64 cn, .int .i64 cd]
  have bb := bb.alloc bb.size (.cells #[.int .i64 cn, .int .i64 cd] 23)
  have ca0 := ka.cell 0
  have ca1 := ka.cell 1
  have cb0 := kb.cell 0
  have cb1 := kb.cell 1
  have cc0 := kc.cell 0
  have cc1 := kc.cell 1
  simp only [List.getElem?_toArray, List.getElem?_cons_zero, List.getElem?_cons_succ] at ca0 ca1 cb0 cb1 cc0 cc1
  go_enter Try.func12, Try.ntmps12
  go_wp2_with fail
  refine (C1.out _).mono ?_
  rintro e w1 ⟨rfl, hb1⟩
  clear ca0 ca1 cb0 cb1 cc0 cc1
  have ka := ka.low hb1 ka.lt
  have kb := kb.low hb1 kb.lt
  have kc := kc.low hb1 kc.lt
  have bb := bb.trans (hb1.mono bb.size)
  clear hb1
  have ca0 := ka.cell 0
  have ca1 := ka.cell 1
  have cb0 := kb.cell 0
  have cb1 := kb.cell 1
  have cc0 := kc.cell 0
  have cc1 := kc.cell 1
  simp only [List.getElem?_toArray, List.getElem?_cons_zero, List.getElem?_cons_succ] at ca0 ca1 cb0 cb1 cc0 cc1
  go_wp2_with fail
  refine (C2.out _).mono ?_
  rintro e w2 ⟨rfl, hb2⟩
  clear ca0 ca1 cb0 cb1 cc0 cc1
  have ka := ka.low hb2 ka.lt
  have kb := kb.low hb2 kb.lt
  have kc := kc.low hb2 kc.lt
  have bb := bb.trans (hb2.mono bb.size)
  clear hb2
  have ca0 := ka.cell 0
  have ca1 := ka.cell 1
  have cb0 := kb.cell 0
  have cb1 := kb.cell 1
  have cc0 := kc.cell 0
  have cc1 := kc.cell 1
  simp only [List.getElem?_toArray, List.getElem?_cons_zero, List.getElem?_cons_succ] at ca0 ca1 cb0 cb1 cc0 cc1
  go_wp2_with fail
  refine (C3.out _).mono ?_
  rintro e w3 ⟨rfl, hb3⟩
  clear ca0 ca1 cb0 cb1 cc0 cc1
  have ka := ka.low hb3 ka.lt
  have kb := kb.low hb3 kb.lt
  have kc := kc.low hb3 kc.lt
  have bb := bb.trans (hb3.mono bb.size)
  clear hb3
  have ca0 := ka.cell 0
  have ca1 := ka.cell 1
  have cb0 := kb.cell 0
  have cb1 := kb.cell 1
  have cc0 := kc.cell 0
  have cc1 := kc.cell 1
  simp only [List.getElem?_toArray, List.getElem?_cons_zero, List.getElem?_cons_succ] at ca0 ca1 cb0 cb1 cc0 cc1
  go_wp2_with fail
  refine (C4.out _).mono ?_
  rintro e w4 ⟨rfl, hb4⟩
  clear ca0 ca1 cb0 cb1 cc0 cc1
  have ka := ka.low hb4 ka.lt
  have kb := kb.low hb4 kb.lt
  have kc := kc.low hb4 kc.lt
  have bb := bb.trans (hb4.mono bb.size)
  clear hb4
  have ca0 := ka.cell 0
  have ca1 := ka.cell 1
  have cb0 := kb.cell 0
  have cb1 := kb.cell 1
  have cc0 := kc.cell 0
  have cc1 := kc.cell 1
  simp only [List.getElem?_toArray, List.getElem?_cons_zero, List.getElem?_cons_succ] at ca0 ca1 cb0 cb1 cc0 cc1
  go_wp2_with fail
  refine (awake_any _).mono ?_
  rintro e w5 ⟨rfl, hb5⟩
  clear ca0 ca1 cb0 cb1 cc0 cc1
  have ka := ka.low hb5 ka.lt
  have kb := kb.low hb5 kb.lt
  have kc := kc.low hb5 kc.lt
  have bb := bb.trans (hb5.mono bb.size)
  clear hb5
  have ca0 := ka.cell 0
  have ca1 := ka.cell 1
  have cb0 := kb.cell 0
  have cb1 := kb.cell 1
  have cc0 := kc.cell 0
  have cc1 := kc.cell 1
  simp only [List.getElem?_toArray, List.getElem?_cons_zero, List.getElem?_cons_succ] at ca0 ca1 cb0 cb1 cc0 cc1
  go_wp2_with fail
  refine (VA.out _).mono ?_
  rintro e w6 ⟨rfl, hb6⟩
  clear ca0 ca1 cb0 cb1 cc0 cc1
  have ka := ka.low hb6 ka.lt
  have kb := kb.low hb6 kb.lt
  have kc := kc.low hb6 kc.lt
  have bb := bb.trans (hb6.mono bb.size)
  clear hb6
  have ca0 := ka.cell 0
  have ca1 := ka.cell 1
  have cb0 := kb.cell 0
  have cb1 := kb.cell 1
  have cc0 := kc.cell 0
  have cc1 := kc.cell 1
  simp only [List.getElem?_toArray, List.getElem?_cons_zero, List.getElem?_cons_succ] at ca0 ca1 cb0 cb1 cc0 cc1
  go_wp2_with fail
  refine (VA.out _).mono ?_
  rintro e w7 ⟨rfl, hb7⟩
  clear ca0 ca1 cb0 cb1 cc0 cc1
  have ka := ka.low hb7 ka.lt
  have kb := kb.low hb7 kb.lt
  have kc := kc.low hb7 kc.lt
  have bb := bb.trans (hb7.mono bb.size)
  clear hb7
  go_wp2_with fail
  go_ret
  exact ⟨by simp, bb⟩

set_option maxRecDepth 100000 in
set_option maxHeartbeats 2000000 in
theorem ord_pn_bad (an ad bn bd cn cd : Int) (w : World) (hn : (an == bn) = false) (C1 : Hid (∀ w, Calls Try.prog 26 #[.agg #[.int .i64 an, .int .i64 ad], .agg #[.int .i64 bn, .int .i64 bd]] w fun e w' => e = .returned (.tuple #[.int .i64 1, .int .i64 0]) ∧ Below w.heap.size w w')) (C2 : Hid (∀ w, Calls Try.prog 26 #[.agg #[.int .i64 bn, .int .i64 bd], .agg #[.int .i64 an, .int .i64 ad]] w fun e w' => e = .returned (.tuple #[.int .i64 (-1), .int .i64 0]) ∧ Below w.heap.size w w')) (C3 : Hid (∀ w, Calls Try.prog 26 #[.agg #[.int .i64 bn, .int .i64 bd], .agg #[.int .i64 cn, .int .i64 cd]] w fun e w' => e = .returned (.tuple #[.int .i64 0, .int .i64 1]) ∧ Below w.heap.size w w')) (C4 : Hid (∀ w, Calls Try.prog 26 #[.agg #[.int .i64 an, .int .i64 ad], .agg #[.int .i64 cn, .int .i64 cd]] w fun e w' => e = .returned (.tuple #[.int .i64 0, .int .i64 1]) ∧ Below w.heap.size w w')) (VA : Hid (∀ w, Calls Try.prog 17 #[.agg #[.int .i64 an, .int .i64 ad]] w fun e w' => e = .returned (.bool true) ∧ Below w.heap.size w w')) (VB : Hid (∀ w, Calls Try.prog 17 #[.agg #[.int .i64 bn, .int .i64 bd]] w fun e w' => e = .returned (.bool true) ∧ Below w.heap.size w w')) :
    Calls Try.prog 12 #[.agg #[.int .i64 an, .int .i64 ad], .agg #[.int .i64 bn, .int .i64 bd], .agg #[.int .i64 cn, .int .i64 cd]] w fun e w' => e = .returned (.bool true) ∧ Below w.heap.size w w' := by
  have bb := Below.refl w.heap.size w
  have ka := Blk.new w (w.heap.size) (by simp) 23 #[.int .i64 an, .int .i64 ad]
  have bb := bb.alloc bb.size (.cells #[.int .i64 an, .int .i64 ad] 23)
  have ka := ka.alloc (.cells #[.int .i64 bn, .int .i64 bd] 23)
  have kb := Blk.new (w.alloc (.cells #[.int .i64 an, .int .i64 ad] 23)) (w.heap.size + 1) (by simp) 23 #[.int .i64 bn, .int .i64 bd]
  have bb := bb.alloc bb.size (.cells #[.int .i64 bn, .int .i64 bd] 23)
  have ka := ka.alloc (.cells #[.int .i64 cn, .int .i64 cd] 23)
  have kb := kb.alloc (.cells #[.int .i64 cn, .int .i64 cd] 23)
  have kc := Blk.new ((w.alloc (.cells #[.int .i64 an, .int .i64 ad] 23)).alloc (.cells #[.int .i64 bn, .int .i64 bd] 23)) (w.heap.size + 1 + 1) (by simp) 23 #[.int .i64 cn, .int .i64 cd]
  have bb := bb.alloc bb.size (.cells #[.int .i64 cn, .int .i64 cd] 23)
  have ca0 := ka.cell 0
  have ca1 := ka.cell 1
  have cb0 := kb.cell 0
  have cb1 := kb.cell 1
  have cc0 := kc.cell 0
  have cc1 := kc.cell 1
  simp only [List.getElem?_toArray, List.getElem?_cons_zero, List.getElem?_cons_succ] at ca0 ca1 cb0 cb1 cc0 cc1
  go_enter Try.func12, Try.ntmps12
  go_wp2_with fail
  refine (C1.out _).mono ?_
  rintro e w1 ⟨rfl, hb1⟩
  clear ca0 ca1 cb0 cb1 cc0 cc1
  have ka := ka.low hb1 ka.lt
  have kb := kb.low hb1 kb.lt
  have kc := kc.low hb1 kc.lt
  have bb := bb.trans (hb1.mono bb.size)
  clear hb1
  have ca0 := ka.cell 0
  have ca1 := ka.cell 1
  have cb0 := kb.cell 0
  have cb1 := kb.cell 1
  have cc0 := kc.cell 0
  have cc1 := kc.cell 1
  simp only [List.getElem?_toArray, List.getElem?_cons_zero, List.getElem?_cons_succ] at ca0 ca1 cb0 cb1 cc0 cc1
  go_wp2_with fail
  refine (C2.out _).mono ?_
  rintro e w2 ⟨rfl, hb2⟩
  clear ca0 ca1 cb0 cb1 cc0 cc1
  have ka := ka.low hb2 ka.lt
  have kb := kb.low hb2 kb.lt
  have kc := kc.low hb2 kc.lt
  have bb := bb.trans (hb2.mono bb.size)
  clear hb2
  have ca0 := ka.cell 0
  have ca1 := ka.cell 1
  have cb0 := kb.cell 0
  have cb1 := kb.cell 1
  have cc0 := kc.cell 0
  have cc1 := kc.cell 1
  simp only [List.getElem?_toArray, List.getElem?_cons_zero, List.getElem?_cons_succ] at ca0 ca1 cb0 cb1 cc0 cc1
  go_wp2_with fail
  refine (C3.out _).mono ?_
  rintro e w3 ⟨rfl, hb3⟩
  clear ca0 ca1 cb0 cb1 cc0 cc1
  have ka := ka.low hb3 ka.lt
  have kb := kb.low hb3 kb.lt
  have kc := kc.low hb3 kc.lt
  have bb := bb.trans (hb3.mono bb.size)
  clear hb3
  have ca0 := ka.cell 0
  have ca1 := ka.cell 1
  have cb0 := kb.cell 0
  have cb1 := kb.cell 1
  have cc0 := kc.cell 0
  have cc1 := kc.cell 1
  simp only [List.getElem?_toArray, List.getElem?_cons_zero, List.getElem?_cons_succ] at ca0 ca1 cb0 cb1 cc0 cc1
  go_wp2_with fail
  refine (C4.out _).mono ?_
  rintro e w4 ⟨rfl, hb4⟩
  clear ca0 ca1 cb0 cb1 cc0 cc1
  have ka := ka.low hb4 ka.lt
  have kb := kb.low hb4 kb.lt
  have kc := kc.low hb4 kc.lt
  have bb := bb.trans (hb4.mono bb.size)
  clear hb4
  have ca0 := ka.cell 0
  have ca1 := ka.cell 1
  have cb0 := kb.cell 0
  have cb1 := kb.cell 1
  have cc0 := kc.cell 0
  have cc1 := kc.cell 1
  simp only [List.getElem?_toArray, List.getElem?_cons_zero, List.getElem?_cons_succ] at ca0 ca1 cb0 cb1 cc0 cc1
  go_wp2_with fail
  refine (awake_any _).mono ?_
  rintro e w5 ⟨rfl, hb5⟩
  clear ca0 ca1 cb0 cb1 cc0 cc1
  have ka := ka.low hb5 ka.lt
  have kb := kb.low hb5 kb.lt
  have kc := kc.low hb5 kc.lt
  have bb := bb.trans (hb5.mono bb.size)
  clear hb5
  have ca0 := ka.cell 0
  have ca1 := ka.cell 1
  have cb0 := kb.cell 0
  have cb1 := kb.cell 1
  have cc0 := kc.cell 0
  have cc1 := kc.cell 1
  simp only [List.getElem?_toArray, List.getElem?_cons_zero, List.getElem?_cons_succ] at ca0 ca1 cb0 cb1 cc0 cc1
  go_wp2_with fail
  refine (VA.out _).mono ?_
  rintro e w6 ⟨rfl, hb6⟩
  clear ca0 ca1 cb0 cb1 cc0 cc1
  have ka := ka.low hb6 ka.lt
  have kb := kb.low hb6 kb.lt
  have kc := kc.low hb6 kc.lt
  have bb := bb.trans (hb6.mono bb.size)
  clear hb6
  have ca0 := ka.cell 0
  have ca1 := ka.cell 1
  have cb0 := kb.cell 0
  have cb1 := kb.cell 1
  have cc0 := kc.cell 0
  have cc1 := kc.cell 1
  simp only [List.getElem?_toArray, List.getElem?_cons_zero, List.getElem?_cons_succ] at ca0 ca1 cb0 cb1 cc0 cc1
  go_wp2_with fail
  refine (VB.out _).mono ?_
  rintro e w7 ⟨rfl, hb7⟩
  clear ca0 ca1 cb0 cb1 cc0 cc1
  have ka := ka.low hb7 ka.lt
  have kb := kb.low hb7 kb.lt
  have kc := kc.low hb7 kc.lt
  have bb := bb.trans (hb7.mono bb.size)
  clear hb7
  go_wp2_with fail
  go_ret
  exact ⟨by simp, bb⟩

set_option maxRecDepth 100000 in
set_option maxHeartbeats 2000000 in
theorem ord_pd_bad (an ad bn bd cn cd : Int) (w : World) (hn : (an == bn) = true) (hd : (ad == bd) = false) (C1 : Hid (∀ w, Calls Try.prog 26 #[.agg #[.int .i64 an, .int .i64 ad], .agg #[.int .i64 bn, .int .i64 bd]] w fun e w' => e = .returned (.tuple #[.int .i64 1, .int .i64 0]) ∧ Below w.heap.size w w')) (C2 : Hid (∀ w, Calls Try.prog 26 #[.agg #[.int .i64 bn, .int .i64 bd], .agg #[.int .i64 an, .int .i64 ad]] w fun e w' => e = .returned (.tuple #[.int .i64 (-1), .int .i64 0]) ∧ Below w.heap.size w w')) (C3 : Hid (∀ w, Calls Try.prog 26 #[.agg #[.int .i64 bn, .int .i64 bd], .agg #[.int .i64 cn, .int .i64 cd]] w fun e w' => e = .returned (.tuple #[.int .i64 0, .int .i64 1]) ∧ Below w.heap.size w w')) (C4 : Hid (∀ w, Calls Try.prog 26 #[.agg #[.int .i64 an, .int .i64 ad], .agg #[.int .i64 cn, .int .i64 cd]] w fun e w' => e = .returned (.tuple #[.int .i64 0, .int .i64 1]) ∧ Below w.heap.size w w')) (VA : Hid (∀ w, Calls Try.prog 17 #[.agg #[.int .i64 an, .int .i64 ad]] w fun e w' => e = .returned (.bool true) ∧ Below w.heap.size w w')) (VB : Hid (∀ w, Calls Try.prog 17 #[.agg #[.int .i64 bn, .int .i64 bd]] w fun e w' => e = .returned (.bool true) ∧ Below w.heap.size w w')) :
    Calls Try.prog 12 #[.agg #[.int .i64 an, .int .i64 ad], .agg #[.int .i64 bn, .int .i64 bd], .agg #[.int .i64 cn, .int .i64 cd]] w fun e w' => e = .returned (.bool true) ∧ Below w.heap.size w w' := by
  have bb := Below.refl w.heap.size w
  have ka := Blk.new w (w.heap.size) (by simp) 23 #[.int .i64 an, .int .i64 ad]
  have bb := bb.alloc bb.size (.cells #[.int .i64 an, .int .i64 ad] 23)
  have ka := ka.alloc (.cells #[.int .i64 bn, .int .i64 bd] 23)
  have kb := Blk.new (w.alloc (.cells #[.int .i64 an, .int .i64 ad] 23)) (w.heap.size + 1) (by simp) 23 #[.int .i64 bn, .int .i64 bd]
  have bb := bb.alloc bb.size (.cells #[.int .i64 bn, .int .i64 bd] 23)
  have ka := ka.alloc (.cells #[.int .i64 cn, .int .i64 cd] 23)
  have kb := kb.alloc (.cells #[.int .i64 cn, .int .i64 cd] 23)
  have kc := Blk.new ((w.alloc (.cells #[.int .i64 an, .int .i64 ad] 23)).alloc (.cells #[.int .i64 bn, .int .i64 bd] 23)) (w.heap.size + 1 + 1) (by simp) 23 #[.int .i64 cn, .int .i64 cd]
  have bb := bb.alloc bb.size (.cells #[.int .i64 cn, .int .i64 cd] 23)
  have ca0 := ka.cell 0
  have ca1 := ka.cell 1
  have cb0 := kb.cell 0
  have cb1 := kb.cell 1
  have cc0 := kc.cell 0
  have cc1 := kc.cell 1
  simp only [List.getElem?_toArray, List.getElem?_cons_zero, List.getElem?_cons_succ] at ca0 ca1 cb0 cb1 cc0 cc1
  go_enter Try.func12, Try.ntmps12
  go_wp2_with fail
  refine (C1.out _).mono ?_
  rintro e w1 ⟨rfl, hb1⟩
  clear ca0 ca1 cb0 cb1 cc0 cc1
  have ka := ka.low hb1 ka.lt
  have kb := kb.low hb1 kb.lt
  have kc := kc.low hb1 kc.lt
  have bb := bb.trans (hb1.mono bb.size)
  clear hb1
  have ca0 := ka.cell 0
  have ca1 := ka.cell 1
  have cb0 := kb.cell 0
  have cb1 := kb.cell 1
  have cc0 := kc.cell 0
  have cc1 := kc.cell 1
  simp only [List.getElem?_toArray, List.getElem?_cons_zero, List.getElem?_cons_succ] at ca0 ca1 cb0 cb1 cc0 cc1
  go_wp2_with fail
  refine (C2.out _).mono ?_
  rintro e w2 ⟨rfl, hb2⟩
  clear ca0 ca1 cb0 cb1 cc0 cc1
  have ka := ka.low hb2 ka.lt
  have kb := kb.low hb2 kb.lt
  have kc := kc.low hb2 kc.lt
  have bb := bb.trans (hb2.mono bb.size)
  clear hb2
  have ca0 := ka.cell 0
  have ca1 := ka.cell 1
  have cb0 := kb.cell 0
  have cb1 := kb.cell 1
  have cc0 := kc.cell 0
  have cc1 := kc.cell 1
  simp only [List.getElem?_toArray, List.getElem?_cons_zero, List.getElem?_cons_succ] at ca0 ca1 cb0 cb1 cc0 cc1
  go_wp2_with fail
  refine (C3.out _).mono ?_
  rintro e w3 ⟨rfl, hb3⟩
  clear ca0 ca1 cb0 cb1 cc0 cc1
  have ka := ka.low hb3 ka.lt
  have kb := kb.low hb3 kb.lt
  have kc := kc.low hb3 kc.lt
  have bb := bb.trans (hb3.mono bb.size)
  clear hb3
  have ca0 := ka.cell 0
  have ca1 := ka.cell 1
  have cb0 := kb.cell 0
  have cb1 := kb.cell 1
  have cc0 := kc.cell 0
  have cc1 := kc.cell 1
  simp only [List.getElem?_toArray, List.getElem?_cons_zero, List.getElem?_cons_succ] at ca0 ca1 cb0 cb1 cc0 cc1
  go_wp2_with fail
  refine (C4.out _).mono ?_
  rintro e w4 ⟨rfl, hb4⟩
  clear ca0 ca1 cb0 cb1 cc0 cc1
  have ka := ka.low hb4 ka.lt
  have kb := kb.low hb4 kb.lt
  have kc := kc.low hb4 kc.lt
  have bb := bb.trans (hb4.mono bb.size)
  clear hb4
  have ca0 := ka.cell 0
  have ca1 := ka.cell 1
  have cb0 := kb.cell 0
  have cb1 := kb.cell 1
  have cc0 := kc.cell 0
  have cc1 := kc.cell 1
  simp only [List.getElem?_toArray, List.getElem?_cons_zero, List.getElem?_cons_succ] at ca0 ca1 cb0 cb1 cc0 cc1
  go_wp2_with fail
  refine (awake_any _).mono ?_
  rintro e w5 ⟨rfl, hb5⟩
  clear ca0 ca1 cb0 cb1 cc0 cc1
  have ka := ka.low hb5 ka.lt
  have kb := kb.low hb5 kb.lt
  have kc := kc.low hb5 kc.lt
  have bb := bb.trans (hb5.mono bb.size)
  clear hb5
  have ca0 := ka.cell 0
  have ca1 := ka.cell 1
  have cb0 := kb.cell 0
  have cb1 := kb.cell 1
  have cc0 := kc.cell 0
  have cc1 := kc.cell 1
  simp only [List.getElem?_toArray, List.getElem?_cons_zero, List.getElem?_cons_succ] at ca0 ca1 cb0 cb1 cc0 cc1
  go_wp2_with fail
  refine (VA.out _).mono ?_
  rintro e w6 ⟨rfl, hb6⟩
  clear ca0 ca1 cb0 cb1 cc0 cc1
  have ka := ka.low hb6 ka.lt
  have kb := kb.low hb6 kb.lt
  have kc := kc.low hb6 kc.lt
  have bb := bb.trans (hb6.mono bb.size)
  clear hb6
  have ca0 := ka.cell 0
  have ca1 := ka.cell 1
  have cb0 := kb.cell 0
  have cb1 := kb.cell 1
  have cc0 := kc.cell 0
  have cc1 := kc.cell 1
  simp only [List.getElem?_toArray, List.getElem?_cons_zero, List.getElem?_cons_succ] at ca0 ca1 cb0 cb1 cc0 cc1
  go_wp2_with fail
  refine (VB.out _).mono ?_
  rintro e w7 ⟨rfl, hb7⟩
  clear ca0 ca1 cb0 cb1 cc0 cc1
  have ka := ka.low hb7 ka.lt
  have kb := kb.low hb7 kb.lt
  have kc := kc.low hb7 kc.lt
  have bb := bb.trans (hb7.mono bb.size)
  clear hb7
  go_wp2_with fail
  go_ret
  exact ⟨by simp, bb⟩

set_option maxRecDepth 100000 in
set_option maxHeartbeats 2000000 in
theorem ord_mn_mm (an ad bn bd cn cd : Int) (w : World) (hn : (an == bn) = false) (C1 : Hid (∀ w, Calls Try.prog 26 #[.agg #[.int .i64 an, .int .i64 ad], .agg #[.int .i64 bn, .int .i64 bd]] w fun e w' => e = .returned (.tuple #[.int .i64 (-1), .int .i64 0]) ∧ Below w.heap.size w w')) (C2 : Hid (∀ w, Calls Try.prog 26 #[.agg #[.int .i64 bn, .int .i64 bd], .agg #[.int .i64 an, .int .i64 ad]] w fun e w' => e = .returned (.tuple #[.int .i64 1, .int .i64 0]) ∧ Below w.heap.size w w')) (C3 : Hid (∀ w, Calls Try.prog 26 #[.agg #[.int .i64 bn, .int .i64 bd], .agg #[.int .i64 cn, .int .i64 cd]] w fun e w' => e = .returned (.tuple #[.int .i64 (-1), .int .i64 0]) ∧ Below w.heap.size w w')) (C4 : Hid (∀ w, Calls Try.prog 26 #[.agg #[.int .i64 an, .int .i64 ad], .agg #[.int .i64 cn, .int .i64 cd]] w fun e w' => e = .returned (.tuple #[.int .i64 (-1), .int .i64 0]) ∧ Below w.heap.size w w')) (VA : Hid (∀ w, Calls Try.prog 17 #[.agg #[.int .i64 an, .int .i64 ad]] w fun e w' => e = .returned (.bool true) ∧ Below w.heap.size w w')) (VB : Hid (∀ w, Calls Try.prog 17 #[.agg #[.int .i64 bn, .int .i64 bd]] w fun e w' => e = .returned (.bool true) ∧ Below w.heap.size w w')) :
    Calls Try.prog 12 #[.agg #[.int .i64 an, .int .i64 ad], .agg #[.int .i64 bn, .int .i64 bd], .agg #[.int .i64 cn, .int .i64 cd]] w fun e w' => e = .returned (.bool true) ∧ Below w.heap.size w w' := by
  have bb := Below.refl w.heap.size w
  have ka := Blk.new w (w.heap.size) (by simp) 23 #[.int .i64 an, .int .i64 ad]
  have bb := bb.alloc bb.size (.cells #[.int .i64 an, .int .i64 ad] 23)
  have ka := ka.alloc (.cells #[.int .i64 bn, .int .i64 bd] 23)
  have kb := Blk.new (w.alloc (.cells #[.int .i64 an, .int .i64 ad] 23)) (w.heap.size + 1) (by simp) 23 #[.int .i64 bn, .int .i64 bd]
  have bb := bb.alloc bb.size (.cells #[.int .i64 bn, .int .i64 bd] 23)
  have ka := ka.alloc (.cells #[.int .i64 cn, .int .i64 cd] 23)
  have kb := kb.alloc (.cells #[.int .i64 cn, .int .i64 cd] 23)
  have kc := Blk.new ((w.alloc (.cells #[.int .i64 an, .int .i64 ad] 23)).alloc (.cells #[.int .i64 bn, .int .i64 bd] 23)) (w.heap.size + 1 + 1) (by simp) 23 #[.int .i64 cn, .int .i64 cd]
  have bb := bb.alloc bb.size (.cells #[.int .i64 cn, .int .i64 cd] 23)
  have ca0 := ka.cell 0
  have ca1 := ka.cell 1
  have cb0 := kb.cell 0
  have cb1 := kb.cell 1
  have cc0 := kc.cell 0
  have cc1 := kc.cell 1
  simp only [List.getElem?_toArray, List.getElem?_cons_zero, List.getElem?_cons_succ] at ca0 ca1 cb0 cb1 cc0 cc1
  go_enter Try.func12, Try.ntmps12
  go_wp2_with fail
  refine (C1.out _).mono ?_
  rintro e w1 ⟨rfl, hb1⟩
  clear ca0 ca1 cb0 cb1 cc0 cc1
  have ka := ka.low hb1 ka.lt
  have kb := kb.low hb1 kb.lt
  have kc := kc.low hb1 kc.lt
  have bb := bb.trans (hb1.mono bb.size)
  clear hb1
  have ca0 := ka.cell 0
  have ca1 := ka.cell 1
  have cb0 := kb.cell 0
  have cb1 := kb.cell 1
  have cc0 := kc.cell 0
  have cc1 := kc.cell 1
  simp only [List.getElem?_toArray, List.getElem?_cons_zero, List.getElem?_cons_succ] at ca0 ca1 cb0 cb1 cc0 cc1
  go_wp2_with fail
  refine (C2.out _).mono ?_
  rintro e w2 ⟨rfl, hb2⟩
  clear ca0 ca1 cb0 cb1 cc0 cc1
  have ka := ka.low hb2 ka.lt
  have kb := kb.low hb2 kb.lt
  have kc := kc.low hb2 kc.lt
  have bb := bb.trans (hb2.mono bb.size)
  clear hb2
  have ca0 := ka.cell 0
  have ca1 := ka.cell 1
  have cb0 := kb.cell 0
  have cb1 := kb.cell 1
  have cc0 := kc.cell 0
  have cc1 := kc.cell 1
  simp only [List.getElem?_toArray, List.getElem?_cons_zero, List.getElem?_cons_succ] at ca0 ca1 cb0 cb1 cc0 cc1
  go_wp2_with fail
  refine (C3.out _).mono ?_
  rintro e w3 ⟨rfl, hb3⟩
  clear ca0 ca1 cb0 cb1 cc0 cc1
  have ka := ka.low hb3 ka.lt
  have kb := kb.low hb3 kb.lt
  have kc := kc.low hb3 kc.lt
  have bb := bb.trans (hb3.mono bb.size)
  clear hb3
  have ca0 := ka.cell 0
  have ca1 := ka.cell 1
  have cb0 := kb.cell 0
  have cb1 := kb.cell 1
  have cc0 := kc.cell 0
  have cc1 := kc.cell 1
  simp only [List.getElem?_toArray, List.getElem?_cons_zero, List.getElem?_cons_succ] at ca0 ca1 cb0 cb1 cc0 cc1
  go_wp2_with fail
  refine (C4.out _).mono ?_
  rintro e w4 ⟨rfl, hb4⟩
  clear ca0 ca1 cb0 cb1 cc0 cc1
  have ka := ka.low hb4 ka.lt
  have kb := kb.low hb4 kb.lt
  have kc := kc.low hb4 kc.lt
  have bb := bb.trans (hb4.mono bb.size)
  clear hb4
  have ca0 := ka.cell 0
  have ca1 := ka.cell 1
  have cb0 := kb.cell 0
  have cb1 := kb.cell 1
  have cc0 := kc.cell 0
  have cc1 := kc.cell 1
  simp only [List.getElem?_toArray, List.getElem?_cons_zero, List.getElem?_cons_succ] at ca0 ca1 cb0 cb1 cc0 cc1
  go_wp2_with fail
  refine (awake_any _).mono ?_
  rintro e w5 ⟨rfl, hb5⟩
  clear ca0 ca1 cb0 cb1 cc0 cc1
  have ka := ka.low hb5 ka.lt
  have kb := kb.low hb5 kb.lt
  have kc := kc.low hb5 kc.lt
  have bb := bb.trans (hb5.mono bb.size)
  clear hb5
  have ca0 := ka.cell 0
  have ca1 := ka.cell 1
  have cb0 := kb.cell 0
  have cb1 := kb.cell 1
  have cc0 := kc.cell 0
  have cc1 := kc.cell 1
  simp only [List.getElem?_toArray, List.getElem?_cons_zero, List.getElem?_cons_succ] at ca0 ca1 cb0 cb1 cc0 cc1
  go_wp2_with fail
  refine (VA.out _).mono ?_
  rintro e w6 ⟨rfl, hb6⟩
  clear ca0 ca1 cb0 cb1 cc0 cc1
  have ka := ka.low hb6 ka.lt
  have kb := kb.low hb6 kb.lt
  have kc := kc.low hb6 kc.lt
  have bb := bb.trans (hb6.mono bb.size)
  clear hb6
  have ca0 := ka.cell 0
  have ca1 := ka.cell 1
  have cb0 := kb.cell 0
  have cb1 := kb.cell 1
  have cc0 := kc.cell 0
  have cc1 := kc.cell 1
  simp only [List.getElem?_toArray, List.getElem?_cons_zero, List.getElem?_cons_succ] at ca0 ca1 cb0 cb1 cc0 cc1
  go_wp2_with fail
  refine (VB.out _).mono ?_
  rintro e w7 ⟨rfl, hb7⟩
  clear ca0 ca1 cb0 cb1 cc0 cc1
  have ka := ka.low hb7 ka.lt
  have kb := kb.low hb7 kb.lt
  have kc := kc.low hb7 kc.lt
  have bb := bb.trans (hb7.mono bb.size)
  clear hb7
  go_wp2_with fail
  go_ret
  exact ⟨by simp, bb⟩

set_option maxRecDepth 100000 in
set_option maxHeartbeats 2000000 in
theorem ord_mn_pz (an ad bn bd cn cd : Int) (w : World) (hn : (an == bn) = false) (C1 : Hid (∀ w, Calls Try.prog 26 #[.agg #[.int .i64 an, .int .i64 ad], .agg #[.int .i64 bn, .int .i64 bd]] w fun e w' => e = .returned (.tuple #[.int .i64 (-1), .int .i64 0]) ∧ Below w.heap.size w w')) (C2 : Hid (∀ w, Calls Try.prog 26 #[.agg #[.int .i64 bn, .int .i64 bd], .agg #[.int .i64 an, .int .i64 ad]] w fun e w' => e = .returned (.tuple #[.int .i64 1, .int .i64 0]) ∧ Below w.heap.size w w')) (C3 : Hid (∀ w, Calls Try.prog 26 #[.agg #[.int .i64 bn, .int .i64 bd], .agg #[.int .i64 cn, .int .i64 cd]] w fun e w' => e = .returned (.tuple #[.int .i64 1, .int .i64 0]) ∧ Below w.heap.size w w')) (C4 : Hid (∀ w, Calls Try.prog 26 #[.agg #[.int .i64 an, .int .i64 ad], .agg #[.int .i64 cn, .int .i64 cd]] w fun e w' => e = .returned (.tuple #[.int .i64 0, .int .i64 0]) ∧ Below w.heap.size w w')) (VA : Hid (∀ w, Calls Try.prog 17 #[.agg #[.int .i64 an, .int .i64 ad]] w fun e w' => e = .returned (.bool true) ∧ Below w.heap.size w w')) (VB : Hid (∀ w, Calls Try.prog 17 #[.agg #[.int .i64 bn, .int .i64 bd]] w fun e w' => e = .returned (.bool true) ∧ Below w.heap.size w w')) :
    Calls Try.prog 12 #[.agg #[.int .i64 an, .int .i64 ad], .agg #[.int .i64 bn, .int .i64 bd], .agg #[.int .i64 cn, .int .i64 cd]] w fun e w' => e = .returned (.bool true) ∧ Below w.heap.size w w' := by
  have bb := Below.refl w.heap.size w
  have ka := Blk.new w (w.heap.size) (by simp) 23 #[.int .i64 an, .int .i64 ad]
  have bb := bb.alloc bb.size (.cells #[.int .i64 an, .int .i64 ad] 23)
  have ka := ka.alloc (.cells #[.int .i64 bn, .int .i64 bd] 23)
  have kb := Blk.new (w.alloc (.cells #[.int .i64 an, .int .i64 ad] 23)) (w.heap.size + 1) (by simp) 23 #[.int .i64 bn, .int .i64 bd]
  have bb := bb.alloc bb.size (.cells #[.int .i64 bn, .int .i64 bd] 23)
  have ka := ka.alloc (.cells #[.int .i64 cn, .int .i64 cd] 23)
  have kb := kb.alloc (.cells #[.int .i64 cn, .int .i64 cd] 23)
  have kc := Blk.new ((w.alloc (.cells #[.int .i64 an, .int .i64 ad] 23)).alloc (.cells #[.int .i64 bn, .int .i64 bd] 23)) (w.heap.size + 1 + 1) (by simp) 23 #[.int .i64 cn, .int .i64 cd]
  have bb := bb.alloc bb.size (.cells #[.int .i64 cn, .int .i64 cd] 23)
  have ca0 := ka.cell 0
  have ca1 := ka.cell 1
  have cb0 := kb.cell 0
  have cb1 := kb.cell 1
  have cc0 := kc.cell 0
  have cc1 := kc.cell 1
  simp only [List.getElem?_toArray, List.getElem?_cons_zero, List.getElem?_cons_succ] at ca0 ca1 cb0 cb1 cc0 cc1
  go_enter Try.func12, Try.ntmps12
  go_wp2_with fail
  refine (C1.out _).mono ?_
  rintro e w1 ⟨rfl, hb1⟩
  clear ca0 ca1 cb0 cb1 cc0 cc1
  have ka := ka.low hb1 ka.lt
  have kb := kb.low hb1 kb.lt
  have kc := kc.low hb1 kc.lt
  have bb := bb.trans (hb1.mono bb.size)
  clear hb1
  have ca0 := ka.cell 0
  have ca1 := ka.cell 1
  have cb0 := kb.cell 0
  have cb1 := kb.cell 1
  have cc0 := kc.cell 0
  have cc1 := kc.cell 1
  simp only [List.getElem?_toArray, List.getElem?_cons_zero, List.getElem?_cons_succ] at ca0 ca1 cb0 cb1 cc0 cc1
  go_wp2_with fail
  refine (C2.out _).mono ?_
  rintro e w2 ⟨rfl, hb2⟩
  clear ca0 ca1 cb0 cb1 cc0 cc1
  have ka := ka.low hb2 ka.lt
  have kb := kb.low hb2 kb.lt
  have kc := kc.low hb2 kc.lt
  have bb := bb.trans (hb2.mono bb.size)
  clear hb2
  have ca0 := ka.cell 0
  have ca1 := ka.cell 1
  have cb0 := kb.cell 0
  have cb1 := kb.cell 1
  have cc0 := kc.cell 0
  have cc1 := kc.cell 1
  simp only [List.getElem?_toArray, List.getElem?_cons_zero, List.getElem?_cons_succ] at ca0 ca1 cb0 cb1 cc0 cc1
  go_wp2_with fail
  refine (C3.out _).mono ?_
  rintro e w3 ⟨rfl, hb3⟩
  clear ca0 ca1 cb0 cb1 cc0 cc1
  have ka := ka.low hb3 ka.lt
  have kb := kb.low hb3 kb.lt
  have kc := kc.low hb3 kc.lt
  have bb := bb.trans (hb3.mono bb.size)
  clear hb3
  have ca0 := ka.cell 0
  have ca1 := ka.cell 1
  have cb0 := kb.cell 0
  have cb1 := kb.cell 1
  have cc0 := kc.cell 0
  have cc1 := kc.cell 1
  simp only [List.getElem?_toArray, List.getElem?_cons_zero, List.getElem?_cons_succ] at ca0 ca1 cb0 cb1 cc0 cc1
  go_wp2_with fail
  refine (C4.out _).mono ?_
  rintro e w4 ⟨rfl, hb4⟩
  clear ca0 ca1 cb0 cb1 cc0 cc1
  have ka := ka.low hb4 ka.lt
  have kb := kb.low hb4 kb.lt
  have kc := kc.low hb4 kc.lt
  have bb := bb.trans (hb4.mono bb.size)
  clear hb4
  have ca0 := ka.cell 0
  have ca1 := ka.cell 1
  have cb0 := kb.cell 0
  have cb1 := kb.cell 1
  have cc0 := kc.cell 0
  have cc1 := kc.cell 1
  simp only [List.getElem?_toArray, List.getElem?_cons_zero, List.getElem?_cons_succ] at ca0 ca1 cb0 cb1 cc0 cc1
  go_wp2_with fail
  refine (awake_any _).mono ?_
  rintro e w5 ⟨rfl, hb5⟩
  clear ca0 ca1 cb0 cb1 cc0 cc1
  have ka := ka.low hb5 ka.lt
  have kb := kb.low hb5 kb.lt
  have kc := kc.low hb5 kc.lt
  have bb := bb.trans (hb5.mono bb.size)
  clear hb5
  have ca0 := ka.cell 0
  have ca1 := ka.cell 1
  have cb0 := kb.cell 0
  have cb1 := kb.cell 1
  have cc0 := kc.cell 0
  have cc1 := kc.cell 1
  simp only [List.getElem?_toArray, List.getElem?_cons_zero, List.getElem?_cons_succ] at ca0 ca1 cb0 cb1 cc0 cc1
  go_wp2_with fail
  refine (VA.out _).mono ?_
  rintro e w6 ⟨rfl, hb6⟩
  clear ca0 ca1 cb0 cb1 cc0 cc1
  have ka := ka.low hb6 ka.lt
  have kb := kb.low hb6 kb.lt
  have kc := kc.low hb6 kc.lt
  have bb := bb.trans (hb6.mono bb.size)
  clear hb6
  have ca0 := ka.cell 0
  have ca1 := ka.cell 1
  have cb0 := kb.cell 0
  have cb1 := kb.cell 1
  have cc0 := kc.cell 0
  have cc1 := kc.cell 1
  simp only [List.getElem?_toArray, List.getElem?_cons_zero, List.getElem?_cons_succ] at ca0 ca1 cb0 cb1 cc0 cc1
  go_wp2_with fail
  refine (VB.out _).mono ?_
  rintro e w7 ⟨rfl, hb7⟩
  clear ca0 ca1 cb0 cb1 cc0 cc1
  have ka := ka.low hb7 ka.lt
  have kb := kb.low hb7 kb.lt
  have kc := kc.low hb7 kc.lt
  have bb := bb.trans (hb7.mono bb.size)
  clear hb7
  go_wp2_with fail
  go_ret
  exact ⟨by simp, bb⟩

set_option maxRecDepth 100000 in
set_option maxHeartbeats 2000000 in
theorem ord_md_zm (an ad bn bd cn cd : Int) (w : World) (hn : (an == bn) = true) (hd : (ad == bd) = false) (C1 : Hid (∀ w, Calls Try.prog 26 #[.agg #[.int .i64 an, .int .i64 ad], .agg #[.int .i64 bn, .int .i64 bd]] w fun e w' => e = .returned (.tuple #[.int .i64 (-1), .int .i64 0]) ∧ Below w.heap.size w w')) (C2 : Hid (∀ w, Calls Try.prog 26 #[.agg #[.int .i64 bn, .int .i64 bd], .agg #[.int .i64 an, .int .i64 ad]] w fun e w' => e = .returned (.tuple #[.int .i64 1, .int .i64 0]) ∧ Below w.heap.size w w')) (C3 : Hid (∀ w, Calls Try.prog 26 #[.agg #[.int .i64 bn, .int .i64 bd], .agg #[.int .i64 cn, .int .i64 cd]] w fun e w' => e = .returned (.tuple #[.int .i64 0, .int .i64 0]) ∧ Below w.heap.size w w')) (C4 : Hid (∀ w, Calls Try.prog 26 #[.agg #[.int .i64 an, .int .i64 ad], .agg #[.int .i64 cn, .int .i64 cd]] w fun e w' => e = .returned (.tuple #[.int .i64 (-1), .int .i64 0]) ∧ Below w.heap.size w w')) (VA : Hid (∀ w, Calls Try.prog 17 #[.agg #[.int .i64 an, .int .i64 ad]] w fun e w' => e = .returned (.bool true) ∧ Below w.heap.size w w')) (VB : Hid (∀ w, Calls Try.prog 17 #[.agg #[.int .i64 bn, .int .i64 bd]] w fun e w' => e = .returned (.bool true) ∧ Below w.heap.size w w')) :
    Calls Try.prog 12 #[.agg #[.int .i64 an, .int .i64 ad], .agg #[.int .i64 bn, .int .i64 bd], .agg #[.int .i64 cn, .int .i64 cd]] w fun e w' => e = .returned (.bool true) ∧ Below w.heap.size w w' := by
  have bb := Below.refl w.heap.size w
  have ka := Blk.new w (w.heap.size) (by simp) 23 #[.int .i64 an, .int .i64 ad]
  have bb := bb.alloc bb.size (.cells #[.int .i64 an, .int .i64 ad] 23)
  have ka := ka.alloc (.cells #[.int .i64 bn, .int .i64 bd] 23)
  have kb := Blk.new (w.alloc (.cells #[.int .i64 an, .int .i64 ad] 23)) (w.heap.size + 1) (by simp) 23 #[.int .i64 bn, .int .i64 bd]
  have bb := bb.alloc bb.size (.cells #[.int .i64 bn, .int .i64 bd] 23)
  have ka := ka.alloc (.cells #[.int .i64 cn, .int .i64 cd] 23)
  have kb := kb.alloc (.cells #[.int .i64 cn, .int .i64 cd] 23)
  have kc := Blk.new ((w.alloc (.cells #[.int .i64 an, .int .i64 ad] 23)).alloc (.cells #[.int .i64 bn, .int .i64 bd] 23)) (w.heap.size + 1 + 1) (by simp) 23 #[.int .i64 cn, .int .i64 cd]
  have bb := bb.alloc bb.size (.cells #[.int .i64 cn, .int .i64 cd] 23)
  have ca0 := ka.cell 0
  have ca1 := ka.cell 1
  have cb0 := kb.cell 0
  have cb1 := kb.cell 1
  have cc0 := kc.cell 0
  have cc1 := kc.cell 1
  simp only [List.getElem?_toArray, List.getElem?_cons_zero, List.getElem?_cons_succ] at ca0 ca1 cb0 cb1 cc0 cc1
  go_enter Try.func12, Try.ntmps12
  go_wp2_with fail
  refine (C1.out _).mono ?_
  rintro e w1 ⟨rfl, hb1⟩
  clear ca0 ca1 cb0 cb1 cc0 cc1
  have ka := ka.low hb1 ka.lt
  have kb := kb.low hb1 kb.lt
  have kc := kc.low hb1 kc.lt
  have bb := bb.trans (hb1.mono bb.size)
  clear hb1
  have ca0 := ka.cell 0
  have ca1 := ka.cell 1
  have cb0 := kb.cell 0
  have cb1 := kb.cell 1
  have cc0 := kc.cell 0
  have cc1 := kc.cell 1
  simp only [List.getElem?_toArray, List.getElem?_cons_zero, List.getElem?_cons_succ] at ca0 ca1 cb0 cb1 cc0 cc1
  go_wp2_with fail
  refine (C2.out _).mono ?_
  rintro e w2 ⟨rfl, hb2⟩
  clear ca0 ca1 cb0 cb1 cc0 cc1
  have ka := ka.low hb2 ka.lt
  have kb := kb.low hb2 kb.lt
  have kc := kc.low hb2 kc.lt
  have bb := bb.trans (hb2.mono bb.size)
  clear hb2
  have ca0 := ka.cell 0
  have ca1 := ka.cell 1
  have cb0 := kb.cell 0
  have cb1 := kb.cell 1
  have cc0 := kc.cell 0
  have cc1 := kc.cell 1
  simp only [List.getElem?_toArray, List.getElem?_cons_zero, List.getElem?_cons_succ] at ca0 ca1 cb0 cb1 cc0 cc1
  go_wp2_with fail
  refine (C3.out _).mono ?_
  rintro e w3 ⟨rfl, hb3⟩
  clear ca0 ca1 cb0 cb1 cc0 cc1
  have ka := ka.low hb3 ka.lt
  have kb := kb.low hb3 kb.lt
  have kc := kc.low hb3 kc.lt
  have bb := bb.trans (hb3.mono bb.size)
  clear hb3
  have ca0 := ka.cell 0
  have ca1 := ka.cell 1
  have cb0 := kb.cell 0
  have cb1 := kb.cell 1
  have cc0 := kc.cell 0
  have cc1 := kc.cell 1
  simp only [List.getElem?_toArray, List.getElem?_cons_zero, List.getElem?_cons_succ] at ca0 ca1 cb0 cb1 cc0 cc1
  go_wp2_with fail
  refine (C4.out _).mono ?_
  rintro e w4 ⟨rfl, hb4⟩
  clear ca0 ca1 cb0 cb1 cc0 cc1
  have ka := ka.low hb4 ka.lt
  have kb := kb.low hb4 kb.lt
  have kc := kc.low hb4 kc.lt
  have bb := bb.trans (hb4.mono bb.size)
  clear hb4
  have ca0 := ka.cell 0
  have ca1 := ka.cell 1
  have cb0 := kb.cell 0
  have cb1 := kb.cell 1
  have cc0 := kc.cell 0
  have cc1 := kc.cell 1
  simp only [List.getElem?_toArray, List.getElem?_cons_zero, List.getElem?_cons_succ] at ca0 ca1 cb0 cb1 cc0 cc1
  go_wp2_with fail
  refine (awake_any _).mono ?_
  rintro e w5 ⟨rfl, hb5⟩
  clear ca0 ca1 cb0 cb1 cc0 cc1
  have ka := ka.low hb5 ka.lt
  have kb := kb.low hb5 kb.lt
  have kc := kc.low hb5 kc.lt
  have bb := bb.trans (hb5.mono bb.size)
  clear hb5
  have ca0 := ka.cell 0
  have ca1 := ka.cell 1
  have cb0 := kb.cell 0
  have cb1 := kb.cell 1
  have cc0 := kc.cell 0
  have cc1 := kc.cell 1
  simp only [List.getElem?_toArray, List.getElem?_cons_zero, List.getElem?_cons_succ] at ca0 ca1 cb0 cb1 cc0 cc1
  go_wp2_with fail
  refine (VA.out _).mono ?_
  rintro e w6 ⟨rfl, hb6⟩
  clear ca0 ca1 cb0 cb1 cc0 cc1
  have ka := ka.low hb6 ka.lt
  have kb := kb.low hb6 kb.lt
  have kc := kc.low hb6 kc.lt
  have bb := bb.trans (hb6.mono bb.size)
  clear hb6
  have ca0 := ka.cell 0
  have ca1 := ka.cell 1
  have cb0 := kb.cell 0
  have cb1 := kb.cell 1
  have cc0 := kc.cell 0
  have cc1 := kc.cell 1
  simp only [List.getElem?_toArray, List.getElem?_cons_zero, List.getElem?_cons_succ] at ca0 ca1 cb0 cb1 cc0 cc1
  go_wp2_with fail
  refine (VB.out _).mono ?_
  rintro e w7 ⟨rfl, hb7⟩
  clear ca0 ca1 cb0 cb1 cc0 cc1
  have ka := ka.low hb7 ka.lt
  have kb := kb.low hb7 kb.lt
  have kc := kc.low hb7 kc.lt
  have bb := bb.trans (hb7.mono bb.size)
  clear hb7
  go_wp2_with fail
  go_ret
  exact ⟨by simp, bb⟩

set_option maxRecDepth 100000 in
set_option maxHeartbeats 2000000 in
theorem ord_md_pp (an ad bn bd cn cd : Int) (w : World) (hn : (an == bn) = true) (hd : (ad == bd) = false) (C1 : Hid (∀ w, Calls Try.prog 26 #[.agg #[.int .i64 an, .int .i64 ad], .agg #[.int .i64 bn, .int .i64 bd]] w fun e w' => e = .returned (.tuple #[.int .i64 (-1), .int .i64 0]) ∧ Below w.heap.size w w')) (C2 : Hid (∀ w, Calls Try.prog 26 #[.agg #[.int .i64 bn, .int .i64 bd], .agg #[.int .i64 an, .int .i64 ad]] w fun e w' => e = .returned (.tuple #[.int .i64 1, .int .i64 0]) ∧ Below w.heap.size w w')) (C3 : Hid (∀ w, Calls Try.prog 26 #[.agg #[.int .i64 bn, .int .i64 bd], .agg #[.int .i64 cn, .int .i64 cd]] w fun e w' => e = .returned (.tuple #[.int .i64 1, .int .i64 0]) ∧ Below w.heap.size w w')) (C4 : Hid (∀ w, Calls Try.prog 26 #[.agg #[.int .i64 an, .int .i64 ad], .agg #[.int .i64 cn, .int .i64 cd]] w fun e w' => e = .returned (.tuple #[.int .i64 1, .int .i64 0]) ∧ Below w.heap.size w w')) (VA : Hid (∀ w, Calls Try.prog 17 #[.agg #[.int .i64 an, .int .i64 ad]] w fun e w' => e = .returned (.bool true) ∧ Below w.heap.size w w')) (VB : Hid (∀ w, Calls Try.prog 17 #[.agg #[.int .i64 bn, .int .i64 bd]] w fun e w' => e = .returned (.bool true) ∧ Below w.heap.size w w')) :
    Calls Try.prog 12 #[.agg #[.int .i64 an, .int .i64 ad], .agg #[.int .i64 bn, .int .i64 bd], .agg #[.int .i64 cn, .int .i64 cd]] w fun e w' => e = .returned (.bool true) ∧ Below w.heap.size w w' := by
  have bb := Below.refl w.heap.size w
  have ka := Blk.new w (w.heap.size) (by simp) 23 #[.int .i64 an, .int .i64 ad]
  have bb := bb.alloc bb.size (.cells #[.int .i64 an, .int .i64 ad] 23)
  have ka := ka.alloc (.cells #[.int .i64 bn, .int .i64 bd] 23)
  have kb := Blk.new (w.alloc (.cells #[.int .i64 an, .int .i64 ad] 23)) (w.heap.size + 1) (by simp) 23 #[.int .i64 bn, .int .i64 bd]
  have bb := bb.alloc bb.size (.cells #[.int .i64 bn, .int .i64 bd] 23)
  have ka := ka.alloc (.cells #[.int .i64 cn, .int .i64 cd] 23)
  have kb := kb.alloc (.cells #[.int .i64 cn, .int .i64 cd] 23)
  have kc := Blk.new ((w.alloc (.cells #[.int .i64 an, .int .i64 ad] 23)).alloc (.cells #[.int .i64 bn, .int .i64 bd] 23)) (w.heap.size + 1 + 1) (by simp) 23 #[.int .i64 cn, .int .i64 cd]
  have bb := bb.alloc bb.size (.cells #[.int .i64 cn, .int .i64 cd] 23)
  have ca0 := ka.cell 0
  have ca1 := ka.cell 1
  have cb0 := kb.cell 0
  have cb1 := kb.cell 1
  have cc0 := kc.cell 0
  have cc1 := kc.cell 1
  simp only [List.getElem?_toArray, List.getElem?_cons_zero, List.getElem?_cons_succ] at ca0 ca1 cb0 cb1 cc0 cc1
  go_enter Try.func12, Try.ntmps12
  go_wp2_with fail
  refine (C1.out _).mono ?_
  rintro e w1 ⟨rfl, hb1⟩
  clear ca0 ca1 cb0 cb1 cc0 cc1
  have ka := ka.low hb1 ka.lt
  have kb := kb.low hb1 kb.lt
  have kc := kc.low hb1 kc.lt
  have bb := bb.trans (hb1.mono bb.size)
  clear hb1
  have ca0 := ka.cell 0
  have ca1 := ka.cell 1
  have cb0 := kb.cell 0
  have cb1 := kb.cell 1
  have cc0 := kc.cell 0
  have cc1 := kc.cell 1
  simp only [List.getElem?_toArray, List.getElem?_cons_zero, List.getElem?_cons_succ] at ca0 ca1 cb0 cb1 cc0 cc1
  go_wp2_with fail
  refine (C2.out _).mono ?_
  rintro e w2 ⟨rfl, hb2⟩
  clear ca0 ca1 cb0 cb1 cc0 cc1
  have ka := ka.low hb2 ka.lt
  have kb := kb.low hb2 kb.lt
  have kc := kc.low hb2 kc.lt
  have bb := bb.trans (hb2.mono bb.size)
  clear hb2
  have ca0 := ka.cell 0
  have ca1 := ka.cell 1
  have cb0 := kb.cell 0
  have cb1 := kb.cell 1
  have cc0 := kc.cell 0
  have cc1 := kc.cell 1
  simp only [List.getElem?_toArray, List.getElem?_cons_zero, List.getElem?_cons_succ] at ca0 ca1 cb0 cb1 cc0 cc1
  go_wp2_with fail
  refine (C3.out _).mono ?_
  rintro e w3 ⟨rfl, hb3⟩
  clear ca0 ca1 cb0 cb1 cc0 cc1
  have ka := ka.low hb3 ka.lt
  have kb := kb.low hb3 kb.lt
  have kc := kc.low hb3 kc.lt
  have bb := bb.trans (hb3.mono bb.size)
  clear hb3
  have ca0 := ka.cell 0
  have ca1 := ka.cell 1
  have cb0 := kb.cell 0
  have cb1 := kb.cell 1
  have cc0 := kc.cell 0
  have cc1 := kc.cell 1
  simp only [List.getElem?_toArray, List.getElem?_cons_zero, List.getElem?_cons_succ] at ca0 ca1 cb0 cb1 cc0 cc1
  go_wp2_with fail
  refine (C4.out _).mono ?_
  rintro e w4 ⟨rfl, hb4⟩
  clear ca0 ca1 cb0 cb1 cc0 cc1
  have ka := ka.low hb4 ka.lt
  have kb := kb.low hb4 kb.lt
  have kc := kc.low hb4 kc.lt
  have bb := bb.trans (hb4.mono bb.size)
  clear hb4
  have ca0 := ka.cell 0
  have ca1 := ka.cell 1
  have cb0 := kb.cell 0
  have cb1 := kb.cell 1
  have cc0 := kc.cell 0
  have cc1 := kc.cell 1
  simp only [List.getElem?_toArray, List.getElem?_cons_zero, List.getElem?_cons_succ] at ca0 ca1 cb0 cb1 cc0 cc1
  go_wp2_with fail
  refine (awake_any _).mono ?_
  rintro e w5 ⟨rfl, hb5⟩
  clear ca0 ca1 cb0 cb1 cc0 cc1
  have ka := ka.low hb5 ka.lt
  have kb := kb.low hb5 kb.lt
  have kc := kc.low hb5 kc.lt
  have bb := bb.trans (hb5.mono bb.size)
  clear hb5
  have ca0 := ka.cell 0
  have ca1 := ka.cell 1
  have cb0 := kb.cell 0
  have cb1 := kb.cell 1
  have cc0 := kc.cell 0
  have cc1 := kc.cell 1
  simp only [List.getElem?_toArray, List.getElem?_cons_zero, List.getElem?_cons_succ] at ca0 ca1 cb0 cb1 cc0 cc1
  go_wp2_with fail
  refine (VA.out _).mono ?_
  rintro e w6 ⟨rfl, hb6⟩
  clear ca0 ca1 cb0 cb1 cc0 cc1
  have ka := ka.low hb6 ka.lt
  have kb := kb.low hb6 kb.lt
  have kc := kc.low hb6 kc.lt
  have bb := bb.trans (hb6.mono bb.size)
  clear hb6
  have ca0 := ka.cell 0
  have ca1 := ka.cell 1
  have cb0 := kb.cell 0
  have cb1 := kb.cell 1
  have cc0 := kc.cell 0
  have cc1 := kc.cell 1
  simp only [List.getElem?_toArray, List.getElem?_cons_zero, List.getElem?_cons_succ] at ca0 ca1 cb0 cb1 cc0 cc1
  go_wp2_with fail
  refine (VB.out _).mono ?_
  rintro e w7 ⟨rfl, hb7⟩
  clear ca0 ca1 cb0 cb1 cc0 cc1
  have ka := ka.low hb7 ka.lt
  have kb := kb.low hb7 kb.lt
  have kc := kc.low hb7 kc.lt
  have bb := bb.trans (hb7.mono bb.size)
  clear hb7
  go_wp2_with fail
  go_ret
  exact ⟨by simp, bb⟩

set_option maxRecDepth 100000 in
set_option maxHeartbeats 2000000 in
theorem ord_z_pp (an ad cn cd : Int) (w : World) (C1 : Hid (∀ w, Calls Try.prog 26 #[.agg #[.int .i64 an, .int .i64 ad], .agg #[.int .i64 an, .int .i64 ad]] w fun e w' => e = .returned (.tuple #[.int .i64 0, .int .i64 0]) ∧ Below w.heap.size w w')) (C2 : Hid (∀ w, Calls Try.prog 26 #[.agg #[.int .i64 an, .int .i64 ad], .agg #[.int .i64 an, .int .i64 ad]] w fun e w' => e = .returned (.tuple #[.int .i64 0, .int .i64 0]) ∧ Below w.heap.size w w')) (C3 : Hid (∀ w, Calls Try.prog 26 #[.agg #[.int .i64 an, .int .i64 ad], .agg #[.int .i64 cn, .int .i64 cd]] w fun e w' => e = .returned (.tuple #[.int .i64 1, .int .i64 0]) ∧ Below w.heap.size w w')) (C4 : Hid (∀ w, Calls Try.prog 26 #[.agg #[.int .i64 an, .int .i64 ad], .agg #[.int .i64 cn, .int .i64 cd]] w fun e w' => e = .returned (.tuple #[.int .i64 1, .int .i64 0]) ∧ Below w.heap.size w w')) (VA : Hid (∀ w, Calls Try.prog 17 #[.agg #[.int .i64 an, .int .i64 ad]] w fun e w' => e = .returned (.bool true) ∧ Below w.heap.size w w'))  :
    Calls Try.prog 12 #[.agg #[.int .i64 an, .int .i64 ad], .agg #[.int .i64 an, .int .i64 ad], .agg #[.int .i64 cn, .int .i64 cd]] w fun e w' => e = .returned (.bool true) ∧ Below w.heap.size w w' := by
  have bb := Below.refl w.heap.size w
  have ka := Blk.new w (w.heap.size) (by simp) 23 #[.int .i64 an, .int .i64 ad]
  have bb := bb.alloc bb.size (.cells #[.int .i64 an, .int .i64 ad] 23)
  have ka := ka.alloc (.cells #[.int .i64 an, .int .i64 ad] 23)
  have kb := Blk.new (w.alloc (.cells #[.int .i64 an, .int .i64 ad] 23)) (w.heap.size + 1) (by simp) 23 #[.int .i64 an, .int .i64 ad]
  have bb := bb.alloc bb.size (.cells #[.int .i64 an, .int .i64 ad] 23)
  have ka := ka.alloc (.cells #[.int .i64 cn, .int .i64 cd] 23)
  have kb := kb.alloc (.cells #[.int .i64 cn, .int .i64 cd] 23)
  have kc := Blk.new ((w.alloc (.cells #[.int .i64 an, .int .i64 ad] 23)).alloc (.cells #[.int .i64 an, .int .i64 ad] 23)) (w.heap.size + 1 + 1) (by simp) 23 #[.int .i64 cn, .int .i64 cd]
  have bb := bb.alloc bb.size (.cells #[.int .i64 cn, .int .i64 cd] 23)
  have ca0 := ka.cell 0
  have ca1 := ka.cell 1
  have cb0 := kb.cell 0
  have cb1 := kb.cell 1
  have cc0 := kc.cell 0
  have cc1 := kc.cell 1
  simp only [List.getElem?_toArray, List.getElem?_cons_zero, List.getElem?_cons_succ] at ca0 ca1 cb0 cb1 cc0 cc1
  go_enter Try.func12, Try.ntmps12
  go_wp2_with fail
  refine (C1.out _).mono ?_
  rintro e w1 ⟨rfl, hb1⟩
  clear ca0 ca1 cb0 cb1 cc0 cc1
  have ka := ka.low hb1 ka.lt
  have kb := kb.low hb1 kb.lt
  have kc := kc.low hb1 kc.lt
  have bb := bb.trans (hb1.mono bb.size)
  clear hb1
  have ca0 := ka.cell 0
  have ca1 := ka.cell 1
  have cb0 := kb.cell 0
  have cb1 := kb.cell 1
  have cc0 := kc.cell 0
  have cc1 := kc.cell 1
  simp only [List.getElem?_toArray, List.getElem?_cons_zero, List.getElem?_cons_succ] at ca0 ca1 cb0 cb1 cc0 cc1
  go_wp2_with fail
  refine (C2.out _).mono ?_
  rintro e w2 ⟨rfl, hb2⟩
  clear ca0 ca1 cb0 cb1 cc0 cc1
  have ka := ka.low hb2 ka.lt
  have kb := kb.low hb2 kb.lt
  have kc := kc.low hb2 kc.lt
  have bb := bb.trans (hb2.mono bb.size)
  clear hb2
  have ca0 := ka.cell 0
  have ca1 := ka.cell 1
  have cb0 := kb.cell 0
  have cb1 := kb.cell 1
  have cc0 := kc.cell 0
  have cc1 := kc.cell 1
  simp only [List.getElem?_toArray, List.getElem?_cons_zero, List.getElem?_cons_succ] at ca0 ca1 cb0 cb1 cc0 cc1
  go_wp2_with fail
  refine (C3.out _).mono ?_
  rintro e w3 ⟨rfl, hb3⟩
  clear ca0 ca1 cb0 cb1 cc0 cc1
  have ka := ka.low hb3 ka.lt
  have kb := kb.low hb3 kb.lt
  have kc := kc.low hb3 kc.lt
  have bb := bb.trans (hb3.mono bb.size)
  clear hb3
  have ca0 := ka.cell 0
  have ca1 := ka.cell 1
  have cb0 := kb.cell 0
  have cb1 := kb.cell 1
  have cc0 := kc.cell 0
  have cc1 := kc.cell 1
  simp only [List.getElem?_toArray, List.getElem?_cons_zero, List.getElem?_cons_succ] at ca0 ca1 cb0 cb1 cc0 cc1
  go_wp2_with fail
  refine (C4.out _).mono ?_
  rintro e w4 ⟨rfl, hb4⟩
  clear ca0 ca1 cb0 cb1 cc0 cc1
  have ka := ka.low hb4 ka.lt
  have kb := kb.low hb4 kb.lt
  have kc := kc.low hb4 kc.lt
  have bb := bb.trans (hb4.mono bb.size)
  clear hb4
  have ca0 := ka.cell 0
  have ca1 := ka.cell 1
  have cb0 := kb.cell 0
  have cb1 := kb.cell 1
  have cc0 := kc.cell 0
  have cc1 := kc.cell 1
  simp only [List.getElem?_toArray, List.getElem?_cons_zero, List.getElem?_cons_succ] at ca0 ca1 cb0 cb1 cc0 cc1
  go_wp2_with fail
  refine (awake_any _).mono ?_
  rintro e w5 ⟨rfl, hb5⟩
  clear ca0 ca1 cb0 cb1 cc0 cc1
  have ka := ka.low hb5 ka.lt
  have kb := kb.low hb5 kb.lt
  have kc := kc.low hb5 kc.lt
  have bb := bb.trans (hb5.mono bb.size)
  clear hb5
  have ca0 := ka.cell 0
  have ca1 := ka.cell 1
  have cb0 := kb.cell 0
  have cb1 := kb.cell 1
  have cc0 := kc.cell 0
  have cc1 := kc.cell 1
  simp only [List.getElem?_toArray, List.getElem?_cons_zero, List.getElem?_cons_succ] at ca0 ca1 cb0 cb1 cc0 cc1
  go_wp2_with fail
  refine (VA.out _).mono ?_
  rintro e w6 ⟨rfl, hb6⟩
  clear ca0 ca1 cb0 cb1 cc0 cc1
  have ka := ka.low hb6 ka.lt
  have kb := kb.low hb6 kb.lt
  have kc := kc.low hb6 kc.lt
  have bb := bb.trans (hb6.mono bb.size)
  clear hb6
  have ca0 := ka.cell 0
  have ca1 := ka.cell 1
  have cb0 := kb.cell 0
  have cb1 := kb.cell 1
  have cc0 := kc.cell 0
  have cc1 := kc.cell 1
  simp only [List.getElem?_toArray, List.getElem?_cons_zero, List.getElem?_cons_succ] at ca0 ca1 cb0 cb1 cc0 cc1
  go_wp2_with fail
  refine (VA.out _).mono ?_
  rintro e w7 ⟨rfl, hb7⟩
  clear ca0 ca1 cb0 cb1 cc0 cc1
  have ka := ka.low hb7 ka.lt
  have kb := kb.low hb7 kb.lt
  have kc := kc.low hb7 kc.lt
  have bb := bb.trans (hb7.mono bb.size)
  clear hb7
  go_wp2_with fail
  go_ret
  exact ⟨by simp, bb⟩

set_option maxRecDepth 100000 in
set_option maxHeartbeats 2000000 in
theorem ord_pn_mp (an ad bn bd cn cd : Int) (w : World) (hn : (an == bn) = false) (C1 : Hid (∀ w, Calls Try.prog 26 #[.agg #[.int .i64 an, .int .i64 ad], .agg #[.int .i64 bn, .int .i64 bd]] w fun e w' => e = .returned (.tuple #[.int .i64 1, .int .i64 0]) ∧ Below w.heap.size w w')) (C2 : Hid (∀ w, Calls Try.prog 26 #[.agg #[.int .i64 bn, .int .i64 bd], .agg #[.int .i64 an, .int .i64 ad]] w fun e w' => e = .returned (.tuple #[.int .i64 (-1), .int .i64 0]) ∧ Below w.heap.size w w')) (C3 : Hid (∀ w, Calls Try.prog 26 #[.agg #[.int .i64 bn, .int .i64 bd], .agg #[.int .i64 cn, .int .i64 cd]] w fun e w' => e = .returned (.tuple #[.int .i64 (-1), .int .i64 0]) ∧ Below w.heap.size w w')) (C4 : Hid (∀ w, Calls Try.prog 26 #[.agg #[.int .i64 an, .int .i64 ad], .agg #[.int .i64 cn, .int .i64 cd]] w fun e w' => e = .returned (.tuple #[.int .i64 1, .int .i64 0]) ∧ Below w.heap.size w w')) (VA : Hid (∀ w, Calls Try.prog 17 #[.agg #[.int .i64 an, .int .i64 ad]] w fun e w' => e = .returned (.bool true) ∧ Below w.heap.size w w')) (VB : Hid (∀ w, Calls Try.prog 17 #[.agg #[.int .i64 bn, .int .i64 bd]] w fun e w' => e = .returned (.bool true) ∧ Below w.heap.size w w')) :
    Calls Try.prog 12 #[.agg #[.int .i64 an, .int .i64 ad], .agg #[.int .i64 bn, .int .i64 bd], .agg #[.int .i64 cn, .int .i64 cd]] w fun e w' => e = .returned (.bool true) ∧ Below w.heap.size w w' := by
  have bb := Below.refl w.heap.size w
  have ka := Blk.new w (w.heap.size) (by simp) 23 #[.int .i64 an, .int .i64 ad]
  have bb := bb.alloc bb.size (.cells #[.int .i64 an, .int .i64 ad] 23)
  have ka := ka.alloc (.cells #[.int .i64 bn, .int .i64 bd] 23)
  have kb := Blk.new (w.alloc (.cells #[.int .i64 an, .int .i64 ad] 23)) (w.heap.size + 1) (by simp) 23 #[.int .i64 bn, .int .i64 bd]
  have bb := bb.alloc bb.size (.cells #[.int .i64 bn, .int .i64 bd] 23)
  have ka := ka.alloc (.cells #[.int .i64 cn, .int .i64 cd] 23)
  have kb := kb.alloc (.cells #[.int .i64 cn, .int .i64 cd] 23)
  have kc := Blk.new ((w.alloc (.cells #[.int .i64 an, .int .i64 ad] 23)).alloc (.cells #[.int .i64 bn, .int .i64 bd] 23)) (w.heap.size + 1 + 1) (by simp) 23 #[.int .i64 cn, .int .i64 cd]
  have bb := bb.alloc bb.size (.cells #[.int .i64 cn, .int .i64 cd] 23)
  have ca0 := ka.cell 0
  have ca1 := ka.cell 1
  have cb0 := kb.cell 0
  have cb1 := kb.cell 1
  have cc0 := kc.cell 0
  have cc1 := kc.cell 1
  simp only [List.getElem?_toArray, List.getElem?_cons_zero, List.getElem?_cons_succ] at ca0 ca1 cb0 cb1 cc0 cc1
  go_enter Try.func12, Try.ntmps12
  go_wp2_with fail
  refine (C1.out _).mono ?_
  rintro e w1 ⟨rfl, hb1⟩
  clear ca0 ca1 cb0 cb1 cc0 cc1
  have ka := ka.low hb1 ka.lt
  have kb := kb.low hb1 kb.lt
  have kc := kc.low hb1 kc.lt
  have bb := bb.trans (hb1.mono bb.size)
  clear hb1
  have ca0 := ka.cell 0
  have ca1 := ka.cell 1
  have cb0 := kb.cell 0
  have cb1 := kb.cell 1
  have cc0 := kc.cell 0
  have cc1 := kc.cell 1
  simp only [List.getElem?_toArray, List.getElem?_cons_zero, List.getElem?_cons_succ] at ca0 ca1 cb0 cb1 cc0 cc1
  go_wp2_with fail
  refine (C2.out _).mono ?_
  rintro e w2 ⟨rfl, hb2⟩
  clear ca0 ca1 cb0 cb1 cc0 cc1
  have ka := ka.low hb2 ka.lt
  have kb := kb.low hb2 kb.lt
  have kc := kc.low hb2 kc.lt
  have bb := bb.trans (hb2.mono bb.size)
  clear hb2
  have ca0 := ka.cell 0
  have ca1 := ka.cell 1
  have cb0 := kb.cell 0
  have cb1 := kb.cell 1
  have cc0 := kc.cell 0
  have cc1 := kc.cell 1
  simp only [List.getElem?_toArray, List.getElem?_cons_zero, List.getElem?_cons_succ] at ca0 ca1 cb0 cb1 cc0 cc1
  go_wp2_with fail
  refine (C3.out _).mono ?_
  rintro e w3 ⟨rfl, hb3⟩
  clear ca0 ca1 cb0 cb1 cc0 cc1
  have ka := ka.low hb3 ka.lt
  have kb := kb.low hb3 kb.lt
  have kc := kc.low hb3 kc.lt
  have bb := bb.trans (hb3.mono bb.size)
  clear hb3
  have ca0 := ka.cell 0
  have ca1 := ka.cell 1
  have cb0 := kb.cell 0
  have cb1 := kb.cell 1
  have cc0 := kc.cell 0
  have cc1 := kc.cell 1
  simp only [List.getElem?_toArray, List.getElem?_cons_zero, List.getElem?_cons_succ] at ca0 ca1 cb0 cb1 cc0 cc1
  go_wp2_with fail
  refine (C4.out _).mono ?_
  rintro e w4 ⟨rfl, hb4⟩
  clear ca0 ca1 cb0 cb1 cc0 cc1
  have ka := ka.low hb4 ka.lt
  have kb := kb.low hb4 kb.lt
  have kc := kc.low hb4 kc.lt
  have bb := bb.trans (hb4.mono bb.size)
  clear hb4
  have ca0 := ka.cell 0
  have ca1 := ka.cell 1
  have cb0 := kb.cell 0
  have cb1 := kb.cell 1
  have cc0 := kc.cell 0
  have cc1 := kc.cell 1
  simp only [List.getElem?_toArray, List.getElem?_cons_zero, List.getElem?_cons_succ] at ca0 ca1 cb0 cb1 cc0 cc1
  go_wp2_with fail
  refine (awake_any _).mono ?_
  rintro e w5 ⟨rfl, hb5⟩
  clear ca0 ca1 cb0 cb1 cc0 cc1
  have ka := ka.low hb5 ka.lt
  have kb := kb.low hb5 kb.lt
  have kc := kc.low hb5 kc.lt
  have bb := bb.trans (hb5.mono bb.size)
  clear hb5
  have ca0 := ka.cell 0
  have ca1 := ka.cell 1
  have cb0 := kb.cell 0
  have cb1 := kb.cell 1
  have cc0 := kc.cell 0
  have cc1 := kc.cell 1
  simp only [List.getElem?_toArray, List.getElem?_cons_zero, List.getElem?_cons_succ] at ca0 ca1 cb0 cb1 cc0 cc1
  go_wp2_with fail
  refine (VA.out _).mono ?_
  rintro e w6 ⟨rfl, hb6⟩
  clear ca0 ca1 cb0 cb1 cc0 cc1
  have ka := ka.low hb6 ka.lt
  have kb := kb.low hb6 kb.lt
  have kc := kc.low hb6 kc.lt
  have bb := bb.trans (hb6.mono bb.size)
  clear hb6
  have ca0 := ka.cell 0
  have ca1 := ka.cell 1
  have cb0 := kb.cell 0
  have cb1 := kb.cell 1
  have cc0 := kc.cell 0
  have cc1 := kc.cell 1
  simp only [List.getElem?_toArray, List.getElem?_cons_zero, List.getElem?_cons_succ] at ca0 ca1 cb0 cb1 cc0 cc1
  go_wp2_with fail
  refine (VB.out _).mono ?_
  rintro e w7 ⟨rfl, hb7⟩
  clear ca0 ca1 cb0 cb1 cc0 cc1
  have ka := ka.low hb7 ka.lt
  have kb := kb.low hb7 kb.lt
  have kc := kc.low hb7 kc.lt
  have bb := bb.trans (hb7.mono bb.size)
  clear hb7
  go_wp2_with fail
  go_ret
  exact ⟨by simp, bb⟩

set_option maxRecDepth 100000 in
set_option maxHeartbeats 2000000 in
theorem ord_pd_mm (an ad bn bd cn cd : Int) (w : World) (hn : (an == bn) = true) (hd : (ad == bd) = false) (C1 : Hid (∀ w, Calls Try.prog 26 #[.agg #[.int .i64 an, .int .i64 ad], .agg #[.int .i64 bn, .int .i64 bd]] w fun e w' => e = .returned (.tuple #[.int .i64 1, .int .i64 0]) ∧ Below w.heap.size w w')) (C2 : Hid (∀ w, Calls Try.prog 26 #[.agg #[.int .i64 bn, .int .i64 bd], .agg #[.int .i64 an, .int .i64 ad]] w fun e w' => e = .returned (.tuple #[.int .i64 (-1), .int .i64 0]) ∧ Below w.heap.size w w')) (C3 : Hid (∀ w, Calls Try.prog 26 #[.agg #[.int .i64 bn, .int .i64 bd], .agg #[.int .i64 cn, .int .i64 cd]] w fun e w' => e = .returned (.tuple #[.int .i64 (-1), .int .i64 0]) ∧ Below w.heap.size w w')) (C4 : Hid (∀ w, Calls Try.prog 26 #[.agg #[.int .i64 an, .int .i64 ad], .agg #[.int .i64 cn, .int .i64 cd]] w fun e w' => e = .returned (.tuple #[.int .i64 (-1), .int .i64 0]) ∧ Below w.heap.size w w')) (VA : Hid (∀ w, Calls Try.prog 17 #[.agg #[.int .i64 an, .int .i64 ad]] w fun e w' => e = .returned (.bool true) ∧ Below w.heap.size w w')) (VB : Hid (∀ w, Calls Try.prog 17 #[.agg #[.int .i64 bn, .int .i64 bd]] w fun e w' => e = .returned (.bool true) ∧ Below w.heap.size w w')) :
    Calls Try.prog 12 #[.agg #[.int .i64 an, .int .i64 ad], .agg #[.int .i64 bn, .int .i64 bd], .agg #[.int .i64 cn, .int .i64 cd]] w fun e w' => e = .returned (.bool true) ∧ Below w.heap.size w w' := by
  have bb := Below.refl w.heap.size w
  have ka := Blk.new w (w.heap.size) (by simp) 23 #[.int .i64 an, .int .i64 ad]
  have bb := bb.alloc bb.size (.cells #[.int .i64 an, .int .i64 ad] 23)
  have ka := ka.alloc (.cells #[.int .i64 bn, .int .i64 bd] 23)
  have kb := Blk.new (w.alloc (.cells #[.int .i64 an, .int .i64 ad] 23)) (w.heap.size + 1) (by simp) 23 #[.int .i64 bn, .int .i64 bd]
  have bb := bb.alloc bb.size (.cells #[.int .i64 bn, .int .i64 bd] 23)
  have ka := ka.alloc (.cells #[.int .i64 cn, .int .i64 cd] 23)
  have kb := kb.alloc (.cells #[.int .i64 cn, .int .i64 cd] 23)
  have kc := Blk.new ((w.alloc (.cells #[.int .i64 an, .int .i64 ad] 23)).alloc (.cells #[.int .i64 bn, .int .i64 bd] 23)) (w.heap.size + 1 + 1) (by simp) 23 #[.int .i64 cn, .int .i64 cd]
  have bb := bb.alloc bb.size (.cells #[.int .i64 cn, .int .i64 cd] 23)
  have ca0 := ka.cell 0
  have ca1 := ka.cell 1
  have cb0 := kb.cell 0
  have cb1 := kb.cell 1
  have cc0 := kc.cell 0
  have cc1 := kc.cell 1
  simp only [List.getElem?_toArray, List.getElem?_cons_zero, List.getElem?_cons_succ] at ca0 ca1 cb0 cb1 cc0 cc1
  go_enter Try.func12, Try.ntmps12
  go_wp2_with fail
  refine (C1.out _).mono ?_
  rintro e w1 ⟨rfl, hb1⟩
  clear ca0 ca1 cb0 cb1 cc0 cc1
  have ka := ka.low hb1 ka.lt
  have kb := kb.low hb1 kb.lt
  have kc := kc.low hb1 kc.lt
  have bb := bb.trans (hb1.mono bb.size)
  clear hb1
  have ca0 := ka.cell 0
  have ca1 := ka.cell 1
  have cb0 := kb.cell 0
  have cb1 := kb.cell 1
  have cc0 := kc.cell 0
  have cc1 := kc.cell 1
  simp only [List.getElem?_toArray, List.getElem?_cons_zero, List.getElem?_cons_succ] at ca0 ca1 cb0 cb1 cc0 cc1
  go_wp2_with fail
  refine (C2.out _).mono ?_
  rintro e w2 ⟨rfl, hb2⟩
  clear ca0 ca1 cb0 cb1 cc0 cc1
  have ka := ka.low hb2 ka.lt
  have kb := kb.low hb2 kb.lt
  have kc := kc.low hb2 kc.lt
  have bb := bb.trans (hb2.mono bb.size)
  clear hb2
  have ca0 := ka.cell 0
  have ca1 := ka.cell 1
  have cb0 := kb.cell 0
  have cb1 := kb.cell 1
  have cc0 := kc.cell 0
  have cc1 := kc.cell 1
  simp only [List.getElem?_toArray, List.getElem?_cons_zero, List.getElem?_cons_succ] at ca0 ca1 cb0 cb1 cc0 cc1
  go_wp2_with fail
  refine (C3.out _).mono ?_
  rintro e w3 ⟨rfl, hb3⟩
  clear ca0 ca1 cb0 cb1 cc0 cc1
  have ka := ka.low hb3 ka.lt
  have kb := kb.low hb3 kb.lt
  have kc := kc.low hb3 kc.lt
  have bb := bb.trans (hb3.mono bb.size)
  clear hb3
  have ca0 := ka.cell 0
  have ca1 := ka.cell 1
  have cb0 := kb.cell 0
  have cb1 := kb.cell 1
  have cc0 := kc.cell 0
  have cc1 := kc.cell 1
  simp only [List.getElem?_toArray, List.getElem?_cons_zero, List.getElem?_cons_succ] at ca0 ca1 cb0 cb1 cc0 cc1
  go_wp2_with fail
  refine (C4.out _).mono ?_
  rintro e w4 ⟨rfl, hb4⟩
  clear ca0 ca1 cb0 cb1 cc0 cc1
  have ka := ka.low hb4 ka.lt
  have kb := kb.low hb4 kb.lt
  have kc := kc.low hb4 kc.lt
  have bb := bb.trans (hb4.mono bb.size)
  clear hb4
  have ca0 := ka.cell 0
  have ca1 := ka.cell 1
  have cb0 := kb.cell 0
  have cb1 := kb.cell 1
  have cc0 := kc.cell 0
  have cc1 := kc.cell 1
  simp only [List.getElem?_toArray, List.getElem?_cons_zero, List.getElem?_cons_succ] at ca0 ca1 cb0 cb1 cc0 cc1
  go_wp2_with fail
  refine (awake_any _).mono ?_
  rintro e w5 ⟨rfl, hb5⟩
  clear ca0 ca1 cb0 cb1 cc0 cc1
  have ka := ka.low hb5 ka.lt
  have kb := kb.low hb5 kb.lt
  have kc := kc.low hb5 kc.lt
  have bb := bb.trans (hb5.mono bb.size)
  clear hb5
  have ca0 := ka.cell 0
  have ca1 := ka.cell 1
  have cb0 := kb.cell 0
  have cb1 := kb.cell 1
  have cc0 := kc.cell 0
  have cc1 := kc.cell 1
  simp only [List.getElem?_toArray, List.getElem?_cons_zero, List.getElem?_cons_succ] at ca0 ca1 cb0 cb1 cc0 cc1
  go_wp2_with fail
  refine (VA.out _).mono ?_
  rintro e w6 ⟨rfl, hb6⟩
  clear ca0 ca1 cb0 cb1 cc0 cc1
  have ka := ka.low hb6 ka.lt
  have kb := kb.low hb6 kb.lt
  have kc := kc.low hb6 kc.lt
  have bb := bb.trans (hb6.mono bb.size)
  clear hb6
  have ca0 := ka.cell 0
  have ca1 := ka.cell 1
  have cb0 := kb.cell 0
  have cb1 := kb.cell 1
  have cc0 := kc.cell 0
  have cc1 := kc.cell 1
  simp only [List.getElem?_toArray, List.getElem?_cons_zero, List.getElem?_cons_succ] at ca0 ca1 cb0 cb1 cc0 cc1
  go_wp2_with fail
  refine (VB.out _).mono ?_
  rintro e w7 ⟨rfl, hb7⟩
  clear ca0 ca1 cb0 cb1 cc0 cc1
  have ka := ka.low hb7 ka.lt
  have kb := kb.low hb7 kb.lt
  have kc := kc.low hb7 kc.lt
  have bb := bb.trans (hb7.mono bb.size)
  clear hb7
  go_wp2_with fail
  go_ret
  exact ⟨by simp, bb⟩

set_option maxRecDepth 100000 in
set_option maxHeartbeats 2000000 in
theorem ord_pd_zp (an ad bn bd cn cd : Int) (w : World) (hn : (an == bn) = true) (hd : (ad == bd) = false) (C1 : Hid (∀ w, Calls Try.prog 26 #[.agg #[.int .i64 an, .int .i64 ad], .agg #[.int .i64 bn, .int .i64 bd]] w fun e w' => e = .returned (.tuple #[.int .i64 1, .int .i64 0]) ∧ Below w.heap.size w w')) (C2 : Hid (∀ w, Calls Try.prog 26 #[.agg #[.int .i64 bn, .int .i64 bd], .agg #[.int .i64 an, .int .i64 ad]] w fun e w' => e = .returned (.tuple #[.int .i64 (-1), .int .i64 0]) ∧ Below w.heap.size w w')) (C3 : Hid (∀ w, Calls Try.prog 26 #[.agg #[.int .i64 bn, .int .i64 bd], .agg #[.int .i64 cn, .int .i64 cd]] w fun e w' => e = .returned (.tuple #[.int .i64 0, .int .i64 0]) ∧ Below w.heap.size w w')) (C4 : Hid (∀ w, Calls Try.prog 26 #[.agg #[.int .i64 an, .int .i64 ad], .agg #[.int .i64 cn, .int .i64 cd]] w fun e w' => e = .returned (.tuple #[.int .i64 1, .int .i64 0]) ∧ Below w.heap.size w w')) (VA : Hid (∀ w, Calls Try.prog 17 #[.agg #[.int .i64 an, .int .i64 ad]] w fun e w' => e = .returned (.bool true) ∧ Below w.heap.size w w')) (VB : Hid (∀ w, Calls Try.prog 17 #[.agg #[.int .i64 bn, .int .i64 bd]] w fun e w' => e = .returned (.bool true) ∧ Below w.heap.size w w')) :
    Calls Try.prog 12 #[.agg #[.int .i64 an, .int .i64 ad], .agg #[.int .i64 bn, .int .i64 bd], .agg #[.int .i64 cn, .int .i64 cd]] w fun e w' => e = .returned (.bool true) ∧ Below w.heap.size w w' := by
  have bb := Below.refl w.heap.size w
  have ka := Blk.new w (w.heap.size) (by simp) 23 #[.int .i64 an, .int .i64 ad]
  have bb := bb.alloc bb.size (.cells #[.int .i64 an, .int .i64 ad] 23)
  have ka := ka.alloc (.cells #[.int .i64 bn, .int .i64 bd] 23)
  have kb := Blk.new (w.alloc (.cells #[.int .i64 an, .int .i64 ad] 23)) (w.heap.size + 1) (by simp) 23 #[.int .i64 bn, .int .i64 bd]
  have bb := bb.alloc bb.size (.cells #[.int .i64 bn, .int .i64 bd] 23)
  have ka := ka.alloc (.cells #[.int .i64 cn, .int .i64 cd] 23)
  have kb := kb.alloc (.cells #[.int .i64 cn, .int .i64 cd] 23)
  have kc := Blk.new ((w.alloc (.cells #[.int .i64 an, .int .i64 ad] 23)).alloc (.cells #[.int .i64 bn, .int .i64 bd] 23)) (w.heap.size + 1 + 1) (by simp) 23 #[.int .i64 cn, .int .i64 cd]
  have bb := bb.alloc bb.size (.cells #[.int .i64 cn, .int .i64 cd] 23)
  have ca0 := ka.cell 0
  have ca1 := ka.cell 1
  have cb0 := kb.cell 0
  have cb1 := kb.cell 1
  have cc0 := kc.cell 0
  have cc1 := kc.cell 1
  simp only [List.getElem?_toArray, List.getElem?_cons_zero, List.getElem?_cons_succ] at ca0 ca1 cb0 cb1 cc0 cc1
  go_enter Try.func12, Try.ntmps12
  go_wp2_with fail
  refine (C1.out _).mono ?_
  rintro e w1 ⟨rfl, hb1⟩
  clear ca0 ca1 cb0 cb1 cc0 cc1
  have ka := ka.low hb1 ka.lt
  have kb := kb.low hb1 kb.lt
  have kc := kc.low hb1 kc.lt
  have bb := bb.trans (hb1.mono bb.size)
  clear hb1
  have ca0 := ka.cell 0
  have ca1 := ka.cell 1
  have cb0 := kb.cell 0
  have cb1 := kb.cell 1
  have cc0 := kc.cell 0
  have cc1 := kc.cell 1
  simp only [List.getElem?_toArray, List.getElem?_cons_zero, List.getElem?_cons_succ] at ca0 ca1 cb0 cb1 cc0 cc1
  go_wp2_with fail
  refine (C2.out _).mono ?_
  rintro e w2 ⟨rfl, hb2⟩
  clear ca0 ca1 cb0 cb1 cc0 cc1
  have ka := ka.low hb2 ka.lt
  have kb := kb.low hb2 kb.lt
  have kc := kc.low hb2 kc.lt
  have bb := bb.trans (hb2.mono bb.size)
  clear hb2
  have ca0 := ka.cell 0
  have ca1 := ka.cell 1
  have cb0 := kb.cell 0
  have cb1 := kb.cell 1
  have cc0 := kc.cell 0
  have cc1 := kc.cell 1
  simp only [List.getElem?_toArray, List.getElem?_cons_zero, List.getElem?_cons_succ] at ca0 ca1 cb0 cb1 cc0 cc1
  go_wp2_with fail
  refine (C3.out _).mono ?_
  rintro e w3 ⟨rfl, hb3⟩
  clear ca0 ca1 cb0 cb1 cc0 cc1
  have ka := ka.low hb3 ka.lt
  have kb := kb.low hb3 kb.lt
  have kc := kc.low hb3 kc.lt
  have bb := bb.trans (hb3.mono bb.size)
  clear hb3
  have ca0 := ka.cell 0
  have ca1 := ka.cell 1
  have cb0 := kb.cell 0
  have cb1 := kb.cell 1
  have cc0 := kc.cell 0
  have cc1 := kc.cell 1
  simp only [List.getElem?_toArray, List.getElem?_cons_zero, List.getElem?_cons_succ] at ca0 ca1 cb0 cb1 cc0 cc1
  go_wp2_with fail
  refine (C4.out _).mono ?_
  rintro e w4 ⟨rfl, hb4⟩
  clear ca0 ca1 cb0 cb1 cc0 cc1
  have ka := ka.low hb4 ka.lt
  have kb := kb.low hb4 kb.lt
  have kc := kc.low hb4 kc.lt
  have bb := bb.trans (hb4.mono bb.size)
  clear hb4
  have ca0 := ka.cell 0
  have ca1 := ka.cell 1
  have cb0 := kb.cell 0
  have cb1 := kb.cell 1
  have cc0 := kc.cell 0
  have cc1 := kc.cell 1
  simp only [List.getElem?_toArray, List.getElem?_cons_zero, List.getElem?_cons_succ] at ca0 ca1 cb0 cb1 cc0 cc1
  go_wp2_with fail
  refine (awake_any _).mono ?_
  rintro e w5 ⟨rfl, hb5⟩
  clear ca0 ca1 cb0 cb1 cc0 cc1
  have ka := ka.low hb5 ka.lt
  have kb := kb.low hb5 kb.lt
  have kc := kc.low hb5 kc.lt
  have bb := bb.trans (hb5.mono bb.size)
  clear hb5
  have ca0 := ka.cell 0
  have ca1 := ka.cell 1
  have cb0 := kb.cell 0
  have cb1 := kb.cell 1
  have cc0 := kc.cell 0
  have cc1 := kc.cell 1
  simp only [List.getElem?_toArray, List.getElem?_cons_zero, List.getElem?_cons_succ] at ca0 ca1 cb0 cb1 cc0 cc1
  go_wp2_with fail
  refine (VA.out _).mono ?_
  rintro e w6 ⟨rfl, hb6⟩
  clear ca0 ca1 cb0 cb1 cc0 cc1
  have ka := ka.low hb6 ka.lt
  have kb := kb.low hb6 kb.lt
  have kc := kc.low hb6 kc.lt
  have bb := bb.trans (hb6.mono bb.size)
  clear hb6
  have ca0 := ka.cell 0
  have ca1 := ka.cell 1
  have cb0 := kb.cell 0
  have cb1 := kb.cell 1
  have cc0 := kc.cell 0
  have cc1 := kc.cell 1
  simp only [List.getElem?_toArray, List.getElem?_cons_zero, List.getElem?_cons_succ] at ca0 ca1 cb0 cb1 cc0 cc1
  go_wp2_with fail
  refine (VB.out _).mono ?_
  rintro e w7 ⟨rfl, hb7⟩
  clear ca0 ca1 cb0 cb1 cc0 cc1
  have ka := ka.low hb7 ka.lt
  have kb := kb.low hb7 kb.lt
  have kc := kc.low hb7 kc.lt
  have bb := bb.trans (hb7.mono bb.size)
  clear hb7
  go_wp2_with fail
  go_ret
  exact ⟨by simp, bb⟩

theorem cmpI_cases (x y : Int) : (x < y ∧ cmpI x y = -1 ∧ cmpI y x = 1) ∨ (x = y ∧ cmpI x y = 0 ∧ cmpI y x = 0) ∨ (y < x ∧ cmpI x y = 1 ∧ cmpI y x = -1) := by
  rcases Int.lt_trichotomy x y with h | h | h
  · exact .inl ⟨h, cmpI_lt h, cmpI_gt h⟩
  · exact .inr (.inl ⟨h, cmpI_eq h, cmpI_eq h.symm⟩)
  · exact .inr (.inr ⟨h, cmpI_gt h, cmpI_lt h⟩)
theorem ordersLaw_any (a b c : Fr) (w : World) (fa : a.fit) (fb : b.fit) (fc : c.fit) : Calls Try.prog 12 #[.agg #[.int .i64 a.n, .int .i64 a.d], .agg #[.int .i64 b.n, .int .i64 b.d], .agg #[.int .i64 c.n, .int .i64 c.d]] w fun e w' => e = .returned (.bool true) ∧ Below w.heap.size w w' := by
  have C1 := Lib.hid fun w => fcmp_any a b w fa fb
  have C2 := Lib.hid fun w => fcmp_any b a w fb fa
  have C3 := Lib.hid fun w => fcmp_any b c w fb fc
  have C4 := Lib.hid fun w => fcmp_any a c w fa fc
  have VA := Lib.hid fun w => valid_of a w fa
  have VB := Lib.hid fun w => valid_of b w fb
  have bad : ∀ x y : Fr, ¬ (x.valid = true ∧ y.valid = true) → cmpR x y = (0, 1) := fun x y h => by unfold cmpR; rw [if_neg h]
  have good : ∀ x y : Fr, x.valid = true → y.valid = true → cmpR x y = (cmpI (x.n * y.d) (y.n * x.d), 0) := fun x y h h2 => by unfold cmpR; rw [if_pos ⟨h, h2⟩]
  cases va : a.valid with
  | false =>
    rw [bad a b (by simp [va])] at C1
    rw [bad b a (by simp [va])] at C2
    rw [va] at VA
    exact ord_ia _ _ _ _ _ _ _ _ _ _ w C1 C2 C3 C4 VA
  | true =>
    rw [va] at VA
    cases vb : b.valid with
    | false =>
      rw [bad a b (by simp [vb])] at C1
      rw [bad b a (by simp [vb])] at C2
      rw [vb] at VB
      exact ord_ib _ _ _ _ _ _ _ _ _ _ w C1 C2 C3 C4 VA VB
    | true =>
      rw [vb] at VB
      have pa := Fr.pos va
      have pb := Fr.pos vb
      have nab : ¬ a.n * b.d = b.n * a.d → ¬ a.n = b.n ∨ (a.n = b.n ∧ ¬ a.d = b.d) := fun h => by
        by_cases h1 : a.n = b.n
        · exact .inr ⟨h1, fun h2 => h (by rw [h1, h2])⟩
        · exact .inl h1
      have bt : ∀ x y : Int, x = y → (x == y) = true := fun x y h => by simpa using h
      have bf : ∀ x y : Int, ¬ x = y → (x == y) = false := fun x y h => by simpa using h
      cases vc : c.valid with
      | false =>
        rw [bad b c (by simp [vc])] at C3
        rw [bad a c (by simp [vc])] at C4
        rw [good a b va vb] at C1
        rw [good b a vb va] at C2
        rcases cmpI_cases (a.n * b.d) (b.n * a.d) with ⟨h, v1, v2⟩ | ⟨h, v1, v2⟩ | ⟨h, v1, v2⟩
        all_goals
          rw [v1] at C1
          rw [v2] at C2
        · rcases nab (by omega) with h1 | ⟨h1, h2⟩
          · exact ord_mn_bad _ _ _ _ _ _ w (bf _ _ h1) C1 C2 C3 C4 VA VB
          · exact ord_md_bad _ _ _ _ _ _ w (bt _ _ h1) (bf _ _ h2) C1 C2 C3 C4 VA VB
        · have hab := Fr.uniq va vb h
          subst hab
          exact ord_z_bad _ _ _ _ w C1 C2 C3 C4 VA
        · rcases nab (by omega) with h1 | ⟨h1, h2⟩
          · exact ord_pn_bad _ _ _ _ _ _ w (bf _ _ h1) C1 C2 C3 C4 VA VB
          · exact ord_pd_bad _ _ _ _ _ _ w (bt _ _ h1) (bf _ _ h2) C1 C2 C3 C4 VA VB
      | true =>
        have pc := Fr.pos vc
        rw [good a b va vb] at C1
        rw [good b a vb va] at C2
        rw [good b c vb vc] at C3
        rw [good a c va vc] at C4
        obtain ⟨X, hX⟩ : ∃ X, a.n * b.d * c.d = X := ⟨_, rfl⟩
        obtain ⟨Y, hY⟩ : ∃ Y, b.n * a.d * c.d = Y := ⟨_, rfl⟩
        obtain ⟨Z, hZ⟩ : ∃ Z, c.n * a.d * b.d = Z := ⟨_, rfl⟩
        have e1 : cmpI (a.n * b.d) (b.n * a.d) = cmpI X Y := by rw [← hX, ← hY, cmpI_scale pc]
        have e2 : cmpI (b.n * a.d) (a.n * b.d) = cmpI Y X := by rw [← hX, ← hY, cmpI_scale pc]
        have e3 : cmpI (b.n * c.d) (c.n * b.d) = cmpI Y Z := by
          rw [← hY, ← hZ, Int.mul_assoc, Int.mul_comm a.d c.d, ← Int.mul_assoc, Int.mul_assoc c.n, Int.mul_comm a.d b.d, ← Int.mul_assoc, cmpI_scale pa]
        have e4 : cmpI (a.n * c.d) (c.n * a.d) = cmpI X Z := by
          rw [← hX, ← hZ, Int.mul_assoc, Int.mul_comm b.d c.d, ← Int.mul_assoc, cmpI_scale pb]
        have hXY : X = Y → a.n * b.d = b.n * a.d := fun h => by
          rw [← hX, ← hY] at h
          exact Int.eq_of_mul_eq_mul_right (by omega) h
        have hYX : ¬ X = Y → ¬ a.n * b.d = b.n * a.d := fun h h2 => h (by rw [← hX, ← hY, h2])
        rw [e1] at C1
        rw [e2] at C2
        rw [e3] at C3
        rw [e4] at C4
        clear e1 e2 e3 e4 hX hY hZ
        rcases cmpI_cases X Y with ⟨h1, v1, v2⟩ | ⟨h1, v1, v2⟩ | ⟨h1, v1, v2⟩
        · rw [v1] at C1
          rw [v2] at C2
          rcases cmpI_cases Y Z with ⟨h2, v3, _⟩ | ⟨h2, v3, _⟩ | ⟨h2, v3, _⟩
          · rw [v3] at C3
            rcases cmpI_cases X Z with ⟨h3, v4, _⟩ | ⟨h3, v4, _⟩ | ⟨h3, v4, _⟩
            · rw [v4] at C4
              rcases nab (hYX (by omega)) with g1 | ⟨g1, g2⟩
              · exact ord_mn_mm _ _ _ _ _ _ w (bf _ _ g1) C1 C2 C3 C4 VA VB
              · exact ord_md_mm _ _ _ _ _ _ w (bt _ _ g1) (bf _ _ g2) C1 C2 C3 C4 VA VB
            · exfalso; omega
            · exfalso; omega
          · rw [v3] at C3
            rcases cmpI_cases X Z with ⟨h3, v4, _⟩ | ⟨h3, v4, _⟩ | ⟨h3, v4, _⟩
            · rw [v4] at C4
              rcases nab (hYX (by omega)) with g1 | ⟨g1, g2⟩
              · exact ord_mn_zm _ _ _ _ _ _ w (bf _ _ g1) C1 C2 C3 C4 VA VB
              · exact ord_md_zm _ _ _ _ _ _ w (bt _ _ g1) (bf _ _ g2) C1 C2 C3 C4 VA VB
            · exfalso; omega
            · exfalso; omega
          · rw [v3] at C3
            rcases cmpI_cases X Z with ⟨h3, v4, _⟩ | ⟨h3, v4, _⟩ | ⟨h3, v4, _⟩
            · rw [v4] at C4
              rcases nab (hYX (by omega)) with g1 | ⟨g1, g2⟩
              · exact ord_mn_pm _ _ _ _ _ _ w (bf _ _ g1) C1 C2 C3 C4 VA VB
              · exact ord_md_pm _ _ _ _ _ _ w (bt _ _ g1) (bf _ _ g2) C1 C2 C3 C4 VA VB
            · rw [v4] at C4
              rcases nab (hYX (by omega)) with g1 | ⟨g1, g2⟩
              · exact ord_mn_pz _ _ _ _ _ _ w (bf _ _ g1) C1 C2 C3 C4 VA VB
              · exact ord_md_pz _ _ _ _ _ _ w (bt _ _ g1) (bf _ _ g2) C1 C2 C3 C4 VA VB
            · rw [v4] at C4
              rcases nab (hYX (by omega)) with g1 | ⟨g1, g2⟩
              · exact ord_mn_pp _ _ _ _ _ _ w (bf _ _ g1) C1 C2 C3 C4 VA VB
              · exact ord_md_pp _ _ _ _ _ _ w (bt _ _ g1) (bf _ _ g2) C1 C2 C3 C4 VA VB
        · rw [v1] at C1
          rw [v2] at C2
          have hab := Fr.uniq va vb (hXY h1)
          rcases cmpI_cases Y Z with ⟨h2, v3, _⟩ | ⟨h2, v3, _⟩ | ⟨h2, v3, _⟩
          · rw [v3] at C3
            rcases cmpI_cases X Z with ⟨h3, v4, _⟩ | ⟨h3, v4, _⟩ | ⟨h3, v4, _⟩
            · rw [v4] at C4
              subst hab
              exact ord_z_mm _ _ _ _ w C1 C2 C3 C4 VA
            · exfalso; omega
            · exfalso; omega
          · rw [v3] at C3
            rcases cmpI_cases X Z with ⟨h3, v4, _⟩ | ⟨h3, v4, _⟩ | ⟨h3, v4, _⟩
            · exfalso; omega
            · rw [v4] at C4
              subst hab
              exact ord_z_zz _ _ _ _ w C1 C2 C3 C4 VA
            · exfalso; omega
          · rw [v3] at C3
            rcases cmpI_cases X Z with ⟨h3, v4, _⟩ | ⟨h3, v4, _⟩ | ⟨h3, v4, _⟩
            · exfalso; omega
            · exfalso; omega
            · rw [v4] at C4
              subst hab
              exact ord_z_pp _ _ _ _ w C1 C2 C3 C4 VA
        · rw [v1] at C1
          rw [v2] at C2
          rcases cmpI_cases Y Z with ⟨h2, v3, _⟩ | ⟨h2, v3, _⟩ | ⟨h2, v3, _⟩
          · rw [v3] at C3
            rcases cmpI_cases X Z with ⟨h3, v4, _⟩ | ⟨h3, v4, _⟩ | ⟨h3, v4, _⟩
            · rw [v4] at C4
              rcases nab (hYX (by omega)) with g1 | ⟨g1, g2⟩
              · exact ord_pn_mm _ _ _ _ _ _ w (bf _ _ g1) C1 C2 C3 C4 VA VB
              · exact ord_pd_mm _ _ _ _ _ _ w (bt _ _ g1) (bf _ _ g2) C1 C2 C3 C4 VA VB
            · rw [v4] at C4
              rcases nab (hYX (by omega)) with g1 | ⟨g1, g2⟩
              · exact ord_pn_mz _ _ _ _ _ _ w (bf _ _ g1) C1 C2 C3 C4 VA VB
              · exact ord_pd_mz _ _ _ _ _ _ w (bt _ _ g1) (bf _ _ g2) C1 C2 C3 C4 VA VB
            · rw [v4] at C4
              rcases nab (hYX (by omega)) with g1 | ⟨g1, g2⟩
              · exact ord_pn_mp _ _ _ _ _ _ w (bf _ _ g1) C1 C2 C3 C4 VA VB
              · exact ord_pd_mp _ _ _ _ _ _ w (bt _ _ g1) (bf _ _ g2) C1 C2 C3 C4 VA VB
          · rw [v3] at C3
            rcases cmpI_cases X Z with ⟨h3, v4, _⟩ | ⟨h3, v4, _⟩ | ⟨h3, v4, _⟩
            · exfalso; omega
            · exfalso; omega
            · rw [v4] at C4
              rcases nab (hYX (by omega)) with g1 | ⟨g1, g2⟩
              · exact ord_pn_zp _ _ _ _ _ _ w (bf _ _ g1) C1 C2 C3 C4 VA VB
              · exact ord_pd_zp _ _ _ _ _ _ w (bt _ _ g1) (bf _ _ g2) C1 C2 C3 C4 VA VB
          · rw [v3] at C3
            rcases cmpI_cases X Z with ⟨h3, v4, _⟩ | ⟨h3, v4, _⟩ | ⟨h3, v4, _⟩
            · exfalso; omega
            · exfalso; omega
            · rw [v4] at C4
              rcases nab (hYX (by omega)) with g1 | ⟨g1, g2⟩
              · exact ord_pn_pp _ _ _ _ _ _ w (bf _ _ g1) C1 C2 C3 C4 VA VB
              · exact ord_pd_pp _ _ _ _ _ _ w (bt _ _ g1) (bf _ _ g2) C1 C2 C3 C4 VA VB
end Go.Proofs.Ytfielhbepnkekaa
