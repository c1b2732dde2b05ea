/-
  The references' whole numbers: Plus where the signs differ; Plus at every two of them; Minus; Cmp.
-/
import Derived.Test.YtlnbmjebkpkclaaDoorWe
namespace Go.Proofs.YtlnbmjebkpkclaaDoor
open Go.RowKit
attribute [local go_sem ↓] Go.wp_at_zero Go.wp_at_succ

theorem below_drewN {B : Nat} {a w : World} (h : Below B a w) (n : Nat) : Below B a (w.drewN n) := ⟨h.os, h.tape, h.output, h.size, h.block⟩
theorem three_blks {w w1 : World} {x0 y0 x1 y1 x2 y2 : Value} {T : TypeId} (hb : Below (((w.alloc (.cells #[x0, y0] T)).alloc (.cells #[x1, y1] T)).alloc (.cells #[x2, y2] T)).drew.heap.size (((w.alloc (.cells #[x0, y0] T)).alloc (.cells #[x1, y1] T)).alloc (.cells #[x2, y2] T)).drew w1) :
    Blk w1 w.heap.size T #[x0, y0] ∧ Blk w1 (w.heap.size + 1) T #[x1, y1] ∧ Blk w1 (w.heap.size + 1 + 1) T #[x2, y2] := by
  have s3 : (((w.alloc (.cells #[x0, y0] T)).alloc (.cells #[x1, y1] T)).alloc (.cells #[x2, y2] T)).drew.heap.size = w.heap.size + 1 + 1 + 1 := by simp [World.drew]
  exact ⟨(hb.block w.heap.size (by rw [s3]; omega)).trans (((Blk.new w _ rfl T #[x0, y0]).alloc _).alloc _), (hb.block (w.heap.size + 1) (by rw [s3]; omega)).trans ((Blk.new (w.alloc (.cells #[x0, y0] T)) (w.heap.size + 1) (by simp) T #[x1, y1]).alloc _),
    (hb.block (w.heap.size + 1 + 1) (by rw [s3]; omega)).trans (Blk.new ((w.alloc (.cells #[x0, y0] T)).alloc (.cells #[x1, y1] T)) (w.heap.size + 1 + 1) (by simp) T #[x2, y2])⟩
theorem Blk.kept {w w' : World} {g : Nat} {t : TypeId} {cs : Array Value} (h : Blk w g t cs) (hb : Below w.heap.size w w') : Blk w' g t cs := (hb.block g h.lt).trans h
theorem boxes_then {w w1 : World} {x0 y0 x1 y1 x2 y2 : Value} {T : TypeId} {k : Nat} (hb : Below ((((w.alloc (.cells #[x0, y0] T)).alloc (.cells #[x1, y1] T)).alloc (.cells #[x2, y2] T)).drewN k).heap.size ((((w.alloc (.cells #[x0, y0] T)).alloc (.cells #[x1, y1] T)).alloc (.cells #[x2, y2] T)).drewN k) w1) :
    w1.cell? ⟨w.heap.size, 0, none⟩ = some x0 ∧ w1.cell? ⟨w.heap.size, 1, none⟩ = some y0 ∧ w1.cell? ⟨w.heap.size + 1, 0, none⟩ = some x1 ∧ w1.cell? ⟨w.heap.size + 1, 1, none⟩ = some y1 ∧
    w1.cell? ⟨w.heap.size + 1 + 1, 0, none⟩ = some x2 ∧ w1.cell? ⟨w.heap.size + 1 + 1, 1, none⟩ = some y2 ∧ w1.frozen? ⟨w.heap.size + 1 + 1, 0, none⟩ = false ∧ w1.frozen? ⟨w.heap.size + 1 + 1, 1, none⟩ = false ∧ w.heap.size + 1 + 1 < w1.heap.size ∧ Blk w1 (w.heap.size + 1 + 1) T #[x2, y2] :=
  three_boxes ⟨hb.os, hb.tape, hb.output, hb.size, hb.block⟩

set_option maxRecDepth 100000 in
set_option maxHeartbeats 2000000 in
theorem plus_false_true_gt (w : World) (A A' : Option Addr) (n n' c c' : Nat) (a b : List Int) (hn : a.length = n) (hn' : b.length = n') (ha : Norm a) (hb : Norm b) (hr : Rd w w.heap.size A (cellsI a)) (hr' : Rd w w.heap.size A' (cellsI b))
    (hl : n ≤ 1099511627776) (hl' : n' ≤ 1099511627776) (hcmp : val b < val a) :
    Calls Tryd.prog 38 #[.agg #[.bool false, .slice A n c], .agg #[.bool true, .slice A' n' c']] w (Makes w (val a - val b)) := by
  have hb3 : ∀ o o' o'', Below w.heap.size w (((w.alloc o).alloc o').alloc o'') := fun o o' o'' => (((Below.refl _ _).alloc (Nat.le_refl _) _).alloc (by simp) _).alloc (by simp; omega) _
  have hx : ∀ o o' o'', Rd (((w.alloc o).alloc o').alloc o'') w.heap.size A (cellsI a) := fun o o' o'' => hr.below (hb3 o o' o'') (Nat.le_refl _)
  have hx' : ∀ o o' o'', Rd (((w.alloc o).alloc o').alloc o'') w.heap.size A' (cellsI b) := fun o o' o'' => hr'.below (hb3 o o' o'') (Nat.le_refl _)
  have hsz3 : ∀ o o' o'', (((w.alloc o).alloc o').alloc o'').heap.size = w.heap.size + 1 + 1 + 1 := fun o o' o'' => by simp
  have hb3d : ∀ o o' o'' d, Below w.heap.size w ((((w.alloc o).alloc o').alloc o'').drewN d) := fun o o' o'' d => below_drewN (hb3 o o' o'') d
  have hsz3d : ∀ o o' o'' d, ((((w.alloc o).alloc o').alloc o'').drewN d).heap.size = w.heap.size + 1 + 1 + 1 := fun o o' o'' _ => hsz3 o o' o''
  have hxd : ∀ o o' o'' d, Rd ((((w.alloc o).alloc o').alloc o'').drewN d) w.heap.size A (cellsI a) := fun o o' o'' _ => hx o o' o''
  have hxd' : ∀ o o' o'' d, Rd ((((w.alloc o).alloc o').alloc o'').drewN d) w.heap.size A' (cellsI b) := fun o o' o'' _ => hx' o o' o''
  have hszd : ∀ o o' o'' d, w.heap.size ≤ ((((w.alloc o).alloc o').alloc o'').drewN d).heap.size := fun o o' o'' _ => (hb3 o o' o'').size
  have Hc := Lib.hid (cmpI_gt hcmp)
  have hlm : n ≤ maxLen ∧ n' ≤ maxLen := by unfold maxLen; omega
  have hlen : b.length ≤ a.length := by
    rcases Nat.lt_or_ge a.length b.length with h | h
    · have := val_shorter ha.1 hb h; omega
    · exact h
  have hle : val b ≤ val a := by omega
  have Hlt := Lib.hid hcmp
  have hmn : n' ≤ n := by omega
  clear hcmp
  go_enter Tryd.func38, Tryd.ntmps38
  go_wp2_with fail
  refine (size_cmp a b A A' n n' c c' w.heap.size w.heap.size _ hn hn' ha hb (hx _ _ _) (hx' _ _ _) hlm.1 hlm.2).mono ?_
  rintro e wd ⟨rfl, d, rfl⟩
  rw [Hc.out]
  go_wp2_with fail
  go_region_held3 (fun w' => w'.cell? ⟨w.heap.size, 0, none⟩ = some (.bool false) ∧ w'.cell? ⟨w.heap.size, 1, none⟩ = some (.slice A n c) ∧ w'.cell? ⟨w.heap.size + 1, 1, none⟩ = some (.slice A' n' c')) (first | exact ⟨by assumption, by assumption, by assumption⟩ | (refine ⟨?_, ?_, ?_⟩ <;> (rw [World.cell?_setCell_other _ _ _ _ (by intro e; injection e with e; omega), World.cell?_setCell_other _ _ _ _ (by intro e; injection e with e; omega)]; assumption)) | go_keep)
    (first | (go_at_call 47; refine (less_digits a b A A' n n' c c' w.heap.size _ hn hn' ha.1 hb.1 (hxd _ _ _ _) (hxd' _ _ _ _) hl (hszd _ _ _ _) hmn hle).mono ?_; rintro e w1 ⟨A₁, k, c₁, ds, rfl, hk, hkc, hcm, hds, hv, hrd, hnew, hbw⟩; obtain ⟨q0, q1, q2, q3, q4, q5, q6, q7, q8, q9⟩ := boxes_then hbw))
  have Hm := makes_of (z := val a - val b) false (hb3d _ _ _ _) (hsz3d _ _ _ _) hk hkc hcm hds hrd hnew hbw (by first | (rw [if_neg (by simp), hv]; done) | (rw [if_neg (by simp), hv]; omega)) (fun h => by cases h) q9
  have hq := box_written q9 (.bool false) (.slice A₁ k c₁)
  have d0 := hq.cell 0
  have d1 := hq.cell 1
  simp at d0 d1
  clear hv q0 q1 q2 q3 q4 q5 q6 q7 q9 hq
  go_wp2
  refine bodyPost_ret (v := .agg #[.bool false, .slice A₁ k c₁]) ?_ rfl Hm
  simp [results, Tryd.results38, go_sem, d0, d1]

set_option maxRecDepth 100000 in
set_option maxHeartbeats 2000000 in
theorem plus_false_true_eq (w : World) (A A' : Option Addr) (n n' c c' : Nat) (a b : List Int) (hn : a.length = n) (hn' : b.length = n') (ha : Norm a) (hb : Norm b) (hr : Rd w w.heap.size A (cellsI a)) (hr' : Rd w w.heap.size A' (cellsI b))
    (hl : n ≤ 1099511627776) (hl' : n' ≤ 1099511627776) (hcmp : val a = val b) :
    Calls Tryd.prog 38 #[.agg #[.bool false, .slice A n c], .agg #[.bool true, .slice A' n' c']] w (Makes w (val a - val b)) := by
  have hb3 : ∀ o o' o'', Below w.heap.size w (((w.alloc o).alloc o').alloc o'') := fun o o' o'' => (((Below.refl _ _).alloc (Nat.le_refl _) _).alloc (by simp) _).alloc (by simp; omega) _
  have hx : ∀ o o' o'', Rd (((w.alloc o).alloc o').alloc o'') w.heap.size A (cellsI a) := fun o o' o'' => hr.below (hb3 o o' o'') (Nat.le_refl _)
  have hx' : ∀ o o' o'', Rd (((w.alloc o).alloc o').alloc o'') w.heap.size A' (cellsI b) := fun o o' o'' => hr'.below (hb3 o o' o'') (Nat.le_refl _)
  have hsz3 : ∀ o o' o'', (((w.alloc o).alloc o').alloc o'').heap.size = w.heap.size + 1 + 1 + 1 := fun o o' o'' => by simp
  have hb3d : ∀ o o' o'' d, Below w.heap.size w ((((w.alloc o).alloc o').alloc o'').drewN d) := fun o o' o'' d => below_drewN (hb3 o o' o'') d
  have hsz3d : ∀ o o' o'' d, ((((w.alloc o).alloc o').alloc o'').drewN d).heap.size = w.heap.size + 1 + 1 + 1 := fun o o' o'' _ => hsz3 o o' o''
  have hxd : ∀ o o' o'' d, Rd ((((w.alloc o).alloc o').alloc o'').drewN d) w.heap.size A (cellsI a) := fun o o' o'' _ => hx o o' o''
  have hxd' : ∀ o o' o'' d, Rd ((((w.alloc o).alloc o').alloc o'').drewN d) w.heap.size A' (cellsI b) := fun o o' o'' _ => hx' o o' o''
  have hszd : ∀ o o' o'' d, w.heap.size ≤ ((((w.alloc o).alloc o').alloc o'').drewN d).heap.size := fun o o' o'' _ => (hb3 o o' o'').size
  have Hc := Lib.hid (cmpI_eq hcmp)
  have hlm : n ≤ maxLen ∧ n' ≤ maxLen := by unfold maxLen; omega
  clear hcmp
  go_enter Tryd.func38, Tryd.ntmps38
  go_wp2_with fail
  refine (size_cmp a b A A' n n' c c' w.heap.size w.heap.size _ hn hn' ha hb (hx _ _ _) (hx' _ _ _) hlm.1 hlm.2).mono ?_
  rintro e wd ⟨rfl, d, rfl⟩
  rw [Hc.out]
  go_wp2
  refine bodyPost_ret (v := .agg #[.bool false, .slice none 0 0]) (by simp [results, Tryd.results38, go_sem]) rfl ?_
  refine ⟨_, 0, rfl, ⟨false, none, 0, [], rfl, rfl, Nat.le_refl _, by unfold maxLen; omega, Norm.nil, .inl rfl, ?_, fun h => by cases h⟩, New.of (fun ad h2 => by cases h2), ?_⟩
  · have := Hc.out
    unfold cmpI at this
    split at this
    · omega
    · split at this
      · omega
      · simp [val]; omega
  · exact ((hb3d _ _ _ _).setCell (by simp; omega) _).setCell (by simp; omega) _

set_option maxRecDepth 100000 in
set_option maxHeartbeats 2000000 in
theorem plus_false_true_lt (w : World) (A A' : Option Addr) (n n' c c' : Nat) (a b : List Int) (hn : a.length = n) (hn' : b.length = n') (ha : Norm a) (hb : Norm b) (hr : Rd w w.heap.size A (cellsI a)) (hr' : Rd w w.heap.size A' (cellsI b))
    (hl : n ≤ 1099511627776) (hl' : n' ≤ 1099511627776) (hcmp : val a < val b) :
    Calls Tryd.prog 38 #[.agg #[.bool false, .slice A n c], .agg #[.bool true, .slice A' n' c']] w (Makes w (val a - val b)) := by
  have hb3 : ∀ o o' o'', Below w.heap.size w (((w.alloc o).alloc o').alloc o'') := fun o o' o'' => (((Below.refl _ _).alloc (Nat.le_refl _) _).alloc (by simp) _).alloc (by simp; omega) _
  have hx : ∀ o o' o'', Rd (((w.alloc o).alloc o').alloc o'') w.heap.size A (cellsI a) := fun o o' o'' => hr.below (hb3 o o' o'') (Nat.le_refl _)
  have hx' : ∀ o o' o'', Rd (((w.alloc o).alloc o').alloc o'') w.heap.size A' (cellsI b) := fun o o' o'' => hr'.below (hb3 o o' o'') (Nat.le_refl _)
  have hsz3 : ∀ o o' o'', (((w.alloc o).alloc o').alloc o'').heap.size = w.heap.size + 1 + 1 + 1 := fun o o' o'' => by simp
  have hb3d : ∀ o o' o'' d, Below w.heap.size w ((((w.alloc o).alloc o').alloc o'').drewN d) := fun o o' o'' d => below_drewN (hb3 o o' o'') d
  have hsz3d : ∀ o o' o'' d, ((((w.alloc o).alloc o').alloc o'').drewN d).heap.size = w.heap.size + 1 + 1 + 1 := fun o o' o'' _ => hsz3 o o' o''
  have hxd : ∀ o o' o'' d, Rd ((((w.alloc o).alloc o').alloc o'').drewN d) w.heap.size A (cellsI a) := fun o o' o'' _ => hx o o' o''
  have hxd' : ∀ o o' o'' d, Rd ((((w.alloc o).alloc o').alloc o'').drewN d) w.heap.size A' (cellsI b) := fun o o' o'' _ => hx' o o' o''
  have hszd : ∀ o o' o'' d, w.heap.size ≤ ((((w.alloc o).alloc o').alloc o'').drewN d).heap.size := fun o o' o'' _ => (hb3 o o' o'').size
  have Hc := Lib.hid (cmpI_lt hcmp)
  have hlm : n ≤ maxLen ∧ n' ≤ maxLen := by unfold maxLen; omega
  have hlen : a.length ≤ b.length := by
    rcases Nat.lt_or_ge b.length a.length with h | h
    · have := val_shorter hb.1 ha h; omega
    · exact h
  have hle : val a ≤ val b := by omega
  have Hlt := Lib.hid hcmp
  have hmn : n ≤ n' := by omega
  clear hcmp
  go_enter Tryd.func38, Tryd.ntmps38
  go_wp2_with fail
  refine (size_cmp a b A A' n n' c c' w.heap.size w.heap.size _ hn hn' ha hb (hx _ _ _) (hx' _ _ _) hlm.1 hlm.2).mono ?_
  rintro e wd ⟨rfl, d, rfl⟩
  rw [Hc.out]
  go_wp2_with fail
  go_region_held3 (fun w' => w'.cell? ⟨w.heap.size + 1, 0, none⟩ = some (.bool true) ∧ w'.cell? ⟨w.heap.size + 1, 1, none⟩ = some (.slice A' n' c') ∧ w'.cell? ⟨w.heap.size, 1, none⟩ = some (.slice A n c)) (first | exact ⟨by assumption, by assumption, by assumption⟩ | (refine ⟨?_, ?_, ?_⟩ <;> (rw [World.cell?_setCell_other _ _ _ _ (by intro e; injection e with e; omega), World.cell?_setCell_other _ _ _ _ (by intro e; injection e with e; omega)]; assumption)) | go_keep)
    (first | (go_at_call 47; refine (less_digits b a A' A n' n c' c w.heap.size _ hn' hn hb.1 ha.1 (hxd' _ _ _ _) (hxd _ _ _ _) hl' (hszd _ _ _ _) hmn hle).mono ?_; rintro e w1 ⟨A₁, k, c₁, ds, rfl, hk, hkc, hcm, hds, hv, hrd, hnew, hbw⟩; obtain ⟨q0, q1, q2, q3, q4, q5, q6, q7, q8, q9⟩ := boxes_then hbw))
  have Hm := makes_of (z := val a - val b) true (hb3d _ _ _ _) (hsz3d _ _ _ _) hk hkc hcm hds hrd hnew hbw (by first | (rw [if_pos rfl, hv]; done) | (rw [if_pos rfl, hv]; omega)) (fun _ h0 => by have h1 := Hlt.out; rw [h0] at hv; simp [val] at hv; omega) q9
  have hq := box_written q9 (.bool true) (.slice A₁ k c₁)
  have d0 := hq.cell 0
  have d1 := hq.cell 1
  simp at d0 d1
  clear hv q0 q1 q2 q3 q4 q5 q6 q7 q9 hq
  go_wp2
  refine bodyPost_ret (v := .agg #[.bool true, .slice A₁ k c₁]) ?_ rfl Hm
  simp [results, Tryd.results38, go_sem, d0, d1]

set_option maxRecDepth 100000 in
set_option maxHeartbeats 2000000 in
theorem plus_true_false_gt (w : World) (A A' : Option Addr) (n n' c c' : Nat) (a b : List Int) (hn : a.length = n) (hn' : b.length = n') (ha : Norm a) (hb : Norm b) (hr : Rd w w.heap.size A (cellsI a)) (hr' : Rd w w.heap.size A' (cellsI b))
    (hl : n ≤ 1099511627776) (hl' : n' ≤ 1099511627776) (hcmp : val b < val a) :
    Calls Tryd.prog 38 #[.agg #[.bool true, .slice A n c], .agg #[.bool false, .slice A' n' c']] w (Makes w (-val a + val b)) := by
  have hb3 : ∀ o o' o'', Below w.heap.size w (((w.alloc o).alloc o').alloc o'') := fun o o' o'' => (((Below.refl _ _).alloc (Nat.le_refl _) _).alloc (by simp) _).alloc (by simp; omega) _
  have hx : ∀ o o' o'', Rd (((w.alloc o).alloc o').alloc o'') w.heap.size A (cellsI a) := fun o o' o'' => hr.below (hb3 o o' o'') (Nat.le_refl _)
  have hx' : ∀ o o' o'', Rd (((w.alloc o).alloc o').alloc o'') w.heap.size A' (cellsI b) := fun o o' o'' => hr'.below (hb3 o o' o'') (Nat.le_refl _)
  have hsz3 : ∀ o o' o'', (((w.alloc o).alloc o').alloc o'').heap.size = w.heap.size + 1 + 1 + 1 := fun o o' o'' => by simp
  have hb3d : ∀ o o' o'' d, Below w.heap.size w ((((w.alloc o).alloc o').alloc o'').drewN d) := fun o o' o'' d => below_drewN (hb3 o o' o'') d
  have hsz3d : ∀ o o' o'' d, ((((w.alloc o).alloc o').alloc o'').drewN d).heap.size = w.heap.size + 1 + 1 + 1 := fun o o' o'' _ => hsz3 o o' o''
  have hxd : ∀ o o' o'' d, Rd ((((w.alloc o).alloc o').alloc o'').drewN d) w.heap.size A (cellsI a) := fun o o' o'' _ => hx o o' o''
  have hxd' : ∀ o o' o'' d, Rd ((((w.alloc o).alloc o').alloc o'').drewN d) w.heap.size A' (cellsI b) := fun o o' o'' _ => hx' o o' o''
  have hszd : ∀ o o' o'' d, w.heap.size ≤ ((((w.alloc o).alloc o').alloc o'').drewN d).heap.size := fun o o' o'' _ => (hb3 o o' o'').size
  have Hc := Lib.hid (cmpI_gt hcmp)
  have hlm : n ≤ maxLen ∧ n' ≤ maxLen := by unfold maxLen; omega
  have hlen : b.length ≤ a.length := by
    rcases Nat.lt_or_ge a.length b.length with h | h
    · have := val_shorter ha.1 hb h; omega
    · exact h
  have hle : val b ≤ val a := by omega
  have Hlt := Lib.hid hcmp
  have hmn : n' ≤ n := by omega
  clear hcmp
  go_enter Tryd.func38, Tryd.ntmps38
  go_wp2_with fail
  refine (size_cmp a b A A' n n' c c' w.heap.size w.heap.size _ hn hn' ha hb (hx _ _ _) (hx' _ _ _) hlm.1 hlm.2).mono ?_
  rintro e wd ⟨rfl, d, rfl⟩
  rw [Hc.out]
  go_wp2_with fail
  go_region_held3 (fun w' => w'.cell? ⟨w.heap.size, 0, none⟩ = some (.bool true) ∧ w'.cell? ⟨w.heap.size, 1, none⟩ = some (.slice A n c) ∧ w'.cell? ⟨w.heap.size + 1, 1, none⟩ = some (.slice A' n' c')) (first | exact ⟨by assumption, by assumption, by assumption⟩ | (refine ⟨?_, ?_, ?_⟩ <;> (rw [World.cell?_setCell_other _ _ _ _ (by intro e; injection e with e; omega), World.cell?_setCell_other _ _ _ _ (by intro e; injection e with e; omega)]; assumption)) | go_keep)
    (first | (go_at_call 47; refine (less_digits a b A A' n n' c c' w.heap.size _ hn hn' ha.1 hb.1 (hxd _ _ _ _) (hxd' _ _ _ _) hl (hszd _ _ _ _) hmn hle).mono ?_; rintro e w1 ⟨A₁, k, c₁, ds, rfl, hk, hkc, hcm, hds, hv, hrd, hnew, hbw⟩; obtain ⟨q0, q1, q2, q3, q4, q5, q6, q7, q8, q9⟩ := boxes_then hbw))
  have Hm := makes_of (z := -val a + val b) true (hb3d _ _ _ _) (hsz3d _ _ _ _) hk hkc hcm hds hrd hnew hbw (by first | (rw [if_pos rfl, hv]; done) | (rw [if_pos rfl, hv]; omega)) (fun _ h0 => by have h1 := Hlt.out; rw [h0] at hv; simp [val] at hv; omega) q9
  have hq := box_written q9 (.bool true) (.slice A₁ k c₁)
  have d0 := hq.cell 0
  have d1 := hq.cell 1
  simp at d0 d1
  clear hv q0 q1 q2 q3 q4 q5 q6 q7 q9 hq
  go_wp2
  refine bodyPost_ret (v := .agg #[.bool true, .slice A₁ k c₁]) ?_ rfl Hm
  simp [results, Tryd.results38, go_sem, d0, d1]

set_option maxRecDepth 100000 in
set_option maxHeartbeats 2000000 in
theorem plus_true_false_eq (w : World) (A A' : Option Addr) (n n' c c' : Nat) (a b : List Int) (hn : a.length = n) (hn' : b.length = n') (ha : Norm a) (hb : Norm b) (hr : Rd w w.heap.size A (cellsI a)) (hr' : Rd w w.heap.size A' (cellsI b))
    (hl : n ≤ 1099511627776) (hl' : n' ≤ 1099511627776) (hcmp : val a = val b) :
    Calls Tryd.prog 38 #[.agg #[.bool true, .slice A n c], .agg #[.bool false, .slice A' n' c']] w (Makes w (-val a + val b)) := by
  have hb3 : ∀ o o' o'', Below w.heap.size w (((w.alloc o).alloc o').alloc o'') := fun o o' o'' => (((Below.refl _ _).alloc (Nat.le_refl _) _).alloc (by simp) _).alloc (by simp; omega) _
  have hx : ∀ o o' o'', Rd (((w.alloc o).alloc o').alloc o'') w.heap.size A (cellsI a) := fun o o' o'' => hr.below (hb3 o o' o'') (Nat.le_refl _)
  have hx' : ∀ o o' o'', Rd (((w.alloc o).alloc o').alloc o'') w.heap.size A' (cellsI b) := fun o o' o'' => hr'.below (hb3 o o' o'') (Nat.le_refl _)
  have hsz3 : ∀ o o' o'', (((w.alloc o).alloc o').alloc o'').heap.size = w.heap.size + 1 + 1 + 1 := fun o o' o'' => by simp
  have hb3d : ∀ o o' o'' d, Below w.heap.size w ((((w.alloc o).alloc o').alloc o'').drewN d) := fun o o' o'' d => below_drewN (hb3 o o' o'') d
  have hsz3d : ∀ o o' o'' d, ((((w.alloc o).alloc o').alloc o'').drewN d).heap.size = w.heap.size + 1 + 1 + 1 := fun o o' o'' _ => hsz3 o o' o''
  have hxd : ∀ o o' o'' d, Rd ((((w.alloc o).alloc o').alloc o'').drewN d) w.heap.size A (cellsI a) := fun o o' o'' _ => hx o o' o''
  have hxd' : ∀ o o' o'' d, Rd ((((w.alloc o).alloc o').alloc o'').drewN d) w.heap.size A' (cellsI b) := fun o o' o'' _ => hx' o o' o''
  have hszd : ∀ o o' o'' d, w.heap.size ≤ ((((w.alloc o).alloc o').alloc o'').drewN d).heap.size := fun o o' o'' _ => (hb3 o o' o'').size
  have Hc := Lib.hid (cmpI_eq hcmp)
  have hlm : n ≤ maxLen ∧ n' ≤ maxLen := by unfold maxLen; omega
  clear hcmp
  go_enter Tryd.func38, Tryd.ntmps38
  go_wp2_with fail
  refine (size_cmp a b A A' n n' c c' w.heap.size w.heap.size _ hn hn' ha hb (hx _ _ _) (hx' _ _ _) hlm.1 hlm.2).mono ?_
  rintro e wd ⟨rfl, d, rfl⟩
  rw [Hc.out]
  go_wp2
  refine bodyPost_ret (v := .agg #[.bool false, .slice none 0 0]) (by simp [results, Tryd.results38, go_sem]) rfl ?_
  refine ⟨_, 0, rfl, ⟨false, none, 0, [], rfl, rfl, Nat.le_refl _, by unfold maxLen; omega, Norm.nil, .inl rfl, ?_, fun h => by cases h⟩, New.of (fun ad h2 => by cases h2), ?_⟩
  · have := Hc.out
    unfold cmpI at this
    split at this
    · omega
    · split at this
      · omega
      · simp [val]; omega
  · exact ((hb3d _ _ _ _).setCell (by simp; omega) _).setCell (by simp; omega) _

set_option maxRecDepth 100000 in
set_option maxHeartbeats 2000000 in
theorem plus_true_false_lt (w : World) (A A' : Option Addr) (n n' c c' : Nat) (a b : List Int) (hn : a.length = n) (hn' : b.length = n') (ha : Norm a) (hb : Norm b) (hr : Rd w w.heap.size A (cellsI a)) (hr' : Rd w w.heap.size A' (cellsI b))
    (hl : n ≤ 1099511627776) (hl' : n' ≤ 1099511627776) (hcmp : val a < val b) :
    Calls Tryd.prog 38 #[.agg #[.bool true, .slice A n c], .agg #[.bool false, .slice A' n' c']] w (Makes w (-val a + val b)) := by
  have hb3 : ∀ o o' o'', Below w.heap.size w (((w.alloc o).alloc o').alloc o'') := fun o o' o'' => (((Below.refl _ _).alloc (Nat.le_refl _) _).alloc (by simp) _).alloc (by simp; omega) _
  have hx : ∀ o o' o'', Rd (((w.alloc o).alloc o').alloc o'') w.heap.size A (cellsI a) := fun o o' o'' => hr.below (hb3 o o' o'') (Nat.le_refl _)
  have hx' : ∀ o o' o'', Rd (((w.alloc o).alloc o').alloc o'') w.heap.size A' (cellsI b) := fun o o' o'' => hr'.below (hb3 o o' o'') (Nat.le_refl _)
  have hsz3 : ∀ o o' o'', (((w.alloc o).alloc o').alloc o'').heap.size = w.heap.size + 1 + 1 + 1 := fun o o' o'' => by simp
  have hb3d : ∀ o o' o'' d, Below w.heap.size w ((((w.alloc o).alloc o').alloc o'').drewN d) := fun o o' o'' d => below_drewN (hb3 o o' o'') d
  have hsz3d : ∀ o o' o'' d, ((((w.alloc o).alloc o').alloc o'').drewN d).heap.size = w.heap.size + 1 + 1 + 1 := fun o o' o'' _ => hsz3 o o' o''
  have hxd : ∀ o o' o'' d, Rd ((((w.alloc o).alloc o').alloc o'').drewN d) w.heap.size A (cellsI a) := fun o o' o'' _ => hx o o' o''
  have hxd' : ∀ o o' o'' d, Rd ((((w.alloc o).alloc o').alloc o'').drewN d) w.heap.size A' (cellsI b) := fun o o' o'' _ => hx' o o' o''
  have hszd : ∀ o o' o'' d, w.heap.size ≤ ((((w.alloc o).alloc o').alloc o'').drewN d).heap.size := fun o o' o'' _ => (hb3 o o' o'').size
  have Hc := Lib.hid (cmpI_lt hcmp)
  have hlm : n ≤ maxLen ∧ n' ≤ maxLen := by unfold maxLen; omega
  have hlen : a.length ≤ b.length := by
    rcases Nat.lt_or_ge b.length a.length with h | h
    · have := val_shorter hb.1 ha h; omega
    · exact h
  have hle : val a ≤ val b := by omega
  have Hlt := Lib.hid hcmp
  have hmn : n ≤ n' := by omega
  clear hcmp
  go_enter Tryd.func38, Tryd.ntmps38
  go_wp2_with fail
  refine (size_cmp a b A A' n n' c c' w.heap.size w.heap.size _ hn hn' ha hb (hx _ _ _) (hx' _ _ _) hlm.1 hlm.2).mono ?_
  rintro e wd ⟨rfl, d, rfl⟩
  rw [Hc.out]
  go_wp2_with fail
  go_region_held3 (fun w' => w'.cell? ⟨w.heap.size + 1, 0, none⟩ = some (.bool false) ∧ w'.cell? ⟨w.heap.size + 1, 1, none⟩ = some (.slice A' n' c') ∧ w'.cell? ⟨w.heap.size, 1, none⟩ = some (.slice A n c)) (first | exact ⟨by assumption, by assumption, by assumption⟩ | (refine ⟨?_, ?_, ?_⟩ <;> (rw [World.cell?_setCell_other _ _ _ _ (by intro e; injection e with e; omega), World.cell?_setCell_other _ _ _ _ (by intro e; injection e with e; omega)]; assumption)) | go_keep)
    (first | (go_at_call 47; refine (less_digits b a A' A n' n c' c w.heap.size _ hn' hn hb.1 ha.1 (hxd' _ _ _ _) (hxd _ _ _ _) hl' (hszd _ _ _ _) hmn hle).mono ?_; rintro e w1 ⟨A₁, k, c₁, ds, rfl, hk, hkc, hcm, hds, hv, hrd, hnew, hbw⟩; obtain ⟨q0, q1, q2, q3, q4, q5, q6, q7, q8, q9⟩ := boxes_then hbw))
  have Hm := makes_of (z := -val a + val b) false (hb3d _ _ _ _) (hsz3d _ _ _ _) hk hkc hcm hds hrd hnew hbw (by first | (rw [if_neg (by simp), hv]; done) | (rw [if_neg (by simp), hv]; omega)) (fun h => by cases h) q9
  have hq := box_written q9 (.bool false) (.slice A₁ k c₁)
  have d0 := hq.cell 0
  have d1 := hq.cell 1
  simp at d0 d1
  clear hv q0 q1 q2 q3 q4 q5 q6 q7 q9 hq
  go_wp2
  refine bodyPost_ret (v := .agg #[.bool false, .slice A₁ k c₁]) ?_ rfl Hm
  simp [results, Tryd.results38, go_sem, d0, d1]


theorem WIs.len {w : World} {v : Value} {z : Int} {n m : Nat} (h : WIs w v z n) (hz : z.natAbs < pw m) : n ≤ m := by
  obtain ⟨s, A, c, ds, rfl, hn, hc, hcm, hnorm, hr, hzv, hs⟩ := h
  by_cases h0 : ds = []
  · subst h0; simp at hn; omega
  · have h1 := val_low hnorm h0
    have h2 := val_nonneg hnorm.1
    rcases Nat.lt_or_ge m n with h | h
    · have h3 := pw_le (show m ≤ ds.length - 1 by omega)
      cases s <;> simp at hzv <;> omega
    · exact h

theorem plus_any (v v' : Value) (z z' : Int) (n n' : Nat) (w : World) (h : WIs w v z n) (h' : WIs w v' z' n') (hl : n ≤ 1099511627776) (hl' : n' ≤ 1099511627776) :
    Calls Tryd.prog 38 #[v, v'] w (Makes w (z + z')) := by
  obtain ⟨s, A, c, a, rfl, hn, hc, hcm, ha, hr, hz, hs⟩ := h
  obtain ⟨s', A', c', b, rfl, hn', hc', hcm', hb, hr', hz', hs'⟩ := h'
  have tri : val b < val a ∨ val a = val b ∨ val a < val b := by omega
  cases s <;> cases s'
  · have e : z + z' = val a + val b := by simp at hz hz'; omega
    rw [e]
    exact plus_same_false w A A' n n' c c' a b hn hn' ha hb hr hr' hl hl'
  · have e : z + z' = val a - val b := by simp at hz hz'; omega
    rw [e]
    rcases tri with t | t | t
    · exact plus_false_true_gt w A A' n n' c c' a b hn hn' ha hb hr hr' hl hl' t
    · exact plus_false_true_eq w A A' n n' c c' a b hn hn' ha hb hr hr' hl hl' t
    · exact plus_false_true_lt w A A' n n' c c' a b hn hn' ha hb hr hr' hl hl' t
  · have e : z + z' = -val a + val b := by simp at hz hz'; omega
    rw [e]
    rcases tri with t | t | t
    · exact plus_true_false_gt w A A' n n' c c' a b hn hn' ha hb hr hr' hl hl' t
    · exact plus_true_false_eq w A A' n n' c c' a b hn hn' ha hb hr hr' hl hl' t
    · exact plus_true_false_lt w A A' n n' c c' a b hn hn' ha hb hr hr' hl hl' t
  · have e : z + z' = -(val a + val b) := by simp at hz hz'; omega
    rw [e]
    exact plus_same_true w A A' n n' c c' a b hn hn' ha hb hr hr' (hs rfl) hl hl'

end Go.Proofs.YtlnbmjebkpkclaaDoor

