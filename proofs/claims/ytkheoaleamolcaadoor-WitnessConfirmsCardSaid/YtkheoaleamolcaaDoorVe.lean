/-
  pianolalaw12.awake answers true; steps turned about, and as new memory.
-/
import Derived.Test.YtkheoaleamolcaaDoorVd
namespace Go.Proofs.YtkheoaleamolcaaDoor
open Go.RowKit

def awN : List ArcV := [⟨0, 0, 2, 1, 0⟩, ⟨0, 0, 2, 2, 0⟩]
theorem awN_fit : ∀ a ∈ awN, a.fit := by
  intro a ha
  simp [awN] at ha
  rcases ha with rfl | rfl <;> simp [ArcV.fit, fits]
theorem aw_prods : prodsF 1 awN [(0, true)] = ([1], [2], 0) := by decide
theorem aw_yes : confirmF 1 awN [(0, false)] = 0 := by decide
theorem aw_no : confirmF 1 awN [(1, false)] = 121 := by decide
theorem confirm_new (n : Int) (ars : List ArcV) (A : Option Addr) (l c : Nat) (p : List StI) (m : Nat) (k : Int) (w : World) (hl : ars.length = l) (hx : ∀ a ∈ ars, a.fit) (hr : Rd w w.heap.size A (cellsA ars)) (hm : l ≤ maxLen) (hp : p.length = m) (hxp : FitT p) (hmp : m ≤ 100) (hk : confirmF n ars p = k) (hT : Tab w) :
    Calls Tryd.prog 16 #[.agg #[.int .i64 n, .slice A l c], .slice (some ⟨w.heap.size, 0, none⟩) m m] (w.alloc (.cells (cellsT p).toArray 43)) fun e w' => e = .returned (.int .i64 k) ∧ Below w.heap.size w w' := by
  have ba := (Below.refl w.heap.size w).alloc (Nat.le_refl _) (.cells (cellsT p).toArray 43)
  refine (confirm_any n ars A l c p _ m m _ hl hx ((hr.below ba (Nat.le_refl _)).more (by simp)) hm hp hxp ((rd_alloc w _ rfl 43 (cellsT p)).more (by simp)) (by unfold maxLen; omega) (Nat.le_refl _) (hT.below ba hT.pos)).mono ?_
  rintro e w' ⟨rfl, hb⟩
  rw [hk]
  exact ⟨rfl, ba.trans (hb.mono ba.size)⟩
theorem fit_litI {xs : List Int} (h : (xs.all fun x => decide (-9223372036854775808 ≤ x ∧ x ≤ 9223372036854775807)) = true) : AllFit xs := by
  intro x hx
  have h2 := List.all_eq_true.1 h x hx
  unfold fits
  exact of_decide_eq_true h2

set_option maxRecDepth 100000 in
set_option maxHeartbeats 4000000 in
theorem awake_any (w : World) (hT : Tab w) : Calls Tryd.prog 14 #[] w fun e w' => e = .returned (.bool true) ∧ Below w.heap.size w w' := by
  have TO := Lib.hid (fun w1 (hb : Below w.heap.size w w1) => hT.below hb hT.pos)
  have b1 := (Below.refl w.heap.size w).alloc (Nat.le_refl _) (.cells #[.int .i64 0, .int .i64 0, .int .i64 2, .int .i64 1, .int .i64 0, .int .i64 0, .int .i64 0, .int .i64 2, .int .i64 2, .int .i64 0] 46)
  have r1 := (rd_alloc w w.heap.size rfl 46 (cellsA awN))
  have hw1 : w.alloc (.cells (cellsA awN).toArray 46) = w.alloc (.cells #[.int .i64 0, .int .i64 0, .int .i64 2, .int .i64 1, .int .i64 0, .int .i64 0, .int .i64 0, .int .i64 2, .int .i64 2, .int .i64 0] 46) := rfl
  rw [hw1] at r1
  have R1 := Lib.hid r1
  clear hT hw1 r1
  go_enter Tryd.func14, Tryd.ntmps14
  go_wp2_with fail
  obtain ⟨W0, hW0⟩ : ∃ W0, w.alloc (.cells #[.int .i64 0, .int .i64 0, .int .i64 2, .int .i64 1, .int .i64 0, .int .i64 0, .int .i64 0, .int .i64 2, .int .i64 2, .int .i64 0] 46) = W0 := ⟨_, rfl⟩
  have hs0 : W0.heap.size = w.heap.size + 1 := by rw [← hW0]; simp
  rw [hW0] at b1 R1
  try rw [hW0]
  clear hW0
  have ba := (Below.refl W0.heap.size W0).alloc (Nat.le_refl _) (.cells #[.int .i64 1, .slice (some ⟨w.heap.size, 0, none⟩) 2 2] 24)
  have b2 := b1.trans (ba.mono b1.size)
  have r2 := R1.out.below ba (by omega)
  have k2 := Blk.new W0 (w.heap.size + 1) hs0.symm 24 #[.int .i64 1, .slice (some ⟨w.heap.size, 0, none⟩) 2 2]
  obtain ⟨W1, hW1⟩ : ∃ W, W0.alloc (.cells #[.int .i64 1, .slice (some ⟨w.heap.size, 0, none⟩) 2 2] 24) = W := ⟨_, rfl⟩
  have hs1 : W1.heap.size = w.heap.size + 1 + 1 := by rw [← hW1]; simp; omega
  rw [hW1] at b2 r2 k2
  try rw [hW1]
  rw [← hs1]
  obtain ⟨gA, hgA⟩ : ∃ g, w.heap.size = g := ⟨_, rfl⟩
  obtain ⟨gN, hgN⟩ : ∃ g, gA + 1 = g := ⟨_, rfl⟩
  rw [hgA, hgN] at r2 k2
  rw [hgA, hgN]
  have HG := Lib.hid (And.intro hgA hgN)
  have hAN : gA < gN := by omega
  clear hW1 ba b1 R1 hs0 W0 hgA hgN hs1
  have R2 := Lib.hid r2
  have K2 := Lib.hid k2
  have ba := (Below.refl W1.heap.size W1).alloc (Nat.le_refl _) (.cells #[.int .i64 0, .bool true] 43)
  have b3 := b2.trans (ba.mono b2.size)
  have r3 := r2.below ba (by have := k2.lt; omega)
  have k3 := k2.lowr ba k2.lt
  have s3 := rd_alloc W1 _ rfl 43 (cellsT [(0, true)])
  have hw3 : W1.alloc (.cells (cellsT [(0, true)]).toArray 43) = W1.alloc (.cells #[.int .i64 0, .bool true] 43) := rfl
  rw [hw3] at s3
  obtain ⟨W3, hW3⟩ : ∃ W, W1.alloc (.cells #[.int .i64 0, .bool true] 43) = W := ⟨_, rfl⟩
  obtain ⟨gS, hgS⟩ : ∃ g, W1.heap.size = g := ⟨_, rfl⟩
  have hs3 : W3.heap.size = gS + 1 := by rw [← hW3, ← hgS]; simp
  rw [hW3] at b3 r3 k3 s3
  rw [hgS] at s3
  rw [hW3, hgS]
  have hgNW : gN < W3.heap.size := k3.lt
  have hgNS : gN < gS := by rw [← hgS]; exact K2.out.lt
  clear hw3 hW3 hgS ba b2 r2 k2 R2 K2
  have hc := products_any 1 awN (some ⟨gA, 0, none⟩) 2 2 [(0, true)] (some ⟨gS, 0, none⟩) 1 1 W3 rfl awN_fit (r3.more (by omega)) (by unfold maxLen; omega) rfl (by intro s hs; simp at hs; subst hs; unfold fits; simp) (s3.more (by omega)) (by unfold maxLen; omega)
  rw [aw_prods] at hc
  refine hc.mono ?_
  rintro e w4 ⟨Aa, Ab, ca, cb, rfl, oa, ob, -, hb4⟩
  have b4 := b3.trans (hb4.mono b3.size)
  have RA := Lib.hid (r3.below hb4 (by omega))
  have K4 := Lib.hid (k3.lowr hb4 hgNW)
  have OA := Lib.hid (rd_of_own oa)
  have OB := Lib.hid (rd_of_own ob)
  have hs4 := hb4.size
  clear hc oa ob hb4 r3 k3 s3 b3
  go_wp2_with fail
  have ba := (Below.refl w4.heap.size w4).alloc (Nat.le_refl _) (.cells #[.int .i64 1] 3)
  refine (sameInts_yes [1] Aa (some ⟨w4.heap.size, 0, none⟩) 1 ca 1 _ _ _ rfl (fit_litI (by decide)) (OA.out.below ba (Nat.le_refl _)) (rd_alloc w4 _ rfl 3 (cellsI [1])) (by unfold maxLen; omega)).mono ?_
  rintro e w5 ⟨rfl, hd5⟩
  have h45 : Below w4.heap.size w4 w5 := ba.trans ((hd5.below _).mono ba.size)
  have b5 := b4.trans (h45.mono b4.size)
  have RA := Lib.hid (RA.out.below h45 (by omega))
  have K5 := Lib.hid (K4.out.lowr h45 (by omega))
  have OB := Lib.hid ((OB.out.below h45 (Nat.le_refl _)).more h45.size)
  have hs5 := h45.size
  clear ba hd5 h45 b4 K4 OA
  go_wp2_with fail
  have ba := (Below.refl w5.heap.size w5).alloc (Nat.le_refl _) (.cells #[.int .i64 2] 3)
  refine (sameInts_yes [2] Ab (some ⟨w5.heap.size, 0, none⟩) 1 cb 1 _ _ _ rfl (fit_litI (by decide)) (OB.out.below ba (Nat.le_refl _)) (rd_alloc w5 _ rfl 3 (cellsI [2])) (by unfold maxLen; omega)).mono ?_
  rintro e w6 ⟨rfl, hd6⟩
  have h56 : Below w5.heap.size w5 w6 := ba.trans ((hd6.below _).mono ba.size)
  have b6 := b5.trans (h56.mono b5.size)
  have RA := Lib.hid (RA.out.below h56 (by omega))
  have k6 := K5.out.lowr h56 (by omega)
  have K6 := Lib.hid k6
  have f0 := k6.cell 0
  have f1 := k6.cell 1
  simp at f0 f1
  have hs6 := h56.size
  clear ba hd6 h56 b5 K5 OB k6
  go_wp2_with fail
  have hcf := confirm_new 1 awN (some ⟨gA, 0, none⟩) 2 2 [(0, false)] 1 0 w6 rfl awN_fit (RA.out.more (by omega)) (by unfold maxLen; omega) rfl (by intro s hs; simp at hs; subst hs; unfold fits; simp) (by omega) aw_yes (TO.out w6 b6)
  refine hcf.mono ?_
  rintro e w7 ⟨rfl, hb7⟩
  have b7 := b6.trans (hb7.mono b6.size)
  have RA := Lib.hid (RA.out.below hb7 (by omega))
  have k7 := K6.out.lowr hb7 (by omega)
  have f0 := k7.cell 0
  have f1 := k7.cell 1
  simp at f0 f1
  have hs7 := hb7.size
  clear hb7 b6 K6 k7 hcf
  go_wp2_with fail
  have hcf := confirm_new 1 awN (some ⟨gA, 0, none⟩) 2 2 [(1, false)] 1 121 w7 rfl awN_fit (RA.out.more (by omega)) (by unfold maxLen; omega) rfl (by intro s hs; simp at hs; subst hs; unfold fits; simp) (by omega) aw_no (TO.out w7 b7)
  refine hcf.mono ?_
  rintro e w8 ⟨rfl, hb8⟩
  have b8 := b7.trans (hb8.mono b7.size)
  clear hb8 b7 hcf
  go_wp2_with fail
  go_ret
  exact ⟨rfl, b8⟩
end Go.Proofs.YtkheoaleamolcaaDoor
