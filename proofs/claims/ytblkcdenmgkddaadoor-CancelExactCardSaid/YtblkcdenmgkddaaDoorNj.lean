/-
  CancelEquals, CancelRatios: they answer true of any two lists.
-/
import Derived.Test.YtblkcdenmgkddaaDoorNi
namespace Go.Proofs.YtblkcdenmgkddaaDoor
open Go.RowKit

/-- what is lent: where it lies, what it holds -/
structure LentI (w w' : World) (g n : Nat) (xs : List Int) : Prop where
  len : xs.length = n
  own : w'.ownsRow w.heap.size 3 1 (.slice (some ⟨g, 0, none⟩) (n + 4) (n + 4)) (n + 4) (cellsI (xs ++ marks))
theorem LentI.low {w w' w2 : World} {g n : Nat} {xs : List Int} (h : LentI w w' g n xs) (hb : Below w'.heap.size w' w2) : LentI w w2 g n xs := ⟨h.len, own_below h.own hb⟩
theorem LentI.rd {w w' : World} {g n : Nat} {xs : List Int} (h : LentI w w' g n xs) : Rd w' w'.heap.size (some ⟨g, 0, none⟩) (cellsI xs) := (lent_cells h.own h.len).1

set_option maxRecDepth 100000 in
set_option maxHeartbeats 4000000 in
theorem equals_any (ps : List Int) (A : Option Addr) (n c : Nat) (qs : List Int) (A' : Option Addr) (n' c' : Nat) (w : World) (hn : ps.length = n) (lc : n ≤ c) (hx : AllFit ps) (hr : Rd w w.heap.size A (cellsI ps)) (hz : c * 8 ≤ 140737488351232)
    (hn' : qs.length = n') (lc' : n' ≤ c') (hx' : AllFit qs) (hr' : Rd w w.heap.size A' (cellsI qs)) (hz' : c' * 8 ≤ 140737488351232) (hT : Tab w) :
    Calls Tryd.prog 4 #[.slice A n c, .slice A' n' c'] w fun e w' => e = .returned (.bool true) ∧ Below w.heap.size w w' := by
  have z1 : n * 8 ≤ 140737488351232 := by omega
  have z2 : n' * 8 ≤ 140737488351232 := by omega
  have m1 : n ≤ maxLen := by unfold maxLen; omega
  have m2 : n' ≤ maxLen := by unfold maxLen; omega
  have TO := Lib.hid (fun w1 (hb : Below w.heap.size w w1) => hT.below hb hT.pos)
  have HR := Lib.hid hr
  have HR' := Lib.hid hr'
  have HX := Lib.hid hx
  have HX' := Lib.hid hx'
  have HN := Lib.hid hn
  have HN' := Lib.hid hn'
  clear hT hr hr' hx hx' hz hz' lc lc' hn hn'
  go_enter Tryd.func4, Tryd.ntmps4
  go_wp2_with fail
  refine (lent_any ps A n c _ w HN.out HR.out z1 (Nat.le_refl _)).mono ?_
  rintro e w1 ⟨g1, rfl, hg1, o1, b1⟩
  have L1 : LentI w w1 g1 n ps := ⟨HN.out, o1⟩
  have LL1 := Lib.hid L1
  clear o1 L1
  go_wp2_with fail
  refine (lent_any qs A' n' c' _ w1 HN'.out (HR'.out.below b1 (Nat.le_refl _)) z2 b1.size).mono ?_
  rintro e w2 ⟨g2, rfl, hg2, o2, hb2⟩
  have L2 : LentI w1 w2 g2 n' qs := ⟨HN'.out, o2⟩
  have LL2 := Lib.hid L2
  have LL1 := Lib.hid (LL1.out.low hb2)
  have b2 := b1.trans (hb2.mono b1.size)
  clear o2 hb2 L2 b1
  go_wp2_with fail
  refine (equal_any ps qs _ _ n n' _ _ _ _ w2 HN.out HN'.out HX.out HX'.out LL1.out.rd LL2.out.rd m1 m2 (Nat.le_refl _) (Nat.le_refl _) (TO.out w2 b2)).mono ?_
  rintro e w3 ⟨rfl, hb3⟩
  have LL2 := Lib.hid (LL2.out.low hb3)
  have LL1 := Lib.hid (LL1.out.low hb3)
  have b3 := b2.trans (hb3.mono b2.size)
  clear hb3 b2
  go_wp2_with fail
  refine (refEqual_any ps qs A A' n n' c c' _ _ w3 HN.out HN'.out HX.out HX'.out (HR.out.below b3 (Nat.le_refl _)) (HR'.out.below b3 (Nat.le_refl _)) m1 m2 b3.size b3.size).mono ?_
  rintro e w4 ⟨rfl, hb4⟩
  have LL2 := Lib.hid (LL2.out.low hb4)
  have LL1 := Lib.hid (LL1.out.low hb4)
  have b4 := b3.trans (hb4.mono b3.size)
  clear hb4 b3
  obtain ⟨t, ht⟩ : ∃ t, equalF ps qs = t := ⟨_, rfl⟩
  obtain ⟨k, hk⟩ : ∃ k, cwrongF ps qs = k := ⟨_, rfl⟩
  rw [ht, hk]
  clear ht hk
  go_wp2_with fail
  refine (awake_any w4 (TO.out w4 b4)).mono ?_
  rintro e w5 ⟨rfl, hb5⟩
  have LL2 := Lib.hid (LL2.out.low hb5)
  have LL1 := Lib.hid (LL1.out.low hb5)
  have b5 := b4.trans (hb5.mono b4.size)
  have e1 : (t == t) = true := by simp
  have e2 : (k == k) = true := by simp
  clear hb5 b4
  go_wp2_with fail
  refine (kept_yes ps A n c g1 _ _ w5 HN.out HX.out (HR.out.below b5 (Nat.le_refl _)) z1 LL1.out.own).mono ?_
  rintro e w6 ⟨rfl, hd6⟩
  have hb6 := hd6.below w5.heap.size
  have LL2 := Lib.hid (LL2.out.low hb6)
  have b6 := b5.trans (hb6.mono b5.size)
  clear hb6 hd6 b5
  go_wp2_with fail
  refine (kept_yes qs A' n' c' g2 _ _ w6 HN'.out HX'.out (HR'.out.below b6 (Nat.le_refl _)) z2 LL2.out.own).mono ?_
  rintro e w7 ⟨rfl, hd7⟩
  have b7 := b6.trans ((hd7.below w6.heap.size).mono b6.size)
  clear hd7 b6
  go_wp2_with fail
  go_ret
  exact ⟨rfl, b7⟩
set_option maxRecDepth 100000 in
set_option maxHeartbeats 4000000 in
theorem ratios_any (ps : List Int) (A : Option Addr) (n c : Nat) (qs : List Int) (A' : Option Addr) (n' c' : Nat) (w : World) (hn : ps.length = n) (lc : n ≤ c) (hx : AllFit ps) (hr : Rd w w.heap.size A (cellsI ps)) (hz : c * 8 ≤ 140737488351232)
    (hn' : qs.length = n') (lc' : n' ≤ c') (hx' : AllFit qs) (hr' : Rd w w.heap.size A' (cellsI qs)) (hz' : c' * 8 ≤ 140737488351232) (hT : Tab w) :
    Calls Tryd.prog 5 #[.slice A n c, .slice A' n' c'] w fun e w' => e = .returned (.bool true) ∧ Below w.heap.size w w' := by
  have z1 : n * 8 ≤ 140737488351232 := by omega
  have z2 : n' * 8 ≤ 140737488351232 := by omega
  have m1 : n ≤ maxLen := by unfold maxLen; omega
  have m2 : n' ≤ maxLen := by unfold maxLen; omega
  have TO := Lib.hid (fun w1 (hb : Below w.heap.size w w1) => hT.below hb hT.pos)
  have HR := Lib.hid hr
  have HR' := Lib.hid hr'
  have HX := Lib.hid hx
  have HX' := Lib.hid hx'
  have HN := Lib.hid hn
  have HN' := Lib.hid hn'
  clear hT hr hr' hx hx' hz hz' lc lc' hn hn'
  go_enter Tryd.func5, Tryd.ntmps5
  go_wp2_with fail
  refine (lent_any ps A n c _ w HN.out HR.out z1 (Nat.le_refl _)).mono ?_
  rintro e w1 ⟨g1, rfl, hg1, o1, b1⟩
  have L1 : LentI w w1 g1 n ps := ⟨HN.out, o1⟩
  have LL1 := Lib.hid L1
  clear o1 L1
  go_wp2_with fail
  refine (lent_any qs A' n' c' _ w1 HN'.out (HR'.out.below b1 (Nat.le_refl _)) z2 b1.size).mono ?_
  rintro e w2 ⟨g2, rfl, hg2, o2, hb2⟩
  have L2 : LentI w1 w2 g2 n' qs := ⟨HN'.out, o2⟩
  have LL2 := Lib.hid L2
  have LL1 := Lib.hid (LL1.out.low hb2)
  have b2 := b1.trans (hb2.mono b1.size)
  clear o2 hb2 L2 b1
  obtain ⟨x, hxe⟩ : ∃ x, (ratioF ps qs).1.n = x := ⟨_, rfl⟩
  obtain ⟨y, hye⟩ : ∃ y, (ratioF ps qs).1.d = y := ⟨_, rfl⟩
  obtain ⟨k, hk⟩ : ∃ k, (ratioF ps qs).2 = k := ⟨_, rfl⟩
  have HE := Lib.hid (And.intro hxe (And.intro hye hk))
  clear hxe hye hk
  go_wp2_with fail
  refine (ratio_any ps qs _ _ n n' _ _ _ _ w2 HN.out HN'.out HX.out HX'.out LL1.out.rd LL2.out.rd m1 m2 (Nat.le_refl _) (Nat.le_refl _) (TO.out w2 b2)).mono ?_
  rw [HE.out.1, HE.out.2.1, HE.out.2.2]
  rintro e w3 ⟨rfl, hb3⟩
  have b3 := b2.trans (hb3.mono b2.size)
  have ha := hb3.trans (((Below.refl w3.heap.size w3).alloc (Nat.le_refl _) (.cells #[.int .i64 x, .int .i64 y] 34)).mono hb3.size)
  have LL2 := Lib.hid (LL2.out.low ha)
  have LL1 := Lib.hid (LL1.out.low ha)
  have k3 := Blk.new w3 _ rfl 34 #[.int .i64 x, .int .i64 y]
  have b3 := b3.alloc b3.size (.cells #[.int .i64 x, .int .i64 y] 34)
  have K3 := Lib.hid k3
  clear hb3 b2 ha k3
  go_wp2_with fail
  refine (refRatio_any ps qs A A' n n' c c' _ _ _ HN.out HN'.out HX.out HX'.out (HR.out.below b3 (Nat.le_refl _)) (HR'.out.below b3 (Nat.le_refl _)) m1 m2 b3.size b3.size).mono ?_
  rw [HE.out.1, HE.out.2.1, HE.out.2.2]
  rintro e w4 ⟨rfl, hb4⟩
  have b4 := b3.trans (hb4.mono b3.size)
  have ha := hb4.trans (((Below.refl w4.heap.size w4).alloc (Nat.le_refl _) (.cells #[.int .i64 x, .int .i64 y] 34)).mono hb4.size)
  have LL2 := Lib.hid (LL2.out.low ha)
  have LL1 := Lib.hid (LL1.out.low ha)
  have k3 := (K3.out.lowr hb4 K3.out.lt).alloc (.cells #[.int .i64 x, .int .i64 y] 34)
  have k4 := Blk.new w4 _ rfl 34 #[.int .i64 x, .int .i64 y]
  have b4 := b4.alloc b4.size (.cells #[.int .i64 x, .int .i64 y] 34)
  have K3 := Lib.hid k3
  have K4 := Lib.hid k4
  clear hb4 b3 ha k3 k4
  go_wp2_with fail
  refine (awake_any _ (TO.out _ b4)).mono ?_
  rintro e w5 ⟨rfl, hb5⟩
  have LL2 := Lib.hid (LL2.out.low hb5)
  have LL1 := Lib.hid (LL1.out.low hb5)
  have b5 := b4.trans (hb5.mono b4.size)
  have k3 := K3.out.lowr hb5 K3.out.lt
  have k4 := K4.out.lowr hb5 K4.out.lt
  have f0 := k3.cell 0
  have f1 := k3.cell 1
  have f2 := k4.cell 0
  have f3 := k4.cell 1
  simp only [List.getElem?_toArray, List.getElem?_cons_zero, List.getElem?_cons_succ] at f0 f1 f2 f3
  have e2 : (k == k) = true := by simp
  clear hb5 b4 k3 k4
  go_wp2_with fail
  refine (kept_yes ps A n c g1 _ _ w5 HN.out HX.out (HR.out.below b5 (Nat.le_refl _)) z1 LL1.out.own).mono ?_
  rintro e w6 ⟨rfl, hd6⟩
  have hb6 := hd6.below w5.heap.size
  have LL2 := Lib.hid (LL2.out.low hb6)
  have b6 := b5.trans (hb6.mono b5.size)
  clear hb6 hd6 b5 f0 f1 f2 f3
  go_wp2_with fail
  refine (kept_yes qs A' n' c' g2 _ _ w6 HN'.out HX'.out (HR'.out.below b6 (Nat.le_refl _)) z2 LL2.out.own).mono ?_
  rintro e w7 ⟨rfl, hd7⟩
  have b7 := b6.trans ((hd7.below w6.heap.size).mono b6.size)
  clear hd7 b6
  go_wp2_with fail
  go_ret
  exact ⟨by simp, b7⟩
end Go.Proofs.YtblkcdenmgkddaaDoor
