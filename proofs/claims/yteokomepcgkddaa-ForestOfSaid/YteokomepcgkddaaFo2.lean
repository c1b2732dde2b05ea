/-
  The law ForestOf.
-/
import Derived.Test.YteokomepcgkddaaFn
namespace Go.Proofs.Yteokomepcgkddaa
open Go.RowKit

theorem OfAns.one {n : Int} {ars : List ArcV} {k k' : Int} {tree tree' home home' : List Int} (h : OfAns n ars k tree home) (h' : OfAns n ars k' tree' home') : k' = k ∧ tree' = tree ∧ home' = home := by
  rcases h with ⟨hc, rfl, rfl, rfl⟩ | ⟨hc, rfl, m, rfl, rfl, rfl⟩ <;> rcases h' with ⟨hc', rfl, rfl, rfl⟩ | ⟨hc', rfl, m', hm, rfl, rfl⟩
  · exact ⟨rfl, rfl, rfl⟩
  · exact absurd hc' hc
  · exact absurd hc hc'
  · obtain rfl : m' = m := by omega
    exact ⟨rfl, rfl, rfl⟩
def two {α : Type} (a b : α) : Nat → α := fun j => if j = 0 then a else b

/-- Apart of two lists -/
theorem apart_two (A A' : Option Addr) (c c' : Nat) (xs xs' : List Int) (bo B : Nat) (w : World) (hn : xs.length ≤ 100000) (hn' : xs'.length ≤ 100000)
    (ho : w.ownsRow B 3 1 (.slice A xs.length c) xs.length (cellsI xs)) (ho' : w.ownsRow B 3 1 (.slice A' xs'.length c') xs'.length (cellsI xs')) (hd : ∀ b, blkOf A = some b → blkOf A' ≠ some b)
    (h0 : w.cell? ⟨bo, 0, none⟩ = some (.slice A xs.length c)) (h1 : w.cell? ⟨bo, 1, none⟩ = some (.slice A' xs'.length c')) (hb : blkOf A ≠ some bo) (hb' : blkOf A' ≠ some bo) (hbo : bo < w.heap.size) (hB : B ≤ w.heap.size) :
    Calls Try.prog 14 #[.slice (some ⟨bo, 0, none⟩) 2 2] w fun e w' => e = .returned (.bool true) ∧ Below B w w' := by
  have cas : ∀ j, j < 2 → j = 0 ∨ j = 1 := fun j hj => by omega
  refine apart_any 2 (two A A') (two xs.length xs'.length) (two c c') (two xs xs') bo 0 2 B w (by omega) ?_ ?_ ?_ ?_ ?_ hbo hB
  · intro j hj; rcases cas j hj with rfl | rfl
    · exact hn
    · exact hn'
  · intro j hj; rcases cas j hj with rfl | rfl
    · exact ho
    · exact ho'
  · intro j k hj hk hne b hbj
    rcases cas j hj with rfl | rfl <;> rcases cas k hk with rfl | rfl
    · omega
    · exact hd b hbj
    · intro he; exact hd b he hbj
    · omega
  · intro j hj; rcases cas j hj with rfl | rfl
    · exact h0
    · exact h1
  · intro j hj; rcases cas j hj with rfl | rfl
    · exact hb
    · exact hb'

set_option maxHeartbeats 2000000 in
theorem ofLaw_any (n : Int) (ars : List ArcV) (A : Option Addr) (l c : Nat) (w : World) (hl : ars.length = l) (hx : ∀ a ∈ ars, a.fit) (hr : Rd w w.heap.size A (cellsA ars)) (hm : l ≤ maxLen) (hlc : l ≤ c) (hz : c * 40 ≤ 140737488351232) :
    Calls Try.prog 3 #[.agg #[.int .i64 n, .slice A l c]] w fun e w' => e = .returned (.bool true) ∧ Below w.heap.size w w' := by
  have hz40 : l * 40 ≤ 140737488351232 := by omega
  clear hz hlc
  have s1 : ∀ {w : World} {o : Obj}, Below w.heap.size w (w.alloc o) := fun {w o} => (Below.refl _ _).alloc (Nat.le_refl _) o
  have b1 := (Below.refl w.heap.size w).alloc (Nat.le_refl _) (.cells #[.int .i64 n, .slice A l c] 24)
  have k1 := Blk.new w _ rfl 24 #[.int .i64 n, .slice A l c]
  go_enter Try.func3, Try.ntmps3
  go_wp2_with fail
  refine (refOf_any n ars A l c _ hl hx ((hr.below b1 (Nat.le_refl _)).more b1.size) hm).mono ?_; rintro e w2 ⟨At, ct, Ah, ch, k, tree, home, rfl, ha, rt, rh, hb2⟩
  have b2 := b1.trans (hb2.mono b1.size)
  have k2 := (k1.below hb2 (by simp)).alloc (.cells #[.slice At tree.length ct, .slice Ah home.length ch] 27)
  have f2 := Blk.new w2 _ rfl 27 #[.slice At tree.length ct, .slice Ah home.length ch]
  have b3 := b2.alloc b2.size (.cells #[.slice At tree.length ct, .slice Ah home.length ch] 27)
  have rt3 : Rd (w2.alloc (.cells #[.slice At tree.length ct, .slice Ah home.length ch] 27)) (w2.alloc (.cells #[.slice At tree.length ct, .slice Ah home.length ch] 27)).heap.size At (cellsI tree) := (rt.below s1 (Nat.le_refl _)).more (by simp)
  have rh3 : Rd (w2.alloc (.cells #[.slice At tree.length ct, .slice Ah home.length ch] 27)) (w2.alloc (.cells #[.slice At tree.length ct, .slice Ah home.length ch] 27)).heap.size Ah (cellsI home) := (rh.below s1 (Nat.le_refl _)).more (by simp)
  have n0 := k2.cell 0
  have n1 := k2.cell 1
  simp at n0 n1
  go_wp2_with fail
  generalize hW3 : w2.alloc (.cells #[.slice At tree.length ct, .slice Ah home.length ch] 27) = w3 at k2 f2 b3 rt3 rh3 n0 n1 ⊢
  generalize w2.heap.size = bF at f2 ⊢
  clear hW3 rt rh b1 hb2 b2 k1
  refine (netCopy_any n ars A l c w3 hl ((hr.below b3 (Nat.le_refl _)).more b3.size) hm hz40).mono ?_; rintro e w4 ⟨A4, c4, rfl, o4, hb4⟩
  have b5 := (b3.trans (hb4.mono b3.size)).alloc (by have := b3.size; have := hb4.size; omega) (.cells #[.int .i64 n, .slice A4 l c4] 24)
  have k5 := (k2.below hb4 k2.lt).alloc (.cells #[.int .i64 n, .slice A4 l c4] 24)
  have f5 := (f2.below hb4 f2.lt).alloc (.cells #[.int .i64 n, .slice A4 l c4] 24)
  have m5 := Blk.new w4 _ rfl 24 #[.int .i64 n, .slice A4 l c4]
  have o5 := o4.alloc (.cells #[.int .i64 n, .slice A4 l c4] 24)
  have rt5 : Rd (w4.alloc (.cells #[.int .i64 n, .slice A4 l c4] 24)) _ At (cellsI tree) := (rt3.below hb4 (Nat.le_refl _)).below s1 hb4.size
  have rh5 : Rd (w4.alloc (.cells #[.int .i64 n, .slice A4 l c4] 24)) _ Ah (cellsI home) := (rh3.below hb4 (Nat.le_refl _)).below s1 hb4.size
  have hs5 : w3.heap.size ≤ (w4.alloc (.cells #[.int .i64 n, .slice A4 l c4] 24)).heap.size := by have := hb4.size; simp; omega
  have n0 := m5.cell 0
  have n1 := m5.cell 1
  simp at n0 n1
  go_wp2_with fail
  generalize hW5 : w4.alloc (.cells #[.int .i64 n, .slice A4 l c4] 24) = w5 at b5 k5 f5 m5 o5 rt5 rh5 hs5 n0 n1 ⊢
  generalize w4.heap.size = bM at m5 ⊢
  clear hW5 o4 hb4 k2 f2 n0 n1
  have hr5 := rd_of_own o5
  refine (ofOwn_any n ars A4 l c4 w5 hl hx hr5 hm).mono ?_; rintro e w6 ⟨Bt, dt, Bh, dh, k', tree', home', rfl, ha', ot, oh, hdis, hb6⟩
  obtain ⟨rfl, rfl, rfl⟩ := ha.one ha'
  obtain ⟨ft, fh, ht96, hh32, hkf⟩ := ha.fit
  have b7 := (b5.trans (hb6.mono b5.size)).alloc (by have := b5.size; have := hb6.size; omega) (.cells #[.slice Bt tree'.length dt, .slice Bh home'.length dh] 27)
  have k7 := (k5.below hb6 k5.lt).alloc (.cells #[.slice Bt tree'.length dt, .slice Bh home'.length dh] 27)
  have f7 := (f5.below hb6 f5.lt).alloc (.cells #[.slice Bt tree'.length dt, .slice Bh home'.length dh] 27)
  have m7 := (m5.below hb6 m5.lt).alloc (.cells #[.slice Bt tree'.length dt, .slice Bh home'.length dh] 27)
  have g7 := Blk.new w6 _ rfl 27 #[.slice Bt tree'.length dt, .slice Bh home'.length dh]
  have ot7 := ot.alloc (.cells #[.slice Bt tree'.length dt, .slice Bh home'.length dh] 27)
  have oh7 := oh.alloc (.cells #[.slice Bt tree'.length dt, .slice Bh home'.length dh] 27)
  have rt7 : Rd (w6.alloc (.cells #[.slice Bt tree'.length dt, .slice Bh home'.length dh] 27)) _ At (cellsI tree') := (rt5.below hb6 hs5).below s1 (Nat.le_trans hs5 hb6.size)
  have rh7 : Rd (w6.alloc (.cells #[.slice Bt tree'.length dt, .slice Bh home'.length dh] 27)) _ Ah (cellsI home') := (rh5.below hb6 hs5).below s1 (Nat.le_trans hs5 hb6.size)
  have r7 : Rd (w6.alloc (.cells #[.slice Bt tree'.length dt, .slice Bh home'.length dh] 27)) _ A4 (cellsA ars) := (hr5.below hb6 (Nat.le_refl _)).below s1 hb6.size
  have hs7 : w5.heap.size ≤ (w6.alloc (.cells #[.slice Bt tree'.length dt, .slice Bh home'.length dh] 27)).heap.size := by have := hb6.size; simp; omega
  have c0 := k7.cell 0
  have c1 := k7.cell 1
  have c2 := f7.cell 0
  have c3 := f7.cell 1
  have c4' := m7.cell 0
  have c5 := m7.cell 1
  simp at c0 c1 c2 c3 c4' c5
  have hkk : (k' != k') = false := by simp
  go_wp2_with fail
  have hg6 : w5.heap.size ≤ w6.heap.size := hb6.size
  generalize hW7 : w6.alloc (.cells #[.slice Bt tree'.length dt, .slice Bh home'.length dh] 27) = w7 at b7 k7 f7 m7 g7 ot7 oh7 rt7 rh7 r7 hs7 c0 c1 c2 c3 c4' c5 ⊢
  generalize w6.heap.size = bG at g7 ⊢
  have hw5 : w.heap.size ≤ w5.heap.size := b5.size
  clear hW7 ot oh b5 k5 f5 m5 rt5 rh5 hr5 o5 hb6 hs5 ha ha' b3 rt3 rh3 hg6
  refine (sameInts_yes tree' At Bt _ _ _ _ _ w7 rfl ft rt7 (rd_of_own ot7) (by unfold maxLen; omega)).mono ?_; rintro e w' ⟨rfl, d1, rfl⟩
  have e3 : (w7.drewN d1).cell? ⟨bF, 1, none⟩ = some (.slice Ah home'.length ch) := c3
  have e7 : (w7.drewN d1).cell? ⟨bG, 1, none⟩ = some (.slice Bh home'.length dh) := g7.cell 1
  go_wp2_with fail
  refine (sameInts_yes home' Ah Bh _ _ _ _ _ (w7.drewN d1) rfl fh (Drawn.rd ⟨d1, rfl⟩ rh7) (rd_of_own (w := w7.drewN d1) oh7) (by unfold maxLen; omega)).mono ?_; rintro e w' ⟨rfl, d2, rfl⟩
  have e0 : (w7.drewN (d1 + d2)).cell? ⟨w.heap.size, 0, none⟩ = some (.int .i64 n) := c0
  have e1 : (w7.drewN (d1 + d2)).cell? ⟨w.heap.size, 1, none⟩ = some (.slice A l c) := c1
  have e4 : (w7.drewN (d1 + d2)).cell? ⟨bM, 0, none⟩ = some (.int .i64 n) := c4'
  have e5 : (w7.drewN (d1 + d2)).cell? ⟨bM, 1, none⟩ = some (.slice A4 l c4) := c5
  go_wp2_with fail
  have b8 := Below.drewN b7 (d1 + d2)
  have q4 : Rd (w7.drewN (d1 + d2)) (w7.drewN (d1 + d2)).heap.size A4 (cellsA ars) := Rd.more (Drawn.rd ⟨d1 + d2, rfl⟩ r7) hs7
  have qA : Rd (w7.drewN (d1 + d2)) (w7.drewN (d1 + d2)).heap.size A (cellsA ars) := (hr.below b8 (Nat.le_refl _)).more b8.size
  refine (sameNet_yes n ars A4 A l c4 c _ hl hx q4 qA hm).mono ?_; rintro e w9 ⟨rfl, hb9⟩
  have b9 := b8.trans (hb9.mono b8.size)
  have g9 : Blk w9 bG 27 #[.slice Bt tree'.length dt, .slice Bh home'.length dh] := Blk.below (w := w7.drewN (d1 + d2)) g7 hb9 g7.lt
  have ot9 := own_below (w := w7.drewN (d1 + d2)) ot7 hb9
  have oh9 := own_below (w := w7.drewN (d1 + d2)) oh7 hb9
  have hs9 : w5.heap.size ≤ w9.heap.size := Nat.le_trans hs7 hb9.size
  clear e0 e1 e3 e4 e5 e7 c0 c1 c2 c3 c4' c5 b7 k7 f7 m7 g7 ot7 oh7 rt7 rh7 r7 b8 q4 qA hb9 hs7
  have c6 := g9.cell 0
  have c7 := g9.cell 1
  simp at c6 c7
  go_wp2_with fail
  have l9 := Blk.new w9 w9.heap.size rfl 25 #[.slice Bt tree'.length dt, .slice Bh home'.length dh]
  have nb : ∀ (X : Option Addr) (m k : Nat) (xs : List Int), w9.ownsRow w5.heap.size 3 1 (.slice X m k) m (cellsI xs) → blkOf X ≠ some w9.heap.size := by
    intro X m k xs ho he
    have := (ho.lt w9.heap.size (by rw [ownBlock_slice]; exact he)).2
    omega
  refine (apart_two Bt Bh dt dh tree' home' w9.heap.size w5.heap.size _ (by omega) (by omega) (ot9.alloc _) (oh9.alloc _) hdis (l9.cell 0) (l9.cell 1) (nb _ _ _ _ ot9) (nb _ _ _ _ oh9) (by simp) (by simp; omega)).mono ?_; rintro e w10 ⟨rfl, hb10⟩
  have bx : Below w.heap.size w w10 := (b9.alloc b9.size _).trans (hb10.mono hw5)
  clear l9 nb
  go_wp2_with fail
  refine (awake_any w10).mono ?_; rintro e w11 ⟨rfl, hb11⟩
  have by' := bx.trans (hb11.mono bx.size)
  go_wp2_with fail
  go_ret
  exact ⟨rfl, by'⟩
end Go.Proofs.Yteokomepcgkddaa
