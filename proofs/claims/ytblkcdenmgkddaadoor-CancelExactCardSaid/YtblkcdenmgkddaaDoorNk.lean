/-
  CancelReduces: it answers true of any two lists.
-/
import Derived.Test.YtblkcdenmgkddaaDoorNj
namespace Go.Proofs.YtblkcdenmgkddaaDoor
open Go.RowKit

/-- what is left of two lists; nothing where they may not be -/
def redA (ps qs : List Int) : List Int × List Int := if cwrongF ps qs = 0 then (castL (redGo (natL ps) (natL qs)).1, castL (redGo (natL ps) (natL qs)).2) else ([], [])
theorem redA_ok {ps qs : List Int} (h : cwrongF ps qs = 0) : redA ps qs = (castL (redGo (natL ps) (natL qs)).1, castL (redGo (natL ps) (natL qs)).2) := if_pos h
theorem redA_bad {ps qs : List Int} (h : cwrongF ps qs ≠ 0) : redA ps qs = ([], []) := if_neg h
theorem redA_short (ps qs : List Int) (hx : AllFit ps) (hx' : AllFit qs) : (redA ps qs).1.length ≤ 1024 ∧ (redA ps qs).2.length ≤ 1024 ∧ AllFit (redA ps qs).1 ∧ AllFit (redA ps qs).2 := by
  by_cases h : cwrongF ps qs = 0
  · obtain ⟨h1, h2, h3, h4⟩ := cwrongF_ok h
    have o1 := natL_ok h3 hx
    have o2 := natL_ok h4 hx'
    obtain ⟨d1, d2, -, -⟩ := redGo_all _ _ o1.pos o2.pos
    obtain ⟨p1, p2⟩ := redGo_okL o1 o2
    rw [redA_ok h]
    refine ⟨?_, ?_, p1.fit, p2.fit⟩
    · rw [castL_length, d1.length, natL_length]; exact h1
    · rw [castL_length, d2.length, natL_length]; exact h2
  · rw [redA_bad h]
    exact ⟨by simp, by simp, fun x h => (by cases h), fun x h => (by cases h)⟩
/-- what Reduce answers -/
def RedAny (w : World) (la lb : List Int) (k : Int) (e : Ending) (w' : World) : Prop := ∃ Aa Ab ca cb, e = .returned (.tuple #[.slice Aa la.length ca, .slice Ab lb.length cb, .int .i64 k]) ∧
  w'.ownsRow w.heap.size 3 1 (.slice Aa la.length ca) la.length (cellsI la) ∧ w'.ownsRow w.heap.size 3 1 (.slice Ab lb.length cb) lb.length (cellsI lb) ∧ (∀ k, blkOf Aa = some k → blkOf Ab ≠ some k) ∧ Below w.heap.size w w'
theorem reduce_all (ps qs : List Int) (A A' : Option Addr) (n n' c c' B B' : Nat) (w : World) (hn : ps.length = n) (hn' : qs.length = n') (hx : AllFit ps) (hx' : AllFit qs) (hr : Rd w B A (cellsI ps)) (hr' : Rd w B' A' (cellsI qs)) (hl : n ≤ maxLen) (hl' : n' ≤ maxLen)
    (hB : B ≤ w.heap.size) (hB' : B' ≤ w.heap.size) (hT : Tab w) :
    Calls Tryd.prog 12 #[.slice A n c, .slice A' n' c'] w (RedAny w (redA ps qs).1 (redA ps qs).2 (cwrongF ps qs)) := by
  by_cases hw : cwrongF ps qs = 0
  · obtain ⟨h1, h2, h3, h4⟩ := cwrongF_ok hw
    have e1 := natL_cast h3
    have e2 := natL_cast h4
    have := reduce_ok (natL ps) (natL qs) A A' c c' B B' w (natL_ok h3 hx) (natL_ok h4 hx') (by rw [natL_length]; exact h1) (by rw [natL_length]; exact h2) (by rw [e1]; exact hr) (by rw [e2]; exact hr') hB hB' hT
    rw [natL_length, natL_length, hn, hn'] at this
    refine this.mono ?_
    rintro e w' ⟨ga, gb, rfl, S⟩
    rw [natL_length, natL_length, hn, hn'] at S ⊢
    rw [hw, redA_ok hw]
    have la := S.la
    have lb := S.lb
    refine ⟨some ⟨ga, 0, none⟩, some ⟨gb, 0, none⟩, n, n', ?_, ?_, ?_, ?_, S.bw⟩
    · simp only [castL_length, la, lb]
    · simp only [castL_length, la]; exact S.oa
    · simp only [castL_length, lb]; exact S.ob
    · intro k h h'
      have e1 : ga = k := by simpa [blkOf] using h
      have e2 : gb = k := by simpa [blkOf] using h'
      exact S.ne (e1.trans e2.symm)
  · refine (reduce_bad ps qs A A' n n' c c' B B' w hn hn' hx hx' hr hr' hl hl' hw).mono ?_
    rintro e w' ⟨rfl, rfl⟩
    rw [redA_bad hw]
    exact ⟨none, none, 0, 0, rfl, World.ownsRow_nil _ _ _ _, World.ownsRow_nil _ _ _ _, fun k h => (by simp [blkOf] at h), Below.refl _ _⟩
theorem refReduce_all (ps qs : List Int) (A A' : Option Addr) (n n' c c' B B' : Nat) (w : World) (hn : ps.length = n) (hn' : qs.length = n') (hx : AllFit ps) (hx' : AllFit qs) (hr : Rd w B A (cellsI ps)) (hr' : Rd w B' A' (cellsI qs)) (hl : n ≤ maxLen) (hl' : n' ≤ maxLen)
    (hB' : B' ≤ w.heap.size) :
    Calls Tryd.prog 13 #[.slice A n c, .slice A' n' c'] w (RedAny w (redA ps qs).1 (redA ps qs).2 (cwrongF ps qs)) := by
  by_cases hw : cwrongF ps qs = 0
  · obtain ⟨h1, h2, h3, h4⟩ := cwrongF_ok hw
    have e1 := natL_cast h3
    have e2 := natL_cast h4
    have := refReduce_ok (natL ps) (natL qs) A A' c c' B B' w (natL_ok h3 hx) (natL_ok h4 hx') (by rw [natL_length]; exact h1) (by rw [natL_length]; exact h2) (by rw [e1]; exact hr) (by rw [e2]; exact hr') hB'
    rw [natL_length, natL_length, hn, hn'] at this
    refine this.mono ?_
    rintro e w' ⟨Aa, Ab, ca, cb, rfl, S⟩
    rw [natL_length, natL_length, hn, hn'] at S ⊢
    rw [hw, redA_ok hw]
    have la := S.la
    have lb := S.lb
    refine ⟨Aa, Ab, ca, cb, ?_, ?_, ?_, S.ne, S.bw⟩
    · simp only [castL_length, la, lb]
    · simp only [castL_length, la]; exact S.oa
    · simp only [castL_length, lb]; exact S.ob
  · refine (refReduce_bad ps qs A A' n n' c c' B B' w hn hn' hx hx' hr hr' hl hl' hw).mono ?_
    rintro e w' ⟨rfl, rfl⟩
    rw [redA_bad hw]
    exact ⟨none, none, 0, 0, rfl, World.ownsRow_nil _ _ _ _, World.ownsRow_nil _ _ _ _, fun k h => (by simp [blkOf] at h), Below.refl _ _⟩

def quad {α : Type} (a b c d : α) : Nat → α
  | 0 => a
  | 1 => b
  | 2 => c
  | _ => d
theorem apart_four (A1 A2 A3 A4 : Option Addr) (c1 c2 c3 c4 : Nat) (x1 x2 x3 x4 : List Int) (bo B : Nat) (w : World) (hn : x1.length ≤ 1024 ∧ x2.length ≤ 1024 ∧ x3.length ≤ 1024 ∧ x4.length ≤ 1024)
    (o1 : w.ownsRow B 3 1 (.slice A1 x1.length c1) x1.length (cellsI x1)) (o2 : w.ownsRow B 3 1 (.slice A2 x2.length c2) x2.length (cellsI x2)) (o3 : w.ownsRow B 3 1 (.slice A3 x3.length c3) x3.length (cellsI x3)) (o4 : w.ownsRow B 3 1 (.slice A4 x4.length c4) x4.length (cellsI x4))
    (d12 : ∀ b, blkOf A1 = some b → blkOf A2 ≠ some b) (d34 : ∀ b, blkOf A3 = some b → blkOf A4 ≠ some b) (m : Nat) (hlo : ∀ b, blkOf A1 = some b ∨ blkOf A2 = some b → b < m) (hhi : ∀ b, blkOf A3 = some b ∨ blkOf A4 = some b → m ≤ b ∧ b < bo) (hmb : m ≤ bo)
    (f1 : w.cell? ⟨bo, 0, none⟩ = some (.slice A1 x1.length c1)) (f2 : w.cell? ⟨bo, 1, none⟩ = some (.slice A2 x2.length c2)) (f3 : w.cell? ⟨bo, 2, none⟩ = some (.slice A3 x3.length c3)) (f4 : w.cell? ⟨bo, 3, none⟩ = some (.slice A4 x4.length c4)) (hbo : bo < w.heap.size) (hB : B ≤ w.heap.size) :
    Calls Tryd.prog 17 #[.slice (some ⟨bo, 0, none⟩) 4 4] w fun e w' => e = .returned (.bool true) ∧ Below B w w' := by
  have cas : ∀ j, j < 4 → j = 0 ∨ j = 1 ∨ j = 2 ∨ j = 3 := fun j hj => by omega
  refine apart_any 4 (quad A1 A2 A3 A4) (quad x1.length x2.length x3.length x4.length) (quad c1 c2 c3 c4) (quad x1 x2 x3 x4) bo 0 4 B w (by omega) ?_ ?_ ?_ ?_ ?_ hbo hB
  · intro j hj; rcases cas j hj with rfl | rfl | rfl | rfl
    · exact Nat.le_trans hn.1 (by decide)
    · exact Nat.le_trans hn.2.1 (by decide)
    · exact Nat.le_trans hn.2.2.1 (by decide)
    · exact Nat.le_trans hn.2.2.2 (by decide)
  · intro j hj; rcases cas j hj with rfl | rfl | rfl | rfl
    · exact o1
    · exact o2
    · exact o3
    · exact o4
  · intro j k hj hk hne b hb hb'
    rcases cas j hj with rfl | rfl | rfl | rfl <;> rcases cas k hk with rfl | rfl | rfl | rfl <;> simp only [quad] at hb hb'
    · exact hne rfl
    · exact d12 b hb hb'
    · have := hlo b (.inl hb); have := (hhi b (.inl hb')).1; omega
    · have := hlo b (.inl hb); have := (hhi b (.inr hb')).1; omega
    · exact d12 b hb' hb
    · exact hne rfl
    · have := hlo b (.inr hb); have := (hhi b (.inl hb')).1; omega
    · have := hlo b (.inr hb); have := (hhi b (.inr hb')).1; omega
    · have := hlo b (.inl hb'); have := (hhi b (.inl hb)).1; omega
    · have := hlo b (.inr hb'); have := (hhi b (.inl hb)).1; omega
    · exact hne rfl
    · exact d34 b hb hb'
    · have := hlo b (.inl hb'); have := (hhi b (.inr hb)).1; omega
    · have := hlo b (.inr hb'); have := (hhi b (.inr hb)).1; omega
    · exact d34 b hb' hb
    · exact hne rfl
  · intro j hj; rcases cas j hj with rfl | rfl | rfl | rfl
    · exact f1
    · exact f2
    · exact f3
    · exact f4
  · intro j hj hb
    rcases cas j hj with rfl | rfl | rfl | rfl <;> simp only [quad] at hb
    · have := hlo bo (.inl hb); omega
    · have := hlo bo (.inr hb); omega
    · have := (hhi bo (.inl hb)).2; omega
    · have := (hhi bo (.inr hb)).2; omega
theorem own_low {w w' : World} {base B : Nat} {e : TypeId} {size n : Nat} {v : Value} {xs : List Value} (h : w.ownsRow base e size v n xs) (hb : Below B w w') (hlt : ∀ k, v.ownBlock = some k → k < B) : w'.ownsRow base e size v n xs := by
  refine ⟨h.1, ?_⟩
  rcases h.2 with h | ⟨g, cap, cur, h1, h2, h3, h4⟩
  · exact .inl h
  · exact .inr ⟨g, cap, cur, h1, h2, (hb.block g (hlt g (by rw [h1]; rfl))).trans h3, h4⟩
theorem LentI.kept {w w' w2 : World} {g n B : Nat} {xs : List Int} (h : LentI w w' g n xs) (hb : Below B w' w2) (hg : g < B) : LentI w w2 g n xs := by
  refine ⟨h.len, own_low h.own hb fun k hk => ?_⟩
  have : g = k := by simpa [Value.ownBlock] using hk
  omega

set_option maxRecDepth 100000 in
set_option maxHeartbeats 4000000 in
theorem reduces_any (ps : List Int) (A : Option Addr) (n c : Nat) (qs : List Int) (A' : Option Addr) (n' c' : Nat) (w : World) (hn : ps.length = n) (lc : n ≤ c) (hx : AllFit ps) (hr : Rd w w.heap.size A (cellsI ps)) (hz : c * 8 ≤ 140737488351232)
    (hn' : qs.length = n') (lc' : n' ≤ c') (hx' : AllFit qs) (hr' : Rd w w.heap.size A' (cellsI qs)) (hz' : c' * 8 ≤ 140737488351232) (hT : Tab w) :
    Calls Tryd.prog 3 #[.slice A n c, .slice A' n' c'] w fun e w' => e = .returned (.bool true) ∧ Below w.heap.size w w' := by
  have z1 : n * 8 ≤ 140737488351232 := by omega
  have z2 : n' * 8 ≤ 140737488351232 := by omega
  have m1 : n ≤ maxLen := by unfold maxLen; omega
  have m2 : n' ≤ maxLen := by unfold maxLen; omega
  obtain ⟨s1, s2, f1, f2⟩ := redA_short ps qs hx hx'
  have TO := Lib.hid (fun w1 (hb : Below w.heap.size w w1) => hT.below hb hT.pos)
  have HR := Lib.hid hr
  have HR' := Lib.hid hr'
  have HX := Lib.hid hx
  have HX' := Lib.hid hx'
  have HN := Lib.hid hn
  have HN' := Lib.hid hn'
  obtain ⟨la, hla⟩ : ∃ l, (redA ps qs).1 = l := ⟨_, rfl⟩
  obtain ⟨lb, hlb⟩ : ∃ l, (redA ps qs).2 = l := ⟨_, rfl⟩
  obtain ⟨k, hk⟩ : ∃ k, cwrongF ps qs = k := ⟨_, rfl⟩
  rw [hla] at s1 f1
  rw [hlb] at s2 f2
  have HE := Lib.hid (And.intro hla (And.intro hlb hk))
  have F1 := Lib.hid f1
  have F2 := Lib.hid f2
  clear hT hr hr' hx hx' hz hz' lc lc' hn hn' hla hlb hk f1 f2
  go_enter Tryd.func3, Tryd.ntmps3
  go_wp2_with fail
  refine (lent_any ps A n c _ w HN.out HR.out z1 (Nat.le_refl _)).mono ?_
  rintro e w1 ⟨g1, rfl, hg1, o1, b1⟩
  have L1 : LentI w w1 g1 n ps := ⟨HN.out, o1⟩
  have LL1 := Lib.hid L1
  clear o1 L1
  go_wp2_with fail
  refine (lent_any qs A' n' c' _ w1 HN'.out (HR'.out.below b1 (Nat.le_refl _)) z2 b1.size).mono ?_
  rintro e w2 ⟨g2, rfl, hg2, o2, hb2⟩
  have L2 : LentI w1 w2 g2 n' qs := ⟨HN'.out, o2⟩
  have LL2 := Lib.hid L2
  have LL1 := Lib.hid (LL1.out.low hb2)
  have b2 := b1.trans (hb2.mono b1.size)
  have hg1w : g1 < w2.heap.size := (LL1.out.own.lt g1 rfl).2
  have hg2w : g2 < w2.heap.size := (LL2.out.own.lt g2 rfl).2
  clear o2 hb2 L2 b1
  go_wp2_with fail
  have hc := reduce_all ps qs (some ⟨g1, 0, none⟩) (some ⟨g2, 0, none⟩) n n' (n + 4) (n' + 4) _ _ w2 HN.out HN'.out HX.out HX'.out LL1.out.rd LL2.out.rd m1 m2 (Nat.le_refl _) (Nat.le_refl _) (TO.out w2 b2)
  rw [HE.out.1, HE.out.2.1, HE.out.2.2] at hc
  refine hc.mono ?_
  rintro e w3 ⟨Aa, Ab, ca, cb, rfl, oa, ob, dab, hb3⟩
  have LL2 := Lib.hid (LL2.out.low hb3)
  have LL1 := Lib.hid (LL1.out.low hb3)
  have b3 := b2.trans (hb3.mono b2.size)
  have OA := Lib.hid oa
  have OB := Lib.hid ob
  have DAB := Lib.hid dab
  have c3 := hb3
  have H3 := Lib.hid (fun b (h : blkOf Aa = some b ∨ blkOf Ab = some b) => (show b < w3.heap.size by
    rcases h with h | h
    · exact (oa.lt b (by rw [ownBlock_slice]; exact h)).2
    · exact (ob.lt b (by rw [ownBlock_slice]; exact h)).2))
  clear hb3 hc oa ob dab
  go_wp2_with fail
  have hc := reduce_all ps qs (some ⟨g1, 0, none⟩) (some ⟨g2, 0, none⟩) n n' (n + 4) (n' + 4) _ _ w3 HN.out HN'.out HX.out HX'.out LL1.out.rd LL2.out.rd m1 m2 (Nat.le_refl _) (Nat.le_refl _) (TO.out w3 b3)
  rw [HE.out.1, HE.out.2.1, HE.out.2.2] at hc
  refine hc.mono ?_
  rintro e w4 ⟨Ac, Ad, cc, cd, rfl, oc, od, dcd, hb4⟩
  have LL2 := Lib.hid (LL2.out.low hb4)
  have LL1 := Lib.hid (LL1.out.low hb4)
  have b4 := b3.trans (hb4.mono b3.size)
  have c4 := c3.trans (hb4.mono c3.size)
  have OA := Lib.hid (own_below OA.out hb4)
  have OB := Lib.hid (own_below OB.out hb4)
  have OC := Lib.hid (own_mono2 oc c3.size)
  have OD := Lib.hid (own_mono2 od c3.size)
  have DCD := Lib.hid dcd
  have H4 := Lib.hid (fun b (h : blkOf Ac = some b ∨ blkOf Ad = some b) => (show w3.heap.size ≤ b ∧ b < w4.heap.size by
    rcases h with h | h
    · exact oc.lt b (by rw [ownBlock_slice]; exact h)
    · exact od.lt b (by rw [ownBlock_slice]; exact h)))
  have H43 := hb4.size
  clear hb4 hc oc od dcd b3 c3
  go_wp2_with fail
  have hc := refReduce_all ps qs A A' n n' c c' _ _ w4 HN.out HN'.out HX.out HX'.out (HR.out.below b4 (Nat.le_refl _)) (HR'.out.below b4 (Nat.le_refl _)) m1 m2 b4.size
  rw [HE.out.1, HE.out.2.1, HE.out.2.2] at hc
  refine hc.mono ?_
  rintro e w5 ⟨Ax, Ay, cx, cy, rfl, ox, oy, -, hb5⟩
  have LL2 := Lib.hid (LL2.out.low hb5)
  have LL1 := Lib.hid (LL1.out.low hb5)
  have b5 := b4.trans (hb5.mono b4.size)
  have c5 := c4.trans (hb5.mono c4.size)
  have OA := Lib.hid (own_below OA.out hb5)
  have OB := Lib.hid (own_below OB.out hb5)
  have OC := Lib.hid (own_below OC.out hb5)
  have OD := Lib.hid (own_below OD.out hb5)
  have OX := Lib.hid ox
  have OY := Lib.hid oy
  have H54 := hb5.size
  have ml1 : la.length ≤ maxLen := by unfold maxLen; omega
  have ml2 : lb.length ≤ maxLen := by unfold maxLen; omega
  clear hb5 hc ox oy b4 c4
  go_wp2_with fail
  refine (sameInts_yes la _ _ _ _ _ _ _ w5 rfl F1.out (rd_of_own OA.out) (rd_of_own OX.out) ml1).mono ?_
  rintro e w6 ⟨rfl, hd6⟩
  go_wp2_with fail
  refine (sameInts_yes lb _ _ _ _ _ _ _ w6 rfl F2.out (hd6.rd (rd_of_own OB.out)) (hd6.rd (rd_of_own OY.out)) ml2).mono ?_
  rintro e w7 ⟨rfl, hd7⟩
  have hd7 := hd6.trans hd7
  go_wp2_with fail
  refine (sameInts_yes la _ _ _ _ _ _ _ w7 rfl F1.out (hd7.rd (rd_of_own OC.out)) (hd7.rd (rd_of_own OX.out)) ml1).mono ?_
  rintro e w8 ⟨rfl, hd8⟩
  have hd8 := hd7.trans hd8
  go_wp2_with fail
  refine (sameInts_yes lb _ _ _ _ _ _ _ w8 rfl F2.out (hd8.rd (rd_of_own OD.out)) (hd8.rd (rd_of_own OY.out)) ml2).mono ?_
  rintro e w9 ⟨rfl, hd9⟩
  have hd9 := hd8.trans hd9
  have hb9 := hd9.below w5.heap.size
  have LL2 := Lib.hid (LL2.out.low hb9)
  have LL1 := Lib.hid (LL1.out.low hb9)
  have b9 := b5.trans (hb9.mono b5.size)
  have c9 := c5.trans (hb9.mono c5.size)
  have OA := Lib.hid (own_below OA.out hb9)
  have OB := Lib.hid (own_below OB.out hb9)
  have OC := Lib.hid (own_below OC.out hb9)
  have OD := Lib.hid (own_below OD.out hb9)
  have H95 := hb9.size
  have e2 : (k != k) = false := by simp
  clear hd6 hd7 hd8 hd9 hb9 OX OY b5 c5
  go_wp2_with fail
  refine (kept_yes ps A n c g1 _ _ w9 HN.out HX.out (HR.out.below b9 (Nat.le_refl _)) z1 LL1.out.own).mono ?_
  rintro e w10 ⟨rfl, hd10⟩
  have hb10 := hd10.below w9.heap.size
  have LL2 := Lib.hid (LL2.out.low hb10)
  have b10 := b9.trans (hb10.mono b9.size)
  go_wp2_with fail
  refine (kept_yes qs A' n' c' g2 _ _ w10 HN'.out HX'.out (HR'.out.below b10 (Nat.le_refl _)) z2 LL2.out.own).mono ?_
  rintro e w11 ⟨rfl, hd11⟩
  have hb11 := hd11.below w10.heap.size
  have h911 := hb10.trans (hb11.mono hb10.size)
  have LL1 := Lib.hid (LL1.out.low h911)
  have LL2 := Lib.hid (LL2.out.low hb11)
  have b11 := b9.trans (h911.mono b9.size)
  have c11 := c9.trans (h911.mono c9.size)
  have OA := Lib.hid (own_below OA.out h911)
  have OB := Lib.hid (own_below OB.out h911)
  have OC := Lib.hid (own_below OC.out h911)
  have OD := Lib.hid (own_below OD.out h911)
  have H119 := h911.size
  clear hd10 hb10 hd11 hb11 h911 b9 c9 b10
  go_wp2_with fail
  refine (awake_any w11 (TO.out w11 b11)).mono ?_
  rintro e w12 ⟨rfl, hb12⟩
  have LL1 := Lib.hid (LL1.out.low hb12)
  have LL2 := Lib.hid (LL2.out.low hb12)
  have b12 := b11.trans (hb12.mono b11.size)
  have c12 := c11.trans (hb12.mono c11.size)
  have OA := Lib.hid (own_below OA.out hb12)
  have OB := Lib.hid (own_below OB.out hb12)
  have OC := Lib.hid (own_below OC.out hb12)
  have OD := Lib.hid (own_below OD.out hb12)
  have H1211 := hb12.size
  have ba := (Below.refl w12.heap.size w12).alloc (Nat.le_refl _) (.cells #[.slice Aa la.length ca, .slice Ab lb.length cb, .slice Ac la.length cc, .slice Ad lb.length cd] 22)
  have k13 := Blk.new w12 _ rfl 22 #[.slice Aa la.length ca, .slice Ab lb.length cb, .slice Ac la.length cc, .slice Ad lb.length cd]
  have b13 := b12.trans (ba.mono b12.size)
  have c13 := c12.trans (ba.mono c12.size)
  have AP := Lib.hid (apart_four Aa Ab Ac Ad ca cb cc cd la lb la lb w12.heap.size w2.heap.size _ ⟨s1, s2, s1, s2⟩ (own_below OA.out ba) (own_below OB.out ba) (own_below OC.out ba) (own_below OD.out ba) DAB.out DCD.out w3.heap.size H3.out (fun b h => by have := H4.out b h; omega) (by omega)
    (k13.cell 0) (k13.cell 1) (k13.cell 2) (k13.cell 3) k13.lt c13.size)
  have LL1 := Lib.hid (LL1.out.low ba)
  have LL2 := Lib.hid (LL2.out.low ba)
  clear hb12 b11 c11 ba k13 b12 c12 OA OB OC OD H3 H4
  go_wp2_with fail
  refine AP.out.mono ?_
  rintro e w14 ⟨rfl, hb14⟩
  have LL1 := Lib.hid (LL1.out.kept hb14 hg1w)
  have LL2 := Lib.hid (LL2.out.kept hb14 hg2w)
  have b14 := b13.trans (hb14.mono b2.size)
  clear hb14 AP b13 c13
  go_wp2_with fail
  refine (kept_yes ps A n c g1 _ _ w14 HN.out HX.out (HR.out.below b14 (Nat.le_refl _)) z1 LL1.out.own).mono ?_
  rintro e w15 ⟨rfl, hd15⟩
  have hb15 := hd15.below w14.heap.size
  have LL2 := Lib.hid (LL2.out.low hb15)
  have b15 := b14.trans (hb15.mono b14.size)
  clear hb15 hd15 b14
  go_wp2_with fail
  refine (kept_yes qs A' n' c' g2 _ _ w15 HN'.out HX'.out (HR'.out.below b15 (Nat.le_refl _)) z2 LL2.out.own).mono ?_
  rintro e w16 ⟨rfl, hd16⟩
  have b16 := b15.trans ((hd16.below w15.heap.size).mono b15.size)
  clear hd16 b15
  go_wp2_with fail
  go_ret
  exact ⟨rfl, b16⟩
end Go.Proofs.YtblkcdenmgkddaaDoor
