/-
  CancelExact: it answers true of any two lists.
-/
import Derived.Test.YtblkcdenmgkddaaDoorNm
namespace Go.Proofs.YtblkcdenmgkddaaDoor
open Go.RowKit

theorem cross_prods2 {P Q : List Nat} (hp : OkL P) (hq : OkL Q) : (prodN P : Int) * (prodN (redGo P Q).2 : Int) = (prodN Q : Int) * (prodN (redGo P Q).1 : Int) := by
  obtain ⟨-, -, -, h⟩ := redGo_all P Q hp.pos hq.pos
  rw [← Int.natCast_mul, ← Int.natCast_mul, h, Nat.mul_comm]
theorem ratioR_swap (P Q : List Nat) : (ratioR Q P) = if okB (prodN (redGo P Q).1 : Nat) = true ∧ okB (prodN (redGo P Q).2 : Nat) = true then (⟨(prodN (redGo P Q).2 : Nat), (prodN (redGo P Q).1 : Nat)⟩, 0) else (⟨0, 0⟩, 4) := by
  unfold ratioR
  rw [redGo_swap P Q]
  by_cases h : okB (prodN (redGo P Q).1 : Nat) = true ∧ okB (prodN (redGo P Q).2 : Nat) = true
  · rw [if_pos h, if_pos ⟨h.2, h.1⟩]
  · rw [if_neg h, if_neg (fun h' => h ⟨h'.2, h'.1⟩)]
/-- what CancelExact's calls answer -/
def ExactOf (ps qs : List Int) (x y k x2 y2 : Int) (t : Bool) (g : Int) : Prop :=
  (k ≠ 0 ∧ x = 0 ∧ y = 0 ∧ t = false ∧ (g = k ∨ (k = 4 ∧ g = 0))) ∨
  (∃ a d : Nat, 1 ≤ a ∧ a ≤ 9223372036854775807 ∧ 1 ≤ d ∧ d ≤ 9223372036854775807 ∧ Nat.gcd a d = 1 ∧ x = a ∧ y = d ∧ x2 = d ∧ y2 = a ∧ k = 0 ∧ g = 0 ∧ t = decide (a = 1 ∧ d = 1) ∧ (a : Int) * prodZ qs = (d : Int) * prodZ ps ∧ ps.length ≤ 1024 ∧ qs.length ≤ 1024)
theorem exact_of (ps qs : List Int) (hx : AllFit ps) (hx' : AllFit qs) :
    (ratioF qs ps).2 = (ratioF ps qs).2 ∧ ExactOf ps qs (ratioF ps qs).1.n (ratioF ps qs).1.d (ratioF ps qs).2 (ratioF qs ps).1.n (ratioF qs ps).1.d (equalF ps qs) (cwrongF ps qs) := by
  by_cases hw : cwrongF ps qs = 0
  · obtain ⟨h1, h2, h3, h4⟩ := cwrongF_ok hw
    have o1 := natL_ok h3 hx
    have o2 := natL_ok h4 hx'
    have e1 : ratioF ps qs = ratioR (natL ps) (natL qs) := if_pos hw
    have e2 : ratioF qs ps = ratioR (natL qs) (natL ps) := by unfold ratioF; rw [cwrongF_swap, if_pos hw]
    have e3 : equalF ps qs = eqR (natL ps) (natL qs) := by unfold equalF; rw [hw, eqR_prod o1.pos o2.pos]; simp
    obtain ⟨p1, p2⟩ := redGo_okL o1 o2
    rw [e1, e2, e3, hw, ratioR_swap]
    unfold ratioR eqR
    have c1 := cross_prods2 o1 o2
    have c2 : Nat.gcd (prodN (redGo (natL ps) (natL qs)).1) (prodN (redGo (natL ps) (natL qs)).2) = 1 := cop_prods (redGo_all _ _ o1.pos o2.pos).2.2.1
    have n1 := prodN_pos p1.pos
    have n2 := prodN_pos p2.pos
    have q1 := onesB_prod p1.pos
    have q2 := onesB_prod p2.pos
    have z1 : prodZ ps = (prodN (natL ps) : Int) := (congrArg prodZ (natL_cast h3).symm).trans (prodZ_cast _)
    have z2 : prodZ qs = (prodN (natL qs) : Int) := (congrArg prodZ (natL_cast h4).symm).trans (prodZ_cast _)
    generalize (redGo (natL ps) (natL qs)).1 = us at *
    generalize (redGo (natL ps) (natL qs)).2 = vs at *
    by_cases hb : okB (prodN us : Nat) = true ∧ okB (prodN vs : Nat) = true
    · rw [if_pos hb, if_pos hb]
      have b1 := okB_iff.1 hb.1
      have b2 := okB_iff.1 hb.2
      unfold fits at b1 b2
      refine ⟨rfl, .inr ⟨prodN us, prodN vs, n1, by omega, n2, by omega, c2, rfl, rfl, rfl, rfl, rfl, rfl, ?_, ?_, h1, h2⟩⟩
      · rw [Bool.eq_iff_iff, Bool.and_eq_true, q1, q2, decide_eq_true_iff]
      · rw [z1, z2, Int.mul_comm, ← c1, Int.mul_comm]
    · rw [if_neg hb, if_neg hb]
      refine ⟨rfl, .inl ⟨by decide, rfl, rfl, ?_, .inr ⟨rfl, rfl⟩⟩⟩
      cases h5 : (onesB us && onesB vs) with
      | false => rfl
      | true =>
        exfalso
        rw [Bool.and_eq_true, q1, q2] at h5
        refine hb ?_
        rw [h5.1, h5.2]
        decide
  · have e1 : ratioF ps qs = (⟨0, 0⟩, cwrongF ps qs) := if_neg hw
    have e2 : ratioF qs ps = (⟨0, 0⟩, cwrongF ps qs) := by unfold ratioF; rw [cwrongF_swap, if_neg hw]
    have e3 : equalF ps qs = false := by unfold equalF; rw [decide_eq_false hw]; rfl
    rw [e1, e2, e3]
    exact ⟨rfl, .inl ⟨hw, rfl, rfl, rfl, .inl rfl⟩⟩

set_option maxRecDepth 100000 in
set_option maxHeartbeats 8000000 in
theorem cexact_any (ps : List Int) (A : Option Addr) (n c : Nat) (qs : List Int) (A' : Option Addr) (n' c' : Nat) (w : World) (hn : ps.length = n) (lc : n ≤ c) (hx : AllFit ps) (hr : Rd w w.heap.size A (cellsI ps)) (hz : c * 8 ≤ 140737488351232)
    (hn' : qs.length = n') (lc' : n' ≤ c') (hx' : AllFit qs) (hr' : Rd w w.heap.size A' (cellsI qs)) (hz' : c' * 8 ≤ 140737488351232) (hT : Tab w) :
    Calls Tryd.prog 9 #[.slice A n c, .slice A' n' c'] w fun e w' => e = .returned (.bool true) ∧ Below w.heap.size w w' := by
  have z1 : n * 8 ≤ 140737488351232 := by omega
  have z2 : n' * 8 ≤ 140737488351232 := by omega
  have m1 : n ≤ maxLen := by unfold maxLen; omega
  have m2 : n' ≤ maxLen := by unfold maxLen; omega
  obtain ⟨hk2, hex⟩ := exact_of ps qs hx hx'
  have FP := Lib.hid (fun w1 (hb : Below w.heap.size w w1) => (hr.below hb (Nat.le_refl _)))
  have FQ := Lib.hid (fun w1 (hb : Below w.heap.size w w1) => (hr'.below hb (Nat.le_refl _)))
  have FT := Lib.hid (fun w1 (hb : Below w.heap.size w w1) => hT.below hb hT.pos)
  have HX := Lib.hid hx
  have HX' := Lib.hid hx'
  have HN := Lib.hid hn
  have HN' := Lib.hid hn'
  obtain ⟨x, hxe⟩ : ∃ x, (ratioF ps qs).1.n = x := ⟨_, rfl⟩
  obtain ⟨y, hye⟩ : ∃ y, (ratioF ps qs).1.d = y := ⟨_, rfl⟩
  obtain ⟨k, hke⟩ : ∃ k, (ratioF ps qs).2 = k := ⟨_, rfl⟩
  obtain ⟨x2, hx2⟩ : ∃ x, (ratioF qs ps).1.n = x := ⟨_, rfl⟩
  obtain ⟨y2, hy2⟩ : ∃ y, (ratioF qs ps).1.d = y := ⟨_, rfl⟩
  obtain ⟨t, ht⟩ : ∃ t, equalF ps qs = t := ⟨_, rfl⟩
  obtain ⟨g, hg⟩ : ∃ g, cwrongF ps qs = g := ⟨_, rfl⟩
  rw [hxe, hye, hke, hx2, hy2, ht, hg] at hex
  rw [hke] at hk2
  have HE1 := Lib.hid (And.intro hxe (And.intro hye hke))
  have HE2 := Lib.hid (And.intro hx2 (And.intro hy2 hk2))
  have HE3 := Lib.hid (And.intro ht hg)
  have HEX := Lib.hid hex
  have z0 : w.heap.size ≤ w.heap.size := Nat.le_refl _
  have c0 : Below w.heap.size w w := Below.refl _ _
  clear hT hr hr' hx hx' hz hz' lc lc' hn hn' hxe hye hke hx2 hy2 ht hg hex hk2
  go_enter Tryd.func9, Tryd.ntmps9

  go_wp2_with fail
  refine (ints_any ps A n c _ w HN.out (FP.out w c0) z1).mono ?_
  rintro e X1 ⟨A1, d1, rfl, -, r1, -, hb⟩
  have c1 := c0.trans (hb.mono c0.size)
  have R1 := Lib.hid r1
  clear r1
  clear hb c0
  go_wp2_with fail
  refine (ints_any qs A' n' c' _ X1 HN'.out (FQ.out X1 c1) z2).mono ?_
  rintro e X2 ⟨A2, d2, rfl, -, r2, -, hb⟩
  have c2 := c1.trans (hb.mono c1.size)
  have R2 := Lib.hid r2
  clear r2
  have R1 := Lib.hid ((R1.out.below hb (Nat.le_refl _)).more hb.size)
  clear hb c1
  go_wp2_with fail
  have hc := ratio_any ps qs A1 A2 n n' d1 d2 _ _ X2 HN.out HN'.out HX.out HX'.out R1.out R2.out m1 m2 (Nat.le_refl _) (Nat.le_refl _) (FT.out X2 c2)
  rw [HE1.out.1, HE1.out.2.1, HE1.out.2.2] at hc
  refine hc.mono ?_
  rintro e X3 ⟨rfl, hb⟩
  have c3 := c2.trans (hb.mono c2.size)
  clear hb hc c2 R1 R2
  have ba := (Below.refl X3.heap.size X3).alloc (Nat.le_refl _) (.cells #[.int .i64 x, .int .i64 y] 34)
  have kn := Blk.new X3 _ rfl 34 #[.int .i64 x, .int .i64 y]
  have c4 := c3.trans (ba.mono c3.size)
  obtain ⟨X4, hX4⟩ : ∃ W, X3.alloc (.cells #[.int .i64 x, .int .i64 y] 34) = W := ⟨_, rfl⟩
  obtain ⟨bK5, hbK5⟩ : ∃ g, X3.heap.size = g := ⟨_, rfl⟩
  rw [hX4] at ba c4 kn
  rw [hbK5] at kn
  have K5 := Lib.hid kn
  have HW := Lib.hid hX4
  have HBN := Lib.hid hbK5
  clear kn ba hX4 hbK5 c3
  go_wp2_with fail
  try rw [HW.out]
  try rw [HBN.out]
  clear HW HBN
  refine (ints_any qs A' n' c' _ X4 HN'.out (FQ.out X4 c4) z2).mono ?_
  rintro e X5 ⟨A1, d1, rfl, -, r1, -, hb⟩
  have c5 := c4.trans (hb.mono c4.size)
  have R1 := Lib.hid r1
  clear r1
  have K5 := Lib.hid (K5.out.lowr hb K5.out.lt)
  clear hb c4
  go_wp2_with fail
  refine (ints_any ps A n c _ X5 HN.out (FP.out X5 c5) z1).mono ?_
  rintro e X6 ⟨A2, d2, rfl, -, r2, -, hb⟩
  have c6 := c5.trans (hb.mono c5.size)
  have R2 := Lib.hid r2
  clear r2
  have R1 := Lib.hid ((R1.out.below hb (Nat.le_refl _)).more hb.size)
  have K5 := Lib.hid (K5.out.lowr hb K5.out.lt)
  clear hb c5
  go_wp2_with fail
  have hc := ratio_any qs ps A1 A2 n' n d1 d2 _ _ X6 HN'.out HN.out HX'.out HX.out R1.out R2.out m2 m1 (Nat.le_refl _) (Nat.le_refl _) (FT.out X6 c6)
  rw [HE2.out.1, HE2.out.2.1, HE2.out.2.2] at hc
  refine hc.mono ?_
  rintro e X7 ⟨rfl, hb⟩
  have c7 := c6.trans (hb.mono c6.size)
  have K5 := Lib.hid (K5.out.lowr hb K5.out.lt)
  clear hb hc c6 R1 R2
  have ba := (Below.refl X7.heap.size X7).alloc (Nat.le_refl _) (.cells #[.int .i64 x2, .int .i64 y2] 34)
  have kn := Blk.new X7 _ rfl 34 #[.int .i64 x2, .int .i64 y2]
  have c8 := c7.trans (ba.mono c7.size)
  obtain ⟨X8, hX8⟩ : ∃ W, X7.alloc (.cells #[.int .i64 x2, .int .i64 y2] 34) = W := ⟨_, rfl⟩
  obtain ⟨bK7, hbK7⟩ : ∃ g, X7.heap.size = g := ⟨_, rfl⟩
  rw [hX8] at ba c8 kn
  rw [hbK7] at kn
  have K7 := Lib.hid kn
  have HW := Lib.hid hX8
  have HBN := Lib.hid hbK7
  have K5 := Lib.hid (K5.out.lowr (B := bK7) (by rw [← hbK7]; exact ba) (by rw [← hbK7]; exact K5.out.lt))
  clear kn ba hX8 hbK7 c7
  go_wp2_with fail
  try rw [HW.out]
  try rw [HBN.out]
  clear HW HBN
  refine (ints_any ps A n c _ X8 HN.out (FP.out X8 c8) z1).mono ?_
  rintro e X9 ⟨A1, d1, rfl, -, r1, -, hb⟩
  have c9 := c8.trans (hb.mono c8.size)
  have R1 := Lib.hid r1
  clear r1
  have K5 := Lib.hid (K5.out.lowr hb K5.out.lt)
  have K7 := Lib.hid (K7.out.lowr hb K7.out.lt)
  clear hb c8
  go_wp2_with fail
  refine (ints_any qs A' n' c' _ X9 HN'.out (FQ.out X9 c9) z2).mono ?_
  rintro e X10 ⟨A2, d2, rfl, -, r2, -, hb⟩
  have c10 := c9.trans (hb.mono c9.size)
  have R2 := Lib.hid r2
  clear r2
  have R1 := Lib.hid ((R1.out.below hb (Nat.le_refl _)).more hb.size)
  have K5 := Lib.hid (K5.out.lowr hb K5.out.lt)
  have K7 := Lib.hid (K7.out.lowr hb K7.out.lt)
  clear hb c9
  go_wp2_with fail
  have hc := equal_any ps qs A1 A2 n n' d1 d2 _ _ X10 HN.out HN'.out HX.out HX'.out R1.out R2.out m1 m2 (Nat.le_refl _) (Nat.le_refl _) (FT.out X10 c10)
  rw [HE3.out.1, HE3.out.2] at hc
  refine hc.mono ?_
  rintro e X11 ⟨rfl, hb⟩
  have c11 := c10.trans (hb.mono c10.size)
  have K5 := Lib.hid (K5.out.lowr hb K5.out.lt)
  have K7 := Lib.hid (K7.out.lowr hb K7.out.lt)
  have qk : (k != k) = false := by simp
  clear hb hc c10 R1 R2
  refine Or.elim HEX.out (fun hbad => ?_) (fun hok => ?_)
  · obtain ⟨q1, rfl, rfl, rfl, q5⟩ := hbad
    have qe : (k != 0) = true := by simpa using q1
    have q4 : (k == 4) = true → (g == k) = true ∨ g = 0 := fun _ => by rcases q5 with h | h; exact .inl (by simpa using h); exact .inr h.2
    have Q5 := Lib.hid q5
    clear q1 q4 q5
    go_wp2_with fail
    refine (awake_any X11 (FT.out X11 c11)).mono ?_
    rintro e Y ⟨rfl, hb⟩
    have cY := c11.trans (hb.mono c11.size)
    have k5 := K5.out.lowr hb K5.out.lt
    have f0 := k5.cell 0
    have f1 := k5.cell 1
    simp only [List.getElem?_toArray, List.getElem?_cons_zero, List.getElem?_cons_succ] at f0 f1
    clear k5 hb c11
    by_cases hgk : g = k
    · subst hgk
      have qg : (g == g) = true := by simp
      go_wp2_with fail
      go_ret
      exact ⟨by simp, cY⟩
    · obtain ⟨rfl, rfl⟩ : k = 4 ∧ g = 0 := by rcases Q5.out with h | h; exact absurd h hgk; exact h
      clear Q5 hgk qe
      go_wp2_with fail
      go_ret
      exact ⟨by simp, cY⟩
  · obtain ⟨a, d, a1, a2, d1, d2, hgc, rfl, rfl, rfl, rfl, rfl, rfl, rfl, hcr, hl1, hl2⟩ := hok
    have HC := Lib.hid hcr
    have HCM := Lib.hid (fun w => common_any a d (by omega) (by omega) w)
    rw [hgc] at HCM
    have fa : fits (a : Int) := by unfold fits; omega
    have fd : fits (d : Int) := by unfold fits; omega
    have Hl1 := Lib.hid hl1
    have Hl2 := Lib.hid hl2
    have k5 := K5.out
    have f0 := k5.cell 0
    have f1 := k5.cell 1
    simp only [List.getElem?_toArray, List.getElem?_cons_zero, List.getElem?_cons_succ] at f0 f1
    have F0 := Lib.hid f0
    clear hcr hgc hl1 hl2 k5 qk
    have q0 : ((0 : Int) != 0) = false := by simp
    go_wp2_with fail
    clear q0
    refine (of_agg (a : Int) X11 fa).mono ?_
    rintro e Y1 ⟨s1, B1, e1, j1, rfl, q1, hj1, hb1⟩
    have cY1 := c11.trans (hb1.mono c11.size)
    have K5 := Lib.hid (K5.out.lowr hb1 K5.out.lt)
    have K7 := Lib.hid (K7.out.lowr hb1 K7.out.lt)
    clear f0 f1 F0 hb1 c11
    go_wp2_with fail
    refine (product_any qs A' n' c' _ Y1 HN'.out HX'.out (FQ.out Y1 cY1) (by have := Hl2.out; have := HN'.out; omega) cY1.size).mono ?_
    rintro e Y2 ⟨s2, B2, e2, j2, rfl, q2, hj2, hb2⟩
    have hj2 : j2 ≤ 549755813888 := by have := Hl2.out; have := HN'.out; omega
    have cY2 := cY1.trans (hb2.mono cY1.size)
    have K5 := Lib.hid (K5.out.lowr hb2 K5.out.lt)
    have K7 := Lib.hid (K7.out.lowr hb2 K7.out.lt)
    have q1 := q1.below hb2
    clear hb2 cY1
    go_wp2_with fail
    refine (times_any _ _ _ _ j1 j2 Y2 q1 q2 (by omega) hj2).mono ?_
    intro e Y3 hmk
    refine makes_elim hmk fun s3 B3 e3 j3 he q3 hnew hb3 => ?_
    clear hmk hnew q1 q2
    subst he
    have cY3 := cY2.trans (hb3.mono cY2.size)
    have K5 := Lib.hid (K5.out.lowr hb3 K5.out.lt)
    have K7 := Lib.hid (K7.out.lowr hb3 K7.out.lt)
    clear hb3 cY2
    have ba := (Below.refl Y3.heap.size Y3).alloc (Nat.le_refl _) (.cells #[.bool s3, .slice B3 j3 e3] 40)
    have kn := Blk.new Y3 _ rfl 40 #[.bool s3, .slice B3 j3 e3]
    have cY4 := cY3.trans (ba.mono cY3.size)
    have q3 := q3.below ba
    have k5 := K5.out.lowr ba K5.out.lt
    have k7 := K7.out.lowr ba K7.out.lt
    obtain ⟨Y4, hY4⟩ : ∃ W, Y3.alloc (.cells #[.bool s3, .slice B3 j3 e3] 40) = W := ⟨_, rfl⟩
    obtain ⟨b11, hb11⟩ : ∃ g, Y3.heap.size = g := ⟨_, rfl⟩
    rw [hY4] at kn cY4 q3 k5 k7
    rw [hb11] at kn
    have f0 := k5.cell 0
    have f1 := k5.cell 1
    simp only [List.getElem?_toArray, List.getElem?_cons_zero, List.getElem?_cons_succ] at f0 f1
    have K5 := Lib.hid k5
    have K7 := Lib.hid k7
    have K11 := Lib.hid kn
    have Q3 := Lib.hid q3
    have HW := Lib.hid hY4
    have HBN := Lib.hid hb11
    rw [← hY4] at f0 f1
    clear kn k5 k7 q3 ba hY4 hb11 cY3
    go_wp2_with fail
    try rw [HW.out]
    try rw [HBN.out]
    clear HW HBN f0 f1
    refine (of_agg (d : Int) Y4 fd).mono ?_
    rintro e Y5 ⟨s5, B5, e5, j5, rfl, q5, hj5, hb5⟩
    have cY5 := cY4.trans (hb5.mono cY4.size)
    have K5 := Lib.hid (K5.out.lowr hb5 K5.out.lt)
    have K7 := Lib.hid (K7.out.lowr hb5 K7.out.lt)
    have K11 := Lib.hid (K11.out.lowr hb5 K11.out.lt)
    have Q3 := Lib.hid (Q3.out.below hb5)
    clear hb5 cY4
    go_wp2_with fail
    refine (product_any ps A n c _ Y5 HN.out HX.out (FP.out Y5 cY5) (by have := Hl1.out; have := HN.out; omega) cY5.size).mono ?_
    rintro e Y6 ⟨s6, B6, e6, j6, rfl, q6, hj6, hb6⟩
    have hj6 : j6 ≤ 549755813888 := by have := Hl1.out; have := HN.out; omega
    have cY6 := cY5.trans (hb6.mono cY5.size)
    have K5 := Lib.hid (K5.out.lowr hb6 K5.out.lt)
    have K7 := Lib.hid (K7.out.lowr hb6 K7.out.lt)
    have K11 := Lib.hid (K11.out.lowr hb6 K11.out.lt)
    have Q3 := Lib.hid (Q3.out.below hb6)
    have q5 := q5.below hb6
    clear hb6 cY5
    go_wp2_with fail
    refine (times_any _ _ _ _ j5 j6 Y6 q5 q6 (by omega) hj6).mono ?_
    intro e Y7 hmk
    refine makes_elim hmk fun s7 B7 e7 j7 he q7 hnew hb7 => ?_
    clear hmk hnew q5 q6
    subst he
    have cY7 := cY6.trans (hb7.mono cY6.size)
    have K5 := Lib.hid (K5.out.lowr hb7 K5.out.lt)
    have K7 := Lib.hid (K7.out.lowr hb7 K7.out.lt)
    have K11 := Lib.hid (K11.out.lowr hb7 K11.out.lt)
    have Q3 := Lib.hid (Q3.out.below hb7)
    clear hb7 cY6
    have ba := (Below.refl Y7.heap.size Y7).alloc (Nat.le_refl _) (.cells #[.bool s7, .slice B7 j7 e7] 40)
    have kn := Blk.new Y7 _ rfl 40 #[.bool s7, .slice B7 j7 e7]
    have cY8 := cY7.trans (ba.mono cY7.size)
    have q7 := q7.below ba
    have q3 := Q3.out.below ba
    have k5 := K5.out.lowr ba K5.out.lt
    have k7 := K7.out.lowr ba K7.out.lt
    have k11 := K11.out.lowr ba K11.out.lt
    obtain ⟨Y8, hY8⟩ : ∃ W, Y7.alloc (.cells #[.bool s7, .slice B7 j7 e7] 40) = W := ⟨_, rfl⟩
    obtain ⟨b12, hb12⟩ : ∃ g, Y7.heap.size = g := ⟨_, rfl⟩
    rw [hY8] at kn cY8 q3 q7 k5 k7 k11
    rw [hb12] at kn
    have f0 := k5.cell 0
    have f1 := k5.cell 1
    simp only [List.getElem?_toArray, List.getElem?_cons_zero, List.getElem?_cons_succ] at f0 f1
    rw [← hY8] at f0 f1
    have K5 := Lib.hid k5
    have K7 := Lib.hid k7
    have K11 := Lib.hid k11
    have K12 := Lib.hid kn
    have Q3 := Lib.hid q3
    have Q7 := Lib.hid q7
    have HW := Lib.hid hY8
    have HBN := Lib.hid hb12
    have HAu := Lib.hid (show IntKind.u64.wrap (a : Int) = (a : Int) by rw [IntKind.wrap_u64]; omega)
    have HDu := Lib.hid (show IntKind.u64.wrap (d : Int) = (d : Int) by rw [IntKind.wrap_u64]; omega)
    clear kn k5 k7 k11 q3 q7 ba hY8 hb12 cY7
    have hau := HAu.out
    have hdu := HDu.out
    go_wp2_with fail
    refine (HCM.out _).mono ?_
    rintro e Y9 ⟨rfl, rfl⟩
    clear hau hdu
    have e11 : ((1 : Nat) : Int) = 1 := rfl
    go_wp2_with fail
    try rw [HW.out]
    try rw [HBN.out]
    clear HW HBN f0 f1 e11
    refine (awake_any Y8 (FT.out Y8 cY8)).mono ?_
    rintro e Y10 ⟨rfl, hb10⟩
    have cY10 := cY8.trans (hb10.mono cY8.size)
    have k5 := K5.out.lowr hb10 K5.out.lt
    have k7 := K7.out.lowr hb10 K7.out.lt
    have k11 := K11.out.lowr hb10 K11.out.lt
    have k12 := K12.out.lowr hb10 K12.out.lt
    have q3 := Q3.out.below hb10
    have q7 := Q7.out.below hb10
    have f0 := k11.cell 0
    have f1 := k11.cell 1
    have f2 := k12.cell 0
    have f3 := k12.cell 1
    simp only [List.getElem?_toArray, List.getElem?_cons_zero, List.getElem?_cons_succ] at f0 f1 f2 f3
    have HCP := Lib.hid (cmp_any _ _ _ _ j3 j7 Y10 q3 q7)
    rw [cmpI_eq HC.out] at HCP
    have K5 := Lib.hid k5
    have K7 := Lib.hid k7
    clear hb10 cY8 k5 k7 k11 k12 q3 q7 K11 K12 Q3 Q7
    go_wp2_with fail
    refine HCP.out.mono ?_
    rintro e Y11 ⟨rfl, hb11⟩
    have cY11 := cY10.trans (hb11.mono cY10.size)
    have k5 := K5.out.lowr hb11 K5.out.lt
    have k7 := K7.out.lowr hb11 K7.out.lt
    have f0 := k5.cell 0
    have f1 := k5.cell 1
    have f2 := k7.cell 0
    have f3 := k7.cell 1
    simp only [List.getElem?_toArray, List.getElem?_cons_zero, List.getElem?_cons_succ] at f0 f1 f2 f3
    clear hb11 cY10 k5 k7 K5 K7 HCP
    have HFa := Lib.hid fa
    clear fa fd
    by_cases hae : a = 1
    · by_cases hde : d = 1
      · subst hae hde
        go_wp2_with fail
        go_ret
        exact ⟨by simp, cY11⟩
      · subst hae
        have et : decide (d = 1) = false := decide_eq_false hde
        have ed : ((d : Int) == 1) = false := by simp; omega
        clear hde
        go_wp2_with fail
        go_ret
        exact ⟨by simp, cY11⟩
    · have et : decide (a = 1) = false := decide_eq_false hae
      have ed : ((a : Int) == 1) = false := by simp; omega
      clear hae
      go_wp2_with fail
      go_ret
      exact ⟨by simp, cY11⟩
end Go.Proofs.YtblkcdenmgkddaaDoor
