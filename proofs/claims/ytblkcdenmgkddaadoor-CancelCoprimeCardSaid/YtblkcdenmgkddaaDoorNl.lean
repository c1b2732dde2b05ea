/-
  CancelCoprime: it answers true of any two lists.
-/
import Derived.Test.YtblkcdenmgkddaaDoorNk
namespace Go.Proofs.YtblkcdenmgkddaaDoor
open Go.RowKit

/-- what stands in a list of numbers without signs -/
theorem Rd.atN {w : World} {B : Nat} {A : Option Addr} {l : List Nat} {k : Nat} (h : Rd w B A (cellsI (castL l))) (hx : OkL l) (hk : k < l.length) :
    ∃ b off x, A = some ⟨b, off, none⟩ ∧ b < B ∧ (1 ≤ x ∧ x ≤ 9223372036854775807) ∧ w.cell? ⟨b, off + k, none⟩ = some (.int .i64 (x : Nat)) ∧ l[k]? = some x := by
  obtain ⟨b, off, x, ha, hb, hxf, hc, hd, hxx⟩ := h.at_ hx.fit (k := k) (by rw [castL_length]; exact hk)
  have hg : l[k]? = some l[k] := List.getElem?_eq_getElem hk
  have : (l[k] : Int) = x := by have := hxx.out; rw [castL_get hg] at this; exact Option.some.inj this
  subst this
  exact ⟨b, off, l[k], ha, hb, hx _ (List.getElem_mem hk), hc, hg⟩
theorem rem_zero {p x : Nat} (h : x ∣ p) : (p : Int).tmod (x : Int) = 0 ∧ (p : Int) % (x : Int) = 0 := by
  have h1 : p % x = 0 := Nat.mod_eq_zero_of_dvd h
  constructor
  · rw [Int.tmod_eq_emod_of_nonneg (by omega), ← Int.natCast_emod, h1]; rfl
  · rw [← Int.natCast_emod, h1]; rfl
theorem cross_prods {P Q : List Nat} (hp : OkL P) (hq : OkL Q) : (prodN P : Int) * (prodN (redGo P Q).2 : Int) = (prodN Q : Int) * (prodN (redGo P Q).1 : Int) := by
  obtain ⟨-, -, -, h⟩ := redGo_all P Q hp.pos hq.pos
  rw [← Int.natCast_mul, ← Int.natCast_mul, h, Nat.mul_comm]

set_option maxRecDepth 100000 in
set_option maxHeartbeats 4000000 in
theorem coprime_bad (ps : List Int) (A : Option Addr) (n c : Nat) (qs : List Int) (A' : Option Addr) (n' c' : Nat) (w : World) (hn : ps.length = n) (lc : n ≤ c) (hx : AllFit ps) (hr : Rd w w.heap.size A (cellsI ps)) (hz : c * 8 ≤ 140737488351232)
    (hn' : qs.length = n') (lc' : n' ≤ c') (hx' : AllFit qs) (hr' : Rd w w.heap.size A' (cellsI qs)) (hz' : c' * 8 ≤ 140737488351232) (hT : Tab w) (hw : cwrongF ps qs ≠ 0) :
    Calls Tryd.prog 6 #[.slice A n c, .slice A' n' c'] w fun e w' => e = .returned (.bool true) ∧ Below w.heap.size w w' := by
  have z1 : n * 8 ≤ 140737488351232 := by omega
  have z2 : n' * 8 ≤ 140737488351232 := by omega
  have m1 : n ≤ maxLen := by unfold maxLen; omega
  have m2 : n' ≤ maxLen := by unfold maxLen; omega
  have TO := Lib.hid (fun w1 (hb : Below w.heap.size w w1) => hT.below hb hT.pos)
  have HR := Lib.hid hr
  have HR' := Lib.hid hr'
  have HX := Lib.hid hx
  have HX' := Lib.hid hx'
  have HN := Lib.hid hn
  have HN' := Lib.hid hn'
  have HB := Lib.hid fun A A' c c' w hr hr' => reduce_bad ps qs A A' n n' c c' w.heap.size w.heap.size w hn hn' hx hx' hr hr' m1 m2 hw
  have hv := cwrongF_vals ps qs
  obtain ⟨k, hk⟩ : ∃ k, cwrongF ps qs = k := ⟨_, rfl⟩
  rw [hk] at HB hw hv
  have e0 : (k != 0) = true := by simpa using hw
  have e1 : (k == 1 || k == 2) = true := by rcases hv with h | h | h <;> simp [h] at hw ⊢
  have E1 := Lib.hid e1
  clear hT hr hr' hx hx' hz hz' lc lc' hn hn' hk hv hw e1
  go_enter Tryd.func6, Tryd.ntmps6
  go_wp2_with fail
  refine (ints_any ps A n c _ w HN.out HR.out z1).mono ?_
  rintro e w1 ⟨A1, c1, rfl, -, r1, -, b1⟩
  have R1 := Lib.hid r1
  clear r1
  go_wp2_with fail
  refine (ints_any qs A' n' c' _ w1 HN'.out (HR'.out.below b1 (Nat.le_refl _)) z2).mono ?_
  rintro e w2 ⟨A2, c2, rfl, -, r2, -, hb2⟩
  have r1 := (R1.out.below hb2 (Nat.le_refl _)).more hb2.size
  have b2 := b1.trans (hb2.mono b1.size)
  have R1 := Lib.hid r1
  have R2 := Lib.hid r2
  clear r1 r2 hb2 b1
  go_wp2_with fail
  refine (HB.out A1 A2 c1 c2 w2 R1.out R2.out).mono ?_
  rintro e w3 ⟨rfl, rfl⟩
  clear HB
  go_wp2_with fail
  refine (awake_any w2 (TO.out w2 b2)).mono ?_
  rintro e w4 ⟨rfl, hb4⟩
  have b4 := b2.trans (hb4.mono b2.size)
  clear hb4 b2
  by_cases h1 : k = 1
  · subst h1
    go_wp2_with fail
    go_ret
    exact ⟨rfl, b4⟩
  · have h2 : k = 2 := by have := E1.out; simp [h1] at this; exact this
    subst h2
    go_wp2_with fail
    go_ret
    exact ⟨rfl, b4⟩

set_option maxRecDepth 100000 in
set_option maxHeartbeats 8000000 in
theorem coprime_ok (P : List Nat) (A : Option Addr) (n c : Nat) (Q : List Nat) (A' : Option Addr) (n' c' : Nat) (w : World) (hn : P.length = n) (hx : OkL P) (hr : Rd w w.heap.size A (cellsI (castL P)))
    (hn' : Q.length = n') (hx' : OkL Q) (hr' : Rd w w.heap.size A' (cellsI (castL Q))) (hT : Tab w) (h1 : n ≤ 1024) (h2 : n' ≤ 1024) :
    Calls Tryd.prog 6 #[.slice A n c, .slice A' n' c'] w fun e w' => e = .returned (.bool true) ∧ Below w.heap.size w w' := by
  have TO := Lib.hid (fun w1 (hb : Below w.heap.size w w1) => hT.below hb hT.pos)
  have HR := Lib.hid hr
  have HR' := Lib.hid hr'
  have HX := Lib.hid hx
  have HX' := Lib.hid hx'
  have HN := Lib.hid hn
  have HN' := Lib.hid hn'
  have HN0 := Lib.hid ((castL_length P).trans hn)
  have HN0' := Lib.hid ((castL_length Q).trans hn')
  have HB := Lib.hid fun A A' c c' w hr hr' hT => reduce_ok P Q A A' c c' w.heap.size w.heap.size w hx hx' (by omega) (by omega) hr hr' (Nat.le_refl _) (Nat.le_refl _) hT
  obtain ⟨d1, d2, h3, -⟩ := redGo_all P Q hx.pos hx'.pos
  obtain ⟨o1, o2⟩ := redGo_okL hx hx'
  have HC := Lib.hid (cross_prods hx hx')
  unfold RedPost at HB
  obtain ⟨us, hus⟩ : ∃ l, (redGo P Q).1 = l := ⟨_, rfl⟩
  obtain ⟨vs, hvs⟩ : ∃ l, (redGo P Q).2 = l := ⟨_, rfl⟩
  rw [hus] at HB d1 h3 o1 HC
  rw [hvs] at HB d2 h3 o2 HC
  rw [hn, hn'] at HB
  have D1 := Lib.hid d1
  have D2 := Lib.hid d2
  have H3 := Lib.hid h3
  have O1 := Lib.hid o1
  have O2 := Lib.hid o2
  clear hT hr hr' hx hx' hn hn' hus hvs d1 d2 h3 o1 o2
  go_enter Tryd.func6, Tryd.ntmps6
  go_wp2_with fail
  refine (ints_any (castL P) A n c _ w HN0.out HR.out (by omega)).mono ?_
  rintro e w1 ⟨A1, c1, rfl, -, r1, -, b1⟩
  have R1 := Lib.hid r1
  clear r1
  go_wp2_with fail
  refine (ints_any (castL Q) A' n' c' _ w1 HN0'.out (HR'.out.below b1 (Nat.le_refl _)) (by omega)).mono ?_
  rintro e w2 ⟨A2, c2, rfl, -, r2, -, hb2⟩
  have r1 := (R1.out.below hb2 (Nat.le_refl _)).more hb2.size
  have b2 := b1.trans (hb2.mono b1.size)
  have R1 := Lib.hid r1
  have R2 := Lib.hid r2
  clear r1 r2 hb2 b1
  go_wp2_with fail
  refine (HB.out A1 A2 c1 c2 w2 R1.out R2.out (TO.out w2 b2)).mono ?_
  rintro e w3 ⟨ga, gb, rfl, S⟩
  have hb3 := S.bw
  have b3 := b2.trans (hb3.mono b2.size)
  have ra := rd_of_own S.oa
  have rb := rd_of_own S.ob
  have LA := Lib.hid S.la
  have LB := Lib.hid S.lb
  have RA := Lib.hid ra
  have RB := Lib.hid rb
  have RP := Lib.hid (HR.out.below b3 (Nat.le_refl _))
  have RQ := Lib.hid (HR'.out.below b3 (Nat.le_refl _))
  clear HB S hb3 ra rb b2 R1 R2 HR HR'
  have q1 : ((n : Int) != (n : Int)) = false := by simp
  have q2 : ((n' : Int) != (n' : Int)) = false := by simp
  go_wp2_with fail
  clear q1 q2
  go_loopw [8] (fun i wr => ∃ k : Nat, k ≤ n ∧ i = .int .i64 k ∧ Drawn w3 wr) (fun i _ => n - (intOf i).toNat)
  case atStart => exact ⟨0, Nat.zero_le _, rfl, Drawn.refl _⟩
  case round =>
    obtain ⟨k, hk, rfl, hd⟩ := hrel
    by_cases hlt : k < n
    · obtain ⟨ba, oa, x, hAa, -, hx1, cx, hxu⟩ := (hd.rd RA.out).atN O1.out (k := k) (by rw [LA.out]; exact hlt)
      injection hAa with hAa
      injection hAa with hAa1 hAa2
      subst hAa1 hAa2
      obtain ⟨bp, op, p, rfl, -, hp1, cp, hpp⟩ := (hd.rd RP.out).atN HX.out (k := k) (by rw [HN.out]; exact hlt)
      obtain ⟨t1, t2⟩ := rem_zero (D1.out.get k x p hxu hpp)
      have T1 := Lib.hid t1
      have T2 := Lib.hid t2
      have HXU := Lib.hid (H3.out x (List.mem_of_getElem? hxu))
      have HXK := Lib.hid hxu
      have HDD := Lib.hid hd
      clear t1 t2 hxu hpp
      rw [Nat.zero_add] at cx
      obtain ⟨hx11, hx12⟩ := hx1
      obtain ⟨hp11, hp12⟩ := hp1
      have i1 : (0 : Int) ≤ (k : Int) := by omega
      have i2 : (k : Int) < (n : Int) := by omega
      have i3 : decide ((x : Int) < 1) = false := decide_eq_false (by omega)
      have i4 : ((0 : Int) != 0) = false := by simp
      go_wp2_with fail
      have t1 := T1.out
      have t2 := T2.out
      go_quiet (fail)
      clear t1 t2
      go_wp2_with fail
      go_loopw [9] (fun s wx => ∃ j : Nat, j ≤ n' ∧ s = .int .i64 j ∧ Drawn w3 wx) (fun i _ => n' - (intOf i).toNat)
      case atStart => exact ⟨0, Nat.zero_le _, rfl, HDD.out.drewN _⟩
      case round =>
        clear cx cp i3 hd
        obtain ⟨j, hj, rfl, hd⟩ := hrel
        by_cases hjl : j < n'
        · obtain ⟨bb, ob, y, hBb, -, hy1, cy, hyv⟩ := (hd.rd RB.out).atN O2.out (k := j) (by rw [LB.out]; exact hjl)
          injection hBb with hBb
          injection hBb with hBb1 hBb2
          subst hBb1 hBb2
          obtain ⟨bq, oq, q, rfl, -, hq1, cq, hqq⟩ := (hd.rd RQ.out).atN HX'.out (k := j) (by rw [HN'.out]; exact hjl)
          obtain ⟨t1, t2⟩ := rem_zero (D2.out.get j y q hyv hqq)
          obtain ⟨ba, oa, x', hAa, -, -, cx', hxu'⟩ := (hd.rd RA.out).atN O1.out (k := k) (by rw [LA.out]; exact hlt)
          injection hAa with hAa
          injection hAa with hAa1 hAa2
          subst hAa1 hAa2
          obtain rfl : x' = x := by have := HXK.out; rw [hxu'] at this; exact Option.some.inj this
          rw [Nat.zero_add] at cx' cy
          obtain ⟨hy11, hy12⟩ := hy1
          obtain ⟨hq11, hq12⟩ := hq1
          have hgc : Nat.gcd x' y = 1 := HXU.out y (List.mem_of_getElem? hyv)
          have HCM := Lib.hid (fun w => common_any x' y (by omega) (by omega) w)
          rw [hgc] at HCM
          have T1 := Lib.hid t1
          have T2 := Lib.hid t2
          have HDD := Lib.hid hd
          have i3 : decide ((y : Int) < 1) = false := decide_eq_false (by omega)
          have i5 : (0 : Int) ≤ (j : Int) := by omega
          have i6 : (j : Int) < (n' : Int) := by omega
          have i7 : ((1 : Int) != 1) = false := by simp
          have HXu := Lib.hid (show IntKind.u64.wrap (x' : Int) = (x' : Int) by rw [IntKind.wrap_u64]; omega)
          have HYu := Lib.hid (show IntKind.u64.wrap (y : Int) = (y : Int) by rw [IntKind.wrap_u64]; omega)
          clear t1 t2 hxu' hqq hyv hgc
          go_wp2_with fail
          have t1 := T1.out
          have t2 := T2.out
          have hxu := HXu.out
          have hyu := HYu.out
          go_quiet ((go_at_call 23; exact Calls.quiet_of_same ((HCM.out _).mono fun _ _ ⟨h, h'⟩ => ⟨h, h'.symm⟩)))
          clear t1 t2 hxu hyu
          go_wp2_with fail
          go_roundw
          case rel => exact ⟨j + 1, by omega, by go_num, HDD.out.drewN _⟩
          case measure => simp [intOf]; omega
        · go_wp2_with fail
          go_roundw
          case rel => exact ⟨k + 1, by omega, by go_num, hd⟩
          case measure => simp [intOf]; omega
    · have hb4 := hd.below w3.heap.size
      have b4 := b3.trans (hb4.mono b3.size)
      have RA := Lib.hid (hd.rd RA.out)
      have RB := Lib.hid (hd.rd RB.out)
      have RP := Lib.hid (hd.rd RP.out)
      have RQ := Lib.hid (hd.rd RQ.out)
      have hsz := hd.size
      clear hd hb4
      obtain ⟨x, hxe⟩ : ∃ x, prodN P = x := ⟨_, rfl⟩
      obtain ⟨y, hye⟩ : ∃ y, prodN Q = y := ⟨_, rfl⟩
      obtain ⟨z, hze⟩ : ∃ z, prodN us = z := ⟨_, rfl⟩
      obtain ⟨v, hve⟩ : ∃ v, prodN vs = v := ⟨_, rfl⟩
      rw [hxe, hye, hze, hve] at HC
      have E1 := Lib.hid ((prodZ_cast P).trans (congrArg _ hxe))
      have E2 := Lib.hid ((prodZ_cast Q).trans (congrArg _ hye))
      have E3 := Lib.hid ((prodZ_cast us).trans (congrArg _ hze))
      have E4 := Lib.hid ((prodZ_cast vs).trans (congrArg _ hve))
      clear hxe hye hze hve
      go_wp2_with fail
      refine (product_any (castL P) A n c _ wr HN0.out HX.out.fit RP.out (by omega) b4.size).mono ?_
      rw [E1.out]
      rintro e w5 ⟨s5, A5, c5, m5, rfl, q5, hm5, hb5⟩
      go_wp2_with fail
      refine (product_any (castL vs) _ n' _ _ w5 ((castL_length vs).trans LB.out) O2.out.fit (RB.out.below (B' := wr.heap.size) hb5 (by omega)) (by omega) (by have := hb5.size; omega)).mono ?_
      rw [E4.out]
      rintro e w6 ⟨s6, A6, c6, m6, rfl, q6, hm6, hb6⟩
      have q5 := q5.below hb6
      have b6 := hb5.trans (hb6.mono hb5.size)
      clear hb5 hb6
      go_wp2_with fail
      refine (times_any _ _ _ _ m5 m6 w6 q5 q6 (by omega) (by omega)).mono ?_
      intro e w7 hmk
      refine makes_elim hmk fun s7 A7 c7 m7 he q7 hnew hb7 => ?_
      clear hmk hnew q5 q6
      subst he
      have b7 := b6.trans (hb7.mono b6.size)
      have ba := (Below.refl w7.heap.size w7).alloc (Nat.le_refl _) (.cells #[.bool s7, .slice A7 m7 c7] 40)
      have k7 := Blk.new w7 _ rfl 40 #[.bool s7, .slice A7 m7 c7]
      have q7 := q7.below ba
      have b8 := b7.trans (ba.mono b7.size)
      have K7 := Lib.hid k7
      obtain ⟨W8, hW8⟩ : ∃ W, w7.alloc (.cells #[.bool s7, .slice A7 m7 c7] 40) = W := ⟨_, rfl⟩
      obtain ⟨g8, hg8⟩ : ∃ g, w7.heap.size = g := ⟨_, rfl⟩
      rw [hW8] at q7 b8 K7
      rw [hg8] at K7
      clear hb7 b6 b7 ba k7
      go_wp2_with fail
      try rw [hW8]
      try rw [hg8]
      clear hW8 hg8
      refine (product_any (castL Q) A' n' c' _ W8 HN0'.out HX'.out.fit (RQ.out.below (B' := wr.heap.size) b8 (by have := b3.size; omega)) (by omega) (by have := b8.size; have := b4.size; omega)).mono ?_
      rw [E2.out]
      rintro e w9 ⟨s9, A9, c9, m9, rfl, q9, hm9, hb9⟩
      have b9 := b8.trans (hb9.mono b8.size)
      have K9 := Lib.hid (K7.out.lowr hb9 K7.out.lt)
      have q7 := q7.below hb9
      clear hb9 b8 K7
      go_wp2_with fail
      refine (product_any (castL us) _ n _ _ w9 ((castL_length us).trans LA.out) O1.out.fit (RA.out.below (B' := wr.heap.size) b9 (by omega)) (by omega) (by have := b9.size; omega)).mono ?_
      rw [E3.out]
      rintro e w10 ⟨s10, A10, c10, m10, rfl, q10, hm10, hb10⟩
      have b10 := b9.trans (hb10.mono b9.size)
      have K10 := Lib.hid (K9.out.lowr hb10 K9.out.lt)
      have q7 := q7.below hb10
      have q9 := q9.below hb10
      clear hb10 b9 K9
      go_wp2_with fail
      refine (times_any _ _ _ _ m9 m10 w10 q9 q10 (by omega) (by omega)).mono ?_
      intro e w11 hmk
      refine makes_elim hmk fun s11 A11 c11 m11 he q11 hnew hb11 => ?_
      clear hmk hnew q9 q10
      subst he
      have b11 := b10.trans (hb11.mono b10.size)
      have q7 := q7.below hb11
      have k7 := K10.out.lowr hb11 K10.out.lt
      have ba := (Below.refl w11.heap.size w11).alloc (Nat.le_refl _) (.cells #[.bool s11, .slice A11 m11 c11] 40)
      have k11 := Blk.new w11 _ rfl 40 #[.bool s11, .slice A11 m11 c11]
      have k7 := k7.alloc (.cells #[.bool s11, .slice A11 m11 c11] 40)
      have q7 := q7.below ba
      have q11 := q11.below ba
      have b12 := b11.trans (ba.mono b11.size)
      obtain ⟨W12, hW12⟩ : ∃ W, w11.alloc (.cells #[.bool s11, .slice A11 m11 c11] 40) = W := ⟨_, rfl⟩
      obtain ⟨g12, hg12⟩ : ∃ g, w11.heap.size = g := ⟨_, rfl⟩
      rw [hW12] at q7 q11 b12 k7 k11
      rw [hg12] at k11
      have K7 := Lib.hid k7
      have K11 := Lib.hid k11
      clear hb11 b10 b11 ba k7 k11 K10
      go_wp2_with fail
      try rw [hW12]
      try rw [hg12]
      clear hW12 hg12
      have b12w := b4.trans (b12.mono b4.size)
      refine (awake_any W12 (TO.out W12 b12w)).mono ?_
      rintro e w13 ⟨rfl, hb13⟩
      have b13 := b12w.trans (hb13.mono b12w.size)
      have k7 := K7.out.lowr hb13 K7.out.lt
      have k11 := K11.out.lowr hb13 K11.out.lt
      have q7 := q7.below hb13
      have q11 := q11.below hb13
      have f0 := k7.cell 0
      have f1 := k7.cell 1
      have f2 := k11.cell 0
      have f3 := k11.cell 1
      simp only [List.getElem?_toArray, List.getElem?_cons_zero, List.getElem?_cons_succ] at f0 f1 f2 f3
      have HCP := Lib.hid (cmp_any _ _ _ _ m7 m11 w13 q7 q11)
      rw [cmpI_eq HC.out] at HCP
      clear q7 q11 k7 k11 K7 K11 hb13 b12w b12
      go_wp2_with fail
      refine HCP.out.mono ?_
      rintro e w14 ⟨rfl, hb14⟩
      have b14 := b13.trans (hb14.mono b13.size)
      clear hb14 b13 f0 f1 f2 f3
      go_wp2_with fail
      go_ret
      exact ⟨rfl, b14⟩
theorem coprime_any (ps : List Int) (A : Option Addr) (n c : Nat) (qs : List Int) (A' : Option Addr) (n' c' : Nat) (w : World) (hn : ps.length = n) (lc : n ≤ c) (hx : AllFit ps) (hr : Rd w w.heap.size A (cellsI ps)) (hz : c * 8 ≤ 140737488351232)
    (hn' : qs.length = n') (lc' : n' ≤ c') (hx' : AllFit qs) (hr' : Rd w w.heap.size A' (cellsI qs)) (hz' : c' * 8 ≤ 140737488351232) (hT : Tab w) :
    Calls Tryd.prog 6 #[.slice A n c, .slice A' n' c'] w fun e w' => e = .returned (.bool true) ∧ Below w.heap.size w w' := by
  by_cases hw : cwrongF ps qs = 0
  · obtain ⟨h1, h2, h3, h4⟩ := cwrongF_ok hw
    exact coprime_ok (natL ps) A n c (natL qs) A' n' c' w (by rw [natL_length]; exact hn) (natL_ok h3 hx) (by rw [natL_cast h3]; exact hr) (by rw [natL_length]; exact hn') (natL_ok h4 hx') (by rw [natL_cast h4]; exact hr') hT (by omega) (by omega)
  · exact coprime_bad ps A n c qs A' n' c' w hn lc hx hr hz hn' lc' hx' hr' hz' hT hw
end Go.Proofs.YtblkcdenmgkddaaDoor
