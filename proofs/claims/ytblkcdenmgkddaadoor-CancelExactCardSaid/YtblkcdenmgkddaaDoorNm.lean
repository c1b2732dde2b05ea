/-
  CancelTurns: it answers true of any two lists.
-/
import Derived.Test.YtblkcdenmgkddaaDoorNk
namespace Go.Proofs.YtblkcdenmgkddaaDoor
open Go.RowKit

theorem cwrongF_swap (ps qs : List Int) : cwrongF qs ps = cwrongF ps qs := by
  unfold cwrongF
  rw [Bool.or_comm]
  simp only [show (1024 < qs.length ∨ 1024 < ps.length) = (1024 < ps.length ∨ 1024 < qs.length) from propext ⟨Or.symm, Or.symm⟩]
theorem redA_swap (ps qs : List Int) : redA qs ps = ((redA ps qs).2, (redA ps qs).1) := by
  unfold redA
  rw [cwrongF_swap]
  split
  · rw [redGo_swap (natL ps) (natL qs)]
  · rfl
theorem equalF_swap (ps qs : List Int) : equalF qs ps = equalF ps qs := by
  unfold equalF
  rw [cwrongF_swap, show decide (prodN (natL qs) = prodN (natL ps)) = decide (prodN (natL ps) = prodN (natL qs)) from decide_eq_decide.2 ⟨Eq.symm, Eq.symm⟩]
def onesI (l : List Int) : Bool := l.all (· == 1)
theorem onesI_castL (l : List Nat) : onesI (castL l) = onesB l := by
  unfold onesI onesB castL
  rw [List.all_map]
  congr 1
  funext x
  by_cases h : x = 1
  · subst h; rfl
  · have h1 : ((x : Int) == 1) = false := by simp; omega
    have h2 : (x == 1) = false := by simpa using h
    show ((x : Int) == 1) = (x == 1)
    rw [h1, h2]
theorem equal_ones (ps qs : List Int) (hx : AllFit ps) (hx' : AllFit qs) : equalF ps qs = ((cwrongF ps qs == 0) && onesI (redA ps qs).1 && onesI (redA ps qs).2) := by
  by_cases h : cwrongF ps qs = 0
  · obtain ⟨h1, h2, h3, h4⟩ := cwrongF_ok h
    rw [redA_ok h, onesI_castL, onesI_castL, h]
    unfold equalF
    rw [h, ← eqR_prod (natL_ok h3 hx).pos (natL_ok h4 hx').pos]
    simp [eqR]
  · have h2 : (cwrongF ps qs == 0) = false := by simpa using h
    unfold equalF
    rw [decide_eq_false h, h2]; rfl
set_option maxHeartbeats 400000 in
theorem ones_any (xs : List Int) (A : Option Addr) (n c B : Nat) (w : World) (hn : xs.length = n) (hx : AllFit xs) (hr : Rd w B A (cellsI xs)) (hl : n ≤ maxLen) :
    Calls Tryd.prog 27 #[.slice A n c] w fun e w' => e = .returned (.bool (onesI xs)) ∧ w = w' := by
  unfold maxLen at hl
  have HN := Lib.hid hn
  clear hn
  go_enter Tryd.func27, Tryd.ntmps27
  go_wp2
  go_loop [3] (fun i => ∃ k : Nat, k ≤ n ∧ i = .int .i64 k ∧ Hid (onesI xs = onesI (xs.drop k))) (fun i => n - (intOf i).toNat)
  case atStart => exact ⟨0, Nat.zero_le _, rfl, rfl⟩
  case round =>
    obtain ⟨k, hk, rfl, H⟩ := hrel
    by_cases hlt : k < n
    · obtain ⟨b, off, x, rfl, hb, hxk, hc, hd, hxx⟩ := hr.at_ hx (k := k) (by rw [HN.out]; exact hlt)
      by_cases h1 : x = 1
      · subst h1
        have HS : Hid (onesI xs = onesI (xs.drop (k + 1))) := by unfold Hid; rw [H.out, hd.out]; simp [onesI]
        have e : ((1 : Int) != 1) = false := by simp
        clear hd H
        go_wp2
        go_round
        case rel => exact ⟨k + 1, by omega, by go_num, HS⟩
        case measure => simp [intOf]; omega
      · have HS : Hid (onesI xs = false) := by unfold Hid; rw [H.out, hd.out]; simp [onesI, h1]
        have e : (x != 1) = true := by simpa using h1
        clear hd H
        go_wp2
        go_ret
        exact ⟨retb HS.out.symm, rfl⟩
    · have HS : Hid (onesI xs = true) := by unfold Hid; rw [H.out, List.drop_eq_nil_of_le (by rw [HN.out]; omega)]; rfl
      go_wp2
      go_ret
      exact ⟨retb HS.out.symm, rfl⟩

set_option maxRecDepth 100000 in
set_option maxHeartbeats 4000000 in
theorem cturns_any (ps : List Int) (A : Option Addr) (n c : Nat) (qs : List Int) (A' : Option Addr) (n' c' : Nat) (w : World) (hn : ps.length = n) (lc : n ≤ c) (hx : AllFit ps) (hr : Rd w w.heap.size A (cellsI ps)) (hz : c * 8 ≤ 140737488351232)
    (hn' : qs.length = n') (lc' : n' ≤ c') (hx' : AllFit qs) (hr' : Rd w w.heap.size A' (cellsI qs)) (hz' : c' * 8 ≤ 140737488351232) (hT : Tab w) :
    Calls Tryd.prog 7 #[.slice A n c, .slice A' n' c'] w fun e w' => e = .returned (.bool true) ∧ Below w.heap.size w w' := by
  have z1 : n * 8 ≤ 140737488351232 := by omega
  have z2 : n' * 8 ≤ 140737488351232 := by omega
  have m1 : n ≤ maxLen := by unfold maxLen; omega
  have m2 : n' ≤ maxLen := by unfold maxLen; omega
  obtain ⟨s1, s2, f1, f2⟩ := redA_short ps qs hx hx'
  have TO := Lib.hid (fun w1 (hb : Below w.heap.size w w1) => hT.below hb hT.pos)
  have HR := Lib.hid hr
  have HR' := Lib.hid hr'
  have HX := Lib.hid hx
  have HX' := Lib.hid hx'
  have HN := Lib.hid hn
  have HN' := Lib.hid hn'
  have HEQ := Lib.hid (equal_ones ps qs hx hx')
  have hsw := redA_swap ps qs
  have hsw1 := cwrongF_swap ps qs
  have hsw2 := equalF_swap ps qs
  obtain ⟨la, hla⟩ : ∃ l, (redA ps qs).1 = l := ⟨_, rfl⟩
  obtain ⟨lb, hlb⟩ : ∃ l, (redA ps qs).2 = l := ⟨_, rfl⟩
  obtain ⟨k, hk⟩ : ∃ k, cwrongF ps qs = k := ⟨_, rfl⟩
  obtain ⟨t, ht⟩ : ∃ t, equalF ps qs = t := ⟨_, rfl⟩
  rw [hla] at s1 f1 hsw HEQ
  rw [hlb] at s2 f2 hsw HEQ
  rw [hk] at hsw1 HEQ
  rw [ht] at hsw2 HEQ
  have HE := Lib.hid (And.intro hla (And.intro hlb (And.intro hk ht)))
  have HS := Lib.hid (And.intro hsw (And.intro hsw1 hsw2))
  have F1 := Lib.hid f1
  have F2 := Lib.hid f2
  have ml1 : la.length ≤ maxLen := by unfold maxLen; omega
  have ml2 : lb.length ≤ maxLen := by unfold maxLen; omega
  clear hT hr hr' hx hx' hz hz' lc lc' hn hn' hla hlb hk ht f1 f2 hsw hsw1 hsw2
  go_enter Tryd.func7, Tryd.ntmps7
  go_wp2_with fail
  refine (ints_any ps A n c _ w HN.out HR.out z1).mono ?_
  rintro e w1 ⟨A1, c1, rfl, -, r1, -, b1⟩
  have R1 := Lib.hid r1
  clear r1
  go_wp2_with fail
  refine (ints_any qs A' n' c' _ w1 HN'.out (HR'.out.below b1 (Nat.le_refl _)) z2).mono ?_
  rintro e w2 ⟨A2, c2, rfl, -, r2, -, hb2⟩
  have R1 := Lib.hid ((R1.out.below hb2 (Nat.le_refl _)).more hb2.size)
  have R2 := Lib.hid r2
  have b2 := b1.trans (hb2.mono b1.size)
  clear r2 hb2 b1
  go_wp2_with fail
  have hc := reduce_all ps qs A1 A2 n n' c1 c2 _ _ w2 HN.out HN'.out HX.out HX'.out R1.out R2.out m1 m2 (Nat.le_refl _) (Nat.le_refl _) (TO.out w2 b2)
  rw [HE.out.1, HE.out.2.1, HE.out.2.2.1] at hc
  refine hc.mono ?_
  rintro e w3 ⟨Aa, Ab, ca, cb, rfl, oa, ob, -, hb3⟩
  have b3 := b2.trans (hb3.mono b2.size)
  have RA := Lib.hid (rd_of_own oa)
  have RB := Lib.hid (rd_of_own ob)
  clear hb3 b2 hc oa ob R1 R2
  go_wp2_with fail
  refine (ints_any qs A' n' c' _ w3 HN'.out (HR'.out.below b3 (Nat.le_refl _)) z2).mono ?_
  rintro e w4 ⟨A1, c1, rfl, -, r1, -, b4⟩
  have R1 := Lib.hid r1
  have bb4 := b3.trans (b4.mono b3.size)
  clear r1
  go_wp2_with fail
  refine (ints_any ps A n c _ w4 HN.out (HR.out.below bb4 (Nat.le_refl _)) z1).mono ?_
  rintro e w5 ⟨A2, c2, rfl, -, r2, -, hb5⟩
  have R1 := Lib.hid ((R1.out.below hb5 (Nat.le_refl _)).more hb5.size)
  have R2 := Lib.hid r2
  have b5 := b4.trans (hb5.mono b4.size)
  have bb5 := b3.trans (b5.mono b3.size)
  clear r2 hb5 b4 bb4
  go_wp2_with fail
  have hc := reduce_all qs ps A1 A2 n' n c1 c2 _ _ w5 HN'.out HN.out HX'.out HX.out R1.out R2.out m2 m1 (Nat.le_refl _) (Nat.le_refl _) (TO.out w5 bb5)
  rw [HS.out.1, HS.out.2.1] at hc
  refine hc.mono ?_
  rintro e w6 ⟨Ad, Ac, cd, cc, rfl, od, oc, -, hb6⟩
  have b6 := b5.trans (hb6.mono b5.size)
  have bb6 := b3.trans (b6.mono b3.size)
  have RA := Lib.hid ((RA.out.below b6 (Nat.le_refl _)).more b6.size)
  have RB := Lib.hid ((RB.out.below b6 (Nat.le_refl _)).more b6.size)
  have RC := Lib.hid (rd_of_own oc)
  have RD := Lib.hid (rd_of_own od)
  clear hb6 b5 bb5 b6 b3 hc oc od R1 R2
  go_wp2_with fail
  refine (ints_any ps A n c _ w6 HN.out (HR.out.below bb6 (Nat.le_refl _)) z1).mono ?_
  rintro e w7 ⟨A1, c1, rfl, -, r1, -, b7⟩
  have R1 := Lib.hid r1
  have bb7 := bb6.trans (b7.mono bb6.size)
  clear r1
  go_wp2_with fail
  refine (ints_any qs A' n' c' _ w7 HN'.out (HR'.out.below bb7 (Nat.le_refl _)) z2).mono ?_
  rintro e w8 ⟨A2, c2, rfl, -, r2, -, hb8⟩
  have R1 := Lib.hid ((R1.out.below hb8 (Nat.le_refl _)).more hb8.size)
  have R2 := Lib.hid r2
  have b8 := b7.trans (hb8.mono b7.size)
  have bb8 := bb6.trans (b8.mono bb6.size)
  clear r2 hb8 b7 bb7
  go_wp2_with fail
  have hc := equal_any ps qs A1 A2 n n' c1 c2 _ _ w8 HN.out HN'.out HX.out HX'.out R1.out R2.out m1 m2 (Nat.le_refl _) (Nat.le_refl _) (TO.out w8 bb8)
  rw [HE.out.2.2.1, HE.out.2.2.2] at hc
  refine hc.mono ?_
  rintro e w9 ⟨rfl, hb9⟩
  have b9 := b8.trans (hb9.mono b8.size)
  have bb9 := bb6.trans (b9.mono bb6.size)
  clear hb9 b8 bb8 hc R1 R2
  go_wp2_with fail
  refine (ints_any qs A' n' c' _ w9 HN'.out (HR'.out.below bb9 (Nat.le_refl _)) z2).mono ?_
  rintro e w10 ⟨A1, c1, rfl, -, r1, -, hb10⟩
  have R1 := Lib.hid r1
  have b10 := b9.trans (hb10.mono b9.size)
  have bb10 := bb6.trans (b10.mono bb6.size)
  clear r1 hb10 b9 bb9
  go_wp2_with fail
  refine (ints_any ps A n c _ w10 HN.out (HR.out.below bb10 (Nat.le_refl _)) z1).mono ?_
  rintro e w11 ⟨A2, c2, rfl, -, r2, -, hb11⟩
  have R1 := Lib.hid ((R1.out.below hb11 (Nat.le_refl _)).more hb11.size)
  have R2 := Lib.hid r2
  have b11 := b10.trans (hb11.mono b10.size)
  have bb11 := bb6.trans (b11.mono bb6.size)
  clear r2 hb11 b10 bb10
  go_wp2_with fail
  have hc := equal_any qs ps A1 A2 n' n c1 c2 _ _ w11 HN'.out HN.out HX'.out HX.out R1.out R2.out m2 m1 (Nat.le_refl _) (Nat.le_refl _) (TO.out w11 bb11)
  rw [HS.out.2.1, HS.out.2.2] at hc
  refine hc.mono ?_
  rintro e w12 ⟨rfl, hb12⟩
  have b12 := b11.trans (hb12.mono b11.size)
  have bb12 := bb6.trans (b12.mono bb6.size)
  have RA := Lib.hid ((RA.out.below b12 (Nat.le_refl _)).more b12.size)
  have RB := Lib.hid ((RB.out.below b12 (Nat.le_refl _)).more b12.size)
  have RC := Lib.hid ((RC.out.below b12 (Nat.le_refl _)).more b12.size)
  have RD := Lib.hid ((RD.out.below b12 (Nat.le_refl _)).more b12.size)
  have e1 : (k != k) = false := by simp
  have e2 : (t != t) = false := by simp
  clear hb12 b11 bb11 hc R1 R2 b12 bb6
  go_wp2_with fail
  refine (sameInts_yes la _ _ _ _ _ _ _ w12 rfl F1.out RA.out RC.out ml1).mono ?_
  rintro e w13 ⟨rfl, hd13⟩
  go_wp2_with fail
  refine (sameInts_yes lb _ _ _ _ _ _ _ w13 rfl F2.out (hd13.rd RB.out) (hd13.rd RD.out) ml2).mono ?_
  rintro e w14 ⟨rfl, hd14⟩
  have hd14 := hd13.trans hd14
  have b14 := bb12.trans ((hd14.below w12.heap.size).mono bb12.size)
  have RA := Lib.hid (hd14.rd RA.out)
  have RB := Lib.hid (hd14.rd RB.out)
  have hsz := hd14.size
  clear hd13 hd14 bb12 e1 e2 RC RD
  go_wp2_with fail
  refine (awake_any w14 (TO.out w14 b14)).mono ?_
  rintro e w15 ⟨rfl, hb15⟩
  have b15 := b14.trans (hb15.mono b14.size)
  have RA := Lib.hid (RA.out.below (B' := w14.heap.size) hb15 (by omega))
  have RB := Lib.hid (RB.out.below (B' := w14.heap.size) hb15 (by omega))
  clear hb15 b14
  have C1 := Lib.hid fun w hr => ones_any la Aa la.length ca w12.heap.size w rfl F1.out hr ml1
  have C2 := Lib.hid fun w hr => ones_any lb Ab lb.length cb w12.heap.size w rfl F2.out hr ml2
  obtain ⟨o1, ho1⟩ : ∃ o, onesI la = o := ⟨_, rfl⟩
  obtain ⟨o2, ho2⟩ : ∃ o, onesI lb = o := ⟨_, rfl⟩
  rw [ho1] at C1 HEQ
  rw [ho2] at C2 HEQ
  clear ho1 ho2
  by_cases hk : k = 0
  · subst hk
    go_wp2_with fail
    refine (C1.out w15 RA.out).mono ?_
    rintro e w16 ⟨rfl, rfl⟩
    cases o1 with
    | false =>
      have ht : t = false := by rw [HEQ.out]; rfl
      subst ht
      go_wp2_with fail
      go_ret
      exact ⟨rfl, b15⟩
    | true =>
      go_wp2_with fail
      refine (C2.out w15 RB.out).mono ?_
      rintro e w16 ⟨rfl, rfl⟩
      have ht : t = o2 := by rw [HEQ.out]; simp
      subst ht
      have e3 : (t == t) = true := by simp
      go_wp2_with fail
      go_ret
      exact ⟨rfl, b15⟩
  · have hk0 : (k == 0) = false := by simpa using hk
    have ht : t = false := by rw [HEQ.out, hk0]; rfl
    subst ht
    clear hk
    go_wp2_with fail
    go_ret
    exact ⟨rfl, b15⟩
end Go.Proofs.YtblkcdenmgkddaaDoor
