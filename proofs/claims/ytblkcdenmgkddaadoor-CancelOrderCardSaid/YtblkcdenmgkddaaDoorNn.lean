/-
  CancelOrder: it answers true of any three lists.
-/
import Derived.Test.YtblkcdenmgkddaaDoorNk
namespace Go.Proofs.YtblkcdenmgkddaaDoor
open Go.RowKit

theorem clowB_append (l m : List Int) : clowB (l ++ m) = (clowB l || clowB m) := by unfold clowB; rw [List.any_append]
theorem clowB_rev (l : List Int) : clowB l.reverse = clowB l := by unfold clowB; rw [List.any_reverse]
theorem natL_append (l m : List Int) : natL (l ++ m) = natL l ++ natL m := by unfold natL; rw [List.map_append]
theorem prodN_rev (l : List Nat) : prodN l.reverse = prodN l := by
  induction l with
  | nil => rfl
  | cons x xs ih => rw [List.reverse_cons, prodN_append, ih]; simp only [prodN]; rw [Nat.mul_one, Nat.mul_comm]
theorem natL_rev (l : List Int) : natL l.reverse = (natL l).reverse := by unfold natL; rw [List.map_reverse]
theorem fit_append {l m : List Int} (h : AllFit l) (h' : AllFit m) : AllFit (l ++ m) := fun x hx => by
  rcases List.mem_append.1 hx with hx | hx
  · exact h x hx
  · exact h' x hx
theorem fit_rev {l : List Int} (h : AllFit l) : AllFit l.reverse := fun x hx => h x (List.mem_reverse.1 hx)
theorem ord_back (ps qs : List Int) : cwrongF ps.reverse qs = cwrongF ps qs ∧ equalF ps.reverse qs = equalF ps qs := by
  have h : cwrongF ps.reverse qs = cwrongF ps qs := by unfold cwrongF; rw [List.length_reverse, clowB_rev]
  refine ⟨h, ?_⟩
  unfold equalF
  rw [h, natL_rev, prodN_rev]
theorem ord_self (ps : List Int) (h : cwrongF ps ps.reverse = 0) : equalF ps ps.reverse = true := by
  unfold equalF
  rw [h, natL_rev, prodN_rev]; simp
theorem ord_more (ps qs ms : List Int) (h1 : ps.length + ms.length ≤ 1024) (h2 : qs.length + ms.length ≤ 1024) (hm : AllFit ms) :
    if cwrongF ps qs = 0 ∧ cwrongF ms [] = 0 then cwrongF (ms ++ ps) (ms.reverse ++ qs) = 0 ∧ equalF (ms ++ ps) (ms.reverse ++ qs) = equalF ps qs
    else cwrongF (ms ++ ps) (ms.reverse ++ qs) = 1 ∧ equalF (ms ++ ps) (ms.reverse ++ qs) = false := by
  have e1 : cwrongF ps qs = if (clowB ps || clowB qs) = true then 1 else 0 := by unfold cwrongF; rw [if_neg (by omega)]
  have e2 : cwrongF ms [] = if clowB ms = true then 1 else 0 := by
    unfold cwrongF; rw [if_neg (by simp; omega)]
    have : clowB [] = false := rfl
    rw [this, Bool.or_false]
  have e3 : cwrongF (ms ++ ps) (ms.reverse ++ qs) = if (clowB ms || (clowB ps || clowB qs)) = true then 1 else 0 := by
    unfold cwrongF
    rw [if_neg (by rw [List.length_append, List.length_append, List.length_reverse]; omega), clowB_append, clowB_append, clowB_rev]
    have : (clowB ms || clowB ps || (clowB ms || clowB qs)) = (clowB ms || (clowB ps || clowB qs)) := by cases clowB ms <;> cases clowB ps <;> cases clowB qs <;> rfl
    rw [this]
  rw [e1, e2, e3]
  unfold equalF
  rw [e1, e3]
  cases hm1 : clowB ms with
  | true => simp
  | false =>
    cases hp : (clowB ps || clowB qs) with
    | true => simp
    | false =>
      simp only [Bool.false_or, Bool.false_eq_true, if_false, and_self, if_true, true_and, decide_true, Bool.true_and]
      rw [natL_append, natL_append, natL_rev, prodN_append, prodN_append, prodN_rev]
      have hp : 1 ≤ prodN (natL ms) := prodN_pos (natL_ok hm1 hm).pos
      rw [decide_eq_decide]
      exact ⟨fun h => Nat.eq_of_mul_eq_mul_left (by omega) h, fun h => by rw [h]⟩
theorem rev_take {l : List Int} {k : Nat} {x : Int} (hk : k < l.length) (hx : l[l.length - 1 - k]? = some x) : l.reverse.take (k + 1) = l.reverse.take k ++ [x] := by
  have h2 : k < l.reverse.length := by simpa using hk
  rw [List.take_succ_eq_append_getElem h2, List.getElem_reverse]
  obtain ⟨h3, h4⟩ := List.getElem?_eq_some_iff.1 hx
  rw [h4]

set_option maxRecDepth 100000 in
set_option maxHeartbeats 8000000 in
theorem corder_any (ps : List Int) (A : Option Addr) (n c : Nat) (qs : List Int) (A' : Option Addr) (n' c' : Nat) (ms : List Int) (Am : Option Addr) (m cm : Nat) (w : World) (hn : ps.length = n) (lc : n ≤ c) (hx : AllFit ps) (hr : Rd w w.heap.size A (cellsI ps)) (hz : c * 8 ≤ 140737488351232)
    (hn' : qs.length = n') (lc' : n' ≤ c') (hx' : AllFit qs) (hr' : Rd w w.heap.size A' (cellsI qs)) (hz' : c' * 8 ≤ 140737488351232) (hm : ms.length = m) (lm : m ≤ cm) (hxm : AllFit ms) (hrm : Rd w w.heap.size Am (cellsI ms)) (hzm : cm * 8 ≤ 140737488351232) (hT : Tab w) :
    Calls Tryd.prog 8 #[.slice A n c, .slice A' n' c', .slice Am m cm] w fun e w' => e = .returned (.bool true) ∧ Below w.heap.size w w' := by
  obtain ⟨i, hi, hz0, hz1, hz2⟩ := info_parts info_int
  have s1 : (n : Int) + (m : Int) = ((n + m : Nat) : Int) := by omega
  by_cases h1 : n + m > 1024
  · have d1 : decide ((n : Int) + (m : Int) > 1024) = true := decide_eq_true (by omega)
    clear hr hr' hrm hx hx' hxm s1
    go_enter Tryd.func8, Tryd.ntmps8
    go_wp2
    go_ret
    exact ⟨rfl, Below.refl _ _⟩
  · have d1 : decide ((n : Int) + (m : Int) > 1024) = false := decide_eq_false (by omega)
    by_cases h2 : n' + m > 1024
    · have d2 : decide ((n' : Int) + (m : Int) > 1024) = true := decide_eq_true (by omega)
      clear hr hr' hrm hx hx' hxm s1
      go_enter Tryd.func8, Tryd.ntmps8
      go_wp2
      go_ret
      exact ⟨rfl, Below.refl _ _⟩
    · have d2 : decide ((n' : Int) + (m : Int) > 1024) = false := decide_eq_false (by omega)
      have HB := Lib.hid (ord_back ps qs)
      have HSf := Lib.hid (ord_self ps)
      have HM := Lib.hid (ord_more ps qs ms (by omega) (by omega) hxm)
      have TO := Lib.hid (fun w1 (hb : Below w.heap.size w w1) => hT.below hb hT.pos)
      have HR := Lib.hid hr
      have HR' := Lib.hid hr'
      have HRM := Lib.hid hrm
      have HX := Lib.hid hx
      have HX' := Lib.hid hx'
      have HXM := Lib.hid hxm
      have HN := Lib.hid hn
      have HN' := Lib.hid hn'
      have HNM := Lib.hid hm
      have z1 : n * 8 ≤ 140737488351232 := by omega
      have z2 : n' * 8 ≤ 140737488351232 := by omega
      have z3 : m * 8 ≤ 140737488351232 := by omega
      have hlm : (cellsI ms).length = m * 1 := by rw [cellsI_length, hm, Nat.mul_one]
      have hlp : (cellsI ps).length = n * 1 := by rw [cellsI_length, hn, Nat.mul_one]
      have hlq : (cellsI qs).length = n' * 1 := by rw [cellsI_length, hn', Nat.mul_one]
      have LM := Lib.hid hlm
      have LP := Lib.hid hlp
      have LQ := Lib.hid hlq
      have k1 : n + m ≤ 1024 := by omega
      have k2 : n' + m ≤ 1024 := by omega
      clear hT hr hr' hx hx' hz hz' lc lc' hn hn' hm lm hxm hrm hzm h1 h2 s1 hlm hlp hlq
      go_enter Tryd.func8, Tryd.ntmps8
      go_wp2_with (at_builtin; refine wpList_append_rd _ rfl _ _ 22 rfl w.heap.size 3 i (.int .i64 0) 1 8 Tryd.underlying22 hi hz0 hz1 hz2 rfl (by decide) _ 0 [] rfl (World.ownsRow_nil _ _ _ _) w.heap.size Am m cm (cellsI ms) rfl LM.out HRM.out (cellsI_one _) (by unfold maxLen; omega) (by omega) (Nat.le_refl _) ?_)
      intro v1 w1 o1 g1 hat
      have b1 : Below w.heap.size w w1 := (Below.refl _ _).grown g1 (Nat.le_refl _) (fun k hk => by simp [Value.ownBlock] at hk)
      have o1 : w1.ownsRow w.heap.size 3 1 v1 m (cellsI ms) := by simpa using o1
      clear g1 hat
      go_wp2_with (at_builtin; refine wpList_append_rd _ rfl _ _ 22 rfl w.heap.size 3 i (.int .i64 0) 1 8 Tryd.underlying22 hi hz0 hz1 hz2 rfl (by decide) _ m (cellsI ms) rfl o1 w.heap.size A n c (cellsI ps) rfl LP.out (HR.out.below b1 (Nat.le_refl _)) (cellsI_one _) (by unfold maxLen; omega) (by omega) b1.size ?_)
      intro v2 w2 o2 g2 hat
      have b2 : Below w.heap.size w w2 := b1.grown g2 b1.size (fun j hj => (o1.lt j hj).1)
      have o2 : w2.ownsRow w.heap.size 3 1 v2 (m + n) (cellsI (ms ++ ps)) := by
        rw [show cellsI (ms ++ ps) = cellsI ms ++ cellsI ps by simp [cellsI]]; exact o2
      obtain ⟨Aa, ca, rfl, -⟩ := own_slice o2
      have RA := Lib.hid (rd_of_own o2)
      clear g2 hat o1 b1 o2
      go_wp2_with fail
      have B2 := Lib.hid b2
      go_loopw [8, 10] (fun v j wr => ∃ k : Nat, k ≤ m ∧ j = .int .i64 ((m : Int) - 1 - k) ∧ wr.ownsRow w2.heap.size 3 1 v k (cellsI (ms.reverse.take k)) ∧ Below w2.heap.size w2 wr) (fun _ j _ => (intOf j + 1).toNat)
      case atStart => exact ⟨0, by omega, by simp, by simpa [cellsI] using World.ownsRow_nil _ _ _ _, Below.refl _ _⟩
      case round =>
        clear b2
        obtain ⟨k, hk, rfl, hown, hbw⟩ := hrel
        by_cases hlt : k < m
        · obtain ⟨q, hq⟩ : ∃ q : Nat, q = m - 1 - k := ⟨_, rfl⟩
          have hqi : (m : Int) - 1 - (k : Int) = (q : Int) := by omega
          have b2k := B2.out.trans (hbw.mono B2.out.size)
          obtain ⟨b, off, x, rfl, hb, hxk, hc, hd, hxx⟩ := (HRM.out.below b2k (Nat.le_refl _)).at_ HXM.out (k := q) (by rw [HNM.out]; omega)
          have HRT := Lib.hid (rev_take (l := ms) (k := k) (x := x) (by rw [HNM.out]; exact hlt) (by rw [HNM.out, ← hq]; exact hxx.out))
          have hge : decide ((q : Int) ≥ 0) = true := decide_eq_true (by omega)
          rw [hqi]
          have HQ := Lib.hid hq
          have hql : q < m := by omega
          have HBW := Lib.hid hbw
          have hsz := hbw.size
          clear hd hxx hqi b2k hq hbw
          go_wp2_with (at_builtin; refine wpList_append_own _ rfl _ _ 22 rfl w2.heap.size 3 i (.int .i64 0) 1 8 Tryd.underlying22 hi hz0 hz1 hz2 rfl (by decide) _ k (cellsI (ms.reverse.take k)) rfl (hown.alloc _) ⟨wr.heap.size, 0, none⟩ 1 1 [.int .i64 x] rfl rfl (cell_one_new _ _ _) (by simp [Value.oneCell']) (by unfold maxLen; omega) (by omega) (by simp; omega) ?_)
          intro v3 w3 o3 g3 hat
          have o3 : w3.ownsRow w2.heap.size 3 1 v3 (k + 1) (cellsI (ms.reverse.take (k + 1))) := by
            rw [HRT.out, show cellsI (ms.reverse.take k ++ [x]) = cellsI (ms.reverse.take k) ++ [Value.int .i64 x] by simp [cellsI]]; exact o3
          have b3 : Below w2.heap.size w2 w3 := (HBW.out.alloc hsz _).grown g3 (by simp; omega) (fun j hj => (hown.lt j hj).1)
          clear hown g3 hat
          go_wp2_with fail
          go_roundw
          case rel => exact ⟨k + 1, by omega, by have := HQ.out; congr 1; omega, o3, b3⟩
          case measure => simp [intOf] <;> omega
        · obtain rfl : k = m := by omega
          have hqi : (k : Int) - 1 - (k : Int) = -1 := by omega
          rw [hqi]
          have hbk := hown
          rw [List.take_of_length_le (by rw [List.length_reverse, HNM.out]; exact Nat.le_refl _)] at hbk
          have HBW := Lib.hid hbw
          have hsz := hbw.size
          have R1 := Lib.hid ((HR'.out.below (B2.out.trans (hbw.mono B2.out.size)) (Nat.le_refl _)))
          have hs0 := B2.out.size
          clear hqi hown hbw hlt hk
          go_wp2_with (at_builtin; refine wpList_append_rd _ rfl _ _ 22 rfl w2.heap.size 3 i (.int .i64 0) 1 8 Tryd.underlying22 hi hz0 hz1 hz2 rfl (by decide) _ k (cellsI ms.reverse) rfl hbk w.heap.size A' n' c' (cellsI qs) rfl LQ.out R1.out (cellsI_one _) (by unfold maxLen; omega) (by omega) hsz ?_)
          intro v3 w3 o3 g3 hat
          have b3 : Below w2.heap.size w2 w3 := HBW.out.grown g3 hsz (fun j hj => (hbk.lt j hj).1)
          have o3 : w3.ownsRow w2.heap.size 3 1 v3 (k + n') (cellsI (ms.reverse ++ qs)) := by
            rw [show cellsI (ms.reverse ++ qs) = cellsI ms.reverse ++ cellsI qs by simp [cellsI]]; exact o3
          obtain ⟨Ab, cb, rfl, -⟩ := own_slice o3
          have B3 := Lib.hid (B2.out.trans (b3.mono B2.out.size))
          have RA := Lib.hid ((RA.out.below b3 (Nat.le_refl _)).more b3.size)
          have RB := Lib.hid (rd_of_own o3)
          clear g3 hat hbk o3 b3 R1 HBW B2 hsz hs0
          go_wp2_with fail
          obtain ⟨wo, hwo⟩ : ∃ wo : World, wo = wr := ⟨_, rfl⟩
          clear hwo
          go_loopw [9, 11] (fun v j wx => ∃ k : Nat, k ≤ n ∧ j = .int .i64 ((n : Int) - 1 - k) ∧ wx.ownsRow w3.heap.size 3 1 v k (cellsI (ps.reverse.take k)) ∧ Below w3.heap.size w3 wx) (fun _ j _ => (intOf j + 1).toNat)
          case atStart => exact ⟨0, by omega, by simp, by simpa [cellsI] using World.ownsRow_nil _ _ _ _, Below.refl _ _⟩
          case round =>
            obtain ⟨j, hk, rfl, hown, hbw⟩ := hrel
            by_cases hlt : j < n
            · obtain ⟨q, hq⟩ : ∃ q : Nat, q = n - 1 - j := ⟨_, rfl⟩
              have hqi : (n : Int) - 1 - (j : Int) = (q : Int) := by omega
              have b2k := B3.out.trans (hbw.mono B3.out.size)
              obtain ⟨b, off, x, rfl, hb, hxk, hc, hd, hxx⟩ := (HR.out.below b2k (Nat.le_refl _)).at_ HX.out (k := q) (by rw [HN.out]; omega)
              have HRT := Lib.hid (rev_take (l := ps) (k := j) (x := x) (by rw [HN.out]; exact hlt) (by rw [HN.out, ← hq]; exact hxx.out))
              have hge : decide ((q : Int) ≥ 0) = true := decide_eq_true (by omega)
              rw [hqi]
              have HQ := Lib.hid hq
              have hql : q < n := by omega
              have HBW := Lib.hid hbw
              have hsz := hbw.size
              clear hd hxx hqi b2k hq hbw
              go_wp2_with (at_builtin; refine wpList_append_own _ rfl _ _ 22 rfl w3.heap.size 3 i (.int .i64 0) 1 8 Tryd.underlying22 hi hz0 hz1 hz2 rfl (by decide) _ j (cellsI (ps.reverse.take j)) rfl (hown.alloc _) ⟨wr.heap.size, 0, none⟩ 1 1 [.int .i64 x] rfl rfl (cell_one_new _ _ _) (by simp [Value.oneCell']) (by unfold maxLen; omega) (by omega) (by simp; omega) ?_)
              intro v4 w4 o4 g4 hat
              have o4 : w4.ownsRow w3.heap.size 3 1 v4 (j + 1) (cellsI (ps.reverse.take (j + 1))) := by
                rw [HRT.out, show cellsI (ps.reverse.take j ++ [x]) = cellsI (ps.reverse.take j) ++ [Value.int .i64 x] by simp [cellsI]]; exact o4
              have b4 : Below w3.heap.size w3 w4 := (HBW.out.alloc hsz _).grown g4 (by simp; omega) (fun j hj => (hown.lt j hj).1)
              clear hown g4 hat
              go_wp2_with fail
              go_roundw
              case rel => exact ⟨j + 1, by omega, by have := HQ.out; congr 1; omega, o4, b4⟩
              case measure => simp [intOf] <;> omega
            · obtain rfl : j = n := by omega
              have hqi : (j : Int) - 1 - (j : Int) = -1 := by omega
              rw [hqi]
              rw [List.take_of_length_le (by rw [List.length_reverse, HN.out]; exact Nat.le_refl _)] at hown
              obtain ⟨Ak, ck, rfl, -⟩ := own_slice hown
              have b4 := B3.out.trans (hbw.mono B3.out.size)
              have RA := Lib.hid ((RA.out.below hbw (Nat.le_refl _)).more hbw.size)
              have RB := Lib.hid ((RB.out.below hbw (Nat.le_refl _)).more hbw.size)
              have RK := Lib.hid (rd_of_own hown)
              have LK := Lib.hid (show ps.reverse.length = j by rw [List.length_reverse, HN.out])
              have LAB := Lib.hid (And.intro (show (ms ++ ps).length = k + j by rw [List.length_append, HNM.out, HN.out]) (show (ms.reverse ++ qs).length = k + n' by rw [List.length_append, List.length_reverse, HNM.out, HN'.out]))
              clear hqi hown hbw hlt hk B3
              obtain ⟨t, ht⟩ : ∃ t, equalF ps qs = t := ⟨_, rfl⟩
              obtain ⟨e1, he1⟩ : ∃ e, cwrongF ps qs = e := ⟨_, rfl⟩
              obtain ⟨t2, ht2⟩ : ∃ t, equalF (ms ++ ps) (ms.reverse ++ qs) = t := ⟨_, rfl⟩
              obtain ⟨e2, he2⟩ : ∃ e, cwrongF (ms ++ ps) (ms.reverse ++ qs) = e := ⟨_, rfl⟩
              obtain ⟨e3, he3⟩ : ∃ e, cwrongF ms [] = e := ⟨_, rfl⟩
              obtain ⟨t3, ht3⟩ : ∃ t, equalF ms [] = t := ⟨_, rfl⟩
              obtain ⟨e4, he4⟩ : ∃ e, cwrongF ps ps.reverse = e := ⟨_, rfl⟩
              obtain ⟨t4, ht4⟩ : ∃ t, equalF ps ps.reverse = t := ⟨_, rfl⟩
              rw [ht, he1] at HB
              rw [ht4, he4] at HSf
              rw [ht, he1, ht2, he2, he3] at HM
              have HE1 := Lib.hid (And.intro ht he1)
              have HE2 := Lib.hid (And.intro ht2 he2)
              have HE3 := Lib.hid (And.intro ht3 he3)
              have HE4 := Lib.hid (And.intro ht4 he4)
              have ml1 : j ≤ maxLen := by unfold maxLen; omega
              have ml2 : n' ≤ maxLen := by unfold maxLen; omega
              have ml3 : k ≤ maxLen := by unfold maxLen; omega
              have ml4 : k + j ≤ maxLen := by unfold maxLen; omega
              have ml5 : k + n' ≤ maxLen := by unfold maxLen; omega
              obtain ⟨W0, hW0⟩ : ∃ W, wr = W := ⟨_, rfl⟩
              rw [hW0] at b4 RA RB RK
              rw [hW0]
              have B4 := Lib.hid b4
              have c0 : Below W0.heap.size W0 W0 := Below.refl _ _
              have FP := Lib.hid (fun w1 (hb : Below W0.heap.size W0 w1) => (HR.out.below (B4.out.trans (hb.mono B4.out.size)) (Nat.le_refl _)))
              have FQ := Lib.hid (fun w1 (hb : Below W0.heap.size W0 w1) => (HR'.out.below (B4.out.trans (hb.mono B4.out.size)) (Nat.le_refl _)))
              have FM := Lib.hid (fun w1 (hb : Below W0.heap.size W0 w1) => (HRM.out.below (B4.out.trans (hb.mono B4.out.size)) (Nat.le_refl _)))
              have FT := Lib.hid (fun w1 (hb : Below W0.heap.size W0 w1) => TO.out w1 (B4.out.trans (hb.mono B4.out.size)))
              have FA := Lib.hid (fun w1 (hb : Below W0.heap.size W0 w1) => RA.out.below hb (Nat.le_refl _))
              have FB := Lib.hid (fun w1 (hb : Below W0.heap.size W0 w1) => RB.out.below hb (Nat.le_refl _))
              have FK := Lib.hid (fun w1 (hb : Below W0.heap.size W0 w1) => RK.out.below hb (Nat.le_refl _))
              clear b4 ht he1 ht2 he2 ht3 he3 ht4 he4 hW0 RA RB RK
              go_wp2_with fail
              refine (ints_any ps A j c _ W0 HN.out (FP.out W0 c0) z1).mono ?_
              rintro e X1 ⟨A1, d1, rfl, -, r1, -, hb⟩
              have c1 := c0.trans (hb.mono c0.size)
              have R1 := Lib.hid r1
              clear r1
              clear hb c0
              go_wp2_with fail
              refine (ints_any qs A' n' c' _ X1 HN'.out (FQ.out X1 c1) z2).mono ?_
              rintro e X2 ⟨A2, d2, rfl, -, r2, -, hb⟩
              have c2 := c1.trans (hb.mono c1.size)
              have R2 := Lib.hid r2
              clear r2
              have R1 := Lib.hid ((R1.out.below hb (Nat.le_refl _)).more hb.size)
              clear hb c1
              go_wp2_with fail
              have hc := equal_any ps qs A1 A2 j n' d1 d2 _ _ X2 HN.out HN'.out HX.out HX'.out R1.out R2.out ml1 ml2 (Nat.le_refl _) (Nat.le_refl _) (FT.out X2 c2)
              rw [HE1.out.1, HE1.out.2] at hc
              refine hc.mono ?_
              rintro e X3 ⟨rfl, hb⟩
              have c3 := c2.trans (hb.mono c2.size)
              clear hb hc c2 R1 R2
              go_wp2_with fail
              refine (ints_any qs A' n' c' _ X3 HN'.out (FQ.out X3 c3) z2).mono ?_
              rintro e X4 ⟨A2, d2, rfl, -, r2, -, hb⟩
              have c4 := c3.trans (hb.mono c3.size)
              have R2 := Lib.hid r2
              clear r2
              clear hb c3
              go_wp2_with fail
              have hc := equal_any ps.reverse qs Ak A2 j n' ck d2 _ _ X4 LK.out HN'.out (fit_rev HX.out) HX'.out (FK.out X4 c4) R2.out ml1 ml2 c4.size (Nat.le_refl _) (FT.out X4 c4)
              rw [HB.out.1, HB.out.2] at hc
              refine hc.mono ?_
              rintro e X5 ⟨rfl, hb⟩
              have c5 := c4.trans (hb.mono c4.size)
              clear hb hc c4 R2
              go_wp2_with fail
              have hc := equal_any (ms ++ ps) (ms.reverse ++ qs) Aa Ab (k + j) (k + n') ca cb _ _ X5 LAB.out.1 LAB.out.2 (fit_append HXM.out HX.out) (fit_append (fit_rev HXM.out) HX'.out) (FA.out X5 c5) (FB.out X5 c5) ml4 ml5 c5.size c5.size (FT.out X5 c5)
              rw [HE2.out.1, HE2.out.2] at hc
              refine hc.mono ?_
              rintro e X6 ⟨rfl, hb⟩
              have c6 := c5.trans (hb.mono c5.size)
              clear hb hc c5
              have q1 : (t != t) = false := by simp
              have q2 : (e1 != e1) = false := by simp
              go_wp2_with fail
              refine (ints_any ms Am k cm _ X6 HNM.out (FM.out X6 c6) z3).mono ?_
              rintro e X7 ⟨A3, d3, rfl, -, r3, -, hb⟩
              have c7 := c6.trans (hb.mono c6.size)
              have R3 := Lib.hid r3
              clear r3
              clear hb c6
              go_wp2_with fail
              have hc := equal_any ms [] A3 none k 0 d3 0 _ _ X7 HNM.out rfl HXM.out (fun x h => (by cases h)) R3.out (show Rd _ 0 none (cellsI []) from .inl rfl) ml3 (by unfold maxLen; omega) (Nat.le_refl _) (Nat.zero_le _) (FT.out X7 c7)
              rw [HE3.out.1, HE3.out.2] at hc
              refine hc.mono ?_
              rintro e X8 ⟨rfl, hb⟩
              have c8 := c7.trans (hb.mono c7.size)
              clear hb hc c7 R3 q1 q2
              go_wp2_with fail
              refine (ints_any ps A j c _ X8 HN.out (FP.out X8 c8) z1).mono ?_
              rintro e X9 ⟨A1, d1, rfl, -, r1, -, hb⟩
              have c9 := c8.trans (hb.mono c8.size)
              have R1 := Lib.hid r1
              clear r1
              clear hb c8
              go_wp2_with fail
              refine (ints_any ps.reverse Ak j ck _ X9 LK.out (FK.out X9 c9) z1).mono ?_
              rintro e X10 ⟨A2, d2, rfl, -, r2, -, hb⟩
              have c10 := c9.trans (hb.mono c9.size)
              have R2 := Lib.hid r2
              clear r2
              have R1 := Lib.hid ((R1.out.below hb (Nat.le_refl _)).more hb.size)
              clear hb c9
              go_wp2_with fail
              have hc := equal_any ps ps.reverse A1 A2 j j d1 d2 _ _ X10 HN.out LK.out HX.out (fit_rev HX.out) R1.out R2.out ml1 ml1 (Nat.le_refl _) (Nat.le_refl _) (FT.out X10 c10)
              rw [HE4.out.1, HE4.out.2] at hc
              refine hc.mono ?_
              rintro e X11 ⟨rfl, hb⟩
              have c11 := c10.trans (hb.mono c10.size)
              clear hb hc c10 R1 R2
              have HAW := Lib.hid (awake_any X11 (FT.out X11 c11))
              have HF := Lib.hid (B4.out.trans (c11.mono B4.out.size))
              clear c11
              have fin : ∀ X, Below X11.heap.size X11 X → Below w.heap.size w X := fun X h => HF.out.trans (h.mono HF.out.size)
              have FIN := Lib.hid fin
              clear fin
              by_cases q4 : e4 = 0
              · have h4 := HSf.out q4
                subst q4 h4
                by_cases q1 : e1 = 0
                · by_cases q3 : e3 = 0
                  · subst q1 q3
                    have hM := HM.out
                    rw [if_pos ⟨rfl, rfl⟩] at hM
                    obtain ⟨q2, qt⟩ := hM
                    subst q2 qt
                    have qq : (t2 == t2) = true := by simp
                    go_wp2_with fail
                    refine HAW.out.mono ?_
                    rintro e Y ⟨rfl, hb⟩
                    go_wp2_with fail
                    go_ret
                    exact ⟨rfl, FIN.out _ hb⟩
                  · subst q1
                    have hM := HM.out
                    rw [if_neg (fun h => q3 h.2)] at hM
                    obtain ⟨q2, qt⟩ := hM
                    subst q2 qt
                    have qq : (e3 != 0) = true := by simpa using q3
                    clear q3
                    go_wp2_with fail
                    refine HAW.out.mono ?_
                    rintro e Y ⟨rfl, hb⟩
                    go_wp2_with fail
                    go_ret
                    exact ⟨rfl, FIN.out _ hb⟩
                · have hM := HM.out
                  rw [if_neg (fun h => q1 h.1)] at hM
                  obtain ⟨q2, qt⟩ := hM
                  subst q2 qt
                  have qq : (e1 != 0) = true := by simpa using q1
                  clear q1
                  go_wp2_with fail
                  refine HAW.out.mono ?_
                  rintro e Y ⟨rfl, hb⟩
                  go_wp2_with fail
                  go_ret
                  exact ⟨rfl, FIN.out _ hb⟩
              · have q5 : (e4 == 0) = false := by simpa using q4
                clear q4
                by_cases q1 : e1 = 0
                · by_cases q3 : e3 = 0
                  · subst q1 q3
                    have hM := HM.out
                    rw [if_pos ⟨rfl, rfl⟩] at hM
                    obtain ⟨q2, qt⟩ := hM
                    subst q2 qt
                    have qq : (t2 == t2) = true := by simp
                    go_wp2_with fail
                    refine HAW.out.mono ?_
                    rintro e Y ⟨rfl, hb⟩
                    go_wp2_with fail
                    go_ret
                    exact ⟨rfl, FIN.out _ hb⟩
                  · subst q1
                    have hM := HM.out
                    rw [if_neg (fun h => q3 h.2)] at hM
                    obtain ⟨q2, qt⟩ := hM
                    subst q2 qt
                    have qq : (e3 != 0) = true := by simpa using q3
                    clear q3
                    go_wp2_with fail
                    refine HAW.out.mono ?_
                    rintro e Y ⟨rfl, hb⟩
                    go_wp2_with fail
                    go_ret
                    exact ⟨rfl, FIN.out _ hb⟩
                · have hM := HM.out
                  rw [if_neg (fun h => q1 h.1)] at hM
                  obtain ⟨q2, qt⟩ := hM
                  subst q2 qt
                  have qq : (e1 != 0) = true := by simpa using q1
                  clear q1
                  go_wp2_with fail
                  refine HAW.out.mono ?_
                  rintro e Y ⟨rfl, hb⟩
                  go_wp2_with fail
                  go_ret
                  exact ⟨rfl, FIN.out _ hb⟩
end Go.Proofs.YtblkcdenmgkddaaDoor
