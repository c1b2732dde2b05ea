/-
  The document's answer for cancel: Wrong, Equal, Reduce.
-/
import Derived.Test.YtblkcdenmgkddaaDoorNe
import Derived.Test.YtblkcdenmgkddaaDoorIi
import Derived.Test.YtblkcdenmgkddaaDoorAp4
namespace Go.Proofs.YtblkcdenmgkddaaDoor
open Go.RowKit

theorem clowB_take {xs : List Int} {k : Nat} (h : ∀ j x, j < k → xs[j]? = some x → 1 ≤ x) (hk : k = xs.length) : clowB xs = false :=
  any_take_false (fun j x hj hx => by have := h j x hj hx; exact decide_eq_false (by omega)) hk

set_option maxHeartbeats 1000000 in
theorem refWrong_any (ps qs : List Int) (A A' : Option Addr) (n n' c c' B B' : Nat) (w : World) (hn : ps.length = n) (hn' : qs.length = n') (hx : AllFit ps) (hx' : AllFit qs) (hr : Rd w B A (cellsI ps)) (hr' : Rd w B' A' (cellsI qs)) (hl : n ≤ maxLen) (hl' : n' ≤ maxLen) :
    Calls Tryd.prog 32 #[.slice A n c, .slice A' n' c'] w fun e w' => e = .returned (.int .i64 (cwrongF ps qs)) ∧ w = w' := by
  unfold maxLen at hl hl'
  by_cases h1 : 1024 < n
  · have hw : cwrongF ps qs = 2 := by unfold cwrongF; rw [if_pos (by omega)]
    rw [hw]
    have d1 : decide ((n : Int) > 1024) = true := decide_eq_true (by omega)
    clear hw
    go_enter Tryd.func32, Tryd.ntmps32
    go_wp2
    go_ret
    exact ⟨rfl, rfl⟩
  · by_cases h2 : 1024 < n'
    · have hw : cwrongF ps qs = 2 := by unfold cwrongF; rw [if_pos (by omega)]
      rw [hw]
      have d1 : decide ((n : Int) > 1024) = false := decide_eq_false (by omega)
      have d2 : decide ((n' : Int) > 1024) = true := decide_eq_true (by omega)
      clear hw
      go_enter Tryd.func32, Tryd.ntmps32
      go_wp2
      go_ret
      exact ⟨rfl, rfl⟩
    · have d1 : decide ((n : Int) > 1024) = false := decide_eq_false (by omega)
      have d2 : decide ((n' : Int) > 1024) = false := decide_eq_false (by omega)
      have hw : cwrongF ps qs = if (clowB ps || clowB qs) = true then 1 else 0 := by unfold cwrongF; rw [if_neg (by omega)]
      have HW := Lib.hid hw
      have HN := Lib.hid hn
      have HN' := Lib.hid hn'
      obtain ⟨r, hre⟩ : ∃ r, cwrongF ps qs = r := ⟨_, rfl⟩
      rw [hre] at HW ⊢
      clear hw hn hn' hre
      go_enter Tryd.func32, Tryd.ntmps32
      go_wp2
      go_loop [5] (fun i => ∃ k : Nat, k ≤ n ∧ i = .int .i64 k ∧ Hid (∀ j x, j < k → ps[j]? = some x → 1 ≤ x)) (fun i => n - (intOf i).toNat)
      case atStart => exact ⟨0, Nat.zero_le _, rfl, fun j x hj => absurd hj (Nat.not_lt_zero _)⟩
      case round =>
        obtain ⟨k, hk, rfl, H⟩ := hrel
        by_cases hlt : k < n
        · obtain ⟨b, off, x, rfl, hb, hxk, hc, hd, hxx⟩ := hr.at_ hx (k := k) (by rw [HN.out]; exact hlt)
          by_cases hx1 : x < 1
          · have hR : r = 1 := by
              rw [HW.out, show clowB ps = true from any_hit hxx.out (decide_eq_true hx1)]; rfl
            have HR := Lib.hid hR
            clear hd hR
            go_wp2
            go_ret
            exact ⟨ret1 HR.out.symm, rfl⟩
          · clear hd
            go_wp2
            go_round
            case rel =>
              refine ⟨k + 1, by omega, by go_num, (show Hid _ from fun j y hj hy => ?_)⟩
              by_cases e : j = k
              · subst e
                rw [hxx.out] at hy
                injection hy with hy
                omega
              · exact H.out j y (by omega) hy
            case measure => simp [intOf]; omega
        · have HP := Lib.hid (clowB_take H.out (by rw [HN.out]; omega))
          clear H
          go_wp2
          go_loop [6] (fun i => ∃ k : Nat, k ≤ n' ∧ i = .int .i64 k ∧ Hid (∀ j x, j < k → qs[j]? = some x → 1 ≤ x)) (fun i => n' - (intOf i).toNat)
          case atStart => exact ⟨0, Nat.zero_le _, rfl, fun j x hj => absurd hj (Nat.not_lt_zero _)⟩
          case round =>
            obtain ⟨k', hk', rfl, H⟩ := hrel
            by_cases hlt' : k' < n'
            · obtain ⟨b, off, x, rfl, hb, hxk, hc, hd, hxx⟩ := hr'.at_ hx' (k := k') (by rw [HN'.out]; exact hlt')
              by_cases hx1 : x < 1
              · have hR : r = 1 := by
                  rw [HW.out, show clowB qs = true from any_hit hxx.out (decide_eq_true hx1), Bool.or_true]; rfl
                have HR := Lib.hid hR
                clear hd hR
                go_wp2
                go_ret
                exact ⟨ret1 HR.out.symm, rfl⟩
              · clear hd
                go_wp2
                go_round
                case rel =>
                  refine ⟨k' + 1, by omega, by go_num, (show Hid _ from fun j y hj hy => ?_)⟩
                  by_cases e : j = k'
                  · subst e
                    rw [hxx.out] at hy
                    injection hy with hy
                    omega
                  · exact H.out j y (by omega) hy
                case measure => simp [intOf]; omega
            · have HQ := Lib.hid (clowB_take H.out (by rw [HN'.out]; omega))
              have HR := Lib.hid (show r = 0 by rw [HW.out, HP.out, HQ.out]; rfl)
              clear H
              go_wp2
              go_ret
              exact ⟨ret1 HR.out.symm, rfl⟩
theorem tupb {a b : Bool} {z : Int} (h : a = b) : Ending.returned (.tuple #[.bool a, .int .i64 z]) = .returned (.tuple #[.bool b, .int .i64 z]) := by rw [h]
theorem cmpI_zero {x y : Int} : (cmpI x y == 0) = decide (x = y) := by
  by_cases h : x = y
  · rw [cmpI_eq h, decide_eq_true h]; rfl
  · rw [decide_eq_false h]
    rcases Int.lt_or_gt_of_ne h with h | h
    · rw [cmpI_lt h]; rfl
    · rw [cmpI_gt h]; rfl
set_option maxHeartbeats 1000000 in
theorem refEqual_any (ps qs : List Int) (A A' : Option Addr) (n n' c c' B B' : Nat) (w : World) (hn : ps.length = n) (hn' : qs.length = n') (hx : AllFit ps) (hx' : AllFit qs) (hr : Rd w B A (cellsI ps)) (hr' : Rd w B' A' (cellsI qs)) (hl : n ≤ maxLen) (hl' : n' ≤ maxLen)
    (hB : B ≤ w.heap.size) (hB' : B' ≤ w.heap.size) :
    Calls Tryd.prog 19 #[.slice A n c, .slice A' n' c'] w fun e w' => e = .returned (.tuple #[.bool (equalF ps qs), .int .i64 (cwrongF ps qs)]) ∧ Below w.heap.size w w' := by
  have HW := Lib.hid (refWrong_any ps qs A A' n n' c c' B B' w hn hn' hx hx' hr hr' hl hl')
  by_cases hw : cwrongF ps qs = 0
  · obtain ⟨h1, h2, h3, h4⟩ := cwrongF_ok hw
    have HP := Lib.hid (product_any ps A n c B w hn hx hr (by omega) hB)
    have HQ := Lib.hid fun w1 (hb : Below w.heap.size w w1) => product_any qs A' n' c' B' w1 hn' hx' (hr'.below hb hB') (by omega) (Nat.le_trans hB' hb.size)
    have hE : equalF ps qs = decide (prodZ ps = prodZ qs) := by
      unfold equalF
      rw [hw, decide_eq_true rfl, Bool.true_and, ← natL_cast h3, ← natL_cast h4, prodZ_cast, prodZ_cast, natL_castL, natL_castL, decide_eq_decide]
      omega
    rw [hE, hw]
    rw [hw] at HW
    obtain ⟨x, hxe⟩ : ∃ x, prodZ ps = x := ⟨_, rfl⟩
    obtain ⟨y, hye⟩ : ∃ y, prodZ qs = y := ⟨_, rfl⟩
    rw [hxe] at HP ⊢
    rw [hye] at HQ ⊢
    have HC := Lib.hid (@cmpI_zero x y)
    clear hx hx' hr hr' hl hl' hn hn' hB hB' h1 h2 h3 h4 hE hxe hye hw
    go_enter Tryd.func19, Tryd.ntmps19
    go_wp2_with fail
    refine HW.out.mono ?_
    rintro e w' ⟨rfl, rfl⟩
    go_wp2_with fail
    refine HP.out.mono ?_
    rintro e w1 ⟨s1, A1, c1, k1, rfl, q1, -, b1⟩
    go_wp2_with fail
    refine (HQ.out w1 b1).mono ?_
    rintro e w2 ⟨s2, A2, c2, k2, rfl, q2, -, b2⟩
    have q1 := q1.below b2
    have b3 := b1.trans (b2.mono b1.size)
    go_wp2_with fail
    refine (cmp_any _ _ x y k1 k2 w2 q1 q2).mono ?_
    rintro e w3 ⟨rfl, b4⟩
    have b5 := b3.trans (b4.mono b3.size)
    clear q1 q2 b1 b2 b3 b4
    go_wp2_with fail
    go_ret2
    exact ⟨tupb HC.out, b5⟩
  · have hE : equalF ps qs = false := by unfold equalF; rw [decide_eq_false hw]; rfl
    rw [hE]
    obtain ⟨e, he⟩ : ∃ e, cwrongF ps qs = e := ⟨_, rfl⟩
    rw [he] at HW hw ⊢
    have he0 : (e != 0) = true := by simpa using hw
    clear hx hx' hr hr' hl hl' hn hn' he hw hB hB' hE
    go_enter Tryd.func19, Tryd.ntmps19
    go_wp2_with fail
    refine HW.out.mono ?_
    rintro e w' ⟨rfl, rfl⟩
    go_wp2_with fail
    go_ret2
    exact ⟨rfl, Below.refl _ _⟩

/-- two lists' memory, wherever it lies -/
structure RdG (w wr : World) (Aa Ab : Option Addr) (ca cb n n' : Nat) (us bs : List Nat) : Prop where
  oa : wr.ownsRow w.heap.size 3 1 (.slice Aa n ca) n (cellsI (castL us))
  ob : wr.ownsRow w.heap.size 3 1 (.slice Ab n' cb) n' (cellsI (castL bs))
  ne : ∀ k, blkOf Aa = some k → blkOf Ab ≠ some k
  bw : Below w.heap.size w wr
  la : us.length = n
  lb : bs.length = n'
theorem RdG.drawn {w wr : World} {Aa Ab : Option Addr} {ca cb n n' : Nat} {us bs : List Nat} (h : RdG w wr Aa Ab ca cb n n' us bs) (d : Nat) : RdG w (wr.drewN d) Aa Ab ca cb n n' us bs :=
  ⟨h.oa, h.ob, h.ne, Below.drewN h.bw d, h.la, h.lb⟩
theorem RdG.setA {w wr : World} {ga : Nat} {Ab : Option Addr} {ca cb n n' : Nat} {us bs : List Nat} (h : RdG w wr (some ⟨ga, 0, none⟩) Ab ca cb n n' us bs) (k x : Nat) : RdG w (wr.setCell ⟨ga, k, none⟩ (.int .i64 (x : Nat))) (some ⟨ga, 0, none⟩) Ab ca cb n n' (us.set k x) bs := by
  refine ⟨?_, ?_, h.ne, h.bw.setCell (h.oa.lt ga rfl).1 _, by simpa using h.la, h.lb⟩
  · rw [show cellsI (castL (us.set k x)) = (cellsI (castL us)).set k (.int .i64 (x : Nat)) by simp [cellsI, castL, List.map_set]]
    exact (h.oa.stored k (.int .i64 (x : Nat))).1
  · exact ownsRow_setCell_other h.ob (by rw [ownBlock_slice]; exact h.ne ga rfl) _
theorem RdG.setB {w wr : World} {gb : Nat} {Aa : Option Addr} {ca cb n n' : Nat} {us bs : List Nat} (h : RdG w wr Aa (some ⟨gb, 0, none⟩) ca cb n n' us bs) (k x : Nat) : RdG w (wr.setCell ⟨gb, k, none⟩ (.int .i64 (x : Nat))) Aa (some ⟨gb, 0, none⟩) ca cb n n' us (bs.set k x) := by
  refine ⟨?_, ?_, h.ne, h.bw.setCell (h.ob.lt gb rfl).1 _, h.la, by simpa using h.lb⟩
  · exact ownsRow_setCell_other h.oa (by rw [ownBlock_slice]; intro he; exact h.ne gb he rfl) _
  · rw [show cellsI (castL (bs.set k x)) = (cellsI (castL bs)).set k (.int .i64 (x : Nat)) by simp [cellsI, castL, List.map_set]]
    exact (h.ob.stored k (.int .i64 (x : Nat))).1
theorem RdG.cellA {w wr : World} {ga : Nat} {Ab : Option Addr} {ca cb n n' : Nat} {us bs : List Nat} (h : RdG w wr (some ⟨ga, 0, none⟩) Ab ca cb n n' us bs) {k x : Nat} (hk : us[k]? = some x) : wr.cell? ⟨ga, k, none⟩ = some (.int .i64 (x : Nat)) := by
  have hl := (List.getElem?_eq_some_iff.1 hk).1
  rw [h.oa.cellAt k (by have := h.la; omega)]
  simp [cellsI, castL, hk]
theorem RdG.cellB {w wr : World} {gb : Nat} {Aa : Option Addr} {ca cb n n' : Nat} {us bs : List Nat} (h : RdG w wr Aa (some ⟨gb, 0, none⟩) ca cb n n' us bs) {k x : Nat} (hk : bs[k]? = some x) : wr.cell? ⟨gb, k, none⟩ = some (.int .i64 (x : Nat)) := by
  have hl := (List.getElem?_eq_some_iff.1 hk).1
  rw [h.ob.cellAt k (by have := h.lb; omega)]
  simp [cellsI, castL, hk]
/-- what the document's Reduce answers of lists that may be -/
def RefRedPost (w : World) (ps qs : List Nat) (e : Ending) (w' : World) : Prop :=
  ∃ Aa Ab ca cb, e = .returned (.tuple #[.slice Aa ps.length ca, .slice Ab qs.length cb, .int .i64 0]) ∧ RdG w w' Aa Ab ca cb ps.length qs.length (redGo ps qs).1 (redGo ps qs).2

set_option maxRecDepth 100000 in
set_option maxHeartbeats 4000000 in
theorem refReduce_ok (ps qs : List Nat) (A A' : Option Addr) (c c' B B' : Nat) (w : World) (hp : OkL ps) (hq : OkL qs) (hn : ps.length ≤ 1024) (hn' : qs.length ≤ 1024) (hr : Rd w B A (cellsI (castL ps))) (hr' : Rd w B' A' (cellsI (castL qs)))
    (hB' : B' ≤ w.heap.size) :
    Calls Tryd.prog 13 #[.slice A ps.length c, .slice A' qs.length c'] w (RefRedPost w ps qs) := by
  have hw : cwrongF (castL ps) (castL qs) = 0 := by
    unfold cwrongF
    rw [castL_length, castL_length, if_neg (by omega), clowB_castL hp, clowB_castL hq]; rfl
  have HW := Lib.hid (refWrong_any (castL ps) (castL qs) A A' ps.length qs.length c c' B B' w (castL_length ps) (castL_length qs) hp.fit hq.fit hr hr' (by unfold maxLen; omega) (by unfold maxLen; omega))
  rw [hw] at HW
  have HA := Lib.hid (ints_any (castL ps) A ps.length c B w (castL_length ps) hr (by omega))
  have HB := Lib.hid fun w1 (hb : Below w.heap.size w w1) => ints_any (castL qs) A' qs.length c' B' w1 (castL_length qs) (hr'.below hb hB') (by omega)
  have HP := Lib.hid hp
  have HQ := Lib.hid hq
  clear hw hr hr' hB' hp hq
  obtain ⟨n, hpn⟩ : ∃ n, ps.length = n := ⟨_, rfl⟩
  obtain ⟨n', hqn⟩ : ∃ n, qs.length = n := ⟨_, rfl⟩
  unfold RefRedPost
  rw [hpn] at hn HW HA ⊢
  rw [hqn] at hn' HW HB ⊢
  have HPn := Lib.hid hpn
  have HQn := Lib.hid hqn
  clear hpn hqn
  go_enter Tryd.func13, Tryd.ntmps13
  go_wp2_with fail
  refine HW.out.mono ?_
  rintro e w' ⟨rfl, rfl⟩
  go_wp2_with fail
  refine HA.out.mono ?_
  rintro e w1 ⟨Aa, ca, rfl, -, -, o1, b1⟩
  go_wp2_with fail
  refine (HB.out w1 b1).mono ?_
  rintro e w2 ⟨Ab, cb, rfl, -, -, o2, b2⟩
  have S0 : RdG w w2 Aa Ab ca cb n n' ps qs := ⟨own_below o1 b2, own_mono2 o2 b1.size, fun k h1 h2 => by
    have h3 := (o1.lt k (by rw [ownBlock_slice]; exact h1)).2
    have h4 := (o2.lt k (by rw [ownBlock_slice]; exact h2)).1
    omega, b1.trans (b2.mono b1.size), HPn.out, HQn.out⟩
  clear o1 b1 o2 b2 HPn HQn HA HB HW
  go_wp2_with fail
  go_loopw [10] (fun i wr => ∃ (k : Nat) (us bs : List Nat), k ≤ n ∧ i = .int .i64 k ∧ RdG w wr Aa Ab ca cb n n' us bs ∧ Hid (OkL us) ∧ Hid (OkL bs) ∧ Hid (redGo ps qs = (us.take k ++ (redGo (us.drop k) bs).1, (redGo (us.drop k) bs).2))) (fun i _ => n - (intOf i).toNat)
  case atStart => exact ⟨0, ps, qs, Nat.zero_le _, rfl, S0, HP, HQ, by unfold Hid; simp⟩
  case round =>
    clear S0 HP HQ
    obtain ⟨k, us, bs, hk, rfl, S, HU, HB, HG⟩ := hrel
    by_cases hlt : k < n
    · obtain ⟨x0, hx0⟩ : ∃ x, us[k]? = some x := ⟨_, List.getElem?_eq_getElem (by rw [S.la]; exact hlt)⟩
      obtain ⟨x01, x02⟩ := HU.out x0 (List.mem_of_getElem? hx0)
      have HX0 := Lib.hid hx0
      have HUl := Lib.hid S.la
      clear hx0
      go_wp2_with fail
      have S0 : RdG w wr Aa Ab ca cb n n' (us.set k x0) bs := by
        rw [show us.set k x0 = us from by
          obtain ⟨h1, h2⟩ := List.getElem?_eq_some_iff.1 HX0.out
          rw [← h2, List.set_getElem_self]]
        exact S
      have HGU := Lib.hid (show ∀ x1 bs1, redRow x0 bs = (x1, bs1) → redGo ps qs = ((us.set k x1).take (k + 1) ++ (redGo ((us.set k x1).drop (k + 1)) bs1).1, (redGo ((us.set k x1).drop (k + 1)) bs1).2) from fun x1 bs1 h => redGo_step HG.out HX0.out h)
      clear S HG
      go_loopw [11] (fun s31 wx => ∃ (j x : Nat) (cs : List Nat), j ≤ n' ∧ s31 = .int .i64 j ∧ RdG w wx Aa Ab ca cb n n' (us.set k x) cs ∧ 1 ≤ x ∧ x ≤ 9223372036854775807 ∧ Hid (OkL cs) ∧ Hid (redRow x0 bs = ((redRow x (cs.drop j)).1, cs.take j ++ (redRow x (cs.drop j)).2))) (fun i _ => n' - (intOf i).toNat)
      case atStart => exact ⟨0, x0, bs, Nat.zero_le _, rfl, S0, x01, x02, HB, by unfold Hid; simp⟩
      case round =>
        clear S0
        obtain ⟨j, x, cs, hj, rfl, S, hx1, hx2, HC, HR⟩ := hrel
        have HUx : Hid (OkL (us.set k x)) := Lib.hid (HU.out.set k hx1 hx2)
        by_cases hjl : j < n'
        · have hul : (us.set k x)[k]? = some x := by rw [List.getElem?_set_self (by rw [HUl.out]; exact hlt)]
          obtain ⟨b, hb⟩ : ∃ b, cs[j]? = some b := ⟨_, List.getElem?_eq_getElem (by rw [S.lb]; exact hjl)⟩
          obtain ⟨ga, rfl⟩ := own_addr S.oa (by omega)
          obtain ⟨gb, rfl⟩ := own_addr S.ob (by omega)
          obtain ⟨hb1, hb2⟩ := HC.out b (List.mem_of_getElem? hb)
          have fa := S.cellA hul
          have za := S.oa.frozenAt k
          have fb := S.cellB hb
          have zb := S.ob.frozenAt j
          have hgd : Nat.gcd x b ≤ x := Nat.gcd_le_left _ hx1
          have hg1 : 1 ≤ Nat.gcd x b := Nat.gcd_pos_of_pos_left _ hx1
          have q1 : 1 ≤ x / Nat.gcd x b := Nat.div_pos hgd hg1
          have q2 : x / Nat.gcd x b ≤ x := Nat.div_le_self _ _
          have q3 : 1 ≤ b / Nat.gcd x b := Nat.div_pos (Nat.gcd_le_right _ hb1) hg1
          have q4 : b / Nat.gcd x b ≤ b := Nat.div_le_self _ _
          have HR2 := Lib.hid (redRow_step HR.out hb)
          have HC2 := Lib.hid (HC.out.set j q3 (by omega))
          have e1 := nat_quo x (Nat.gcd x b)
          have e2 := nat_quo b (Nat.gcd x b)
          have HCM := Lib.hid (fun w => common_any x b (by omega) (by omega) w)
          obtain ⟨g, hgg⟩ : ∃ g, Nat.gcd x b = g := ⟨_, rfl⟩
          rw [hgg] at hgd hg1 q1 q2 q3 q4 HR2 HC2 e1 e2 HCM
          obtain ⟨x', hx'⟩ : ∃ x', x / g = x' := ⟨_, rfl⟩
          obtain ⟨b', hb'⟩ : ∃ b', b / g = b' := ⟨_, rfl⟩
          rw [hx'] at q1 q2 HR2 e1
          rw [hb'] at q3 q4 HC2 HR2 e2
          have hne1 : ga ≠ gb := fun h => S.ne ga rfl (by rw [h]; rfl)
          have hne2 : gb ≠ ga := fun h => hne1 h.symm
          have HE1 := Lib.hid e1
          have HE2 := Lib.hid e2
          have HUl2 := Lib.hid (show (us.set k x).set k x' = us.set k x' by rw [List.set_set])
          have i1 : (0 : Int) ≤ (k : Int) := by omega
          have i2 : (k : Int) < (n : Int) := by omega
          have i3 : (0 : Int) ≤ (j : Int) := by omega
          have i4 : (j : Int) < (n' : Int) := by omega
          have HXu := Lib.hid (show IntKind.u64.wrap (x : Int) = (x : Int) by rw [IntKind.wrap_u64]; omega)
          have HBu := Lib.hid (show IntKind.u64.wrap (b : Int) = (b : Int) by rw [IntKind.wrap_u64]; omega)
          have HGi := Lib.hid (show IntKind.i64.wrap (g : Int) = (g : Int) by rw [IntKind.wrap_i64]; omega)
          clear hgg hx' hb' hb e1 e2 HR hul
          go_wp2_with fail
          have hxu := HXu.out
          have hbu := HBu.out
          have hgi := HGi.out
          go_quiet ((go_at_call 23; exact Calls.quiet_of_same ((HCM.out _).mono fun _ _ ⟨h, h'⟩ => ⟨h, h'.symm⟩)))
          clear hxu hbu hgi
          have hgp : (1 : Int) ≤ (g : Int) := by omega
          have HE1 := HE1.out
          have HE2 := HE2.out
          have S7 := Lib.hid (show ∀ d, RdG w (((wr.drewN d).setCell ⟨ga, k, none⟩ (.int .i64 (x' : Nat))).setCell ⟨gb, j, none⟩ (.int .i64 (b' : Nat))) (some ⟨ga, 0, none⟩) (some ⟨gb, 0, none⟩) ca cb n n' (us.set k x') (cs.set j b') from fun d => by
            have h := (S.drawn d).setA k x'
            rw [HUl2.out] at h
            exact h.setB j b')
          clear S
          go_wp2_with fail
          go_roundw
          case rel => exact ⟨j + 1, x', _, by omega, by go_num, S7.out _, q1, by omega, HC2, HR2⟩
          case measure => simp [intOf]; omega
        · have HF := Lib.hid (HGU.out _ _ (redRow_end HR.out (by rw [S.lb]; omega)))
          go_wp2_with fail
          go_roundw
          case rel => exact ⟨k + 1, _, cs, by omega, by go_num, S, HUx, HC, HF⟩
          case measure => simp [intOf]; omega
    · have HF := Lib.hid (redGo_end HG.out (by rw [S.la]; omega))
      go_wp2_with fail
      go_ret3
      exact ⟨Aa, Ab, ca, cb, rfl, by rw [HF.out]; exact S⟩
end Go.Proofs.YtblkcdenmgkddaaDoor
