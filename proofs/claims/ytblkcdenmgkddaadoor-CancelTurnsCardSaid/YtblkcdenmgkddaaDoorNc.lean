/-
  cancel.Reduce, cancel.Equal: what they answer.
-/
import Derived.Test.YtblkcdenmgkddaaDoorNb
import Derived.Test.YtblkcdenmgkddaaDoorOr2
namespace Go.Proofs.YtblkcdenmgkddaaDoor
open Go.RowKit

theorem own_mono2 {w : World} {base base' : Nat} {e : TypeId} {size n : Nat} {v : Value} {xs : List Value} (h : w.ownsRow base e size v n xs) (hb : base' ≤ base) : w.ownsRow base' e size v n xs := by
  refine ⟨h.1, ?_⟩
  rcases h.2 with h | ⟨g, cap, cur, h1, h2, h3⟩
  · exact .inl h
  · exact .inr ⟨g, cap, cur, h1, by omega, h3⟩
theorem redRow_step {x0 x b j : Nat} {bs0 bs : List Nat} (H : redRow x0 bs0 = ((redRow x (bs.drop j)).1, bs.take j ++ (redRow x (bs.drop j)).2)) (hb : bs[j]? = some b) :
    redRow x0 bs0 = ((redRow (x / Nat.gcd x b) ((bs.set j (b / Nat.gcd x b)).drop (j + 1))).1, (bs.set j (b / Nat.gcd x b)).take (j + 1) ++ (redRow (x / Nat.gcd x b) ((bs.set j (b / Nat.gcd x b)).drop (j + 1))).2) := by
  obtain ⟨hj, rfl⟩ := List.getElem?_eq_some_iff.1 hb
  have e1 : bs.drop j = bs[j] :: bs.drop (j + 1) := List.drop_eq_getElem_cons hj
  have e2 : (bs.set j (bs[j] / Nat.gcd x bs[j])).drop (j + 1) = bs.drop (j + 1) := by
    rw [List.drop_set, if_pos (by omega)]
  have e3 : (bs.set j (bs[j] / Nat.gcd x bs[j])).take (j + 1) = bs.take j ++ [bs[j] / Nat.gcd x bs[j]] := by
    rw [List.take_succ_eq_append_getElem (by simpa using hj), List.getElem_set_self, List.take_set_of_le (Nat.le_refl _)]
  rw [e2, e3, H, e1]
  simp [redRow]
theorem redRow_one (bs : List Nat) : redRow 1 bs = (1, bs) := by
  induction bs with
  | nil => rfl
  | cons b bs ih => simp only [redRow, Nat.gcd_one_left, Nat.div_one, ih]
theorem redRow_brk {x0 j : Nat} {bs0 bs : List Nat} (H : redRow x0 bs0 = ((redRow 1 (bs.drop j)).1, bs.take j ++ (redRow 1 (bs.drop j)).2)) : redRow x0 bs0 = (1, bs) := by
  rw [H, redRow_one]; simp
theorem redRow_end {x0 x j : Nat} {bs0 bs : List Nat} (H : redRow x0 bs0 = ((redRow x (bs.drop j)).1, bs.take j ++ (redRow x (bs.drop j)).2)) (hj : bs.length ≤ j) : redRow x0 bs0 = (x, bs) := by
  rw [H, List.drop_eq_nil_of_le hj, redRow_nil, List.take_of_length_le hj]; simp
theorem redGo_step {i x x1 : Nat} {ps qs us bs bs1 : List Nat} (H : redGo ps qs = (us.take i ++ (redGo (us.drop i) bs).1, (redGo (us.drop i) bs).2)) (hx : us[i]? = some x) (hr : redRow x bs = (x1, bs1)) :
    redGo ps qs = ((us.set i x1).take (i + 1) ++ (redGo ((us.set i x1).drop (i + 1)) bs1).1, (redGo ((us.set i x1).drop (i + 1)) bs1).2) := by
  obtain ⟨hi, rfl⟩ := List.getElem?_eq_some_iff.1 hx
  have e1 : us.drop i = us[i] :: us.drop (i + 1) := List.drop_eq_getElem_cons hi
  have e2 : (us.set i x1).drop (i + 1) = us.drop (i + 1) := by rw [List.drop_set, if_pos (by omega)]
  have e3 : (us.set i x1).take (i + 1) = us.take i ++ [x1] := by
    rw [List.take_succ_eq_append_getElem (by simpa using hi), List.getElem_set_self, List.take_set_of_le (Nat.le_refl _)]
  rw [e2, e3, H, e1]
  simp [redGo, hr]
theorem redGo_end {i : Nat} {ps qs us bs : List Nat} (H : redGo ps qs = (us.take i ++ (redGo (us.drop i) bs).1, (redGo (us.drop i) bs).2)) (hi : us.length ≤ i) : redGo ps qs = (us, bs) := by
  rw [H, List.drop_eq_nil_of_le hi, List.take_of_length_le hi]; simp [redGo]

theorem gcd_two (x y : Nat) (b : Nat) (w : World) (hx1 : 1 ≤ x) (hx : x ≤ 9223372036854775807) (hy : y ≤ 9223372036854775807) (hr : Rd w (b + 1) (some ⟨b, 0, none⟩) (cellsI [(x : Int), (y : Int)])) (hT : Tab w) :
    Calls Tryd.prog 31 #[.slice (some ⟨b, 0, none⟩) 2 2] w fun e w' => e = .returned (.tuple #[.int .i64 (Nat.gcd x y : Nat), .bool true]) ∧ w = w' := by
  refine (gcd_any [(x : Int), (y : Int)] _ 2 2 (b + 1) w rfl (fun z hz => ?_) hr (by unfold maxLen; simp) hT).mono ?_
  · simp only [List.mem_cons, List.not_mem_nil, or_false] at hz
    unfold fits
    rcases hz with rfl | rfl <;> omega
  · rintro e w' ⟨rfl, rfl⟩
    have e : gcdFrom 0 [(x : Int), (y : Int)] = Nat.gcd x y := by simp [gcdFrom]
    have hg : Nat.gcd x y ≤ x := Nat.gcd_le_left _ hx1
    rw [e]
    exact ⟨tup2 (val_yes (by unfold fits; omega)).symm (b_yes (by unfold fits; omega)).symm, rfl⟩

structure RdSt (w wr : World) (ga gb n n' : Nat) (us bs : List Nat) : Prop where
  oa : wr.ownsRow w.heap.size 3 1 (.slice (some ⟨ga, 0, none⟩) n n) n (cellsI (castL us))
  ob : wr.ownsRow w.heap.size 3 1 (.slice (some ⟨gb, 0, none⟩) n' n') n' (cellsI (castL bs))
  ne : ga ≠ gb
  ga0 : w.heap.size ≤ ga
  gb0 : w.heap.size ≤ gb
  bw : Below w.heap.size w wr
  la : us.length = n
  lb : bs.length = n'
theorem RdSt.alloc {w wr : World} {ga gb n n' : Nat} {us bs : List Nat} (h : RdSt w wr ga gb n n' us bs) (o : Obj) : RdSt w (wr.alloc o) ga gb n n' us bs :=
  ⟨h.oa.alloc o, h.ob.alloc o, h.ne, h.ga0, h.gb0, h.bw.alloc h.bw.size o, h.la, h.lb⟩
theorem RdSt.drawn {w wr : World} {ga gb n n' : Nat} {us bs : List Nat} (h : RdSt w wr ga gb n n' us bs) (d : Nat) : RdSt w (wr.drewN d) ga gb n n' us bs :=
  ⟨h.oa, h.ob, h.ne, h.ga0, h.gb0, Below.drewN h.bw d, h.la, h.lb⟩
theorem RdSt.below {w wr w2 : World} {ga gb n n' : Nat} {us bs : List Nat} (h : RdSt w wr ga gb n n' us bs) (hb : Below wr.heap.size wr w2) : RdSt w w2 ga gb n n' us bs :=
  ⟨own_below h.oa hb, own_below h.ob hb, h.ne, h.ga0, h.gb0, h.bw.trans (hb.mono h.bw.size), h.la, h.lb⟩
theorem RdSt.setA {w wr : World} {ga gb n n' : Nat} {us bs : List Nat} (h : RdSt w wr ga gb n n' us bs) (k x : Nat) : RdSt w (wr.setCell ⟨ga, k, none⟩ (.int .i64 (x : Nat))) ga gb n n' (us.set k x) bs := by
  refine ⟨?_, ?_, h.ne, h.ga0, h.gb0, h.bw.setCell h.ga0 _, by simpa using h.la, h.lb⟩
  · rw [show cellsI (castL (us.set k x)) = (cellsI (castL us)).set k (.int .i64 (x : Nat)) by simp [cellsI, castL, List.map_set]]
    exact (h.oa.stored k (.int .i64 (x : Nat))).1
  · exact ownsRow_setCell_other h.ob (by show some gb ≠ some ga; intro he; exact h.ne (by injection he with he; exact he.symm)) _
theorem RdSt.setB {w wr : World} {ga gb n n' : Nat} {us bs : List Nat} (h : RdSt w wr ga gb n n' us bs) (k x : Nat) : RdSt w (wr.setCell ⟨gb, k, none⟩ (.int .i64 (x : Nat))) ga gb n n' us (bs.set k x) := by
  refine ⟨?_, ?_, h.ne, h.ga0, h.gb0, h.bw.setCell h.gb0 _, h.la, by simpa using h.lb⟩
  · exact ownsRow_setCell_other h.oa (by show some ga ≠ some gb; intro he; exact h.ne (by injection he)) _
  · rw [show cellsI (castL (bs.set k x)) = (cellsI (castL bs)).set k (.int .i64 (x : Nat)) by simp [cellsI, castL, List.map_set]]
    exact (h.ob.stored k (.int .i64 (x : Nat))).1
theorem RdSt.cellA {w wr : World} {ga gb n n' : Nat} {us bs : List Nat} (h : RdSt w wr ga gb n n' us bs) {k x : Nat} (hk : us[k]? = some x) : wr.cell? ⟨ga, k, none⟩ = some (.int .i64 (x : Nat)) := by
  have hl := (List.getElem?_eq_some_iff.1 hk).1
  rw [h.oa.cellAt k (by have := h.la; omega)]
  simp [cellsI, castL, hk]
theorem RdSt.cellB {w wr : World} {ga gb n n' : Nat} {us bs : List Nat} (h : RdSt w wr ga gb n n' us bs) {k x : Nat} (hk : bs[k]? = some x) : wr.cell? ⟨gb, k, none⟩ = some (.int .i64 (x : Nat)) := by
  have hl := (List.getElem?_eq_some_iff.1 hk).1
  rw [h.ob.cellAt k (by have := h.lb; omega)]
  simp [cellsI, castL, hk]
/-- what Reduce answers of lists that may be -/
def RedPost (w : World) (ps qs : List Nat) (e : Ending) (w' : World) : Prop :=
  ∃ ga gb, e = .returned (.tuple #[.slice (some ⟨ga, 0, none⟩) ps.length ps.length, .slice (some ⟨gb, 0, none⟩) qs.length qs.length, .int .i64 0]) ∧ RdSt w w' ga gb ps.length qs.length (redGo ps qs).1 (redGo ps qs).2

structure GcR (W0 : World) (ga gb n n' k j x b g : Nat) (L : Nat → Bool) (V : Nat → Value) (w : World) : Prop where
  p : Below W0.heap.size W0 w
  zs : L 8 = true → ∃ g9, V 48 = .slice (some ⟨g9, 0, none⟩) 2 2 ∧ Rd w (g9 + 1) (some ⟨g9, 0, none⟩) (cellsI [(x : Int), (b : Int)])
  e9 : L 9 = true → V 49 = .tuple #[.int .i64 (g : Nat), .bool true]
  e10 : L 10 = true → V 39 = .tuple #[.int .i64 (g : Nat), .bool true]
  e11 : L 11 = true → V 50 = .int .i64 (g : Nat)
  e12 : L 12 = true → V 51 = .bool true
  e13 : L 13 = true → V 12 = .int .i64 (g : Nat)
  e14 : L 14 = true → V 13 = .bool true
  e0 : L 0 = true → V 40 = .slice (some ⟨ga, 0, none⟩) n n
  e1 : L 1 = true → V 41 = .int .i64 (k : Nat)
  e2 : L 2 = true → V 42 = .pointer (some ⟨ga, k, none⟩)
  e3 : L 3 = true → V 43 = .int .i64 (x : Nat)
  e4 : L 4 = true → V 44 = .slice (some ⟨gb, 0, none⟩) n' n'
  e5 : L 5 = true → V 45 = .int .i64 (j : Nat)
  e6 : L 6 = true → V 46 = .pointer (some ⟨gb, j, none⟩)
  e7 : L 7 = true → V 47 = .int .i64 (b : Nat)
theorem nat_quo (x g : Nat) : (x : Int) / (g : Int) = ((x / g : Nat) : Int) := by rw [Int.natCast_ediv]

set_option maxRecDepth 100000 in
set_option maxHeartbeats 4000000 in
theorem reduce_ok (ps qs : List Nat) (A A' : Option Addr) (c c' B B' : Nat) (w : World) (hp : OkL ps) (hq : OkL qs) (hn : ps.length ≤ 1024) (hn' : qs.length ≤ 1024) (hr : Rd w B A (cellsI (castL ps))) (hr' : Rd w B' A' (cellsI (castL qs)))
    (hB : B ≤ w.heap.size) (hB' : B' ≤ w.heap.size) (hT : Tab w) :
    Calls Tryd.prog 12 #[.slice A ps.length c, .slice A' qs.length c'] w (RedPost w ps qs) := by
  have hlp : clowB (castL ps) = false := by
    unfold clowB; rw [List.any_eq_false]; intro x hx
    obtain ⟨n, hn, rfl⟩ := List.mem_map.1 hx
    have := (hp n hn).1
    simp; omega
  have hlq : clowB (castL qs) = false := by
    unfold clowB; rw [List.any_eq_false]; intro x hx
    obtain ⟨n, hn, rfl⟩ := List.mem_map.1 hx
    have := (hq n hn).1
    simp; omega
  have hw : cwrongF (castL ps) (castL qs) = 0 := by
    unfold cwrongF
    rw [castL_length, castL_length, if_neg (by omega), hlp, hlq]; rfl
  have HW := Lib.hid (cwrong_any (castL ps) (castL qs) A A' ps.length qs.length c c' B B' w (castL_length ps) (castL_length qs) hp.fit hq.fit hr hr' (by unfold maxLen; omega) (by unfold maxLen; omega))
  rw [hw] at HW
  have HA := Lib.hid (own_any (castL ps) A ps.length c B w (castL_length ps) hr (by omega) hB)
  have HB := Lib.hid fun w1 (hb : Below w.heap.size w w1) => own_any (castL qs) A' qs.length c' B' w1 (castL_length qs) (hr'.below hb hB') (by omega) (Nat.le_trans hB' hb.size)
  have HT := Lib.hid hT
  have HP := Lib.hid hp
  have HQ := Lib.hid hq
  have tabOf : ∀ w1, Below w.heap.size w w1 → Tab w1 := fun w1 hb => hT.below hb hT.pos
  have TO := Lib.hid tabOf
  clear hlp hlq hw hr hr' hB hB' hT tabOf hp hq
  obtain ⟨n, hpn⟩ : ∃ n, ps.length = n := ⟨_, rfl⟩
  obtain ⟨n', hqn⟩ : ∃ n, qs.length = n := ⟨_, rfl⟩
  unfold RedPost
  rw [hpn] at hn HW HA ⊢
  rw [hqn] at hn' HW HB ⊢
  have HPn := Lib.hid hpn
  have HQn := Lib.hid hqn
  clear hpn hqn
  go_enter Tryd.func12, Tryd.ntmps12
  go_wp2_with fail
  refine HW.out.mono ?_
  rintro e w' ⟨rfl, rfl⟩
  go_wp2_with fail
  refine HA.out.mono ?_
  rintro e w1 ⟨rfl, o1, b1⟩
  go_wp2_with fail
  refine (HB.out w1 b1).mono ?_
  rintro e w2 ⟨rfl, o2, b2⟩
  have hlt1 : w.heap.size < w1.heap.size := (o1.lt _ rfl).2
  obtain ⟨ga, hga⟩ : ∃ g, w.heap.size = g := ⟨_, rfl⟩
  obtain ⟨gb, hgb⟩ : ∃ g, w1.heap.size = g := ⟨_, rfl⟩
  have S0 : RdSt w w2 ga gb n n' ps qs := ⟨by rw [← hga]; exact own_below o1 b2, by rw [← hgb]; exact own_mono2 o2 (by omega), by omega, by omega, by omega, b1.trans (b2.mono (by omega)), HPn.out, HQn.out⟩
  rw [hga] at hlt1 ⊢
  rw [hgb] at hlt1 ⊢
  clear hga hgb o1 b1 o2 b2 hlt1 HPn HQn HA HB HW HT
  go_wp2_with fail
  go_loopw [26] (fun i wr => ∃ (k : Nat) (us bs : List Nat), k ≤ n ∧ i = .int .i64 k ∧ RdSt w wr ga gb n n' us bs ∧ Hid (OkL us) ∧ Hid (OkL bs) ∧ Hid (redGo ps qs = (us.take k ++ (redGo (us.drop k) bs).1, (redGo (us.drop k) bs).2))) (fun i _ => n - (intOf i).toNat)
  case atStart => exact ⟨0, ps, qs, Nat.zero_le _, rfl, S0, HP, HQ, by unfold Hid; simp⟩
  case round =>
    clear S0 HP HQ
    obtain ⟨k, us, bs, hk, rfl, S, HU, HB, HG⟩ := hrel
    by_cases hlt : k < n
    · obtain ⟨x0, hx0⟩ : ∃ x, us[k]? = some x := ⟨_, List.getElem?_eq_getElem (by rw [S.la]; exact hlt)⟩
      obtain ⟨x01, x02⟩ := HU.out x0 (List.mem_of_getElem? hx0)
      have HX0 := Lib.hid hx0
      have HUl := Lib.hid S.la
      clear hx0
      go_wp2_with fail
      obtain ⟨wo, hwo⟩ : ∃ wo : World, wo = wr := ⟨_, rfl⟩
      have S0 : RdSt w wr ga gb n n' (us.set k x0) bs := by
        rw [show us.set k x0 = us from by
          obtain ⟨h1, h2⟩ := List.getElem?_eq_some_iff.1 HX0.out
          rw [← h2, List.set_getElem_self]]
        exact S
      have HGU := Lib.hid (show ∀ x1 bs1, redRow x0 bs = (x1, bs1) → redGo ps qs = ((us.set k x1).take (k + 1) ++ (redGo ((us.set k x1).drop (k + 1)) bs1).1, (redGo ((us.set k x1).drop (k + 1)) bs1).2) from fun x1 bs1 h => redGo_step HG.out HX0.out h)
      clear S HG
      go_loopg [31] n' (fun gg s31 wx => ∃ (j x : Nat) (cs : List Nat), j ≤ n' ∧ n' - j ≤ gg ∧ s31 = .int .i64 j ∧ RdSt w wx ga gb n n' (us.set k x) cs ∧ 1 ≤ x ∧ x ≤ 9223372036854775807 ∧ Hid (OkL cs) ∧ Hid (redRow x0 bs = ((redRow x (cs.drop j)).1, cs.take j ++ (redRow x (cs.drop j)).2)))
      case atStart => exact ⟨0, x0, bs, Nat.zero_le _, by omega, rfl, S0, x01, x02, HB, by unfold Hid; simp⟩
      case round =>
        clear S0 hwo
        obtain ⟨j, x, cs, hj, hg, rfl, S, hx1, hx2, HC, HR⟩ := hrel
        have hul : (us.set k x)[k]? = some x := by rw [List.getElem?_set_self (by rw [HUl.out]; exact hlt)]
        have fa := S.cellA hul
        have za := S.oa.frozenAt k
        have HUx : Hid (OkL (us.set k x)) := Lib.hid (HU.out.set k hx1 hx2)
        clear hul
        by_cases hjl : j < n'
        · by_cases hx : x = 1
          · subst hx
            have HF := Lib.hid (HGU.out _ _ (redRow_brk HR.out))
            go_wp2_with fail
            go_roundw
            case rel => exact ⟨k + 1, _, cs, by omega, by go_num, S, HUx, HC, HF⟩
            case measure => simp [intOf]; omega
          · have hxe : ((x : Int) == 1) = false := by simp; omega
            obtain ⟨b, hb⟩ : ∃ b, cs[j]? = some b := ⟨_, List.getElem?_eq_getElem (by rw [S.lb]; exact hjl)⟩
            obtain ⟨hb1, hb2⟩ := HC.out b (List.mem_of_getElem? hb)
            have fb := S.cellB hb
            have zb := S.ob.frozenAt j
            have hba := S.bw
            have hgd : Nat.gcd x b ≤ x := Nat.gcd_le_left _ hx1
            have hg1 : 1 ≤ Nat.gcd x b := Nat.gcd_pos_of_pos_left _ hx1
            have q1 : 1 ≤ x / Nat.gcd x b := Nat.div_pos hgd hg1
            have q2 : x / Nat.gcd x b ≤ x := Nat.div_le_self _ _
            have q3 : 1 ≤ b / Nat.gcd x b := Nat.div_pos (Nat.gcd_le_right _ hb1) hg1
            have q4 : b / Nat.gcd x b ≤ b := Nat.div_le_self _ _
            have HR2 := Lib.hid (redRow_step HR.out hb)
            have HC2 := Lib.hid (HC.out.set j q3 (by omega))
            have e1 := nat_quo x (Nat.gcd x b)
            have e2 := nat_quo b (Nat.gcd x b)
            obtain ⟨g, hgg⟩ : ∃ g, Nat.gcd x b = g := ⟨_, rfl⟩
            have HGD := Lib.hid fun (bk : Nat) (w : World) (hr : Rd w (bk + 1) (some ⟨bk, 0, none⟩) (cellsI [(x : Int), (b : Int)])) (hT : Tab w) => gcd_two x b bk w hx1 hx2 hb2 hr hT
            rw [hgg] at hgd hg1 q1 q2 q3 q4 HR2 HC2 e1 e2 HGD
            obtain ⟨x', hx'⟩ : ∃ x', x / g = x' := ⟨_, rfl⟩
            obtain ⟨b', hb'⟩ : ∃ b', b / g = b' := ⟨_, rfl⟩
            rw [hx'] at q1 q2 HR2 e1
            rw [hb'] at q3 q4 HC2 HR2 e2
            have hne1 := S.ne
            have hne2 : gb ≠ ga := fun h => hne1 h.symm
            have HE1 := Lib.hid e1
            have HE2 := Lib.hid e2
            have HUl2 := Lib.hid (show (us.set k x).set k x' = us.set k x' by rw [List.set_set])
            have HBJ := Lib.hid hb
            clear hgg hx' hb' hb e1 e2 HR
            go_wp2_with fail
            have i1 : (0 : Int) ≤ (k : Int) := by omega
            have i2 : (k : Int) < (n : Int) := by omega
            have i3 : (0 : Int) ≤ (j : Int) := by omega
            have i4 : (j : Int) < (n' : Int) := by omega
            have hga : ga < wr.heap.size := (S.oa.lt _ rfl).2
            have hgb : gb < wr.heap.size := (S.ob.lt _ rfl).2
            have FA := Lib.hid fa
            have FB := Lib.hid fb
            have HB0 := Lib.hid S.bw
            clear fa fb za zb
            have hI0 : ∀ V, GcR wr ga gb n n' k j x b g (fun _ => false) V wr.drew := fun V => by
              have h0 : Below wr.heap.size wr wr.drew := Drawn.below _ ((Drawn.refl wr).drewN 1)
              constructor
              all_goals first
                | exact h0
                | (intro h; cases h)
            refine wp_region_put3 [12, 13, 39, 40, 41, 42, 43, 44, 45, 46, 47, 48, 49, 50, 51] (GcR wr ga gb n n' k j x b g) (by kernel_rfl) (by kernel_rfl) ?_ ?_ ?_
            · exact hI0 _
            · intro i o ho L V w1 hi hL hno h K hK
              rcases i with _ | _ | _ | _ | _ | _ | _ | _ | _ | _ | _ | _ | _ | _ | _ | i
              · replace ho := Option.some.inj ho
                subst ho
                simp only [putAll, List.foldl_cons, List.foldl_nil, List.setIfInBounds_toArray, List.set_cons_zero, List.set_cons_succ]
                clear hL hno
                go_simp
                refine hK (updV V 40 (.slice (some ⟨ga, 0, none⟩) n n)) _ _ (by simp [putAll, updV]) ?_
                exact { h with e0 := fun _ => rfl }
              · replace ho := Option.some.inj ho
                subst ho
                simp only [putAll, List.foldl_cons, List.foldl_nil, List.setIfInBounds_toArray, List.set_cons_zero, List.set_cons_succ]
                clear hL hno
                go_simp
                refine hK (updV V 41 (.int .i64 (k : Nat))) _ _ (by simp [putAll, updV]) ?_
                exact { h with e1 := fun _ => rfl }
              · replace ho := Option.some.inj ho
                subst ho
                simp only [putAll, List.foldl_cons, List.foldl_nil, List.setIfInBounds_toArray, List.set_cons_zero, List.set_cons_succ]
                have e0 : V 40 = _ := h.e0 (hL ⟨0, .data⟩ (by simp) rfl)
                have e1 : V 41 = _ := h.e1 (hL ⟨1, .data⟩ (by simp) rfl)
                clear hL hno
                go_simp
                refine hK (updV V 42 (.pointer (some ⟨ga, k, none⟩))) _ _ (by simp [putAll, updV, e0, e1]) ?_
                exact { h with e2 := fun _ => rfl }
              · replace ho := Option.some.inj ho
                subst ho
                simp only [putAll, List.foldl_cons, List.foldl_nil, List.setIfInBounds_toArray, List.set_cons_zero, List.set_cons_succ]
                have e2 : V 42 = _ := h.e2 (hL ⟨2, .data⟩ (by simp) rfl)
                have ct := (h.p.cell (p := ⟨ga, k, none⟩) hga).trans FA.out
                clear hL hno
                go_simp
                refine hK (updV V 43 (.int .i64 (x : Nat))) _ _ (by simp [putAll, updV, e2]) ?_
                exact { h with e3 := fun _ => rfl }
              · replace ho := Option.some.inj ho
                subst ho
                simp only [putAll, List.foldl_cons, List.foldl_nil, List.setIfInBounds_toArray, List.set_cons_zero, List.set_cons_succ]
                clear hL hno
                go_simp
                refine hK (updV V 44 (.slice (some ⟨gb, 0, none⟩) n' n')) _ _ (by simp [putAll, updV]) ?_
                exact { h with e4 := fun _ => rfl }
              · replace ho := Option.some.inj ho
                subst ho
                simp only [putAll, List.foldl_cons, List.foldl_nil, List.setIfInBounds_toArray, List.set_cons_zero, List.set_cons_succ]
                clear hL hno
                go_simp
                refine hK (updV V 45 (.int .i64 (j : Nat))) _ _ (by simp [putAll, updV]) ?_
                exact { h with e5 := fun _ => rfl }
              · replace ho := Option.some.inj ho
                subst ho
                simp only [putAll, List.foldl_cons, List.foldl_nil, List.setIfInBounds_toArray, List.set_cons_zero, List.set_cons_succ]
                have e4 : V 44 = _ := h.e4 (hL ⟨4, .data⟩ (by simp) rfl)
                have e5 : V 45 = _ := h.e5 (hL ⟨5, .data⟩ (by simp) rfl)
                clear hL hno
                go_simp
                refine hK (updV V 46 (.pointer (some ⟨gb, j, none⟩))) _ _ (by simp [putAll, updV, e4, e5]) ?_
                exact { h with e6 := fun _ => rfl }
              · replace ho := Option.some.inj ho
                subst ho
                simp only [putAll, List.foldl_cons, List.foldl_nil, List.setIfInBounds_toArray, List.set_cons_zero, List.set_cons_succ]
                have e6 : V 46 = _ := h.e6 (hL ⟨6, .data⟩ (by simp) rfl)
                have ct := (h.p.cell (p := ⟨gb, j, none⟩) hgb).trans FB.out
                clear hL hno
                go_simp
                refine hK (updV V 47 (.int .i64 (b : Nat))) _ _ (by simp [putAll, updV, e6]) ?_
                exact { h with e7 := fun _ => rfl }
              · replace ho := Option.some.inj ho
                subst ho
                have e3 : V 43 = _ := h.e3 (hL ⟨3, .data⟩ (by simp) rfl)
                have e7 : V 47 = _ := h.e7 (hL ⟨7, .data⟩ (by simp) rfl)
                have l9 : L 9 = false := hno 9 (by kernel_rfl)
                clear hL hno
                simp only [putAll, List.foldl_cons, List.foldl_nil, List.setIfInBounds_toArray, List.set_cons_zero, List.set_cons_succ]
                have hb := (Below.refl w1.heap.size w1).alloc (Nat.le_refl _) (.cells #[.int .i64 (x : Nat), .int .i64 (b : Nat)] 3)
                have hnew := rd_alloc w1 _ rfl 3 (cellsI [(x : Int), (b : Int)])
                go_simp
                refine hK (updV V 48 (.slice (some ⟨w1.heap.size, 0, none⟩) 2 2)) _ _ (by simp [putAll, updV, e3, e7]) ?_
                exact { h with
                  p := h.p.trans (hb.mono h.p.size)
                  zs := fun _ => ⟨_, rfl, hnew⟩
                  e9 := fun hn => (by cases (hn.symm.trans l9)) }
              · replace ho := Option.some.inj ho
                subst ho
                have t8 : L 8 = true := hL ⟨8, .data⟩ (by simp) rfl
                clear hL hno
                simp only [putAll, List.foldl_cons, List.foldl_nil, List.setIfInBounds_toArray, List.set_cons_zero, List.set_cons_succ]
                refine Exists.elim (h.zs t8) fun g9 hq => ?_
                have q1 := hq.1
                have q2 := hq.2
                have q3 := TO.out w1 (HB0.out.trans (h.p.mono HB0.out.size))
                clear hq
                go_simp
                refine (HGD.out g9 w1 q2 q3).mono ?_
                rintro e w3 ⟨rfl, rfl⟩
                refine hK (updV V 49 (.tuple #[.int .i64 (g : Nat), .bool true])) _ _ (by simp [putAll, updV, q1]) ?_
                exact { h with e9 := fun _ => rfl }
              · replace ho := Option.some.inj ho
                subst ho
                have e9 : V 49 = _ := h.e9 (hL ⟨9, .data⟩ (by simp) rfl)
                clear hL hno
                simp only [putAll, List.foldl_cons, List.foldl_nil, List.setIfInBounds_toArray, List.set_cons_zero, List.set_cons_succ]
                go_simp
                refine hK (updV V 39 (.tuple #[.int .i64 (g : Nat), .bool true])) _ _ (by simp [putAll, updV, e9]) ?_
                exact { h with e10 := fun _ => rfl }
              · replace ho := Option.some.inj ho
                subst ho
                have e10 : V 39 = _ := h.e10 (hL ⟨10, .data⟩ (by simp) rfl)
                clear hL hno
                simp only [putAll, List.foldl_cons, List.foldl_nil, List.setIfInBounds_toArray, List.set_cons_zero, List.set_cons_succ]
                go_simp
                refine hK (updV V 50 (.int .i64 (g : Nat))) _ _ (by simp [putAll, updV, e10]) ?_
                exact { h with e11 := fun _ => rfl }
              · replace ho := Option.some.inj ho
                subst ho
                have e10 : V 39 = _ := h.e10 (hL ⟨10, .data⟩ (by simp) rfl)
                clear hL hno
                simp only [putAll, List.foldl_cons, List.foldl_nil, List.setIfInBounds_toArray, List.set_cons_zero, List.set_cons_succ]
                go_simp
                refine hK (updV V 51 (.bool true)) _ _ (by simp [putAll, updV, e10]) ?_
                exact { h with e12 := fun _ => rfl }
              · replace ho := Option.some.inj ho
                subst ho
                have e11 : V 50 = _ := h.e11 (hL ⟨11, .data⟩ (by simp) rfl)
                clear hL hno
                simp only [putAll, List.foldl_cons, List.foldl_nil, List.setIfInBounds_toArray, List.set_cons_zero, List.set_cons_succ]
                go_simp
                refine hK (updV V 12 (.int .i64 (g : Nat))) _ _ (by simp [putAll, updV, e11]) ?_
                exact { h with e13 := fun _ => rfl }
              · replace ho := Option.some.inj ho
                subst ho
                have e12 : V 51 = _ := h.e12 (hL ⟨12, .data⟩ (by simp) rfl)
                clear hL hno
                simp only [putAll, List.foldl_cons, List.foldl_nil, List.setIfInBounds_toArray, List.set_cons_zero, List.set_cons_succ]
                go_simp
                refine hK (updV V 13 (.bool true)) _ _ (by simp [putAll, updV, e12]) ?_
                exact { h with e14 := fun _ => rfl }
              · simp at ho
            · clear hI0
              intro L V w5 hL h
              have t13 : L 13 = true := hL 13 (by simp)
              have t14 : L 14 = true := hL 14 (by simp)
              have e13 := h.e13 t13
              have e14 := h.e14 t14
              have bp := h.p
              simp only [putAll, List.foldl_cons, List.foldl_nil, List.setIfInBounds_toArray, List.set_cons_zero, List.set_cons_succ, e13, e14]
              have S5 := S.below bp
              clear h hL t13 t14 e13 e14 bp S FA FB
              have hul : (us.set k x)[k]? = some x := by rw [List.getElem?_set_self (by rw [HUl.out]; exact hlt)]
              have fa := S5.cellA hul
              have za := S5.oa.frozenAt k
              have fb := S5.cellB HBJ.out
              have zb := S5.ob.frozenAt j
              have S6 := S5.setA k x'
              rw [HUl2.out] at S6
              have S7 := S6.setB j b'
              have HE1 := HE1.out
              have HE2 := HE2.out
              clear S5 S6 hul
              go_wp2_with fail
              go_roundg (n' - (j + 1))
              case measure => omega
              case rel => exact ⟨j + 1, x', _, by omega, by omega, by go_num, S7, q1, by omega, HC2, HR2⟩
        · have HF := Lib.hid (HGU.out _ _ (redRow_end HR.out (by rw [S.lb]; omega)))
          go_wp2_with fail
          go_roundw
          case rel => exact ⟨k + 1, _, cs, by omega, by go_num, S, HUx, HC, HF⟩
          case measure => simp [intOf]; omega
    · have HF := Lib.hid (redGo_end HG.out (by rw [S.la]; omega))
      go_wp2_with fail
      go_ret3
      exact ⟨ga, gb, rfl, by rw [HF.out]; exact S⟩
end Go.Proofs.YtblkcdenmgkddaaDoor
