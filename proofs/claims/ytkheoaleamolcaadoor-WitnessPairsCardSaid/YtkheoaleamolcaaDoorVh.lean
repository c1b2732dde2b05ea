/-
  WitnessPairs: it answers true.
-/
import Derived.Test.YtkheoaleamolcaaDoorVe
import Derived.IntWalk
namespace Go.Proofs.YtkheoaleamolcaaDoor
open Go.RowKit

theorem one_law {n : Int} {ars : List ArcV} {i : Nat} {a : ArcV} (h0 : checkF n ars = 0) (ha : ars[i]? = some a) : confirmF n ars [((i : Int), false)] = if a.f = a.t then (if a.g = a.k then 121 else 0) else 120 := by
  have hi := (List.getElem?_eq_some_iff.1 ha).1
  have e := arc_at ha false
  have e1 : allIn ars.length [((i : Int), false)] = true := by simp [allIn, inS]; omega
  have e2 : closesB ars [((i : Int), false)] = decide (a.f = a.t) := by
    rw [Bool.eq_iff_iff, closesB_iff, decide_eq_true_iff]
    simp [Closes, rot1, toS, fromS, e]
    exact ⟨Eq.symm, Eq.symm⟩
  unfold confirmF
  rw [if_neg (by omega), e1, e2]
  simp [giveS, takeS, e, prodZ]
theorem two_law {n : Int} {ars : List ArcV} {i j : Nat} {a b : ArcV} (h0 : checkF n ars = 0) (ha : ars[i]? = some a) (hb : ars[j]? = some b) : confirmF n ars [((i : Int), false), ((j : Int), true)] = if i ≠ j ∧ a.f ≠ a.t ∧ a.f = b.f ∧ a.t = b.t then (if a.g * b.k = a.k * b.g then 121 else 0) else 120 := by
  have hi := (List.getElem?_eq_some_iff.1 ha).1
  have hj := (List.getElem?_eq_some_iff.1 hb).1
  have e := arc_at ha false
  have e' := arc_at hb true
  have e1 : allIn ars.length [((i : Int), false), ((j : Int), true)] = true := by simp [allIn, inS]; omega
  have e2 : closesB ars [((i : Int), false), ((j : Int), true)] = decide (i ≠ j ∧ a.f ≠ a.t ∧ a.f = b.f ∧ a.t = b.t) := by
    rw [Bool.eq_iff_iff, closesB_iff, decide_eq_true_iff]
    simp [Closes, rot1, toS, fromS, e, e']
    constructor
    · rintro ⟨⟨h1, h2⟩, h3, h4⟩
      exact ⟨by omega, by omega, h2.symm, h1⟩
    · rintro ⟨h1, h2, h3, h4⟩
      exact ⟨⟨h4, h3.symm⟩, by omega, by omega⟩
  unfold confirmF
  rw [if_neg (by omega), e1, e2]
  simp [giveS, takeS, e, e', prodZ]

set_option maxRecDepth 100000 in
set_option maxHeartbeats 8000000 in
theorem wpairs_any (n : Int) (ars : List ArcV) (A : Option Addr) (l c : Nat) (i j : Int) (w : World) (hl : ars.length = l) (hx : ∀ a ∈ ars, a.fit) (hr : Rd w w.heap.size A (cellsA ars)) (hm : l ≤ maxLen) (hi : fits i) (hj : fits j) (hT : Tab w) :
    Calls Tryd.prog 7 #[.agg #[.int .i64 n, .slice A l c], .int .i64 i, .int .i64 j] w fun e w' => e = .returned (.bool true) ∧ Below w.heap.size w w' := by
  obtain ⟨W, hW⟩ : ∃ W, w.alloc (.cells #[.int .i64 n, .slice A l c] 24) = W := ⟨_, rfl⟩
  have bW : Below w.heap.size w W := by subst hW; exact (Below.refl _ _).alloc (Nat.le_refl _) _
  have k0 : Blk W w.heap.size 24 #[.int .i64 n, .slice A l c] := by subst hW; exact Blk.new w _ rfl _ _
  have hWs : W.heap.size = w.heap.size + 1 := by subst hW; simp
  have TO := Lib.hid (fun w1 (hb : Below w.heap.size w w1) => hT.below hb hT.pos)
  have FA := Lib.hid (fun w1 (hb : Below w.heap.size w w1) => (hr.below hb (Nat.le_refl _)).more hb.size)
  have HCF := Lib.hid (fun (p : List StI) (m : Nat) (k : Int) (w1 : World) (hb : Below w.heap.size w w1) (hp : p.length = m) (hf : FitT p) (hmp : m ≤ 100) (hk : confirmF n ars p = k) => confirm_new n ars A l c p m k w1 hl hx (FA.out w1 hb) hm hp hf hmp hk (TO.out w1 hb))
  have HC := Lib.hid (refCheck_any n ars A l c W hl hx (FA.out W bW) hm)
  have HX := Lib.hid hx
  have K0 := Lib.hid k0
  have f0 := k0.cell 0
  have f1 := k0.cell 1
  simp at f0 f1
  clear hT hr hx k0
  by_cases h0 : checkF n ars = 0
  · rw [h0] at HC
    go_enter Tryd.func7, Tryd.ntmps7
    go_wp2_with fail
    try rw [hW]
    refine HC.out.mono ?_
    rintro e w2 ⟨rfl, hb2⟩
    have b2 := bW.trans (hb2.mono (by omega))
    have k2 := K0.out.lowr hb2 (by omega)
    have f0 := k2.cell 0
    have f1 := k2.cell 1
    simp at f0 f1
    have K2 := Lib.hid k2
    have hlw := k2.lt
    clear hW hb2 bW k2 K0 HC
    by_cases h1 : i < 0
    · have d1 : decide (i < 0) = true := decide_eq_true h1
      go_wp2_with fail
      refine (awake_any w2 (TO.out w2 b2)).mono ?_
      rintro e w7 ⟨rfl, hb7⟩
      have b7 := b2.trans (hb7.mono b2.size)
      clear hb7
      go_wp2_with fail
      go_ret
      exact ⟨rfl, b7⟩
    have d1 : decide (i < 0) = false := decide_eq_false h1
    by_cases h2 : j < 0
    · have d2 : decide (j < 0) = true := decide_eq_true h2
      go_wp2_with fail
      refine (awake_any w2 (TO.out w2 b2)).mono ?_
      rintro e w7 ⟨rfl, hb7⟩
      have b7 := b2.trans (hb7.mono b2.size)
      clear hb7
      go_wp2_with fail
      go_ret
      exact ⟨rfl, b7⟩
    have d2 : decide (j < 0) = false := decide_eq_false h2
    by_cases h3 : i ≥ (l : Int)
    · have d3 : decide (i ≥ (l : Int)) = true := decide_eq_true h3
      go_wp2_with fail
      refine (awake_any w2 (TO.out w2 b2)).mono ?_
      rintro e w7 ⟨rfl, hb7⟩
      have b7 := b2.trans (hb7.mono b2.size)
      clear hb7
      go_wp2_with fail
      go_ret
      exact ⟨rfl, b7⟩
    have d3 : decide (i ≥ (l : Int)) = false := decide_eq_false h3
    by_cases h4 : j ≥ (l : Int)
    · have d4 : decide (j ≥ (l : Int)) = true := decide_eq_true h4
      go_wp2_with fail
      refine (awake_any w2 (TO.out w2 b2)).mono ?_
      rintro e w7 ⟨rfl, hb7⟩
      have b7 := b2.trans (hb7.mono b2.size)
      clear hb7
      go_wp2_with fail
      go_ret
      exact ⟨rfl, b7⟩
    have d4 : decide (j ≥ (l : Int)) = false := decide_eq_false h4
    obtain ⟨i, rfl⟩ : ∃ k : Nat, i = (k : Int) := ⟨i.toNat, by omega⟩
    obtain ⟨j, rfl⟩ : ∃ k : Nat, j = (k : Int) := ⟨j.toNat, by omega⟩
    have hil : i < ars.length := by omega
    have hjl : j < ars.length := by omega
    have r2 := FA.out w2 b2
    obtain ⟨b, off, a, hA, hbl, -, c0, c1, c2, c3, c4, -, ha⟩ := r2.arc HX.out hil
    obtain ⟨b', off', d, hA', -, -, e0, e1, e2, e3, e4, -, hd⟩ := r2.arc HX.out hjl
    rw [hA] at hA'
    obtain ⟨rfl, rfl⟩ : b = b' ∧ off = off' := by injection hA' with h; injection h with h h'; exact ⟨h, h'⟩
    subst hA
    have G1 := Lib.hid (one_law h0 ha.out)
    have G2 := Lib.hid (two_law h0 ha.out hd.out)
    obtain ⟨-, -, -, hq⟩ := checkF_ok h0
    have qa := hq a (List.mem_of_getElem? ha.out)
    have qd := hq d (List.mem_of_getElem? hd.out)
    obtain ⟨one, ho⟩ : ∃ k, confirmF n ars [((i : Int), false)] = k := ⟨_, rfl⟩
    obtain ⟨two, ht⟩ : ∃ k, confirmF n ars [((i : Int), false), ((j : Int), true)] = k := ⟨_, rfl⟩
    rw [ho] at G1
    rw [ht] at G2
    have HO := Lib.hid ho
    have HT := Lib.hid ht
    have fti : fits (i : Int) := hi
    have ftj : fits (j : Int) := hj
    have F1 : FitT [((i : Int), false)] := by intro s hs; simp at hs; subst hs; exact fti
    have F2 : FitT [((i : Int), false), ((j : Int), true)] := by intro s hs; simp at hs; rcases hs with rfl | rfl <;> assumption
    obtain ⟨W1, hW1⟩ : ∃ W1, w2.alloc (.cells #[.int .i64 a.f, .int .i64 a.t, .int .i64 a.g, .int .i64 a.k, .int .i64 a.s] 46) = W1 := ⟨_, rfl⟩
    have n1 : Below w2.heap.size w2 W1 := hW1 ▸ (Below.refl _ _).alloc (Nat.le_refl _) _
    have ka : Blk W1 w2.heap.size 46 #[.int .i64 a.f, .int .i64 a.t, .int .i64 a.g, .int .i64 a.k, .int .i64 a.s] := hW1 ▸ Blk.new w2 _ rfl _ _
    obtain ⟨W2, hW2⟩ : ∃ W2, W1.alloc (.cells #[.int .i64 d.f, .int .i64 d.t, .int .i64 d.g, .int .i64 d.k, .int .i64 d.s] 46) = W2 := ⟨_, rfl⟩
    have n2 : Below W1.heap.size W1 W2 := hW2 ▸ (Below.refl _ _).alloc (Nat.le_refl _) _
    have ka2 := ka.lowr n2 ka.lt
    have kd : Blk W2 W1.heap.size 46 #[.int .i64 d.f, .int .i64 d.t, .int .i64 d.g, .int .i64 d.k, .int .i64 d.s] := hW2 ▸ Blk.new W1 _ rfl _ _
    have n12 := n1.trans (n2.mono n1.size)
    have b3 := b2.trans (n12.mono b2.size)
    have k3 := K2.out.lowr n12 hlw
    have hbl' : b < w2.heap.size := hbl
    have at1 : ∀ o, W1.cell? ⟨b, o, none⟩ = w2.cell? ⟨b, o, none⟩ := fun o => n1.cell (p := ⟨b, o, none⟩) hbl
    have c5 := (K2.out.lowr n1 hlw).cell 1
    have e0 := (at1 _).trans e0
    have e1 := (at1 _).trans e1
    have e2 := (at1 _).trans e2
    have e3 := (at1 _).trans e3
    have e4 := (at1 _).trans e4
    have f0' := k3.cell 0
    have f1' := k3.cell 1
    simp at f0' f1' c5
    have K3 := Lib.hid k3
    have KA := Lib.hid ka2
    have KD := Lib.hid kd
    have HLW := Lib.hid k3.lt
    obtain ⟨gd, hgd⟩ : ∃ g, W1.heap.size = g := ⟨_, rfl⟩
    clear ha hd ho ht hq h0 h1 h2 h3 h4 fti ftj hi hj r2 n1 ka n2 ka2 kd n12 k3 at1 hA' hbl'
    go_wp2_with fail
    refine (HCF.out [((i : Int), false)] 1 one W2 b3 rfl F1 (by omega) HO.out).mono ?_
    rintro e w4 ⟨rfl, hb4⟩
    have b4 := b3.trans (hb4.mono b3.size)
    have K4 := Lib.hid (K3.out.lowr hb4 HLW.out)
    have KA := Lib.hid (KA.out.lowr hb4 KA.out.lt)
    have KD := Lib.hid (KD.out.lowr hb4 KD.out.lt)
    have f0 := K4.out.cell 0
    have f1 := K4.out.cell 1
    simp at f0 f1
    clear hb4 b3 f0' f1' c0 c1 c2 c3 c4 e0 e1 e2 e3 e4 c5 hW1 hW2 K3 HO
    go_wp2_with fail
    refine (HCF.out [((i : Int), false), ((j : Int), true)] 2 two w4 b4 rfl F2 (by omega) HT.out).mono ?_
    rintro e w5 ⟨rfl, hb5⟩
    have b5 := b4.trans (hb5.mono b4.size)
    have ka := KA.out.lowr hb5 KA.out.lt
    have kd := KD.out.lowr hb5 KD.out.lt
    rw [hgd] at kd
    have a0 := ka.cell 0
    have a1 := ka.cell 1
    have a2 := ka.cell 2
    have a3 := ka.cell 3
    have d0 := kd.cell 0
    have d1 := kd.cell 1
    have d2 := kd.cell 2
    have d3 := kd.cell 3
    simp at a0 a1 a2 a3 d0 d1 d2 d3
    clear hb5 b4 K4 KA KD f0 f1 HT HCF ka kd hgd K2 F1 F2 hil hjl hlw HLW
    obtain ⟨u, hu⟩ : ∃ u, a.g * d.k = u := ⟨_, rfl⟩
    obtain ⟨v, hv⟩ : ∃ v, a.k * d.g = v := ⟨_, rfl⟩
    have u1 : 0 ≤ u := hu ▸ Int.mul_nonneg (by omega) (by omega)
    have u2 : u ≤ 64 * 64 := hu ▸ Int.mul_le_mul (by omega) (by omega) (by omega) (by omega)
    have v1 : 0 ≤ v := hv ▸ Int.mul_nonneg (by omega) (by omega)
    have v2 : v ≤ 64 * 64 := hv ▸ Int.mul_le_mul (by omega) (by omega) (by omega) (by omega)
    have wu : wrap64 (a.g * d.k) = u := by rw [hu]; exact IntWalk.wrap64_in _ (by omega)
    have wv : wrap64 (a.k * d.g) = v := by rw [hv]; exact IntWalk.wrap64_in _ (by omega)
    rw [hu, hv] at G2
    clear hu hv qa qd
    obtain ⟨b1, hb1⟩ : ∃ b, (a.f == a.t) = b := ⟨_, rfl⟩
    obtain ⟨b2', hb2⟩ : ∃ b, (a.g == a.k) = b := ⟨_, rfl⟩
    obtain ⟨b3, hb3⟩ : ∃ b, decide (i ≠ j ∧ a.f ≠ a.t ∧ a.f = d.f ∧ a.t = d.t) = b := ⟨_, rfl⟩
    obtain ⟨b4', hb4⟩ : ∃ b, (u == v) = b := ⟨_, rfl⟩
    have G1 : Hid (one = if b1 = true then (if b2' = true then 121 else 0) else 120) := by
      unfold Hid; rw [G1.out, ← hb1, ← hb2]; simp only [beq_iff_eq]
    have G2 : Hid (two = if b3 = true then (if b4' = true then 121 else 0) else 120) := by
      unfold Hid; rw [G2.out, ← hb3, ← hb4]; simp only [decide_eq_true_eq, beq_iff_eq]
    have HB3 := Lib.hid hb3
    clear hb3
    go_upto_if 65 with fail
    try rw [hb1]
    go_cut [11] (fun s wx => s = .int .i64 one ∧ wx = w5)
    case first =>
      clear G2 HB3
      cases b1
      · go_wp2_with fail
        go_meet
        exact ⟨by rw [G1.out]; rfl, rfl⟩
      · cases b2'
        · go_wp2_with fail
          go_meet
          exact ⟨by rw [G1.out]; rfl, rfl⟩
        · go_wp2_with fail
          go_meet
          exact ⟨by rw [G1.out]; rfl, rfl⟩
    case rest =>
      obtain ⟨rfl, hwc⟩ := hcut
      subst hwc
      clear hb1 hb2 G1
      go_upto_region 13 with fail
      go_cut [94] (fun s wx => s = .bool b3 ∧ wx = wc)
      case first =>
        clear G2
        by_cases e1 : i = j
        · have q1 : decide ((i : Int) = (j : Int)) = true := decide_eq_true (by omega)
          have hd : decide (i ≠ j ∧ a.f ≠ a.t ∧ a.f = d.f ∧ a.t = d.t) = false := decide_eq_false fun h => by omega
          go_wp2_with fail
          go_meet
          exact ⟨by rw [← HB3.out, hd]; try (refine congrArg Value.bool ?_; simp; omega), rfl⟩
        have q1 : decide ((i : Int) = (j : Int)) = false := decide_eq_false (by omega)
        by_cases e2 : a.f = a.t
        · have q2 : decide (a.f = a.t) = true := decide_eq_true e2
          have hd : decide (i ≠ j ∧ a.f ≠ a.t ∧ a.f = d.f ∧ a.t = d.t) = false := decide_eq_false fun h => by omega
          go_wp2_with fail
          go_meet
          exact ⟨by rw [← HB3.out, hd]; try (refine congrArg Value.bool ?_; simp; omega), rfl⟩
        have q2 : decide (a.f = a.t) = false := decide_eq_false e2
        by_cases e3 : ¬ a.f = d.f
        · have q3 : decide (a.f = d.f) = false := decide_eq_false e3
          have hd : decide (i ≠ j ∧ a.f ≠ a.t ∧ a.f = d.f ∧ a.t = d.t) = false := decide_eq_false fun h => by omega
          go_wp2_with fail
          go_meet
          exact ⟨by rw [← HB3.out, hd]; try (refine congrArg Value.bool ?_; simp; omega), rfl⟩
        have e3 : a.f = d.f := Decidable.not_not.1 e3
        have q3 : decide (a.f = d.f) = true := decide_eq_true e3
        by_cases e4 : ¬ a.t = d.t
        · have q4 : decide (a.t = d.t) = false := decide_eq_false e4
          have hd : decide (i ≠ j ∧ a.f ≠ a.t ∧ a.f = d.f ∧ a.t = d.t) = false := decide_eq_false fun h => by omega
          go_wp2_with fail
          go_meet
          exact ⟨by rw [← HB3.out, hd]; try (refine congrArg Value.bool ?_; simp; omega), rfl⟩
        have e4 : a.t = d.t := Decidable.not_not.1 e4
        have q4 : decide (a.t = d.t) = true := decide_eq_true e4
        have hd : decide (i ≠ j ∧ a.f ≠ a.t ∧ a.f = d.f ∧ a.t = d.t) = true := decide_eq_true ⟨e1, e2, e3, e4⟩
        go_wp2_with fail
        go_meet
        exact ⟨by rw [← HB3.out, hd]; try (refine congrArg Value.bool ?_; simp; omega), rfl⟩
      case rest =>
      obtain ⟨rfl, hwc⟩ := hcut
      subst hwc
      go_upto_if 94 with fail
      go_cut [12] (fun s wx => s = .int .i64 two ∧ wx = wc)
      case first =>
        cases b3
        · go_wp2_with fail
          go_meet
          exact ⟨by rw [G2.out]; rfl, rfl⟩
        · cases b4'
          · go_wp2_with fail
            go_meet
            exact ⟨by rw [G2.out]; rfl, rfl⟩
          · go_wp2_with fail
            go_meet
            exact ⟨by rw [G2.out]; rfl, rfl⟩
      case rest =>
        obtain ⟨rfl, rfl⟩ := hcut
        have s1 : (one == one) = true := by simp
        have s2 : (two == two) = true := by simp
        go_wp2_with fail
        refine (awake_any wc (TO.out wc b5)).mono ?_
        rintro e w7 ⟨rfl, hb7⟩
        have b7 := b5.trans (hb7.mono b5.size)
        clear hb7
        go_wp2_with fail
        go_ret
        exact ⟨rfl, b7⟩
  · obtain ⟨x, hx0⟩ : ∃ x, checkF n ars = x := ⟨_, rfl⟩
    rw [hx0] at HC h0
    have q : (x != 0) = true := by simpa using h0
    clear hx0 h0
    go_enter Tryd.func7, Tryd.ntmps7
    go_wp2_with fail
    try rw [hW]
    refine HC.out.mono ?_
    rintro e w2 ⟨rfl, hb2⟩
    have b2 := bW.trans (hb2.mono (by omega))
    clear hW hb2 bW K0 HC f0 f1
    go_wp2_with fail
    refine (awake_any w2 (TO.out w2 b2)).mono ?_
    rintro e w7 ⟨rfl, hb7⟩
    have b7 := b2.trans (hb7.mono b2.size)
    clear hb7
    go_wp2_with fail
    go_ret
    exact ⟨rfl, b7⟩
end Go.Proofs.YtkheoaleamolcaaDoor
