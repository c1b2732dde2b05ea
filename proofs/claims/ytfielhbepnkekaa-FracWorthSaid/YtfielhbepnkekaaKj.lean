/-
  The reference's product of fractions.
-/
import Derived.Test.YtfielhbepnkekaaKe
import Derived.Test.YtfielhbepnkekaaKi
import Derived.StillTailTactics
namespace Go.Proofs.Ytfielhbepnkekaa
open Go.RowKit

theorem tdiv_new (n d : Int) (hd : 0 < d) : n.tdiv (Nat.gcd n.natAbs d.natAbs : Nat) = newN n d := by
  have h : decide (d < 0) = false := decide_eq_false (by omega)
  unfold newN
  rw [h, Bool.bne_false]
  generalize Nat.gcd n.natAbs d.natAbs = g
  by_cases hn : n < 0
  · rw [decide_eq_true hn]
    have e : n = -((n.natAbs : Nat) : Int) := by omega
    unfold sgnI
    rw [if_pos rfl]
    conv => lhs; rw [e]
    rw [Int.neg_tdiv]
    rfl
  · rw [decide_eq_false hn]
    have e : n = ((n.natAbs : Nat) : Int) := by omega
    unfold sgnI
    rw [if_neg (by simp)]
    conv => lhs; rw [e]
    rfl
theorem Below_cell {w w' : World} {B : Nat} {a : Addr} {v : Value} (hb : Below B w w') (ha : a.block < B) (h : w.cell? a = some v) : w'.cell? a = some v := by
  rw [hb.cell ha]; exact h

theorem past_two {w V w4 : World} {ga : Nat} {t0 t1 t2 : TypeId} {c0 c1 c2 : Array Value} (v0 : Blk V ga t0 c0) (v1 : Blk V (ga + 1) t1 c1) (v2 : Blk V (ga + 2) t2 c2) (bV : Below ga w V) (hV : V.heap.size = ga + 3) (hb : Below V.heap.size V w4) :
    Below V.heap.size V w4 ∧ Blk w4 ga t0 c0 ∧ Blk w4 (ga + 1) t1 c1 ∧ Blk w4 (ga + 2) t2 c2 ∧ Below ga w w4 ∧ ga + 3 ≤ w4.heap.size :=
  ⟨hb, v0.low hb (by omega), v1.low hb (by omega), v2.low hb (by omega), bV.trans (hb.mono (by omega)), by have := hb.size; omega⟩

set_option maxRecDepth 100000 in
set_option maxHeartbeats 2000000 in
theorem two_walk (an bn : Int) (ad bd g h d1 d2 : Nat) (n1 n2 x y : Int) (p q : Bool) (w : World) (han : fits an) (hbn : fits bn)
    (hg : ¬ g = 0) (hh : ¬ h = 0) (hn1 : an.tdiv (g : Int) = n1) (hn2 : bn.tdiv (h : Int) = n2) (hd1 : (bd : Int) / (g : Int) = (d1 : Int)) (hd2 : (ad : Int) / (h : Int) = (d2 : Int))
    (hwa : IntKind.u64.wrap (ad : Int) = ad) (hwb : IntKind.u64.wrap (bd : Int) = bd) (hwg : IntKind.i64.wrap (g : Int) = g) (hwh : IntKind.i64.wrap (h : Int) = h)
    (hw1 : IntKind.i64.wrap n1 = n1) (hw2 : IntKind.i64.wrap n2 = n2) (hw3 : IntKind.i64.wrap (d1 : Int) = d1) (hw4 : IntKind.i64.wrap (d2 : Int) = d2)
    (CG : Hid (∀ w, Calls Try.prog 38 #[.int .u64 an.natAbs, .int .u64 bd] w fun e w' => e = .returned (.int .u64 g) ∧ w = w'))
    (CH : Hid (∀ w, Calls Try.prog 38 #[.int .u64 bn.natAbs, .int .u64 ad] w fun e w' => e = .returned (.int .u64 h) ∧ w = w'))
    (M1 : Hid (∀ w, Calls Try.prog 51 #[.int .i64 n1, .int .i64 n2] w fun e w' => e = .returned (.tuple #[.int .i64 x, .bool p]) ∧ Below w.heap.size w w'))
    (M2 : Hid (∀ w, Calls Try.prog 51 #[.int .i64 (d2 : Int), .int .i64 (d1 : Int)] w fun e w' => e = .returned (.tuple #[.int .i64 y, .bool q]) ∧ Below w.heap.size w w')) :
    Calls Try.prog 45 #[.agg #[.int .i64 an, .int .i64 (ad : Int)], .agg #[.int .i64 bn, .int .i64 (bd : Int)]] w fun e w' => e = .returned (.tuple #[.agg #[.int .i64 x, .int .i64 y], .bool (p && q)]) ∧ Below w.heap.size w w' := by
  obtain ⟨ga, hga⟩ : ∃ ga, w.heap.size = ga := ⟨_, rfl⟩
  obtain ⟨W, hW⟩ : ∃ W, ((w.alloc (.cells #[.int .i64 an, .int .i64 (ad : Int)] 23)).alloc (.cells #[.int .i64 bn, .int .i64 (bd : Int)] 23)).alloc (.cells #[.int .i64 0, .int .i64 0] 23) = W := ⟨_, rfl⟩
  have bW : Below ga w W := by subst hW hga; exact (((Below.refl _ _).alloc (Nat.le_refl _) _).alloc (by simp) _).alloc (by simp; omega) _
  have k0 : Blk W ga 23 #[.int .i64 an, .int .i64 (ad : Int)] := by subst hW hga; exact ((Blk.new w _ rfl _ _).alloc _).alloc _
  have k1 : Blk W (ga + 1) 23 #[.int .i64 bn, .int .i64 (bd : Int)] := by subst hW hga; exact (Blk.new _ _ (by simp) _ _).alloc _
  have k2 : Blk W (ga + 2) 23 #[.int .i64 0, .int .i64 0] := by subst hW hga; exact Blk.new _ _ (by simp) _ _
  have hWs : W.heap.size = ga + 3 := by subst hW; simp; omega
  have BW : Hid (∀ w1, Below ga w w1 → Below w.heap.size w w1) := fun w1 h => by rw [hga]; exact h
  have f0 := k0.cell 0
  have f1 := k0.cell 1
  have f2 := k1.cell 0
  have f3 := k1.cell 1
  simp only [List.getElem?_toArray, List.getElem?_cons_zero, List.getElem?_cons_succ] at f0 f1 f2 f3
  cases p with
  | false =>
    go_enter Try.func45, Try.ntmps45
    go_wp2_with fail
    try rw [hW]
    try rw [hga]
    clear hW
    go_quiet ((first | (go_at_call 39; exact quiet_left (refSize_any _ _ han)) | (go_at_call 38; exact quiet_left (CG.out _))))
    generalize nq = m1
    go_wp2_with fail
    go_quiet ((first | (go_at_call 39; exact quiet_left (refSize_any _ _ hbn)) | (go_at_call 39; exact quiet_left2 (refSize_any _ _ hbn)) | (go_at_call 39; exact quiet_left3 (refSize_any _ _ hbn)) | (go_at_call 38; exact quiet_left (CH.out _)) | (go_at_call 38; exact quiet_left2 (CH.out _)) | (go_at_call 38; exact quiet_left3 (CH.out _))))
    generalize nq = m2
    go_wp2_with fail
    have v0 : Blk ((W.drewN m1).drewN m2) ga 23 #[.int .i64 an, .int .i64 (ad : Int)] := k0
    have v1 : Blk ((W.drewN m1).drewN m2) (ga + 1) 23 #[.int .i64 bn, .int .i64 (bd : Int)] := k1
    have v2 : Blk ((W.drewN m1).drewN m2) (ga + 2) 23 #[.int .i64 0, .int .i64 0] := k2
    have bV : Below ga w ((W.drewN m1).drewN m2) := below_drewN (below_drewN bW _) _
    have hVs : ((W.drewN m1).drewN m2).heap.size = ga + 3 := hWs
    clear f0 f1 f2 f3 k0 k1 k2 bW hWs
    generalize (W.drewN m1).drewN m2 = V at *
    have f0 := v0.cell 0
    have f1 := v0.cell 1
    have f2 := v1.cell 0
    have f3 := v1.cell 1
    simp only [List.getElem?_toArray, List.getElem?_cons_zero, List.getElem?_cons_succ] at f0 f1 f2 f3
    go_region_held3 (fun w' => w'.cell? ⟨ga, 0, none⟩ = some (.int .i64 an) ∧ w'.cell? ⟨ga + 1, 0, none⟩ = some (.int .i64 bn)) (first | exact ⟨f0, f2⟩ | exact ⟨g0, g2⟩)
      (first | (go_at_call 51; refine (M1.out _).mono ?_; rintro e w4 ⟨rfl, hb4'⟩; obtain ⟨hb4, q0, q1, q2, b4, hz4⟩ := past_two v0 v1 v2 bV hVs ⟨hb4'.os, hb4'.tape, hb4'.output, hb4'.size, hb4'.block⟩; have g0 := q0.cell 0; have g1 := q0.cell 1; have g2 := q1.cell 0; have g3 := q1.cell 1; simp only [List.getElem?_toArray, List.getElem?_cons_zero, List.getElem?_cons_succ] at g0 g1 g2 g3))
    clear f0 f1 f2 f3
    clear v0 v1 v2 bV hb4 hb4' hVs
    go_wp2_with fail
    go_region_held3 (fun w' => w'.cell? ⟨ga, 1, none⟩ = some (.int .i64 (ad : Int)) ∧ w'.cell? ⟨ga + 1, 1, none⟩ = some (.int .i64 (bd : Int))) (first | exact ⟨g1, g3⟩ | exact ⟨h1, h3⟩)
      (first | (go_at_call 51; refine (M2.out _).mono ?_; rintro e w5 ⟨rfl, hb5'⟩; have hb5 : Below w4.heap.size w4 w5 := ⟨hb5'.os, hb5'.tape, hb5'.output, hb5'.size, hb5'.block⟩; have h1 := (q0.low hb5 (by omega)).cell 1; have h3 := (q1.low hb5 (by omega)).cell 1; simp only [List.getElem?_toArray, List.getElem?_cons_zero, List.getElem?_cons_succ] at h1 h3))
    have r2 := q2.low hb5 (by omega)
    have b5 := b4.trans (hb5.mono (by omega))
    have f0 := r2.cell 0
    have f1 := r2.cell 1
    have z0 := r2.frozen 0
    have z1 := r2.frozen 1
    have k3 := (r2.set 0 (.int .i64 x)).set 1 (.int .i64 y)
    have bb := (b5.setCell (p := ⟨ga + 2, 0, none⟩) (by simp) (.int .i64 x)).setCell (p := ⟨ga + 2, 1, none⟩) (by simp) (.int .i64 y)
    have c0 := k3.cell 0
    have c1 := k3.cell 1
    simp at f0 f1 c0 c1
    clear q0 q1 q2 r2 k3 b4 b5 hb5 hb5'
    go_wp2_with fail
    exact bodyPost_ret (v := .tuple #[.agg #[.int .i64 x, .int .i64 y], .bool false]) (by simp [results, Try.results45, go_sem, c0, c1]) rfl ⟨by simp, BW.out _ bb⟩
  | true =>
    go_enter Try.func45, Try.ntmps45
    go_wp2_with fail
    try rw [hW]
    try rw [hga]
    clear hW
    go_quiet ((first | (go_at_call 39; exact quiet_left (refSize_any _ _ han)) | (go_at_call 38; exact quiet_left (CG.out _))))
    generalize nq = m1
    go_wp2_with fail
    go_quiet ((first | (go_at_call 39; exact quiet_left (refSize_any _ _ hbn)) | (go_at_call 39; exact quiet_left2 (refSize_any _ _ hbn)) | (go_at_call 39; exact quiet_left3 (refSize_any _ _ hbn)) | (go_at_call 38; exact quiet_left (CH.out _)) | (go_at_call 38; exact quiet_left2 (CH.out _)) | (go_at_call 38; exact quiet_left3 (CH.out _))))
    generalize nq = m2
    go_wp2_with fail
    have v0 : Blk ((W.drewN m1).drewN m2) ga 23 #[.int .i64 an, .int .i64 (ad : Int)] := k0
    have v1 : Blk ((W.drewN m1).drewN m2) (ga + 1) 23 #[.int .i64 bn, .int .i64 (bd : Int)] := k1
    have v2 : Blk ((W.drewN m1).drewN m2) (ga + 2) 23 #[.int .i64 0, .int .i64 0] := k2
    have bV : Below ga w ((W.drewN m1).drewN m2) := below_drewN (below_drewN bW _) _
    have hVs : ((W.drewN m1).drewN m2).heap.size = ga + 3 := hWs
    clear f0 f1 f2 f3 k0 k1 k2 bW hWs
    generalize (W.drewN m1).drewN m2 = V at *
    have f0 := v0.cell 0
    have f1 := v0.cell 1
    have f2 := v1.cell 0
    have f3 := v1.cell 1
    simp only [List.getElem?_toArray, List.getElem?_cons_zero, List.getElem?_cons_succ] at f0 f1 f2 f3
    go_region_held3 (fun w' => w'.cell? ⟨ga, 0, none⟩ = some (.int .i64 an) ∧ w'.cell? ⟨ga + 1, 0, none⟩ = some (.int .i64 bn)) (first | exact ⟨f0, f2⟩ | exact ⟨g0, g2⟩)
      (first | (go_at_call 51; refine (M1.out _).mono ?_; rintro e w4 ⟨rfl, hb4'⟩; obtain ⟨hb4, q0, q1, q2, b4, hz4⟩ := past_two v0 v1 v2 bV hVs ⟨hb4'.os, hb4'.tape, hb4'.output, hb4'.size, hb4'.block⟩; have g0 := q0.cell 0; have g1 := q0.cell 1; have g2 := q1.cell 0; have g3 := q1.cell 1; simp only [List.getElem?_toArray, List.getElem?_cons_zero, List.getElem?_cons_succ] at g0 g1 g2 g3))
    clear f0 f1 f2 f3
    clear v0 v1 v2 bV hb4 hb4' hVs
    go_wp2_with fail
    go_region_held3 (fun w' => w'.cell? ⟨ga, 1, none⟩ = some (.int .i64 (ad : Int)) ∧ w'.cell? ⟨ga + 1, 1, none⟩ = some (.int .i64 (bd : Int))) (first | exact ⟨g1, g3⟩ | exact ⟨h1, h3⟩)
      (first | (go_at_call 51; refine (M2.out _).mono ?_; rintro e w5 ⟨rfl, hb5'⟩; have hb5 : Below w4.heap.size w4 w5 := ⟨hb5'.os, hb5'.tape, hb5'.output, hb5'.size, hb5'.block⟩; have h1 := (q0.low hb5 (by omega)).cell 1; have h3 := (q1.low hb5 (by omega)).cell 1; simp only [List.getElem?_toArray, List.getElem?_cons_zero, List.getElem?_cons_succ] at h1 h3))
    have r2 := q2.low hb5 (by omega)
    have b5 := b4.trans (hb5.mono (by omega))
    have f0 := r2.cell 0
    have f1 := r2.cell 1
    have z0 := r2.frozen 0
    have z1 := r2.frozen 1
    have k3 := (r2.set 0 (.int .i64 x)).set 1 (.int .i64 y)
    have bb := (b5.setCell (p := ⟨ga + 2, 0, none⟩) (by simp) (.int .i64 x)).setCell (p := ⟨ga + 2, 1, none⟩) (by simp) (.int .i64 y)
    have c0 := k3.cell 0
    have c1 := k3.cell 1
    simp at f0 f1 c0 c1
    clear q0 q1 q2 r2 k3 b4 b5 hb5 hb5'
    go_wp2_with fail
    exact bodyPost_ret (v := .tuple #[.agg #[.int .i64 x, .int .i64 y], .bool q]) (by simp [results, Try.results45, go_sem, c0, c1]) rfl ⟨by simp, BW.out _ bb⟩

theorem two_any (a b : Fr) (w : World) (ha : a.fit) (hb : b.fit) (va : a.valid = true) (vb : b.valid = true) :
    Calls Try.prog 45 #[.agg #[.int .i64 a.n, .int .i64 a.d], .agg #[.int .i64 b.n, .int .i64 b.d]] w fun e w' => e = .returned (.tuple #[.agg #[.int .i64 (okOf (mul2 a b).n), .int .i64 (okOf (mul2 a b).d)], .bool (okB (mul2 a b).n && okB (mul2 a b).d)]) ∧ Below w.heap.size w w' := by
  obtain ⟨an, ad⟩ := a
  obtain ⟨bn, bd⟩ := b
  obtain ⟨han, had⟩ := ha
  obtain ⟨hbn, hbd⟩ := hb
  simp only at han had hbn hbd
  have hpa : 0 < ad := Fr.pos va
  have hpb : 0 < bd := Fr.pos vb
  obtain ⟨f1, f2⟩ := div_fits han hbd hpb
  obtain ⟨f3, f4⟩ := div_fits hbn had hpa
  have t1 := tdiv_new an bd hpb
  have t2 := tdiv_new bn ad hpa
  obtain ⟨ad, rfl⟩ := Int.eq_ofNat_of_zero_le (Int.le_of_lt hpa)
  obtain ⟨bd, rfl⟩ := Int.eq_ofNat_of_zero_le (Int.le_of_lt hpb)
  have hg : 0 < Nat.gcd an.natAbs bd := Nat.gcd_pos_of_pos_right _ (by omega)
  have hh : 0 < Nat.gcd bn.natAbs ad := Nat.gcd_pos_of_pos_right _ (by omega)
  have lg : Nat.gcd an.natAbs bd ≤ bd := Nat.gcd_le_right _ (by omega)
  have lh : Nat.gcd bn.natAbs ad ≤ ad := Nat.gcd_le_right _ (by omega)
  have w64 : ∀ z : Int, fits z → IntKind.i64.wrap z = z := fun z h => by unfold fits at h; rw [IntKind.wrap_i64]; omega
  have l1 := Nat.div_le_self bd (Nat.gcd an.natAbs bd)
  have l2 := Nat.div_le_self ad (Nat.gcd bn.natAbs ad)
  have u64 : ∀ k : Nat, fits (k : Int) → IntKind.u64.wrap (k : Int) = k := fun k h => by unfold fits at h; rw [IntKind.wrap_u64]; omega
  have le64 : ∀ k d : Nat, k ≤ d → fits (d : Int) → fits (k : Int) := fun k d h h2 => by unfold fits at h2 ⊢; omega
  have lt64 : ∀ d : Nat, fits (d : Int) → d < 18446744073709551616 := fun d h => by unfold fits at h; omega
  have hm := two_walk an bn ad bd (Nat.gcd an.natAbs bd) (Nat.gcd bn.natAbs ad) (bd / Nat.gcd an.natAbs bd) (ad / Nat.gcd bn.natAbs ad) (newN an bd) (newN bn ad)
    (okOf (newN an bd * newN bn ad)) (okOf (((ad / Nat.gcd bn.natAbs ad : Nat) : Int) * ((bd / Nat.gcd an.natAbs bd : Nat) : Int))) (okB (newN an bd * newN bn ad)) (okB (((ad / Nat.gcd bn.natAbs ad : Nat) : Int) * ((bd / Nat.gcd an.natAbs bd : Nat) : Int))) w han hbn
    (by omega) (by omega) t1 t2 (Int.natCast_ediv _ _).symm (Int.natCast_ediv _ _).symm (u64 _ had) (u64 _ hbd) (w64 _ (le64 _ _ lg hbd)) (w64 _ (le64 _ _ lh had))
    (w64 _ f1) (w64 _ f3) (w64 _ (le64 _ _ l1 hbd)) (w64 _ (le64 _ _ l2 had))
    (Lib.hid fun w => common_any an.natAbs bd (natAbs_lt han) (lt64 _ hbd) w) (Lib.hid fun w => common_any bn.natAbs ad (natAbs_lt hbn) (lt64 _ had) w)
    (Lib.hid fun w => refMul_any _ _ w f1 f3) (Lib.hid fun w => refMul_any _ _ w (le64 _ _ l2 had) (le64 _ _ l1 hbd))
  have e : (mul2 ⟨an, (ad : Int)⟩ ⟨bn, (bd : Int)⟩).d = ((ad / Nat.gcd bn.natAbs ad : Nat) : Int) * ((bd / Nat.gcd an.natAbs bd : Nat) : Int) := by
    show newD an bd * newD bn ad = _
    rw [Int.mul_comm]
    rfl
  rw [e]
  exact hm

structure RmX (W0 : World) (fs : List Fr) (b off c k : Nat) (an ad xn xd x y : Int) (pq : Bool) (L : Nat → Bool) (V : Nat → Value) (w : World) : Prop where
  p : Below W0.heap.size W0 w
  bx : L 9 = true → L 10 = false → ∃ g, V 6 = .pointer (some ⟨g, 0, none⟩) ∧ W0.heap.size ≤ g ∧ Blk w g 23 #[.int .i64 0, .int .i64 0]
  f : L 10 = true → ∃ g, V 6 = .pointer (some ⟨g, 0, none⟩) ∧ W0.heap.size ≤ g ∧ Blk w g 23 #[.int .i64 x, .int .i64 y]
  e5 : L 5 = true → V 25 = .tuple #[.agg #[.int .i64 x, .int .i64 y], .bool pq]
  e6 : L 6 = true → V 19 = .tuple #[.agg #[.int .i64 x, .int .i64 y], .bool pq]
  e0 : L 0 = true → V 20 = .agg #[.int .i64 an, .int .i64 ad]
  e1 : L 1 = true → V 21 = .slice (some ⟨b, off, none⟩) fs.length c
  e2 : L 2 = true → V 22 = .int .i64 (k : Nat)
  e3 : L 3 = true → V 23 = .pointer (some ⟨b, off + k * 2, none⟩)
  e4 : L 4 = true → V 24 = .agg #[.int .i64 xn, .int .i64 xd]
  e7 : L 7 = true → V 26 = .agg #[.int .i64 x, .int .i64 y]
  e8 : L 8 = true → V 27 = .bool pq
  e11 : L 11 = true → V 7 = .bool pq

set_option maxRecDepth 100000 in
set_option maxHeartbeats 2000000 in
theorem refMulF_any (fs : List Fr) (A : Option Addr) (l c : Nat) (w : World) (hl : fs.length = l) (hx : ∀ a ∈ fs, a.fit) (hr : Rd w w.heap.size A (cellsF fs)) (hm : l ≤ maxLen) :
    Calls Try.prog 22 #[.slice A l c] w fun e w' => e = .returned (.tuple #[.agg #[.int .i64 (mulR fs).1.n, .int .i64 (mulR fs).1.d], .int .i64 (mulR fs).2]) ∧ Below w.heap.size w w' := by
  subst hl
  obtain ⟨ga, hga⟩ : ∃ ga, w.heap.size = ga := ⟨_, rfl⟩
  obtain ⟨W, hW⟩ : ∃ W, w.alloc (.cells #[.int .i64 0, .int .i64 0] 23) = W := ⟨_, rfl⟩
  have bW : Below ga w W := by subst hW hga; exact (Below.refl _ _).alloc (Nat.le_refl _) _
  have k0 : Blk W ga 23 #[.int .i64 0, .int .i64 0] := by subst hW hga; exact Blk.new w _ rfl _ _
  have hWs : W.heap.size = ga + 1 := by subst hW; simp; omega
  have BW : Hid (∀ w1, Below ga w w1 → Below w.heap.size w w1) := fun w1 h => by rw [hga]; exact h
  have Hr : Hid (Rd w ga A (cellsF fs)) := by unfold Hid; rw [← hga]; exact hr
  have rc := refAll_any fs A fs.length c W rfl hx ((Hr.out.below bW (Nat.le_refl _)).more (by omega)) hm
  unfold maxLen at hm
  clear hr
  cases hv : fs.all Fr.valid with
  | false =>
    have e : mulR fs = (⟨0, 0⟩, 1) := by unfold mulR; rw [hv]; rfl
    rw [hv] at rc
    rw [e]
    have Rc := Lib.hid rc
    clear rc hv e
    go_enter Try.func22, Try.ntmps22
    go_wp2_with fail
    try rw [hW]
    refine (Rc.out).mono ?_
    rintro e w2 ⟨rfl, hb2⟩
    have a0 := k0.below hb2 (by omega)
    have b2 := bW.trans (hb2.mono (by omega))
    clear k0 bW hb2 Rc hW
    have f0 := a0.cell 0
    have f1 := a0.cell 1
    have z0 := a0.frozen 0
    have z1 := a0.frozen 1
    have k2 := (a0.set 0 (.int .i64 0)).set 1 (.int .i64 0)
    have bb := (b2.setCell (p := ⟨ga, 0, none⟩) (Nat.le_refl _) (.int .i64 0)).setCell (p := ⟨ga, 1, none⟩) (Nat.le_refl _) (.int .i64 0)
    have c0 := k2.cell 0
    have c1 := k2.cell 1
    simp at f0 f1 c0 c1
    clear a0 k2 b2
    go_wp2_with fail
    exact bodyPost_ret (v := .tuple #[.agg #[.int .i64 0, .int .i64 0], .int .i64 1]) (by simp [results, Try.results22, go_sem, c0, c1]) rfl ⟨rfl, BW.out _ bb⟩
  | true =>
    have e : mulR fs = mulGo ⟨1, 1⟩ fs := by unfold mulR; rw [hv]; rfl
    have Hall : Hid (∀ f ∈ fs, f.valid = true) := fun f hf => List.all_eq_true.1 hv f hf
    rw [hv] at rc
    rw [e]
    have Rc := Lib.hid rc
    clear rc hv e
    go_enter Try.func22, Try.ntmps22
    go_wp2_with fail
    try rw [hW]
    refine (Rc.out).mono ?_
    rintro e w2 ⟨rfl, hb2⟩
    have a0 := k0.below hb2 (by omega)
    have b2 := bW.trans (hb2.mono (by omega))
    have hz2 : ga + 1 ≤ w2.heap.size := by have := hb2.size; omega
    have Hga := Lib.hid hga
    clear k0 bW hb2 Rc hW hWs hga
    have m1 := Blk.new w2 _ rfl 23 #[.int .i64 1, .int .i64 1]
    have m0 := a0.alloc (.cells #[.int .i64 1, .int .i64 1] 23)
    have bb := b2.alloc (by omega) (.cells #[.int .i64 1, .int .i64 1] 23)
    have H0 := Lib.hid (And.intro bb (And.intro m0 m1))
    clear a0 b2 m0 m1 bb
    go_wp2_with fail
    obtain ⟨gt, hgt⟩ : ∃ gt, w2.heap.size = gt := ⟨_, rfl⟩
    rw [hgt] at H0 hz2
    try rw [hgt]
    replace hgt := Lib.hid hgt
    go_loopw [5] (fun i wr => ∃ (k : Nat) (a : Fr), k ≤ fs.length ∧ i = .int .i64 k ∧ Below ga w wr ∧ Blk wr ga 23 #[.int .i64 0, .int .i64 0] ∧ Blk wr gt 23 #[.int .i64 a.n, .int .i64 a.d] ∧ a.valid = true ∧ a.fit ∧ Hid (mulGo ⟨1, 1⟩ fs = mulGo a (fs.drop k))) (fun i _ => fs.length - (intOf i).toNat)
    case atStart => exact ⟨0, ⟨1, 1⟩, Nat.zero_le _, rfl, H0.out.1, H0.out.2.1, H0.out.2.2, rfl, ⟨by show fits 1; unfold fits; omega, by show fits 1; unfold fits; omega⟩, rfl⟩
    case round =>
      clear H0
      obtain ⟨k, ⟨an, ad⟩, hk, rfl, hb, ka, kt, hva, hfa, He⟩ := hrel
      have hgw := ka.lt
      have hgtw := kt.lt
      have hgat : ga < gt := by omega
      have hwz : w.heap.size = ga := Hga.out
      simp only at kt
      by_cases hlt : k < fs.length
      · obtain ⟨b, off, ⟨xn, xd⟩, rfl, hbl, hfx, c0, c1, hd, hxx⟩ := (Hr.out.below hb (Nat.le_refl _)).fr hx hlt
        have hvx := Hall.out _ (List.mem_of_getElem? hxx.out)
        simp only at c0 c1
        have tw := Lib.hid fun w => two_any ⟨an, ad⟩ ⟨xn, xd⟩ w hfa hfx hva hvx
        have hval : Fr.valid (mul2 ⟨an, ad⟩ ⟨xn, xd⟩) = true := mul2_valid hva hvx
        have hstep : mulGo ⟨1, 1⟩ fs = if (okB (mul2 ⟨an, ad⟩ ⟨xn, xd⟩).n && okB (mul2 ⟨an, ad⟩ ⟨xn, xd⟩).d) = true then mulGo (mul2 ⟨an, ad⟩ ⟨xn, xd⟩) (fs.drop (k + 1)) else (⟨0, 0⟩, 4) := by rw [He.out, hd.out]; rfl
        obtain ⟨x, hxe⟩ : ∃ x, okOf (mul2 ⟨an, ad⟩ ⟨xn, xd⟩).n = x := ⟨_, rfl⟩
        obtain ⟨y, hye⟩ : ∃ y, okOf (mul2 ⟨an, ad⟩ ⟨xn, xd⟩).d = y := ⟨_, rfl⟩
        obtain ⟨pq, hpq⟩ : ∃ pq, (okB (mul2 ⟨an, ad⟩ ⟨xn, xd⟩).n && okB (mul2 ⟨an, ad⟩ ⟨xn, xd⟩).d) = pq := ⟨_, rfl⟩
        rw [hxe, hye, hpq] at tw
        have TWO := tw
        have BAD : Hid (pq = false → mulGo ⟨1, 1⟩ fs = (⟨0, 0⟩, 4)) := fun h => by rw [hstep, hpq, h]; rfl
        have GOOD : Hid (pq = true → mulGo ⟨1, 1⟩ fs = mulGo ⟨x, y⟩ (fs.drop (k + 1)) ∧ Fr.valid ⟨x, y⟩ = true ∧ Fr.fit ⟨x, y⟩) := fun h => by
          rw [hpq, h, if_pos rfl] at hstep
          rw [h, Bool.and_eq_true, okB_iff, okB_iff] at hpq
          have e1 : x = (mul2 ⟨an, ad⟩ ⟨xn, xd⟩).n := by rw [← hxe]; unfold okOf; exact if_pos hpq.1
          have e2 : y = (mul2 ⟨an, ad⟩ ⟨xn, xd⟩).d := by rw [← hye]; unfold okOf; exact if_pos hpq.2
          have e3 : (⟨x, y⟩ : Fr) = mul2 ⟨an, ad⟩ ⟨xn, xd⟩ := by rw [e1, e2]
          rw [e3]
          exact ⟨hstep, hval, hpq⟩
        have Ka := Lib.hid kt
        have Kr := Lib.hid ka
        have Xc := Lib.hid (And.intro c0 c1)
        have hbW : b < wr.heap.size := by omega
        have hbr : b < ga := hbl
        have B0 := Lib.hid hb
        clear hstep hd hxx He hb ka kt hva hvx hwz hval hxe hye hpq tw hfa hfx c0 c1
        go_wp2_with fail
        obtain ⟨W0, hW0⟩ : ∃ W0, wr = W0 := ⟨_, rfl⟩
        subst hW0
        have hIR : ∀ V, RmX wr fs b off c k an ad xn xd x y pq (fun _ => false) V wr.drew := fun V => by
          have h0 : Below wr.heap.size wr wr.drew := Drawn.below _ ((Drawn.refl wr).drewN 1)
          constructor
          all_goals first
            | exact h0
            | (intro h; cases h)
        refine wp_region_put3 [6, 7, 19, 20, 21, 22, 23, 24, 25, 26, 27] (RmX wr fs b off c k an ad xn xd x y pq) (by kernel_rfl) (by kernel_rfl) ?_ ?_ ?_
        · exact hIR _
        · intro i o ho L V w1 hi hL hno h K hK
          rcases i with _ | _ | _ | _ | _ | _ | _ | _ | _ | _ | _ | _ | i
          · replace ho := Option.some.inj ho
            subst ho
            simp only [putAll, List.foldl_cons, List.foldl_nil, List.setIfInBounds_toArray, List.set_cons_zero, List.set_cons_succ]
            have ct0 := (Ka.out.low h.p (by omega)).cell 0
            have ct1 := (Ka.out.low h.p (by omega)).cell 1
            simp only [List.getElem?_toArray, List.getElem?_cons_zero, List.getElem?_cons_succ] at ct0 ct1
            clear hL hno
            go_simp
            refine hK (updV V 20 (.agg #[.int .i64 an, .int .i64 ad])) _ _ (by simp [putAll, updV]) ?_
            exact { h with e0 := fun _ => rfl }
          · replace ho := Option.some.inj ho
            subst ho
            simp only [putAll, List.foldl_cons, List.foldl_nil, List.setIfInBounds_toArray, List.set_cons_zero, List.set_cons_succ]
            clear hL hno
            go_simp
            refine hK (updV V 21 (.slice (some ⟨b, off, none⟩) fs.length c)) _ _ (by simp [putAll, updV]) ?_
            exact { h with e1 := fun _ => rfl }
          · replace ho := Option.some.inj ho
            subst ho
            simp only [putAll, List.foldl_cons, List.foldl_nil, List.setIfInBounds_toArray, List.set_cons_zero, List.set_cons_succ]
            clear hL hno
            go_simp
            refine hK (updV V 22 (.int .i64 (k : Nat))) _ _ (by simp [putAll, updV]) ?_
            exact { h with e2 := fun _ => rfl }
          · replace ho := Option.some.inj ho
            subst ho
            simp only [putAll, List.foldl_cons, List.foldl_nil, List.setIfInBounds_toArray, List.set_cons_zero, List.set_cons_succ]
            have e1 : V 21 = _ := h.e1 (hL ⟨1, .data⟩ (by simp) rfl)
            have e2 : V 22 = _ := h.e2 (hL ⟨2, .data⟩ (by simp) rfl)
            clear hL hno
            go_simp
            refine hK (updV V 23 (.pointer (some ⟨b, off + k * 2, none⟩))) _ _ (by simp [putAll, updV, e1, e2]) ?_
            exact { h with e3 := fun _ => rfl }
          · replace ho := Option.some.inj ho
            subst ho
            simp only [putAll, List.foldl_cons, List.foldl_nil, List.setIfInBounds_toArray, List.set_cons_zero, List.set_cons_succ]
            have e3 : V 23 = _ := h.e3 (hL ⟨3, .data⟩ (by simp) rfl)
            have ct0 := (Below_cell h.p hbW (Xc.out.1))
            have ct1 := (Below_cell h.p hbW (Xc.out.2))
            clear hL hno
            go_simp
            refine hK (updV V 24 (.agg #[.int .i64 xn, .int .i64 xd])) _ _ (by simp [putAll, updV, e3]) ?_
            exact { h with e4 := fun _ => rfl }
          · replace ho := Option.some.inj ho
            subst ho
            have e0 : V 20 = _ := h.e0 (hL ⟨0, .data⟩ (by simp) rfl)
            have e4 : V 24 = _ := h.e4 (hL ⟨4, .data⟩ (by simp) rfl)
            have l10 : L 10 = false := hno 10 (by kernel_rfl)
            clear hL hno
            simp only [putAll, List.foldl_cons, List.foldl_nil, List.setIfInBounds_toArray, List.set_cons_zero, List.set_cons_succ]
            go_simp
            refine (TWO.out w1).mono ?_
            rintro e w3 ⟨rfl, hb3⟩
            refine hK (updV V 25 (.tuple #[.agg #[.int .i64 x, .int .i64 y], .bool pq])) _ _ (by simp [putAll, updV, e0, e4]) ?_
            exact { h with
              p := h.p.trans (hb3.mono h.p.size)
              bx := fun h1 h2 => by obtain ⟨g, q1, q2, q3⟩ := h.bx h1 h2; exact ⟨g, q1, q2, q3.low hb3 q3.lt⟩
              f := fun hn => (by cases (hn.symm.trans l10))
              e5 := fun _ => rfl }
          · replace ho := Option.some.inj ho
            subst ho
            have e5 : V 25 = _ := h.e5 (hL ⟨5, .data⟩ (by simp) rfl)
            clear hL hno
            simp only [putAll, List.foldl_cons, List.foldl_nil, List.setIfInBounds_toArray, List.set_cons_zero, List.set_cons_succ]
            go_simp
            refine hK (updV V 19 (.tuple #[.agg #[.int .i64 x, .int .i64 y], .bool pq])) _ _ (by simp [putAll, updV, e5]) ?_
            exact { h with e6 := fun _ => rfl }
          · replace ho := Option.some.inj ho
            subst ho
            simp only [putAll, List.foldl_cons, List.foldl_nil, List.setIfInBounds_toArray, List.set_cons_zero, List.set_cons_succ]
            have e6 : V 19 = _ := h.e6 (hL ⟨6, .data⟩ (by simp) rfl)
            clear hL hno
            go_simp
            refine hK (updV V 26 (.agg #[.int .i64 x, .int .i64 y])) _ _ (by simp [putAll, updV, e6]) ?_
            exact { h with e7 := fun _ => rfl }
          · replace ho := Option.some.inj ho
            subst ho
            simp only [putAll, List.foldl_cons, List.foldl_nil, List.setIfInBounds_toArray, List.set_cons_zero, List.set_cons_succ]
            have e6 : V 19 = _ := h.e6 (hL ⟨6, .data⟩ (by simp) rfl)
            clear hL hno
            go_simp
            refine hK (updV V 27 (.bool pq)) _ _ (by simp [putAll, updV, e6]) ?_
            exact { h with e8 := fun _ => rfl }
          · replace ho := Option.some.inj ho
            subst ho
            have l10 : L 10 = false := hno 10 (by kernel_rfl)
            clear hL hno
            simp only [putAll, List.foldl_cons, List.foldl_nil, List.setIfInBounds_toArray, List.set_cons_zero, List.set_cons_succ]
            have hb := (Below.refl w1.heap.size w1).alloc (Nat.le_refl _) (.cells #[.int .i64 0, .int .i64 0] 23)
            have hnew := Blk.new w1 _ rfl 23 #[.int .i64 0, .int .i64 0]
            go_simp
            refine hK (updV V 6 (.pointer (some ⟨w1.heap.size, 0, none⟩))) _ _ (by simp [putAll, updV]) ?_
            exact { h with
              p := h.p.trans (hb.mono h.p.size)
              bx := fun _ _ => ⟨_, rfl, h.p.size, hnew⟩
              f := fun hn => (by cases (hn.symm.trans l10)) }
          · replace ho := Option.some.inj ho
            subst ho
            have e7 : V 26 = _ := h.e7 (hL ⟨7, .data⟩ (by simp) rfl)
            have t1 : L 9 = true := hL ⟨9, .data⟩ (by simp) rfl
            have t2 : L 10 = false := hi
            clear hL hno
            simp only [putAll, List.foldl_cons, List.foldl_nil, List.setIfInBounds_toArray, List.set_cons_zero, List.set_cons_succ]
            refine Exists.elim (h.bx t1 t2) fun g hq => ?_
            have q1 := hq.1
            have q2 := hq.2.1
            have q3 := hq.2.2
            clear hq t1 t2
            have f0 := q3.cell 0
            have f1 := q3.cell 1
            have z0 := q3.frozen 0
            have z1 := q3.frozen 1
            simp only [List.getElem?_toArray, List.getElem?_cons_zero, List.getElem?_cons_succ] at f0 f1
            have kb := (q3.set 0 (.int .i64 x)).set 1 (.int .i64 y)
            have bb := (h.p.setCell (p := ⟨g, 0, none⟩) q2 (.int .i64 x)).setCell (p := ⟨g, 1, none⟩) q2 (.int .i64 y)
            simp at kb
            clear q3
            go_simp
            refine hK V _ _ (by simp [putAll, q1, e7]) ?_
            exact { h with p := bb, bx := fun _ hn => (by cases hn), f := fun _ => ⟨g, q1, q2, kb⟩ }
          · replace ho := Option.some.inj ho
            subst ho
            simp only [putAll, List.foldl_cons, List.foldl_nil, List.setIfInBounds_toArray, List.set_cons_zero, List.set_cons_succ]
            have e8 : V 27 = _ := h.e8 (hL ⟨8, .data⟩ (by simp) rfl)
            clear hL hno
            go_simp
            refine hK (updV V 7 (.bool pq)) _ _ (by simp [putAll, updV, e8]) ?_
            exact { h with e11 := fun _ => rfl }
          · simp at ho
        · clear hIR
          intro L V W1 hL h
          have t1 : L 10 = true := hL 10 (by simp)
          have t2 : L 11 = true := hL 11 (by simp)
          have e11 := h.e11 t2
          refine Exists.elim (h.f t1) fun g6 hq => ?_
          have q1 := hq.1
          have q2 := hq.2.1
          have q3 := hq.2.2
          clear t1 t2 hq
          have p1 := h.p
          simp only [putAll, List.foldl_cons, List.foldl_nil, List.setIfInBounds_toArray, List.set_cons_zero, List.set_cons_succ, q1, e11]
          have ma := Ka.out.low p1 hgtw
          have mr := Kr.out.low p1 hgw
          have b1 := B0.out.trans (p1.mono (by omega))
          have hg6 : gt < g6 := by omega
          clear h hL q1 p1 Ka Kr B0 e11
          generalize V 19 = v19
          generalize V 20 = v20
          generalize V 21 = v21
          generalize V 22 = v22
          generalize V 23 = v23
          generalize V 24 = v24
          generalize V 25 = v25
          generalize V 26 = v26
          generalize V 27 = v27
          cases pq with
          | false =>
            have Hn := Lib.hid (BAD.out rfl)
            have f0 := mr.cell 0
            have f1 := mr.cell 1
            have z0 := mr.frozen 0
            have z1 := mr.frozen 1
            have k2 := (mr.set 0 (.int .i64 0)).set 1 (.int .i64 0)
            have bb := (b1.setCell (p := ⟨ga, 0, none⟩) (Nat.le_refl _) (.int .i64 0)).setCell (p := ⟨ga, 1, none⟩) (Nat.le_refl _) (.int .i64 0)
            have c0 := k2.cell 0
            have c1 := k2.cell 1
            simp at f0 f1 c0 c1
            clear mr k2 ma q3 b1 BAD GOOD
            go_wp2_with fail
            exact bodyPost_ret (v := .tuple #[.agg #[.int .i64 0, .int .i64 0], .int .i64 4]) (by simp [results, Try.results22, go_sem, c0, c1]) rfl ⟨by rw [Hn.out], BW.out _ bb⟩
          | true =>
            have Hn := Lib.hid (GOOD.out rfl)
            have f0 := q3.cell 0
            have f1 := q3.cell 1
            have g0 := ma.cell 0
            have g1 := ma.cell 1
            have z0 := ma.frozen 0
            have z1 := ma.frozen 1
            have kt2 := (ma.set 0 (.int .i64 x)).set 1 (.int .i64 y)
            have kr2 := (mr.far (p := ⟨gt, 0, none⟩) (by simp; omega) (.int .i64 x)).far (p := ⟨gt, 1, none⟩) (by simp; omega) (.int .i64 y)
            have bb := (b1.setCell (p := ⟨gt, 0, none⟩) (by simp; omega) (.int .i64 x)).setCell (p := ⟨gt, 1, none⟩) (by simp; omega) (.int .i64 y)
            simp at f0 f1 g0 g1 kt2
            have HX := Lib.hid (And.intro bb (And.intro kr2 kt2))
            clear mr kr2 kt2 ma q3 b1 BAD GOOD bb
            go_wp2_with fail
            go_roundw
            case rel => exact ⟨k + 1, ⟨x, y⟩, by omega, by go_num, HX.out.1, HX.out.2.1, HX.out.2.2, Hn.out.2.1, Hn.out.2.2, Hn.out.1⟩
            case measure => simp [intOf]; omega
      · have hd : fs.drop k = [] := List.drop_eq_nil_of_le (by omega)
        have hres : mulGo ⟨1, 1⟩ fs = (⟨an, ad⟩, 0) := by rw [He.out, hd]; rfl
        have Hres := Lib.hid hres
        have f0 := ka.cell 0
        have f1 := ka.cell 1
        have g0 := kt.cell 0
        have g1 := kt.cell 1
        have z0 := ka.frozen 0
        have z1 := ka.frozen 1
        have k2 := (ka.set 0 (.int .i64 an)).set 1 (.int .i64 ad)
        have bb := (hb.setCell (p := ⟨ga, 0, none⟩) (Nat.le_refl _) (.int .i64 an)).setCell (p := ⟨ga, 1, none⟩) (Nat.le_refl _) (.int .i64 ad)
        have c0 := k2.cell 0
        have c1 := k2.cell 1
        simp at f0 f1 g0 g1 c0 c1
        have HB := Lib.hid bb
        clear ka kt k2 hres hd He bb hb hwz
        go_wp2_with fail
        exact bodyPost_ret (v := .tuple #[.agg #[.int .i64 an, .int .i64 ad], .int .i64 0]) (by simp [results, Try.results22, go_sem, c0, c1]) rfl ⟨by rw [Hres.out], BW.out _ HB.out⟩
end Go.Proofs.Ytfielhbepnkekaa
