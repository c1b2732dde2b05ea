/-
  frac.Mul: any fractions' product, from the left to the right.
-/
import Derived.Test.YtdogddngiolpoaaDoorM2
import Derived.Test.YtdogddngiolpoaaDoorM3
namespace Go.Proofs.YtdogddngiolpoaaDoor
open Go.RowKit

theorem div_fits {n d : Int} (hn : fits n) (hd : fits d) (h0 : 0 < d) : fits (newN n d) ∧ fits (newD n d) := by
  have h1 := Nat.div_le_self n.natAbs (Nat.gcd n.natAbs d.natAbs)
  have h2 := Nat.div_le_self d.natAbs (Nat.gcd n.natAbs d.natAbs)
  unfold newN newD sgnI
  generalize n.natAbs / Nat.gcd n.natAbs d.natAbs = q at *
  generalize d.natAbs / Nat.gcd n.natAbs d.natAbs = r at *
  unfold fits at hn hd ⊢
  have hdd : decide (d < 0) = false := decide_eq_false (by omega)
  rw [hdd]
  by_cases hs : n < 0
  · simp [hs]; omega
  · simp [hs]; omega
theorem low_frac (n d : Int) (w : World) (hn : fits n) (hd : fits d) (h0 : 0 < d) :
    Calls Tryd.prog 36 #[.bool (decide (n < 0)), .int .u64 n.natAbs, .int .u64 d.natAbs] w fun e w' => e = .returned (.agg #[.int .i64 (newN n d), .int .i64 (newD n d)]) ∧ Below w.heap.size w w' := by
  have h := low_any (decide (n < 0) != decide (d < 0)) n.natAbs d.natAbs w (natAbs_lt hn) (natAbs_lt hd) (by omega)
  obtain ⟨f1, f2⟩ := div_fits hn hd h0
  rw [low_eq n d, if_pos (by rw [okB_iff.2 f1, okB_iff.2 f2]; rfl)] at h
  have hdd : decide (d < 0) = false := decide_eq_false (by omega)
  rw [hdd, Bool.bne_false] at h
  exact h
theorem mul2_pos {a x : Fr} (ha : a.valid = true) (hx : x.valid = true) : (mul2 a x).valid = true := mul2_valid ha hx
set_option maxHeartbeats 1000000 in
theorem mul1_idle (p q : Addr) (w : World) : CallsD Tryd.prog 39 #[.pointer (some p), .pointer (some q)] .returning w (idlePost w) := by
  refine callsD_of_wpS Tryd.func39 rfl fun c₀ cs hu => ?_
  apply wpS_seq
  apply wpS_region
  simp [wpOpsS, go_sem, recoverD, hu, Tryd.ntmps39, Exit.thenS]
  apply wpS_seq
  apply wpS_region
  simp [wpOpsS, go_sem, Exit.thenS]
  refine wpS_cond (t := false) (by simp [Act.eval, Array.replicate]) ?_
  simp only [Bool.false_eq_true, if_false]
  refine wpS_of_wp (wp_skip ?_)
  cases c₀
  simp_all [bodyPostS, results, Tryd.results39, idlePost]

set_option maxHeartbeats 1000000 in
theorem mul1_big (g h : Nat) (u0 u1 u2 : Value) (w : World) (k0 : Blk w g 51 #[u0, u1]) (k1 : Blk w h 30 #[u2]) (hne : g ≠ h) :
    CallsD Tryd.prog 39 #[.pointer (some ⟨g, 0, none⟩), .pointer (some ⟨h, 0, none⟩)] (.panicking bigP) w (bigPost w g h) := by
  obtain ⟨c0, c1, c2, z0, z1, z2⟩ := blk_facts k0 k1 hne
  refine callsD_of_wpS Tryd.func39 rfl fun c₀ cs hu => ?_
  apply wpS_seq
  apply wpS_region
  simp [wpOpsS, go_sem, recoverD, hu, Tryd.ntmps39, Exit.thenS, bigP]
  apply wpS_seq
  apply wpS_region
  simp [wpOpsS, go_sem, Exit.thenS]
  refine wpS_cond (t := true) (by simp [Act.eval, Array.replicate]) ?_
  simp only [if_true]
  apply wpS_region
  simp [wpOpsS, go_sem, c0, c1, c2, z0, z1, z2, bodyPostS, results, Tryd.results39, bigPost, givenUp, bigR]


structure MulA (W0 : World) (ga gx : Nat) (an xd n1 d1 : Int) (L : Nat → Bool) (V : Nat → Value) (w : World) : Prop where
  p : Below W0.heap.size W0 w
  b : L 10 = true → L 11 = false → ∃ g6, V 6 = .pointer (some ⟨g6, 0, none⟩) ∧ W0.heap.size ≤ g6 ∧ Blk w g6 51 #[.int .i64 0, .int .i64 0]
  f : L 11 = true → ∃ g6, V 6 = .pointer (some ⟨g6, 0, none⟩) ∧ W0.heap.size ≤ g6 ∧ Blk w g6 51 #[.int .i64 n1, .int .i64 d1]
  e0 : L 0 = true → V 20 = .pointer (some ⟨ga, 0, none⟩)
  e1 : L 1 = true → V 21 = .int .i64 an
  e2 : L 2 = true → V 22 = .bool (decide (an < 0))
  e3 : L 3 = true → V 23 = .pointer (some ⟨ga, 0, none⟩)
  e4 : L 4 = true → V 24 = .int .i64 an
  e6 : L 6 = true → V 26 = .pointer (some ⟨gx, 1, none⟩)
  e7 : L 7 = true → V 27 = .int .i64 xd
  e5 : L 5 = true → V 25 = .int .u64 (an.natAbs : Int)
  e8 : L 8 = true → V 28 = .int .u64 (xd.natAbs : Int)
  e9 : L 9 = true → V 29 = .agg #[.int .i64 n1, .int .i64 d1]

structure MulB (W0 : World) (gx ga : Nat) (xn ad n2 d2 : Int) (L : Nat → Bool) (V : Nat → Value) (w : World) : Prop where
  p : Below W0.heap.size W0 w
  b : L 10 = true → L 11 = false → ∃ g6, V 7 = .pointer (some ⟨g6, 0, none⟩) ∧ W0.heap.size ≤ g6 ∧ Blk w g6 51 #[.int .i64 0, .int .i64 0]
  f : L 11 = true → ∃ g6, V 7 = .pointer (some ⟨g6, 0, none⟩) ∧ W0.heap.size ≤ g6 ∧ Blk w g6 51 #[.int .i64 n2, .int .i64 d2]
  e0 : L 0 = true → V 30 = .pointer (some ⟨gx, 0, none⟩)
  e1 : L 1 = true → V 31 = .int .i64 xn
  e2 : L 2 = true → V 32 = .bool (decide (xn < 0))
  e3 : L 3 = true → V 33 = .pointer (some ⟨gx, 0, none⟩)
  e4 : L 4 = true → V 34 = .int .i64 xn
  e6 : L 6 = true → V 36 = .pointer (some ⟨ga, 1, none⟩)
  e7 : L 7 = true → V 37 = .int .i64 ad
  e5 : L 5 = true → V 35 = .int .u64 (xn.natAbs : Int)
  e8 : L 8 = true → V 38 = .int .u64 (ad.natAbs : Int)
  e9 : L 9 = true → V 39 = .agg #[.int .i64 n2, .int .i64 d2]

structure MulC (W0 : World) (ga g6 g7 : Nat) (n1 d1 n2 d2 : Int) (L : Nat → Bool) (V : Nat → Value) (w : World) : Prop where
  p0 : L 11 = false → Drawn W0 w
  p1 : L 11 = true → ∃ d, w = ((W0.drewN d).setCell ⟨ga, 0, none⟩ (.int .i64 (n1 * n2))).setCell ⟨ga, 1, none⟩ (.int .i64 (d1 * d2))
  c4 : L 4 = true → fits (n1 * n2) ∧ V 44 = .int .i64 (n1 * n2)
  c9 : L 9 = true → fits (d1 * d2) ∧ V 49 = .int .i64 (d1 * d2)
  e10 : L 10 = true → V 50 = .agg #[.int .i64 (n1 * n2), .int .i64 (d1 * d2)]
  e0 : L 0 = true → V 40 = .pointer (some ⟨g6, 0, none⟩)
  e1 : L 1 = true → V 41 = .int .i64 n1
  e2 : L 2 = true → V 42 = .pointer (some ⟨g7, 0, none⟩)
  e3 : L 3 = true → V 43 = .int .i64 n2
  e5 : L 5 = true → V 45 = .pointer (some ⟨g6, 1, none⟩)
  e6 : L 6 = true → V 46 = .int .i64 d1
  e7 : L 7 = true → V 47 = .pointer (some ⟨g7, 1, none⟩)
  e8 : L 8 = true → V 48 = .int .i64 d2

set_option maxRecDepth 100000 in
set_option maxHeartbeats 4000000 in
theorem fmul_any (fs : List Fr) (A : Option Addr) (l c : Nat) (w : World) (hl : fs.length = l) (hx : ∀ a ∈ fs, a.fit) (hr : Rd w w.heap.size A (cellsF fs)) (hm : l ≤ maxLen) :
    Calls Tryd.prog 24 #[.slice A l c] w fun e w' => e = .returned (.tuple #[.agg #[.int .i64 (mulR fs).1.n, .int .i64 (mulR fs).1.d], .int .i64 (mulR fs).2]) ∧ Below w.heap.size w w' := by
  subst hl
  have hmf : ∀ (fn : Fn) (first cap : Array Value) (w : World), (Instr.makeFunc fn first cap).run Tryd.prog w = .ok (.func fn first cap) w := fun _ _ _ _ => rfl
  obtain ⟨ga, hga⟩ : ∃ ga, w.heap.size = ga := ⟨_, rfl⟩
  obtain ⟨ge, hge⟩ : ∃ ge, ge = ga + 1 := ⟨_, rfl⟩
  obtain ⟨W, hW⟩ : ∃ W, (w.alloc (.cells #[.int .i64 0, .int .i64 0] 51)).alloc (.cells #[.int .i64 0] 30) = W := ⟨_, rfl⟩
  have bW : Below ga w W := by subst hW hga; exact ((Below.refl _ _).alloc (Nat.le_refl _) _).alloc (by simp) _
  have k0 : Blk W ga 51 #[.int .i64 0, .int .i64 0] := by subst hW hga; exact (Blk.new w _ rfl _ _).alloc _
  have k1 : Blk W ge 30 #[.int .i64 0] := by subst hW hge hga; exact Blk.new _ _ (by simp) _ _
  have hWs : W.heap.size = ga + 2 := by subst hW; simp; omega
  have BW : Hid (∀ w1, Below ga w w1 → Below w.heap.size w w1) := fun w1 h => by rw [hga]; exact h
  have Hr : Hid (Rd w ga A (cellsF fs)) := by unfold Hid; rw [← hga]; exact hr
  have rc := right_any fs A fs.length c W rfl hx ((Hr.out.below bW (Nat.le_refl _)).more (by omega)) hm
  unfold maxLen at hm
  clear hr
  cases hv : fs.all Fr.valid with
  | false =>
    have e : mulR fs = (⟨0, 0⟩, 1) := by unfold mulR; rw [hv]; rfl
    rw [hv] at rc
    rw [e]
    have Rc := Lib.hid rc
    have Hge := Lib.hid hge
    clear rc hv e
    subst hge
    go_enter_defers Tryd.func24, Tryd.ntmps24
    go_wp2_with fail
    refine (Rc.out).mono ?_
    rintro e w2 ⟨rfl, hb2⟩
    have a0 := k0.below hb2 (by omega)
    have a1 := k1.below hb2 (by omega)
    have b2 := bW.trans (hb2.mono (by omega))
    clear k0 k1 bW hb2 Rc
    have f0 := a0.cell 0
    have f1 := a0.cell 1
    have f2 := a1.cell 0
    have z0 := a0.frozen 0
    have z1 := a0.frozen 1
    have z2 := a1.frozen 0
    have k2 := (a0.set 0 (.int .i64 0)).set 1 (.int .i64 0)
    have k3 := k2.far (p := ⟨ga + 1, 0, none⟩) (by simp) (.int .i64 1)
    have k4 := ((a1.far (p := ⟨ga, 0, none⟩) (by simp) (.int .i64 0)).far (p := ⟨ga, 1, none⟩) (by simp) (.int .i64 0)).set 0 (.int .i64 1)
    have bb := ((b2.setCell (p := ⟨ga, 0, none⟩) (Nat.le_refl _) (.int .i64 0)).setCell (p := ⟨ga, 1, none⟩) (Nat.le_refl _) (.int .i64 0)).setCell (p := ⟨ga + 1, 0, none⟩) (by simp) (.int .i64 1)
    have c0 := k3.cell 0
    have c1 := k3.cell 1
    have c2 := k4.cell 0
    simp at f0 f1 f2 c0 c1 c2
    clear a0 a1 k2 k3 k4 b2
    go_wp2_with fail
    exact ⟨.tuple #[.agg #[.int .i64 0, .int .i64 0], .int .i64 1], by simp [results, Tryd.results24, go_sem, c0, c1, c2], rfl, BW.out _ bb⟩
  | true =>
    have e : mulR fs = mulGo ⟨1, 1⟩ fs := by unfold mulR; rw [hv]; rfl
    have Hall : Hid (∀ f ∈ fs, f.valid = true) := fun f hf => List.all_eq_true.1 hv f hf
    rw [hv] at rc
    rw [e]
    have Rc := Lib.hid rc
    clear rc hv e
    subst hge
    go_enter_defers Tryd.func24, Tryd.ntmps24
    go_wp2_with fail
    refine (Rc.out).mono ?_
    rintro e w2 ⟨rfl, hb2⟩
    have a0 := k0.below hb2 (by omega)
    have a1 := k1.below hb2 (by omega)
    have b2 := bW.trans (hb2.mono (by omega))
    have Hga := Lib.hid hga
    clear k0 k1 bW hb2 Rc hW hWs hga
    have f0 := a0.cell 0
    have f1 := a0.cell 1
    have z0 := a0.frozen 0
    have z1 := a0.frozen 1
    have k2 := (a0.set 0 (.int .i64 1)).set 1 (.int .i64 1)
    have k4 := ((a1.far (p := ⟨ga, 0, none⟩) (by simp) (.int .i64 1)).far (p := ⟨ga, 1, none⟩) (by simp) (.int .i64 1))
    have bb := (b2.setCell (p := ⟨ga, 0, none⟩) (Nat.le_refl _) (.int .i64 1)).setCell (p := ⟨ga, 1, none⟩) (Nat.le_refl _) (.int .i64 1)
    simp at f0 f1 k2
    have H0 := Lib.hid (And.intro bb (And.intro k2 k4))
    clear a0 a1 b2 k2 k4 bb
    go_wp2_with fail
    obtain ⟨ge, hge⟩ : ∃ ge, ga + 1 = ge := ⟨_, rfl⟩
    rw [hge] at H0
    try rw [hge]
    go_loopw [16] (fun i wr => ∃ (k : Nat) (a : Fr), k ≤ fs.length ∧ i = .int .i64 k ∧ Below ga w wr ∧ Blk wr ga 51 #[.int .i64 a.n, .int .i64 a.d] ∧ Blk wr ge 30 #[.int .i64 0] ∧ a.valid = true ∧ a.fit ∧ Hid (mulGo ⟨1, 1⟩ fs = mulGo a (fs.drop k))) (fun i _ => fs.length - (intOf i).toNat)
    case atStart => exact ⟨0, ⟨1, 1⟩, Nat.zero_le _, rfl, H0.out.1, H0.out.2.1, H0.out.2.2, rfl, ⟨by show fits 1; unfold fits; omega, by show fits 1; unfold fits; omega⟩, rfl⟩
    case round =>
      clear H0
      obtain ⟨k, ⟨an, ad⟩, hk, rfl, hb, ka, ke, hva, hfa, He⟩ := hrel
      replace hge := Lib.hid hge
      have hgw := ka.lt
      have hew := ke.lt
      have hwz : w.heap.size = ga := Hga.out
      by_cases hlt : k < fs.length
      · obtain ⟨b, off, ⟨xn, xd⟩, rfl, hbl, hfx, c0, c1, hd, hxx⟩ := (Hr.out.below hb (Nat.le_refl _)).fr hx hlt
        have hvx := Hall.out _ (List.mem_of_getElem? hxx.out)
        obtain ⟨hfan, hfad⟩ := hfa
        obtain ⟨hfxn, hfxd⟩ := hfx
        simp only at hfan hfad hfxn hfxd c0 c1 ka
        have hpa : 0 < ad := Fr.pos hva
        have hpx : 0 < xd := Fr.pos hvx
        have lA := fun w => low_frac an xd w hfan hfxd hpx
        have lB := fun w => low_frac xn ad w hfxn hfad hpa
        obtain ⟨hn1, hd1⟩ := div_fits hfan hfxd hpx
        obtain ⟨hn2, hd2⟩ := div_fits hfxn hfad hpa
        have hstep : mulGo ⟨1, 1⟩ fs = if (okB (newN an xd * newN xn ad) && okB (newD an xd * newD xn ad)) = true then mulGo ⟨newN an xd * newN xn ad, newD an xd * newD xn ad⟩ (fs.drop (k + 1)) else (⟨0, 0⟩, 4) := by
          rw [He.out, hd.out]; rfl
        have hval : Fr.valid ⟨newN an xd * newN xn ad, newD an xd * newD xn ad⟩ = true := mul2_valid (a := ⟨an, ad⟩) (b := ⟨xn, xd⟩) hva hvx
        obtain ⟨n1, hn1e⟩ : ∃ n1, newN an xd = n1 := ⟨_, rfl⟩
        obtain ⟨d1, hd1e⟩ : ∃ d1, newD an xd = d1 := ⟨_, rfl⟩
        obtain ⟨n2, hn2e⟩ : ∃ n2, newN xn ad = n2 := ⟨_, rfl⟩
        obtain ⟨d2, hd2e⟩ : ∃ d2, newD xn ad = d2 := ⟨_, rfl⟩
        rw [hn1e, hd1e] at lA hstep hval
        rw [hn2e, hd2e] at lB hstep hval
        rw [hn1e] at hn1
        rw [hd1e] at hd1
        rw [hn2e] at hn2
        rw [hd2e] at hd2
        have LOWMulA := Lib.hid lA
        have LOWMulB := Lib.hid lB
        have BAD : Hid (¬ (fits (n1 * n2) ∧ fits (d1 * d2)) → mulGo ⟨1, 1⟩ fs = (⟨0, 0⟩, 4)) := fun hh => by
          rw [hstep, if_neg]
          rw [Bool.and_eq_true, okB_iff, okB_iff]
          exact hh
        have GOOD : Hid (fits (n1 * n2) → fits (d1 * d2) → mulGo ⟨1, 1⟩ fs = mulGo ⟨n1 * n2, d1 * d2⟩ (fs.drop (k + 1))) := fun h1 h2 => by
          rw [hstep, if_pos]
          rw [Bool.and_eq_true, okB_iff, okB_iff]
          exact ⟨h1, h2⟩
        have Hval := Lib.hid hval
        have b5 := hb.alloc (by omega) (.cells #[.int .i64 xn, .int .i64 xd] 51)
        have ka5 := ka.alloc (.cells #[.int .i64 xn, .int .i64 xd] 51)
        have ke5 := ke.alloc (.cells #[.int .i64 xn, .int .i64 xd] 51)
        have kx5 := Blk.new wr _ rfl 51 #[.int .i64 xn, .int .i64 xd]
        have hz5 : (wr.alloc (.cells #[.int .i64 xn, .int .i64 xd] 51)).heap.size = wr.heap.size + 1 := by simp
        have H5 := Lib.hid (And.intro b5 (And.intro ka5 (And.intro ke5 (And.intro kx5 hz5))))
        clear lA lB hstep hval hn1e hd1e hn2e hd2e hd hxx He b5 ka5 ke5 kx5 hz5 hb ka ke hva hvx hwz
        go_wp2_with fail
        obtain ⟨gx, hgx⟩ : ∃ gx, wr.heap.size = gx := ⟨_, rfl⟩
        obtain ⟨W0, hW0⟩ : ∃ W0, wr.alloc (.cells #[.int .i64 xn, .int .i64 xd] 51) = W0 := ⟨_, rfl⟩
        rw [hW0, hgx] at H5
        rw [hgx] at hgw hew
        try rw [hW0]
        try rw [hgx]
        obtain ⟨b5, ka5, ke5, kx5, hz5⟩ := H5.out
        have Kga := Lib.hid ka5
        have Kge := Lib.hid ke5
        have Kgx := Lib.hid kx5
        have B0 := Lib.hid b5
        clear H5 hW0 hgx b5 ka5 ke5 kx5 c0 c1
        have hIMulA : ∀ V, MulA W0 ga gx an xd n1 d1 (fun _ => false) V W0.drew := fun V => by
          have h0 : Below W0.heap.size W0 W0.drew := Drawn.below _ ((Drawn.refl W0).drewN 1)
          constructor
          all_goals first
            | exact h0
            | (intro h; cases h)
        refine wp_region_put3 [20, 21, 22, 23, 24, 25, 26, 27, 28, 29, 6] (MulA W0 ga gx an xd n1 d1) (by kernel_rfl) (by kernel_rfl) ?_ ?_ ?_
        · exact hIMulA _
        · intro i o ho L V w1 hi hL hno h K hK
          rcases i with _ | _ | _ | _ | _ | _ | _ | _ | _ | _ | _ | _ | i
          · replace ho := Option.some.inj ho
            subst ho
            simp only [putAll, List.foldl_cons, List.foldl_nil, List.setIfInBounds_toArray, List.set_cons_zero, List.set_cons_succ]
            clear hL hno
            go_simp
            refine hK (updV V 20 (.pointer (some ⟨ga, 0, none⟩))) _ _ (by simp [putAll, updV]) ?_
            exact { h with e0 := fun _ => rfl }
          · replace ho := Option.some.inj ho
            subst ho
            simp only [putAll, List.foldl_cons, List.foldl_nil, List.setIfInBounds_toArray, List.set_cons_zero, List.set_cons_succ]
            have e0 : V 20 = _ := h.e0 (hL ⟨0, .data⟩ (by simp) rfl)
            have ct := (Kga.out.below h.p (by omega)).cell 0
            simp only [List.getElem?_toArray, List.getElem?_cons_zero] at ct
            clear hL hno
            go_simp
            refine hK (updV V 21 (.int .i64 an)) _ _ (by simp [putAll, updV, e0]) ?_
            exact { h with e1 := fun _ => rfl }
          · replace ho := Option.some.inj ho
            subst ho
            simp only [putAll, List.foldl_cons, List.foldl_nil, List.setIfInBounds_toArray, List.set_cons_zero, List.set_cons_succ]
            have e1 : V 21 = _ := h.e1 (hL ⟨1, .data⟩ (by simp) rfl)
            clear hL hno
            go_simp
            refine hK (updV V 22 (.bool (decide (an < 0)))) _ _ (by simp [putAll, updV, e1]) ?_
            exact { h with e2 := fun _ => rfl }
          · replace ho := Option.some.inj ho
            subst ho
            simp only [putAll, List.foldl_cons, List.foldl_nil, List.setIfInBounds_toArray, List.set_cons_zero, List.set_cons_succ]
            clear hL hno
            go_simp
            refine hK (updV V 23 (.pointer (some ⟨ga, 0, none⟩))) _ _ (by simp [putAll, updV]) ?_
            exact { h with e3 := fun _ => rfl }
          · replace ho := Option.some.inj ho
            subst ho
            simp only [putAll, List.foldl_cons, List.foldl_nil, List.setIfInBounds_toArray, List.set_cons_zero, List.set_cons_succ]
            have e3 : V 23 = _ := h.e3 (hL ⟨3, .data⟩ (by simp) rfl)
            have ct := (Kga.out.below h.p (by omega)).cell 0
            simp only [List.getElem?_toArray, List.getElem?_cons_zero] at ct
            clear hL hno
            go_simp
            refine hK (updV V 24 (.int .i64 an)) _ _ (by simp [putAll, updV, e3]) ?_
            exact { h with e4 := fun _ => rfl }
          · replace ho := Option.some.inj ho
            subst ho
            have e4 : V 24 = _ := h.e4 (hL ⟨4, .data⟩ (by simp) rfl)
            clear hL hno
            simp only [putAll, List.foldl_cons, List.foldl_nil, List.setIfInBounds_toArray, List.set_cons_zero, List.set_cons_succ]
            go_simp
            refine (fsize_any an w1 (by assumption)).mono ?_
            rintro e w3 ⟨rfl, rfl⟩
            refine hK (updV V 25 (.int .u64 (an.natAbs : Int))) _ _ (by simp [putAll, updV, e4]) ?_
            exact { h with e5 := fun _ => rfl }
          · replace ho := Option.some.inj ho
            subst ho
            simp only [putAll, List.foldl_cons, List.foldl_nil, List.setIfInBounds_toArray, List.set_cons_zero, List.set_cons_succ]
            clear hL hno
            go_simp
            refine hK (updV V 26 (.pointer (some ⟨gx, 1, none⟩))) _ _ (by simp [putAll, updV]) ?_
            exact { h with e6 := fun _ => rfl }
          · replace ho := Option.some.inj ho
            subst ho
            simp only [putAll, List.foldl_cons, List.foldl_nil, List.setIfInBounds_toArray, List.set_cons_zero, List.set_cons_succ]
            have e6 : V 26 = _ := h.e6 (hL ⟨6, .data⟩ (by simp) rfl)
            have ct := (Kgx.out.below h.p (by omega)).cell 1
            simp only [List.getElem?_toArray, List.getElem?_cons_zero, List.getElem?_cons_succ] at ct
            clear hL hno
            go_simp
            refine hK (updV V 27 (.int .i64 xd)) _ _ (by simp [putAll, updV, e6]) ?_
            exact { h with e7 := fun _ => rfl }
          · replace ho := Option.some.inj ho
            subst ho
            have e7 : V 27 = _ := h.e7 (hL ⟨7, .data⟩ (by simp) rfl)
            clear hL hno
            simp only [putAll, List.foldl_cons, List.foldl_nil, List.setIfInBounds_toArray, List.set_cons_zero, List.set_cons_succ]
            go_simp
            refine (fsize_any xd w1 (by assumption)).mono ?_
            rintro e w3 ⟨rfl, rfl⟩
            refine hK (updV V 28 (.int .u64 (xd.natAbs : Int))) _ _ (by simp [putAll, updV, e7]) ?_
            exact { h with e8 := fun _ => rfl }
          · replace ho := Option.some.inj ho
            subst ho
            have e2 : V 22 = _ := h.e2 (hL ⟨2, .data⟩ (by simp) rfl)
            have e5 : V 25 = _ := h.e5 (hL ⟨5, .data⟩ (by simp) rfl)
            have e8 : V 28 = _ := h.e8 (hL ⟨8, .data⟩ (by simp) rfl)
            have l11 : L 11 = false := hno 11 (by kernel_rfl)
            clear hL hno
            simp only [putAll, List.foldl_cons, List.foldl_nil, List.setIfInBounds_toArray, List.set_cons_zero, List.set_cons_succ]
            go_simp
            refine (LOWMulA.out w1).mono ?_
            rintro e w3 ⟨rfl, hb3⟩
            refine hK (updV V 29 (.agg #[.int .i64 n1, .int .i64 d1])) _ _ (by simp [putAll, updV, e2, e5, e8]) ?_
            exact { h with
              p := h.p.trans (hb3.mono h.p.size)
              b := fun h10 h11 => by obtain ⟨g6, q1, q2, q3⟩ := h.b h10 h11; exact ⟨g6, q1, q2, q3.below hb3 q3.lt⟩
              f := fun h11 => (by cases (h11.symm.trans l11))
              e9 := fun _ => rfl }
          · replace ho := Option.some.inj ho
            subst ho
            have l11 : L 11 = false := hno 11 (by kernel_rfl)
            clear hL hno
            simp only [putAll, List.foldl_cons, List.foldl_nil, List.setIfInBounds_toArray, List.set_cons_zero, List.set_cons_succ]
            have hb := (Below.refl w1.heap.size w1).alloc (Nat.le_refl _) (.cells #[.int .i64 0, .int .i64 0] 51)
            have hnew := Blk.new w1 _ rfl 51 #[.int .i64 0, .int .i64 0]
            go_simp
            refine hK (updV V 6 (.pointer (some ⟨w1.heap.size, 0, none⟩))) _ _ (by simp [putAll, updV]) ?_
            exact { h with
              p := h.p.trans (hb.mono h.p.size)
              b := fun _ _ => ⟨_, rfl, h.p.size, hnew⟩
              f := fun h11 => (by cases (h11.symm.trans l11)) }
          · replace ho := Option.some.inj ho
            subst ho
            have e9 : V 29 = _ := h.e9 (hL ⟨9, .data⟩ (by simp) rfl)
            have t1 : L 10 = true := hL ⟨10, .data⟩ (by simp) rfl
            have t2 : L 11 = false := hi
            clear hL hno
            simp only [putAll, List.foldl_cons, List.foldl_nil, List.setIfInBounds_toArray, List.set_cons_zero, List.set_cons_succ]
            refine Exists.elim (h.b t1 t2) fun g6 hq => ?_
            have q1 := hq.1
            have q2 := hq.2.1
            have q3 := hq.2.2
            clear t1 t2 hq
            have e10 : V 6 = _ := q1
            have f0 := q3.cell 0
            have f1 := q3.cell 1
            have z0 := q3.frozen 0
            have z1 := q3.frozen 1
            simp only [List.getElem?_toArray, List.getElem?_cons_zero, List.getElem?_cons_succ] at f0 f1
            have kb2 := (q3.set 0 (.int .i64 n1)).set 1 (.int .i64 d1)
            have bb2 := (h.p.setCell (p := ⟨g6, 0, none⟩) q2 (.int .i64 n1)).setCell (p := ⟨g6, 1, none⟩) q2 (.int .i64 d1)
            simp at kb2
            clear q3
            go_simp
            refine hK V _ _ (by simp [putAll, e9, e10]) ?_
            exact { h with p := bb2, b := fun _ hn => (by cases hn), f := fun _ => ⟨g6, q1, q2, kb2⟩ }
          · simp at ho
        · clear hIMulA
          intro L V W1 hL h
          have t1 : L 11 = true := hL 11 (by simp)
          refine Exists.elim (h.f t1) fun g6 hq => ?_
          have q1 := hq.1
          have q2 := hq.2.1
          have q3 := hq.2.2
          clear t1 hq
          have p1 := h.p
          simp only [putAll, List.foldl_cons, List.foldl_nil, List.setIfInBounds_toArray, List.set_cons_zero, List.set_cons_succ, q1]
          have hz1 := p1.size
          have Mga := Lib.hid (Kga.out.below p1 (by omega))
          have Mge := Lib.hid (Kge.out.below p1 (by omega))
          have Mgx := Lib.hid (Kgx.out.below p1 (by omega))
          have B1 := Lib.hid (B0.out.trans (p1.mono (by omega)))
          have K6' := Lib.hid q3
          have hg6 := q3.lt
          have hs0 := hz5
          clear h hL q1 q3 p1 Kga Kge Kgx B0
          generalize V 20 = v20
          generalize V 21 = v21
          generalize V 22 = v22
          generalize V 23 = v23
          generalize V 24 = v24
          generalize V 25 = v25
          generalize V 26 = v26
          generalize V 27 = v27
          generalize V 28 = v28
          generalize V 29 = v29
          go_wp2_with fail
          have hIMulB : ∀ V, MulB W1 gx ga xn ad n2 d2 (fun _ => false) V W1.drew := fun V => by
            have h0 : Below W1.heap.size W1 W1.drew := Drawn.below _ ((Drawn.refl W1).drewN 1)
            constructor
            all_goals first
              | exact h0
              | (intro h; cases h)
          refine wp_region_put3 [30, 31, 32, 33, 34, 35, 36, 37, 38, 39, 7] (MulB W1 gx ga xn ad n2 d2) (by kernel_rfl) (by kernel_rfl) ?_ ?_ ?_
          · exact hIMulB _
          · intro i o ho L V w1 hi hL hno h K hK
            rcases i with _ | _ | _ | _ | _ | _ | _ | _ | _ | _ | _ | _ | i
            · replace ho := Option.some.inj ho
              subst ho
              simp only [putAll, List.foldl_cons, List.foldl_nil, List.setIfInBounds_toArray, List.set_cons_zero, List.set_cons_succ]
              clear hL hno
              go_simp
              refine hK (updV V 30 (.pointer (some ⟨gx, 0, none⟩))) _ _ (by simp [putAll, updV]) ?_
              exact { h with e0 := fun _ => rfl }
            · replace ho := Option.some.inj ho
              subst ho
              simp only [putAll, List.foldl_cons, List.foldl_nil, List.setIfInBounds_toArray, List.set_cons_zero, List.set_cons_succ]
              have e0 : V 30 = _ := h.e0 (hL ⟨0, .data⟩ (by simp) rfl)
              have ct := (Mgx.out.below h.p (by omega)).cell 0
              simp only [List.getElem?_toArray, List.getElem?_cons_zero] at ct
              clear hL hno
              go_simp
              refine hK (updV V 31 (.int .i64 xn)) _ _ (by simp [putAll, updV, e0]) ?_
              exact { h with e1 := fun _ => rfl }
            · replace ho := Option.some.inj ho
              subst ho
              simp only [putAll, List.foldl_cons, List.foldl_nil, List.setIfInBounds_toArray, List.set_cons_zero, List.set_cons_succ]
              have e1 : V 31 = _ := h.e1 (hL ⟨1, .data⟩ (by simp) rfl)
              clear hL hno
              go_simp
              refine hK (updV V 32 (.bool (decide (xn < 0)))) _ _ (by simp [putAll, updV, e1]) ?_
              exact { h with e2 := fun _ => rfl }
            · replace ho := Option.some.inj ho
              subst ho
              simp only [putAll, List.foldl_cons, List.foldl_nil, List.setIfInBounds_toArray, List.set_cons_zero, List.set_cons_succ]
              clear hL hno
              go_simp
              refine hK (updV V 33 (.pointer (some ⟨gx, 0, none⟩))) _ _ (by simp [putAll, updV]) ?_
              exact { h with e3 := fun _ => rfl }
            · replace ho := Option.some.inj ho
              subst ho
              simp only [putAll, List.foldl_cons, List.foldl_nil, List.setIfInBounds_toArray, List.set_cons_zero, List.set_cons_succ]
              have e3 : V 33 = _ := h.e3 (hL ⟨3, .data⟩ (by simp) rfl)
              have ct := (Mgx.out.below h.p (by omega)).cell 0
              simp only [List.getElem?_toArray, List.getElem?_cons_zero] at ct
              clear hL hno
              go_simp
              refine hK (updV V 34 (.int .i64 xn)) _ _ (by simp [putAll, updV, e3]) ?_
              exact { h with e4 := fun _ => rfl }
            · replace ho := Option.some.inj ho
              subst ho
              have e4 : V 34 = _ := h.e4 (hL ⟨4, .data⟩ (by simp) rfl)
              clear hL hno
              simp only [putAll, List.foldl_cons, List.foldl_nil, List.setIfInBounds_toArray, List.set_cons_zero, List.set_cons_succ]
              go_simp
              refine (fsize_any xn w1 (by assumption)).mono ?_
              rintro e w3 ⟨rfl, rfl⟩
              refine hK (updV V 35 (.int .u64 (xn.natAbs : Int))) _ _ (by simp [putAll, updV, e4]) ?_
              exact { h with e5 := fun _ => rfl }
            · replace ho := Option.some.inj ho
              subst ho
              simp only [putAll, List.foldl_cons, List.foldl_nil, List.setIfInBounds_toArray, List.set_cons_zero, List.set_cons_succ]
              clear hL hno
              go_simp
              refine hK (updV V 36 (.pointer (some ⟨ga, 1, none⟩))) _ _ (by simp [putAll, updV]) ?_
              exact { h with e6 := fun _ => rfl }
            · replace ho := Option.some.inj ho
              subst ho
              simp only [putAll, List.foldl_cons, List.foldl_nil, List.setIfInBounds_toArray, List.set_cons_zero, List.set_cons_succ]
              have e6 : V 36 = _ := h.e6 (hL ⟨6, .data⟩ (by simp) rfl)
              have ct := (Mga.out.below h.p (by omega)).cell 1
              simp only [List.getElem?_toArray, List.getElem?_cons_zero, List.getElem?_cons_succ] at ct
              clear hL hno
              go_simp
              refine hK (updV V 37 (.int .i64 ad)) _ _ (by simp [putAll, updV, e6]) ?_
              exact { h with e7 := fun _ => rfl }
            · replace ho := Option.some.inj ho
              subst ho
              have e7 : V 37 = _ := h.e7 (hL ⟨7, .data⟩ (by simp) rfl)
              clear hL hno
              simp only [putAll, List.foldl_cons, List.foldl_nil, List.setIfInBounds_toArray, List.set_cons_zero, List.set_cons_succ]
              go_simp
              refine (fsize_any ad w1 (by assumption)).mono ?_
              rintro e w3 ⟨rfl, rfl⟩
              refine hK (updV V 38 (.int .u64 (ad.natAbs : Int))) _ _ (by simp [putAll, updV, e7]) ?_
              exact { h with e8 := fun _ => rfl }
            · replace ho := Option.some.inj ho
              subst ho
              have e2 : V 32 = _ := h.e2 (hL ⟨2, .data⟩ (by simp) rfl)
              have e5 : V 35 = _ := h.e5 (hL ⟨5, .data⟩ (by simp) rfl)
              have e8 : V 38 = _ := h.e8 (hL ⟨8, .data⟩ (by simp) rfl)
              have l11 : L 11 = false := hno 11 (by kernel_rfl)
              clear hL hno
              simp only [putAll, List.foldl_cons, List.foldl_nil, List.setIfInBounds_toArray, List.set_cons_zero, List.set_cons_succ]
              go_simp
              refine (LOWMulB.out w1).mono ?_
              rintro e w3 ⟨rfl, hb3⟩
              refine hK (updV V 39 (.agg #[.int .i64 n2, .int .i64 d2])) _ _ (by simp [putAll, updV, e2, e5, e8]) ?_
              exact { h with
                p := h.p.trans (hb3.mono h.p.size)
                b := fun h10 h11 => by obtain ⟨g6, q1, q2, q3⟩ := h.b h10 h11; exact ⟨g6, q1, q2, q3.below hb3 q3.lt⟩
                f := fun h11 => (by cases (h11.symm.trans l11))
                e9 := fun _ => rfl }
            · replace ho := Option.some.inj ho
              subst ho
              have l11 : L 11 = false := hno 11 (by kernel_rfl)
              clear hL hno
              simp only [putAll, List.foldl_cons, List.foldl_nil, List.setIfInBounds_toArray, List.set_cons_zero, List.set_cons_succ]
              have hb := (Below.refl w1.heap.size w1).alloc (Nat.le_refl _) (.cells #[.int .i64 0, .int .i64 0] 51)
              have hnew := Blk.new w1 _ rfl 51 #[.int .i64 0, .int .i64 0]
              go_simp
              refine hK (updV V 7 (.pointer (some ⟨w1.heap.size, 0, none⟩))) _ _ (by simp [putAll, updV]) ?_
              exact { h with
                p := h.p.trans (hb.mono h.p.size)
                b := fun _ _ => ⟨_, rfl, h.p.size, hnew⟩
                f := fun h11 => (by cases (h11.symm.trans l11)) }
            · replace ho := Option.some.inj ho
              subst ho
              have e9 : V 39 = _ := h.e9 (hL ⟨9, .data⟩ (by simp) rfl)
              have t1 : L 10 = true := hL ⟨10, .data⟩ (by simp) rfl
              have t2 : L 11 = false := hi
              clear hL hno
              simp only [putAll, List.foldl_cons, List.foldl_nil, List.setIfInBounds_toArray, List.set_cons_zero, List.set_cons_succ]
              refine Exists.elim (h.b t1 t2) fun g6 hq => ?_
              have q1 := hq.1
              have q2 := hq.2.1
              have q3 := hq.2.2
              clear t1 t2 hq
              have e10 : V 7 = _ := q1
              have f0 := q3.cell 0
              have f1 := q3.cell 1
              have z0 := q3.frozen 0
              have z1 := q3.frozen 1
              simp only [List.getElem?_toArray, List.getElem?_cons_zero, List.getElem?_cons_succ] at f0 f1
              have kb2 := (q3.set 0 (.int .i64 n2)).set 1 (.int .i64 d2)
              have bb2 := (h.p.setCell (p := ⟨g6, 0, none⟩) q2 (.int .i64 n2)).setCell (p := ⟨g6, 1, none⟩) q2 (.int .i64 d2)
              simp at kb2
              clear q3
              go_simp
              refine hK V _ _ (by simp [putAll, e9, e10]) ?_
              exact { h with p := bb2, b := fun _ hn => (by cases hn), f := fun _ => ⟨g6, q1, q2, kb2⟩ }
            · simp at ho
          · clear hIMulB
            intro L V W2 hL h
            have t1 : L 11 = true := hL 11 (by simp)
            refine Exists.elim (h.f t1) fun g7 hq => ?_
            have r1 := hq.1
            have r2 := hq.2.1
            have r3 := hq.2.2
            clear t1 hq
            have p2 := h.p
            simp only [putAll, List.foldl_cons, List.foldl_nil, List.setIfInBounds_toArray, List.set_cons_zero, List.set_cons_succ, r1]
            have hz2 := p2.size
            have K2 := Lib.hid (Mga.out.below p2 (by omega))
            have K3 := Lib.hid (Mge.out.below p2 (by omega))
            have K6 := Lib.hid (K6'.out.below p2 (by omega))
            have K7 := Lib.hid r3
            have B2 := Lib.hid (B1.out.trans (p2.mono (by omega)))
            have hg7 := r3.lt
            have hgae : ga ≠ ge := by have := hge.out; omega
            clear h hL r1 r3 p2 Mga Mge Mgx B1 K6'
            generalize V 30 = v30
            generalize V 31 = v31
            generalize V 32 = v32
            generalize V 33 = v33
            generalize V 34 = v34
            generalize V 35 = v35
            generalize V 36 = v36
            generalize V 37 = v37
            generalize V 38 = v38
            generalize V 39 = v39
            have hgle : ga ≤ ge := by have := hge.out; omega
            go_wp2_with fail
            have hIMulC : ∀ V, MulC W2 ga g6 g7 n1 d1 n2 d2 (fun _ => false) V W2.drew := fun V => by
              have h0 : Drawn W2 W2.drew := (Drawn.refl W2).drewN 1
              constructor
              all_goals first
                | exact fun _ => h0
                | (intro h; cases h)
            refine wp_region_put3 [40, 41, 42, 43, 44, 45, 46, 47, 48, 49, 50] (MulC W2 ga g6 g7 n1 d1 n2 d2) (by kernel_rfl) (by kernel_rfl) ?_ ?_ ?_
            · exact hIMulC _
            · intro i o ho L V w1 hi hL hno h K hK
              rcases i with _ | _ | _ | _ | _ | _ | _ | _ | _ | _ | _ | _ | i
              · replace ho := Option.some.inj ho
                subst ho
                simp only [putAll, List.foldl_cons, List.foldl_nil, List.setIfInBounds_toArray, List.set_cons_zero, List.set_cons_succ]
                clear hL hno
                go_simp
                refine hK (updV V 40 (.pointer (some ⟨g6, 0, none⟩))) _ _ (by simp [putAll, updV]) ?_
                exact { h with e0 := fun _ => rfl }
              · replace ho := Option.some.inj ho
                subst ho
                simp only [putAll, List.foldl_cons, List.foldl_nil, List.setIfInBounds_toArray, List.set_cons_zero, List.set_cons_succ]
                have e0 : V 40 = _ := h.e0 (hL ⟨0, .data⟩ (by simp) rfl)
                have l11 : L 11 = false := hno 11 (by kernel_rfl)
                have ct := (h.p0 l11).cell ⟨g6, 0, none⟩
                rw [K6.out.cell 0] at ct
                simp only [List.getElem?_toArray, List.getElem?_cons_zero] at ct
                clear hL hno
                go_simp
                refine hK (updV V 41 (.int .i64 n1)) _ _ (by simp [putAll, updV, e0]) ?_
                exact { h with e1 := fun _ => rfl }
              · replace ho := Option.some.inj ho
                subst ho
                simp only [putAll, List.foldl_cons, List.foldl_nil, List.setIfInBounds_toArray, List.set_cons_zero, List.set_cons_succ]
                clear hL hno
                go_simp
                refine hK (updV V 42 (.pointer (some ⟨g7, 0, none⟩))) _ _ (by simp [putAll, updV]) ?_
                exact { h with e2 := fun _ => rfl }
              · replace ho := Option.some.inj ho
                subst ho
                simp only [putAll, List.foldl_cons, List.foldl_nil, List.setIfInBounds_toArray, List.set_cons_zero, List.set_cons_succ]
                have e2 : V 42 = _ := h.e2 (hL ⟨2, .data⟩ (by simp) rfl)
                have l11 : L 11 = false := hno 11 (by kernel_rfl)
                have ct := (h.p0 l11).cell ⟨g7, 0, none⟩
                rw [K7.out.cell 0] at ct
                simp only [List.getElem?_toArray, List.getElem?_cons_zero] at ct
                clear hL hno
                go_simp
                refine hK (updV V 43 (.int .i64 n2)) _ _ (by simp [putAll, updV, e2]) ?_
                exact { h with e3 := fun _ => rfl }
              · replace ho := Option.some.inj ho
                subst ho
                have e1 : V 41 = _ := h.e1 (hL ⟨1, .data⟩ (by simp) rfl)
                have e3 : V 43 = _ := h.e3 (hL ⟨3, .data⟩ (by simp) rfl)
                have l11 : L 11 = false := hno 11 (by kernel_rfl)
                clear hL hno
                simp only [putAll, List.foldl_cons, List.foldl_nil, List.setIfInBounds_toArray, List.set_cons_zero, List.set_cons_succ]
                go_simp
                by_cases hs : fits (n1 * n2)
                · refine (times_yes n1 n2 w1 (by assumption) (by assumption) hs).mono ?_
                  rintro e w3 ⟨rfl, rfl⟩
                  refine hK (updV V 44 (.int .i64 (n1 * n2))) _ _ (by simp [putAll, updV, e1, e3]) ?_
                  exact { h with c4 := fun _ => ⟨hs, rfl⟩ }
                · refine (times_no n1 n2 w1 (by assumption) (by assumption) hs).mono ?_
                  rintro e w3 ⟨rfl, rfl⟩
                  refine Exists.elim (h.p0 l11) fun d hd => ?_
                  subst hd
                  have q2 : Blk (W2.drewN d) ga 51 #[.int .i64 an, .int .i64 ad] := K2.out
                  have q3 : Blk (W2.drewN d) ge 30 #[.int .i64 0] := K3.out
                  have r01 := givenUp_blk q2 q3 (by omega)
                  have r0 := r01.1
                  have r1 := r01.2
                  clear r01
                  have c0 := r0.cell 0
                  have c1 := r0.cell 1
                  have c2 := r1.cell 0
                  simp at c0 c1 c2
                  refine leaves_cons (f := 39) (args := #[.pointer (some ⟨ga, 0, none⟩), .pointer (some ⟨ge, 0, none⟩)]) (by simp) (by simp [go_sem]) ?_
                  refine (mul1_big _ _ _ _ _ _ q2 q3 (by omega)).mono ?_
                  rintro e u' w'' ⟨rfl, rfl, rfl⟩
                  exact ⟨.tuple #[.agg #[.int .i64 0, .int .i64 0], .int .i64 4], by simp [results, Tryd.results24, go_sem, c0, c1, c2], by rw [BAD.out (fun hh => hs hh.1)], BW.out _ (givenUp_below (below_drewN B2.out d) (by omega) (by omega))⟩
              · replace ho := Option.some.inj ho
                subst ho
                simp only [putAll, List.foldl_cons, List.foldl_nil, List.setIfInBounds_toArray, List.set_cons_zero, List.set_cons_succ]
                clear hL hno
                go_simp
                refine hK (updV V 45 (.pointer (some ⟨g6, 1, none⟩))) _ _ (by simp [putAll, updV]) ?_
                exact { h with e5 := fun _ => rfl }
              · replace ho := Option.some.inj ho
                subst ho
                simp only [putAll, List.foldl_cons, List.foldl_nil, List.setIfInBounds_toArray, List.set_cons_zero, List.set_cons_succ]
                have e5 : V 45 = _ := h.e5 (hL ⟨5, .data⟩ (by simp) rfl)
                have l11 : L 11 = false := hno 11 (by kernel_rfl)
                have ct := (h.p0 l11).cell ⟨g6, 1, none⟩
                rw [K6.out.cell 1] at ct
                simp only [List.getElem?_toArray, List.getElem?_cons_zero, List.getElem?_cons_succ] at ct
                clear hL hno
                go_simp
                refine hK (updV V 46 (.int .i64 d1)) _ _ (by simp [putAll, updV, e5]) ?_
                exact { h with e6 := fun _ => rfl }
              · replace ho := Option.some.inj ho
                subst ho
                simp only [putAll, List.foldl_cons, List.foldl_nil, List.setIfInBounds_toArray, List.set_cons_zero, List.set_cons_succ]
                clear hL hno
                go_simp
                refine hK (updV V 47 (.pointer (some ⟨g7, 1, none⟩))) _ _ (by simp [putAll, updV]) ?_
                exact { h with e7 := fun _ => rfl }
              · replace ho := Option.some.inj ho
                subst ho
                simp only [putAll, List.foldl_cons, List.foldl_nil, List.setIfInBounds_toArray, List.set_cons_zero, List.set_cons_succ]
                have e7 : V 47 = _ := h.e7 (hL ⟨7, .data⟩ (by simp) rfl)
                have l11 : L 11 = false := hno 11 (by kernel_rfl)
                have ct := (h.p0 l11).cell ⟨g7, 1, none⟩
                rw [K7.out.cell 1] at ct
                simp only [List.getElem?_toArray, List.getElem?_cons_zero, List.getElem?_cons_succ] at ct
                clear hL hno
                go_simp
                refine hK (updV V 48 (.int .i64 d2)) _ _ (by simp [putAll, updV, e7]) ?_
                exact { h with e8 := fun _ => rfl }
              · replace ho := Option.some.inj ho
                subst ho
                have e6 : V 46 = _ := h.e6 (hL ⟨6, .data⟩ (by simp) rfl)
                have e8 : V 48 = _ := h.e8 (hL ⟨8, .data⟩ (by simp) rfl)
                have l11 : L 11 = false := hno 11 (by kernel_rfl)
                clear hL hno
                simp only [putAll, List.foldl_cons, List.foldl_nil, List.setIfInBounds_toArray, List.set_cons_zero, List.set_cons_succ]
                go_simp
                by_cases hs : fits (d1 * d2)
                · refine (times_yes d1 d2 w1 (by assumption) (by assumption) hs).mono ?_
                  rintro e w3 ⟨rfl, rfl⟩
                  refine hK (updV V 49 (.int .i64 (d1 * d2))) _ _ (by simp [putAll, updV, e6, e8]) ?_
                  exact { h with c9 := fun _ => ⟨hs, rfl⟩ }
                · refine (times_no d1 d2 w1 (by assumption) (by assumption) hs).mono ?_
                  rintro e w3 ⟨rfl, rfl⟩
                  refine Exists.elim (h.p0 l11) fun d hd => ?_
                  subst hd
                  have q2 : Blk (W2.drewN d) ga 51 #[.int .i64 an, .int .i64 ad] := K2.out
                  have q3 : Blk (W2.drewN d) ge 30 #[.int .i64 0] := K3.out
                  have r01 := givenUp_blk q2 q3 (by omega)
                  have r0 := r01.1
                  have r1 := r01.2
                  clear r01
                  have c0 := r0.cell 0
                  have c1 := r0.cell 1
                  have c2 := r1.cell 0
                  simp at c0 c1 c2
                  refine leaves_cons (f := 39) (args := #[.pointer (some ⟨ga, 0, none⟩), .pointer (some ⟨ge, 0, none⟩)]) (by simp) (by simp [go_sem]) ?_
                  refine (mul1_big _ _ _ _ _ _ q2 q3 (by omega)).mono ?_
                  rintro e u' w'' ⟨rfl, rfl, rfl⟩
                  exact ⟨.tuple #[.agg #[.int .i64 0, .int .i64 0], .int .i64 4], by simp [results, Tryd.results24, go_sem, c0, c1, c2], by rw [BAD.out (fun hh => hs hh.2)], BW.out _ (givenUp_below (below_drewN B2.out d) (by omega) (by omega))⟩
              · replace ho := Option.some.inj ho
                subst ho
                have t1 : L 4 = true := hL ⟨4, .data⟩ (by simp) rfl
                have t2 : L 9 = true := hL ⟨9, .data⟩ (by simp) rfl
                have e4 := (h.c4 t1).2
                have e9 := (h.c9 t2).2
                clear t1 t2
                clear hL hno
                simp only [putAll, List.foldl_cons, List.foldl_nil, List.setIfInBounds_toArray, List.set_cons_zero, List.set_cons_succ]
                go_simp
                refine hK (updV V 50 (.agg #[.int .i64 (n1 * n2), .int .i64 (d1 * d2)])) _ _ (by simp [putAll, updV, e4, e9]) ?_
                exact { h with e10 := fun _ => rfl }
              · replace ho := Option.some.inj ho
                subst ho
                have e10 : V 50 = _ := h.e10 (hL ⟨10, .data⟩ (by simp) rfl)
                clear hL hno
                simp only [putAll, List.foldl_cons, List.foldl_nil, List.setIfInBounds_toArray, List.set_cons_zero, List.set_cons_succ]
                have t2 : L 11 = false := hi
                refine Exists.elim (h.p0 t2) fun d hd => ?_
                clear t2
                have kb : Blk w1 ga 51 #[.int .i64 an, .int .i64 ad] := by subst hd; exact K2.out
                have f0 := kb.cell 0
                have f1 := kb.cell 1
                have z0 := kb.frozen 0
                have z1 := kb.frozen 1
                simp only [List.getElem?_toArray, List.getElem?_cons_zero, List.getElem?_cons_succ] at f0 f1
                have p1 : ∃ d, (w1.setCell ⟨ga, 0, none⟩ (.int .i64 (n1 * n2))).setCell ⟨ga, 1, none⟩ (.int .i64 (d1 * d2)) = ((W2.drewN d).setCell ⟨ga, 0, none⟩ (.int .i64 (n1 * n2))).setCell ⟨ga, 1, none⟩ (.int .i64 (d1 * d2)) := ⟨d, by rw [hd]⟩
                clear kb hd
                go_simp
                refine hK V _ _ (by simp [putAll, e10]) ?_
                exact { h with p0 := fun hn => (by cases hn), p1 := fun _ => p1 }
              · simp at ho
            · clear hIMulC
              intro L V W3 hL h
              have t1 : L 11 = true := hL 11 (by simp)
              have t2 : L 4 = true := hL 4 (by simp)
              have t3 : L 9 = true := hL 9 (by simp)
              refine Exists.elim (h.p1 t1) fun d hW3 => ?_
              have s4 := (h.c4 t2).1
              have s9 := (h.c9 t3).1
              clear t1 t2 t3
              simp only [putAll, List.foldl_cons, List.foldl_nil, List.setIfInBounds_toArray, List.set_cons_zero, List.set_cons_succ]
              have kk : Blk W3 ga 51 #[.int .i64 (n1 * n2), .int .i64 (d1 * d2)] := by
                rw [hW3]
                have k8 : Blk (W2.drewN d) ga 51 #[.int .i64 an, .int .i64 ad] := K2.out
                have := (k8.set 0 (.int .i64 (n1 * n2))).set 1 (.int .i64 (d1 * d2))
                simpa using this
              have kk3 : Blk W3 ge 30 #[.int .i64 0] := by
                rw [hW3]
                have k8 : Blk (W2.drewN d) ge 30 #[.int .i64 0] := K3.out
                exact (k8.far (p := ⟨ga, 0, none⟩) (fun e => hgae e.symm) _).far (p := ⟨ga, 1, none⟩) (fun e => hgae e.symm) _
              have bb : Below ga w W3 := by
                rw [hW3]
                exact ((below_drewN B2.out d).setCell (p := ⟨ga, 0, none⟩) (Nat.le_refl _) _).setCell (p := ⟨ga, 1, none⟩) (Nat.le_refl _) _
              have Hn := Lib.hid (GOOD.out s4 s9)
              have HB := Lib.hid bb
              have HK := Lib.hid kk
              have HK3 := Lib.hid kk3
              clear h hL hW3 kk kk3 bb BAD GOOD K2 K3 K6 K7 B2
              generalize V 40 = v40
              generalize V 41 = v41
              generalize V 42 = v42
              generalize V 43 = v43
              generalize V 44 = v44
              generalize V 45 = v45
              generalize V 46 = v46
              generalize V 47 = v47
              generalize V 48 = v48
              generalize V 49 = v49
              generalize V 50 = v50
              go_wp2_with fail
              go_roundw
              case rel => exact ⟨k + 1, ⟨n1 * n2, d1 * d2⟩, by omega, by go_num, HB.out, HK.out, HK3.out, Hval.out, ⟨s4, s9⟩, Hn⟩
              case measure => simp [intOf]; omega
      · have hd : fs.drop k = [] := List.drop_eq_nil_of_le (by omega)
        have hres : mulGo ⟨1, 1⟩ fs = (⟨an, ad⟩, 0) := by rw [He.out, hd]; rfl
        have Hres := Lib.hid hres
        have f0 := ka.cell 0
        have f1 := ka.cell 1
        have f2 := ke.cell 0
        have z0 := ka.frozen 0
        have z1 := ka.frozen 1
        have z2 := ke.frozen 0
        have hne : ga ≠ ge := by have := hge.out; omega
        have hge' : ga ≤ ge := by have := hge.out; omega
        have k2 := (ka.set 0 (.int .i64 an)).set 1 (.int .i64 ad)
        have k3 := k2.far (p := ⟨ge, 0, none⟩) hne (.int .i64 0)
        have k4 := ((ke.far (p := ⟨ga, 0, none⟩) (fun e => hne e.symm) (.int .i64 an)).far (p := ⟨ga, 1, none⟩) (fun e => hne e.symm) (.int .i64 ad)).set 0 (.int .i64 0)
        have bb := ((hb.setCell (p := ⟨ga, 0, none⟩) (Nat.le_refl _) (.int .i64 an)).setCell (p := ⟨ga, 1, none⟩) (Nat.le_refl _) (.int .i64 ad)).setCell (p := ⟨ge, 0, none⟩) hge' (.int .i64 0)
        have g2 := ((ke.far (p := ⟨ga, 0, none⟩) (fun e => hne e.symm) (.int .i64 an)).far (p := ⟨ga, 1, none⟩) (fun e => hne e.symm) (.int .i64 ad)).cell 0
        have c0 := k3.cell 0
        have c1 := k3.cell 1
        have c2 := k4.cell 0
        simp at f0 f1 f2 c0 c1 c2 g2
        have HB := Lib.hid bb
        clear ka ke k2 k3 k4 hres hd He bb hb hwz
        go_wp2_with fail
        refine leaves_cons (f := 39) (args := #[.pointer (some ⟨ga, 0, none⟩), .pointer (some ⟨ge, 0, none⟩)]) (by simp) (by simp [go_sem]) ?_
        refine (mul1_idle _ _ _).mono ?_
        rintro e u' w'' ⟨rfl, rfl, rfl⟩
        exact ⟨.tuple #[.agg #[.int .i64 an, .int .i64 ad], .int .i64 0], by simp [results, Tryd.results24, go_sem, c0, c1, c2], by rw [Hres.out], BW.out _ HB.out⟩
end Go.Proofs.YtdogddngiolpoaaDoor
