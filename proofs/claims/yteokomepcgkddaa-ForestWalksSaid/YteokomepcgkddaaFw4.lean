/-
  The law ForestWalks where there is a path: what its marks say.
-/
import Derived.Test.YteokomepcgkddaaFw3
namespace Go.Proofs.Yteokomepcgkddaa
open Go.RowKit

/-- k steps have been gone; whoever is marked was left by them -/
structure SeenInv (T : List Edg) (p : List Stp) (s t m k u : Nat) (sn : List Int) : Prop where
  len : sn.length = m
  here : u < m
  come : Walk T s (p.take k) u
  go : Walk T u (p.drop k) t
  mark : ∀ v, v < m → sn[v]? = some 0 ∨ (sn[v]? = some 1 ∧ ∃ a b, p.take k = a ++ b ∧ b ≠ [] ∧ Walk T v b u)
theorem SeenInv.free {T : List Edg} {p : List Stp} {s t m k u : Nat} {sn : List Int} (hF : Forest T) (hr : Red p) (h : SeenInv T p s t m k u sn) : sn[u]? = some 0 := by
  rcases h.mark u h.here with h1 | ⟨_, a, b, h2, h3, h4⟩
  · exact h1
  · exfalso
    have hrb : Red b := by
      have : Red (p.take k ++ p.drop k) := by rw [List.take_append_drop]; exact hr
      have := Red.left this
      rw [h2] at this
      exact Red.right this
    exact h3 (uniq hF h4 (show Walk T u [] u from rfl) hrb trivial)
theorem SeenInv.start {T : List Edg} {p : List Stp} {s t m : Nat} (hs : s < m) (hw : Walk T s p t) : SeenInv T p s t m 0 s (List.replicate m 0) :=
  ⟨by simp, hs, by rw [List.take_zero]; rfl, by rw [List.drop_zero]; exact hw, fun v hv => .inl (by simp [hv])⟩
theorem SeenInv.step {T : List Edg} {p : List Stp} {s t m k u : Nat} {sn : List Int} (h : SeenInv T p s t m k u sn) {st : Stp} (hd : p.drop k = st :: p.drop (k + 1)) (hlt : ∀ x, stepOk T u x st → x < m) :
    ∃ x, stepOk T u x st ∧ SeenInv T p s t m (k + 1) x (sn.set u 1) := by
  have hg := h.go
  rw [hd] at hg
  obtain ⟨x, hx, hw⟩ := hg
  have hk : k < p.length := by
    have := congrArg List.length hd
    simp at this; omega
  have htk : p.take (k + 1) = p.take k ++ [st] := by
    have e := List.drop_eq_getElem_cons hk
    rw [hd] at e
    injection e with e _
    rw [List.take_add_one, List.getElem?_eq_getElem hk, ← e]; rfl
  have h1 : Walk T u [st] x := ⟨x, hx, rfl⟩
  refine ⟨x, hx, by simp [h.len], hlt x hx, by rw [htk]; exact h.come.app h1, hw, fun v hv => ?_⟩
  by_cases hvu : v = u
  · subst hvu
    exact .inr ⟨by rw [List.getElem?_set_self (by rw [h.len]; exact hv)], p.take k, [st], htk, by simp, h1⟩
  · rw [List.getElem?_set_ne (fun h => hvu h.symm)]
    rcases h.mark v hv with h2 | ⟨h2, a, b, h3, h4, h5⟩
    · exact .inl h2
    · exact .inr ⟨h2, a, b ++ [st], by rw [htk, h3, List.append_assoc], by simp, h5.app h1⟩

set_option maxRecDepth 100000 in
set_option maxHeartbeats 8000000 in
theorem walksLaw_path (m : Nat) (ars : List ArcV) (A : Option Addr) (l c : Nat) (s t : Nat) (w : World) (hl : ars.length = l) (hx : ∀ a ∈ ars, a.fit) (hr : Rd w w.heap.size A (cellsA ars)) (hm : l ≤ maxLen) (hs : s < m) (ht : t < m)
    (hc : checkF m ars = 0) (heq : root (upF m ars) s = root (upF m ars) t) :
    Calls Try.prog 6 #[.agg #[.int .i64 m, .slice A l c], .int .i64 s, .int .i64 t] w fun e w' => e = .returned (.bool true) ∧ Below w.heap.size w w' := by
  obtain ⟨i0, hi, hz0, hz1, hz2⟩ := info_parts info_int
  have b1 := (Below.refl w.heap.size w).alloc (Nat.le_refl _) (.cells #[.int .i64 m, .slice A l c] 24)
  have kb := Blk.new w _ rfl 24 #[.int .i64 m, .slice A l c]
  obtain ⟨h1, h2, h3, hok⟩ := checkF_ok hc
  have Hc := Lib.hid hc
  have Heq := Lib.hid heq
  have Hok := Lib.hid hok
  clear hc heq hok
  go_enter Try.func6, Try.ntmps6
  go_wp2_with fail
  refine (of_any m ars A l c _ hl hx ((hr.below b1 (Nat.le_refl _)).more b1.size) hm).mono ?_; rintro e w2 ⟨At, ct, Ah, ch, k1, tree, home, rfl, ha1, rt, rh, hb2⟩
  have b2 := b1.trans (hb2.mono b1.size)
  have k2 := (kb.below hb2 (by simp)).alloc (.cells #[.slice At tree.length ct, .slice Ah home.length ch] 27)
  have f2 := Blk.new w2 _ rfl 27 #[.slice At tree.length ct, .slice Ah home.length ch]
  have b3 := b2.alloc b2.size (.cells #[.slice At tree.length ct, .slice Ah home.length ch] 27)
  have rt3 : Rd (w2.alloc (.cells #[.slice At tree.length ct, .slice Ah home.length ch] 27)) w2.heap.size At (cellsI tree) := rt.below ((Below.refl w2.heap.size w2).alloc (Nat.le_refl _) _) (Nat.le_refl _)
  have rh3 : Rd (w2.alloc (.cells #[.slice At tree.length ct, .slice Ah home.length ch] 27)) w2.heap.size Ah (cellsI home) := rh.below ((Below.refl w2.heap.size w2).alloc (Nat.le_refl _) _) (Nat.le_refl _)
  obtain ⟨W, hW⟩ : ∃ W, w2.alloc (.cells #[.slice At tree.length ct, .slice Ah home.length ch] 27) = W := ⟨_, rfl⟩
  obtain ⟨bF, hbF⟩ : ∃ bF, w2.heap.size = bF := ⟨_, rfl⟩
  rw [hW] at k2 f2 b3 rh3 rt3
  rw [hbF] at f2 rh3 rt3
  have rW := (hr.below b3 (Nat.le_refl _)).more b3.size
  have hfl := f2.lt
  have n0 := k2.cell 0
  have n1 := k2.cell 1
  simp at n0 n1
  clear kb b1 hb2 b2 rt rh
  go_upto_region 2 with fail
  try rw [hW]
  clear hW hbF
  go_wp2_with fail
  refine (path_any m ars A l c s t _ hl hx rW hm (by unfold fits; omega) (by unfold fits; omega)).mono ?_; rintro e w3 ⟨A3, c3, k, p, rfl, ha3, r3, hl3, hb3⟩
  have b4 := b3.trans (hb3.mono b3.size)
  have f4 := f2.below hb3 hfl
  have k4 := k2.below hb3 k2.lt
  have hlw : w.heap.size < w3.heap.size := k4.lt
  have hfl4 : bF < w3.heap.size := f4.lt
  have rh4 := rh3.below hb3 (by omega)
  have rt4 := rt3.below hb3 (by omega)
  clear f2 k2 b3 rh3 rt3 rW n0 n1
  have hk1 : k1 = 0 ∧ tree = treeF m ars ∧ home = homeF m ars := by
    rcases ha1 with ⟨h1, _⟩ | ⟨_, h2, m', h3, h4, h5⟩
    · exact absurd Hc.out h1
    · obtain rfl : m = m' := by omega
      exact ⟨h2, h4, h5⟩
  obtain ⟨rfl, rfl, rfl⟩ := hk1
  have hk : k = 0 ∧ ∃ T, FInv m ars ars.length (upF m ars) (treeF m ars) T ∧ Walk T s p t ∧ Red p := by
    rcases ha3 with ⟨g1, _⟩ | ⟨_, g0, _⟩ | ⟨_, m', a', b', e1, e2, e3, e4, e5, e6, e7, e8⟩ | ⟨_, m', a', b', e1, e2, e3, e4, e5, e6, e7, T, e8, e9, e10⟩
    · exact absurd Hc.out g1
    · exfalso; omega
    · obtain rfl : m = m' := by omega
      obtain rfl : s = a' := by omega
      obtain rfl : t = b' := by omega
      exact absurd Heq.out e6
    · obtain rfl : m = m' := by omega
      obtain rfl : s = a' := by omega
      obtain rfl : t = b' := by omega
      exact ⟨e7, T, e8, e9, e10⟩
  obtain ⟨rfl, T, hT, hwk, hred⟩ := hk
  have hhf := home_fit Hc.out
  have htf := tree_fit Hc.out
  have htl := treeF_le m ars
  have hhl := homeF_length m ars
  have f0 := f4.cell 0
  have f1 := f4.cell 1
  have n0 := k4.cell 0
  simp at f0 f1 n0
  obtain ⟨bh, off, x, rfl, hbh, hfx, cx, _, hxx⟩ := rh4.at_ hhf (k := s) (by omega)
  obtain ⟨bh', off', y, hA, hbh', hfy, cy, _, hyy⟩ := rh4.at_ hhf (k := t) (by omega)
  cases hA
  have hxv : x = (root (upF m ars) s : Nat) := by have := hxx.out; rw [homeF_at (by omega)] at this; exact (Option.some.inj this).symm
  have hyv : y = (root (upF m ars) t : Nat) := by have := hyy.out; rw [homeF_at (by omega)] at this; exact (Option.some.inj this).symm
  obtain rfl : x = y := by rw [hxv, hyv, Heq.out]
  have g1 : (0 : Int) ≤ (s : Int) := by omega
  have g2 : (s : Int) < (m : Int) := by omega
  have g3 : (0 : Int) ≤ (t : Int) := by omega
  have g4 : (t : Int) < (m : Int) := by omega
  have I0 : SeenInv T p s t m 0 s (List.replicate m 0) := SeenInv.start hs hwk
  have Hred := Lib.hid hred
  rw [hhl] at f1 f4 ⊢
  clear ha1 ha3 hxx hyy hxv hyv hhl hhf hwk hred
  go_upto_region 5 with fail
  go_cut [60] (fun s60 wx => wx = w3 ∧ s60 = .bool false)
  case first =>
    go_wp2_with fail
    all_goals go_meet
    all_goals (refine ⟨rfl, ?_⟩; first | rfl | (congr 1; simp; done) | (congr 1; simp; omega))
  case rest =>
    obtain ⟨rfl, rfl⟩ := hcut
    go_wp2_with fail
    go_quiet (fail)
    have b5 := Below.drewN b4 nq
    have k5 : Blk (wc.drewN nq) w.heap.size 24 #[.int .i64 m, .slice A l c] := k4
    have f5 : Blk (wc.drewN nq) bF 27 #[.slice At (treeF m ars).length ct, .slice (some ⟨bh, off, none⟩) m ch] := f4
    have rt5 : Rd (wc.drewN nq) bF At (cellsI (treeF m ars)) := Drawn.rd ⟨nq, rfl⟩ rt4
    have r5 : Rd (wc.drewN nq) (wc.drewN nq).heap.size A3 (cellsS p) := Drawn.rd ⟨nq, rfl⟩ r3
    generalize wc.drewN nq = W5 at b5 k5 f5 rt5 r5 ⊢
    have hfl5 := f5.lt
    have hlw5 := k5.lt
    clear b4 k4 f4 rt4 r3 rh4 cx cy f0 f1 n0 hb3 hlw hfl4
    have n0 := k5.cell 0
    simp at n0
    go_wp2_with (at_make; refine wpList_make_full _ rfl _ _ 25 rfl W5.heap.size 3 i0 (.int .i64 0) 1 Try.underlying25 hi hz0 hz1 _ _ _ _ m rfl rfl (by omega) (by omega) (by rw [hz2]; omega) (by unfold maxLen; omega) (Nat.le_refl _) ?_)
    intro W6 o6 g6
    rw [made_int] at o6
    have b6 : Below W5.heap.size W5 W6 := (Below.refl _ _).grown g6 (Nat.le_refl _) (fun k hk => by cases hk)
    obtain ⟨gS, hgS⟩ : ∃ gS, W5.heap.size = gS := ⟨_, rfl⟩
    rw [hgS] at o6 ⊢
    have htl96 : (treeF m ars).length ≤ 96 := Nat.le_trans htl h3
    clear htl
    obtain ⟨tr, htr⟩ : ∃ tr, treeF m ars = tr := ⟨_, rfl⟩
    have Htr := Lib.hid htr
    rw [htr] at f5 rt5 htf htl96
    have hgS2 : W5.heap.size ≤ gS := by omega
    clear htr hgS
    go_wp2
    go_loopw [12, 13] (fun at_ i wr => ∃ (k u : Nat) (sn : List Int), k ≤ p.length ∧ i = .int .i64 k ∧ at_ = .int .i64 u ∧ u < m ∧ wr.ownsRow gS 3 1 (.slice (some ⟨gS, 0, none⟩) m m) m (cellsI sn) ∧ Below W5.heap.size W5 wr ∧ SeenInv T p s t m k u sn) (fun _ i _ => p.length - (intOf i).toNat)
    case atStart => exact ⟨0, s, List.replicate m 0, Nat.zero_le _, rfl, rfl, hs, o6, b6, I0⟩
    case round =>
      clear o6 b6 I0 g6 n0
      obtain ⟨k, u, sn, hk, rfl, rfl, hum, o6, b6, I⟩ := hrel
      have k6 := k5.below b6 hlw5
      have f6 := f5.below b6 hfl5
      have n0 := k6.cell 0
      have n1 := k6.cell 1
      have f0 := f6.cell 0
      simp at n0 n1 f0
      have hfree := I.free hT.forest Hred.out
      have hsu := o6.cellAt u (by omega)
      rw [show (cellsI sn)[u]? = some (.int .i64 0) by simp [cellsI, hfree]] at hsu
      have hsf := o6.frozenAt u
      have u0 : (0 : Int) ≤ (u : Int) := by omega
      have u1 : (u : Int) < (m : Int) := by omega
      by_cases hlt : k < p.length
      · obtain ⟨b, off2, st, rfl, hbl, hc1, hc2, hd, hxx⟩ := (r5.below b6 (Nat.le_refl _)).step hlt
        obtain ⟨x', hst, I2⟩ := I.step hd.out (fun x hx => by
          obtain ⟨e, he, _, h⟩ := hx
          obtain ⟨_, h1, h2, _⟩ := hT.edge e he
          split at h <;> omega)
        have hst' := (stepOk_iff hT).1 hst
        rw [Htr.out] at hst'
        obtain ⟨hmem, a, ha, hends⟩ := hst'
        have hal : st.1 < l := by rw [← hl]; exact (List.getElem?_eq_some_iff.1 ha).1
        have p0 : (0 : Int) ≤ (k : Int) := by omega
        have p1 : (k : Int) < (p.length : Int) := by omega
        have q1 : decide (((st.1 : Nat) : Int) < 0) = false := decide_eq_false (by omega)
        have q2 : decide (l ≤ st.1) = false := decide_eq_false (by omega)
        have Hmem := Lib.hid hmem
        have Ha := Lib.hid ha
        have Hends := Lib.hid hends
        have Hxx := hxx
        clear hst hmem ha hends hd hxx I hfree
        go_upto_region 16 with fail
        go_cut [131] (fun s131 wx => ∃ d, wx = wr.drewN d ∧ s131 = .bool false)
        case first =>
          go_quiet (fail)
          go_wp2
          go_meet
          exact ⟨_, rfl, rfl⟩
        case rest =>
          obtain ⟨d, rfl, rfl⟩ := hcut
          have o7 : (wr.drewN d).ownsRow gS 3 1 (.slice (some ⟨gS, 0, none⟩) m m) m (cellsI sn) := o6
          have b7 : Below W5.heap.size W5 (wr.drewN d) := Below.drewN b6 d
          clear hc1 hc2 hsu hsf n0 n1 f0 k6 f6 o6 b6 q1 q2
          generalize wr.drewN d = W7 at o7 b7 ⊢
          have f7 := f5.below b7 hfl5
          have f0 := f7.cell 0
          simp at f0
          go_wp2
          clear f0
          go_loopw [14, 15] (fun am j wx => ∃ (q : Nat) (bq : Bool), q ≤ tr.length ∧ j = .int .i64 q ∧ am = .bool bq ∧ Drawn W7 wx ∧ Hid (bq = true ∨ ∀ i, i < q → tr[i]? ≠ some (st.1 : Int))) (fun _ j _ => tr.length - (intOf j).toNat)
          case atStart => exact ⟨0, false, Nat.zero_le _, rfl, rfl, Drawn.refl _, .inr (fun _ h => absurd h (Nat.not_lt_zero _))⟩
          case round =>
            obtain ⟨q, bq, hq, rfl, rfl, hd, Hbq⟩ := hrel
            have f0 := (hd.cell ⟨bF, 0, none⟩).trans (f7.cell 0)
            simp at f0
            by_cases hqlt : q < tr.length
            · obtain ⟨bt, offt, y, rfl, hbt, hyf, hcy, _, hyy⟩ := (hd.rd (rt5.below b7 (by omega))).at_ htf hqlt
              have b8 : Below W5.heap.size W5 wr := b7.trans (hd.below _)
              obtain ⟨b', off', st', hA, hbl', hc1, hc2, _, hxx⟩ := (r5.below b8 (Nat.le_refl _)).step hlt
              cases hA
              obtain rfl : st' = st := by have := hxx.out; rw [Hxx.out] at this; exact (Option.some.inj this).symm
              have z0 : (0 : Int) ≤ (q : Int) := by omega
              have z1 : (q : Int) < (tr.length : Int) := by omega
              cases bq
              · have Hn : Hid (∀ i, i < q → tr[i]? ≠ some (st'.1 : Int)) := by
                  rcases Hbq.out with h | h
                  · cases h
                  · exact h
                by_cases hye : y = (st'.1 : Int)
                · subst hye
                  clear hxx hyy Hbq Hn
                  go_wp2
                  go_quiet (fail)
                  go_wp2
                  go_roundw
                  case rel => exact ⟨q + 1, true, by omega, by go_num, rfl, hd.drewN _, .inl rfl⟩
                  case measure => simp [intOf]; omega
                · have hyb : (y == ((st'.1 : Nat) : Int)) = false := by simpa using hye
                  have Hn2 : Hid (false = true ∨ ∀ i, i < q + 1 → tr[i]? ≠ some (st'.1 : Int)) := .inr fun i hi he => by
                    by_cases hiq : i = q
                    · subst hiq; rw [hyy.out] at he; exact hye (Option.some.inj he)
                    · exact Hn.out i (by omega) he
                  clear hxx hyy Hbq Hn hye
                  go_wp2
                  go_quiet (fail)
                  go_wp2
                  go_roundw
                  case rel => exact ⟨q + 1, false, by omega, by go_num, rfl, hd.drewN _, Hn2⟩
                  case measure => simp [intOf]; omega
              · clear hxx hyy Hbq
                go_wp2
                go_quiet (fail)
                go_wp2
                go_roundw
                case rel => exact ⟨q + 1, true, by omega, by go_num, rfl, hd.drewN _, .inl rfl⟩
                case measure => simp [intOf]; omega
            · obtain rfl : bq = true := by
                rcases Hbq.out with h | h
                · exact h
                · exfalso
                  obtain ⟨i, hi⟩ := List.mem_iff_getElem?.1 Hmem.out
                  have := (List.getElem?_eq_some_iff.1 hi).1
                  exact h i (by omega) hi
              have b8 : Below W5.heap.size W5 wr := b7.trans (hd.below _)
              have o8 : wr.ownsRow gS 3 1 (.slice (some ⟨gS, 0, none⟩) m m) m (cellsI sn) := by obtain ⟨dd, rfl⟩ := hd; exact o7
              obtain ⟨b', off', st', hA, hbl', hc1, hc2, _, hxx⟩ := (r5.below b8 (Nat.le_refl _)).step hlt
              cases hA
              obtain rfl : st' = st := by have := hxx.out; rw [Hxx.out] at this; exact (Option.some.inj this).symm
              have k8 := k5.below b8 hlw5
              have n0 := k8.cell 0
              have n1 := k8.cell 1
              simp at n0 n1
              have hszW := b8.size
              have b9 := b5.trans (b8.mono b5.size)
              clear hd Hbq hxx o7 b7 f7
              have p2 : w.heap.size < wr.heap.size := k8.lt
              have R0 : ∀ W', Below wr.heap.size wr W' → Rd W' W'.heap.size A (cellsA ars) := fun W' hb => ((hr.below (b9.trans (hb.mono b9.size)) (Nat.le_refl _)).more (Nat.le_trans b9.size hb.size))
              go_upto_region 23 with fail
              go_cut [16, 17] (fun s16 s17 wx => s16 = .int .i64 u ∧ s17 = .int .i64 x' ∧ Below wr.heap.size wr wx)
              case first =>
                have hbl9 : b < wr.heap.size := by omega
                obtain ⟨fx, hfx⟩ : ∃ fx : Nat, a.f = fx := ⟨a.f.toNat, by have := (Hok.out a (List.mem_of_getElem? Ha.out)).1; omega⟩
                obtain ⟨tx, htx⟩ : ∃ tx : Nat, a.t = tx := ⟨a.t.toNat, by have := (Hok.out a (List.mem_of_getElem? Ha.out)).2.2.1; omega⟩
                have he1 : (if st'.2 then tx else fx) = u := by
                  have := Hends.out
                  rw [hfx, htx] at this
                  split at this <;> rename_i h <;> simp [h] <;> omega
                have he2 : (if st'.2 then fx else tx) = x' := by
                  have := Hends.out
                  rw [hfx, htx] at this
                  split at this <;> rename_i h <;> simp [h] <;> omega
                have Hfx := Lib.hid hfx
                have Htx := Lib.hid htx
                have He1 := Lib.hid he1
                have He2 := Lib.hid he2
                clear hfx htx he1 he2
                go_region_held3 (fun w' => w'.cell? ⟨w.heap.size, 0, none⟩ = some (.int .i64 m) ∧ w'.cell? ⟨w.heap.size, 1, none⟩ = some (.slice A l c) ∧ w'.cell? ⟨b, off2 + k * 2, none⟩ = some (.int .i64 (st'.1 : Nat)) ∧ w'.cell? ⟨b, off2 + k * 2 + 1, none⟩ = some (.bool st'.2))
                  (go_keep)
                  (first
                    | (go_at_call 20; refine (ends_any m ars A l c st'.1 fx tx st'.2 a _ hl hx ?_ Ha.out Hfx.out Htx.out).mono ?_; exact R0 _ (Below.drewN (Below.refl _ _) 1); rw [He1.out, He2.out]; rintro e w4 ⟨rfl, hb4⟩; have q0 : w4.cell? ⟨w.heap.size, 0, none⟩ = some (.int .i64 m) := (hb4.cell (p := ⟨w.heap.size, 0, none⟩) (by simp; omega)).trans (by simp [*]); have q1 : w4.cell? ⟨w.heap.size, 1, none⟩ = some (.slice A l c) := (hb4.cell (p := ⟨w.heap.size, 1, none⟩) (by simp; omega)).trans (by simp [*]); have q2 : w4.cell? ⟨b, off2 + k * 2, none⟩ = some (.int .i64 (st'.1 : Nat)) := (hb4.cell (p := ⟨b, off2 + k * 2, none⟩) (by simp; omega)).trans (by simp [*]); have q3 : w4.cell? ⟨b, off2 + k * 2 + 1, none⟩ = some (.bool st'.2) := (hb4.cell (p := ⟨b, off2 + k * 2 + 1, none⟩) (by simp; omega)).trans (by simp [*])))
                go_wp2
                go_meet
                exact ⟨rfl, rfl, (Below.drewN (Below.refl _ wr) 1).trans hb4⟩
              case rest =>
                obtain ⟨rfl, rfl, hb4⟩ := hcut
                have o9 := own_below o8 hb4
                have o10 := (o9.stored u (.int .i64 1)).1
                rw [cellsI_set] at o10
                have hsu := o9.cellAt u (by omega)
                obtain ⟨v0, hv0⟩ : ∃ v0, (cellsI sn)[u]? = some v0 := ⟨_, List.getElem?_eq_getElem (by rw [cellsI_length]; have := I2.len; simp at this; omega)⟩
                rw [hv0] at hsu
                have hsf := o9.frozenAt u
                have b10 := (b8.trans (hb4.mono b8.size)).setCell (p := ⟨gS, u, none⟩) (by simp; omega) (.int .i64 1)
                have hx'm := I2.here
                clear hb4 o8 o9 b8 b9 hc1 hc2 k8 n0 n1 R0 hv0
                go_wp2
                go_roundw
                case rel => exact ⟨k + 1, x', sn.set u 1, by omega, by go_num, rfl, hx'm, o10, b10, I2⟩
                case measure => simp [intOf]; omega
      · obtain rfl : k = p.length := by omega
        have hut : u = t := by have := I.go; rw [List.drop_length] at this; exact this
        subst hut
        have b7 := b5.trans (b6.mono b5.size)
        clear I hfree o6
        go_wp2_with fail
        refine (awake_any _).mono ?_; rintro e w7 ⟨rfl, hb7⟩
        have b8 := b7.trans (hb7.mono b7.size)
        go_wp2_with fail
        go_ret
        exact ⟨rfl, b8⟩
/-- the law -/
theorem walksLaw_any (n : Int) (ars : List ArcV) (A : Option Addr) (l c : Nat) (s t : Int) (w : World) (hl : ars.length = l) (hx : ∀ a ∈ ars, a.fit) (hr : Rd w w.heap.size A (cellsA ars)) (hm : l ≤ maxLen) (hs : fits s) (ht : fits t) :
    Calls Try.prog 6 #[.agg #[.int .i64 n, .slice A l c], .int .i64 s, .int .i64 t] w fun e w' => e = .returned (.bool true) ∧ Below w.heap.size w w' := by
  by_cases hc : checkF n ars = 0
  · obtain ⟨m, rfl⟩ := checkF_nat hc
    by_cases hst : s < 0 ∨ t < 0 ∨ (m : Int) ≤ s ∨ (m : Int) ≤ t
    · exact walksLaw_none m ars A l c s t w hl hx hr hm hs ht (by rcases hst with h | h | h | h <;> simp [h])
    · obtain ⟨a, rfl⟩ : ∃ a : Nat, s = a := ⟨s.toNat, by omega⟩
      obtain ⟨b, rfl⟩ : ∃ b : Nat, t = b := ⟨t.toNat, by omega⟩
      by_cases he : root (upF m ars) a = root (upF m ars) b
      · exact walksLaw_path m ars A l c a b w hl hx hr hm (by omega) (by omega) hc he
      · exact walksLaw_none m ars A l c a b w hl hx hr hm hs ht (.inr (.inr (.inr (.inr (.inr ⟨m, a, b, rfl, rfl, rfl, he⟩)))))
  · exact walksLaw_none n ars A l c s t w hl hx hr hm hs ht (.inl hc)
end Go.Proofs.Yteokomepcgkddaa
