/-
  pianolaref00.Product: the product of all numbers of a list, of any length of digits.
-/
import Derived.Test.YtblkcdenmgkddaaDoorNd
import Derived.Test.YtblkcdenmgkddaaDoorWk
namespace Go.Proofs.YtblkcdenmgkddaaDoor
open Go.RowKit

theorem Blk.lowr {w w' : World} {g : Nat} {t : TypeId} {cs : Array Value} (h : Blk w g t cs) {B : Nat} (hb : Below B w w') (hB : g < B) : Blk w' g t cs := (hb.block g hB).trans h
theorem makes_elim {w : World} {z : Int} {e : Ending} {w' : World} (h : Makes w z e w') {C : Prop} (f : ∀ s A c k, e = .returned (.agg #[.bool s, .slice A k c]) → WIs w' (.agg #[.bool s, .slice A k c]) z k → (∀ ad, A = some ad → w.heap.size ≤ ad.block) → Below w.heap.size w w' → C) : C := by
  obtain ⟨v, k, he, hv, hn, hb⟩ := h
  have hv' := hv
  obtain ⟨s, A, c, ds, rfl, _⟩ := hv'
  exact f s A c k he hv hn.to hb
theorem Rd.stored {w : World} {B g : Nat} {A : Option Addr} {cs : List Value} (h : Rd w B A cs) (hn : ∀ ad, A = some ad → ad.block ≠ g) (i : Nat) (u : Value) : Rd (w.setCell ⟨g, i, none⟩ u) B A cs := by
  rcases h with h | ⟨b, off, ha, hb, hc⟩
  · exact .inl h
  · refine .inr ⟨b, off, ha, hb, fun j v hv => ?_⟩
    have := hn _ ha
    rw [World.cell?_setCell_other _ _ _ _ (by intro e; have e2 := congrArg Addr.block e; simp only at e2; exact this e2.symm)]
    exact hc j v hv
theorem WIs.apart {w : World} {g k : Nat} {v : Value} {z : Int} (h : WIs w v z k) {s' : Bool} {A' : Option Addr} {n' c' : Nat} (hg : Blk w g 40 #[.bool s', .slice A' n' c']) (u : Bool) (A2 : Option Addr) (n2 c2 : Nat) :
    WIs ((w.setCell ⟨g, 0, none⟩ (.bool u)).setCell ⟨g, 1, none⟩ (.slice A2 n2 c2)) v z k := by
  obtain ⟨s, A, c, ds, h1, h2, h3, h4, h5, h6, h7, h8⟩ := h
  refine ⟨s, A, c, ds, h1, h2, h3, h4, h5, ?_, h7, h8⟩
  rcases h6 with h6 | ⟨b, off, ha, hb, hc⟩
  · exact .inl h6
  · by_cases he : ds = []
    · subst he; exact .inl rfl
    · have hne : b ≠ g := by
        rintro rfl
        obtain ⟨d, ds', rfl⟩ := List.exists_cons_of_ne_nil he
        have c0 := hc 0 (.int .i64 d) rfl
        rw [Nat.add_zero, hg.cell off] at c0
        match off, c0 with
        | 0, c0 => simp at c0
        | 1, c0 => simp at c0
        | off + 2, c0 => simp at c0
      have hr : Rd w w.heap.size A (cellsI ds) := .inr ⟨b, off, ha, hb, hc⟩
      have hn : ∀ ad, A = some ad → ad.block ≠ g := fun ad h => by rw [ha] at h; injection h with h; rw [← h]; exact hne
      have := (hr.stored hn 0 (.bool u)).stored hn 1 (.slice A2 n2 c2)
      simpa using this
theorem of_agg (z : Int) (w : World) (hz : fits z) : Calls Tryd.prog 28 #[.int .i64 z] w fun e w' => ∃ s A c k, e = .returned (.agg #[.bool s, .slice A k c]) ∧ WIs w' (.agg #[.bool s, .slice A k c]) z k ∧ k ≤ 3 ∧ Below w.heap.size w w' := by
  refine (of_any z w hz).mono ?_
  rintro e w' ⟨v, k, rfl, hw, hk, hb⟩
  have hw' := hw
  obtain ⟨s, A, c, ds, rfl, _⟩ := hw'
  exact ⟨s, A, c, k, rfl, hw, hk, hb⟩
/-- behind the store of a product into its box -/
def AccDone (W0 : World) (g : Nat) (z : Int) (w : World) : Prop := ∃ w' zs zA zc zk, w = (w'.setCell ⟨g, 0, none⟩ (.bool zs)).setCell ⟨g, 1, none⟩ (.slice zA zk zc) ∧ Below W0.heap.size W0 w' ∧ WIs w' (.agg #[.bool zs, .slice zA zk zc]) z zk
theorem acc_stored {W0 w1 : World} (g : Nat) {z : Int} {zs : Bool} {zA : Option Addr} {zc zk : Nat} (hb : Below W0.heap.size W0 w1) (hw : WIs w1 (.agg #[.bool zs, .slice zA zk zc]) z zk) : AccDone W0 g z ((w1.setCell ⟨g, 0, none⟩ (.bool zs)).setCell ⟨g, 1, none⟩ (.slice zA zk zc)) := ⟨w1, zs, zA, zc, zk, rfl, hb, hw⟩
/-- a list's product -/
def prodZ (l : List Int) : Int := l.foldl (· * ·) 1
theorem prodZ_snoc (l : List Int) (x : Int) : prodZ (l ++ [x]) = prodZ l * x := by unfold prodZ; rw [List.foldl_append]; rfl
theorem foldl_mul (l : List Int) : ∀ a : Int, l.foldl (· * ·) a = a * prodZ l := by
  induction l with
  | nil => intro a; simp [prodZ]
  | cons x xs ih => intro a; rw [List.foldl_cons, ih]; unfold prodZ; rw [List.foldl_cons, ih (1 * x)]; rw [Int.one_mul, Int.mul_assoc]; rfl
theorem prodZ_cons (x : Int) (l : List Int) : prodZ (x :: l) = x * prodZ l := by unfold prodZ; rw [List.foldl_cons, foldl_mul, Int.one_mul]; rfl
theorem prodZ_cast (l : List Nat) : prodZ (castL l) = (prodN l : Int) := by
  induction l with
  | nil => rfl
  | cons x xs ih => rw [show castL (x :: xs) = (x : Int) :: castL xs from rfl, prodZ_cons, ih, prodN, Int.natCast_mul]
theorem fit_pw {x : Int} (h : fits x) : (x.natAbs : Int) ≤ pw 3 := by unfold fits at h; unfold pw; omega
theorem prod_pw {x y : Int} {k : Nat} (hx : (x.natAbs : Int) ≤ pw (3 * k)) (hy : fits y) : ((x * y).natAbs : Int) ≤ pw (3 * (k + 1)) := by
  rw [Int.natAbs_mul, show 3 * (k + 1) = 3 * k + 3 by omega, pw_add, Int.natCast_mul]
  exact Int.mul_le_mul hx (fit_pw hy) (by omega) (by have := pw_pos (3 * k); omega)
theorem pw_one : ((1 : Int).natAbs : Int) ≤ pw (3 * 0) := by unfold pw; decide
theorem pw_lt (k : Nat) : pw (3 * k) < pw (3 * k + 1) := by
  have h0 := pw_pos (3 * k)
  rw [pw_succ]
  omega

theorem prodZ_pw {xs : List Int} (h : AllFit xs) : ∀ k, k ≤ xs.length → ((prodZ (xs.take k)).natAbs : Int) ≤ pw (3 * k) := by
  intro k
  induction k with
  | zero => intro _; exact pw_one
  | succ k ih =>
    intro hk
    have h1 := ih (by omega)
    have hg : xs[k]? = some xs[k] := List.getElem?_eq_getElem (by omega)
    have e : xs.take (k + 1) = xs.take k ++ [xs[k]] := by rw [List.take_add_one, hg]; rfl
    rw [e, prodZ_snoc]
    exact prod_pw h1 (h xs[k] (List.getElem_mem _))
structure PrR (W0 : World) (g5 b off n c k : Nat) (s5 : Bool) (A5 : Option Addr) (m5 c5 : Nat) (N x : Int) (L : Nat → Bool) (V : Nat → Value) (w : World) : Prop where
  p : L 7 = false → Below W0.heap.size W0 w
  zo : L 5 = true → L 6 = false → ∃ zn, zn ≤ 3 ∧ WIs w (V 17) x zn
  zt : L 6 = true → L 7 = false → ∃ zs zA zc zk, V 18 = .agg #[.bool zs, .slice zA zk zc] ∧ WIs w (.agg #[.bool zs, .slice zA zk zc]) (N * x) zk
  zf : L 7 = true → AccDone W0 g5 (N * x) w
  e0 : L 0 = true → V 12 = .agg #[.bool s5, .slice A5 m5 c5]
  e1 : L 1 = true → V 13 = .slice (some ⟨b, off, none⟩) n c
  e2 : L 2 = true → V 14 = .int .i64 (k : Nat)
  e3 : L 3 = true → V 15 = .pointer (some ⟨b, off + k, none⟩)
  e4 : L 4 = true → V 16 = .int .i64 x
/-- what Product answers -/
def ProdPost (w : World) (z : Int) (n : Nat) (e : Ending) (w' : World) : Prop := ∃ s A c k, e = .returned (.agg #[.bool s, .slice A k c]) ∧ WIs w' (.agg #[.bool s, .slice A k c]) z k ∧ k ≤ 3 * n + 1 ∧ Below w.heap.size w w'

set_option maxRecDepth 100000 in
set_option maxHeartbeats 4000000 in
theorem product_any (xs : List Int) (A : Option Addr) (n c B : Nat) (w : World) (hn : xs.length = n) (hx : AllFit xs) (hr : Rd w B A (cellsI xs)) (hl : n ≤ 100000) (hB : B ≤ w.heap.size) :
    Calls Tryd.prog 25 #[.slice A n c] w (ProdPost w (prodZ xs) n) := by
  have Hpw := Lib.hid (prodZ_pw hx)
  rw [hn] at Hpw
  go_enter Tryd.func25, Tryd.ntmps25
  go_wp2_with fail
  refine (of_agg 1 _ (by unfold fits; omega)).mono ?_
  rintro e w3 ⟨s5, A5, c5, m5, rfl, hw5, hm5, hb3⟩
  have b2 := (Below.refl w.heap.size w).alloc (Nat.le_refl _) (.cells #[.bool false, .slice none 0 0] 40)
  have k2 := (Blk.new w _ rfl 40 #[.bool false, .slice none 0 0]).lowr hb3 (by simp)
  have b3 := b2.trans (hb3.mono b2.size)
  have b4 := (Below.refl w3.heap.size w3).alloc (Nat.le_refl _) (.cells #[.bool s5, .slice A5 m5 c5] 40)
  have k5 := Blk.new w3 _ rfl 40 #[.bool s5, .slice A5 m5 c5]
  have hw5 := hw5.below b4
  have Hr := Lib.hid ((hr.below b3 hB).more (B' := w3.heap.size) (by have := b3.size; omega))
  have hs3 := b3.size
  have k2l := k2.lt
  have H0 := Lib.hid (And.intro b4 (And.intro k5 hw5))
  have HB3 := Lib.hid b3
  have K2 := Lib.hid k2
  clear hb3 b2 b3 b4 k5 k2 hw5 hr
  go_wp2_with fail
  obtain ⟨g2, hg2⟩ : ∃ g, w.heap.size = g := ⟨_, rfl⟩
  obtain ⟨g5, hg5⟩ : ∃ g, w3.heap.size = g := ⟨_, rfl⟩
  rw [hg5] at H0 Hr k2l
  rw [hg2] at K2 k2l
  try rw [hg2]
  try rw [hg5]
  have HG2 := Lib.hid hg2
  have HG5 := Lib.hid hg5
  clear hg2 hg5
  go_loopw [4] (fun i wr => ∃ (k : Nat) (s5 : Bool) (A5 : Option Addr) (c5 m5 : Nat), k ≤ n ∧ i = .int .i64 k ∧ Below g5 w3 wr ∧ Blk wr g5 40 #[.bool s5, .slice A5 m5 c5] ∧ WIs wr (.agg #[.bool s5, .slice A5 m5 c5]) (prodZ (xs.take k)) m5) (fun i _ => n - (intOf i).toNat)
  case atStart => exact ⟨0, s5, A5, c5, m5, Nat.zero_le _, rfl, H0.out.1, H0.out.2.1, H0.out.2.2⟩
  case round =>
    clear H0 hm5 hs3
    obtain ⟨k, s5, A5, c5, m5, hk, rfl, hb, k5, hw5⟩ := hrel
    have hm5b : m5 ≤ 3 * k + 1 := hw5.short (3 * k + 1) (Int.lt_of_le_of_lt (Hpw.out k hk) (pw_lt k))
    have hm5 : m5 ≤ 549755813888 := by omega
    have hg5 : g5 < wr.heap.size := k5.lt
    by_cases hlt : k < n
    · obtain ⟨b, off, x, rfl, hbl, hxf, c0, hd, hxx⟩ := Hr.out.at_ hx (k := k) (by omega)
      have hts : xs.take (k + 1) = xs.take k ++ [x] := by rw [List.take_add_one, hxx.out]; rfl
      have hbW : b < wr.heap.size := by omega
      have X : Hid (wr.cell? ⟨b, off + k, none⟩ = some (.int .i64 x)) := (hb.cell (p := ⟨b, off + k, none⟩) hbl).trans (show w3.cell? _ = _ from c0)
      obtain ⟨N, hN⟩ : ∃ N, prodZ (xs.take k) = N := ⟨_, rfl⟩
      have HN2 := Lib.hid (show prodZ (xs.take (k + 1)) = N * x by rw [hts, prodZ_snoc, hN])
      rw [hN] at hw5
      have i1 : (0 : Int) ≤ (k : Int) := by omega
      have i2 : (k : Int) < (n : Int) := by omega
      have K5 := Lib.hid k5
      have W5 := Lib.hid hw5
      have HB := Lib.hid hb
      have hx := Lib.hid hxf
      clear hts hd hxx c0 hN k5 hw5 hb hxf
      go_wp2_with fail
      have hI0 : ∀ V, PrR wr g5 b off n c k s5 A5 m5 c5 N x (fun _ => false) V wr.drew := fun V => by
        have h0 : Below wr.heap.size wr wr.drew := Drawn.below _ ((Drawn.refl wr).drewN 1)
        constructor
        all_goals first
          | exact fun _ => h0
          | (intro h; cases h)
      refine wp_region_put3 [12, 13, 14, 15, 16, 17, 18] (PrR wr g5 b off n c k s5 A5 m5 c5 N x) (by kernel_rfl) (by kernel_rfl) ?_ ?_ ?_
      · exact hI0 _
      · intro i o ho L V w1 hi hL hno h K hK
        rcases i with _ | _ | _ | _ | _ | _ | _ | _ | i
        · replace ho := Option.some.inj ho
          subst ho
          simp only [putAll, List.foldl_cons, List.foldl_nil, List.setIfInBounds_toArray, List.set_cons_zero, List.set_cons_succ]
          have l8 : L 7 = false := hno 7 (by kernel_rfl)
          have ct0 := (K5.out.lowr (h.p l8) hg5).cell 0
          have ct1 := (K5.out.lowr (h.p l8) hg5).cell 1
          simp only [List.getElem?_toArray, List.getElem?_cons_zero, List.getElem?_cons_succ] at ct0 ct1
          clear hL hno
          go_simp
          refine hK (updV V 12 (.agg #[.bool s5, .slice A5 m5 c5])) _ _ (by simp [putAll, updV]) ?_
          exact { h with e0 := fun _ => rfl }
        · replace ho := Option.some.inj ho
          subst ho
          simp only [putAll, List.foldl_cons, List.foldl_nil, List.setIfInBounds_toArray, List.set_cons_zero, List.set_cons_succ]
          clear hL hno
          go_simp
          refine hK (updV V 13 (.slice (some ⟨b, off, none⟩) n c)) _ _ (by simp [putAll, updV]) ?_
          exact { h with e1 := fun _ => rfl }
        · replace ho := Option.some.inj ho
          subst ho
          simp only [putAll, List.foldl_cons, List.foldl_nil, List.setIfInBounds_toArray, List.set_cons_zero, List.set_cons_succ]
          clear hL hno
          go_simp
          refine hK (updV V 14 (.int .i64 (k : Nat))) _ _ (by simp [putAll, updV]) ?_
          exact { h with e2 := fun _ => rfl }
        · replace ho := Option.some.inj ho
          subst ho
          simp only [putAll, List.foldl_cons, List.foldl_nil, List.setIfInBounds_toArray, List.set_cons_zero, List.set_cons_succ]
          have e1 : V 13 = _ := h.e1 (hL ⟨1, .data⟩ (by simp) rfl)
          have e2 : V 14 = _ := h.e2 (hL ⟨2, .data⟩ (by simp) rfl)
          clear hL hno
          go_simp
          refine hK (updV V 15 (.pointer (some ⟨b, off + k, none⟩))) _ _ (by simp [putAll, updV, e1, e2]) ?_
          exact { h with e3 := fun _ => rfl }
        · replace ho := Option.some.inj ho
          subst ho
          simp only [putAll, List.foldl_cons, List.foldl_nil, List.setIfInBounds_toArray, List.set_cons_zero, List.set_cons_succ]
          have e3 : V 15 = _ := h.e3 (hL ⟨3, .data⟩ (by simp) rfl)
          have l8 : L 7 = false := hno 7 (by kernel_rfl)
          have ct := ((h.p l8).cell (p := ⟨b, off + k, none⟩) hbW).trans X.out
          clear hL hno
          go_simp
          refine hK (updV V 16 (.int .i64 x)) _ _ (by simp [putAll, updV, e3]) ?_
          exact { h with e4 := fun _ => rfl }
        · replace ho := Option.some.inj ho
          subst ho
          have e4 : V 16 = _ := h.e4 (hL ⟨4, .data⟩ (by simp) rfl)
          have l8 : L 7 = false := hno 7 (by kernel_rfl)
          have l7 : L 6 = false := hno 6 (by kernel_rfl)
          clear hL hno
          simp only [putAll, List.foldl_cons, List.foldl_nil, List.setIfInBounds_toArray, List.set_cons_zero, List.set_cons_succ]
          go_simp
          refine (of_any x w1 hx.out).mono ?_
          intro e w3 hof
          refine Exists.elim hof fun v hq => Exists.elim hq fun n3 hq2 => ?_
          have he := hq2.1
          have hv := hq2.2.1
          have hn3 := hq2.2.2.1
          have hb3 := hq2.2.2.2
          clear hof hq hq2
          subst he
          refine hK (updV V 17 v) _ _ (by simp [putAll, updV, e4]) ?_
          exact { h with
            p := fun hn8 => (h.p hn8).trans (hb3.mono (h.p hn8).size)
            zo := fun _ _ => ⟨n3, hn3, hv⟩
            zt := fun hn => (by cases (hn.symm.trans l7))
            zf := fun hn => (by cases (hn.symm.trans l8)) }
        · replace ho := Option.some.inj ho
          subst ho
          have e0 : V 12 = _ := h.e0 (hL ⟨0, .data⟩ (by simp) rfl)
          have t6 : L 5 = true := hL ⟨5, .data⟩ (by simp) rfl
          have l8 : L 7 = false := hno 7 (by kernel_rfl)
          have l7 : L 6 = false := hi
          clear hL hno
          simp only [putAll, List.foldl_cons, List.foldl_nil, List.setIfInBounds_toArray, List.set_cons_zero, List.set_cons_succ]
          refine Exists.elim (h.zo t6 l7) fun n3 hq => ?_
          have hn3 := hq.1
          have hv := hq.2
          have hw5 := W5.out.below (h.p l8)
          clear hq
          go_simp
          refine (times_any (.agg #[.bool s5, .slice A5 m5 c5]) (V 17) N x m5 n3 w1 hw5 hv hm5 (by omega)).mono ?_
          intro e w3 hmk
          refine makes_elim hmk fun zs zA zc zk he hv3 hnew hb3 => ?_
          clear hmk hnew
          subst he
          refine hK (updV V 18 (.agg #[.bool zs, .slice zA zk zc])) _ _ (by simp [putAll, updV, e0]) ?_
          exact { h with
            p := fun hn8 => (h.p hn8).trans (hb3.mono (h.p hn8).size)
            zo := fun _ hn => (by cases hn)
            zt := fun _ _ => ⟨zs, zA, zc, zk, rfl, hv3⟩
            zf := fun hn => (by cases (hn.symm.trans l8)) }
        · replace ho := Option.some.inj ho
          subst ho
          have t7 : L 6 = true := hL ⟨6, .data⟩ (by simp) rfl
          have l8 : L 7 = false := hi
          clear hL hno
          simp only [putAll, List.foldl_cons, List.foldl_nil, List.setIfInBounds_toArray, List.set_cons_zero, List.set_cons_succ]
          refine Exists.elim (h.zt t7 l8) fun zs hs => Exists.elim hs fun zA ha => Exists.elim ha fun zc hc => Exists.elim hc fun zk hk => ?_
          have r1 := hk.1
          have r2 := hk.2
          have pb := h.p l8
          clear hs ha hc hk
          have kb := K5.out.lowr pb hg5
          have f0 := kb.cell 0
          have f1 := kb.cell 1
          have z0 := kb.frozen 0
          have z1 := kb.frozen 1
          simp only [List.getElem?_toArray, List.getElem?_cons_zero, List.getElem?_cons_succ] at f0 f1
          have hzf := acc_stored g5 (zs := zs) (zA := zA) (zc := zc) (zk := zk) pb r2
          clear kb pb r2
          go_simp
          refine hK V _ _ (by simp [putAll, r1]) ?_
          exact { h with p := fun hn => (by cases hn), zo := fun _ hn => (by cases (hn.symm.trans t7)), zt := fun _ hn => (by cases hn), zf := fun _ => hzf }
        · simp at ho
      · clear hI0
        intro L V w6 hL h
        have t8 : L 7 = true := hL 7 (by simp)
        refine Exists.elim (h.zf t8) fun wp hq1 => Exists.elim hq1 fun sn hq2 => Exists.elim hq2 fun An hq3 => Exists.elim hq3 fun cn hq4 => Exists.elim hq4 fun mn hq5 => ?_
        have hW6 := hq5.1
        have bp := hq5.2.1
        have hwn := hq5.2.2
        clear t8 hq1 hq2 hq3 hq4 hq5
        simp only [putAll, List.foldl_cons, List.foldl_nil, List.setIfInBounds_toArray, List.set_cons_zero, List.set_cons_succ]
        have kold := K5.out.lowr bp hg5
        have n5 := (kold.set 0 (.bool sn)).set 1 (.slice An mn cn)
        have nw5 := hwn.apart kold sn An mn cn
        have nb := ((HB.out.trans (bp.mono (by omega))).setCell (p := ⟨g5, 0, none⟩) (Nat.le_refl _) (.bool sn)).setCell (p := ⟨g5, 1, none⟩) (Nat.le_refl _) (.slice An mn cn)
        rw [← hW6] at n5 nw5 nb
        simp at n5
        rw [← HN2.out] at nw5
        have HX := Lib.hid (And.intro nb (And.intro n5 nw5))
        clear h hL hW6 bp hwn kold n5 nw5 nb K5 W5 HB X
        generalize V 12 = v12
        generalize V 13 = v13
        generalize V 14 = v14
        generalize V 15 = v15
        generalize V 16 = v16
        generalize V 17 = v17
        generalize V 18 = v18
        go_wp2_with fail
        go_roundw
        case rel => exact ⟨k + 1, _, _, _, _, by omega, by go_num, HX.out.1, HX.out.2.1, HX.out.2.2⟩
        case measure => simp [intOf]; omega
    · have ht : xs.take k = xs := List.take_of_length_le (by omega)
      rw [ht] at hw5
      have f0 := k5.cell 0
      have f1 := k5.cell 1
      have k2 := K2.out.lowr (B := g5) hb k2l
      have h0 := k2.cell 0
      have h1 := k2.cell 1
      have z0 := k2.frozen 0
      have z1 := k2.frozen 1
      simp only [List.getElem?_toArray, List.getElem?_cons_zero, List.getElem?_cons_succ] at f0 f1 h0 h1
      have k2' := (k2.set 0 (.bool s5)).set 1 (.slice A5 m5 c5)
      have d0 := k2'.cell 0
      have d1 := k2'.cell 1
      simp at d0 d1
      have nw := hw5.apart k2 s5 A5 m5 c5
      have nb := ((HB3.out.trans (hb.mono (by have := HG5.out; have := HB3.out.size; omega))).setCell (p := ⟨g2, 0, none⟩) (by have := HG2.out; show w.heap.size ≤ g2; omega) (.bool s5)).setCell (p := ⟨g2, 1, none⟩) (by have := HG2.out; show w.heap.size ≤ g2; omega) (.slice A5 m5 c5)
      clear k2 k2' hw5 hb k5 ht
      go_wp2_with fail
      refine bodyPost_ret (v := .agg #[.bool s5, .slice A5 m5 c5]) (by simp [results, Tryd.results25, go_sem, d0, d1]) rfl ?_
      exact ⟨s5, A5, c5, m5, rfl, nw, by omega, nb⟩
end Go.Proofs.YtblkcdenmgkddaaDoor
