/-
  The references' whole numbers: what a Whole reads as; Of makes one of an int.
-/
import Derived.Test.YtkheoaleamolcaaDoorWc
namespace Go.Proofs.YtkheoaleamolcaaDoor
open Go.RowKit

/-- a Whole that is worth z, of n digits -/
def WIs (w : World) (v : Value) (z : Int) (n : Nat) : Prop := ∃ (s : Bool) (A : Option Addr) (c : Nat) (ds : List Int), v = .agg #[.bool s, .slice A n c] ∧ ds.length = n ∧ n ≤ c ∧ c ≤ maxLen ∧ Norm ds ∧ Rd w w.heap.size A (cellsI ds) ∧ z = (if s = true then - val ds else val ds) ∧ (s = true → ds ≠ [])
theorem WIs.below {w w' : World} {v : Value} {z : Int} {n : Nat} (h : WIs w v z n) (hb : Below w.heap.size w w') : WIs w' v z n := by
  obtain ⟨s, A, c, ds, h1, h2, h3, h4, h5, h6, h7, h8⟩ := h
  exact ⟨s, A, c, ds, h1, h2, h3, h4, h5, (h6.below hb (Nat.le_refl _)).more hb.size, h7, h8⟩

/-- a block of a struct's cells, none frozen -/
def Blk (w : World) (g : Nat) (t : TypeId) (cs : Array Value) : Prop := w.heap[g]? = some (.cells cs t (0, 0))
theorem Blk.lt {w : World} {g : Nat} {t : TypeId} {cs : Array Value} (h : Blk w g t cs) : g < w.heap.size := by
  rcases Nat.lt_or_ge g w.heap.size with hlt | hge
  · exact hlt
  · unfold Blk at h; rw [Array.getElem?_eq_none hge] at h; cases h
theorem Blk.cell {w : World} {g : Nat} {t : TypeId} {cs : Array Value} (h : Blk w g t cs) (i : Nat) : w.cell? ⟨g, i, none⟩ = cs[i]? := cell_of_row w g i cs t (0, 0) h
theorem Blk.frozen {w : World} {g : Nat} {t : TypeId} {cs : Array Value} (h : Blk w g t cs) (i : Nat) : w.frozen? ⟨g, i, none⟩ = false := by
  unfold Blk at h; simp [World.frozen?, h]
theorem Blk.grown {w w' : World} {g : Nat} {t : TypeId} {cs : Array Value} {row : Option Nat} (h : Blk w g t cs) (hg : w.grownBy w' row) (hne : some g ≠ row) : Blk w' g t cs := (hg.block g h.lt hne).trans h
theorem Blk.alloc {w : World} {g : Nat} {t : TypeId} {cs : Array Value} (h : Blk w g t cs) (o : Obj) : Blk (w.alloc o) g t cs := (Below.heap_alloc w o g h.lt).trans h
theorem Blk.set {w : World} {g : Nat} {t : TypeId} {cs : Array Value} (h : Blk w g t cs) (i : Nat) (u : Value) : Blk (w.setCell ⟨g, i, none⟩ u) g t (cs.setIfInBounds i u) := by
  unfold Blk at h ⊢
  simp [World.setCell, Array.getElem?_modify, h]
theorem Blk.new (w : World) (b : Nat) (hb : b = w.heap.size) (t : TypeId) (cs : Array Value) : Blk (w.alloc (.cells cs t)) b t cs := by subst hb; exact heap_alloc_new w _
theorem Blk.far {w : World} {g : Nat} {t : TypeId} {cs : Array Value} (h : Blk w g t cs) {p : Addr} (hp : g ≠ p.block) (u : Value) : Blk (w.setCell p u) g t cs := (Below.heap_setCell w p u g hp).trans h
theorem own_ne {w : World} {base g : Nat} {e t : TypeId} {size n : Nat} {v : Value} {xs : List Value} {cs : Array Value} (h : w.ownsRow base e size v n xs) (hg : Blk w g t cs) (hne : e ≠ t) : some g ≠ v.ownBlock := by
  rcases h.2 with ⟨rfl, _⟩ | ⟨g', cap, cur, rfl, _, hh, _⟩
  · simp [Value.ownBlock]
  · intro he
    have : g = g' := by simpa [Value.ownBlock] using he
    subst this
    unfold Blk at hg
    rw [hh] at hg
    injection hg with hg
    injection hg with _ ht
    exact hne ht

theorem own_set {w : World} {base g : Nat} {e t : TypeId} {size n : Nat} {v : Value} {xs : List Value} {cs : Array Value} (h : w.ownsRow base e size v n xs) (hg : Blk w g t cs) (hne : e ≠ t) (j : Nat) (u : Value) : (w.setCell ⟨g, j, none⟩ u).ownsRow base e size v n xs := by
  refine h.kept (row := some g) ⟨rfl, rfl, rfl, by simp, fun k _ hk => Below.heap_setCell w _ u k (fun he => hk (by rw [he]))⟩ (.inr (own_ne h hg hne).symm)

theorem pw_small {k : Nat} {m r z : Int} (h : pw k * m + r = z) (hr : 0 ≤ r) (hm : 1 ≤ m) (hz : z ≤ 9223372036854775808) : k ≤ 2 := by
  rcases Nat.lt_or_ge k 3 with h3 | h3
  · omega
  · exfalso
    have h1 := pw_le h3
    have h2 : pw 3 = 1237940039285380274899124224 := by decide
    have h4 := Int.mul_le_mul_of_nonneg_left hm (show 0 ≤ pw k by have := pw_pos k; omega)
    omega

theorem norm_len {ds : List Int} {k : Nat} (h : Norm ds) (hv : val ds ≤ 9223372036854775808) (hk : ds.length = k) : k ≤ 3 := by
  by_cases h0 : ds = []
  · subst h0; simp at hk; omega
  · have h1 := val_low h h0
    rw [hk] at h1
    have := pw_small (k := k - 1) (m := 1) (r := 0) (z := pw (k - 1)) (by simp) (by omega) (by omega) (by omega)
    omega
theorem of_step {k : Nat} {m d q r z : Int} (h : pw k * m + r = z) (hm : m = d + 1073741824 * q) : pw (k + 1) * q + (r + pw k * d) = z := by
  rw [pw_succ, ← h, hm, Int.mul_add, Int.mul_assoc, Int.mul_left_comm (pw k)]; omega
theorem norm_snoc {out : List Int} {d : Int} (ho : Dig out) (hd : 0 ≤ d ∧ d < 1073741824) (h0 : d ≠ 0) : Norm (out ++ [d]) :=
  ⟨ho.append (Dig.cons hd Dig.nil), by simpa using h0⟩

set_option maxRecDepth 100000 in
set_option maxHeartbeats 2000000 in
theorem of_pos (z : Int) (w : World) (hz : fits z) (hs : 0 ≤ z) (hzs : decide (z < 0) = false) :
    Calls Tryd.prog 29 #[.int .i64 z] w fun e w' => ∃ v n, e = .returned v ∧ WIs w' v z n ∧ n ≤ 3 ∧ Below w.heap.size w w' := by
  obtain ⟨i, hi, hz0, hz1, hz2⟩ := info_parts info_int
  have hzz := hz
  unfold fits at hzz
  go_enter Tryd.func29, Tryd.ntmps29
  go_wp2
  go_loopw [0] (fun s wr => ∃ (m : Int) (k : Nat) (out : List Int) (v : Value), s = .int .i64 (m) ∧ 0 ≤ m ∧ m ≤ 9223372036854775807 ∧ Blk wr w.heap.size 55 #[.bool false, .slice none 0 0] ∧ Blk wr (w.heap.size + 1) 55 #[.bool false, v] ∧
      wr.ownsRow w.heap.size 3 1 v k (cellsI out) ∧ out.length = k ∧ Dig out ∧ Hid (pw k * m + val out = z) ∧ Hid (m = 0 → Norm out) ∧ Below w.heap.size w wr) (fun s _ => (intOf s).natAbs)
  case atStart => exact ⟨z, 0, [], .slice none 0 0, rfl, by omega, by omega, (Blk.new w _ rfl _ _).alloc _, Blk.new _ _ (by simp) _ _, World.ownsRow_nil _ _ _ _, rfl, Dig.nil, by unfold Hid; simp [pw, val], fun _ => Norm.nil, ((Below.refl _ _).alloc (Nat.le_refl _) _).alloc (by simp) _⟩
  case round =>
    obtain ⟨m, k, out, v, rfl, hm0, hmx, hb0, hb1, hown, hol, hod, Hv, Hn, hbw⟩ := hrel
    have c00 := hb0.cell 0
    have c01 := hb0.cell 1
    have c10 := hb1.cell 0
    have c11 := hb1.cell 1
    simp at c00 c01 c10 c11
    have f00 := hb0.frozen 0
    have f01 := hb0.frozen 1
    have f11 := hb1.frozen 1
    by_cases hmz : m = 0
    · subst hmz
      obtain ⟨A, c, rfl, hc, hcm⟩ := own_slice_max hown
      have hro := rd_of_own hown
      have hb0' := (hb0.set 0 (.bool false)).set 1 (.slice A k c)
      have d0 := hb0'.cell 0
      have d1 := hb0'.cell 1
      simp at d0 d1
      have hnorm := Hn.out rfl
      have hval : val out = z := by have := Hv.out; simpa using this
      have Hval := Lib.hid hval
      have hbe : Below w.heap.size w ((wr.setCell ⟨w.heap.size, 0, none⟩ (.bool false)).setCell ⟨w.heap.size, 1, none⟩ (.slice A k c)) := (hbw.setCell (Nat.le_refl _) _).setCell (Nat.le_refl _) _
      have hro' := rd_of_own (own_set (own_set hown hb0 (by decide) 0 (.bool false)) (hb0.set 0 (.bool false)) (by decide) 1 (.slice A k c))
      clear Hv Hn hval hro
      go_wp2
      refine bodyPost_ret (v := .agg #[.bool false, .slice A k c]) (by simp [results, Tryd.results29, go_sem, d0, d1]) rfl ?_
      refine ⟨_, k, rfl, ⟨false, A, c, out, rfl, hol, hc, hcm, hnorm, hro', by rw [if_neg (by simp), Hval.out], fun h => by cases h⟩, norm_len hnorm (by rw [Hval.out]; omega) hol, hbe⟩
    · have hk2 : k ≤ 2 := pw_small Hv.out (val_nonneg hod) (by omega) (by omega)
      obtain ⟨r, q, hr, hq⟩ : ∃ r q, m % 1073741824 = r ∧ m / 1073741824 = q := ⟨_, _, rfl, rfl⟩
      have hrb : 0 ≤ r ∧ r < 1073741824 := by omega
      have hqb : 0 ≤ q ∧ q < m := by omega
      have hmq : m = r + 1073741824 * q := by omega
      have Hv' := Lib.hid (of_step Hv.out hmq)
      have Hn' : Hid (q = 0 → Norm (out ++ [r])) := fun h0 => norm_snoc hod hrb (by omega)
      have hvs : val (out ++ [r]) = val out + pw k * r := by rw [val_append, hol]; simp [val]
      have Hvs := Lib.hid hvs
      clear hmq hvs Hv Hn
      have z1 : (m != 0) = true := by simpa using hmz
      go_wp2_with (at_builtin; refine wpList_append_own _ rfl _ _ 26 rfl w.heap.size 3 i (.int .i64 0) 1 8 Tryd.underlying26 hi hz0 hz1 hz2 rfl (by decide) v k (cellsI out) rfl (hown.alloc _) ⟨wr.heap.size, 0, none⟩ 1 1 [.int .i64 r] rfl rfl (cell_one_new _ _ _) (by simp [Value.oneCell']) (by unfold maxLen; omega) (by omega) (by have := hbw.size; simp; omega) ?_)
      all_goals
        intro v' w2 hown2 hg2 _
        obtain ⟨A', c', rfl, -, -⟩ := own_slice_max hown2
        have hne := own_ne hown hb0 (by decide)
        have hne1 := own_ne hown hb1 (by decide)
        have q0 := (hb0.alloc (.cells #[.int .i64 r] 3)).grown hg2 hne
        have q1 := (hb1.alloc (.cells #[.int .i64 r] 3)).grown hg2 hne1
        have hbw2 : Below w.heap.size w w2 := (hbw.alloc hbw.size _).grown hg2 (by have := hbw.size; simp; omega) (fun j hj => (hown.lt j hj).1)
        have e1 := q1.cell 1
        have g1 := q1.frozen 1
        simp at e1
        have hown3 := own_set hown2 q1 (by decide) 1 (.slice A' (k + 1) c')
        have q0' := q0.far (p := ⟨w.heap.size + 1, 1, none⟩) (by simp) (.slice A' (k + 1) c')
        have q1' := q1.set 1 (.slice A' (k + 1) c')
        simp at q1'
        have hbw3 := hbw2.setCell (p := ⟨w.heap.size + 1, 1, none⟩) (by simp) (.slice A' (k + 1) c')
        have hown4 : (w2.setCell ⟨w.heap.size + 1, 1, none⟩ (.slice A' (k + 1) c')).ownsRow w.heap.size 3 1 (.slice A' (k + 1) c') (k + 1) (cellsI (out ++ [r])) := by simpa [cellsI] using hown3
        clear hown2 hown3 hg2 hne hne1 q0 q1 hbw2 hown hbw hb0 hb1 c00 c01 c10 c11 f00 f01 f11
        go_wp2
        go_roundw
        case rel => exact ⟨q, k + 1, out ++ [r], .slice A' (k + 1) c', by rw [hq], by omega, by omega, q0', q1', hown4, by simp [hol], hod.append (Dig.cons hrb Dig.nil), by unfold Hid; rw [Hvs.out]; exact Hv'.out, Hn', hbw3⟩
        case measure => simp [intOf]; omega

set_option maxRecDepth 100000 in
set_option maxHeartbeats 2000000 in
theorem of_neg (z : Int) (w : World) (hz : fits z) (hs : z < 0) (_hzs : decide (z < 0) = true) :
    Calls Tryd.prog 29 #[.int .i64 z] w fun e w' => ∃ v n, e = .returned v ∧ WIs w' v z n ∧ n ≤ 3 ∧ Below w.heap.size w w' := by
  obtain ⟨i, hi, hz0, hz1, hz2⟩ := info_parts info_int
  have hzz := hz
  unfold fits at hzz
  go_enter Tryd.func29, Tryd.ntmps29
  go_wp2
  go_loopw [0] (fun s wr => ∃ (m : Int) (k : Nat) (out : List Int) (v : Value), s = .int .i64 (-m) ∧ 0 ≤ m ∧ m ≤ 9223372036854775808 ∧ Blk wr w.heap.size 55 #[.bool false, .slice none 0 0] ∧ Blk wr (w.heap.size + 1) 55 #[.bool true, v] ∧
      wr.ownsRow w.heap.size 3 1 v k (cellsI out) ∧ out.length = k ∧ Dig out ∧ Hid (pw k * m + val out = -z) ∧ Hid (m = 0 → Norm out) ∧ Below w.heap.size w wr) (fun s _ => (intOf s).natAbs)
  case atStart => exact ⟨-z, 0, [], .slice none 0 0, by rw [Int.neg_neg], by omega, by omega, (Blk.new w _ rfl _ _).alloc _, Blk.new _ _ (by simp) _ _, World.ownsRow_nil _ _ _ _, rfl, Dig.nil, by unfold Hid; simp [pw, val], fun _ => Norm.nil, ((Below.refl _ _).alloc (Nat.le_refl _) _).alloc (by simp) _⟩
  case round =>
    obtain ⟨m, k, out, v, rfl, hm0, hmx, hb0, hb1, hown, hol, hod, Hv, Hn, hbw⟩ := hrel
    have c00 := hb0.cell 0
    have c01 := hb0.cell 1
    have c10 := hb1.cell 0
    have c11 := hb1.cell 1
    simp at c00 c01 c10 c11
    have f00 := hb0.frozen 0
    have f01 := hb0.frozen 1
    have f11 := hb1.frozen 1
    by_cases hmz : m = 0
    · subst hmz
      obtain ⟨A, c, rfl, hc, hcm⟩ := own_slice_max hown
      have hro := rd_of_own hown
      have hb0' := (hb0.set 0 (.bool true)).set 1 (.slice A k c)
      have d0 := hb0'.cell 0
      have d1 := hb0'.cell 1
      simp at d0 d1
      have hnorm := Hn.out rfl
      have hval : val out = -z := by have := Hv.out; simpa using this
      have Hval := Lib.hid hval
      have hbe : Below w.heap.size w ((wr.setCell ⟨w.heap.size, 0, none⟩ (.bool true)).setCell ⟨w.heap.size, 1, none⟩ (.slice A k c)) := (hbw.setCell (Nat.le_refl _) _).setCell (Nat.le_refl _) _
      have hro' := rd_of_own (own_set (own_set hown hb0 (by decide) 0 (.bool true)) (hb0.set 0 (.bool true)) (by decide) 1 (.slice A k c))
      clear Hv Hn hval hro
      go_wp2
      refine bodyPost_ret (v := .agg #[.bool true, .slice A k c]) (by simp [results, Tryd.results29, go_sem, d0, d1]) rfl ?_
      refine ⟨_, k, rfl, ⟨true, A, c, out, rfl, hol, hc, hcm, hnorm, hro', by rw [if_pos rfl, Hval.out]; omega, fun _ h0 => by rw [h0] at Hval; have := Hval.out; simp [val] at this; omega⟩, norm_len hnorm (by rw [Hval.out]; omega) hol, hbe⟩
    · have hk2 : k ≤ 2 := pw_small Hv.out (val_nonneg hod) (by omega) (by omega)
      obtain ⟨r, q, hr, hq⟩ : ∃ r q, m % 1073741824 = r ∧ m / 1073741824 = q := ⟨_, _, rfl, rfl⟩
      have hrb : 0 ≤ r ∧ r < 1073741824 := by omega
      have hqb : 0 ≤ q ∧ q < m := by omega
      have hmq : m = r + 1073741824 * q := by omega
      have Hv' := Lib.hid (of_step Hv.out hmq)
      have Hn' : Hid (q = 0 → Norm (out ++ [r])) := fun h0 => norm_snoc hod hrb (by omega)
      have hvs : val (out ++ [r]) = val out + pw k * r := by rw [val_append, hol]; simp [val]
      have Hvs := Lib.hid hvs
      clear hmq hvs Hv Hn
      have t2 : (-m).tdiv 1073741824 = -q := by rw [Int.neg_tdiv, Int.tdiv_eq_ediv_of_nonneg hm0, hq]
      have z1 : (-m != 0) = true := by simp; omega
      by_cases hr0 : r = 0
      · subst hr0
        have t1 : (-m).tmod 1073741824 = 0 := by rw [Int.neg_tmod, Int.tmod_eq_emod_of_nonneg hm0, hr]; rfl
        go_wp2_with (at_builtin; refine wpList_append_own _ rfl _ _ 26 rfl w.heap.size 3 i (.int .i64 0) 1 8 Tryd.underlying26 hi hz0 hz1 hz2 rfl (by decide) v k (cellsI out) rfl (hown.alloc _) ⟨wr.heap.size, 0, none⟩ 1 1 [.int .i64 0] rfl rfl (cell_one_new _ _ _) (by simp [Value.oneCell']) (by unfold maxLen; omega) (by omega) (by have := hbw.size; simp; omega) ?_)
        all_goals
          intro v' w2 hown2 hg2 _
          obtain ⟨A', c', rfl, -, -⟩ := own_slice_max hown2
          have hne := own_ne hown hb0 (by decide)
          have hne1 := own_ne hown hb1 (by decide)
          have q0 := (hb0.alloc (.cells #[.int .i64 0] 3)).grown hg2 hne
          have q1 := (hb1.alloc (.cells #[.int .i64 0] 3)).grown hg2 hne1
          have hbw2 : Below w.heap.size w w2 := (hbw.alloc hbw.size _).grown hg2 (by have := hbw.size; simp; omega) (fun j hj => (hown.lt j hj).1)
          have e1 := q1.cell 1
          have g1 := q1.frozen 1
          simp at e1
          have hown3 := own_set hown2 q1 (by decide) 1 (.slice A' (k + 1) c')
          have q0' := q0.far (p := ⟨w.heap.size + 1, 1, none⟩) (by simp) (.slice A' (k + 1) c')
          have q1' := q1.set 1 (.slice A' (k + 1) c')
          simp at q1'
          have hbw3 := hbw2.setCell (p := ⟨w.heap.size + 1, 1, none⟩) (by simp) (.slice A' (k + 1) c')
          have hown4 : (w2.setCell ⟨w.heap.size + 1, 1, none⟩ (.slice A' (k + 1) c')).ownsRow w.heap.size 3 1 (.slice A' (k + 1) c') (k + 1) (cellsI (out ++ [0])) := by simpa [cellsI] using hown3
          clear hown2 hown3 hg2 hne hne1 q0 q1 hbw2 hown hbw hb0 hb1 c00 c01 c10 c11 f00 f01 f11
          go_wp2
          go_roundw
          case rel => exact ⟨q, k + 1, out ++ [0], .slice A' (k + 1) c', rfl, by omega, by omega, q0', q1', hown4, by simp [hol], hod.append (Dig.cons (by omega) Dig.nil), by unfold Hid; rw [Hvs.out]; exact Hv'.out, Hn', hbw3⟩
          case measure => simp [intOf]; omega
      · have t1 : (-m).tmod 1073741824 = -r := by rw [Int.neg_tmod, Int.tmod_eq_emod_of_nonneg hm0, hr]
        go_wp2_with (at_builtin; refine wpList_append_own _ rfl _ _ 26 rfl w.heap.size 3 i (.int .i64 0) 1 8 Tryd.underlying26 hi hz0 hz1 hz2 rfl (by decide) v k (cellsI out) rfl (hown.alloc _) ⟨wr.heap.size, 0, none⟩ 1 1 [.int .i64 r] rfl rfl (cell_one_new _ _ _) (by simp [Value.oneCell']) (by unfold maxLen; omega) (by omega) (by have := hbw.size; simp; omega) ?_)
        all_goals
          intro v' w2 hown2 hg2 _
          obtain ⟨A', c', rfl, -, -⟩ := own_slice_max hown2
          have hne := own_ne hown hb0 (by decide)
          have hne1 := own_ne hown hb1 (by decide)
          have q0 := (hb0.alloc (.cells #[.int .i64 r] 3)).grown hg2 hne
          have q1 := (hb1.alloc (.cells #[.int .i64 r] 3)).grown hg2 hne1
          have hbw2 : Below w.heap.size w w2 := (hbw.alloc hbw.size _).grown hg2 (by have := hbw.size; simp; omega) (fun j hj => (hown.lt j hj).1)
          have e1 := q1.cell 1
          have g1 := q1.frozen 1
          simp at e1
          have hown3 := own_set hown2 q1 (by decide) 1 (.slice A' (k + 1) c')
          have q0' := q0.far (p := ⟨w.heap.size + 1, 1, none⟩) (by simp) (.slice A' (k + 1) c')
          have q1' := q1.set 1 (.slice A' (k + 1) c')
          simp at q1'
          have hbw3 := hbw2.setCell (p := ⟨w.heap.size + 1, 1, none⟩) (by simp) (.slice A' (k + 1) c')
          have hown4 : (w2.setCell ⟨w.heap.size + 1, 1, none⟩ (.slice A' (k + 1) c')).ownsRow w.heap.size 3 1 (.slice A' (k + 1) c') (k + 1) (cellsI (out ++ [r])) := by simpa [cellsI] using hown3
          clear hown2 hown3 hg2 hne hne1 q0 q1 hbw2 hown hbw hb0 hb1 c00 c01 c10 c11 f00 f01 f11
          go_wp2
          go_roundw
          case rel => exact ⟨q, k + 1, out ++ [r], .slice A' (k + 1) c', rfl, by omega, by omega, q0', q1', hown4, by simp [hol], hod.append (Dig.cons hrb Dig.nil), by unfold Hid; rw [Hvs.out]; exact Hv'.out, Hn', hbw3⟩
          case measure => simp [intOf]; omega

theorem of_any (z : Int) (w : World) (hz : fits z) :
    Calls Tryd.prog 29 #[.int .i64 z] w fun e w' => ∃ v n, e = .returned v ∧ WIs w' v z n ∧ n ≤ 3 ∧ Below w.heap.size w w' := by
  by_cases h : z < 0
  · exact of_neg z w hz h (decide_eq_true h)
  · exact of_pos z w hz (by omega) (decide_eq_false h)
end Go.Proofs.YtkheoaleamolcaaDoor
