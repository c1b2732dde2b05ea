/-
  balance.spread.
-/
import Derived.Test.YtpmlljbebdidgaaDoorM4
import Derived.Test.YtpmlljbebdidgaaDoorFv
namespace Go.Proofs.YtpmlljbebdidgaaDoor
open Go.RowKit

theorem info_frac : (Tryd.prog.info? 78).map (fun i => (i.zero, i.size, i.bytes)) = some (some (.agg #[.int .i64 0, .int .i64 0]), 2, 16) := by kernel_rfl
theorem made_frac (n : Nat) : (madeCells #[Value.int .i64 0, Value.int .i64 0] (n * 2)).toList = cellsF (List.replicate n unsetF) := by
  apply List.ext_getElem?
  intro j
  by_cases hj : j < n * 2
  · have hq : j / 2 < n := by omega
    have hu : (List.replicate n unsetF)[j / 2]? = some unsetF := by simp [hq]
    have h1 := cellsF_at (List.replicate n unsetF) (j / 2) unsetF hu 0 _ rfl
    have h2 := cellsF_at (List.replicate n unsetF) (j / 2) unsetF hu 1 _ rfl
    rcases Nat.mod_two_eq_zero_or_one j with h | h
    · rw [show j / 2 * 2 + 0 = j by omega] at h1
      rw [h1]
      simp [madeCells, hj, h, unsetF]
    · rw [show j / 2 * 2 + 1 = j by omega] at h2
      rw [h2]
      simp [madeCells, hj, h, unsetF]
  · rw [List.getElem?_eq_none (by simp [madeCells]; omega), List.getElem?_eq_none (by rw [cellsF_length]; simp; omega)]
theorem home_fit_of {n : Nat} {ars : List ArcV} {T : List Edg} {R P : Nat → Nat} (C : Ctx n ars T R P) : AllFit (homeF n ars) := by
  intro x hx
  obtain ⟨v, hv, rfl⟩ := List.mem_map.1 hx
  have := List.mem_range.1 hv
  have := root_le (upF n ars) v
  have := C.n2
  show fits _
  unfold fits; omega
theorem tree_fit_of {n : Nat} {ars : List ArcV} {T : List Edg} {R P : Nat → Nat} (C : Ctx n ars T R P) {l : Nat} (hm : l ≤ 96) (hl : ars.length = l) : AllFit (treeF n ars) := by
  intro x hx
  rw [C.fi.tree] at hx
  obtain ⟨e, he, rfl⟩ := List.mem_map.1 hx
  have := (C.fi.edge e (List.mem_reverse.1 he)).1
  show fits _
  unfold fits; omega
/-- what spread answers -/
def SpOut (n : Nat) (ars : List ArcV) (R : Nat → Nat) (w : World) (e : Ending) (w' : World) : Prop :=
  ∃ gS fs b, e = .returned (.tuple #[.slice (some ⟨gS, 0, none⟩) n n, .bool b]) ∧ w'.ownsRow w.heap.size 78 2 (.slice (some ⟨gS, 0, none⟩) n n) n (cellsF fs) ∧ Below w.heap.size w w' ∧
    (b = true → fs = (List.range n).map (shF n ars R) ∧ ∀ v, v < n → Small (shF n ars R v)) ∧ (b = false → Big n R)
/-- a pass over the tree's edges -/
def PassR (T : List Edg) (tree : List Int) (fs0 fs : List Fr) (k : Nat) (fit more : Bool) : Prop :=
  fit = true → (more = false → fs = fs0 ∧ ∀ e ∈ T, ∀ j : Nat, j < k → tree[j]? = some (e.i : Int) → Closed fs0 e) ∧ (more = true → cntU fs < cntU fs0)
theorem StepR.fit {fs fs' : List Fr} {fit fit' b : Bool} {u v : Nat} {g k : Int} (h : StepR fs fit u v g k fs' fit' b) (hf : fit' = true) : fit = true := by
  rcases h with ⟨-, -, rfl, -⟩ | ⟨f, t, kk, -, -, -, -, -, -, -, -, rfl⟩
  · exact hf
  · rw [Bool.and_eq_true] at hf; exact hf.1
theorem tree_edge {n : Nat} {ars : List ArcV} {T : List Edg} {R P : Nat → Nat} (C : Ctx n ars T R P) {k : Nat} {x : Int} (h : (treeF n ars)[k]? = some x) : ∃ e ∈ T, x = (e.i : Int) := by
  have hm := List.mem_of_getElem? h
  rw [C.fi.tree] at hm
  obtain ⟨e, he, rfl⟩ := List.mem_map.1 hm
  exact ⟨e, List.mem_reverse.1 he, rfl⟩
/-- what one call of the closure did, as the pass sees it -/
def Told (fs fs' : List Fr) (fit fit' b : Bool) (u v : Nat) : Prop := fit' = true → fit = true ∧ (b = true → cntU fs' < cntU fs) ∧ (b = false → fs' = fs ∧ (fs[u]? = some unsetF ∨ ∃ t, fs[v]? = some t ∧ 1 ≤ t.n))
theorem told_of {n : Nat} {ars : List ArcV} {T : List Edg} {R P : Nat → Nat} (C : Ctx n ars T R P) {fs fs' : List Fr} {fit fit' b : Bool} (hl : fs.length = n) (H : SInv n ars R fs fit) {u v : Nat} {g k : Int} (hv : v < n)
    (hh : hm n ars u = hm n ars v) (hg : 1 ≤ g) (hg2 : g ≤ 64) (hk : 1 ≤ k) (hk2 : k ≤ 64) (he : g * (R u : Int) = k * (R v : Int)) (hs : StepR fs fit u v g k fs' fit' b) : SInv n ars R fs' fit' ∧ Told fs fs' fit fit' b u v := by
  obtain ⟨h1, h2⟩ := sinv_step C hl H hv hh hg hg2 hk hk2 he hs
  exact ⟨h1, fun hf => ⟨hs.fit hf, h2 hf⟩⟩
theorem pass_one {T : List Edg} {tree : List Int} {fs0 fs fs1 : List Fr} {k : Nat} {fit fit1 more : Bool} {u v : Nat} (h : PassR T tree fs0 fs k fit more) (t1 : Told fs fs1 fit fit1 true u v) : PassR T tree fs0 fs1 (k + 1) fit1 true := by
  intro hf
  obtain ⟨hf0, hc, -⟩ := t1 hf
  obtain ⟨h1, h2⟩ := h hf0
  have hc := hc rfl
  refine ⟨fun h => (by cases h), fun _ => ?_⟩
  cases more with
  | false => rw [(h1 rfl).1] at hc; exact hc
  | true => have := h2 rfl; omega
theorem pass_two {T : List Edg} {tree : List Int} {fs0 fs fs1 fs2 : List Fr} {k : Nat} {fit fit1 fit2 more : Bool} {u v u' v' : Nat} (h : PassR T tree fs0 fs k fit more) (t1 : Told fs fs1 fit fit1 false u v) (t2 : Told fs1 fs2 fit1 fit2 true u' v') : PassR T tree fs0 fs2 (k + 1) fit2 true := by
  intro hf
  obtain ⟨hf1, hc, -⟩ := t2 hf
  obtain ⟨hf0, -, hb⟩ := t1 hf1
  obtain ⟨rfl, -⟩ := hb rfl
  obtain ⟨h1, h2⟩ := h hf0
  have hc := hc rfl
  refine ⟨fun h => (by cases h), fun _ => ?_⟩
  cases more with
  | false => rw [(h1 rfl).1] at hc; exact hc
  | true => have := h2 rfl; omega
theorem pass_none {n : Nat} {ars : List ArcV} {T : List Edg} {R P : Nat → Nat} (C : Ctx n ars T R P) {tree : List Int} {fs0 fs fs1 fs2 : List Fr} {k : Nat} {fit fit1 fit2 more : Bool} {e : Edg} (he : e ∈ T) (hk : tree[k]? = some (e.i : Int)) (h : PassR T tree fs0 fs k fit more)
    (t1 : Told fs fs1 fit fit1 false e.f e.t) (t2 : Told fs1 fs2 fit1 fit2 false e.t e.f) : PassR T tree fs0 fs2 (k + 1) fit2 more := by
  intro hf
  obtain ⟨hf1, -, hb2⟩ := t2 hf
  obtain ⟨hf0, -, hb⟩ := t1 hf1
  obtain ⟨rfl, c1⟩ := hb rfl
  obtain ⟨rfl, c2⟩ := hb2 rfl
  obtain ⟨h1, h2⟩ := h hf0
  refine ⟨fun hm => ?_, h2⟩
  obtain ⟨rfl, ha⟩ := h1 hm
  refine ⟨rfl, fun d hd j hj hjd => ?_⟩
  by_cases hjk : j = k
  · subst hjk
    rw [hk] at hjd
    injection hjd with hjd
    obtain rfl : d = e := same_edge C.fi.forest hd he (by omega)
    exact ⟨c1, c2⟩
  · exact ha d hd j (by omega) hjd
theorem pass_end {n : Nat} {ars : List ArcV} {T : List Edg} {R P : Nat → Nat} (C : Ctx n ars T R P) {fs0 fs : List Fr} {fit more : Bool} (h : PassR T (treeF n ars) fs0 fs (treeF n ars).length fit more) :
    (more = false → fit = true → ∀ e ∈ T, Closed fs e) ∧ (more = true → fit = true → cntU fs < cntU fs0) := by
  refine ⟨fun hm hf e he => ?_, fun hm hf => (h hf).2 hm⟩
  obtain ⟨rfl, ha⟩ := (h hf).1 hm
  have hmem : (e.i : Int) ∈ treeF n ars := by rw [C.fi.tree]; exact List.mem_map.2 ⟨e, List.mem_reverse.2 he, rfl⟩
  obtain ⟨j, hj⟩ := List.getElem?_of_mem hmem
  exact ha e he j (List.getElem?_eq_some_iff.1 hj).1 hj

set_option maxRecDepth 100000 in
set_option maxHeartbeats 4000000 in
theorem spread_any (n : Nat) (ars : List ArcV) (T : List Edg) (R P : Nat → Nat) (A At Ah : Option Addr) (l c ct ch : Nat) (w : World) (C : Ctx n ars T R P) (hl : ars.length = l) (hx : ∀ a ∈ ars, a.fit) (hr : Rd w w.heap.size A (cellsA ars)) (hm' : l ≤ 96)
    (hrt : Rd w w.heap.size At (cellsI (treeF n ars))) (hrh : Rd w w.heap.size Ah (cellsI (homeF n ars))) :
    Calls Tryd.prog 19 #[.agg #[.int .i64 n, .slice A l c], .agg #[.slice At (treeF n ars).length ct, .slice Ah n ch]] w (SpOut n ars R w) := by
  obtain ⟨i0, hi, hz0, hz1, hz2⟩ := info_parts info_frac
  have hn1 := C.n1
  have hn2 := C.n2
  go_enter Tryd.func19, Tryd.ntmps19
  go_upto_region 1 with fail
  obtain ⟨W0, hW0⟩ : ∃ W, (w.alloc (.cells #[.int .i64 n, .slice A l c] 30)).alloc (.cells #[.slice At (treeF n ars).length ct, .slice Ah n ch] 70) = W := ⟨_, rfl⟩
  have BW := (Below.refl w.heap.size w).alloc (Nat.le_refl _) (.cells #[.int .i64 n, .slice A l c] 30)
  have BW := BW.alloc BW.size (.cells #[.slice At (treeF n ars).length ct, .slice Ah n ch] 70)
  have kn := (Blk.new w _ rfl 30 #[.int .i64 n, .slice A l c]).alloc (.cells #[.slice At (treeF n ars).length ct, .slice Ah n ch] 70)
  have kf := Blk.new (w.alloc (.cells #[.int .i64 n, .slice A l c] 30)) (w.heap.size + 1) (by simp) 70 #[.slice At (treeF n ars).length ct, .slice Ah n ch]
  rw [hW0] at BW kn kf ⊢
  have hrA := (hr.below BW (Nat.le_refl _)).more BW.size
  have hrT := (hrt.below BW (Nat.le_refl _)).more BW.size
  have hrH := (hrh.below BW (Nat.le_refl _)).more BW.size
  have HW := Lib.hid BW
  obtain ⟨bn, hbn⟩ : ∃ b, w.heap.size = b := ⟨_, rfl⟩
  obtain ⟨bf, hbf⟩ : ∃ b, bn + 1 = b := ⟨_, rfl⟩
  rw [hbn] at kn kf ⊢
  rw [hbf] at kf ⊢
  have HB := Lib.hid hbn
  clear hW0 BW hr hrt hrh hbn hbf
  have n0 := kn.cell 0
  simp at n0
  go_wp2_with (at_make; refine wpList_make_full _ rfl _ _ 73 rfl W0.heap.size 78 i0 (.agg #[.int .i64 0, .int .i64 0]) 2 Tryd.underlying73 hi hz0 hz1 _ _ _ _ n rfl rfl (by omega) (by omega) (by rw [hz2]; omega) (by unfold maxLen; omega) (by simp) ?_)
  intro W1 o1 g1
  rw [made_frac] at o1
  have hlt1 := own_lt o1
  have B1 := (Below.refl W0.heap.size W0).grown g1 (Nat.le_refl _) (fun k hk => by cases hk)
  obtain ⟨gS, hgS⟩ : ∃ gS, W0.heap.size = gS := ⟨_, rfl⟩
  obtain ⟨Bs, hBs⟩ : ∃ Bs, W1.heap.size = Bs := ⟨_, rfl⟩
  have ks := Blk.new W1 Bs hBs.symm 73 #[.slice (some ⟨gS, 0, none⟩) n n]
  have o2 := o1.alloc (.cells #[.slice (some ⟨gS, 0, none⟩) n n] 73)
  have B2 := B1.alloc g1.size (.cells #[.slice (some ⟨gS, 0, none⟩) n n] 73)
  obtain ⟨W2, hW2⟩ : ∃ W, W1.alloc (.cells #[.slice (some ⟨gS, 0, none⟩) n n] 73) = W := ⟨_, rfl⟩
  rw [hW2] at ks o2 B2
  have f2 := ((kf.below B2 kf.lt).cell 1)
  simp at f2
  rw [hgS, hBs] at hlt1
  rw [hgS] at o2 ⊢
  rw [← initF_zero n ars] at o2
  have HGS := Lib.hid hgS
  clear g1 o1 B1 n0 hgS
  go_upto_region 2 with fail
  try rw [hBs]
  try rw [hW2]
  clear hW2 hBs
  go_wp2_with fail
  clear f2
  go_loopw [21] (fun i wr => ∃ k : Nat, k ≤ n ∧ i = .int .i64 k ∧ wr.ownsRow gS 78 2 (.slice (some ⟨gS, 0, none⟩) n n) n (cellsF (initF n ars k)) ∧ Blk wr Bs 73 #[.slice (some ⟨gS, 0, none⟩) n n] ∧ Below W0.heap.size W0 wr) (fun i _ => n - (intOf i).toNat)
  case atStart => exact ⟨0, Nat.zero_le _, rfl, o2, ks, B2⟩
  case round =>
    clear o2 ks B2
    obtain ⟨k, hk, rfl, o2, ks, B2⟩ := hrel
    by_cases hkn : k < n
    · obtain ⟨b, off, x, rfl, hb, hfx, h0, hd, hat⟩ := (hrH.below B2 (Nat.le_refl _)).at_ (k := k) (home_fit_of C) (by rw [homeF_length]; exact hkn)
      obtain rfl : x = (hm n ars k : Nat) := by have := hat.out; rw [homeF_at hkn] at this; exact (Option.some.inj this).symm
      clear hd hat
      have s0 := ks.cell 0
      simp at s0
      by_cases hh : hm n ars k = k
      · rw [hh] at h0
        obtain ⟨c0, c1, -, -⟩ := (rd_of_own o2).frAt (fun f hf => (initF_ok n ars k f hf).1) (initF_at hkn)
        rw [Nat.zero_add] at c0 c1
        have z0 := o2.frozenAt (k * 2)
        have z1 := o2.frozenAt (k * 2 + 1)
        have o3 := ((o2.stored (k * 2) (.int .i64 1)).1.stored (k * 2 + 1) (.int .i64 1)).1
        rw [cellsF_set (initF n ars k) k ⟨1, 1⟩, initF_yes hkn hh] at o3
        have hne : gS ≠ Bs := by omega
        have k3 := (ks.far (p := ⟨gS, k * 2, none⟩) hne.symm (.int .i64 1)).far (p := ⟨gS, k * 2 + 1, none⟩) hne.symm (.int .i64 1)
        have B3 := (B2.setCell (p := ⟨gS, k * 2, none⟩) (by have := HGS.out; simp; omega) (.int .i64 1)).setCell (p := ⟨gS, k * 2 + 1, none⟩) (by have := HGS.out; simp; omega) (.int .i64 1)
        clear o2 ks B2
        go_wp2_with fail
        go_roundw
        case rel => exact ⟨k + 1, by omega, by go_num, o3, k3, B3⟩
        case measure => simp [intOf]; omega
      · have hq : ((k : Int) == (hm n ars k : Nat)) = false := by simp; omega
        rw [initF_no hh] at o2
        go_wp2_with fail
        go_roundw
        case rel => exact ⟨k + 1, by omega, by go_num, o2, ks, B2⟩
        case measure => simp [intOf]; omega
    · obtain rfl : n = k := by omega
      have hbs := ks.lt
      obtain ⟨Bf, hBf⟩ : ∃ b, wr.heap.size = b := ⟨_, rfl⟩
      have kb := Blk.new wr Bf hBf.symm 4 #[.bool true]
      have o3 := o2.alloc (.cells #[.bool true] 4)
      have k3 := ks.alloc (.cells #[.bool true] 4)
      have B3 := B2.alloc B2.size (.cells #[.bool true] 4)
      rw [hBf] at hbs
      obtain ⟨W3, hW3⟩ : ∃ W, wr.alloc (.cells #[.bool true] 4) = W := ⟨_, rfl⟩
      rw [hW3] at kb o3 k3 B3
      have S : SpSt W0 W3 gS Bs Bf n (initF n ars n) true := ⟨o3, k3, kb, B3, initF_length _ _ _, initF_ok _ _ _, by have := HGS.out; omega, hlt1, hbs⟩
      have I := Lib.hid (sinv_start C)
      clear o2 ks B2 o3 k3 B3 kb hkn hk hbs
      go_upto_region 9 with fail
      try rw [hBf]
      try rw [hW3]
      clear hBf hW3
      go_wp2_with fail
      go_loopg [11] (n + 1) (fun gk s11 wr => ∃ (fs : List Fr) (fit more : Bool), s11 = .bool more ∧ SpSt W0 wr gS Bs Bf n fs fit ∧ Hid (SInv n ars R fs fit) ∧ Hid (more = false → fit = true → ∀ e ∈ T, Closed fs e) ∧ Hid (more = true → fit = true → cntU fs < gk))
      case atStart => exact ⟨_, _, _, rfl, S, I, fun h => (by cases h), fun _ _ => by have := List.length_filter_le (fun f : Fr => decide (f.n = 0)) (initF n ars n); rw [initF_length] at this; unfold cntU; omega⟩
      case round =>
        clear S I W3
        obtain ⟨ko, rfl⟩ : ∃ ko : Nat, ko = gk := ⟨_, rfl⟩
        obtain ⟨fs, fit, more, rfl, S, I, Hc, Hm⟩ := hrel
        have x0 := S.ks.cell 0
        have x1 := S.kf.cell 0
        simp at x0 x1
        cases more with
        | false =>
          have HO := Lib.hid (show SpOut n ars R w (.returned (.tuple #[.slice (some ⟨gS, 0, none⟩) n n, .bool fit])) (wr.drewN 1) from
            ⟨gS, fs, fit, rfl, own_mono (S.drewN 1).row (by have := HGS.out; have := HW.out.size; omega), HW.out.trans ((S.drewN 1).bw.mono HW.out.size), fun hf => by subst hf; exact sinv_end C S.len I.out (Hc.out rfl rfl), fun hf => I.out.big hf⟩)
          clear I Hc Hm
          go_wp2_with fail
          go_region
          go_wp2_with fail
          go_ret2
          exact HO.out
        | true =>
          cases fit with
          | false =>
            have HO := Lib.hid (show SpOut n ars R w (.returned (.tuple #[.slice (some ⟨gS, 0, none⟩) n n, .bool false])) (wr.drewN 1) from
              ⟨gS, fs, false, rfl, own_mono (S.drewN 1).row (by have := HGS.out; have := HW.out.size; omega), HW.out.trans ((S.drewN 1).bw.mono HW.out.size), fun hf => (by cases hf), fun hf => I.out.big hf⟩)
            clear I Hc Hm
            go_wp2_with fail
            go_region
            go_wp2_with fail
            go_ret2
            exact HO.out
          | true =>
            have hcn := Hm.out rfl rfl
            have n1 := (kn.below S.bw kn.lt).cell 1
            have f0 := (kf.below S.bw kf.lt).cell 0
            simp at n1 f0
            have HP := Lib.hid (show PassR T (treeF n ars) fs fs 0 true false from fun _ => ⟨fun _ => ⟨rfl, fun e _ j hj => by omega⟩, fun h => by cases h⟩)
            clear Hc Hm
            go_wp2_with fail
            clear x0 x1 n1 f0
            go_loopg [11, 42] (treeF n ars).length (fun gj s11 s42 wx => ∃ (k : Nat) (gs : List Fr) (fit more : Bool), s11 = .bool more ∧ s42 = .int .i64 k ∧ k + gj = (treeF n ars).length ∧ SpSt W0 wx gS Bs Bf n gs fit ∧ Hid (SInv n ars R gs fit) ∧ Hid (PassR T (treeF n ars) fs gs k fit more))
            case atStart => exact ⟨0, fs, true, false, rfl, rfl, by omega, S, I, HP⟩
            case round =>
              clear S I HP
              obtain ⟨gj, rfl⟩ : ∃ ko : Nat, ko = gk := ⟨_, rfl⟩
              obtain ⟨k, gs, fit, more, rfl, rfl, hk, S, I, HP⟩ := hrel
              have htl := treeF_le n ars
              by_cases hkt : k < (treeF n ars).length
              · obtain ⟨b, off, x, rfl, hb, hfx, t0, -, hat⟩ := (hrT.below S.bw (Nat.le_refl _)).at_ (k := k) (tree_fit_of C hm' hl) hkt
                obtain ⟨e, he, rfl⟩ := tree_edge C hat.out
                obtain ⟨a, ha, haf, hat', hef, het, hhm, hev⟩ := C.edge he
                have hab := C.arc a (List.mem_of_getElem? ha)
                have hlt : e.i < ars.length := (List.getElem?_eq_some_iff.1 ha).1
                obtain ⟨b', off', a', rfl, hb', hfa, c0, c1, c2, c3, c4, -, ha'⟩ := (hrA.below S.bw (Nat.le_refl _)).arc (k := e.i) hx hlt
                obtain rfl : a = a' := by have := ha'.out; rw [ha] at this; exact Option.some.inj this
                rw [haf] at c0
                rw [hat'] at c1
                obtain ⟨g1, g2, k1, k2⟩ := hab.2.2.2.2
                have HE := Lib.hid he
                have HAT := Lib.hid hat.out
                have HEV := Lib.hid hev
                have HHM := Lib.hid hhm
                have n1 := (kn.below S.bw kn.lt).cell 1
                simp at n1
                obtain ⟨W4, hW4⟩ : ∃ W, wr.alloc (.cells #[.int .i64 e.f, .int .i64 e.t, .int .i64 a.g, .int .i64 a.k, .int .i64 a.s] 66) = W := ⟨_, rfl⟩
                obtain ⟨ga, hga⟩ : ∃ g, wr.heap.size = g := ⟨_, rfl⟩
                have HGA := Lib.hid (show Bf < ga from hga ▸ S.kf.lt)
                have ka := Blk.new wr ga hga.symm 66 #[.int .i64 e.f, .int .i64 e.t, .int .i64 a.g, .int .i64 a.k, .int .i64 a.s]
                have S4 := S.alloc (.cells #[.int .i64 e.f, .int .i64 e.t, .int .i64 a.g, .int .i64 a.k, .int .i64 a.s] 66)
                rw [hW4] at ka S4
                have d0 := ka.cell 0
                have d1 := ka.cell 1
                have d2 := ka.cell 2
                have d3 := ka.cell 3
                simp at d0 d1 d2 d3
                have i1 : (e.i : Int) < (l : Int) := by omega
                have i0' : (0 : Int) ≤ (e.i : Int) := by omega
                clear S ha haf hat' hev hhm hab ha' hat he hfa hfx hlt
                go_upto_region 17 with fail
                try rw [hga]
                try rw [hW4]
                clear hW4 hga t0 c0 c1 c2 c3 c4 n1
                go_wp2_with fail
                refine (spread1_any e.f e.t a.g a.k gs fit n Bs Bf gS W0 W4 S4 hef het g1 g2 k1 k2).mono ?_
                rintro ee W5 ⟨fs1, fit1, b1, rfl, S5, R1, O5⟩
                obtain ⟨I1, T1⟩ := told_of C S4.len I.out het HHM.out g1 g2 k1 k2 HEV.out R1
                have I1 := Lib.hid I1
                have T1 := Lib.hid T1
                clear S4 R1 I
                have ka := O5.blk ka (by have := S5.s1; have := S5.s2; have := HGA.out; omega) (by have := HGA.out; omega)
                have d0 := ka.cell 0
                have d1 := ka.cell 1
                have d2 := ka.cell 2
                have d3 := ka.cell 3
                simp at d0 d1 d2 d3
                cases b1 with
                | true =>
                  have HP1 := Lib.hid (pass_one HP.out T1.out)
                  clear T1 HP
                  go_wp2_with fail
                  go_roundg (gj - 1)
                  case measure => omega
                  case rel => exact ⟨k + 1, fs1, fit1, true, rfl, by go_num, by omega, S5, I1, HP1⟩
                | false =>
                  go_wp2_with fail
                  refine (spread1_any e.t e.f a.k a.g fs1 fit1 n Bs Bf gS W0 W5 S5 het hef k1 k2 g1 g2).mono ?_
                  rintro ee W6 ⟨fs2, fit2, b2, rfl, S6, R2, -⟩
                  obtain ⟨I2, T2⟩ := told_of C S5.len I1.out hef HHM.out.symm k1 k2 g1 g2 HEV.out.symm R2
                  have I2 := Lib.hid I2
                  have T2 := Lib.hid T2
                  clear S5 R2 I1 ka d0 d1 d2 d3
                  cases b2 with
                  | true =>
                    have HP1 := Lib.hid (pass_two HP.out T1.out T2.out)
                    clear T1 T2 HP
                    go_wp2_with fail
                    go_roundg (gj - 1)
                    case measure => omega
                    case rel => exact ⟨k + 1, fs2, fit2, true, rfl, by go_num, by omega, S6, I2, HP1⟩
                  | false =>
                    have HP1 := Lib.hid (pass_none C HE.out HAT.out HP.out T1.out T2.out)
                    clear T1 T2 HP
                    go_wp2_with fail
                    go_roundg (gj - 1)
                    case measure => omega
                    case rel => exact ⟨k + 1, fs2, fit2, more, rfl, by go_num, by omega, S6, I2, HP1⟩
              · obtain rfl : k = (treeF n ars).length := by omega
                obtain ⟨q1, q2⟩ := pass_end C HP.out
                have q1 := Lib.hid q1
                have q2 := Lib.hid q2
                clear HP
                go_wp2_with fail
                go_roundg (cntU fs)
                case measure => exact hcn
                case rel => exact ⟨gs, fit, more, rfl, S, I, q1, q2⟩
end Go.Proofs.YtpmlljbebdidgaaDoor
