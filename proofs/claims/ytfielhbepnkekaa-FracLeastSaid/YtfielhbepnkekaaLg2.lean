/-
  FracLeast: what the law computes is true.
-/
import Derived.Test.YtfielhbepnkekaaLe2
namespace Go.Proofs.Ytfielhbepnkekaa
open Go.RowKit

/-- m makes all whole -/
def mkWhole (m : Int) (fs : List Fr) : Bool := decide (m > 0) && fs.all fun f => m.tmod f.d == 0
theorem mkWhole_snoc (m : Int) (fs : List Fr) (f : Fr) : mkWhole m (fs ++ [f]) = (mkWhole m fs && (m.tmod f.d == 0)) := by
  unfold mkWhole; rw [List.all_append, Bool.and_assoc]; simp
theorem take_snoc {fs : List Fr} {k : Nat} {f : Fr} (h : fs[k]? = some f) : fs.take (k + 1) = fs.take k ++ [f] := by rw [List.take_add_one, h]; rfl
theorem all_snoc {fs : List Fr} {f : Fr} (h : fs.all Fr.valid = true) (h2 : f.valid = true) : (fs ++ [f]).all Fr.valid = true := by
  rw [List.all_append, h]; simp [h2]
theorem mkWhole_dvd {m : Int} {fs : List Fr} (h : mkWhole m fs = true) : 0 < m ∧ ∀ f ∈ fs, f.d ∣ m := by
  unfold mkWhole at h
  rw [Bool.and_eq_true] at h
  refine ⟨of_decide_eq_true h.1, fun f hf => ?_⟩
  have := List.all_eq_true.1 h.2 f hf
  exact Int.dvd_of_tmod_eq_zero (by simpa using this)
/-- what makes all whole is a multiple of Scale's number -/
theorem least_dvd {m : Int} {fs : List Fr} {Kz : Nat} (hv : ∀ f ∈ fs, f.valid = true) (hK : lcmF fs = ((Kz : Int), true)) (h : mkWhole m fs = true) : m.tmod (Kz : Int) = 0 := by
  obtain ⟨h0, h1⟩ := mkWhole_dvd h
  have hz := zeroF_dens hv
  unfold lcmF at hK
  rw [lcmGo_true _ 1 (by omega) (by decide) hz] at hK
  simp only [Prod.mk.injEq] at hK
  have hf := okB_iff.1 hK.2
  have e : lcmFold 1 (fs.map Fr.d) = Kz := by
    have h2 := hK.1
    unfold fits at hf
    unfold okOf at h2
    rw [if_pos hf] at h2
    omega
  refine Int.tmod_eq_zero_of_dvd ?_
  have : Kz ∣ m.natAbs := by
    rw [← e]
    refine lcmFold_dvd _ _ _ (Nat.one_dvd _) (fun x hx => ?_)
    obtain ⟨f, hf, rfl⟩ := List.mem_map.1 hx
    exact Int.natAbs_dvd_natAbs.2 (h1 f hf)
  exact Int.ofNat_dvd_left.2 this
theorem scOne_worth {fs : List Fr} {Kz : Nat} (hv : ∀ f ∈ fs, f.valid = true) (hK : lcmF fs = ((Kz : Int), true)) {f : Fr} (hf : f ∈ fs) : scOne Kz f * f.d = (Kz : Int) * f.n := by
  have hz := zeroF_dens hv
  unfold lcmF at hK
  rw [lcmGo_true _ 1 (by omega) (by decide) hz] at hK
  simp only [Prod.mk.injEq] at hK
  have h3 := okB_iff.1 hK.2
  have e : lcmFold 1 (fs.map Fr.d) = Kz := by
    have h2 := hK.1
    unfold fits at h3
    unfold okOf at h2
    rw [if_pos h3] at h2
    omega
  have hd : f.d ∣ (Kz : Int) := by
    refine Int.natAbs_dvd_natAbs.1 ?_
    rw [← e]
    exact lcmFold_all _ _ _ (List.mem_map.2 ⟨f, hf, rfl⟩)
  unfold scOne
  rw [Int.mul_assoc, Int.ediv_mul_cancel hd, Int.mul_comm]
set_option maxRecDepth 100000 in
set_option maxHeartbeats 4000000 in
theorem least_bad (fs : List Fr) (A : Option Addr) (l c : Nat) (m : Int) (w : World) (hl : fs.length = l) (lc : l ≤ c) (hx : ∀ a ∈ fs, a.fit) (hr : Rd w w.heap.size A (cellsF fs)) (hz : c * 16 ≤ 140737488351232) (_hm : fits m) (hv : fs.all Fr.valid = false) : Calls Try.prog 13 #[.slice A l c, .int .i64 m] w fun e w' => e = .returned (.bool true) ∧ Below w.heap.size w w' := by
  have e0 := scaleR_bad hv
  have HV := Lib.hid hv
  clear hv
  subst hl
  obtain ⟨c2', hc2'⟩ : ∃ c', c' = c := ⟨_, rfl⟩
  clear hc2'
  go_enter Try.func13, Try.ntmps13
  go_wp2_with fail
  refine (lentF_any fs A fs.length c _ _ rfl hr (by omega)).mono ?_
  rintro e w1 ⟨g, c2, rfl, hwL⟩
  have bb1 := hwL.2.2.2
  go_wp2_with fail
  refine (fscale_any fs (some ⟨g, 0, none⟩) fs.length c2 w1 rfl hx hwL.rdf (by omega)).mono ?_
  rintro e w2 ⟨lv, rfl, ho, hb2⟩
  have bb := bb1.trans (hb2.mono bb1.size)
  have Hr := Lib.hid ((hr.below bb (Nat.le_refl _)).more bb.size)
  have BB := Lib.hid bb
  have hw2 := bb.size
  clear bb bb1 hb2 hwL
  rw [e0] at ho ⊢
  obtain ⟨Al, cl, rfl, -⟩ := own_slice ho
  clear ho e0
  simp only [List.length_nil]
  have hz0 : Hid ((fs.take 0).all Fr.valid = true) := rfl
  go_wp2_with fail
  go_loopw [8, 9] (fun al i wr => ∃ (k : Nat) (t : Bool), k ≤ fs.length ∧ i = .int .i64 k ∧ al = .bool t ∧ Hid (t = mkWhole m (fs.take k)) ∧ Below w2.heap.size w2 wr ∧ Hid ((fs.take k).all Fr.valid = true)) (fun _ i _ => fs.length - (intOf i).toNat)
  case atStart => exact ⟨0, decide (m > 0), Nat.zero_le _, rfl, rfl, by unfold Hid mkWhole; simp, Below.refl _ _, hz0⟩
  case round =>
    clear hz0
    obtain ⟨k, t, hk, rfl, rfl, Ht, hb, Hv⟩ := hrel
    by_cases hlt : k < fs.length
    · obtain ⟨b, off, ⟨xn, xd⟩, rfl, hbl, hfx, c0, c1, hd, hxx⟩ := (Hr.out.below hb (Nat.le_refl _)).fr hx hlt
      simp only at c0 c1
      have hbw : b < wr.heap.size := by have := hb.size; omega
      have vc := valid_any xn xd wr hfx.1 hfx.2
      cases hvx : validB xn xd with
      | false =>
        rw [hvx] at vc
        have Vc := Lib.hid vc
        have HB := Lib.hid hb
        clear vc hvx hd hxx hb
        go_wp2_with fail
        refine Vc.out.mono ?_
        rintro e w3 ⟨rfl, hb3⟩
        have b3 := HB.out.trans (hb3.mono HB.out.size)
        have b3' := BB.out.trans (b3.mono BB.out.size)
        clear c0 c1
        go_wp2_with fail
        refine (awake_any _).mono ?_
        rintro e w4 ⟨rfl, hb4⟩
        go_wp2_with fail
        go_ret
        exact ⟨by simp, b3'.trans (hb4.mono b3'.size)⟩
      | true =>
        rw [hvx] at vc
        have Vc := Lib.hid vc
        have HB := Lib.hid hb
        have hxd0 : ¬ xd = 0 := by have := (validB_iff.1 hvx).1; omega
        have hts := take_snoc hxx.out
        have Hv2 : Hid ((fs.take (k + 1)).all Fr.valid = true) := by unfold Hid; rw [hts]; exact all_snoc Hv.out hvx
        cases hmd : (m.tmod xd == 0) with
        | true =>
          have Ht2 : Hid (t = mkWhole m (fs.take (k + 1))) := by unfold Hid; rw [hts, mkWhole_snoc, ← Ht.out]; simp only; rw [hmd, Bool.and_true]
          have hm0 : m.tmod xd = 0 := by simpa using hmd
          clear vc hvx hd hxx hb hts hmd
          go_wp2_with fail
          refine Vc.out.mono ?_
          rintro e w3 ⟨rfl, hb3⟩
          have b3 := HB.out.trans (hb3.mono HB.out.size)
          have d1 := (hb3.cell (p := ⟨b, off + k * 2 + 1, none⟩) hbw).trans c1
          clear c0 c1
          go_wp2_with fail
          go_roundw
          case rel => exact ⟨k + 1, t, by omega, by go_num, rfl, Ht2, b3, Hv2⟩
          case measure => simp [intOf]; omega
        | false =>
          have Ht2 : Hid (false = mkWhole m (fs.take (k + 1))) := by unfold Hid; rw [hts, mkWhole_snoc]; simp only; rw [hmd, Bool.and_false]
          have hm0 : ¬ m.tmod xd = 0 := by simpa using hmd
          clear vc hvx hd hxx hb hts hmd
          go_wp2_with fail
          refine Vc.out.mono ?_
          rintro e w3 ⟨rfl, hb3⟩
          have b3 := HB.out.trans (hb3.mono HB.out.size)
          have d1 := (hb3.cell (p := ⟨b, off + k * 2 + 1, none⟩) hbw).trans c1
          clear c0 c1
          go_wp2_with fail
          go_roundw
          case rel => exact ⟨k + 1, false, by omega, by go_num, rfl, Ht2, b3, Hv2⟩
          case measure => simp [intOf]; omega
    · have ht : fs.take k = fs := List.take_of_length_le (by omega)
      rw [ht] at Ht Hv
      have := HV.out
      rw [Hv.out] at this
      cases this
set_option maxRecDepth 100000 in
set_option maxHeartbeats 4000000 in
theorem least_big (fs : List Fr) (A : Option Addr) (l c : Nat) (m : Int) (w : World) (hl : fs.length = l) (lc : l ≤ c) (hx : ∀ a ∈ fs, a.fit) (hr : Rd w w.heap.size A (cellsF fs)) (hz : c * 16 ≤ 140737488351232) (_hm : fits m) (hv : ∀ f ∈ fs, f.valid = true) (e0 : scaleR fs = (0, [], 4)) : Calls Try.prog 13 #[.slice A l c, .int .i64 m] w fun e w' => e = .returned (.bool true) ∧ Below w.heap.size w w' := by
  have Hall := Lib.hid hv
  clear hv
  subst hl
  obtain ⟨c2', hc2'⟩ : ∃ c', c' = c := ⟨_, rfl⟩
  clear hc2'
  go_enter Try.func13, Try.ntmps13
  go_wp2_with fail
  refine (lentF_any fs A fs.length c _ _ rfl hr (by omega)).mono ?_
  rintro e w1 ⟨g, c2, rfl, hwL⟩
  have bb1 := hwL.2.2.2
  go_wp2_with fail
  refine (fscale_any fs (some ⟨g, 0, none⟩) fs.length c2 w1 rfl hx hwL.rdf (by omega)).mono ?_
  rintro e w2 ⟨lv, rfl, ho, hb2⟩
  have bb := bb1.trans (hb2.mono bb1.size)
  have Hr := Lib.hid ((hr.below bb (Nat.le_refl _)).more bb.size)
  have BB := Lib.hid bb
  have hw2 := bb.size
  clear bb bb1 hb2 hwL
  rw [e0] at ho ⊢
  obtain ⟨Al, cl, rfl, -⟩ := own_slice ho
  clear ho e0
  simp only [List.length_nil]
  have hz0 : Hid ((fs.take 0).all Fr.valid = true) := rfl
  go_wp2_with fail
  go_loopw [8, 9] (fun al i wr => ∃ (k : Nat) (t : Bool), k ≤ fs.length ∧ i = .int .i64 k ∧ al = .bool t ∧ Hid (t = mkWhole m (fs.take k)) ∧ Below w2.heap.size w2 wr ∧ Hid ((fs.take k).all Fr.valid = true)) (fun _ i _ => fs.length - (intOf i).toNat)
  case atStart => exact ⟨0, decide (m > 0), Nat.zero_le _, rfl, rfl, by unfold Hid mkWhole; simp, Below.refl _ _, hz0⟩
  case round =>
    clear hz0
    obtain ⟨k, t, hk, rfl, rfl, Ht, hb, Hv⟩ := hrel
    by_cases hlt : k < fs.length
    · obtain ⟨b, off, ⟨xn, xd⟩, rfl, hbl, hfx, c0, c1, hd, hxx⟩ := (Hr.out.below hb (Nat.le_refl _)).fr hx hlt
      simp only at c0 c1
      have hbw : b < wr.heap.size := by have := hb.size; omega
      have vc := valid_any xn xd wr hfx.1 hfx.2
      cases hvx : validB xn xd with
      | false =>
        rw [hvx] at vc
        have Vc := Lib.hid vc
        have HB := Lib.hid hb
        exact absurd (Hall.out _ (List.mem_of_getElem? hxx.out)) (by unfold Fr.valid; rw [hvx]; simp)
      | true =>
        rw [hvx] at vc
        have Vc := Lib.hid vc
        have HB := Lib.hid hb
        have hxd0 : ¬ xd = 0 := by have := (validB_iff.1 hvx).1; omega
        have hts := take_snoc hxx.out
        have Hv2 : Hid ((fs.take (k + 1)).all Fr.valid = true) := by unfold Hid; rw [hts]; exact all_snoc Hv.out hvx
        cases hmd : (m.tmod xd == 0) with
        | true =>
          have Ht2 : Hid (t = mkWhole m (fs.take (k + 1))) := by unfold Hid; rw [hts, mkWhole_snoc, ← Ht.out]; simp only; rw [hmd, Bool.and_true]
          have hm0 : m.tmod xd = 0 := by simpa using hmd
          clear vc hvx hd hxx hb hts hmd
          go_wp2_with fail
          refine Vc.out.mono ?_
          rintro e w3 ⟨rfl, hb3⟩
          have b3 := HB.out.trans (hb3.mono HB.out.size)
          have d1 := (hb3.cell (p := ⟨b, off + k * 2 + 1, none⟩) hbw).trans c1
          clear c0 c1
          go_wp2_with fail
          go_roundw
          case rel => exact ⟨k + 1, t, by omega, by go_num, rfl, Ht2, b3, Hv2⟩
          case measure => simp [intOf]; omega
        | false =>
          have Ht2 : Hid (false = mkWhole m (fs.take (k + 1))) := by unfold Hid; rw [hts, mkWhole_snoc]; simp only; rw [hmd, Bool.and_false]
          have hm0 : ¬ m.tmod xd = 0 := by simpa using hmd
          clear vc hvx hd hxx hb hts hmd
          go_wp2_with fail
          refine Vc.out.mono ?_
          rintro e w3 ⟨rfl, hb3⟩
          have b3 := HB.out.trans (hb3.mono HB.out.size)
          have d1 := (hb3.cell (p := ⟨b, off + k * 2 + 1, none⟩) hbw).trans c1
          clear c0 c1
          go_wp2_with fail
          go_roundw
          case rel => exact ⟨k + 1, false, by omega, by go_num, rfl, Ht2, b3, Hv2⟩
          case measure => simp [intOf]; omega
    · have ht : fs.take k = fs := List.take_of_length_le (by omega)
      rw [ht] at Ht Hv
      have b3' := BB.out.trans (hb.mono BB.out.size)
      go_wp2_with fail
      refine (awake_any _).mono ?_
      rintro e w4 ⟨rfl, hb4⟩
      go_wp2_with fail
      go_ret
      exact ⟨by simp, b3'.trans (hb4.mono b3'.size)⟩
structure LsX (W0 : World) (fs : List Fr) (gl og b off cl c k : Nat) (x xd : Int) (L : Nat → Bool) (V : Nat → Value) (w : World) : Prop where
  p : Below W0.heap.size W0 w
  ox : L 4 = true → L 11 = false → ∃ zn, zn ≤ 3 ∧ WIs w (V 100) x zn
  oy : L 10 = true → L 11 = false → ∃ zn, zn ≤ 3 ∧ WIs w (V 106) xd zn
  zt : L 11 = true → L 13 = false → ∃ zs zA zc zk, V 107 = .agg #[.bool zs, .slice zA zk zc] ∧ WIs w (.agg #[.bool zs, .slice zA zk zc]) (x * xd) zk ∧ ∀ zg, L 12 = true → V 11 = .pointer (some ⟨zg, 0, none⟩) → ∀ zu zu', WIs ((w.setCell ⟨zg, 0, none⟩ zu).setCell ⟨zg, 1, none⟩ zu') (.agg #[.bool zs, .slice zA zk zc]) (x * xd) zk
  zb : L 12 = true → L 13 = false → ∃ zg, V 11 = .pointer (some ⟨zg, 0, none⟩) ∧ W0.heap.size ≤ zg ∧ Blk w zg 48 #[.bool false, .slice none 0 0]
  zf : L 13 = true → ∃ zg zs zA zc zk, V 11 = .pointer (some ⟨zg, 0, none⟩) ∧ W0.heap.size ≤ zg ∧ Blk w zg 48 #[.bool zs, .slice zA zk zc] ∧ WIs w (.agg #[.bool zs, .slice zA zk zc]) (x * xd) zk
  e0 : L 0 = true → V 96 = .slice (some ⟨gl, og, none⟩) fs.length cl
  e1 : L 1 = true → V 97 = .int .i64 (k : Nat)
  e2 : L 2 = true → V 98 = .pointer (some ⟨gl, og + k, none⟩)
  e3 : L 3 = true → V 99 = .int .i64 x
  e5 : L 5 = true → V 101 = .slice (some ⟨b, off, none⟩) fs.length c
  e6 : L 6 = true → V 102 = .int .i64 (k : Nat)
  e7 : L 7 = true → V 103 = .pointer (some ⟨b, off + k * 2, none⟩)
  e8 : L 8 = true → V 104 = .pointer (some ⟨b, off + k * 2 + 1, none⟩)
  e9 : L 9 = true → V 105 = .int .i64 xd

structure LsY (W0 : World) (fs : List Fr) (b off c k Kz : Nat) (xn : Int) (L : Nat → Bool) (V : Nat → Value) (w : World) : Prop where
  p : Below W0.heap.size W0 w
  ox : L 1 = true → L 8 = false → ∃ zn, zn ≤ 3 ∧ WIs w (V 109) (Kz : Int) zn
  oy : L 7 = true → L 8 = false → ∃ zn, zn ≤ 3 ∧ WIs w (V 115) xn zn
  zt : L 8 = true → L 10 = false → ∃ zs zA zc zk, V 116 = .agg #[.bool zs, .slice zA zk zc] ∧ WIs w (.agg #[.bool zs, .slice zA zk zc]) ((Kz : Int) * xn) zk ∧ ∀ zg, L 9 = true → V 12 = .pointer (some ⟨zg, 0, none⟩) → ∀ zu zu', WIs ((w.setCell ⟨zg, 0, none⟩ zu).setCell ⟨zg, 1, none⟩ zu') (.agg #[.bool zs, .slice zA zk zc]) ((Kz : Int) * xn) zk
  zb : L 9 = true → L 10 = false → ∃ zg, V 12 = .pointer (some ⟨zg, 0, none⟩) ∧ W0.heap.size ≤ zg ∧ Blk w zg 48 #[.bool false, .slice none 0 0]
  zf : L 10 = true → ∃ zg zs zA zc zk, V 12 = .pointer (some ⟨zg, 0, none⟩) ∧ W0.heap.size ≤ zg ∧ Blk w zg 48 #[.bool zs, .slice zA zk zc] ∧ WIs w (.agg #[.bool zs, .slice zA zk zc]) ((Kz : Int) * xn) zk
  e0 : L 0 = true → V 108 = .int .i64 (Kz : Nat)
  e2 : L 2 = true → V 110 = .slice (some ⟨b, off, none⟩) fs.length c
  e3 : L 3 = true → V 111 = .int .i64 (k : Nat)
  e4 : L 4 = true → V 112 = .pointer (some ⟨b, off + k * 2, none⟩)
  e5 : L 5 = true → V 113 = .pointer (some ⟨b, off + k * 2, none⟩)
  e6 : L 6 = true → V 114 = .int .i64 xn

set_option maxRecDepth 100000 in
set_option maxHeartbeats 4000000 in
theorem least_ok (fs : List Fr) (A : Option Addr) (l c : Nat) (m : Int) (w : World) (hl : fs.length = l) (lc : l ≤ c) (hx : ∀ a ∈ fs, a.fit) (hr : Rd w w.heap.size A (cellsF fs)) (hz : c * 16 ≤ 140737488351232) (_hm : fits m) (hv : ∀ f ∈ fs, f.valid = true) (Kz : Nat) (hK0 : 0 < Kz) (hK1 : Kz ≤ 9223372036854775807) (hK : lcmF fs = ((Kz : Int), true)) (e0 : scaleR fs = ((Kz : Int), fs.map (scOne Kz), 0)) : Calls Try.prog 13 #[.slice A l c, .int .i64 m] w fun e w' => e = .returned (.bool true) ∧ Below w.heap.size w w' := by
  have Hall := Lib.hid hv
  have HK := Lib.hid hK
  obtain ⟨hfl, -⟩ := scaleR_list fs
  rw [e0] at hfl
  have Hfl := Lib.hid hfl
  clear hv hK hfl
  subst hl
  obtain ⟨c2', hc2'⟩ : ∃ c', c' = c := ⟨_, rfl⟩
  clear hc2'
  go_enter Try.func13, Try.ntmps13
  go_wp2_with fail
  refine (lentF_any fs A fs.length c _ _ rfl hr (by omega)).mono ?_
  rintro e w1 ⟨g, c2, rfl, hwL⟩
  have bb1 := hwL.2.2.2
  go_wp2_with fail
  refine (fscale_any fs (some ⟨g, 0, none⟩) fs.length c2 w1 rfl hx hwL.rdf (by omega)).mono ?_
  rintro e w2 ⟨lv, rfl, ho, hb2⟩
  have bb := bb1.trans (hb2.mono bb1.size)
  have Hr := Lib.hid ((hr.below bb (Nat.le_refl _)).more bb.size)
  have BB := Lib.hid bb
  have hw2 := bb.size
  clear bb bb1 hb2 hwL
  rw [e0] at ho ⊢
  obtain ⟨Al, cl, rfl, -⟩ := own_slice ho
  have Ho := Lib.hid (rd_of_own ho)
  clear ho e0
  simp only [List.length_map]
  have hz0 : Hid ((fs.take 0).all Fr.valid = true) := rfl
  go_wp2_with fail
  go_loopw [8, 9] (fun al i wr => ∃ (k : Nat) (t : Bool), k ≤ fs.length ∧ i = .int .i64 k ∧ al = .bool t ∧ Hid (t = mkWhole m (fs.take k)) ∧ Below w2.heap.size w2 wr ∧ Hid ((fs.take k).all Fr.valid = true)) (fun _ i _ => fs.length - (intOf i).toNat)
  case atStart => exact ⟨0, decide (m > 0), Nat.zero_le _, rfl, rfl, by unfold Hid mkWhole; simp, Below.refl _ _, hz0⟩
  case round =>
    clear hz0
    obtain ⟨k, t, hk, rfl, rfl, Ht, hb, Hv⟩ := hrel
    by_cases hlt : k < fs.length
    · obtain ⟨b, off, ⟨xn, xd⟩, rfl, hbl, hfx, c0, c1, hd, hxx⟩ := (Hr.out.below hb (Nat.le_refl _)).fr hx hlt
      simp only at c0 c1
      have hbw : b < wr.heap.size := by have := hb.size; omega
      have vc := valid_any xn xd wr hfx.1 hfx.2
      cases hvx : validB xn xd with
      | false =>
        rw [hvx] at vc
        have Vc := Lib.hid vc
        have HB := Lib.hid hb
        exact absurd (Hall.out _ (List.mem_of_getElem? hxx.out)) (by unfold Fr.valid; rw [hvx]; simp)
      | true =>
        rw [hvx] at vc
        have Vc := Lib.hid vc
        have HB := Lib.hid hb
        have hxd0 : ¬ xd = 0 := by have := (validB_iff.1 hvx).1; omega
        have hts := take_snoc hxx.out
        have Hv2 : Hid ((fs.take (k + 1)).all Fr.valid = true) := by unfold Hid; rw [hts]; exact all_snoc Hv.out hvx
        cases hmd : (m.tmod xd == 0) with
        | true =>
          have Ht2 : Hid (t = mkWhole m (fs.take (k + 1))) := by unfold Hid; rw [hts, mkWhole_snoc, ← Ht.out]; simp only; rw [hmd, Bool.and_true]
          have hm0 : m.tmod xd = 0 := by simpa using hmd
          clear vc hvx hd hxx hb hts hmd
          go_wp2_with fail
          refine Vc.out.mono ?_
          rintro e w3 ⟨rfl, hb3⟩
          have b3 := HB.out.trans (hb3.mono HB.out.size)
          have d1 := (hb3.cell (p := ⟨b, off + k * 2 + 1, none⟩) hbw).trans c1
          clear c0 c1
          go_wp2_with fail
          go_roundw
          case rel => exact ⟨k + 1, t, by omega, by go_num, rfl, Ht2, b3, Hv2⟩
          case measure => simp [intOf]; omega
        | false =>
          have Ht2 : Hid (false = mkWhole m (fs.take (k + 1))) := by unfold Hid; rw [hts, mkWhole_snoc]; simp only; rw [hmd, Bool.and_false]
          have hm0 : ¬ m.tmod xd = 0 := by simpa using hmd
          clear vc hvx hd hxx hb hts hmd
          go_wp2_with fail
          refine Vc.out.mono ?_
          rintro e w3 ⟨rfl, hb3⟩
          have b3 := HB.out.trans (hb3.mono HB.out.size)
          have d1 := (hb3.cell (p := ⟨b, off + k * 2 + 1, none⟩) hbw).trans c1
          clear c0 c1
          go_wp2_with fail
          go_roundw
          case rel => exact ⟨k + 1, false, by omega, by go_num, rfl, Ht2, b3, Hv2⟩
          case measure => simp [intOf]; omega
    · have ht : fs.take k = fs := List.take_of_length_le (by omega)
      rw [ht] at Ht Hv
      have hkm : t = true → m.tmod (Kz : Int) = 0 := fun h => least_dvd Hall.out HK.out (Ht.out ▸ h)
      have Hkm := Lib.hid hkm
      have HB := Lib.hid hb
      have k1 : decide ((Kz : Int) < 1) = false := decide_eq_false (by omega)
      have hKn : ¬ Kz = 0 := by omega
      clear hkm hb Ht Hv ht
      cases t
      all_goals
        try have hkm := Hkm.out rfl
        go_wp2_with fail
        clear k1
        go_loopw [10] (fun i wr => ∃ k : Nat, k ≤ fs.length ∧ i = .int .i64 k ∧ Below w2.heap.size w2 wr) (fun i _ => fs.length - (intOf i).toNat)
        case atStart => exact ⟨0, Nat.zero_le _, rfl, HB.out⟩
        case round =>
          clear HB
          obtain ⟨k, hk, rfl, hb⟩ := hrel
          by_cases hlt : k < fs.length
          · obtain ⟨b, off, ⟨xn, xd⟩, rfl, hbl, hfx, c0, c1, hd, hxx⟩ := (Hr.out.below hb (Nat.le_refl _)).fr hx hlt
            simp only at c0 c1
            obtain ⟨gl, og, x, rfl, hgl, hfxx, cx, hdx, hxy⟩ := (Ho.out.below hb (Nat.le_refl _)).at_ Hfl.out (k := k) (by simpa using hlt)
            have hxe : x * xd = (Kz : Int) * xn := by
              have h1 := hxy.out
              rw [List.getElem?_map, hxx.out] at h1
              have h2 := Option.some.inj h1
              rw [← h2]
              exact scOne_worth Hall.out HK.out (List.mem_of_getElem? hxx.out)
            obtain ⟨hf1, hf2⟩ := hfx
            simp only at hf1 hf2
            have hfK : fits (Kz : Int) := by unfold fits; omega
            have hbW : b < wr.heap.size := by have := hb.size; omega
            have hglW : gl < wr.heap.size := by have := hb.size; omega
            have XL := Lib.hid cx
            have XN := Lib.hid c0
            have XD := Lib.hid c1
            have HBB := Lib.hid hb
            have Hxe := Lib.hid hxe
            clear c0 c1 cx hd hxx hdx hxy hb hxe
            go_wp2_with fail
            have hIA : ∀ V, LsX wr fs gl og b off cl c k x xd (fun _ => false) V wr.drew := fun V => by
              have h0 : Below wr.heap.size wr wr.drew := Drawn.below _ ((Drawn.refl wr).drewN 1)
              constructor
              all_goals first
                | exact h0
                | (intro h; cases h)
            refine wp_region_put3 [11, 96, 97, 98, 99, 100, 101, 102, 103, 104, 105, 106, 107] (LsX wr fs gl og b off cl c k x xd) (by kernel_rfl) (by kernel_rfl) ?_ ?_ ?_
            · exact hIA _
            · intro i o ho L V w1 hi hL hno h K hK
              rcases i with _ | _ | _ | _ | _ | _ | _ | _ | _ | _ | _ | _ | _ | _ | i
              · replace ho := Option.some.inj ho
                subst ho
                simp only [putAll, List.foldl_cons, List.foldl_nil, List.setIfInBounds_toArray, List.set_cons_zero, List.set_cons_succ]
                clear hL hno
                go_simp
                refine hK (updV V 96 (.slice (some ⟨gl, og, none⟩) fs.length cl)) _ _ (by simp [putAll, updV]) ?_
                exact { h with e0 := fun _ => rfl }
              · replace ho := Option.some.inj ho
                subst ho
                simp only [putAll, List.foldl_cons, List.foldl_nil, List.setIfInBounds_toArray, List.set_cons_zero, List.set_cons_succ]
                clear hL hno
                go_simp
                refine hK (updV V 97 (.int .i64 (k : Nat))) _ _ (by simp [putAll, updV]) ?_
                exact { h with e1 := fun _ => rfl }
              · replace ho := Option.some.inj ho
                subst ho
                simp only [putAll, List.foldl_cons, List.foldl_nil, List.setIfInBounds_toArray, List.set_cons_zero, List.set_cons_succ]
                have e0 : V 96 = _ := h.e0 (hL ⟨0, .data⟩ (by simp) rfl)
                have e1 : V 97 = _ := h.e1 (hL ⟨1, .data⟩ (by simp) rfl)
                clear hL hno
                go_simp
                refine hK (updV V 98 (.pointer (some ⟨gl, og + k, none⟩))) _ _ (by simp [putAll, updV, e0, e1]) ?_
                exact { h with e2 := fun _ => rfl }
              · replace ho := Option.some.inj ho
                subst ho
                simp only [putAll, List.foldl_cons, List.foldl_nil, List.setIfInBounds_toArray, List.set_cons_zero, List.set_cons_succ]
                have e2 : V 98 = _ := h.e2 (hL ⟨2, .data⟩ (by simp) rfl)
                have ct := (Below_cell h.p hglW XL.out)
                clear hL hno
                go_simp
                refine hK (updV V 99 (.int .i64 x)) _ _ (by simp [putAll, updV, e2]) ?_
                exact { h with e3 := fun _ => rfl }
              · replace ho := Option.some.inj ho
                subst ho
                have e3 : V 99 = _ := h.e3 (hL ⟨3, .data⟩ (by simp) rfl)
                have lT : L 11 = false := hno 11 (by kernel_rfl)
                have lS : L 13 = false := hno 13 (by kernel_rfl)
                clear hL hno
                simp only [putAll, List.foldl_cons, List.foldl_nil, List.setIfInBounds_toArray, List.set_cons_zero, List.set_cons_succ]
                go_simp
                refine (of_any x w1 (by assumption)).mono ?_
                intro e w3 hof
                refine Exists.elim hof fun zv hq => Exists.elim hq fun zn hq2 => ?_
                have he := hq2.1
                have hv := hq2.2.1
                have hn := hq2.2.2.1
                have hb3 := hq2.2.2.2
                clear hof hq hq2
                subst he
                refine hK (updV V 100 zv) _ _ (by simp [putAll, updV, e3]) ?_
                exact { h with
                  p := h.p.trans (hb3.mono h.p.size)
                  ox := fun _ _ => ⟨zn, hn, hv⟩
                  oy := fun h1 h2 => by obtain ⟨m, hm, hw⟩ := h.oy h1 h2; exact ⟨m, hm, hw.below hb3⟩
                  zt := fun hn => (by cases (hn.symm.trans lT))
                  zb := fun h1 h2 => by obtain ⟨g, q1, q2, q3⟩ := h.zb h1 h2; exact ⟨g, q1, q2, q3.kept hb3⟩
                  zf := fun hn => (by cases (hn.symm.trans lS)) }
              · replace ho := Option.some.inj ho
                subst ho
                simp only [putAll, List.foldl_cons, List.foldl_nil, List.setIfInBounds_toArray, List.set_cons_zero, List.set_cons_succ]
                clear hL hno
                go_simp
                refine hK (updV V 101 (.slice (some ⟨b, off, none⟩) fs.length c)) _ _ (by simp [putAll, updV]) ?_
                exact { h with e5 := fun _ => rfl }
              · replace ho := Option.some.inj ho
                subst ho
                simp only [putAll, List.foldl_cons, List.foldl_nil, List.setIfInBounds_toArray, List.set_cons_zero, List.set_cons_succ]
                clear hL hno
                go_simp
                refine hK (updV V 102 (.int .i64 (k : Nat))) _ _ (by simp [putAll, updV]) ?_
                exact { h with e6 := fun _ => rfl }
              · replace ho := Option.some.inj ho
                subst ho
                simp only [putAll, List.foldl_cons, List.foldl_nil, List.setIfInBounds_toArray, List.set_cons_zero, List.set_cons_succ]
                have e5 : V 101 = _ := h.e5 (hL ⟨5, .data⟩ (by simp) rfl)
                have e6 : V 102 = _ := h.e6 (hL ⟨6, .data⟩ (by simp) rfl)
                clear hL hno
                go_simp
                refine hK (updV V 103 (.pointer (some ⟨b, off + k * 2, none⟩))) _ _ (by simp [putAll, updV, e5, e6]) ?_
                exact { h with e7 := fun _ => rfl }
              · replace ho := Option.some.inj ho
                subst ho
                simp only [putAll, List.foldl_cons, List.foldl_nil, List.setIfInBounds_toArray, List.set_cons_zero, List.set_cons_succ]
                have e7 : V 103 = _ := h.e7 (hL ⟨7, .data⟩ (by simp) rfl)
                clear hL hno
                go_simp
                refine hK (updV V 104 (.pointer (some ⟨b, off + k * 2 + 1, none⟩))) _ _ (by simp [putAll, updV, e7]) ?_
                exact { h with e8 := fun _ => rfl }
              · replace ho := Option.some.inj ho
                subst ho
                simp only [putAll, List.foldl_cons, List.foldl_nil, List.setIfInBounds_toArray, List.set_cons_zero, List.set_cons_succ]
                have e8 : V 104 = _ := h.e8 (hL ⟨8, .data⟩ (by simp) rfl)
                have ct := (Below_cell h.p hbW XD.out)
                clear hL hno
                go_simp
                refine hK (updV V 105 (.int .i64 xd)) _ _ (by simp [putAll, updV, e8]) ?_
                exact { h with e9 := fun _ => rfl }
              · replace ho := Option.some.inj ho
                subst ho
                have e9 : V 105 = _ := h.e9 (hL ⟨9, .data⟩ (by simp) rfl)
                have lT : L 11 = false := hno 11 (by kernel_rfl)
                have lS : L 13 = false := hno 13 (by kernel_rfl)
                clear hL hno
                simp only [putAll, List.foldl_cons, List.foldl_nil, List.setIfInBounds_toArray, List.set_cons_zero, List.set_cons_succ]
                go_simp
                refine (of_any xd w1 (by assumption)).mono ?_
                intro e w3 hof
                refine Exists.elim hof fun zv hq => Exists.elim hq fun zn hq2 => ?_
                have he := hq2.1
                have hv := hq2.2.1
                have hn := hq2.2.2.1
                have hb3 := hq2.2.2.2
                clear hof hq hq2
                subst he
                refine hK (updV V 106 zv) _ _ (by simp [putAll, updV, e9]) ?_
                exact { h with
                  p := h.p.trans (hb3.mono h.p.size)
                  oy := fun _ _ => ⟨zn, hn, hv⟩
                  ox := fun h1 h2 => by obtain ⟨m, hm, hw⟩ := h.ox h1 h2; exact ⟨m, hm, hw.below hb3⟩
                  zt := fun hn => (by cases (hn.symm.trans lT))
                  zb := fun h1 h2 => by obtain ⟨g, q1, q2, q3⟩ := h.zb h1 h2; exact ⟨g, q1, q2, q3.kept hb3⟩
                  zf := fun hn => (by cases (hn.symm.trans lS)) }
              · replace ho := Option.some.inj ho
                subst ho
                have t1 : L 4 = true := hL ⟨4, .data⟩ (by simp) rfl
                have t2 : L 10 = true := hL ⟨10, .data⟩ (by simp) rfl
                have lT : L 11 = false := hi
                have lS : L 13 = false := hno 13 (by kernel_rfl)
                clear hL hno
                simp only [putAll, List.foldl_cons, List.foldl_nil, List.setIfInBounds_toArray, List.set_cons_zero, List.set_cons_succ]
                refine Exists.elim (h.ox t1 lT) fun zn hq => Exists.elim (h.oy t2 lT) fun zm hr => ?_
                have hn := hq.1
                have hv := hq.2
                have hm := hr.1
                have hw := hr.2
                clear hq hr
                go_simp
                refine (times_any (V 100) (V 106) x xd zn zm w1 hv hw (by omega) (by omega)).mono ?_
                intro e w3 hmk
                refine makes_elim hmk fun zs zA zc zk he hv3 hnew hb3 => ?_
                clear hmk
                subst he
                refine hK (updV V 107 (.agg #[.bool zs, .slice zA zk zc])) _ _ (by simp [putAll, updV]) ?_
                exact { h with
                  p := h.p.trans (hb3.mono h.p.size)
                  ox := fun _ hn => (by cases hn)
                  oy := fun _ hn => (by cases hn)
                  zt := fun _ _ => ⟨zs, zA, zc, zk, rfl, hv3, fun zg hA hg zu zu' => by
                    obtain ⟨g', q1, q2, q3⟩ := h.zb hA lS
                    have hgg : zg = g' := box_inj (hg.symm.trans q1)
                    subst hgg
                    exact hv3.stored (fun ad had => by have := hnew ad had; have := q3.lt; omega) zu zu'⟩
                  zb := fun h1 h2 => by obtain ⟨g, q1, q2, q3⟩ := h.zb h1 h2; exact ⟨g, q1, q2, q3.kept hb3⟩
                  zf := fun hn => (by cases (hn.symm.trans lS)) }
              · replace ho := Option.some.inj ho
                subst ho
                have lS : L 13 = false := hno 13 (by kernel_rfl)
                clear hL hno
                simp only [putAll, List.foldl_cons, List.foldl_nil, List.setIfInBounds_toArray, List.set_cons_zero, List.set_cons_succ]
                have hb := (Below.refl w1.heap.size w1).alloc (Nat.le_refl _) (.cells #[.bool false, .slice none 0 0] 48)
                have hnew := Blk.new w1 _ rfl 48 #[.bool false, .slice none 0 0]
                go_simp
                refine hK (updV V 11 (.pointer (some ⟨w1.heap.size, 0, none⟩))) _ _ (by simp [putAll, updV]) ?_
                exact { h with
                  p := h.p.trans (hb.mono h.p.size)
                  ox := fun h1 h2 => by obtain ⟨m, hm, hw⟩ := h.ox h1 h2; exact ⟨m, hm, hw.below hb⟩
                  oy := fun h1 h2 => by obtain ⟨m, hm, hw⟩ := h.oy h1 h2; exact ⟨m, hm, hw.below hb⟩
                  zt := fun h1 h2 => by
                    obtain ⟨s, A, c, k, q1, q2, _⟩ := h.zt h1 h2
                    refine ⟨s, A, c, k, q1, q2.below hb, fun g _ hg u u' => ?_⟩
                    have hgg : w1.heap.size = g := box_inj hg
                    subst hgg
                    exact q2.below ((hb.setCell (Nat.le_refl _) u).setCell (Nat.le_refl _) u')
                  zb := fun _ _ => ⟨_, rfl, h.p.size, hnew⟩
                  zf := fun hn => (by cases (hn.symm.trans lS)) }
              · replace ho := Option.some.inj ho
                subst ho
                have t1 : L 11 = true := hL ⟨11, .data⟩ (by simp) rfl
                have t2 : L 12 = true := hL ⟨12, .data⟩ (by simp) rfl
                have t3 : L 13 = false := hi
                clear hL hno
                simp only [putAll, List.foldl_cons, List.foldl_nil, List.setIfInBounds_toArray, List.set_cons_zero, List.set_cons_succ]
                refine Exists.elim (h.zb t2 t3) fun zg hq => ?_
                have q1 := hq.1
                have q2 := hq.2.1
                have q3 := hq.2.2
                clear hq
                refine Exists.elim (h.zt t1 t3) fun zs hs => Exists.elim hs fun zA ha => Exists.elim ha fun zc hc => Exists.elim hc fun zk hk => ?_
                have r1 := hk.1
                have r2 := hk.2.2 zg t2 q1 (.bool zs) (.slice zA zk zc)
                clear hs ha hc hk
                have f0 := q3.cell 0
                have f1 := q3.cell 1
                have z0 := q3.frozen 0
                have z1 := q3.frozen 1
                simp only [List.getElem?_toArray, List.getElem?_cons_zero, List.getElem?_cons_succ] at f0 f1
                have kb := (q3.set 0 (.bool zs)).set 1 (.slice zA zk zc)
                have bb := (h.p.setCell (p := ⟨zg, 0, none⟩) q2 (.bool zs)).setCell (p := ⟨zg, 1, none⟩) q2 (.slice zA zk zc)
                simp at kb
                clear q3
                go_simp
                refine hK V _ _ (by simp [putAll, q1, r1]) ?_
                exact { h with
                  p := bb
                  ox := fun _ hn => (by cases (hn.symm.trans t1))
                  oy := fun _ hn => (by cases (hn.symm.trans t1))
                  zt := fun _ hn => (by cases hn)
                  zb := fun _ hn => (by cases hn)
                  zf := fun _ => ⟨zg, zs, zA, zc, zk, q1, q2, kb, r2⟩ }
              · simp at ho
            · clear hIA
              intro L V W1 hL h
              have t1 : L 13 = true := hL 13 (by simp)
              refine Exists.elim (h.zf t1) fun gp hq1 => Exists.elim hq1 fun sp hq2 => Exists.elim hq2 fun Ap hq3 => Exists.elim hq3 fun cp hq4 => Exists.elim hq4 fun mp hq5 => ?_
              have q1 := hq5.1
              have hgp := hq5.2.1
              have kpB := hq5.2.2.1
              have hwp := hq5.2.2.2
              have bp1 := h.p
              clear t1 hq1 hq2 hq3 hq4 hq5
              simp only [putAll, List.foldl_cons, List.foldl_nil, List.setIfInBounds_toArray, List.set_cons_zero, List.set_cons_succ, q1]
              clear h hL q1
              generalize V 96 = v96
              generalize V 97 = v97
              generalize V 98 = v98
              generalize V 99 = v99
              generalize V 100 = v100
              generalize V 101 = v101
              generalize V 102 = v102
              generalize V 103 = v103
              generalize V 104 = v104
              generalize V 105 = v105
              generalize V 106 = v106
              generalize V 107 = v107
              have XN1 := Lib.hid ((bp1.cell (p := ⟨b, off + k * 2, none⟩) hbW).trans XN.out)
              have hbW1 : b < W1.heap.size := by have := bp1.size; omega
              have lp := kpB.lt
              have KP := Lib.hid kpB
              have HWP := Lib.hid hwp
              have BB1 := Lib.hid (HBB.out.trans (bp1.mono HBB.out.size))
              clear XL XN XD HBB kpB hwp bp1 hgp hbW hglW
              go_wp2_with fail
              have hIB : ∀ V, LsY W1 fs b off c k Kz xn (fun _ => false) V W1.drew := fun V => by
                have h0 : Below W1.heap.size W1 W1.drew := Drawn.below _ ((Drawn.refl W1).drewN 1)
                constructor
                all_goals first
                  | exact h0
                  | (intro h; cases h)
              refine wp_region_put3 [12, 108, 109, 110, 111, 112, 113, 114, 115, 116] (LsY W1 fs b off c k Kz xn) (by kernel_rfl) (by kernel_rfl) ?_ ?_ ?_
              · exact hIB _
              · intro i o ho L V w1 hi hL hno h K hK
                rcases i with _ | _ | _ | _ | _ | _ | _ | _ | _ | _ | _ | i
                · replace ho := Option.some.inj ho
                  subst ho
                  simp only [putAll, List.foldl_cons, List.foldl_nil, List.setIfInBounds_toArray, List.set_cons_zero, List.set_cons_succ]
                  clear hL hno
                  go_simp
                  refine hK (updV V 108 (.int .i64 (Kz : Nat))) _ _ (by simp [putAll, updV]) ?_
                  exact { h with e0 := fun _ => rfl }
                · replace ho := Option.some.inj ho
                  subst ho
                  have e0 : V 108 = _ := h.e0 (hL ⟨0, .data⟩ (by simp) rfl)
                  have lT : L 8 = false := hno 8 (by kernel_rfl)
                  have lS : L 10 = false := hno 10 (by kernel_rfl)
                  clear hL hno
                  simp only [putAll, List.foldl_cons, List.foldl_nil, List.setIfInBounds_toArray, List.set_cons_zero, List.set_cons_succ]
                  go_simp
                  refine (of_any (Kz : Int) w1 (by assumption)).mono ?_
                  intro e w3 hof
                  refine Exists.elim hof fun zv hq => Exists.elim hq fun zn hq2 => ?_
                  have he := hq2.1
                  have hv := hq2.2.1
                  have hn := hq2.2.2.1
                  have hb3 := hq2.2.2.2
                  clear hof hq hq2
                  subst he
                  refine hK (updV V 109 zv) _ _ (by simp [putAll, updV, e0]) ?_
                  exact { h with
                    p := h.p.trans (hb3.mono h.p.size)
                    ox := fun _ _ => ⟨zn, hn, hv⟩
                    oy := fun h1 h2 => by obtain ⟨m, hm, hw⟩ := h.oy h1 h2; exact ⟨m, hm, hw.below hb3⟩
                    zt := fun hn => (by cases (hn.symm.trans lT))
                    zb := fun h1 h2 => by obtain ⟨g, q1, q2, q3⟩ := h.zb h1 h2; exact ⟨g, q1, q2, q3.kept hb3⟩
                    zf := fun hn => (by cases (hn.symm.trans lS)) }
                · replace ho := Option.some.inj ho
                  subst ho
                  simp only [putAll, List.foldl_cons, List.foldl_nil, List.setIfInBounds_toArray, List.set_cons_zero, List.set_cons_succ]
                  clear hL hno
                  go_simp
                  refine hK (updV V 110 (.slice (some ⟨b, off, none⟩) fs.length c)) _ _ (by simp [putAll, updV]) ?_
                  exact { h with e2 := fun _ => rfl }
                · replace ho := Option.some.inj ho
                  subst ho
                  simp only [putAll, List.foldl_cons, List.foldl_nil, List.setIfInBounds_toArray, List.set_cons_zero, List.set_cons_succ]
                  clear hL hno
                  go_simp
                  refine hK (updV V 111 (.int .i64 (k : Nat))) _ _ (by simp [putAll, updV]) ?_
                  exact { h with e3 := fun _ => rfl }
                · replace ho := Option.some.inj ho
                  subst ho
                  simp only [putAll, List.foldl_cons, List.foldl_nil, List.setIfInBounds_toArray, List.set_cons_zero, List.set_cons_succ]
                  have e2 : V 110 = _ := h.e2 (hL ⟨2, .data⟩ (by simp) rfl)
                  have e3 : V 111 = _ := h.e3 (hL ⟨3, .data⟩ (by simp) rfl)
                  clear hL hno
                  go_simp
                  refine hK (updV V 112 (.pointer (some ⟨b, off + k * 2, none⟩))) _ _ (by simp [putAll, updV, e2, e3]) ?_
                  exact { h with e4 := fun _ => rfl }
                · replace ho := Option.some.inj ho
                  subst ho
                  simp only [putAll, List.foldl_cons, List.foldl_nil, List.setIfInBounds_toArray, List.set_cons_zero, List.set_cons_succ]
                  have e4 : V 112 = _ := h.e4 (hL ⟨4, .data⟩ (by simp) rfl)
                  clear hL hno
                  go_simp
                  refine hK (updV V 113 (.pointer (some ⟨b, off + k * 2, none⟩))) _ _ (by simp [putAll, updV, e4]) ?_
                  exact { h with e5 := fun _ => rfl }
                · replace ho := Option.some.inj ho
                  subst ho
                  simp only [putAll, List.foldl_cons, List.foldl_nil, List.setIfInBounds_toArray, List.set_cons_zero, List.set_cons_succ]
                  have e5 : V 113 = _ := h.e5 (hL ⟨5, .data⟩ (by simp) rfl)
                  have ct := (Below_cell h.p hbW1 XN1.out)
                  clear hL hno
                  go_simp
                  refine hK (updV V 114 (.int .i64 xn)) _ _ (by simp [putAll, updV, e5]) ?_
                  exact { h with e6 := fun _ => rfl }
                · replace ho := Option.some.inj ho
                  subst ho
                  have e6 : V 114 = _ := h.e6 (hL ⟨6, .data⟩ (by simp) rfl)
                  have lT : L 8 = false := hno 8 (by kernel_rfl)
                  have lS : L 10 = false := hno 10 (by kernel_rfl)
                  clear hL hno
                  simp only [putAll, List.foldl_cons, List.foldl_nil, List.setIfInBounds_toArray, List.set_cons_zero, List.set_cons_succ]
                  go_simp
                  refine (of_any xn w1 (by assumption)).mono ?_
                  intro e w3 hof
                  refine Exists.elim hof fun zv hq => Exists.elim hq fun zn hq2 => ?_
                  have he := hq2.1
                  have hv := hq2.2.1
                  have hn := hq2.2.2.1
                  have hb3 := hq2.2.2.2
                  clear hof hq hq2
                  subst he
                  refine hK (updV V 115 zv) _ _ (by simp [putAll, updV, e6]) ?_
                  exact { h with
                    p := h.p.trans (hb3.mono h.p.size)
                    oy := fun _ _ => ⟨zn, hn, hv⟩
                    ox := fun h1 h2 => by obtain ⟨m, hm, hw⟩ := h.ox h1 h2; exact ⟨m, hm, hw.below hb3⟩
                    zt := fun hn => (by cases (hn.symm.trans lT))
                    zb := fun h1 h2 => by obtain ⟨g, q1, q2, q3⟩ := h.zb h1 h2; exact ⟨g, q1, q2, q3.kept hb3⟩
                    zf := fun hn => (by cases (hn.symm.trans lS)) }
                · replace ho := Option.some.inj ho
                  subst ho
                  have t1 : L 1 = true := hL ⟨1, .data⟩ (by simp) rfl
                  have t2 : L 7 = true := hL ⟨7, .data⟩ (by simp) rfl
                  have lT : L 8 = false := hi
                  have lS : L 10 = false := hno 10 (by kernel_rfl)
                  clear hL hno
                  simp only [putAll, List.foldl_cons, List.foldl_nil, List.setIfInBounds_toArray, List.set_cons_zero, List.set_cons_succ]
                  refine Exists.elim (h.ox t1 lT) fun zn hq => Exists.elim (h.oy t2 lT) fun zm hr => ?_
                  have hn := hq.1
                  have hv := hq.2
                  have hm := hr.1
                  have hw := hr.2
                  clear hq hr
                  go_simp
                  refine (times_any (V 109) (V 115) (Kz : Int) xn zn zm w1 hv hw (by omega) (by omega)).mono ?_
                  intro e w3 hmk
                  refine makes_elim hmk fun zs zA zc zk he hv3 hnew hb3 => ?_
                  clear hmk
                  subst he
                  refine hK (updV V 116 (.agg #[.bool zs, .slice zA zk zc])) _ _ (by simp [putAll, updV]) ?_
                  exact { h with
                    p := h.p.trans (hb3.mono h.p.size)
                    ox := fun _ hn => (by cases hn)
                    oy := fun _ hn => (by cases hn)
                    zt := fun _ _ => ⟨zs, zA, zc, zk, rfl, hv3, fun zg hA hg zu zu' => by
                      obtain ⟨g', q1, q2, q3⟩ := h.zb hA lS
                      have hgg : zg = g' := box_inj (hg.symm.trans q1)
                      subst hgg
                      exact hv3.stored (fun ad had => by have := hnew ad had; have := q3.lt; omega) zu zu'⟩
                    zb := fun h1 h2 => by obtain ⟨g, q1, q2, q3⟩ := h.zb h1 h2; exact ⟨g, q1, q2, q3.kept hb3⟩
                    zf := fun hn => (by cases (hn.symm.trans lS)) }
                · replace ho := Option.some.inj ho
                  subst ho
                  have lS : L 10 = false := hno 10 (by kernel_rfl)
                  clear hL hno
                  simp only [putAll, List.foldl_cons, List.foldl_nil, List.setIfInBounds_toArray, List.set_cons_zero, List.set_cons_succ]
                  have hb := (Below.refl w1.heap.size w1).alloc (Nat.le_refl _) (.cells #[.bool false, .slice none 0 0] 48)
                  have hnew := Blk.new w1 _ rfl 48 #[.bool false, .slice none 0 0]
                  go_simp
                  refine hK (updV V 12 (.pointer (some ⟨w1.heap.size, 0, none⟩))) _ _ (by simp [putAll, updV]) ?_
                  exact { h with
                    p := h.p.trans (hb.mono h.p.size)
                    ox := fun h1 h2 => by obtain ⟨m, hm, hw⟩ := h.ox h1 h2; exact ⟨m, hm, hw.below hb⟩
                    oy := fun h1 h2 => by obtain ⟨m, hm, hw⟩ := h.oy h1 h2; exact ⟨m, hm, hw.below hb⟩
                    zt := fun h1 h2 => by
                      obtain ⟨s, A, c, k, q1, q2, _⟩ := h.zt h1 h2
                      refine ⟨s, A, c, k, q1, q2.below hb, fun g _ hg u u' => ?_⟩
                      have hgg : w1.heap.size = g := box_inj hg
                      subst hgg
                      exact q2.below ((hb.setCell (Nat.le_refl _) u).setCell (Nat.le_refl _) u')
                    zb := fun _ _ => ⟨_, rfl, h.p.size, hnew⟩
                    zf := fun hn => (by cases (hn.symm.trans lS)) }
                · replace ho := Option.some.inj ho
                  subst ho
                  have t1 : L 8 = true := hL ⟨8, .data⟩ (by simp) rfl
                  have t2 : L 9 = true := hL ⟨9, .data⟩ (by simp) rfl
                  have t3 : L 10 = false := hi
                  clear hL hno
                  simp only [putAll, List.foldl_cons, List.foldl_nil, List.setIfInBounds_toArray, List.set_cons_zero, List.set_cons_succ]
                  refine Exists.elim (h.zb t2 t3) fun zg hq => ?_
                  have q1 := hq.1
                  have q2 := hq.2.1
                  have q3 := hq.2.2
                  clear hq
                  refine Exists.elim (h.zt t1 t3) fun zs hs => Exists.elim hs fun zA ha => Exists.elim ha fun zc hc => Exists.elim hc fun zk hk => ?_
                  have r1 := hk.1
                  have r2 := hk.2.2 zg t2 q1 (.bool zs) (.slice zA zk zc)
                  clear hs ha hc hk
                  have f0 := q3.cell 0
                  have f1 := q3.cell 1
                  have z0 := q3.frozen 0
                  have z1 := q3.frozen 1
                  simp only [List.getElem?_toArray, List.getElem?_cons_zero, List.getElem?_cons_succ] at f0 f1
                  have kb := (q3.set 0 (.bool zs)).set 1 (.slice zA zk zc)
                  have bb := (h.p.setCell (p := ⟨zg, 0, none⟩) q2 (.bool zs)).setCell (p := ⟨zg, 1, none⟩) q2 (.slice zA zk zc)
                  simp at kb
                  clear q3
                  go_simp
                  refine hK V _ _ (by simp [putAll, q1, r1]) ?_
                  exact { h with
                    p := bb
                    ox := fun _ hn => (by cases (hn.symm.trans t1))
                    oy := fun _ hn => (by cases (hn.symm.trans t1))
                    zt := fun _ hn => (by cases hn)
                    zb := fun _ hn => (by cases hn)
                    zf := fun _ => ⟨zg, zs, zA, zc, zk, q1, q2, kb, r2⟩ }
                · simp at ho
              · clear hIB
                intro L V W3 hL h
                have t1 : L 10 = true := hL 10 (by simp)
                refine Exists.elim (h.zf t1) fun gq hq1 => Exists.elim hq1 fun sq hq2 => Exists.elim hq2 fun Aq hq3 => Exists.elim hq3 fun cq hq4 => Exists.elim hq4 fun mq hq5 => ?_
                have q1 := hq5.1
                have hgq := hq5.2.1
                have kqB := hq5.2.2.1
                have hwq := hq5.2.2.2
                have bp2 := h.p
                clear t1 hq1 hq2 hq3 hq4 hq5
                simp only [putAll, List.foldl_cons, List.foldl_nil, List.setIfInBounds_toArray, List.set_cons_zero, List.set_cons_succ, q1]
                clear h hL q1
                generalize V 108 = v108
                generalize V 109 = v109
                generalize V 110 = v110
                generalize V 111 = v111
                generalize V 112 = v112
                generalize V 113 = v113
                generalize V 114 = v114
                generalize V 115 = v115
                generalize V 116 = v116
                have kp2 := KP.out.low bp2 lp
                have hwp2 := HWP.out.below bp2
                have b3 := BB1.out.trans (bp2.mono BB1.out.size)
                have c0 := kp2.cell 0
                have c1 := kp2.cell 1
                have c2 := kqB.cell 0
                have c3 := kqB.cell 1
                simp only [List.getElem?_toArray, List.getElem?_cons_zero, List.getElem?_cons_succ] at c0 c1 c2 c3
                have hcm := cmp_any _ _ _ _ _ _ W3 hwp2 hwq
                rw [cmpI_eq Hxe.out] at hcm
                have Hcm := Lib.hid hcm
                have B3 := Lib.hid b3
                clear KP HWP BB1 kp2 hwp2 kqB hwq bp2 hgq b3 hcm XN1
                go_wp2_with fail
                refine Hcm.out.mono ?_
                rintro e w5 ⟨rfl, hb5⟩
                go_wp2_with fail
                go_roundw
                case rel => exact ⟨k + 1, by omega, by go_num, B3.out.trans (hb5.mono B3.out.size)⟩
                case measure => simp [intOf]; omega
          · have b3 := BB.out.trans (hb.mono BB.out.size)
            go_wp2_with fail
            refine (awake_any _).mono ?_
            rintro e w4 ⟨rfl, hb4⟩
            go_wp2_with fail
            go_ret
            exact ⟨rfl, b3.trans (hb4.mono b3.size)⟩
theorem leastLaw_any (fs : List Fr) (A : Option Addr) (l c : Nat) (m : Int) (w : World) (hl : fs.length = l) (lc : l ≤ c) (hx : ∀ a ∈ fs, a.fit) (hr : Rd w w.heap.size A (cellsF fs)) (hz : c * 16 ≤ 140737488351232) (_hm : fits m) : Calls Try.prog 13 #[.slice A l c, .int .i64 m] w fun e w' => e = .returned (.bool true) ∧ Below w.heap.size w w' := by
  cases hv : fs.all Fr.valid with
  | false => exact least_bad fs A l c m w hl lc hx hr hz _hm hv
  | true =>
    have hall : ∀ f ∈ fs, f.valid = true := fun f hf => List.all_eq_true.1 hv f hf
    cases h2 : ((lcmF fs).2 && scAll (lcmF fs).1 fs) with
    | false => exact least_big fs A l c m w hl lc hx hr hz _hm hall (scaleR_big hv h2)
    | true =>
      have e0 := scaleR_ok hv h2
      rw [Bool.and_eq_true] at h2
      obtain ⟨Kz, hK, h0, h1⟩ := lcmF_nat hall h2.1
      rw [hK] at e0
      exact least_ok fs A l c m w hl lc hx hr hz _hm hall Kz h0 h1 hK e0
end Go.Proofs.Ytfielhbepnkekaa
