/-
  The references' whole numbers: the walk of Times.
-/
import Derived.Test.YtkheoaleamolcaaDoorWi
import Derived.BigRegion
namespace Go.Proofs.YtkheoaleamolcaaDoor
open Go.RowKit
attribute [local go_sem ↓] Go.wp_at_zero Go.wp_at_succ

set_option maxRecDepth 100000 in
set_option maxHeartbeats 4000000 in
theorem times_walk (s s' : Bool) (A A' : Option Addr) (la lb c c' : Nat) (a b : List Int) (w : World) (hn : a.length = la) (hn' : b.length = lb) (ha : Norm a) (hb : Norm b) (hr : Rd w w.heap.size A (cellsI a)) (hr' : Rd w w.heap.size A' (cellsI b)) (ha0 : 0 < la) (hb0 : 0 < lb) (z : Int) (Hz : Hid (z = if s = s' then val a * val b else -(val a * val b)))
    (hl : la ≤ 549755813888) (hl' : lb ≤ 549755813888) :
    Calls Tryd.prog 28 #[.agg #[.bool s, .slice A la c], .agg #[.bool s', .slice A' lb c']] w (Makes w z) := by
  subst hn hn'
  obtain ⟨i0, hi, hz0, hz1, hz2⟩ := info_parts info_int
  have hb3 : ∀ o o' o'', Below w.heap.size w (((w.alloc o).alloc o').alloc o'') := fun o o' o'' => (((Below.refl _ _).alloc (Nat.le_refl _) _).alloc (by simp) _).alloc (by simp; omega) _
  have e1 : ((a.length : Int) == 0) = false := beq_eq_false_iff_ne.2 (by omega)
  have e2 : ((b.length : Int) == 0) = false := beq_eq_false_iff_ne.2 (by omega)
  go_enter Tryd.func28, Tryd.ntmps28
  go_wp2_with (at_make; refine wpList_make_full _ rfl _ _ 26 rfl (w.heap.size + 1 + 1 + 1) 3 i0 (.int .i64 0) 1 Tryd.underlying26 hi hz0 hz1 _ _ _ _ (a.length + b.length) rfl rfl (by omega) (by omega) (by rw [hz2]; omega) (by unfold maxLen; omega) (by simp) ?_)
  intro w1 hown hg
  have hmade : (madeCells #[Value.int .i64 0] (a.length + b.length)).toList = cellsI (List.replicate (a.length + b.length) 0) := by
    have := madeCells_int (a.length + b.length)
    simpa [Value.cells] using this
  rw [hmade] at hown
  have hbw1 : Below w.heap.size w w1 := (hb3 _ _ _).grown hg (by simp; omega) (fun k hk => by cases hk)
  have k0 : Blk w1 w.heap.size 55 #[.bool s, .slice A a.length c] := Blk.grown (((Blk.new w _ rfl _ _).alloc _).alloc _) hg (by simp)
  have k1 : Blk w1 (w.heap.size + 1) 55 #[.bool s', .slice A' b.length c'] := Blk.grown ((Blk.new _ _ (by simp) _ _).alloc _) hg (by simp)
  have k2 : Blk w1 (w.heap.size + 1 + 1) 55 #[.bool false, .slice none 0 0] := Blk.grown (Blk.new _ _ (by simp) _ _) hg (by simp)
  clear hg hmade e1 e2 hb3
  go_wp2
  go_loopw [6] (fun iv wr => ∃ (i : Nat) (out : List Int), i ≤ a.length ∧ iv = .int .i64 i ∧ out.length = a.length + b.length ∧ Dig out ∧ wr.ownsRow (w.heap.size + 1 + 1 + 1) 3 1 (.slice (some ⟨w.heap.size + 1 + 1 + 1, 0, none⟩) (a.length + b.length) (a.length + b.length)) (a.length + b.length) (cellsI out) ∧
      Hid (mulOn a (List.replicate (a.length + b.length) 0) b = out.take i ++ mulOn (a.drop i) (out.drop i) b) ∧ Hid (∀ j, i + b.length ≤ j → ∀ d, out[j]? = some d → d = 0) ∧
      Below w.heap.size w wr ∧ Blk wr w.heap.size 55 #[.bool s, .slice A a.length c] ∧ Blk wr (w.heap.size + 1) 55 #[.bool s', .slice A' b.length c'] ∧ Blk wr (w.heap.size + 1 + 1) 55 #[.bool false, .slice none 0 0]) (fun iv _ => a.length - (intOf iv).toNat)
  case atStart => exact ⟨0, List.replicate (a.length + b.length) 0, by omega, rfl, by simp, fun x hx => by (have := List.eq_of_mem_replicate hx; omega), hown, rfl, fun j _ d hd => by (exact List.eq_of_mem_replicate (List.mem_of_getElem? hd)), hbw1, k0, k1, k2⟩
  case round =>
    clear hown k0 k1 k2 hbw1
    obtain ⟨i, out, hik, rfl, hol, hod, hown, Ho, Hzr, hbw, k0, k1, k2⟩ := hrel
    have c01 := k0.cell 1
    have c11 := k1.cell 1
    simp at c01 c11
    by_cases hia : i < a.length
    · obtain ⟨ba, oa, x, rfl, hbl, hxk, hck, hdk, hxx⟩ := (hr.below hbw (Nat.le_refl _)).at_ ha.1.fits hia
      have hxd := ha.1 x (List.mem_of_getElem? hxx.out)
      obtain ⟨wo, rfl⟩ : ∃ wo : World, wo = wr := ⟨_, rfl⟩
      go_wp2
      go_loopw [7, 8] (fun cv kv wi => ∃ (k : Nat) (cr : Int) (o2 : List Int), k ≤ b.length ∧ kv = .int .i64 k ∧ cv = .int .i64 cr ∧ 0 ≤ cr ∧ cr < 1073741824 ∧ o2.length = a.length + b.length ∧ Dig o2 ∧ wi.ownsRow (w.heap.size + 1 + 1 + 1) 3 1 (.slice (some ⟨w.heap.size + 1 + 1 + 1, 0, none⟩) (a.length + b.length) (a.length + b.length)) (a.length + b.length) (cellsI o2) ∧
          Hid (row x 0 (out.drop i) b = (o2.drop i).take k ++ row x cr (o2.drop (i + k)) (b.drop k)) ∧ Hid (o2.take i = out.take i) ∧ Hid (∀ j, i + b.length ≤ j → ∀ d, o2[j]? = some d → d = 0) ∧
          Below w.heap.size w wi ∧ Blk wi w.heap.size 55 #[.bool s, .slice (some ⟨ba, oa, none⟩) a.length c] ∧ Blk wi (w.heap.size + 1) 55 #[.bool s', .slice A' b.length c'] ∧ Blk wi (w.heap.size + 1 + 1) 55 #[.bool false, .slice none 0 0]) (fun _ kv _ => b.length - (intOf kv).toNat)
      case atStart => exact ⟨0, 0, out, by omega, rfl, rfl, by omega, by omega, hol, hod, hown, rfl, rfl, Hzr, hbw, k0, k1, k2⟩
      case round =>
        clear hown k0 k1 k2 hbw c01 c11 hck
        obtain ⟨k, cr, o2, hkb, rfl, rfl, hc0, hc1, ho2, hod2, hown, Hrow, Htk, Hz2, hbw, k0, k1, k2⟩ := hrel
        have c01 := k0.cell 1
        have c11 := k1.cell 1
        simp at c01 c11
        by_cases hkl : k < b.length
        · obtain ⟨bb, ob, y, rfl, hbl', hyk, hck', hdk', hyy⟩ := (hr'.below hbw (Nat.le_refl _)).at_ hb.1.fits hkl
          obtain ⟨ba2, oa2, x2, hA2, hbl2, hxk2, hck2, hdk2, hxx2⟩ := (hr.below hbw (Nat.le_refl _)).at_ ha.1.fits hia
          injection hA2 with hA2
          injection hA2 with hA3 hA4
          subst hA3 hA4
          obtain rfl : x2 = x := by have h := hxx2.out; rw [hxx.out] at h; exact (Option.some.inj h).symm
          have hyd := hb.1 y (List.mem_of_getElem? hyy.out)
          have hik2 : i + k < o2.length := by omega
          obtain ⟨o, hoo⟩ : ∃ o, o2[i + k]? = some o := ⟨_, List.getElem?_eq_getElem hik2⟩
          have hod0 := hod2 o (List.mem_of_getElem? hoo)
          have hco := hown.cellAt (i + k) (by omega)
          rw [show (cellsI o2)[i + k]? = some (.int .i64 o) by simp [cellsI, hoo]] at hco
          obtain ⟨p, hp⟩ : ∃ p, x2 * y = p := ⟨_, rfl⟩
          have hpb := prod_bound hxd hyd
          rw [hp] at hpb
          have hdo : o2.drop (i + k) = o :: o2.drop (i + k + 1) := by
            rw [List.drop_eq_getElem_cons hik2]
            congr 1
            rw [List.getElem?_eq_getElem hik2] at hoo
            exact Option.some.inj hoo
          have hst := Hrow.out
          rw [hdo, hdk'.out, row_step hp] at hst
          have Hst := Lib.hid hst
          have i1 : (0 : Int) ≤ (i : Int) := by omega
          have i2 : (i : Int) < (a.length : Int) := by omega
          have i3 : (0 : Int) ≤ (k : Int) := by omega
          have i4 : (k : Int) < (b.length : Int) := by omega
          have i5 : (0 : Int) ≤ (i : Int) + (k : Int) := by omega
          have i6 : (i : Int) + (k : Int) < ((a.length + b.length : Nat) : Int) := by omega
          have i7 : ((i : Int) + (k : Int)).toNat = i + k := by omega
          clear hst hdo hoo hdk2 hxx2 hdk' hyy
          go_wp2
          have w1 : IntKind.i64.wrap ((i : Int) + (k : Int)) = (i : Int) + (k : Int) := IntWalk.i64_in _ (by omega)
          have w2 : IntKind.i64.wrap p = p := IntWalk.i64_in _ (by omega)
          have w3 : IntKind.i64.wrap (o + p) = o + p := IntWalk.i64_in _ (by omega)
          have w4 : IntKind.i64.wrap (o + p + cr) = o + p + cr := IntWalk.i64_in _ (by omega)
          go_quiet (fail)
          clear w1 w2 w3 w4
          have fro := hown.frozenAt (i + k)
          obtain ⟨dg, hdg⟩ : ∃ dg, (o + p + cr) % 1073741824 = dg := ⟨_, rfl⟩
          have hdgb : 0 ≤ dg ∧ dg < 1073741824 := by omega
          have hst2 := (hown.stored (i + k) (.int .i64 dg)).1
          rw [cellsI_set] at hst2
          have n0 := k0.far (p := ⟨w.heap.size + 1 + 1 + 1, i + k, none⟩) (by simp; try omega) (.int .i64 dg)
          have n1 := k1.far (p := ⟨w.heap.size + 1 + 1 + 1, i + k, none⟩) (by simp; try omega) (.int .i64 dg)
          have n2 := k2.far (p := ⟨w.heap.size + 1 + 1 + 1, i + k, none⟩) (by simp) (.int .i64 dg)
          have nb := hbw.setCell (p := ⟨w.heap.size + 1 + 1 + 1, i + k, none⟩) (by simp; try omega) (.int .i64 dg)
          have Hrow2 : Hid (row x2 0 (out.drop i) b = ((o2.set (i + k) dg).drop i).take (k + 1) ++ row x2 ((o + p + cr) / 1073741824) ((o2.set (i + k) dg).drop (i + (k + 1))) (b.drop (k + 1))) := by
            unfold Hid
            rw [drop_take_set _ _ _ _ hik2, ← Nat.add_assoc, drop_set_next, Hst.out, hdg, List.append_assoc]; rfl
          have Htk2 : Hid ((o2.set (i + k) dg).take i = out.take i) := by unfold Hid; rw [take_set_le _ _ (by omega)]; exact Htk.out
          have Hz3 : Hid (∀ j, i + b.length ≤ j → ∀ d, (o2.set (i + k) dg)[j]? = some d → d = 0) := by
            intro j hj d hd
            rw [List.getElem?_set_ne (by omega)] at hd
            exact Hz2.out j hj d hd
          have hod3 : Dig (o2.set (i + k) dg) := hod2.set _ hdgb
          clear hown Hst Htk Hz2 Hrow hod2 hbw k0 k1 k2
          go_wp2
          go_roundw
          case rel => exact ⟨k + 1, (o + p + cr) / 1073741824, o2.set (i + k) dg, by omega, by go_num, by go_num, by omega, by omega, by simp [ho2], hod3, hst2, Hrow2, Htk2, Hz3, below_drewN nb _, n0, n1, n2⟩
          case measure => simp [intOf]; omega
        · obtain rfl : k = b.length := by omega
          have hil : i + b.length < o2.length := by omega
          obtain ⟨o, hoo⟩ : ∃ o, o2[i + b.length]? = some o := ⟨_, List.getElem?_eq_getElem hil⟩
          obtain rfl : o = 0 := Hz2.out _ (Nat.le_refl _) o hoo
          have hco := hown.cellAt (i + b.length) (by omega)
          rw [show (cellsI o2)[i + b.length]? = some (.int .i64 0) by simp [cellsI, hoo]] at hco
          have fro := hown.frozenAt (i + b.length)
          have hst2 := (hown.stored (i + b.length) (.int .i64 cr)).1
          rw [cellsI_set] at hst2
          have n0 := k0.far (p := ⟨w.heap.size + 1 + 1 + 1, i + b.length, none⟩) (by simp; try omega) (.int .i64 cr)
          have n1 := k1.far (p := ⟨w.heap.size + 1 + 1 + 1, i + b.length, none⟩) (by simp; try omega) (.int .i64 cr)
          have n2 := k2.far (p := ⟨w.heap.size + 1 + 1 + 1, i + b.length, none⟩) (by simp; try omega) (.int .i64 cr)
          have nb := hbw.setCell (p := ⟨w.heap.size + 1 + 1 + 1, i + b.length, none⟩) (by simp; try omega) (.int .i64 cr)
          have hod3 : Dig (o2.set (i + b.length) cr) := hod2.set _ ⟨hc0, hc1⟩
          have hrow3 : row x 0 (out.drop i) b = (o2.set (i + b.length) cr).drop i := by
            rw [Hrow.out, List.drop_eq_nil_of_le (Nat.le_refl b.length), List.drop_eq_getElem_cons hil]
            rw [List.getElem?_eq_getElem hil] at hoo
            rw [Option.some.inj hoo, row, Int.zero_add]
            have e1 := drop_take_set o2 i b.length cr hil
            have e2 : (o2.set (i + b.length) cr).drop i = ((o2.set (i + b.length) cr).drop i).take (b.length + 1) ++ ((o2.set (i + b.length) cr).drop i).drop (b.length + 1) := (List.take_append_drop _ _).symm
            rw [e2, e1, List.drop_drop, ← Nat.add_assoc, drop_set_next, List.append_assoc]
            rfl
          have Ho2 := Lib.hid (mul_step Ho.out hdk.out (by simp; omega : i < (o2.set (i + b.length) cr).length) (by rw [take_set_le _ _ (by omega)]; exact Htk.out) hrow3)
          have Hz3 : Hid (∀ j, i + 1 + b.length ≤ j → ∀ d, (o2.set (i + b.length) cr)[j]? = some d → d = 0) := by
            intro j hj d hd
            rw [List.getElem?_set_ne (by omega)] at hd
            exact Hz2.out j (by omega) d hd
          have i1 : (0 : Int) ≤ (i : Int) := by omega
          have i5 : (0 : Int) ≤ (i : Int) + (b.length : Int) := by omega
          have i6 : (i : Int) + (b.length : Int) < ((a.length + b.length : Nat) : Int) := by omega
          have i7 : ((i : Int) + (b.length : Int)).toNat = i + b.length := by omega
          have ho3 : (o2.set (i + b.length) cr).length = a.length + b.length := by simp [ho2]
          clear hown hoo Htk Hz2 Hrow hod2 hbw k0 k1 k2 hrow3 hdk hxx Ho
          go_wp2
          have w1 : IntKind.i64.wrap ((i : Int) + (b.length : Int)) = (i : Int) + (b.length : Int) := IntWalk.i64_in _ (by omega)
          have w4 : IntKind.i64.wrap cr = cr := IntWalk.i64_in _ (by omega)
          go_region
          clear w1 w4
          go_wp2
          go_roundw
          case rel => exact ⟨i + 1, o2.set (i + b.length) cr, by omega, by go_num, ho3, hod3, hst2, Ho2, Hz3, nb.drew, n0, n1, n2⟩
          case measure => simp [intOf]; omega
    · obtain rfl : i = a.length := by omega
      have hout : mulOn a (List.replicate (a.length + b.length) 0) b = out := by
        rw [Ho.out, List.drop_eq_nil_of_le (Nat.le_refl a.length), mulOn, List.take_append_drop]
      have hval : val out = val a * val b := by
        rw [← hout, mulOn_val a _ b (by simp), val_zeros]; omega
      have Hval := Lib.hid hval
      have hro := rd_of_own hown
      have hrod : Rd wr.drew wr.heap.size (some ⟨w.heap.size + 1 + 1 + 1, 0, none⟩) (cellsI out) := hro
      have c00 := k0.cell 0
      have c10 := k1.cell 0
      have c20 := k2.cell 0
      have c21 := k2.cell 1
      have f20 := k2.frozen 0
      have f21 := k2.frozen 1
      simp at c00 c10 c20 c21
      clear hout hval Ho Hzr
      go_wp2
      go_region_held3 (fun w' => w'.cell? ⟨w.heap.size, 0, none⟩ = some (.bool s) ∧ w'.cell? ⟨w.heap.size + 1, 0, none⟩ = some (.bool s')) (first | exact ⟨by assumption, by assumption⟩ | (refine ⟨?_, ?_⟩ <;> (show World.cell? (World.setCell (World.setCell wr _ _) _ _) _ = _; rw [World.cell?_setCell_other _ _ _ _ (by intro e; injection e with e; omega), World.cell?_setCell_other _ _ _ _ (by intro e; injection e with e; omega)]; assumption)) | go_keep) (first | (go_at_call 38; refine (trim_any out _ (a.length + b.length) (a.length + b.length) _ _ hol (Nat.le_refl _) hod hrod (by unfold maxLen; omega)).mono ?_; rintro e w' ⟨k', hk', rfl, hnorm, hvt, rfl⟩))
      obtain ⟨q, hq⟩ : ∃ q, q = (!(s == s')) := ⟨_, rfl⟩
      have Hq := Lib.hid hq
      have hap := val_pos ha (by intro h0; rw [h0] at ha0; simp at ha0)
      have hbp := val_pos hb (by intro h0; rw [h0] at hb0; simp at hb0)
      have hpp := Int.mul_pos hap hbp
      have hwis : WIs wr.drew (.agg #[.bool q, .slice (some ⟨w.heap.size + 1 + 1 + 1, 0, none⟩) k' (a.length + b.length)]) z k' := by
        refine ⟨q, _, _, out.take k', rfl, by rw [List.length_take]; omega, hk', by unfold maxLen; omega, hnorm, hrod.take k', ?_, fun h0 h1 => ?_⟩
        · rw [hvt, Hval.out, Hz.out, hq]
          cases s <;> cases s' <;> rfl
        · rw [h1] at hvt
          have := Hval.out
          simp only [val] at hvt
          omega
      have Hm := makes_stored (g := w.heap.size + 1 + 1) (w := w) hwis (fun ad h => by injection h with h; subst h; simp) (by omega) hbw.drew
      have hbx := box_written k2 (.bool q) (.slice (some ⟨w.heap.size + 1 + 1 + 1, 0, none⟩) k' (a.length + b.length))
      have d0 := hbx.cell 0
      have d1 := hbx.cell 1
      simp at d0 d1
      rw [← hq]
      clear hq hwis hnorm hvt c00 c10 c20 c21 f20 f21 k0 k1 k2 hbx hro hrod hown
      go_wp2
      refine bodyPost_ret (v := .agg #[.bool q, .slice (some ⟨w.heap.size + 1 + 1 + 1, 0, none⟩) k' (a.length + b.length)]) ?_ rfl Hm
      simp [results, Tryd.results28, go_sem, d0, d1]
end Go.Proofs.YtkheoaleamolcaaDoor
