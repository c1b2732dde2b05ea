/-
  The reference's Scale.
-/
import Derived.Test.YtfielhbepnkekaaKh
import Derived.Test.YtfielhbepnkekaaKj
namespace Go.Proofs.Ytfielhbepnkekaa
open Go.RowKit

/-- the least common multiple, where it fits -/
theorem lcmF_nat {fs : List Fr} (h : ∀ f ∈ fs, f.valid = true) (h2 : (lcmF fs).2 = true) : ∃ m : Nat, lcmF fs = ((m : Int), true) ∧ 0 < m ∧ m ≤ 9223372036854775807 := by
  have hz := zeroF_dens h
  have e := lcmGo_true (fs.map Fr.d) 1 (by omega) (by decide) hz
  unfold lcmF at h2 ⊢
  rw [e] at h2 ⊢
  simp only at h2
  have hf := okB_iff.1 h2
  refine ⟨lcmFold 1 (fs.map Fr.d), ?_, lcmFold_pos _ 1 (by omega) hz, by unfold fits at hf; omega⟩
  rw [h2]
  unfold fits at hf
  unfold okOf
  rw [if_pos hf]
theorem fit_dens {fs : List Fr} (h : ∀ a ∈ fs, a.fit) : AllFit (fs.map Fr.d) := fun x hx => by
  obtain ⟨f, hf, rfl⟩ := List.mem_map.1 hx
  exact (h f hf).2

set_option maxRecDepth 100000 in
set_option maxHeartbeats 2000000 in
theorem refScale_any (fs : List Fr) (A : Option Addr) (l c : Nat) (w : World) (hl : fs.length = l) (hx : ∀ a ∈ fs, a.fit) (hr : Rd w w.heap.size A (cellsF fs)) (hm : l ≤ 8796093022208) :
    Calls Try.prog 29 #[.slice A l c] w (ScalePost w fs) := by
  subst hl
  obtain ⟨ii, hii, hz0, hz1, hz2⟩ := info_parts info_int
  have rc := refAll_any fs A fs.length c w rfl hx hr (by unfold maxLen; omega)
  cases hv : fs.all Fr.valid with
  | false =>
    have He := Lib.hid (scaleR_bad hv)
    rw [hv] at rc
    have Rc := Lib.hid rc
    clear rc hv
    go_enter Try.func29, Try.ntmps29
    go_wp2_with fail
    refine (Rc.out).mono ?_
    rintro e w2 ⟨rfl, hb2⟩
    go_wp2_with fail
    refine bodyPost_ret (v := .tuple #[.int .i64 0, .slice none 0 0, .int .i64 1]) (by simp [results, Try.results29, go_sem]) rfl ?_
    exact ScalePost.of He.out (own_none _ _) hb2
  | true =>
    have Hv := Lib.hid hv
    have Hall : Hid (∀ f ∈ fs, f.valid = true) := fun f hf => List.all_eq_true.1 hv f hf
    rw [hv] at rc
    have Rc := Lib.hid rc
    clear rc hv
    go_enter Try.func29, Try.ntmps29
    go_wp2_with fail
    refine (Rc.out).mono ?_
    rintro e w2 ⟨rfl, hb2⟩
    have HB2 := Lib.hid hb2
    clear Rc hb2
    go_wp2_with fail
    go_loopw [5, 6] (fun dv i wr => ∃ k : Nat, k ≤ fs.length ∧ i = .int .i64 k ∧ wr.ownsRow w.heap.size 3 1 dv k (cellsI ((fs.take k).map Fr.d)) ∧ Below w.heap.size w wr) (fun _ i _ => fs.length - (intOf i).toNat)
    case atStart => exact ⟨0, Nat.zero_le _, rfl, World.ownsRow_nil _ _ _ _, HB2.out⟩
    case round =>
      obtain ⟨k, hk, rfl, hown, hb⟩ := hrel
      by_cases hlt : k < fs.length
      · obtain ⟨b, off, ⟨xn, xd⟩, rfl, hbl, hfx, c0, c1, hd, hxx⟩ := (hr.below hb (Nat.le_refl _)).fr hx hlt
        simp only at c0 c1
        have hsn : (fs.take (k + 1)).map Fr.d = (fs.take k).map Fr.d ++ [xd] := by rw [List.take_add_one, hxx.out, List.map_append]; rfl
        have Hsn := Lib.hid hsn
        have hrl := hown.lt
        obtain ⟨acc, hacc⟩ : ∃ acc, (fs.take k).map Fr.d = acc := ⟨_, rfl⟩
        rw [hacc] at hown Hsn
        clear hsn hd hxx hacc hfx
        go_wp2_with (at_builtin; refine wpList_append_own _ rfl _ _ 40 rfl w.heap.size 3 ii (.int .i64 0) 1 8 Try.underlying40 hii hz0 hz1 hz2 rfl (by decide) _ k (cellsI acc) rfl (own_below hown ((Below.refl _ _).alloc (Nat.le_refl _) _)) ⟨wr.heap.size, 0, none⟩ 1 1 [.int .i64 xd] rfl rfl (cell_one_new _ _ _) (by simp [Value.oneCell']) (by unfold maxLen; omega) (by omega) (by have := hb.size; simp; omega) ?_)
        intro v' w3 hown2 hg2 _
        have hown3 : w3.ownsRow w.heap.size 3 1 v' (k + 1) (cellsI (acc ++ [xd])) := by simpa [cellsI] using hown2
        have hb3 : Below w.heap.size w w3 := (hb.alloc hb.size _).grown hg2 (by have := hb.size; simp; omega) (fun j hj => (hrl j hj).1)
        rw [← Hsn.out] at hown3
        clear hown2 hg2 hown hb hrl
        go_wp2_with fail
        go_roundw
        case rel => exact ⟨k + 1, by omega, by go_num, hown3, hb3⟩
        case measure => simp [intOf]; omega
      · have ht : fs.take k = fs := List.take_of_length_le (by omega)
        obtain rfl : k = fs.length := by omega
        rw [ht] at hown
        obtain ⟨Ad, cd, rfl, hcd⟩ := own_slice hown
        have rd := rd_of_own hown
        have lc := refLcm_any (fs.map Fr.d) Ad fs.length cd wr (by rw [List.length_map]) (fit_dens hx) rd (by rw [List.length_map]; unfold maxLen; omega)
        have Lc := Lib.hid lc
        have HB := Lib.hid hb
        clear ht hown rd lc hb HB2
        cases hf : (lcmF fs).2 with
        | false =>
          have Hn := Lib.hid (scaleR_big Hv.out (show ((lcmF fs).2 && scAll (lcmF fs).1 fs) = false by rw [hf]; rfl))
          have Lc2 := Lc
          rw [show (lcmGo 1 true (fs.map Fr.d)).2 = false from hf] at Lc2
          clear hf Lc
          go_wp2_with fail
          refine (Lc2.out).mono ?_
          rintro e w4 ⟨rfl, hb4⟩
          go_wp2_with fail
          refine bodyPost_ret (v := .tuple #[.int .i64 0, .slice none 0 0, .int .i64 4]) (by simp [results, Try.results29, go_sem]) rfl ?_
          exact ScalePost.of Hn.out (own_none _ _) (HB.out.trans (hb4.mono HB.out.size))
        | true =>
          obtain ⟨m, hme, hm0, hm1⟩ := lcmF_nat Hall.out hf
          have Lc2 := Lc
          rw [show lcmGo 1 true (fs.map Fr.d) = ((m : Int), true) from hme] at Lc2
          have Hme := Lib.hid hme
          clear hf Lc hme
          go_wp2_with fail
          refine (Lc2.out).mono ?_
          rintro e w4 ⟨rfl, hb4⟩
          have HB4 := Lib.hid (HB.out.trans (hb4.mono HB.out.size))
          clear HB Lc2 hb4
          go_wp2_with fail
          go_loopw [9, 10] (fun lv i wr => ∃ k : Nat, k ≤ fs.length ∧ i = .int .i64 k ∧ wr.ownsRow w.heap.size 3 1 lv k (cellsI ((fs.take k).map (scOne m))) ∧ Below w.heap.size w wr ∧ Hid (scAll m (fs.take k) = true)) (fun _ i _ => fs.length - (intOf i).toNat)
          case atStart => exact ⟨0, Nat.zero_le _, rfl, World.ownsRow_nil _ _ _ _, HB4.out, rfl⟩
          case round =>
            obtain ⟨k, hk, rfl, hown, hb, Hsc⟩ := hrel
            by_cases hlt : k < fs.length
            · obtain ⟨b, off, ⟨xn, xd⟩, rfl, hbl, hfx, c0, c1, hd, hxx⟩ := (hr.below hb (Nat.le_refl _)).fr hx hlt
              have hvx := Hall.out _ (List.mem_of_getElem? hxx.out)
              obtain ⟨hfxn, hfxd⟩ := hfx
              simp only at hfxn hfxd c0 c1
              have hpx : 0 < xd := Fr.pos hvx
              obtain ⟨d, rfl⟩ := Int.eq_ofNat_of_zero_le (Int.le_of_lt hpx)
              have hd0 : 0 < d := by omega
              have hd1 : d ≤ 9223372036854775807 := by unfold fits at hfxd; omega
              obtain ⟨q, hq⟩ : ∃ q, m / d = q := ⟨_, rfl⟩
              have hqm : q ≤ m := by rw [← hq]; exact Nat.div_le_self _ _
              have hfq : fits (q : Int) := by unfold fits; omega
              have hdn : ¬ d = 0 := by omega
              have hqe : (m : Int) / (d : Int) = (q : Int) := by rw [← hq]; exact (Int.natCast_ediv _ _).symm
              have hwq : IntKind.i64.wrap (q : Int) = q := by rw [IntKind.wrap_i64]; omega
              have hsc1 : scOne m ⟨xn, (d : Int)⟩ = xn * (q : Int) := by unfold scOne; rw [hqe]
              have htake : fs.take (k + 1) = fs.take k ++ [⟨xn, (d : Int)⟩] := by rw [List.take_add_one, hxx.out]; rfl
              have hmul := fun w => refMul_any xn (q : Int) w hfxn hfq
              have hrl := hown.lt
              have hbs : b < wr.heap.size := by have := hb.size; omega
              obtain ⟨acc, hacc⟩ : ∃ acc, (fs.take k).map (scOne m) = acc := ⟨_, rfl⟩
              have hsnoc : (fs.take (k + 1)).map (scOne m) = acc ++ [xn * (q : Int)] := by rw [htake, List.map_append, hacc, List.map_cons, hsc1]; rfl
              rw [hacc] at hown
              by_cases hs : fits (xn * (q : Int))
              · have GOOD : Hid (scAll m (fs.take (k + 1)) = true) := by
                  unfold Hid
                  rw [htake]
                  unfold scAll
                  rw [List.all_append, Bool.and_eq_true]
                  refine ⟨Hsc.out, ?_⟩
                  simp [hsc1, okB_iff.2 hs]
                have MU : Hid (∀ w, Calls Try.prog 51 #[.int .i64 xn, .int .i64 (q : Int)] w fun e w' => e = .returned (.tuple #[.int .i64 (xn * (q : Int)), .bool true]) ∧ Below w.heap.size w w') := fun w => by
                  have h := hmul w
                  unfold IntPost okOf at h
                  rw [if_pos (show _ ∧ _ from hs), okB_iff.2 hs] at h
                  exact h
                have Hsn := Lib.hid hsnoc
                have OW := Lib.hid hown
                have HB := Lib.hid hb
                clear hmul hq hd hxx hvx hsc1 htake hacc hsnoc hs hown hb
                go_wp2_with fail
                go_region_held3 (fun w' => w'.cell? ⟨b, off + k * 2, none⟩ = some (.int .i64 xn) ∧ w'.cell? ⟨b, off + k * 2 + 1, none⟩ = some (.int .i64 (d : Int))) (first | exact ⟨c0, c1⟩ | exact ⟨g0, g1⟩)
                  (first | (go_at_call 51; refine (MU.out _).mono ?_; rintro e w5 ⟨rfl, hb5'⟩; have hb5 : Below wr.heap.size wr w5 := ⟨hb5'.os, hb5'.tape, hb5'.output, hb5'.size, hb5'.block⟩; have g0 := (hb5.cell (p := ⟨b, off + k * 2, none⟩) hbs).trans c0; have g1 := (hb5.cell (p := ⟨b, off + k * 2 + 1, none⟩) hbs).trans c1))
                have ho5 := own_below OW.out hb5
                have hbb := HB.out.trans (hb5.mono HB.out.size)
                have HBB := Lib.hid hbb
                have hz5 := hbb.size
                clear OW HB hb5 hb5' hbb g0 g1 c0 c1
                go_wp2_with (at_builtin; refine wpList_append_own _ rfl _ _ 40 rfl w.heap.size 3 ii (.int .i64 0) 1 8 Try.underlying40 hii hz0 hz1 hz2 rfl (by decide) _ k (cellsI acc) rfl (own_below ho5 ((Below.refl _ _).alloc (Nat.le_refl _) _)) ⟨w5.heap.size, 0, none⟩ 1 1 [.int .i64 (xn * (q : Int))] rfl rfl (cell_one_new _ _ _) (by simp [Value.oneCell']) (by unfold maxLen; omega) (by omega) (by simp; omega) ?_)
                intro v' w6 hown2 hg2 _
                have hown3 : w6.ownsRow w.heap.size 3 1 v' (k + 1) (cellsI (acc ++ [xn * (q : Int)])) := by simpa [cellsI] using hown2
                have hb6 : Below w.heap.size w w6 := (HBB.out.alloc HBB.out.size _).grown hg2 (by simp; omega) (fun j hj => (hrl j hj).1)
                rw [← Hsn.out] at hown3
                clear hown2 hg2 ho5 hrl
                go_wp2_with fail
                go_roundw
                case rel => exact ⟨k + 1, by omega, by go_num, hown3, hb6, GOOD⟩
                case measure => simp [intOf]; omega
              · have Hn : Hid (scaleR fs = (0, [], 4)) := scaleR_big Hv.out (by
                  rw [Hme.out]
                  refine Bool.eq_false_iff.2 fun h => hs ?_
                  have h2 := List.all_eq_true.1 h _ (List.mem_of_getElem? hxx.out)
                  rw [hsc1] at h2
                  exact okB_iff.1 h2)
                obtain ⟨z, hz⟩ : ∃ z, okOf (xn * (q : Int)) = z := ⟨_, rfl⟩
                have MU : Hid (∀ w, Calls Try.prog 51 #[.int .i64 xn, .int .i64 (q : Int)] w fun e w' => e = .returned (.tuple #[.int .i64 z, .bool false]) ∧ Below w.heap.size w w') := fun w => by
                  have h := hmul w
                  unfold IntPost at h
                  rw [hz, ← b_no hs] at h
                  exact h
                have HB := Lib.hid hb
                clear hmul hq hd hxx hvx hsc1 htake hacc hsnoc hs hown hb hz hrl
                go_wp2_with fail
                go_region_held3 (fun w' => w'.cell? ⟨b, off + k * 2, none⟩ = some (.int .i64 xn) ∧ w'.cell? ⟨b, off + k * 2 + 1, none⟩ = some (.int .i64 (d : Int))) (first | exact ⟨c0, c1⟩ | exact ⟨g0, g1⟩)
                  (first | (go_at_call 51; refine (MU.out _).mono ?_; rintro e w5 ⟨rfl, hb5'⟩; have hb5 : Below wr.heap.size wr w5 := ⟨hb5'.os, hb5'.tape, hb5'.output, hb5'.size, hb5'.block⟩; have g0 := (hb5.cell (p := ⟨b, off + k * 2, none⟩) hbs).trans c0; have g1 := (hb5.cell (p := ⟨b, off + k * 2 + 1, none⟩) hbs).trans c1))
                go_wp2_with fail
                refine bodyPost_ret (v := .tuple #[.int .i64 0, .slice none 0 0, .int .i64 4]) (by simp [results, Try.results29, go_sem]) rfl ?_
                exact ScalePost.of Hn.out (own_none _ _) (HB.out.trans (hb5.mono HB.out.size))
            · have ht : fs.take k = fs := List.take_of_length_le (by omega)
              obtain rfl : k = fs.length := by omega
              rw [ht] at hown Hsc
              have Hn := Lib.hid (scaleR_ok Hv.out (show ((lcmF fs).2 && scAll (lcmF fs).1 fs) = true by rw [Hme.out, Hsc.out]; rfl))
              rw [Hme.out] at Hn
              have OW := Lib.hid hown
              clear ht
              obtain ⟨Al, cl, rfl, hcl⟩ := own_slice hown
              clear hown
              go_wp2_with fail
              refine bodyPost_ret (v := .tuple #[.int .i64 (m : Nat), .slice Al fs.length cl, .int .i64 0]) (by simp [results, Try.results29, go_sem]) rfl ?_
              exact ScalePost.of Hn.out (by rw [List.length_map]; exact OW.out) hb
end Go.Proofs.Ytfielhbepnkekaa
