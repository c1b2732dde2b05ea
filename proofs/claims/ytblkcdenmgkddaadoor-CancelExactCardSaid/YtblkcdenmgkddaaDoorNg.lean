/-
  cancel.product, cancel.Ratio, and the document's Ratio.
-/
import Derived.Test.YtblkcdenmgkddaaDoorNf
import Derived.Test.YtblkcdenmgkddaaDoorKd
namespace Go.Proofs.YtblkcdenmgkddaaDoor
open Go.RowKit

theorem prodN_take_le {l : List Nat} (h : OkL l) (k : Nat) : prodN (l.take k) ≤ prodN l := by
  have e : prodN l = prodN (l.take k) * prodN (l.drop k) := by
    conv => lhs; rw [← List.take_append_drop k l]
    exact prodN_append _ _
  have h1 : 1 ≤ prodN (l.drop k) := prodN_pos fun x hx => (h x (List.mem_of_mem_drop hx)).1
  rw [e]
  exact Nat.le_mul_of_pos_right _ h1
theorem prodN_take_succ {l : List Nat} {k x : Nat} (h : l[k]? = some x) : prodN (l.take (k + 1)) = prodN (l.take k) * x := by
  obtain ⟨h1, h2⟩ := List.getElem?_eq_some_iff.1 h
  rw [List.take_succ_eq_append_getElem h1, prodN_append, h2]
  simp [prodN]
set_option maxHeartbeats 1000000 in
theorem cproduct_any (l : List Nat) (A : Option Addr) (n c B : Nat) (w : World) (hn : l.length = n) (hx : OkL l) (hr : Rd w B A (cellsI (castL l))) (hl : n ≤ maxLen) :
    Calls Tryd.prog 35 #[.slice A n c] w fun e w' => e = .returned (.tuple #[.int .i64 (okOf (prodN l : Nat)), .bool (okB (prodN l : Nat))]) ∧ w = w' := by
  unfold maxLen at hl
  have HN := Lib.hid hn
  have HX := Lib.hid hx
  have HF := Lib.hid hx.fit
  clear hn hx
  go_enter Tryd.func35, Tryd.ntmps35
  go_wp2_with fail
  go_loop [4, 11] (fun p i => ∃ k : Nat, k ≤ n ∧ i = .int .i64 k ∧ p = .int .i64 (prodN (l.take k) : Nat) ∧ Hid (prodN (l.take k) ≤ 9223372036854775807)) (fun _ i => n - (intOf i).toNat)
  case atStart => exact ⟨0, Nat.zero_le _, rfl, rfl, by unfold Hid; simp [prodN]⟩
  case round =>
    obtain ⟨k, hk, rfl, rfl, HP⟩ := hrel
    by_cases hlt : k < n
    · obtain ⟨b, off, x, rfl, hb, hxk, hc, hd, hxx⟩ := hr.at_ HF.out (k := k) (by rw [castL_length, HN.out]; exact hlt)
      obtain ⟨y, hy⟩ : ∃ y, l[k]? = some y := ⟨_, List.getElem?_eq_getElem (by rw [HN.out]; exact hlt)⟩
      obtain rfl : (y : Int) = x := by have := hxx.out; rw [castL_get hy] at this; exact Option.some.inj this
      have HS := Lib.hid (prodN_take_succ hy)
      have HL := Lib.hid (prodN_take_le HX.out (k + 1))
      obtain ⟨p, hp⟩ : ∃ p, prodN (l.take k) = p := ⟨_, rfl⟩
      rw [hp] at HP HS ⊢
      have hm := mul_any (p : Int) (y : Int) w (by have := HP.out; unfold fits; omega) hxk
      rw [← Int.natCast_mul, ← HS.out] at hm
      obtain ⟨q, hq⟩ : ∃ q, prodN (l.take (k + 1)) = q := ⟨_, rfl⟩
      rw [hq] at hm HS HL
      have HQ := Lib.hid hq
      clear hd hxx hy hp hq hxk
      by_cases hf : q ≤ 9223372036854775807
      · rw [← val_yes (n := (q : Int)) (by unfold fits; omega), ← b_yes (n := (q : Int)) (by unfold fits; omega)] at hm
        have HM := Lib.hid hm
        clear hm
        go_wp2_with fail
        refine HM.out.mono ?_
        rintro e w' ⟨rfl, rfl⟩
        go_wp2_with fail
        go_round
        case rel => exact ⟨k + 1, by omega, by go_num, by rw [HQ.out], by unfold Hid; rw [HQ.out]; exact hf⟩
        case measure => simp [intOf]; omega
      · rw [← val_no (n := (q : Int)) (by unfold fits; omega), ← b_no (n := (q : Int)) (by unfold fits; omega)] at hm
        have HM := Lib.hid hm
        clear hm
        go_wp2_with fail
        refine HM.out.mono ?_
        rintro e w' ⟨rfl, rfl⟩
        go_wp2_with fail
        go_ret2
        have hge : q ≤ prodN l := HL.out
        exact ⟨tup2 (val_no (by unfold fits; omega)) (b_no (by unfold fits; omega)), rfl⟩
    · have HE := Lib.hid (show prodN (l.take k) = prodN l by rw [List.take_of_length_le (by rw [HN.out]; omega)])
      rw [HE.out] at HP ⊢
      go_wp2_with fail
      go_ret2
      exact ⟨tup2 (val_yes (by have := HP.out; unfold fits; omega)) (b_yes (by have := HP.out; unfold fits; omega)), rfl⟩
theorem prodN_le_div {l m : List Nat} (h : DivL l m) (hm : Pos m) : prodN l ∣ prodN m := by
  induction l generalizing m with
  | nil => cases m with
    | nil => exact Nat.dvd_refl _
    | cons y ys => exact h.elim
  | cons x xs ih => cases m with
    | nil => exact h.elim
    | cons y ys => exact Nat.mul_dvd_mul h.1 (ih h.2 fun z hz => hm z (List.mem_cons_of_mem _ hz))
theorem redGo_okL {ps qs : List Nat} (hp : OkL ps) (hq : OkL qs) : OkL (redGo ps qs).1 ∧ OkL (redGo ps qs).2 := by
  obtain ⟨d1, d2, -, -⟩ := redGo_all ps qs hp.pos hq.pos
  have one : ∀ {l m : List Nat}, DivL l m → OkL m → OkL l := by
    intro l m d hm x hx
    obtain ⟨k, hk, rfl⟩ := List.mem_iff_getElem.1 hx
    have hk2 : k < m.length := by rw [← d.length]; exact hk
    have h1 := hm _ (List.getElem_mem hk2)
    have h2 := d.get k _ _ (List.getElem?_eq_getElem hk) (List.getElem?_eq_getElem hk2)
    exact ⟨dvd_pos h2 h1.1, Nat.le_trans (Nat.le_of_dvd h1.1 h2) h1.2⟩
  exact ⟨one d1 hp, one d2 hq⟩
/-- what is left over what is left, and whether it fits -/
def ratioR (ps qs : List Nat) : Fr × Int :=
  if okB (prodN (redGo ps qs).1 : Nat) = true ∧ okB (prodN (redGo ps qs).2 : Nat) = true then (⟨(prodN (redGo ps qs).1 : Nat), (prodN (redGo ps qs).2 : Nat)⟩, 0) else (⟨0, 0⟩, 4)
def ratioF (ps qs : List Int) : Fr × Int := if cwrongF ps qs = 0 then ratioR (natL ps) (natL qs) else (⟨0, 0⟩, cwrongF ps qs)
theorem ratio_valid {ps qs : List Nat} (hp : OkL ps) (hq : OkL qs) : validB (prodN (redGo ps qs).1 : Nat) (prodN (redGo ps qs).2 : Nat) = true := by
  obtain ⟨d1, d2, h3, -⟩ := redGo_all ps qs hp.pos hq.pos
  refine validB_iff.2 ⟨by have := prodN_pos (d2.pos hq.pos); omega, ?_⟩
  rw [Int.natAbs_natCast, Int.natAbs_natCast]
  exact cop_prods h3
theorem frac_ret {x y z : Int} {f : Fr × Int} (h : f = (⟨x, y⟩, z)) : Ending.returned (.tuple #[.agg #[.int .i64 x, .int .i64 y], .int .i64 z]) = .returned (.tuple #[.agg #[.int .i64 f.1.n, .int .i64 f.1.d], .int .i64 f.2]) := by rw [h]

set_option maxHeartbeats 2000000 in
theorem ratio_ok (ps qs : List Nat) (A A' : Option Addr) (c c' B B' : Nat) (w : World) (hp : OkL ps) (hq : OkL qs) (hn : ps.length ≤ 1024) (hn' : qs.length ≤ 1024) (hr : Rd w B A (cellsI (castL ps))) (hr' : Rd w B' A' (cellsI (castL qs)))
    (hB : B ≤ w.heap.size) (hB' : B' ≤ w.heap.size) (hT : Tab w) :
    Calls Tryd.prog 20 #[.slice A ps.length c, .slice A' qs.length c'] w fun e w' => e = .returned (.tuple #[.agg #[.int .i64 (ratioR ps qs).1.n, .int .i64 (ratioR ps qs).1.d], .int .i64 (ratioR ps qs).2]) ∧ Below w.heap.size w w' := by
  obtain ⟨W, hW⟩ : ∃ W, w.alloc (.cells #[.int .i64 0, .int .i64 0] 34) = W := ⟨_, rfl⟩
  have bW : Below w.heap.size w W := by subst hW; exact (Below.refl _ _).alloc (Nat.le_refl _) _
  have k0 : Blk W w.heap.size 34 #[.int .i64 0, .int .i64 0] := by subst hW; exact Blk.new w _ rfl _ _
  have hWs : W.heap.size = w.heap.size + 1 := by subst hW; simp
  have HR := Lib.hid (reduce_ok ps qs A A' c c' B B' W hp hq hn hn' (hr.below bW hB) (hr'.below bW hB') (by omega) (by omega) (hT.below bW hT.pos))
  obtain ⟨o1, o2⟩ := redGo_okL hp hq
  have HV := Lib.hid (ratio_valid hp hq)
  obtain ⟨f, hf⟩ : ∃ f, ratioR ps qs = f := ⟨_, rfl⟩
  rw [hf]
  have HRR := Lib.hid hf.symm
  unfold ratioR at HRR
  unfold RedPost at HR
  obtain ⟨us, hus⟩ : ∃ l, (redGo ps qs).1 = l := ⟨_, rfl⟩
  obtain ⟨vs, hvs⟩ : ∃ l, (redGo ps qs).2 = l := ⟨_, rfl⟩
  rw [hus] at HR HV o1 HRR
  rw [hvs] at HR HV o2 HRR
  obtain ⟨n, hpn⟩ : ∃ n, ps.length = n := ⟨_, rfl⟩
  obtain ⟨n', hqn⟩ : ∃ n, qs.length = n := ⟨_, rfl⟩
  rw [hpn] at hn HR ⊢
  rw [hqn] at hn' HR ⊢
  have O1 := Lib.hid o1
  have O2 := Lib.hid o2
  have BW := Lib.hid bW
  have K0 := Lib.hid k0
  clear o1 o2 hus hvs hr hr' hB hB' hT hp hq hpn hqn bW k0 hf
  go_enter Tryd.func20, Tryd.ntmps20
  go_wp2_with fail
  try rw [hW]
  refine HR.out.mono ?_
  rintro e w1 ⟨ga, gb, rfl, S⟩
  have hb1 := S.bw
  have HP1 := Lib.hid (cproduct_any us _ n n _ w1 S.la O1.out (rd_of_own S.oa) (by unfold maxLen; omega))
  have HP2 := Lib.hid (cproduct_any vs _ n' n' _ w1 S.lb O2.out (rd_of_own S.ob) (by unfold maxLen; omega))
  have k1 := K0.out.lowr hb1 (by omega)
  have b1 := BW.out.trans (hb1.mono (by omega))
  have z0 := k1.frozen 0
  have z1 := k1.frozen 1
  have g0 := k1.cell 0
  have g1 := k1.cell 1
  simp at g0 g1
  obtain ⟨a, ha⟩ : ∃ a, prodN us = a := ⟨_, rfl⟩
  obtain ⟨d, hd⟩ : ∃ d, prodN vs = d := ⟨_, rfl⟩
  rw [ha] at HP1 HV HRR
  rw [hd] at HP2 HV HRR
  clear S ha hd hb1 BW K0 hW
  by_cases ha : okB (a : Int) = true
  · by_cases hd : okB (d : Int) = true
    · have fa : fits (a : Int) := okB_iff.1 ha
      have fd : fits (d : Int) := okB_iff.1 hd
      have hR := HRR.out
      rw [if_pos ⟨ha, hd⟩] at hR
      rw [ha, ← val_yes fa] at HP1
      rw [hd, ← val_yes fd] at HP2
      have HN := Lib.hid (new_any (a : Int) (d : Int) w1 fa fd)
      rw [(newR_self fa fd).1 HV.out] at HN
      have hRr := Lib.hid hR
      clear ha hd hR HV HRR
      go_wp2_with fail
      refine HP1.out.mono ?_
      rintro e w' ⟨rfl, rfl⟩
      go_wp2_with fail
      refine HP2.out.mono ?_
      rintro e w' ⟨rfl, rfl⟩
      go_wp2_with fail
      refine HN.out.mono ?_
      rintro e w2 ⟨rfl, hb2⟩
      have k2 := k1.lowr hb2 k1.lt
      have b2 := b1.trans (hb2.mono b1.size)
      have g0 := k2.cell 0
      have g1 := k2.cell 1
      have z0 := k2.frozen 0
      have z1 := k2.frozen 1
      have k3 := (k2.set 0 (.int .i64 (a : Nat))).set 1 (.int .i64 (d : Nat))
      have c0 := k3.cell 0
      have c1 := k3.cell 1
      have bb := (b2.setCell (p := ⟨w.heap.size, 0, none⟩) (Nat.le_refl _) (.int .i64 (a : Nat))).setCell (p := ⟨w.heap.size, 1, none⟩) (Nat.le_refl _) (.int .i64 (d : Nat))
      simp at g0 g1 c0 c1
      clear k1 k2 k3 hb2
      go_wp2_with fail
      exact bodyPost_ret (v := .tuple #[.agg #[.int .i64 (a : Nat), .int .i64 (d : Nat)], .int .i64 0]) (by simp [results, Tryd.results20, go_sem, c0, c1]) rfl ⟨frac_ret hRr.out, bb⟩
    · have hR := HRR.out
      rw [if_neg (fun h => hd h.2)] at hR
      have hRr := Lib.hid hR
      have hd' : okB (d : Int) = false := by simpa using hd
      rw [ha] at HP1
      rw [hd'] at HP2
      have k3 := (k1.set 0 (.int .i64 0)).set 1 (.int .i64 0)
      have c0 := k3.cell 0
      have c1 := k3.cell 1
      have bb := (b1.setCell (p := ⟨w.heap.size, 0, none⟩) (Nat.le_refl _) (.int .i64 0)).setCell (p := ⟨w.heap.size, 1, none⟩) (Nat.le_refl _) (.int .i64 0)
      simp at c0 c1
      clear ha hd hd' hR HV HRR k1 k3
      go_wp2_with fail
      refine HP1.out.mono ?_
      rintro e w' ⟨rfl, rfl⟩
      go_wp2_with fail
      refine HP2.out.mono ?_
      rintro e w' ⟨rfl, rfl⟩
      go_wp2_with fail
      exact bodyPost_ret (v := .tuple #[.agg #[.int .i64 0, .int .i64 0], .int .i64 4]) (by simp [results, Tryd.results20, go_sem, c0, c1]) rfl ⟨frac_ret hRr.out, bb⟩
  · have hR := HRR.out
    rw [if_neg (fun h => ha h.1)] at hR
    have hRr := Lib.hid hR
    have ha' : okB (a : Int) = false := by simpa using ha
    rw [ha'] at HP1
    have k3 := (k1.set 0 (.int .i64 0)).set 1 (.int .i64 0)
    have c0 := k3.cell 0
    have c1 := k3.cell 1
    have bb := (b1.setCell (p := ⟨w.heap.size, 0, none⟩) (Nat.le_refl _) (.int .i64 0)).setCell (p := ⟨w.heap.size, 1, none⟩) (Nat.le_refl _) (.int .i64 0)
    simp at c0 c1
    obtain ⟨od, hod⟩ : ∃ od, okB (d : Int) = od := ⟨_, rfl⟩
    obtain ⟨vd, hvd⟩ : ∃ vd, okOf (d : Int) = vd := ⟨_, rfl⟩
    rw [hod, hvd] at HP2
    clear ha ha' hR HV HRR k1 k3 hod hvd
    go_wp2_with fail
    refine HP1.out.mono ?_
    rintro e w' ⟨rfl, rfl⟩
    go_wp2_with fail
    refine HP2.out.mono ?_
    rintro e w' ⟨rfl, rfl⟩
    go_wp2_with fail
    exact bodyPost_ret (v := .tuple #[.agg #[.int .i64 0, .int .i64 0], .int .i64 4]) (by simp [results, Tryd.results20, go_sem, c0, c1]) rfl ⟨frac_ret hRr.out, bb⟩
end Go.Proofs.YtblkcdenmgkddaaDoor
