/-
  cancel.Ratio at any lists; the document's Ratio.
-/
import Derived.Test.YtblkcdenmgkddaaDoorNg
import Derived.Test.YtblkcdenmgkddaaDoorWl
namespace Go.Proofs.YtblkcdenmgkddaaDoor
open Go.RowKit

set_option maxHeartbeats 2000000 in
theorem ratio_bad (ps qs : List Int) (A A' : Option Addr) (n n' c c' B B' : Nat) (w : World) (hn : ps.length = n) (hn' : qs.length = n') (hx : AllFit ps) (hx' : AllFit qs) (hr : Rd w B A (cellsI ps)) (hr' : Rd w B' A' (cellsI qs)) (hl : n ≤ maxLen) (hl' : n' ≤ maxLen)
    (hB : B ≤ w.heap.size) (hB' : B' ≤ w.heap.size) (hw : cwrongF ps qs ≠ 0) :
    Calls Tryd.prog 20 #[.slice A n c, .slice A' n' c'] w fun e w' => e = .returned (.tuple #[.agg #[.int .i64 0, .int .i64 0], .int .i64 (cwrongF ps qs)]) ∧ Below w.heap.size w w' := by
  obtain ⟨W, hW⟩ : ∃ W, w.alloc (.cells #[.int .i64 0, .int .i64 0] 34) = W := ⟨_, rfl⟩
  have bW : Below w.heap.size w W := by subst hW; exact (Below.refl _ _).alloc (Nat.le_refl _) _
  have k0 : Blk W w.heap.size 34 #[.int .i64 0, .int .i64 0] := by subst hW; exact Blk.new w _ rfl _ _
  have HR := Lib.hid (reduce_bad ps qs A A' n n' c c' B B' W hn hn' hx hx' (hr.below bW hB) (hr'.below bW hB') hl hl' hw)
  obtain ⟨e, he⟩ : ∃ e, cwrongF ps qs = e := ⟨_, rfl⟩
  rw [he] at HR hw ⊢
  have he0 : (e != 0) = true := by simpa using hw
  have z0 := k0.frozen 0
  have z1 := k0.frozen 1
  have g0 := k0.cell 0
  have g1 := k0.cell 1
  have k3 := (k0.set 0 (.int .i64 0)).set 1 (.int .i64 0)
  have c0 := k3.cell 0
  have c1 := k3.cell 1
  have bb := (bW.setCell (p := ⟨w.heap.size, 0, none⟩) (Nat.le_refl _) (.int .i64 0)).setCell (p := ⟨w.heap.size, 1, none⟩) (Nat.le_refl _) (.int .i64 0)
  simp at g0 g1 c0 c1
  clear hx hx' hr hr' hl hl' hn hn' he hw hB hB' k0 k3 bW
  go_enter Tryd.func20, Tryd.ntmps20
  go_wp2_with fail
  try rw [hW]
  refine HR.out.mono ?_
  rintro e w' ⟨rfl, rfl⟩
  clear hW
  go_wp2_with fail
  exact bodyPost_ret (v := .tuple #[.agg #[.int .i64 0, .int .i64 0], .int .i64 e]) (by simp [results, Tryd.results20, go_sem, c0, c1]) rfl ⟨rfl, bb⟩
theorem ratio_any (ps qs : List Int) (A A' : Option Addr) (n n' c c' B B' : Nat) (w : World) (hn : ps.length = n) (hn' : qs.length = n') (hx : AllFit ps) (hx' : AllFit qs) (hr : Rd w B A (cellsI ps)) (hr' : Rd w B' A' (cellsI qs)) (hl : n ≤ maxLen) (hl' : n' ≤ maxLen)
    (hB : B ≤ w.heap.size) (hB' : B' ≤ w.heap.size) (hT : Tab w) :
    Calls Tryd.prog 20 #[.slice A n c, .slice A' n' c'] w fun e w' => e = .returned (.tuple #[.agg #[.int .i64 (ratioF ps qs).1.n, .int .i64 (ratioF ps qs).1.d], .int .i64 (ratioF ps qs).2]) ∧ Below w.heap.size w w' := by
  unfold ratioF
  by_cases hw : cwrongF ps qs = 0
  · obtain ⟨h1, h2, h3, h4⟩ := cwrongF_ok hw
    have e1 := natL_cast h3
    have e2 := natL_cast h4
    have := ratio_ok (natL ps) (natL qs) A A' c c' B B' w (natL_ok h3 hx) (natL_ok h4 hx') (by rw [natL_length]; exact h1) (by rw [natL_length]; exact h2) (by rw [e1]; exact hr) (by rw [e2]; exact hr') hB hB' hT
    rw [natL_length, natL_length, hn, hn'] at this
    rw [if_pos hw]
    exact this
  · rw [if_neg hw]
    exact ratio_bad ps qs A A' n n' c c' B B' w hn hn' hx hx' hr hr' hl hl' hB hB' hw

set_option maxHeartbeats 1000000 in
theorem refReduce_bad (ps qs : List Int) (A A' : Option Addr) (n n' c c' B B' : Nat) (w : World) (hn : ps.length = n) (hn' : qs.length = n') (hx : AllFit ps) (hx' : AllFit qs) (hr : Rd w B A (cellsI ps)) (hr' : Rd w B' A' (cellsI qs)) (hl : n ≤ maxLen) (hl' : n' ≤ maxLen) (hw : cwrongF ps qs ≠ 0) :
    Calls Tryd.prog 13 #[.slice A n c, .slice A' n' c'] w fun e w' => e = .returned (.tuple #[.slice none 0 0, .slice none 0 0, .int .i64 (cwrongF ps qs)]) ∧ w = w' := by
  have HW := Lib.hid (refWrong_any ps qs A A' n n' c c' B B' w hn hn' hx hx' hr hr' hl hl')
  obtain ⟨e, he⟩ : ∃ e, cwrongF ps qs = e := ⟨_, rfl⟩
  rw [he] at HW hw ⊢
  have he0 : (e != 0) = true := by simpa using hw
  clear hx hx' hr hr' hl hl' hn hn' he hw
  go_enter Tryd.func13, Tryd.ntmps13
  go_wp2_with fail
  refine HW.out.mono ?_
  rintro e w' ⟨rfl, rfl⟩
  go_wp2_with fail
  go_ret3
  exact ⟨rfl, rfl⟩
set_option maxHeartbeats 2000000 in
theorem refRatio_ok (ps qs : List Nat) (A A' : Option Addr) (c c' B B' : Nat) (w : World) (hp : OkL ps) (hq : OkL qs) (hn : ps.length ≤ 1024) (hn' : qs.length ≤ 1024) (hr : Rd w B A (cellsI (castL ps))) (hr' : Rd w B' A' (cellsI (castL qs)))
    (hB : B ≤ w.heap.size) (hB' : B' ≤ w.heap.size) :
    Calls Tryd.prog 21 #[.slice A ps.length c, .slice A' qs.length c'] w fun e w' => e = .returned (.tuple #[.agg #[.int .i64 (ratioR ps qs).1.n, .int .i64 (ratioR ps qs).1.d], .int .i64 (ratioR ps qs).2]) ∧ Below w.heap.size w w' := by
  obtain ⟨W, hW⟩ : ∃ W, w.alloc (.cells #[.int .i64 0, .int .i64 0] 34) = W := ⟨_, rfl⟩
  have bW : Below w.heap.size w W := by subst hW; exact (Below.refl _ _).alloc (Nat.le_refl _) _
  have k0 : Blk W w.heap.size 34 #[.int .i64 0, .int .i64 0] := by subst hW; exact Blk.new w _ rfl _ _
  have hWs : W.heap.size = w.heap.size + 1 := by subst hW; simp
  have HR := Lib.hid (refReduce_ok ps qs A A' c c' B B' W hp hq hn hn' (hr.below bW hB) (hr'.below bW hB') (by omega))
  obtain ⟨o1, o2⟩ := redGo_okL hp hq
  obtain ⟨f, hf⟩ : ∃ f, ratioR ps qs = f := ⟨_, rfl⟩
  rw [hf]
  have HRR := Lib.hid hf.symm
  unfold ratioR at HRR
  unfold RefRedPost at HR
  obtain ⟨us, hus⟩ : ∃ l, (redGo ps qs).1 = l := ⟨_, rfl⟩
  obtain ⟨vs, hvs⟩ : ∃ l, (redGo ps qs).2 = l := ⟨_, rfl⟩
  rw [hus] at HR o1 HRR
  rw [hvs] at HR o2 HRR
  obtain ⟨n, hpn⟩ : ∃ n, ps.length = n := ⟨_, rfl⟩
  obtain ⟨n', hqn⟩ : ∃ n, qs.length = n := ⟨_, rfl⟩
  rw [hpn] at hn HR ⊢
  rw [hqn] at hn' HR ⊢
  have O1 := Lib.hid o1
  have O2 := Lib.hid o2
  have BW := Lib.hid bW
  have K0 := Lib.hid k0
  clear o1 o2 hus hvs hr hr' hB hB' hp hq hpn hqn bW k0 hf
  go_enter Tryd.func21, Tryd.ntmps21
  go_wp2_with fail
  try rw [hW]
  refine HR.out.mono ?_
  rintro e w1 ⟨Aa, Ab, ca, cb, rfl, S⟩
  have hb1 := S.bw
  have HP1 := Lib.hid (product_any (castL us) Aa n ca _ w1 ((castL_length us).trans S.la) O1.out.fit (rd_of_own S.oa) (by omega) (Nat.le_refl _))
  have HP2 := Lib.hid fun w2 (hb : Below w1.heap.size w1 w2) => product_any (castL vs) Ab n' cb _ w2 ((castL_length vs).trans S.lb) O2.out.fit ((rd_of_own S.ob).below hb (Nat.le_refl _)) (by omega) hb.size
  rw [prodZ_cast] at HP1 HP2
  have k1 := K0.out.lowr hb1 (by omega)
  have b1 := BW.out.trans (hb1.mono (by omega))
  obtain ⟨a, ha⟩ : ∃ a, prodN us = a := ⟨_, rfl⟩
  obtain ⟨d, hd⟩ : ∃ d, prodN vs = d := ⟨_, rfl⟩
  rw [ha] at HP1 HRR
  rw [hd] at HP2 HRR
  clear S ha hd hb1 BW K0 hW
  go_wp2_with fail
  refine HP1.out.mono ?_
  rintro e w2 ⟨s1, A1, c1, m1, rfl, q1, -, hb2⟩
  go_wp2_with fail
  refine (int_any _ (a : Int) m1 w2 q1).mono ?_
  rintro e w3 ⟨rfl, hb3⟩
  have h13 : Below w1.heap.size w1 w3 := hb2.trans (hb3.mono hb2.size)
  go_wp2_with fail
  refine (HP2.out w3 h13).mono ?_
  rintro e w4 ⟨s2, A2, c2, m2, rfl, q2, -, hb4⟩
  have h14 : Below w1.heap.size w1 w4 := h13.trans (hb4.mono h13.size)
  go_wp2_with fail
  refine (int_any _ (d : Int) m2 w4 q2).mono ?_
  rintro e w5 ⟨rfl, hb5⟩
  have h15 : Below w1.heap.size w1 w5 := h14.trans (hb5.mono h14.size)
  have k2 := k1.lowr h15 k1.lt
  have b2 := b1.trans (h15.mono b1.size)
  have z0 := k2.frozen 0
  have z1 := k2.frozen 1
  have g0 := k2.cell 0
  have g1 := k2.cell 1
  simp at g0 g1
  clear q1 q2 hb2 hb3 hb4 hb5 h13 h14 h15 b1 k1 HP1 HP2
  by_cases ha : okB (a : Int) = true
  · by_cases hd : okB (d : Int) = true
    · have hR := HRR.out
      rw [if_pos ⟨ha, hd⟩] at hR
      rw [← val_yes (okB_iff.1 ha), ← val_yes (okB_iff.1 hd), ha, hd]
      have hRr := Lib.hid hR
      have k3 := (k2.set 0 (.int .i64 (a : Nat))).set 1 (.int .i64 (d : Nat))
      have c0 := k3.cell 0
      have c1 := k3.cell 1
      have bb := (b2.setCell (p := ⟨w.heap.size, 0, none⟩) (Nat.le_refl _) (.int .i64 (a : Nat))).setCell (p := ⟨w.heap.size, 1, none⟩) (Nat.le_refl _) (.int .i64 (d : Nat))
      simp at c0 c1
      clear ha hd hR HRR k2 k3
      go_wp2_with fail
      exact bodyPost_ret (v := .tuple #[.agg #[.int .i64 (a : Nat), .int .i64 (d : Nat)], .int .i64 0]) (by simp [results, Tryd.results21, go_sem, c0, c1]) rfl ⟨frac_ret hRr.out, bb⟩
    · have hR := HRR.out
      rw [if_neg (fun h => hd h.2)] at hR
      have hRr := Lib.hid hR
      have hd' : okB (d : Int) = false := by simpa using hd
      rw [ha, hd']
      have k3 := (k2.set 0 (.int .i64 0)).set 1 (.int .i64 0)
      have c0 := k3.cell 0
      have c1 := k3.cell 1
      have bb := (b2.setCell (p := ⟨w.heap.size, 0, none⟩) (Nat.le_refl _) (.int .i64 0)).setCell (p := ⟨w.heap.size, 1, none⟩) (Nat.le_refl _) (.int .i64 0)
      simp at c0 c1
      clear ha hd hd' hR HRR k2 k3
      go_wp2_with fail
      exact bodyPost_ret (v := .tuple #[.agg #[.int .i64 0, .int .i64 0], .int .i64 4]) (by simp [results, Tryd.results21, go_sem, c0, c1]) rfl ⟨frac_ret hRr.out, bb⟩
  · have hR := HRR.out
    rw [if_neg (fun h => ha h.1)] at hR
    have hRr := Lib.hid hR
    have ha' : okB (a : Int) = false := by simpa using ha
    rw [ha']
    have k3 := (k2.set 0 (.int .i64 0)).set 1 (.int .i64 0)
    have c0 := k3.cell 0
    have c1 := k3.cell 1
    have bb := (b2.setCell (p := ⟨w.heap.size, 0, none⟩) (Nat.le_refl _) (.int .i64 0)).setCell (p := ⟨w.heap.size, 1, none⟩) (Nat.le_refl _) (.int .i64 0)
    simp at c0 c1
    clear ha ha' hR HRR k2 k3
    go_wp2_with fail
    exact bodyPost_ret (v := .tuple #[.agg #[.int .i64 0, .int .i64 0], .int .i64 4]) (by simp [results, Tryd.results21, go_sem, c0, c1]) rfl ⟨frac_ret hRr.out, bb⟩
set_option maxHeartbeats 2000000 in
theorem refRatio_bad (ps qs : List Int) (A A' : Option Addr) (n n' c c' B B' : Nat) (w : World) (hn : ps.length = n) (hn' : qs.length = n') (hx : AllFit ps) (hx' : AllFit qs) (hr : Rd w B A (cellsI ps)) (hr' : Rd w B' A' (cellsI qs)) (hl : n ≤ maxLen) (hl' : n' ≤ maxLen)
    (hB : B ≤ w.heap.size) (hB' : B' ≤ w.heap.size) (hw : cwrongF ps qs ≠ 0) :
    Calls Tryd.prog 21 #[.slice A n c, .slice A' n' c'] w fun e w' => e = .returned (.tuple #[.agg #[.int .i64 0, .int .i64 0], .int .i64 (cwrongF ps qs)]) ∧ Below w.heap.size w w' := by
  obtain ⟨W, hW⟩ : ∃ W, w.alloc (.cells #[.int .i64 0, .int .i64 0] 34) = W := ⟨_, rfl⟩
  have bW : Below w.heap.size w W := by subst hW; exact (Below.refl _ _).alloc (Nat.le_refl _) _
  have k0 : Blk W w.heap.size 34 #[.int .i64 0, .int .i64 0] := by subst hW; exact Blk.new w _ rfl _ _
  have HR := Lib.hid (refReduce_bad ps qs A A' n n' c c' B B' W hn hn' hx hx' (hr.below bW hB) (hr'.below bW hB') hl hl' hw)
  obtain ⟨e, he⟩ : ∃ e, cwrongF ps qs = e := ⟨_, rfl⟩
  rw [he] at HR hw ⊢
  have he0 : (e != 0) = true := by simpa using hw
  have z0 := k0.frozen 0
  have z1 := k0.frozen 1
  have g0 := k0.cell 0
  have g1 := k0.cell 1
  have k3 := (k0.set 0 (.int .i64 0)).set 1 (.int .i64 0)
  have c0 := k3.cell 0
  have c1 := k3.cell 1
  have bb := (bW.setCell (p := ⟨w.heap.size, 0, none⟩) (Nat.le_refl _) (.int .i64 0)).setCell (p := ⟨w.heap.size, 1, none⟩) (Nat.le_refl _) (.int .i64 0)
  simp at g0 g1 c0 c1
  clear hx hx' hr hr' hl hl' hn hn' he hw hB hB' k0 k3 bW
  go_enter Tryd.func21, Tryd.ntmps21
  go_wp2_with fail
  try rw [hW]
  refine HR.out.mono ?_
  rintro e w' ⟨rfl, rfl⟩
  clear hW
  go_wp2_with fail
  exact bodyPost_ret (v := .tuple #[.agg #[.int .i64 0, .int .i64 0], .int .i64 e]) (by simp [results, Tryd.results21, go_sem, c0, c1]) rfl ⟨rfl, bb⟩
theorem refRatio_any (ps qs : List Int) (A A' : Option Addr) (n n' c c' B B' : Nat) (w : World) (hn : ps.length = n) (hn' : qs.length = n') (hx : AllFit ps) (hx' : AllFit qs) (hr : Rd w B A (cellsI ps)) (hr' : Rd w B' A' (cellsI qs)) (hl : n ≤ maxLen) (hl' : n' ≤ maxLen)
    (hB : B ≤ w.heap.size) (hB' : B' ≤ w.heap.size) :
    Calls Tryd.prog 21 #[.slice A n c, .slice A' n' c'] w fun e w' => e = .returned (.tuple #[.agg #[.int .i64 (ratioF ps qs).1.n, .int .i64 (ratioF ps qs).1.d], .int .i64 (ratioF ps qs).2]) ∧ Below w.heap.size w w' := by
  unfold ratioF
  by_cases hw : cwrongF ps qs = 0
  · obtain ⟨h1, h2, h3, h4⟩ := cwrongF_ok hw
    have e1 := natL_cast h3
    have e2 := natL_cast h4
    have := refRatio_ok (natL ps) (natL qs) A A' c c' B B' w (natL_ok h3 hx) (natL_ok h4 hx') (by rw [natL_length]; exact h1) (by rw [natL_length]; exact h2) (by rw [e1]; exact hr) (by rw [e2]; exact hr') hB hB'
    rw [natL_length, natL_length, hn, hn'] at this
    rw [if_pos hw]
    exact this
  · rw [if_neg hw]
    exact refRatio_bad ps qs A A' n n' c c' B B' w hn hn' hx hx' hr hr' hl hl' hB hB' hw
end Go.Proofs.YtblkcdenmgkddaaDoor
