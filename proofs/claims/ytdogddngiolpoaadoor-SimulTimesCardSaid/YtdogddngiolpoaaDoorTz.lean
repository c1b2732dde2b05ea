/-
  SimulTimes.
-/
import Derived.Test.YtdogddngiolpoaaDoorM18
import Derived.Test.YtdogddngiolpoaaDoorYn
namespace Go.Proofs.YtdogddngiolpoaaDoor
open Go.RowKit

/-- what Solve finds steady: counts as simul.Run wants them -/
theorem steady_reps {n : Nat} {ars : List ArcV} (hc : checkF n ars = 0) (hb : ¬ Big n (cR n ars)) (he : ∀ a ∈ ars, evA (cR n ars) a = true) :
    (rowN n fun v => (cR n ars v : Int)).length = n ∧ (rowN n fun v => (cR n ars v : Int)).all repB = true ∧ ars.all (evenB (rowN n fun v => (cR n ars v : Int))) = true := by
  refine ⟨rowN_length _ _, List.all_eq_true.2 fun x hx => ?_, List.all_eq_true.2 fun a ha => ?_⟩
  · obtain ⟨v, hv, rfl⟩ := List.mem_map.1 hx
    have hv := List.mem_range.1 hv
    have h1 := not_big hb hv
    have h2 := (ctx_at hc).ri.pos v
    unfold repB
    rw [decide_eq_true_eq]
    omega
  · have h1 := he a ha
    have ha2 := (ctx_at hc).arc a ha
    unfold evA at h1
    unfold evenB repAt
    rw [decide_eq_true_eq] at h1 ⊢
    rw [rowN_at (by omega), rowN_at (by omega)]
    exact h1
theorem reps_fit {rs : List Int} (h : rs.all repB = true) : AllFit rs := by
  intro x hx
  have := List.all_eq_true.1 h x hx
  unfold repB at this
  rw [decide_eq_true_eq] at this
  unfold fits; omega

set_option maxRecDepth 100000 in
set_option maxHeartbeats 4000000 in
theorem timesLaw_any (n : Int) (ars : List ArcV) (A : Option Addr) (l c : Nat) (k : Int) (w : World) (hl : ars.length = l) (hx : ∀ a ∈ ars, a.fit) (hr : Rd w w.heap.size A (cellsA ars)) (hm : l ≤ maxLen) (_ : fits k) (hT : Tab w) :
    Calls Tryd.prog 3 #[.agg #[.int .i64 n, .slice A l c], .int .i64 k] w fun e w' => e = .returned (.bool true) ∧ Below w.heap.size w w' := by
  subst hl
  obtain ⟨i0, hi, hy0, hy1, hy2⟩ := info_parts info_int
  obtain ⟨B, hB⟩ : ∃ B, w.heap.size = B := ⟨_, rfl⟩
  rw [hB] at hr ⊢
  have b1 := (Below.refl B w).alloc (by omega) (.cells #[.int .i64 n, .slice A ars.length c] 24)
  have k1 := Blk.new w B hB.symm 24 #[.int .i64 n, .slice A ars.length c]
  have hz1 : (w.alloc (.cells #[.int .i64 n, .slice A ars.length c] 24)).heap.size = B + 1 := by simp; omega
  have hT1 := hT.below b1 (by have := hT.pos; omega)
  go_enter Tryd.func3, Tryd.ntmps3
  go_wp2_with fail
  generalize w.alloc (.cells #[.int .i64 n, .slice A ars.length c] 24) = W1 at *
  refine (solve_any n ars A ars.length c W1 rfl hx ((hr.below b1 (Nat.le_refl _)).more (by omega)) hm hT1).mono ?_
  rintro e w2 ⟨vd, reps, cyc, kE, Ar, cr, Ac, cc, rfl, hs, -, -, oR, -, hb2⟩
  obtain ⟨LR, hLR⟩ : ∃ L, reps.length = L := ⟨_, rfl⟩
  obtain ⟨LC, hLC⟩ : ∃ L, cyc.length = L := ⟨_, rfl⟩
  rw [hLR, hLC]
  rw [hLR] at oR
  have hz2' := hb2.size
  have b2 := b1.trans (hb2.mono (by omega))
  have k2 := k1.below hb2 (by omega)
  have rr2 := rd_of_own oR
  clear b1 k1 hb2 oR hT1
  have ba := (Below.refl w2.heap.size w2).alloc (Nat.le_refl _) (.cells #[.int .u8 vd, .slice Ar LR cr, .slice Ac LC cc] 29)
  have kp := Blk.new w2 _ rfl 29 #[.int .u8 vd, .slice Ar LR cr, .slice Ac LC cc]
  have b3 := b2.alloc (by omega) (.cells #[.int .u8 vd, .slice Ar LR cr, .slice Ac LC cc] 29)
  have k3 := k2.below ba k2.lt
  have rr3 := rr2.below ba (Nat.le_refl _)
  have hz3 : (w2.alloc (.cells #[.int .u8 vd, .slice Ar LR cr, .slice Ac LC cc] 29)).heap.size = w2.heap.size + 1 := by simp
  obtain ⟨gp, hgp⟩ : ∃ g, w2.heap.size = g := ⟨_, rfl⟩
  rw [hgp] at kp hz3 rr3
  clear b2 k2 ba rr2
  have p0 := kp.cell 0
  have p1 := kp.cell 1
  simp only [List.getElem?_toArray, List.getElem?_cons_zero, List.getElem?_cons_succ] at p0 p1
  obtain ⟨W3, hW3⟩ : ∃ W3, w2.alloc (.cells #[.int .u8 vd, .slice Ar LR cr, .slice Ac LC cc] 29) = W3 := ⟨_, rfl⟩
  rw [hW3] at kp b3 k3 rr3 hz3 p0 p1
  have HB3 := Lib.hid b3
  have hzB : B + 1 ≤ gp := by omega
  rcases hs with ⟨hc, rfl, rfl, rfl, rfl⟩ | ⟨hc, rfl, m, rfl, hs⟩
  · obtain ⟨q, hq⟩ : ∃ q, checkF n ars = q := ⟨_, rfl⟩
    rw [hq] at hc ⊢
    have hne : (q != 0) = true := by simpa using hc
    clear hq hc b3 k3 kp
    go_wp2_with fail
    try rw [hW3]
    clear hW3
    refine (awake_any W3).mono ?_
    rintro e w6 ⟨rfl, hb6⟩
    have b6 := HB3.out.trans (hb6.mono (by omega))
    go_wp2_with fail
    go_ret
    exact ⟨rfl, b6⟩
  · rcases hs with ⟨-, rfl, rfl, rfl⟩ | ⟨-, rfl, rfl, -⟩ | ⟨hbig, heA, rfl, rfl, rfl⟩
    · clear b3 k3 kp hc
      go_wp2_with fail
      try rw [hW3]
      clear hW3
      refine (awake_any W3).mono ?_
      rintro e w6 ⟨rfl, hb6⟩
      have b6 := HB3.out.trans (hb6.mono (by omega))
      go_wp2_with fail
      go_ret
      exact ⟨rfl, b6⟩
    · clear b3 k3 kp hc
      go_wp2_with fail
      try rw [hW3]
      clear hW3
      refine (awake_any W3).mono ?_
      rintro e w6 ⟨rfl, hb6⟩
      have b6 := HB3.out.trans (hb6.mono (by omega))
      go_wp2_with fail
      go_ret
      exact ⟨rfl, b6⟩
    · by_cases hk1 : k < 1
      · clear b3 k3 kp hc
        go_wp2_with fail
        try rw [hW3]
        clear hW3
        refine (awake_any W3).mono ?_
        rintro e w6 ⟨rfl, hb6⟩
        have b6 := HB3.out.trans (hb6.mono (by omega))
        go_wp2_with fail
        go_ret
        exact ⟨rfl, b6⟩
      by_cases hk8 : 8 < k
      · clear b3 k3 kp hc
        go_wp2_with fail
        try rw [hW3]
        clear hW3
        refine (awake_any W3).mono ?_
        rintro e w6 ⟨rfl, hb6⟩
        have b6 := HB3.out.trans (hb6.mono (by omega))
        go_wp2_with fail
        go_ret
        exact ⟨rfl, b6⟩
      obtain ⟨kk, rfl⟩ : ∃ kk : Nat, k = kk := ⟨k.toNat, by omega⟩
      obtain ⟨hlen, hall, heven⟩ := steady_reps hc hbig heA
      generalize (rowN m fun v => (cR m ars v : Int)) = rs at *
      obtain rfl : LR = m := by omega
      obtain ⟨m', hm', hN⟩ := netOk_of hc
      obtain rfl : LR = m' := by omega
      clear hm'
      have n32 := hN.n32
      have hpos := hN.pos
      have hfr := reps_fit hall
      have hfk : AllFit (timesL kk rs) := fun x hx => by
        obtain ⟨y, hy, rfl⟩ := List.mem_map.1 hx
        have h1 := List.all_eq_true.1 hall y hy
        unfold repB at h1
        rw [decide_eq_true_eq] at h1
        have h2 : (kk : Int) = 1 ∨ (kk : Int) = 2 ∨ (kk : Int) = 3 ∨ (kk : Int) = 4 ∨ (kk : Int) = 5 ∨ (kk : Int) = 6 ∨ (kk : Int) = 7 ∨ (kk : Int) = 8 := by omega
        unfold fits
        rcases h2 with h | h | h | h | h | h | h | h <;> rw [h] <;> omega
      have hkl : (timesL kk rs).length = LR := by unfold timesL; rw [List.length_map]; exact hlen
      obtain ⟨bR, oR, x0, rfl, hbR, -, -, -, -⟩ := rr3.at_ hfr (k := 0) (by omega)
      obtain ⟨he1, he2, he3⟩ := times_err (k := (kk : Int)) (by omega) hc hlen hall heven
      have hboth := fun h h' => times_both (n := LR) (ars := ars) (rs := rs) (k := kk) (by omega) h h'
      have hk1' : (1 : Int) ≤ (kk : Int) := by omega
      have hk8' : (kk : Int) ≤ 8 := by omega
      have HN := Lib.hid hN
      have Hall := Lib.hid hall
      have Hboth := Lib.hid hboth
      have HE := Lib.hid (And.intro he1 (And.intro he2 he3))
      have HK3 := Lib.hid k3
      have HKp := Lib.hid kp
      have HRR := Lib.hid rr3
      have HA3 := Lib.hid (hr.below b3 (Nat.le_refl _))
      clear hboth he1 he2 he3 hc hbig heA hall heven hN k3 kp rr3 b3 hk1 hk8 hr
      go_wp2_with fail
      try rw [hW3]
      clear p0 p1
      go_loopw [7, 8] (fun s i wr => ∃ (j : Nat) (A' : Option Addr) (c' : Nat), j ≤ LR ∧ i = .int .i64 j ∧ s = .slice A' j c' ∧ wr.ownsRow W3.heap.size 3 1 (.slice A' j c') j (cellsI ((timesL kk rs).take j)) ∧ Below W3.heap.size W3 wr) (fun _ i _ => LR - (intOf i).toNat)
      case atStart =>
        exact ⟨0, none, 0, by omega, rfl, rfl, World.ownsRow_nil _ _ _ _, Below.refl _ _⟩
      case round =>
        obtain ⟨j, A', c', hj, rfl, rfl, ho, hb⟩ := hrel
        have kp := HKp.out.below hb (by omega)
        have p1 := kp.cell 1
        simp only [List.getElem?_toArray, List.getElem?_cons_zero, List.getElem?_cons_succ] at p1
        have hsz := hb.size
        by_cases hjl : j < LR
        · have hcx := rd_repAt (HRR.out.below hb (by omega)) (f := j) (by omega)
          have hrj := repAt_lt Hall.out (f := j) (by omega)
          have hst : (timesL kk rs).take (j + 1) = (timesL kk rs).take j ++ [(kk : Int) * repAt rs j] := by
            rw [List.take_add_one]
            congr 1
            unfold timesL
            rw [List.getElem?_map]
            unfold repAt
            rw [Int.toNat_natCast, List.getElem?_eq_getElem (by omega : j < rs.length)]
            rfl
          generalize repAt rs j = x at hcx hrj hst
          have hkx : 0 ≤ (kk : Int) * x ∧ (kk : Int) * x ≤ 32768 := by
            have h2 : (kk : Int) = 1 ∨ (kk : Int) = 2 ∨ (kk : Int) = 3 ∨ (kk : Int) = 4 ∨ (kk : Int) = 5 ∨ (kk : Int) = 6 ∨ (kk : Int) = 7 ∨ (kk : Int) = 8 := by omega
            rcases h2 with h | h | h | h | h | h | h | h <;> rw [h] <;> omega
          have hwx : IntKind.i64.wrap ((kk : Int) * x) = (kk : Int) * x := IntWalk.i64_in _ (by omega)
          have h1 : (0 : Int) ≤ (j : Int) := by omega
          have h2 : (j : Int) < (LR : Int) := by omega
          have Hst := Lib.hid hst
          have HO := Lib.hid ho
          have HB := Lib.hid hb
          clear hst ho hb kp
          have hAPP := fun (op : Array Oper) (rest : List Oper) (o : Oper) (a : Act) (Q : Exit → Act → World → Prop) h1 h2 h3 h4 K => wpList_append_rd (P := Tryd.prog) (w := wr.alloc (.cells #[.int .i64 ((kk : Int) * x)] 3)) (ops := op) (rest := rest) (o := o) (a := a) (Q := Q) h1 (.tmp 41) (.tmp 49) 26 h2 W3.heap.size 3 i0 (.int .i64 0) 1 8 Tryd.underlying26 hi hy0 hy1 hy2 rfl (by decide) (.slice A' j c') j (cellsI ((timesL kk rs).take j)) h3 (HO.out.alloc _) (wr.heap.size + 1) (some ⟨wr.heap.size, 0, none⟩) 1 1 (cellsI [(kk : Int) * x]) h4 rfl (rd_alloc wr wr.heap.size rfl 3 (cellsI [(kk : Int) * x])) (cellsI_one [(kk : Int) * x]) (by unfold maxLen; omega) (by omega) (by simp; omega) K
          go_wp2_with (at_builtin; refine hAPP _ _ _ _ _ ?_ ?_ ?_ ?_ ?_; rfl; rfl; rfl; rfl)
          intro v' w4 o4 g4 h4
          obtain ⟨A4, c4, rfl, -⟩ := own_slice o4
          have hb4 := (HB.out.alloc hsz (.cells #[.int .i64 ((kk : Int) * x)] 3)).grown g4 (by simp; omega) (fun k hk => (HO.out.lt k hk).1)
          have o5 : w4.ownsRow W3.heap.size 3 1 (.slice A4 (j + 1) c4) (j + 1) (cellsI ((timesL kk rs).take (j + 1))) := by
            have e : cellsI ((timesL kk rs).take j ++ [(kk : Int) * x]) = cellsI ((timesL kk rs).take j) ++ cellsI [(kk : Int) * x] := by simp [cellsI]
            rw [Hst.out, e, hz3]
            exact o4
          clear o4 g4 h4 hAPP
          go_wp2
          go_roundw
          case rel => exact ⟨j + 1, A4, c4, by omega, by go_num, rfl, o5, hb4⟩
          case measure => simp [intOf]; omega
        · obtain rfl : j = LR := by omega
          rw [List.take_of_length_le (by omega)] at ho
          have rk := rd_of_own ho
          have HA := Lib.hid ((HA3.out.more (by omega : B ≤ W3.heap.size)).below hb (Nat.le_refl _))
          have HR := Lib.hid ((HRR.out.more (by omega : gp ≤ W3.heap.size)).below hb (Nat.le_refl _))
          have HRk := Lib.hid rk
          have HK := Lib.hid (HK3.out.below hb (by omega))
          have HB := Lib.hid (HB3.out.trans (hb.mono (by omega)))
          have d0 := HK.out.cell 0
          have d1 := HK.out.cell 1
          simp only [List.getElem?_toArray, List.getElem?_cons_zero, List.getElem?_cons_succ] at d0 d1
          clear ho hb rk kp HA3 HRR HKp HK3 HB3
          obtain ⟨a1, ha1⟩ : ∃ a, ansF (pickS ars (j : Int).toNat rs []) j ars rs [] = a := ⟨_, rfl⟩
          obtain ⟨e1, he1⟩ : ∃ a, wrongF j ars rs [] = a := ⟨_, rfl⟩
          obtain ⟨a2, ha2⟩ : ∃ a, ansF (pickS ars (j : Int).toNat (timesL kk rs) []) j ars (timesL kk rs) [] = a := ⟨_, rfl⟩
          obtain ⟨e2, he2⟩ : ∃ a, wrongF j ars (timesL kk rs) [] = a := ⟨_, rfl⟩
          have hl1 := ans_list (n := j) (ars := ars) (rs := rs) (ps := []) (pickS ars (j : Int).toNat rs [])
          have hbo := Hboth.out
          have hee := HE.out
          rw [ha1, ha2, he1, he2] at hbo
          rw [he1, he2] at hee
          rw [ha1] at hl1
          obtain ⟨L1, hL1⟩ : ∃ L, a1.1.length = L := ⟨_, rfl⟩
          obtain ⟨S1, hS1⟩ : ∃ L, a1.2.length = L := ⟨_, rfl⟩
          obtain ⟨L2, hL2⟩ : ∃ L, a2.1.length = L := ⟨_, rfl⟩
          obtain ⟨S2, hS2⟩ : ∃ L, a2.2.length = L := ⟨_, rfl⟩
          have hb1 : a1.2 = [] ↔ S1 = 0 := by rw [← hS1]; exact List.length_eq_zero_iff.symm
          have hb2 : a2.2 = [] ↔ S2 = 0 := by rw [← hS2]; exact List.length_eq_zero_iff.symm
          rw [hb1, hb2, hL1, hL2] at hbo
          rw [hL1] at hl1
          have Hbo := Lib.hid hbo
          have Hee := Lib.hid hee
          have Ha1 := Lib.hid ha1
          have Ha2 := Lib.hid ha2
          have He1 := Lib.hid he1
          have He2 := Lib.hid he2
          have HL1 := Lib.hid hL1
          have HL2 := Lib.hid hL2
          have HS1 := Lib.hid hS1
          have HS2 := Lib.hid hS2
          clear hbo hee ha1 ha2 he1 he2 hL1 hL2 hS1 hS2 hb1 hb2 Hboth HE
          go_wp2_with fail
          refine (simRun_any j ars A ars.length c rs (some ⟨bR, oR, none⟩) j cr [] none 0 0 wr rfl hx (HA.out.more (by omega)) hm hlen hfr (HR.out.more (by omega)) (by unfold maxLen; omega) rfl (fun _ h => by cases h) (.inl rfl) (by omega)).mono ?_
          rintro e w5 ⟨lv, sv, rfl, ol, os, hb5⟩
          rw [Ha1.out, HL1.out] at ol
          rw [Ha1.out, HS1.out] at os
          rw [He1.out]
          obtain ⟨Al, cl, rfl, -⟩ := own_slice ol
          obtain ⟨As, cs, rfl, -⟩ := own_slice os
          have hz5 := hb5.size
          have ba := (Below.refl w5.heap.size w5).alloc (Nat.le_refl _) (.cells #[.slice Al L1 cl, .slice As S1 cs] 36)
          have b6 := hb5.trans (ba.mono hz5)
          have kq := Blk.new w5 _ rfl 36 #[.slice Al L1 cl, .slice As S1 cs]
          have hz6 : (w5.alloc (.cells #[.slice Al L1 cl, .slice As S1 cs] 36)).heap.size = w5.heap.size + 1 := by simp
          have d0' := (b6.cell (p := ⟨B, 0, none⟩) (by simp; omega)).trans d0
          have d1' := (b6.cell (p := ⟨B, 1, none⟩) (by simp; omega)).trans d1
          have ra6 := HA.out.below b6 (by omega)
          have rk6 := HRk.out.below b6 (Nat.le_refl _)
          obtain ⟨W6, hW6⟩ : ∃ W6, w5.alloc (.cells #[.slice Al L1 cl, .slice As S1 cs] 36) = W6 := ⟨_, rfl⟩
          rw [hW6] at b6 kq hz6 d0' d1' ra6 rk6
          obtain ⟨g1, hg1⟩ : ∃ g, w5.heap.size = g := ⟨_, rfl⟩
          rw [hg1] at kq hz6
          have HB6 := Lib.hid (HB.out.trans (b6.mono (by omega)))
          have HKq := Lib.hid kq
          clear ol os hb5 ba b6 kq d0 d1
          go_wp2_with fail
          try rw [hW6]
          try rw [hg1]
          refine (simRun_any j ars A ars.length c (timesL kk rs) A' j c' [] none 0 0 W6 rfl hx (ra6.more (by omega)) hm hkl hfk (rk6.more (by omega)) (by unfold maxLen; omega) rfl (fun _ h => by cases h) (.inl rfl) (by omega)).mono ?_
          rintro e w7 ⟨lv, sv, rfl, ol, os, hb7⟩
          rw [Ha2.out, HL2.out] at ol
          rw [Ha2.out, HS2.out] at os
          rw [He2.out]
          obtain ⟨Am, cm, rfl, -⟩ := own_slice ol
          obtain ⟨At, ct, rfl, -⟩ := own_slice os
          have hz7 := hb7.size
          have ba := (Below.refl w7.heap.size w7).alloc (Nat.le_refl _) (.cells #[.slice Am L2 cm, .slice At S2 ct] 36)
          have b8 := hb7.trans (ba.mono hz7)
          have kr := Blk.new w7 _ rfl 36 #[.slice Am L2 cm, .slice At S2 ct]
          have hz8 : (w7.alloc (.cells #[.slice Am L2 cm, .slice At S2 ct] 36)).heap.size = w7.heap.size + 1 := by simp
          obtain ⟨W8, hW8⟩ : ∃ W8, w7.alloc (.cells #[.slice Am L2 cm, .slice At S2 ct] 36) = W8 := ⟨_, rfl⟩
          rw [hW8] at b8 kr hz8
          obtain ⟨g2, hg2⟩ : ∃ g, w7.heap.size = g := ⟨_, rfl⟩
          rw [hg2] at kr hz8
          have kq8 := HKq.out.below b8 (by omega)
          have q0 := kq8.cell 0
          have q1 := kq8.cell 1
          have r0 := kr.cell 0
          have r1 := kr.cell 1
          simp only [List.getElem?_toArray, List.getElem?_cons_zero, List.getElem?_cons_succ] at q0 q1 r0 r1
          have HB8 := Lib.hid (HB6.out.trans (b8.mono (by omega)))
          have hwB : B ≤ W8.heap.size := by omega
          clear ol os hb7 ba b8 kr kq8 d0' d1' ra6 rk6 hW6 hg1
          obtain ⟨u1, u2, u3⟩ := Hee.out
          by_cases hE1 : e1 = 0
          · subst hE1
            by_cases hE2 : e2 = 0
            · subst hE2
              obtain ⟨v1, v2⟩ := Hbo.out rfl rfl
              have hq : ((L2 : Int) == (kk : Int) * (L1 : Int)) = true := by rw [v2]; simp
              have hmul : 0 ≤ (kk : Int) * (L1 : Int) ∧ (kk : Int) * (L1 : Int) ≤ 8 * 131072 := ⟨Int.mul_nonneg (by omega) (by omega), Int.mul_le_mul (by omega) (by omega) (by omega) (by omega)⟩
              have hw : IntKind.i64.wrap ((kk : Int) * (L1 : Int)) = (kk : Int) * (L1 : Int) := IntWalk.i64_in _ (by omega)
              obtain ⟨b, hs1⟩ : ∃ b, ((S1 : Int) == 0) = b := ⟨_, rfl⟩
              have hs2 : ((S2 : Int) == 0) = b := by rw [← hs1, Bool.eq_iff_iff]; simp only [beq_iff_eq]; omega
              have hbb : (b == b) = true := by simp
              clear v1 v2 u1 u2 u3
              go_wp2_with fail
              try rw [hW8]
              clear hW8
              refine (awake_any W8).mono ?_
              rintro e w9 ⟨rfl, hb9⟩
              have b9 := HB8.out.trans (hb9.mono hwB)
              go_wp2_with fail
              go_ret
              exact ⟨rfl, b9⟩
            · have hE : e2 = 5 ∨ e2 = 130 := by omega
              clear u1 u2 u3 hE2
              rcases hE with rfl | rfl
              all_goals
                go_wp2_with fail
                try rw [hW8]
                clear hW8
                refine (awake_any W8).mono ?_
                rintro e w9 ⟨rfl, hb9⟩
                have b9 := HB8.out.trans (hb9.mono hwB)
                go_wp2_with fail
                go_ret
                exact ⟨rfl, b9⟩
          · obtain rfl : e1 = 5 := by omega
            have hE : e2 = 5 ∨ e2 = 130 := by have := u3 rfl; omega
            clear u1 u2 u3 hE1
            rcases hE with rfl | rfl
            all_goals
              go_wp2_with fail
              try rw [hW8]
              clear hW8
              refine (awake_any W8).mono ?_
              rintro e w9 ⟨rfl, hb9⟩
              have b9 := HB8.out.trans (hb9.mono hwB)
              go_wp2_with fail
              go_ret
              exact ⟨rfl, b9⟩
end Go.Proofs.YtdogddngiolpoaaDoor
