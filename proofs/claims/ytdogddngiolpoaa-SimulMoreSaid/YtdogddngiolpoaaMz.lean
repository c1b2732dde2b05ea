/-
  SimulMore.
-/
import Derived.Test.YtdogddngiolpoaaMa
namespace Go.Proofs.Ytdogddngiolpoaa
open Go.RowKit

theorem arcAt_fit {ars : List ArcV} (hx : ∀ a ∈ ars, a.fit) {i : Nat} (hi : i < ars.length) : (arcAt ars i).fit := hx _ (arcAt_mem hi)
theorem more_fit {ars : List ArcV} (hx : ∀ a ∈ ars, a.fit) {i : Nat} (hi : i < ars.length) (hs : (arcAt ars i).s < 256) : ∀ a ∈ moreF ars i, a.fit := by
  intro a ha
  obtain ⟨j, hj⟩ := List.getElem?_of_mem ha
  have hjl := (List.getElem?_eq_some_iff.1 hj).1
  rw [more_len] at hjl
  have e := arcAt_some hj
  rw [more_at ars hi] at e
  split at e
  · subst e
    obtain ⟨h1, h2, h3, h4, h5⟩ := arcAt_fit hx hi
    refine ⟨h1, h2, h3, h4, ?_⟩
    show fits ((arcAt ars i).s + 1)
    unfold fits at h5 ⊢
    omega
  · subst e; exact hx _ (arcAt_mem hjl)

set_option maxRecDepth 100000 in
set_option maxHeartbeats 4000000 in
theorem moreLaw_any (n : Int) (ars : List ArcV) (A : Option Addr) (l c : Nat) (rs : List Int) (R : Option Addr) (m cr : Nat) (arc : Int) (w : World) (hl : ars.length = l) (hx : ∀ a ∈ ars, a.fit) (hr : Rd w w.heap.size A (cellsA ars)) (hm : l ≤ maxLen)
    (hrs : rs.length = m) (hlcr : m ≤ cr) (hfr : AllFit rs) (hrr : Rd w w.heap.size R (cellsI rs)) (hzr : cr * 8 ≤ 140737488351232) (_ : fits arc) :
    Calls Try.prog 7 #[.agg #[.int .i64 n, .slice A l c], .slice R m cr, .int .i64 arc] w fun e w' => e = .returned (.bool true) ∧ Below w.heap.size w w' := by
  subst hl hrs
  obtain ⟨B, hB⟩ : ∃ B, w.heap.size = B := ⟨_, rfl⟩
  rw [hB] at hr hrr ⊢
  have hmm : rs.length ≤ maxLen := by unfold maxLen; omega
  have b1 := (Below.refl B w).alloc (by omega) (.cells #[.int .i64 n, .slice A ars.length c] 24)
  have k1 := Blk.new w B hB.symm 24 #[.int .i64 n, .slice A ars.length c]
  have hz1 : (w.alloc (.cells #[.int .i64 n, .slice A ars.length c] 24)).heap.size = B + 1 := by simp; omega
  obtain ⟨a1, ha1⟩ : ∃ a, ansF (pickS ars n.toNat rs []) n ars rs [] = a := ⟨_, rfl⟩
  obtain ⟨e1, he1⟩ : ∃ a, wrongF n ars rs [] = a := ⟨_, rfl⟩
  have hm1 := ans_len2 (n := n) (ars := ars) (rs := rs) (ps := []) (pickS ars n.toNat rs [])
  rw [ha1] at hm1
  go_enter Try.func7, Try.ntmps7
  go_wp2_with fail
  generalize w.alloc (.cells #[.int .i64 n, .slice A ars.length c] 24) = W1 at *
  refine (simRun_any n ars A ars.length c rs R rs.length cr [] none 0 0 W1 rfl hx ((hr.below b1 (Nat.le_refl _)).more (by omega)) hm rfl hfr ((hrr.below b1 (Nat.le_refl _)).more (by omega)) hmm rfl (fun _ h => by cases h) (.inl rfl) (by omega)).mono ?_
  rintro e w2 ⟨lv, sv, rfl, ol, os, hb2⟩
  rw [ha1] at ol os
  rw [he1]
  obtain ⟨Al, cl, rfl, _⟩ := own_slice ol
  obtain ⟨As, cs, rfl, _⟩ := own_slice os
  have hz2 := hb2.size
  have b2 := b1.trans (hb2.mono (by omega))
  have k2 := k1.below hb2 (by omega)
  clear ol os b1 k1 hb2
  have ba := (Below.refl w2.heap.size w2).alloc (Nat.le_refl _) (.cells #[.slice Al a1.1.length cl, .slice As a1.2.length cs] 29)
  have kp := Blk.new w2 _ rfl 29 #[.slice Al a1.1.length cl, .slice As a1.2.length cs]
  have b3 := b2.alloc (by omega) (.cells #[.slice Al a1.1.length cl, .slice As a1.2.length cs] 29)
  have k3 := k2.below ba k2.lt
  have hz3 : (w2.alloc (.cells #[.slice Al a1.1.length cl, .slice As a1.2.length cs] 29)).heap.size = w2.heap.size + 1 := by simp
  have d0 := k3.cell 0
  have d1 := k3.cell 1
  simp only [List.getElem?_toArray, List.getElem?_cons_zero, List.getElem?_cons_succ] at d0 d1
  have hr3 := hr.below b3 (Nat.le_refl _)
  have hrr3 := hrr.below b3 (Nat.le_refl _)
  clear b2 k2 ba
  obtain ⟨W3, hW3⟩ : ∃ W3, w2.alloc (.cells #[.slice Al a1.1.length cl, .slice As a1.2.length cs] 29) = W3 := ⟨_, rfl⟩
  rw [hW3] at kp b3 k3 hz3 d0 d1 hr3 hrr3
  have quit : Calls Try.prog 15 #[] W3 fun e w' => e = .returned (.bool true) ∧ Below B w w' :=
    (awake_any W3).mono fun e w' ⟨h1, h2⟩ => ⟨h1, b3.trans (h2.mono (by omega))⟩
  have Quit := Lib.hid quit
  clear quit
  by_cases h1 : e1 = 0
  · subst h1
    by_cases h2 : arc < 0
    · go_wp2_with fail
      try rw [hW3]
      refine Quit.out.mono ?_
      rintro e w4 ⟨rfl, b4⟩
      go_wp2_with fail
      go_ret
      exact ⟨rfl, b4⟩
    · obtain ⟨i, rfl⟩ : ∃ i : Nat, arc = i := ⟨arc.toNat, by omega⟩
      by_cases h3 : i < ars.length
      · obtain ⟨b, off, a, rfl, hbl, hf, c00, c01, c02, c03, c04, hd, hat⟩ := hr3.arc hx h3
        have haa := arcAt_some hat.out
        have hi3 : (i : Int) < (ars.length : Int) := by omega
        by_cases h4 : 256 ≤ a.s
        · clear c00 c01 c02 c03
          go_wp2_with fail
          try rw [hW3]
          refine Quit.out.mono ?_
          rintro e w4 ⟨rfl, b4⟩
          go_wp2_with fail
          go_ret
          exact ⟨rfl, b4⟩
        · have h4' : a.s < 256 := by omega
          have has : (arcAt ars i).s < 256 := by rw [haa]; exact h4'
          clear c00 c01 c02 c03
          go_wp2_with fail
          try rw [hW3]
          obtain ⟨nn, rfl, hck, hN, -⟩ := wrongF_parts he1
          have l96 := hN.l96
          have hw2' := more_wrong h3 has he1
          have hbk := more_blocks h3 has he1
          rw [ha1] at hbk
          obtain ⟨a2, ha2⟩ : ∃ x, ansF (pickS (moreF ars i) (nn : Int).toNat rs []) nn (moreF ars i) rs [] = x := ⟨_, rfl⟩
          rw [ha2] at hbk
          clear hW3 Quit he1 hck hN
          refine (netCopy_any nn ars (some ⟨b, off, none⟩) ars.length c W3 rfl (hr3.more (by omega)) hm (by omega)).mono ?_
          rintro e w4 ⟨A4, c4, rfl, o4, hb4⟩
          obtain ⟨ga, rfl⟩ := own_addr o4 (by omega)
          have hz4 := hb4.size
          have b4 := b3.trans (hb4.mono (by omega))
          have kp4 := kp.below hb4 (by omega)
          have hrr4 := hrr3.below hb4 (by omega)
          have hga := (o4.lt ga rfl)
          clear b3 k3 d0 d1 hr3 hrr3 c04 hb4 kp
          have ba := (Below.refl w4.heap.size w4).alloc (Nat.le_refl _) (.cells #[.int .i64 nn, .slice (some ⟨ga, 0, none⟩) ars.length c4] 24)
          have km := Blk.new w4 _ rfl 24 #[.int .i64 nn, .slice (some ⟨ga, 0, none⟩) ars.length c4]
          have b5 := b4.alloc (by omega) (.cells #[.int .i64 nn, .slice (some ⟨ga, 0, none⟩) ars.length c4] 24)
          have kp5 := kp4.below ba kp4.lt
          have o5 := own_below o4 ba
          have hrr5 := hrr4.below ba (by omega)
          have hz5 : (w4.alloc (.cells #[.int .i64 nn, .slice (some ⟨ga, 0, none⟩) ars.length c4] 24)).heap.size = w4.heap.size + 1 := by simp
          have m0 := km.cell 0
          have m1 := km.cell 1
          simp only [List.getElem?_toArray, List.getElem?_cons_zero, List.getElem?_cons_succ] at m0 m1
          obtain ⟨W5, hW5⟩ : ∃ W5, w4.alloc (.cells #[.int .i64 nn, .slice (some ⟨ga, 0, none⟩) ars.length c4] 24) = W5 := ⟨_, rfl⟩
          rw [hW5] at km b5 kp5 o5 hrr5 hz5 m0 m1
          have cs4 : W5.cell? ⟨ga, i * 5 + 4, none⟩ = some (.int .i64 a.s) := by
            rw [o5.cellAt (i * 5 + 4) (by omega)]
            exact cellsA_at ars i a hat.out 4 _ rfl
          have fro := o5.frozenAt (i * 5 + 4)
          have st := (o5.stored (i * 5 + 4) (.int .i64 (a.s + 1))).1
          have hmc := more_cells ars h3
          rw [haa] at hmc
          rw [hmc] at st
          have kp6 := kp5.far (p := ⟨ga, i * 5 + 4, none⟩) (by simp only; omega) (.int .i64 (a.s + 1))
          have km6 := km.far (p := ⟨ga, i * 5 + 4, none⟩) (by simp only; omega) (.int .i64 (a.s + 1))
          have b6 := b5.setCell (p := ⟨ga, i * 5 + 4, none⟩) (by simp only; omega) (.int .i64 (a.s + 1))
          have hrr6 := hrr5.below ((Below.refl B _).setCell (p := ⟨ga, i * 5 + 4, none⟩) (by simp only; omega) (.int .i64 (a.s + 1))) (Nat.le_refl _)
          have haf : fits (a.s + 1) := by have := hf.2.2.2.2; unfold fits at this ⊢; omega
          unfold fits at haf
          clear b4 kp4 o4 hrr4 ba kp5 hrr5 km o5 hmc b5
          go_wp2_with fail
          try rw [hW5]
          clear hW5
          have h5 : (0 : Int) ≤ (i : Int) := by omega
          go_region
          generalize W5.setCell ⟨ga, i * 5 + 4, none⟩ (.int .i64 (a.s + 1)) = W6 at *
          have n0 := km6.cell 0
          have n1 := km6.cell 1
          simp only [List.getElem?_toArray, List.getElem?_cons_zero, List.getElem?_cons_succ] at n0 n1
          clear cs4 fro m0 m1
          go_wp2_with fail
          refine (simRun_any nn (moreF ars i) (some ⟨ga, 0, none⟩) ars.length c4 rs R rs.length cr [] none 0 0 W6.drew (more_len ars i) (more_fit hx h3 has) (rd_of_own (own_below st (Drawn.below _ ((Drawn.refl _).drewN 1)))) hm rfl hfr ((hrr6.below (Drawn.below _ ((Drawn.refl _).drewN 1)) (Nat.le_refl _)).more (by have := b6.size; show B ≤ W6.heap.size; omega)) hmm rfl (fun _ h => by cases h) (.inl rfl) (by omega)).mono ?_
          rintro e w7 ⟨lv, sv, rfl, ol, os, hb7⟩
          rw [ha2] at ol os
          rw [hw2']
          obtain ⟨Al2, cl2, rfl, _⟩ := own_slice ol
          obtain ⟨As2, cs2, rfl, _⟩ := own_slice os
          have hz6 : w2.heap.size < W6.heap.size := kp6.lt
          have hz7 := hb7.size
          have b7 := b6.trans ((Drawn.below B ((Drawn.refl W6).drewN 1)).trans (hb7.mono (by have := b6.size; show B ≤ W6.heap.size; omega)))
          have kp7 := Blk.below (w := W6.drew) kp6 hb7 hz6
          clear ol os hb7 kp6 km6 b6 hrr6 st n0 n1
          have ba := (Below.refl w7.heap.size w7).alloc (Nat.le_refl _) (.cells #[.slice Al2 a2.1.length cl2, .slice As2 a2.2.length cs2] 29)
          have kq := Blk.new w7 _ rfl 29 #[.slice Al2 a2.1.length cl2, .slice As2 a2.2.length cs2]
          have b8 := b7.alloc (by have := b7.size; omega) (.cells #[.slice Al2 a2.1.length cl2, .slice As2 a2.2.length cs2] 29)
          have kp8 := kp7.below ba kp7.lt
          have p1 := kp8.cell 1
          have p2 := kp7.cell 1
          have q1 := kq.cell 1
          simp only [List.getElem?_toArray, List.getElem?_cons_zero, List.getElem?_cons_succ] at p1 p2 q1
          clear ba kp7 b7 kp8 kq
          obtain ⟨W8, hW8⟩ : ∃ W8, w7.alloc (.cells #[.slice Al2 a2.1.length cl2, .slice As2 a2.2.length cs2] 29) = W8 := ⟨_, rfl⟩
          rw [hW8] at b8 p1 q1
          have hle : (a2.2.length : Int) ≤ (a1.2.length : Int) := by omega
          by_cases hp : 0 < a1.2.length
          · have hp' : (0 : Int) < (a1.2.length : Int) := by omega
            go_wp2_with fail
            try rw [hW8]
            clear hW8 p1 p2 q1
            refine (awake_any W8).mono ?_
            rintro e w9 ⟨rfl, hb9⟩
            have b9 := b8.trans (hb9.mono (by have := b8.size; omega))
            go_wp2_with fail
            go_ret
            exact ⟨rfl, b9⟩
          · have hp0 : a1.2.length = 0 := by omega
            have hp1 : a2.2.length = 0 := by omega
            rw [hp1] at hW8 q1
            rw [hp0] at p1 p2
            clear hle hp
            go_wp2_with fail
            try rw [hW8]
            clear hW8 p1 p2 q1
            refine (awake_any W8).mono ?_
            rintro e w9 ⟨rfl, hb9⟩
            have b9 := b8.trans (hb9.mono (by have := b8.size; omega))
            go_wp2_with fail
            go_ret
            exact ⟨rfl, b9⟩
      · have hi3 : (ars.length : Int) ≤ (i : Int) := by omega
        go_wp2_with fail
        try rw [hW3]
        refine Quit.out.mono ?_
        rintro e w4 ⟨rfl, b4⟩
        go_wp2_with fail
        go_ret
        exact ⟨rfl, b4⟩
  · have hne : (e1 != 0) = true := by simpa using h1
    go_wp2_with fail
    try rw [hW3]
    refine Quit.out.mono ?_
    rintro e w4 ⟨rfl, b4⟩
    go_wp2_with fail
    go_ret
    exact ⟨rfl, b4⟩
end Go.Proofs.Ytdogddngiolpoaa
