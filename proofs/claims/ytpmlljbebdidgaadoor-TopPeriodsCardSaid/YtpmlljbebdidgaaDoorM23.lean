/-
  Gj, Gk: texts pasted together.
-/
import Derived.Test.YtpmlljbebdidgaaDoorM22
import Derived.Test.YtpmlljbebdidgaaDoorM2
/-
  graph.find, graph.Check.
-/
namespace Go.Proofs.YtpmlljbebdidgaaDoor
open Go.RowKit Go.Maps

def M0of (g : GraV) : Bool → List (List Bool) := sideM g.acts
def M1of (g : GraV) : Bool → List (List Bool) := edgesM g.edges (M0of g)
def M2of (g : GraV) : Bool → List (List Bool) := updB (M1of g) false (portsM g.ins (M1of g false))
def M3of (g : GraV) : Bool → List (List Bool) := updB (M2of g) true (portsM g.outs (M2of g true))
/-- what is wrong with a graph -/
def checkG (g : GraV) : Int :=
  if headE g = 0 then (if actorsE g.acts [] = 0 then (if edgesE g.edges (M0of g) = 0 then (if portsE g.ins (namesA g.acts) (M1of g false) = 0 then (if portsE g.outs (namesA g.acts ++ namesP g.ins) (M2of g true) = 0 then openE g.acts.length (M3of g) else portsE g.outs (namesA g.acts ++ namesP g.ins) (M2of g true)) else portsE g.ins (namesA g.acts) (M1of g false)) else edgesE g.edges (M0of g)) else actorsE g.acts []) else headE g
theorem head_ok {g : GraV} (h : headE g = 0) : nameB g.nm = true ∧ 0 < g.acts.length ∧ g.acts.length ≤ 32 ∧ g.edges.length ≤ 96 ∧ g.ins.length ≤ 16 ∧ g.outs.length ≤ 16 := by
  unfold headE at h
  split at h
  · split at h
    · cases h
    split at h
    · cases h
    split at h
    · cases h
    split at h
    · cases h
    split at h
    · cases h
    · exact ⟨by assumption, by omega, by omega, by omega, by omega, by omega⟩
  · cases h
theorem row_len_take {M : List (List Bool)} (a p : Int) (j : Nat) : ((takeM M a p).getD j []).length = (M.getD j []).length := by
  unfold takeM
  split
  · rename_i h
    obtain ⟨h1, h2, -⟩ := take_ok h
    by_cases hj : a.toNat = j
    · subst hj; rw [getD_set_self (by omega), List.length_set]
    · rw [getD_set_other hj]
  · rfl
theorem row_len_edges (xs : List GEdg) : ∀ (M : Bool → List (List Bool)) (s : Bool) (j : Nat), ((edgesM xs M s).getD j []).length = ((M s).getD j []).length := by
  induction xs with
  | nil => intro M s j; rfl
  | cons x xs ih =>
    intro M s j
    show ((edgesM xs (edgeM M x) s).getD j []).length = _
    rw [ih]
    unfold edgeM
    cases s <;> exact row_len_take _ _ _
theorem row_len_ports (xs : List PrtV) : ∀ (M : List (List Bool)) (j : Nat), ((portsM xs M).getD j []).length = (M.getD j []).length := by
  induction xs with
  | nil => intro M j; rfl
  | cons x xs ih =>
    intro M j
    show ((portsM xs (takeM M x.a x.p)).getD j []).length = _
    rw [ih, row_len_take]
theorem row_len_side (acts : List ActV) (s : Bool) (j : Nat) : ((sideM acts s).getD j []).length ≤ 16 := by
  unfold sideM
  rw [List.getD_eq_getElem?_getD, List.getElem?_map]
  cases acts[j]? with
  | none => simp
  | some x =>
    obtain ⟨h1, h2⟩ := shape_small x.tag x.ps
    simp only [Option.map_some, Option.getD_some, List.length_replicate]
    unfold portsN
    split <;> omega
theorem row_len_M3 (g : GraV) (s : Bool) (j : Nat) : ((M3of g s).getD j []).length ≤ 16 := by
  have h1 : ∀ s j, ((M1of g s).getD j []).length ≤ 16 := fun s j => by unfold M1of; rw [row_len_edges]; exact row_len_side _ _ _
  have h2 : ∀ s j, ((M2of g s).getD j []).length ≤ 16 := fun s j => by
    unfold M2of
    by_cases hs : s = false
    · subst hs; rw [updB_self, row_len_ports]; exact h1 _ _
    · rw [updB_other hs]; exact h1 _ _
  unfold M3of
  by_cases hs : s = true
  · subst hs; rw [updB_self, row_len_ports]; exact h2 _ _
  · rw [updB_other hs]; exact h2 _ _
theorem side_len (g : GraV) (s : Bool) : (M0of g s).length = g.acts.length ∧ (M1of g s).length = g.acts.length ∧ (M2of g s).length = g.acts.length ∧ (M3of g s).length = g.acts.length := by
  have h0 : ∀ s, (M0of g s).length = g.acts.length := fun s => by unfold M0of sideM; rw [List.length_map]
  have h1 : ∀ s, (M1of g s).length = g.acts.length := fun s => by unfold M1of; rw [edgesM_length, h0]
  have h2 : ∀ s, (M2of g s).length = g.acts.length := fun s => by
    unfold M2of
    by_cases hs : s = false
    · subst hs; rw [updB_self, portsM_length, h1]
    · rw [updB_other hs, h1]
  refine ⟨h0 s, h1 s, h2 s, ?_⟩
  unfold M3of
  by_cases hs : s = true
  · subst hs; rw [updB_self, portsM_length, h2]
  · rw [updB_other hs, h2]

set_option maxRecDepth 100000 in
set_option maxHeartbeats 4000000 in
theorem gfind_any (g : GraV) (w : World) (hg : g.good w w.heap.size) :
    Calls Tryd.prog 35 #[.agg #[.string g.nm, .slice g.aA g.acts.length g.cA, .slice g.aE g.edges.length g.cE, .slice g.aI g.ins.length g.cI, .slice g.aO g.outs.length g.cO]] w fun e w' => ∃ a b c : Int, e = .returned (.tuple #[.int .i64 (checkG g), .agg #[.int .u8 a, .int .i64 b, .int .i64 c]]) ∧ Below w.heap.size w w' := by
  obtain ⟨B0, hB0⟩ : ∃ b, w.heap.size = b := ⟨_, rfl⟩
  rw [hB0] at hg ⊢
  obtain ⟨E, hE⟩ : ∃ E, checkG g = E := ⟨_, rfl⟩
  rw [hE]
  have hmm := @run_makeMap Tryd.prog
  have b1 := (Below.refl B0 w).alloc (by omega) (.cells #[.string g.nm, .slice g.aA g.acts.length g.cA, .slice g.aE g.edges.length g.cE, .slice g.aI g.ins.length g.cI, .slice g.aO g.outs.length g.cO] 26)
  have k1 := Blk.new w B0 hB0.symm 26 #[.string g.nm, .slice g.aA g.acts.length g.cA, .slice g.aE g.edges.length g.cE, .slice g.aI g.ins.length g.cI, .slice g.aO g.outs.length g.cO]
  have z1 : (w.alloc (.cells #[.string g.nm, .slice g.aA g.acts.length g.cA, .slice g.aE g.edges.length g.cE, .slice g.aI g.ins.length g.cI, .slice g.aO g.outs.length g.cO] 26)).heap.size = B0 + 1 := by simp; omega
  obtain ⟨Wa, hWa⟩ : ∃ W, w.alloc (.cells #[.string g.nm, .slice g.aA g.acts.length g.cA, .slice g.aE g.edges.length g.cE, .slice g.aI g.ins.length g.cI, .slice g.aO g.outs.length g.cO] 26) = W := ⟨_, rfl⟩
  rw [hWa] at b1 k1 z1
  obtain ⟨gR, hgR0⟩ : ∃ b, B0 + 1 = b := ⟨_, rfl⟩
  rw [hgR0] at z1
  have hgR : B0 ≤ gR := by omega
  have b2 := b1.alloc (by omega) (.cells #[.int .u8 0, .int .i64 0, .int .i64 0] 111)
  have kG := k1.alloc (.cells #[.int .u8 0, .int .i64 0, .int .i64 0] 111)
  have kR := Blk.new Wa gR z1.symm 111 #[.int .u8 0, .int .i64 0, .int .i64 0]
  have z2 : (Wa.alloc (.cells #[.int .u8 0, .int .i64 0, .int .i64 0] 111)).heap.size = gR + 1 := by simp; omega
  obtain ⟨W1, hW1⟩ : ∃ W, Wa.alloc (.cells #[.int .u8 0, .int .i64 0, .int .i64 0] 111) = W := ⟨_, rfl⟩
  rw [hW1] at b2 kG kR z2
  obtain ⟨m, hm⟩ : ∃ b, gR + 1 = b := ⟨_, rfl⟩
  rw [hm] at z2
  have hg1 : g.good W1 m := (hg.below b2 (Nat.le_refl _)).more (by omega)
  have z3 : (W1.alloc (.map #[] 0)).heap.size = m + 1 := by simp; omega
  have o3 := World.ownsMap_made W1 Tryd.prog 9 (plainElem (H := Unit) Tryd.prog 3)
  rw [z2] at o3
  have b3 := (Below.refl m W1).alloc (by omega) (.map #[] 0)
  obtain ⟨W2, hW2⟩ : ∃ W, W1.alloc (.map #[] 0) = W := ⟨_, rfl⟩
  rw [hW2] at z3 o3 b3
  obtain ⟨gc, hgc⟩ : ∃ b, m + 1 = b := ⟨_, rfl⟩
  rw [hgc] at z3
  have b4 := b3.alloc (by omega) (.cells #[.string g.nm, .slice g.aA g.acts.length g.cA, .slice g.aE g.edges.length g.cE, .slice g.aI g.ins.length g.cI, .slice g.aO g.outs.length g.cO, .map (some m), .slice none 0 0, .slice none 0 0] 134)
  have k4 := Blk.new W2 gc z3.symm 134 #[.string g.nm, .slice g.aA g.acts.length g.cA, .slice g.aE g.edges.length g.cE, .slice g.aI g.ins.length g.cI, .slice g.aO g.outs.length g.cO, .map (some m), .slice none 0 0, .slice none 0 0]
  have o4 := o3.alloc (.cells #[.string g.nm, .slice g.aA g.acts.length g.cA, .slice g.aE g.edges.length g.cE, .slice g.aI g.ins.length g.cI, .slice g.aO g.outs.length g.cO, .map (some m), .slice none 0 0, .slice none 0 0] 134)
  obtain ⟨W3, hW3⟩ : ∃ W, W2.alloc (.cells #[.string g.nm, .slice g.aA g.acts.length g.cA, .slice g.aE g.edges.length g.cE, .slice g.aI g.ins.length g.cI, .slice g.aO g.outs.length g.cO, .map (some m), .slice none 0 0, .slice none 0 0] 134) = W := ⟨_, rfl⟩
  rw [hW3] at b4 k4 o4
  have C3 : CkS W1 W3 m gc m g [] 0 (fun _ => .slice none 0 0) (fun _ => .slice none 0 0) (fun _ _ => 0) (sideM []) :=
    ⟨b4, by omega, Nat.le_refl _, k4, o4, fun s => World.ownsRow_nil _ _ _ _, fun s j hj => absurd hj (Nat.not_lt_zero _), fun s j s' j' hj => absurd hj (Nat.not_lt_zero _), fun b hb => by cases hb⟩
  have g0 := kG.cell 0
  have g1 := kG.cell 1
  have g2 := kG.cell 2
  have g3 := kG.cell 3
  have g4 := kG.cell 4
  simp only [List.getElem?_toArray, List.getElem?_cons_zero, List.getElem?_cons_succ] at g0 g1 g2 g3 g4
  have HG := Lib.hid hg1
  have HKG := Lib.hid kG
  have HKR := Lib.hid kR
  have HB2 := Lib.hid b2
  have HC3 := Lib.hid C3
  have HE := Lib.hid hE
  have hgRm : gR < m := by omega
  have hgGm : B0 < m := by omega
  clear hE hg b1 k1 b2 kG kR hg1 o3 b3 b4 k4 o4 C3
  go_enter Tryd.func35, Tryd.ntmps35
  go_wp2_with fail
  refine (head_any g gc (.map (some m)) (.slice none 0 0) (.slice none 0 0) W3 HC3.out.blk HG.out.nm).mono ?_
  rintro e w4 ⟨a, b, c, rfl, hb4⟩
  have C4 := HC3.out.below hb4
  obtain ⟨E1, hE1⟩ : ∃ e, headE g = e := ⟨_, rfl⟩
  rw [hE1]
  have H1 := Lib.hid hE1
  have ba := (Below.refl w4.heap.size w4).alloc (Nat.le_refl _) (.cells #[.int .u8 a, .int .i64 b, .int .i64 c] 111)
  have kt := Blk.new w4 _ rfl 111 #[.int .u8 a, .int .i64 b, .int .i64 c]
  have C5 := C4.below ba
  obtain ⟨W5, hW5⟩ : ∃ W, w4.alloc (.cells #[.int .u8 a, .int .i64 b, .int .i64 c] 111) = W := ⟨_, rfl⟩
  obtain ⟨gt, hgt⟩ : ∃ b, w4.heap.size = b := ⟨_, rfl⟩
  rw [hW5] at kt C5
  rw [hgt] at kt
  have kR := HKR.out.below C5.bel hgRm
  have HB := Lib.hid (HB2.out.trans (C5.bel.mono (by omega)))
  have HC5 := Lib.hid C5
  clear ba C4 hb4 hE1 C5 HC3
  by_cases h0 : E1 = 0
  · subst h0
    obtain ⟨hnm, hpos, hl1, hl2, hl3, hl4⟩ := head_ok H1.out
    clear kt kR HB g0 g1 g2
    go_wp2_with fail
    try rw [hW5]
    try rw [hgt]
    clear hW5 hgt
    refine (actors_any W1 m gc m 0 g [] (fun _ => .slice none 0 0) (fun _ _ => 0) W5 HG.out hl1 (by omega) HC5.out).mono ?_
    rintro e w6 ⟨a, b, c, rfl, hb6, hC6⟩
    obtain ⟨E2, hE2⟩ : ∃ e, actorsE g.acts [] = e := ⟨_, rfl⟩
    rw [hE2] at hC6 ⊢
    have H2 := Lib.hid hE2
    have hz6 : m ≤ w6.heap.size := by have := hb6.size; omega
    have b7 := hb6.alloc hz6 (.cells #[.int .u8 a, .int .i64 b, .int .i64 c] 111)
    have ba := (Below.refl w6.heap.size w6).alloc (Nat.le_refl _) (.cells #[.int .u8 a, .int .i64 b, .int .i64 c] 111)
    have kt := Blk.new w6 _ rfl 111 #[.int .u8 a, .int .i64 b, .int .i64 c]
    have hC7 : E2 = 0 → ∃ V' R', CkS W1 (w6.alloc (.cells #[.int .u8 a, .int .i64 b, .int .i64 c] 111)) m gc m g ([] ++ namesA g.acts) (0 + g.acts.length) V' V' R' (sideM g.acts) := fun h => by
      obtain ⟨V', R', hc⟩ := hC6 h
      exact ⟨V', R', hc.below ba⟩
    obtain ⟨W7, hW7⟩ : ∃ W, w6.alloc (.cells #[.int .u8 a, .int .i64 b, .int .i64 c] 111) = W := ⟨_, rfl⟩
    obtain ⟨gt, hgt⟩ : ∃ b, w6.heap.size = b := ⟨_, rfl⟩
    rw [hW7] at kt hC7 b7
    rw [hgt] at kt
    have kR := HKR.out.below b7 hgRm
    have HB := Lib.hid (HB2.out.trans (b7.mono (by omega)))
    have HC7 := Lib.hid hC7
    clear ba hb6 hC6 hE2 hC7 HC5 b7 hz6
    by_cases h0 : E2 = 0
    · subst h0
      obtain ⟨V, R, C7⟩ := HC7.out rfl
      rw [List.nil_append, Nat.zero_add] at C7
      have HC7b := Lib.hid C7
      clear kt kR HB C7 HC7
      go_wp2_with fail
      try rw [hW7]
      try rw [hgt]
      clear hW7 hgt
      refine (edges_any W1 m gc m g.acts.length g (namesA g.acts) V R (M0of g) W7 HG.out hl2 (fun s => by rw [(side_len g s).1]; exact hpos) HC7b.out).mono ?_
      rintro e w8 ⟨a, b, c, rfl, hb8, hC8⟩
      obtain ⟨E3, hE3⟩ : ∃ e, edgesE g.edges (M0of g) = e := ⟨_, rfl⟩
      rw [hE3] at hC8 ⊢
      have H3 := Lib.hid hE3
      have hz8 : m ≤ w8.heap.size := by have := hb8.size; omega
      have b9 := hb8.alloc hz8 (.cells #[.int .u8 a, .int .i64 b, .int .i64 c] 111)
      have ba := (Below.refl w8.heap.size w8).alloc (Nat.le_refl _) (.cells #[.int .u8 a, .int .i64 b, .int .i64 c] 111)
      have kt := Blk.new w8 _ rfl 111 #[.int .u8 a, .int .i64 b, .int .i64 c]
      have hC9 : E3 = 0 → CkS W1 (w8.alloc (.cells #[.int .u8 a, .int .i64 b, .int .i64 c] 111)) m gc m g (namesA g.acts) g.acts.length V V R (M1of g) := fun h => (hC8 h).below ba
      obtain ⟨W9, hW9⟩ : ∃ W, w8.alloc (.cells #[.int .u8 a, .int .i64 b, .int .i64 c] 111) = W := ⟨_, rfl⟩
      obtain ⟨gt, hgt⟩ : ∃ b, w8.heap.size = b := ⟨_, rfl⟩
      rw [hW9] at kt hC9 b9
      rw [hgt] at kt
      have kR := HKR.out.below b9 hgRm
      have HB := Lib.hid (HB2.out.trans (b9.mono (by omega)))
      have HC9 := Lib.hid hC9
      clear ba hb8 hC8 hE3 hC9 HC7b b9 hz8
      by_cases h0 : E3 = 0
      · subst h0
        have C9 := HC9.out rfl
        have HC9b := Lib.hid C9
        have G9 := HKG.out.below C9.bel hgGm
        have x3 := G9.cell 3
        have y6 := C9.blk.cell 6
        simp only [List.getElem?_toArray, List.getElem?_cons_zero, List.getElem?_cons_succ] at x3 y6
        have hltc := C9.blk.lt
        have hB9 := C9.bel.size
        obtain ⟨E4, hE4⟩ : ∃ e, portsE g.ins (namesA g.acts) (M1of g false) = e := ⟨_, rfl⟩
        have H4 := Lib.hid hE4
        have hM : 0 < (M1of g false).length := by rw [(side_len g false).2.1]; exact hpos
        clear kt kR HB C9 G9 HC9 hE4
        go_upto_region 11 with fail
        try rw [hW9]
        try rw [hgt]
        clear hW9 hgt
        go_cut [11, 12] (fun sE sP wx => ∃ (bS : Nat) (a b c : Int), sP = .pointer (some ⟨bS, 0, none⟩) ∧ sE = .int .i64 E4 ∧ Blk wx bS 111 #[.int .u8 a, .int .i64 b, .int .i64 c] ∧ Below m W1 wx ∧ Hid (E4 = 0 → CkS W1 wx m gc m g (namesA g.acts ++ namesP g.ins) (g.acts.length + g.ins.length) V V R (M2of g)))
        case first =>
          have hne1 : B0 ≠ W9.heap.size := by omega
          have hne2 : gc ≠ W9.heap.size := by omega
          have hne3 : W9.heap.size ≠ B0 := by omega
          have hne4 : W9.heap.size ≠ gc := by omega
          go_region_held3 (fun w' => w'.cell? ⟨B0, 3, none⟩ = some (.slice g.aI g.ins.length g.cI) ∧ w'.cell? ⟨gc, 6, none⟩ = some (V false))
            (go_keep)
            (first
              | (go_at_call 54; refine (ports_walk W1 m gc m (g.acts.length) g (namesA g.acts) V R (M1of g) false g.ins g.aI g.ins.length g.cI 3 2 _ HG.out.rI HG.out.gI rfl hl3 (by omega) hM ?_).mono ?_; exact HC9b.out.below (Below.drewN (Below.refl _ _) 1); rw [H4.out]; rintro e w4 ⟨a, b, c, rfl, ⟨hk4, ns4, nn4, M4, hx4⟩, hC4⟩; have q0 : w4.cell? ⟨B0, 3, none⟩ = some (.slice g.aI g.ins.length g.cI) := (by have q := (HKG.out.below hx4.bel hgGm).cell 3; simpa using q); have q1 : w4.cell? ⟨gc, 6, none⟩ = some (V false) := (by have q := hx4.blk.cell 6; simpa using q); have hgc4 := hx4.blk.lt; have hn4 : B0 ≠ w4.heap.size := (by omega); have hn5 : gc ≠ w4.heap.size := (by omega); have hn6 : w4.heap.size ≠ B0 := (by omega); have hn7 : w4.heap.size ≠ gc := (by omega))
              | (go_at_call 54; refine (ports_walk W1 m gc m (g.acts.length) g (namesA g.acts) V R (M1of g) false g.ins g.aI g.ins.length g.cI 3 2 _ HG.out.rI HG.out.gI rfl hl3 (by omega) hM ?_).mono ?_; exact HC9b.out.below (Below.drewN ((Below.refl _ _).alloc (Nat.le_refl _) _) 1); rw [H4.out]; rintro e w4 ⟨a, b, c, rfl, ⟨hk4, ns4, nn4, M4, hx4⟩, hC4⟩; have q0 : w4.cell? ⟨B0, 3, none⟩ = some (.slice g.aI g.ins.length g.cI) := (by have q := (HKG.out.below hx4.bel hgGm).cell 3; simpa using q); have q1 : w4.cell? ⟨gc, 6, none⟩ = some (V false) := (by have q := hx4.blk.cell 6; simpa using q); have hgc4 := hx4.blk.lt; have hn4 : B0 ≠ w4.heap.size := (by omega); have hn5 : gc ≠ w4.heap.size := (by omega); have hn6 : w4.heap.size ≠ B0 := (by omega); have hn7 : w4.heap.size ≠ gc := (by omega); have k4 : Blk w4 W9.heap.size 111 #[.int .u8 0, .int .i64 0, .int .i64 0] := hk4 _ _ (Blk.new W9 _ rfl _ _); have z0 := k4.cell 0; have z1 := k4.cell 1; have z2 := k4.cell 2; have f0 := k4.frozen 0; have f1 := k4.frozen 1; have f2 := k4.frozen 2; simp only [List.getElem?_toArray, List.getElem?_cons_zero, List.getElem?_cons_succ] at z0 z1 z2; have hW4 : W9.heap.size ≠ w4.heap.size := (by have := k4.lt; omega)))
          · go_wp2
            go_meet
            have ba := (Below.refl w4.heap.size w4).alloc (Nat.le_refl _) (.cells #[.int .u8 a, .int .i64 b, .int .i64 c] 111)
            exact ⟨w4.heap.size, a, b, c, rfl, rfl, Blk.new w4 _ rfl _ _, hx4.bel.alloc (by omega) _, fun h => (hC4 h).below ba⟩
          · go_wp2
            go_meet
            have q4 := ((k4.set 0 (.int .u8 a)).set 1 (.int .i64 b)).set 2 (.int .i64 c)
            simp only [List.setIfInBounds_toArray, List.set_cons_zero, List.set_cons_succ] at q4
            have hO := onlySet3 w4 W9.heap.size (.int .u8 a) (.int .i64 b) (.int .i64 c)
            exact ⟨W9.heap.size, a, b, c, rfl, rfl, q4, (hx4.aside k4 (by omega) (by decide) (by decide) (by decide) hO).bel, fun h => (hC4 h).aside k4 (by omega) (by decide) (by decide) (by decide) hO⟩
        case rest =>
          clear HC9b hltc hB9 x3 y6 hM
          obtain ⟨bS, a, b, c, rfl, rfl, kt, hbw, hCw⟩ := hcut
          have kR := HKR.out.below hbw hgRm
          have HB := Lib.hid (HB2.out.trans (hbw.mono (by omega)))
          clear hbw
          by_cases h0 : E4 = 0
          · subst h0
            obtain ⟨Wc, hWc⟩ : ∃ W, wc = W := ⟨_, rfl⟩
            rw [hWc] at hCw
            have Cc := hCw.out rfl
            have HCc := Lib.hid Cc
            have Gc := HKG.out.below Cc.bel hgGm
            have x4 := Gc.cell 4
            have y7 := Cc.blk.cell 7
            simp only [List.getElem?_toArray, List.getElem?_cons_zero, List.getElem?_cons_succ] at x4 y7
            have hltc := Cc.blk.lt
            have hBc := Cc.bel.size
            obtain ⟨E5, hE5⟩ : ∃ e, portsE g.outs (namesA g.acts ++ namesP g.ins) (M2of g true) = e := ⟨_, rfl⟩
            have H5 := Lib.hid hE5
            have hM : 0 < (M2of g true).length := by rw [(side_len g true).2.2.1]; exact hpos
            clear kt kR HB Cc Gc hCw hE5
            rw [hWc]
            clear hWc
            go_upto_region 14 with fail
            go_cut [13, 14] (fun sE sP wx => ∃ (bS : Nat) (a b c : Int), sP = .pointer (some ⟨bS, 0, none⟩) ∧ sE = .int .i64 E5 ∧ Blk wx bS 111 #[.int .u8 a, .int .i64 b, .int .i64 c] ∧ Below m W1 wx ∧ Hid (E5 = 0 → CkS W1 wx m gc m g (namesA g.acts ++ namesP g.ins ++ namesP g.outs) (g.acts.length + g.ins.length + g.outs.length) V V R (M3of g)))
            case first =>
              have hne1 : B0 ≠ Wc.heap.size := by omega
              have hne2 : gc ≠ Wc.heap.size := by omega
              have hne3 : Wc.heap.size ≠ B0 := by omega
              have hne4 : Wc.heap.size ≠ gc := by omega
              go_region_held3 (fun w' => w'.cell? ⟨B0, 4, none⟩ = some (.slice g.aO g.outs.length g.cO) ∧ w'.cell? ⟨gc, 7, none⟩ = some (V true))
                (go_keep)
                (first
                  | (go_at_call 54; refine (ports_walk W1 m gc m (g.acts.length + g.ins.length) g (namesA g.acts ++ namesP g.ins) V R (M2of g) true g.outs g.aO g.outs.length g.cO 4 1 _ HG.out.rO HG.out.gO rfl hl4 (by omega) hM ?_).mono ?_; exact HCc.out.below (Below.drewN (Below.refl _ _) 1); rw [H5.out]; rintro e w4 ⟨a, b, c, rfl, ⟨hk4, ns4, nn4, M4, hx4⟩, hC4⟩; have q0 : w4.cell? ⟨B0, 4, none⟩ = some (.slice g.aO g.outs.length g.cO) := (by have q := (HKG.out.below hx4.bel hgGm).cell 4; simpa using q); have q1 : w4.cell? ⟨gc, 7, none⟩ = some (V true) := (by have q := hx4.blk.cell 7; simpa using q); have hgc4 := hx4.blk.lt; have hn4 : B0 ≠ w4.heap.size := (by omega); have hn5 : gc ≠ w4.heap.size := (by omega); have hn6 : w4.heap.size ≠ B0 := (by omega); have hn7 : w4.heap.size ≠ gc := (by omega))
                  | (go_at_call 54; refine (ports_walk W1 m gc m (g.acts.length + g.ins.length) g (namesA g.acts ++ namesP g.ins) V R (M2of g) true g.outs g.aO g.outs.length g.cO 4 1 _ HG.out.rO HG.out.gO rfl hl4 (by omega) hM ?_).mono ?_; exact HCc.out.below (Below.drewN ((Below.refl _ _).alloc (Nat.le_refl _) _) 1); rw [H5.out]; rintro e w4 ⟨a, b, c, rfl, ⟨hk4, ns4, nn4, M4, hx4⟩, hC4⟩; have q0 : w4.cell? ⟨B0, 4, none⟩ = some (.slice g.aO g.outs.length g.cO) := (by have q := (HKG.out.below hx4.bel hgGm).cell 4; simpa using q); have q1 : w4.cell? ⟨gc, 7, none⟩ = some (V true) := (by have q := hx4.blk.cell 7; simpa using q); have hgc4 := hx4.blk.lt; have hn4 : B0 ≠ w4.heap.size := (by omega); have hn5 : gc ≠ w4.heap.size := (by omega); have hn6 : w4.heap.size ≠ B0 := (by omega); have hn7 : w4.heap.size ≠ gc := (by omega); have k4 : Blk w4 Wc.heap.size 111 #[.int .u8 0, .int .i64 0, .int .i64 0] := hk4 _ _ (Blk.new Wc _ rfl _ _); have z0 := k4.cell 0; have z1 := k4.cell 1; have z2 := k4.cell 2; have f0 := k4.frozen 0; have f1 := k4.frozen 1; have f2 := k4.frozen 2; simp only [List.getElem?_toArray, List.getElem?_cons_zero, List.getElem?_cons_succ] at z0 z1 z2; have hW4 : Wc.heap.size ≠ w4.heap.size := (by have := k4.lt; omega)))
              · go_wp2
                go_meet
                have ba := (Below.refl w4.heap.size w4).alloc (Nat.le_refl _) (.cells #[.int .u8 a, .int .i64 b, .int .i64 c] 111)
                exact ⟨w4.heap.size, a, b, c, rfl, rfl, Blk.new w4 _ rfl _ _, hx4.bel.alloc (by omega) _, fun h => (hC4 h).below ba⟩
              · go_wp2
                go_meet
                have q4 := ((k4.set 0 (.int .u8 a)).set 1 (.int .i64 b)).set 2 (.int .i64 c)
                simp only [List.setIfInBounds_toArray, List.set_cons_zero, List.set_cons_succ] at q4
                have hO := onlySet3 w4 Wc.heap.size (.int .u8 a) (.int .i64 b) (.int .i64 c)
                exact ⟨Wc.heap.size, a, b, c, rfl, rfl, q4, (hx4.aside k4 (by omega) (by decide) (by decide) (by decide) hO).bel, fun h => (hC4 h).aside k4 (by omega) (by decide) (by decide) (by decide) hO⟩
            case rest =>
              clear HCc hltc hBc x4 y7 hM
              obtain ⟨bS5, a, b, c, rfl, rfl, kt, hbw, hCw⟩ := hcut
              have kR := HKR.out.below hbw hgRm
              have HB := Lib.hid (HB2.out.trans (hbw.mono (by omega)))
              clear hbw
              by_cases h0 : E5 = 0
              · subst h0
                have HCd := Lib.hid (hCw.out rfl)
                clear hCw kt kR HB
                go_wp2_with fail
                refine (open_any W1 m gc m (g.acts.length + g.ins.length + g.outs.length) g (namesA g.acts ++ namesP g.ins ++ namesP g.outs) V R (M3of g) _ hl1 (fun s => (side_len g s).2.2.2) hpos (fun s j => by have := row_len_M3 g s j; omega) HCd.out).mono ?_
                have hEf : openE g.acts.length (M3of g) = E := by rw [← HE.out]; unfold checkG; rw [H1.out, if_pos rfl, H2.out, if_pos rfl, H3.out, if_pos rfl, H4.out, if_pos rfl, H5.out, if_pos rfl]
                rw [hEf]
                rintro e w8 ⟨a, b, c, rfl, hb8⟩
                clear hEf
                have kR := HKR.out.below hb8 hgRm
                have HB := Lib.hid (HB2.out.trans (hb8.mono (by omega)))
                have kt := kR
                have p0 := kt.cell 0
                have p1 := kt.cell 1
                have p2 := kt.cell 2
                have f0 := kR.frozen 0
                have f1 := kR.frozen 1
                have f2 := kR.frozen 2
                have z0 := kR.cell 0
                have z1 := kR.cell 1
                have z2 := kR.cell 2
                simp only [List.getElem?_toArray, List.getElem?_cons_zero, List.getElem?_cons_succ] at p0 p1 p2 z0 z1 z2
                have q4 := ((kR.set 0 (.int .u8 a)).set 1 (.int .i64 b)).set 2 (.int .i64 c)
                simp only [List.setIfInBounds_toArray, List.set_cons_zero, List.set_cons_succ] at q4
                have s0 := q4.cell 0
                have s1 := q4.cell 1
                have s2 := q4.cell 2
                simp only [List.getElem?_toArray, List.getElem?_cons_zero, List.getElem?_cons_succ] at s0 s1 s2
                have bz := ((HB.out.setCell (p := ⟨gR, 0, none⟩) hgR (.int .u8 a)).setCell (p := ⟨gR, 1, none⟩) hgR (.int .i64 b)).setCell (p := ⟨gR, 2, none⟩) hgR (.int .i64 c)
                clear q4 kR kt HB
                go_wp2_with fail
                refine bodyPost_ret (v := .tuple #[.int .i64 E, .agg #[.int .u8 a, .int .i64 b, .int .i64 c]]) (by simp [results, Tryd.results35, go_sem, s0, s1, s2]) rfl ?_
                exact ⟨a, b, c, rfl, bz⟩
              · have hne : (E5 != 0) = true := by simpa using h0
                obtain rfl : E = E5 := by rw [← HE.out]; unfold checkG; rw [H1.out, if_pos rfl, H2.out, if_pos rfl, H3.out, if_pos rfl, H4.out, if_pos rfl, H5.out, if_neg h0]
                have p0 := kt.cell 0
                have p1 := kt.cell 1
                have p2 := kt.cell 2
                have f0 := kR.frozen 0
                have f1 := kR.frozen 1
                have f2 := kR.frozen 2
                have z0 := kR.cell 0
                have z1 := kR.cell 1
                have z2 := kR.cell 2
                simp only [List.getElem?_toArray, List.getElem?_cons_zero, List.getElem?_cons_succ] at p0 p1 p2 z0 z1 z2
                have q4 := ((kR.set 0 (.int .u8 a)).set 1 (.int .i64 b)).set 2 (.int .i64 c)
                simp only [List.setIfInBounds_toArray, List.set_cons_zero, List.set_cons_succ] at q4
                have s0 := q4.cell 0
                have s1 := q4.cell 1
                have s2 := q4.cell 2
                simp only [List.getElem?_toArray, List.getElem?_cons_zero, List.getElem?_cons_succ] at s0 s1 s2
                have bz := ((HB.out.setCell (p := ⟨gR, 0, none⟩) hgR (.int .u8 a)).setCell (p := ⟨gR, 1, none⟩) hgR (.int .i64 b)).setCell (p := ⟨gR, 2, none⟩) hgR (.int .i64 c)
                clear q4 kR kt HB
                go_wp2_with fail
                go_region
                go_wp2
                refine bodyPost_ret (v := .tuple #[.int .i64 E, .agg #[.int .u8 a, .int .i64 b, .int .i64 c]]) (by simp [results, Tryd.results35, go_sem, s0, s1, s2]) rfl ?_
                exact ⟨a, b, c, rfl, Below.drewN bz 1⟩
          · have hne : (E4 != 0) = true := by simpa using h0
            obtain rfl : E = E4 := by rw [← HE.out]; unfold checkG; rw [H1.out, if_pos rfl, H2.out, if_pos rfl, H3.out, if_pos rfl, H4.out, if_neg h0]
            have p0 := kt.cell 0
            have p1 := kt.cell 1
            have p2 := kt.cell 2
            have f0 := kR.frozen 0
            have f1 := kR.frozen 1
            have f2 := kR.frozen 2
            have z0 := kR.cell 0
            have z1 := kR.cell 1
            have z2 := kR.cell 2
            simp only [List.getElem?_toArray, List.getElem?_cons_zero, List.getElem?_cons_succ] at p0 p1 p2 z0 z1 z2
            have q4 := ((kR.set 0 (.int .u8 a)).set 1 (.int .i64 b)).set 2 (.int .i64 c)
            simp only [List.setIfInBounds_toArray, List.set_cons_zero, List.set_cons_succ] at q4
            have s0 := q4.cell 0
            have s1 := q4.cell 1
            have s2 := q4.cell 2
            simp only [List.getElem?_toArray, List.getElem?_cons_zero, List.getElem?_cons_succ] at s0 s1 s2
            have bz := ((HB.out.setCell (p := ⟨gR, 0, none⟩) hgR (.int .u8 a)).setCell (p := ⟨gR, 1, none⟩) hgR (.int .i64 b)).setCell (p := ⟨gR, 2, none⟩) hgR (.int .i64 c)
            clear q4 kR kt HB
            go_wp2_with fail
            go_region
            go_wp2
            refine bodyPost_ret (v := .tuple #[.int .i64 E, .agg #[.int .u8 a, .int .i64 b, .int .i64 c]]) (by simp [results, Tryd.results35, go_sem, s0, s1, s2]) rfl ?_
            exact ⟨a, b, c, rfl, Below.drewN bz 1⟩
      · have hne : (E3 != 0) = true := by simpa using h0
        obtain rfl : E = E3 := by rw [← HE.out]; unfold checkG; rw [H1.out, if_pos rfl, H2.out, if_pos rfl, H3.out, if_neg h0]
        have p0 := kt.cell 0
        have p1 := kt.cell 1
        have p2 := kt.cell 2
        have f0 := kR.frozen 0
        have f1 := kR.frozen 1
        have f2 := kR.frozen 2
        have z0 := kR.cell 0
        have z1 := kR.cell 1
        have z2 := kR.cell 2
        simp only [List.getElem?_toArray, List.getElem?_cons_zero, List.getElem?_cons_succ] at p0 p1 p2 z0 z1 z2
        have q4 := ((kR.set 0 (.int .u8 a)).set 1 (.int .i64 b)).set 2 (.int .i64 c)
        simp only [List.setIfInBounds_toArray, List.set_cons_zero, List.set_cons_succ] at q4
        have s0 := q4.cell 0
        have s1 := q4.cell 1
        have s2 := q4.cell 2
        simp only [List.getElem?_toArray, List.getElem?_cons_zero, List.getElem?_cons_succ] at s0 s1 s2
        have bz := ((HB.out.setCell (p := ⟨gR, 0, none⟩) hgR (.int .u8 a)).setCell (p := ⟨gR, 1, none⟩) hgR (.int .i64 b)).setCell (p := ⟨gR, 2, none⟩) hgR (.int .i64 c)
        clear q4 kR kt HB
        go_wp2_with fail
        go_region
        go_wp2
        refine bodyPost_ret (v := .tuple #[.int .i64 E, .agg #[.int .u8 a, .int .i64 b, .int .i64 c]]) (by simp [results, Tryd.results35, go_sem, s0, s1, s2]) rfl ?_
        exact ⟨a, b, c, rfl, Below.drewN bz 1⟩
    · have hne : (E2 != 0) = true := by simpa using h0
      obtain rfl : E = E2 := by rw [← HE.out]; unfold checkG; rw [H1.out, if_pos rfl, H2.out, if_neg h0]
      have p0 := kt.cell 0
      have p1 := kt.cell 1
      have p2 := kt.cell 2
      have f0 := kR.frozen 0
      have f1 := kR.frozen 1
      have f2 := kR.frozen 2
      have z0 := kR.cell 0
      have z1 := kR.cell 1
      have z2 := kR.cell 2
      simp only [List.getElem?_toArray, List.getElem?_cons_zero, List.getElem?_cons_succ] at p0 p1 p2 z0 z1 z2
      have q4 := ((kR.set 0 (.int .u8 a)).set 1 (.int .i64 b)).set 2 (.int .i64 c)
      simp only [List.setIfInBounds_toArray, List.set_cons_zero, List.set_cons_succ] at q4
      have s0 := q4.cell 0
      have s1 := q4.cell 1
      have s2 := q4.cell 2
      simp only [List.getElem?_toArray, List.getElem?_cons_zero, List.getElem?_cons_succ] at s0 s1 s2
      have bz := ((HB.out.setCell (p := ⟨gR, 0, none⟩) hgR (.int .u8 a)).setCell (p := ⟨gR, 1, none⟩) hgR (.int .i64 b)).setCell (p := ⟨gR, 2, none⟩) hgR (.int .i64 c)
      clear q4 kR kt HB
      go_wp2_with fail
      go_region
      go_wp2
      refine bodyPost_ret (v := .tuple #[.int .i64 E, .agg #[.int .u8 a, .int .i64 b, .int .i64 c]]) (by simp [results, Tryd.results35, go_sem, s0, s1, s2]) rfl ?_
      exact ⟨a, b, c, rfl, Below.drewN bz 1⟩
  · have hne : (E1 != 0) = true := by simpa using h0
    obtain rfl : E = E1 := by rw [← HE.out]; unfold checkG; rw [H1.out, if_neg h0]
    have p0 := kt.cell 0
    have p1 := kt.cell 1
    have p2 := kt.cell 2
    have f0 := kR.frozen 0
    have f1 := kR.frozen 1
    have f2 := kR.frozen 2
    have z0 := kR.cell 0
    have z1 := kR.cell 1
    have z2 := kR.cell 2
    simp only [List.getElem?_toArray, List.getElem?_cons_zero, List.getElem?_cons_succ] at p0 p1 p2 z0 z1 z2
    have q4 := ((kR.set 0 (.int .u8 a)).set 1 (.int .i64 b)).set 2 (.int .i64 c)
    simp only [List.setIfInBounds_toArray, List.set_cons_zero, List.set_cons_succ] at q4
    have s0 := q4.cell 0
    have s1 := q4.cell 1
    have s2 := q4.cell 2
    simp only [List.getElem?_toArray, List.getElem?_cons_zero, List.getElem?_cons_succ] at s0 s1 s2
    have bz := ((HB.out.setCell (p := ⟨gR, 0, none⟩) hgR (.int .u8 a)).setCell (p := ⟨gR, 1, none⟩) hgR (.int .i64 b)).setCell (p := ⟨gR, 2, none⟩) hgR (.int .i64 c)
    clear q4 kR kt HB
    go_wp2_with fail
    go_region
    go_wp2
    refine bodyPost_ret (v := .tuple #[.int .i64 E, .agg #[.int .u8 a, .int .i64 b, .int .i64 c]]) (by simp [results, Tryd.results35, go_sem, s0, s1, s2]) rfl ?_
    exact ⟨a, b, c, rfl, Below.drewN bz 1⟩
end Go.Proofs.YtpmlljbebdidgaaDoor
/-
  graph.Check; what a checked graph's edges and rates are; its arcs.
-/
namespace Go.Proofs.YtpmlljbebdidgaaDoor
open Go.RowKit

set_option maxRecDepth 100000 in
set_option maxHeartbeats 4000000 in
theorem gcheck_any (g : GraV) (w : World) (hg : g.good w w.heap.size) :
    Calls Tryd.prog 16 #[.agg #[.string g.nm, .slice g.aA g.acts.length g.cA, .slice g.aE g.edges.length g.cE, .slice g.aI g.ins.length g.cI, .slice g.aO g.outs.length g.cO]] w fun e w' => e = .returned (.int .i64 (checkG g)) ∧ Below w.heap.size w w' := by
  obtain ⟨E, hE⟩ : ∃ E, checkG g = E := ⟨_, rfl⟩
  rw [hE]
  have hs1 : w.heap.size ≤ (w.alloc (.cells #[.string g.nm, .slice g.aA g.acts.length g.cA, .slice g.aE g.edges.length g.cE, .slice g.aI g.ins.length g.cI, .slice g.aO g.outs.length g.cO] 26)).heap.size := by simp
  have b1 := (Below.refl w.heap.size w).alloc (Nat.le_refl _) (.cells #[.string g.nm, .slice g.aA g.acts.length g.cA, .slice g.aE g.edges.length g.cE, .slice g.aI g.ins.length g.cI, .slice g.aO g.outs.length g.cO] 26)
  have k1 := (Blk.new w _ rfl 26 #[.string g.nm, .slice g.aA g.acts.length g.cA, .slice g.aE g.edges.length g.cE, .slice g.aI g.ins.length g.cI, .slice g.aO g.outs.length g.cO])
  have g1 := (hg.below b1 (Nat.le_refl _)).more hs1
  obtain ⟨W1, hW1⟩ : ∃ W, w.alloc (.cells #[.string g.nm, .slice g.aA g.acts.length g.cA, .slice g.aE g.edges.length g.cE, .slice g.aI g.ins.length g.cI, .slice g.aO g.outs.length g.cO] 26) = W := ⟨_, rfl⟩
  rw [hW1] at b1 k1 g1
  have g0 := k1.cell 0
  have g2 := k1.cell 1
  have g3 := k1.cell 2
  have g4 := k1.cell 3
  have g5 := k1.cell 4
  simp only [List.getElem?_toArray, List.getElem?_cons_zero, List.getElem?_cons_succ] at g0 g2 g3 g4 g5
  have HG1 := Lib.hid g1
  have HB1 := Lib.hid b1
  have HE := Lib.hid hE
  clear g1 b1 hs1 hg k1 hE
  go_enter Tryd.func16, Tryd.ntmps16
  go_wp2_with fail
  try rw [hW1]
  refine (gfind_any g W1 HG1.out).mono ?_
  rw [HE.out]
  rintro e w2 ⟨a, b, c, rfl, hb2⟩
  have hz := HB1.out.size
  have hz2 := hb2.size
  have hB := Lib.hid ((HB1.out.trans (hb2.mono hz)).alloc (by omega) (.cells #[.int .u8 a, .int .i64 b, .int .i64 c] 111))
  clear hb2 HB1 HG1
  go_wp2_with fail
  refine bodyPost_ret (v := .int .i64 E) (by simp [results, Tryd.results16, go_sem]) rfl ?_
  exact ⟨rfl, hB.out⟩

/-! ### what a checked graph is -/
theorem actors_all : ∀ (xs : List ActV) (ns : List (List UInt8)), actorsE xs ns = 0 → ∀ x ∈ xs, (shapeR x.tag x.ps).2.2 = 0
  | [], _, _, _, hx => by cases hx
  | y :: xs, ns, h, x, hx => by
    rw [actorsE] at h
    by_cases h0 : actE ns y = 0
    · rw [if_pos h0] at h
      rcases List.mem_cons.1 hx with rfl | hx
      · unfold actE at h0
        by_cases h1 : nameE ns x.nm = 0
        · rw [if_pos h1] at h0; exact h0
        · rw [if_neg h1] at h0; exact absurd h0 h1
      · exact actors_all xs _ h x hx
    · rw [if_neg h0] at h; exact absurd h h0
/-- an edge's ports are there -/
def edgeIn (M : Bool → List (List Bool)) (e : GEdg) : Prop :=
  (0 ≤ e.f ∧ e.f < (M true).length ∧ 0 ≤ e.fp ∧ e.fp < ((M true).getD e.f.toNat []).length) ∧ (0 ≤ e.t ∧ e.t < (M false).length ∧ 0 ≤ e.tp ∧ e.tp < ((M false).getD e.t.toNat []).length) ∧ e.st.length ≤ 256
theorem edges_all : ∀ (xs : List GEdg) (M : Bool → List (List Bool)), edgesE xs M = 0 → ∀ e ∈ xs, edgeIn M e
  | [], _, _, _, he => by cases he
  | y :: xs, M, h, e, he => by
    rw [edgesE] at h
    by_cases h0 : edgeE M y = 0
    · rw [if_pos h0] at h
      rcases List.mem_cons.1 he with rfl | he
      · unfold edgeE at h0
        by_cases h1 : takeE (M true) e.f e.fp = 0
        · rw [if_pos h1] at h0
          by_cases h2 : takeE (M false) e.t e.tp = 0
          · rw [if_pos h2] at h0
            obtain ⟨a1, a2, a3, a4, -⟩ := take_ok h1
            obtain ⟨b1, b2, b3, b4, -⟩ := take_ok h2
            refine ⟨⟨a1, a2, a3, a4⟩, ⟨b1, b2, b3, b4⟩, ?_⟩
            by_cases h3 : 256 < e.st.length
            · rw [if_pos h3] at h0; cases h0
            · omega
          · rw [if_neg h2] at h0; exact absurd h0 h2
        · rw [if_neg h1] at h0; exact absurd h0 h1
      · have := edges_all xs _ h e he
        have hl : ∀ s, (edgeM M y s).length = (M s).length := fun s => edgesM_length [y] M s
        have hr : ∀ s j, ((edgeM M y s).getD j []).length = ((M s).getD j []).length := fun s j => row_len_edges [y] M s j
        unfold edgeIn at this ⊢
        simpa only [hl, hr] using this
    · rw [if_neg h0] at h; exact absurd h h0
def insOf (x : ActV) : List Int := (shapeR x.tag x.ps).1
def outsOf (x : ActV) : List Int := (shapeR x.tag x.ps).2.1
def outAt (g : GraV) (a p : Int) : Int := (((g.acts[a.toNat]?).map outsOf).getD []).getD p.toNat 0
def inAt (g : GraV) (a p : Int) : Int := (((g.acts[a.toNat]?).map insOf).getD []).getD p.toNat 0
/-- an edge's arc -/
def garcOf (g : GraV) (e : GEdg) : ArcV := ⟨e.f, e.t, outAt g e.f e.fp, inAt g e.t e.tp, e.st.length⟩
def garcs (g : GraV) : List ArcV := g.edges.map (garcOf g)
theorem garcs_length (g : GraV) : (garcs g).length = g.edges.length := by simp [garcs]
theorem checkG_head {g : GraV} (h : checkG g = 0) : headE g = 0 ∧ actorsE g.acts [] = 0 ∧ edgesE g.edges (M0of g) = 0 := by
  unfold checkG at h
  by_cases h1 : headE g = 0
  · rw [if_pos h1] at h
    by_cases h2 : actorsE g.acts [] = 0
    · rw [if_pos h2] at h
      by_cases h3 : edgesE g.edges (M0of g) = 0
      · exact ⟨h1, h2, h3⟩
      · rw [if_neg h3] at h; exact absurd h h3
    · rw [if_neg h2] at h; exact absurd h h2
  · rw [if_neg h1] at h; exact absurd h h1
theorem side_row (g : GraV) (s : Bool) {j : Nat} {x : ActV} (hx : g.acts[j]? = some x) : ((M0of g s).getD j []).length = portsN s x := by
  unfold M0of sideM
  rw [List.getD_eq_getElem?_getD, List.getElem?_map, hx]
  simp
/-- what an edge of a checked graph is -/
theorem checkG_edge {g : GraV} (h : checkG g = 0) {e : GEdg} (he : e ∈ g.edges) : ∃ x y, g.acts[e.f.toNat]? = some x ∧ g.acts[e.t.toNat]? = some y ∧ 0 ≤ e.f ∧ e.f < g.acts.length ∧ 0 ≤ e.t ∧ e.t < g.acts.length ∧
    0 ≤ e.fp ∧ e.fp < (outsOf x).length ∧ 0 ≤ e.tp ∧ e.tp < (insOf y).length ∧ e.st.length ≤ 256 := by
  obtain ⟨-, -, h3⟩ := checkG_head h
  obtain ⟨⟨a1, a2, a3, a4⟩, ⟨b1, b2, b3, b4⟩, hs⟩ := edges_all _ _ h3 e he
  rw [(side_len g true).1] at a2
  rw [(side_len g false).1] at b2
  have hx := List.getElem?_eq_getElem (l := g.acts) (i := e.f.toNat) (by omega)
  have hy := List.getElem?_eq_getElem (l := g.acts) (i := e.t.toNat) (by omega)
  rw [side_row g true hx] at a4
  rw [side_row g false hy] at b4
  exact ⟨_, _, hx, hy, a1, a2, b1, b2, a3, a4, b3, b4, hs⟩
def rateOk (r : List Int × List Int × Int) : Prop := (∀ x ∈ r.1, 1 ≤ x ∧ x ≤ 64) ∧ (∀ x ∈ r.2.1, 1 ≤ x ∧ x ≤ 64)
theorem shape_rate (tag : Int) (ps : List Int) : rateOk (shapeR tag ps) := by
  have hw : ∀ {n k : Int}, withinB n k = true → 1 ≤ n ∧ n ≤ k := fun h => by unfold withinB at h; simp at h; omega
  have hp : ∀ {l : Nat} {n m : Int}, pairB l n m = true → 1 ≤ m ∧ m ≤ 64 ∧ 1 ≤ n * m ∧ n * m ≤ 64 := fun h => by
    have h := pairB_parts h
    refine ⟨h.2.2.1, h.2.2.2.1, ?_, h.2.2.2.2⟩
    have := Int.mul_le_mul h.1 h.2.2.1 (by omega) (by omega)
    omega
  have h1 : ∀ r ∈ ([1] : List Int), 1 ≤ r ∧ r ≤ 64 := fun r hr => by simp at hr; omega
  have h11 : ∀ r ∈ ([1, 1] : List Int), 1 ≤ r ∧ r ≤ 64 := fun r hr => by simp at hr; omega
  have h0 : ∀ r ∈ ([] : List Int), 1 ≤ r ∧ r ≤ 64 := fun r hr => by cases hr
  have hn : ∀ n : Int, 1 ≤ n → n ≤ 64 → ∀ r ∈ [n], 1 ≤ r ∧ r ≤ 64 := fun n a b r hr => by simp at hr; omega
  have hR : ∀ (k : Nat) (n : Int), 1 ≤ n → n ≤ 64 → ∀ r ∈ List.replicate k n, 1 ≤ r ∧ r ≤ 64 := fun k n a b r hr => by obtain ⟨-, rfl⟩ := List.mem_replicate.1 hr; exact ⟨a, b⟩
  unfold shapeR
  split
  · exact ⟨h0, h0⟩
  · unfold shapeB
    split
    · exact ⟨h1, h1⟩
    split
    · rename_i q; have := hw q.2.2; exact ⟨h1, hn _ this.1 this.2⟩
    split
    · rename_i q; have := hw q.2.2; exact ⟨hn _ this.1 this.2, h1⟩
    split
    · rename_i q; have := hp q.2; exact ⟨hR _ _ this.1 this.2.1, hn _ this.2.2.1 this.2.2.2⟩
    split
    · rename_i q; have := hp q.2; exact ⟨hn _ this.2.2.1 this.2.2.2, hR _ _ this.1 this.2.1⟩
    split
    · exact ⟨hR _ _ (by omega) (by omega), h1⟩
    split
    · exact ⟨h11, h1⟩
    split
    · exact ⟨h1, hR _ _ (by omega) (by omega)⟩
    split
    · exact ⟨h0, h1⟩
    split
    · rename_i q; have := hw q.2.2; exact ⟨hn _ this.1 this.2, h0⟩
    · exact ⟨h0, h0⟩
/-- a checked graph's net is sound -/
theorem checkG_net {g : GraV} (h : checkG g = 0) : checkF g.acts.length (garcs g) = 0 := by
  obtain ⟨hh, hA, hE⟩ := checkG_head h
  obtain ⟨-, l1, l2, l3, -, -⟩ := head_ok hh
  have key : ∀ xs : List GEdg, (∀ e ∈ xs, e ∈ g.edges) → arcsF g.acts.length (xs.map (garcOf g)) = 0 := by
    intro xs
    induction xs with
    | nil => intro _; rfl
    | cons e xs ih =>
      intro hx
      rw [List.map_cons, arcsF, if_pos ?_]
      · exact ih fun e he => hx e (List.mem_cons_of_mem _ he)
      · obtain ⟨x, y, ex, ey, f1, f2, t1, t2, p1, p2, q1, q2, hs⟩ := checkG_edge h (hx e (List.mem_cons_self ..))
        have ro := (shape_rate x.tag x.ps).2
        have ri := (shape_rate y.tag y.ps).1
        have hg1 : 1 ≤ outAt g e.f e.fp ∧ outAt g e.f e.fp ≤ 64 := by
          unfold outAt
          rw [ex, Option.map_some, Option.getD_some, List.getD_eq_getElem?_getD, List.getElem?_eq_getElem (by omega : e.fp.toNat < (outsOf x).length), Option.getD_some]
          exact ro _ (List.getElem_mem _)
        have hg2 : 1 ≤ inAt g e.t e.tp ∧ inAt g e.t e.tp ≤ 64 := by
          unfold inAt
          rw [ey, Option.map_some, Option.getD_some, List.getD_eq_getElem?_getD, List.getElem?_eq_getElem (by omega : e.tp.toNat < (insOf y).length), Option.getD_some]
          exact ri _ (List.getElem_mem _)
        unfold arcF garcOf
        rw [if_neg (by show ¬ (e.f < 0 ∨ e.t < 0 ∨ (g.acts.length : Int) ≤ e.f ∨ (g.acts.length : Int) ≤ e.t); omega), if_neg (by show ¬ (outAt g e.f e.fp < 1 ∨ inAt g e.t e.tp < 1 ∨ 64 < outAt g e.f e.fp ∨ 64 < inAt g e.t e.tp); omega), if_neg (by show ¬ ((e.st.length : Int) < 0 ∨ 256 < (e.st.length : Int)); omega)]
  unfold checkF
  rw [if_neg (by omega), if_neg (by rw [garcs_length]; omega)]
  exact key g.edges fun _ h => h
end Go.Proofs.YtpmlljbebdidgaaDoor
