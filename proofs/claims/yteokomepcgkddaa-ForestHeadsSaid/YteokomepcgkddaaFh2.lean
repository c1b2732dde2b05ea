/-
  The law ForestHeads: the forest of the first arcs is the beginning of the forest.
-/
import Derived.Test.YteokomepcgkddaaFh
namespace Go.Proofs.Yteokomepcgkddaa
open Go.RowKit

/-- numbers do not lie in a block that holds none -/
theorem Rd.apart {w : World} {B g : Nat} {t : TypeId} {cs : Array Value} {A : Option Addr} {xs : List Int} (h : Rd w B A (cellsI xs)) (hg : Blk w g t cs) (hc : ∀ (i : Nat) (x : Int), cs[i]? ≠ some (Value.int .i64 x)) (j : Nat) (u : Value) : Rd (w.setCell ⟨g, j, none⟩ u) B A (cellsI xs) := by
  rcases h with h | ⟨b, off, ha, hb, hcell⟩
  · exact .inl h
  · refine .inr ⟨b, off, ha, hb, fun k v hv => ?_⟩
    have h1 := hcell k v hv
    have hint : ∃ x, v = .int .i64 x := by
      simp only [cellsI, List.getElem?_map] at hv
      obtain ⟨x, _, rfl⟩ := Option.map_eq_some_iff.1 hv
      exact ⟨x, rfl⟩
    obtain ⟨x, rfl⟩ := hint
    have hne : b ≠ g := by
      intro he
      subst he
      rw [hg.cell] at h1
      exact hc _ x h1
    rw [World.cell?_setCell_far w ⟨g, j, none⟩ ⟨b, off + k, none⟩ u (fun he => hne he.symm)]
    exact h1

set_option maxHeartbeats 4000000 in
theorem headsLaw_any (n : Int) (ars : List ArcV) (A : Option Addr) (l c : Nat) (k : Int) (w : World) (hl : ars.length = l) (hx : ∀ a ∈ ars, a.fit) (hr : Rd w w.heap.size A (cellsA ars)) (hm : l ≤ maxLen) (hlc : l ≤ c) (hk : fits k) :
    Calls Try.prog 8 #[.agg #[.int .i64 n, .slice A l c], .int .i64 k] w fun e w' => e = .returned (.bool true) ∧ Below w.heap.size w w' := by
  obtain ⟨i0, hi, hz0, hz1, hz2⟩ := info_parts info_int
  have b1 := (Below.refl w.heap.size w).alloc (Nat.le_refl _) (.cells #[.int .i64 n, .slice A l c] 24)
  have kb := Blk.new w _ rfl 24 #[.int .i64 n, .slice A l c]
  unfold fits at hk
  by_cases hout : k < 0 ∨ (l : Int) < k
  · by_cases hneg : k < 0
    all_goals
      go_enter Try.func8, Try.ntmps8
      go_wp2_with fail
      refine (awake_any _).mono ?_; rintro e w6 ⟨rfl, hb6⟩
      have b6 := b1.trans (hb6.mono b1.size)
      go_wp2_with fail
      go_ret
      exact ⟨rfl, b6⟩
  · obtain ⟨m, rfl⟩ : ∃ m : Nat, k = m := ⟨k.toNat, by omega⟩
    have hml : m ≤ l := by omega
    clear hout hk
    go_enter Try.func8, Try.ntmps8
    go_wp2_with fail
    refine (of_any n ars A l c _ hl hx ((hr.below b1 (Nat.le_refl _)).more b1.size) hm).mono ?_; rintro e w2 ⟨At, ct, Ah, ch, k1, tree, home, rfl, ha1, rt, _, hb2⟩
    have b2 := b1.trans (hb2.mono b1.size)
    have k2 := (kb.below hb2 (by simp)).alloc (.cells #[.slice At tree.length ct, .slice Ah home.length ch] 27)
    have f2 := Blk.new w2 _ rfl 27 #[.slice At tree.length ct, .slice Ah home.length ch]
    have b3 := b2.alloc b2.size (.cells #[.slice At tree.length ct, .slice Ah home.length ch] 27)
    have rt3 : Rd (w2.alloc (.cells #[.slice At tree.length ct, .slice Ah home.length ch] 27)) w2.heap.size At (cellsI tree) := rt.below ((Below.refl w2.heap.size w2).alloc (Nat.le_refl _) _) (Nat.le_refl _)
    obtain ⟨W, hW⟩ : ∃ W, w2.alloc (.cells #[.slice At tree.length ct, .slice Ah home.length ch] 27) = W := ⟨_, rfl⟩
    obtain ⟨bF, hbF⟩ : ∃ bF, w2.heap.size = bF := ⟨_, rfl⟩
    rw [hW] at k2 f2 b3 rt3
    rw [hbF] at f2 rt3
    have rW := (hr.below b3 (Nat.le_refl _)).more b3.size
    have n0 := k2.cell 0
    have n1 := k2.cell 1
    simp at n0 n1
    clear kb b1 hb2 b2 rt
    go_upto_region 4 with fail
    try rw [hW]
    clear hW hbF
    have hltW : w.heap.size < W.heap.size := k2.lt
    have hl' : (ars.take m).length = m := by rw [List.length_take]; omega
    have hx' : ∀ a ∈ ars.take m, a.fit := fun a ha => hx a (List.mem_of_mem_take ha)
    have R0 : ∀ W', Below W.heap.size W W' → Rd W' W'.heap.size A (cellsA (ars.take m)) := fun W' hb => ((rW.takeA m).below hb (Nat.le_refl _)).more hb.size
    have hml0 : (m : Int) ≤ (l : Int) := by omega
    have hml1 : (m : Int) ≤ (c : Int) := by omega
    have hm0 : (0 : Int) ≤ (m : Int) := by omega
    clear hr rW
    go_cut [7, 8] (fun s7 s8 wx => ∃ (b7 : Nat) (A' : Option Addr) (c' : Nat) (Ah' : Option Addr) (ch' : Nat) (k' : Int) (tree' home' : List Int), s7 = .pointer (some ⟨b7, 0, none⟩) ∧ s8 = .int .i64 k' ∧ OfAns n (ars.take m) k' tree' home' ∧
      Blk wx b7 27 #[.slice A' tree'.length c', .slice Ah' home'.length ch'] ∧ Rd wx wx.heap.size A' (cellsI tree') ∧ Below W.heap.size W wx)
    case first =>
      have hne1 : w.heap.size ≠ W.heap.size := by omega
      have hne2 : W.heap.size ≠ w.heap.size := by omega
      go_region_held3 (fun w' => w'.cell? ⟨w.heap.size, 0, none⟩ = some (.int .i64 n) ∧ w'.cell? ⟨w.heap.size, 1, none⟩ = some (.slice A l c))
        (go_keep)
        (first
          | (go_at_call 11; refine (of_any n (ars.take m) A m c _ hl' hx' ?_ (by omega)).mono ?_; exact R0 _ (Below.drewN (Below.refl _ _) 1); rintro e w4 ⟨A4, c4, Ah4, ch4, k4, tree4, home4, rfl, ha4, rt4, rh4, hb4⟩; have q0 : w4.cell? ⟨w.heap.size, 0, none⟩ = some (.int .i64 n) := (hb4.cell (p := ⟨w.heap.size, 0, none⟩) (by simp; omega)).trans (by simp [*]); have q1 : w4.cell? ⟨w.heap.size, 1, none⟩ = some (.slice A l c) := (hb4.cell (p := ⟨w.heap.size, 1, none⟩) (by simp; omega)).trans (by simp [*]); have hs4 := hb4.size; simp at hs4; have hn4 : w.heap.size ≠ w4.heap.size := (by omega))
          | (go_at_call 11; refine (of_any n (ars.take m) A m c _ hl' hx' ?_ (by omega)).mono ?_; exact R0 _ (Below.drewN ((Below.refl _ _).alloc (Nat.le_refl _) _) 1); rintro e w4 ⟨A4, c4, Ah4, ch4, k4, tree4, home4, rfl, ha4, rt4, rh4, hb4⟩; have q0 : w4.cell? ⟨w.heap.size, 0, none⟩ = some (.int .i64 n) := (hb4.cell (p := ⟨w.heap.size, 0, none⟩) (by simp; omega)).trans (by simp [*]); have q1 : w4.cell? ⟨w.heap.size, 1, none⟩ = some (.slice A l c) := (hb4.cell (p := ⟨w.heap.size, 1, none⟩) (by simp; omega)).trans (by simp [*]); have q2 : w4.cell? ⟨W.heap.size, 0, none⟩ = some (.slice none 0 0) := (hb4.cell (p := ⟨W.heap.size, 0, none⟩) (by simp)).trans (by simp); have q3 : w4.cell? ⟨W.heap.size, 1, none⟩ = some (.slice none 0 0) := (hb4.cell (p := ⟨W.heap.size, 1, none⟩) (by simp)).trans (by simp); have q4 : w4.frozen? ⟨W.heap.size, 0, none⟩ = false := (hb4.frozen (p := ⟨W.heap.size, 0, none⟩) (by simp)).trans (by simp); have q5 : w4.frozen? ⟨W.heap.size, 1, none⟩ = false := (hb4.frozen (p := ⟨W.heap.size, 1, none⟩) (by simp)).trans (by simp)))
      · go_wp2
        go_meet
        have hbW : Below W.heap.size W w4 := (Below.drewN (Below.refl _ W) 1).trans hb4
        exact ⟨w4.heap.size, A4, c4, Ah4, ch4, k4, tree4, home4, rfl, rfl, ha4, Blk.new w4 _ rfl _ _, (rt4.below ((Below.refl w4.heap.size w4).alloc (Nat.le_refl _) _) (Nat.le_refl _)).more (by simp), hbW.alloc hbW.size _⟩
      · go_wp2
        go_meet
        have hbW : Below W.heap.size W w4 := (Below.drewN ((Below.refl _ W).alloc (Nat.le_refl _) _) 1).trans (hb4.mono (by simp))
        have kW : Blk w4 W.heap.size 27 #[.slice none 0 0, .slice none 0 0] := Blk.below (w := (W.alloc (.cells #[.slice none 0 0, .slice none 0 0] 27)).drew) (Blk.new W _ rfl _ _) hb4 (by simp)
        have kW1 := kW.set 0 (.slice A4 tree4.length c4)
        have kW2 := kW1.set 1 (.slice Ah4 home4.length ch4)
        have rt5 := rt4.apart kW (by intro i x; match i with | 0 => simp | 1 => simp | i + 2 => simp) 0 (.slice A4 tree4.length c4)
        have rt6 := rt5.apart kW1 (by intro i x; match i with | 0 => simp | 1 => simp | i + 2 => simp) 1 (.slice Ah4 home4.length ch4)
        exact ⟨W.heap.size, A4, c4, Ah4, ch4, k4, tree4, home4, rfl, rfl, ha4, by simpa using kW2, rt6.more (by simp), (hbW.setCell (by simp) _).setCell (by simp) _⟩
    case rest =>
      obtain ⟨b7, A', c', Ah', ch', k', tree', home', rfl, rfl, ha2, k7, rt7, bW⟩ := hcut
      have f7 := f2.below bW f2.lt
      have rt8 := rt3.below bW (by have := f2.lt; omega)
      have hfl : bF < wc.heap.size := f7.lt
      have bwc := b3.trans (bW.mono b3.size)
      clear f2 rt3 bW R0 k2 n0 n1 hltW b3
      by_cases hk1 : k1 = 0
      · subst hk1
        have hcn : checkF n ars = 0 ∧ ∃ q : Nat, n = q ∧ tree = treeF q ars := by
          rcases ha1 with ⟨h1, h2, _⟩ | ⟨h1, _, q, h2, h3, _⟩
          · exact absurd h2.symm h1
          · exact ⟨h1, q, h2, h3⟩
        obtain ⟨hc, q, hq, htree⟩ := hcn
        have hk' : k' = 0 ∧ tree' = tree.filter (fun x => decide (x < (m : Int))) := by
          rcases ha2 with ⟨h1, _⟩ | ⟨h1, h2, q', h3, h4, _⟩
          · exact absurd (checkF_take m hc) h1
          · obtain rfl : q = q' := by omega
            exact ⟨h2, by rw [h4, htree, treeF_take q ars m (by omega)]⟩
        obtain ⟨rfl, htr⟩ := hk'
        have hfit := ha1.fit
        have Htr := Lib.hid htr
        have hfit' := ha2.fit
        clear ha1 ha2 htr htree hc hq
        obtain ⟨hf1, _, hf2, _, _⟩ := hfit
        obtain ⟨hf1', _, _, _, _⟩ := hfit'
        obtain ⟨wo, rfl⟩ : ∃ wo : World, wo = wc := ⟨_, rfl⟩
        go_wp2
        go_loopw [9, 10] (fun v i wr => ∃ (j : Nat) (xs : List Int) (A9 : Option Addr) (c9 : Nat), j ≤ tree.length ∧ i = .int .i64 j ∧ v = .slice A9 xs.length c9 ∧ wr.ownsRow wo.heap.size 3 1 (.slice A9 xs.length c9) xs.length (cellsI xs) ∧ Below wo.heap.size wo wr ∧ Hid (xs = (tree.take j).filter (fun x => decide (x < (m : Int)))) ∧ xs.length ≤ j) (fun _ i _ => tree.length - (intOf i).toNat)
        case atStart => exact ⟨0, [], none, 0, Nat.zero_le _, rfl, rfl, World.ownsRow_nil _ _ _ _, Below.refl _ _, rfl, Nat.le_refl _⟩
        case round =>
          obtain ⟨j, xs, A9, c9, hj, rfl, rfl, o9, bo, Hxs, hxl⟩ := hrel
          have f8 := f7.below bo hfl
          have p0 := f8.cell 0
          simp at p0
          by_cases hlt : j < tree.length
          · obtain ⟨b, off, x, rfl, hbl, hxf, hcx, hd, hxx⟩ := (rt8.below bo (by omega)).at_ hf1 hlt
            have htk : tree.take (j + 1) = tree.take j ++ [x] := by rw [List.take_add_one, hxx.out]; rfl
            by_cases hxm : x < (m : Int)
            · have Hxs2 : Hid (xs ++ [x] = (tree.take (j + 1)).filter (fun x => decide (x < (m : Int)))) := by unfold Hid; rw [htk, List.filter_append, ← Hxs.out]; simp [hxm]
              clear hd hxx htk Hxs
              go_wp2_with (at_builtin; refine wpList_append_rd _ rfl _ _ 25 rfl wo.heap.size 3 i0 (.int .i64 0) 1 8 Try.underlying25 hi hz0 hz1 hz2 rfl (by decide) _ xs.length (cellsI xs) rfl (o9.alloc _) (wr.heap.size + 1) (some ⟨wr.heap.size, 0, none⟩) 1 1 (cellsI [x]) rfl rfl (rd_alloc wr wr.heap.size rfl 3 (cellsI [x])) (cellsI_one [x]) (by unfold maxLen; omega) (by omega) (by have := bo.size; simp; omega) ?_)
              intro v' w5 o5 g5 _
              obtain ⟨A5, c5, rfl, _⟩ := own_slice o5
              have bo5 := (bo.alloc bo.size (.cells #[.int .i64 x] 3)).grown g5 (bo.alloc bo.size (.cells #[.int .i64 x] 3)).size (fun k hk => (o9.lt k hk).1)
              have o6 : w5.ownsRow wo.heap.size 3 1 (.slice A5 (xs ++ [x]).length c5) (xs ++ [x]).length (cellsI (xs ++ [x])) := by simpa [cellsI] using o5
              clear o5 g5 o9 p0 hcx
              go_wp2
              go_roundw
              case rel => exact ⟨j + 1, xs ++ [x], A5, c5, by omega, by go_num, by simp, o6, bo5, Hxs2, by simp; omega⟩
              case measure => simp [intOf]; omega
            · have Hxs2 : Hid (xs = (tree.take (j + 1)).filter (fun x => decide (x < (m : Int)))) := by unfold Hid; rw [htk, List.filter_append, ← Hxs.out]; simp; omega
              clear hd hxx htk Hxs
              go_wp2
              go_roundw
              case rel => exact ⟨j + 1, xs, A9, c9, by omega, by go_num, rfl, o9, bo, Hxs2, by omega⟩
              case measure => simp [intOf]; omega
          · have hall : xs = tree' := by rw [Hxs.out, List.take_of_length_le (by omega), ← Htr.out]
            subst hall
            have rx := rd_of_own o9
            have k8 := k7.below bo k7.lt
            have q0 := k8.cell 0
            simp at q0
            have rt9 := rt7.below bo (Nat.le_refl _)
            clear Hxs Htr o9
            go_wp2_with fail
            refine (sameInts_yes xs A9 A' xs.length c9 c' _ _ _ rfl hf1' rx rt9 (by unfold maxLen; omega)).mono ?_; rintro e w6 ⟨rfl, d6⟩
            have b6 := (bwc.trans (bo.mono bwc.size)).trans (d6.below _)
            clear rx rt9 d6
            go_wp2_with fail
            refine (awake_any w6).mono ?_; rintro e w7 ⟨rfl, hb7⟩
            have b7 := b6.trans (hb7.mono b6.size)
            go_wp2_with fail
            go_ret
            exact ⟨rfl, b7⟩
      · have hne : (k1 != 0) = true := by simpa using hk1
        clear ha1 ha2 hk1
        go_wp2_with fail
        refine (awake_any _).mono ?_; rintro e w7 ⟨rfl, hb7⟩
        have b7 := bwc.trans (hb7.mono bwc.size)
        go_wp2_with fail
        go_ret
        exact ⟨rfl, b7⟩
end Go.Proofs.Yteokomepcgkddaa
