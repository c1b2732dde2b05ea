/-
  simul.run: blocks.
-/
import Derived.Test.YtdogddngiolpoaaDoorSq
namespace Go.Proofs.YtdogddngiolpoaaDoor
open Go.RowKit

/-- a block: the node, how often it has fired, the arc that lacks -/
structure BlkV where
  v : Int
  f : Int
  a : Int
def BlkV.cells (b : BlkV) : List Value := [.int .i64 b.v, .int .i64 b.f, .int .i64 b.a]
def cellsB_Sr (bs : List BlkV) : List Value := bs.flatMap BlkV.cells
/-- the nodes that have firings left -/
def blocksF (ars : List ArcV) (_n : Nat) (F Lf : Nat → Int) (k : Nat) : List BlkV := ((List.range k).filter fun v : Nat => decide (0 < Lf v)).map fun v : Nat => ⟨v, F v, optI (shortO ars F v)⟩
theorem blocksF_succ (ars : List ArcV) (n : Nat) (F Lf : Nat → Int) (k : Nat) : blocksF ars n F Lf (k + 1) = blocksF ars n F Lf k ++ if 0 < Lf k then [⟨k, F k, optI (shortO ars F k)⟩] else [] := by
  unfold blocksF
  rw [List.range_succ, List.filter_append, List.map_append]
  congr 1
  by_cases h : 0 < Lf k <;> simp [h]
theorem blocksF_length (ars : List ArcV) (n : Nat) (F Lf : Nat → Int) (k : Nat) : (blocksF ars n F Lf k).length ≤ k := by
  unfold blocksF
  have := List.length_filter_le (fun v : Nat => decide (0 < Lf v)) (List.range k)
  simpa using this
theorem cellsB_append (xs ys : List BlkV) : cellsB_Sr (xs ++ ys) = cellsB_Sr xs ++ cellsB_Sr ys := by simp [cellsB_Sr]
theorem cellsB_length (bs : List BlkV) : (cellsB_Sr bs).length = bs.length * 3 := by
  induction bs with
  | nil => rfl
  | cons b bs ih => simp only [cellsB_Sr, List.flatMap_cons, List.length_append, List.length_cons] at *; rw [ih]; simp [BlkV.cells]; omega
theorem info_blk : (Tryd.prog.info? 60).map (fun i => (i.zero.map (·.cells.size), i.size, i.bytes)) = some (some 3, 3, 24) := by kernel_rfl
theorem blk_parts : ∃ i, Tryd.prog.info? 60 = some i ∧ ∃ z, i.zero = some z ∧ i.size = 3 ∧ i.bytes = 24 ∧ z.cells.size = 3 := by
  obtain ⟨i, hi, h⟩ := Option.map_eq_some_iff.1 info_blk
  simp only [Prod.mk.injEq] at h
  obtain ⟨h1, h2, h3⟩ := h
  obtain ⟨z, hz, h4⟩ := Option.map_eq_some_iff.1 h1
  exact ⟨i, hi, z, hz, h2, h3, h4⟩
theorem RunT.below {w w' : World} {B : Nat} {r : RM} {s : SM} {n : Nat} {ars : List ArcV} {F Lf K : Nat → Int} {v : Value} (h : RunT w B r s n ars F Lf K v) (hb : Below w.heap.size w w') : RunT w' B r s n ars F Lf K v :=
  ⟨h.blk.below hb h.blk.lt, h.st.below hb, own_below h.lef hb, own_below h.rnk hb⟩
/-- ahead of the append, while a block is told -/
structure BkP (w0 : World) (n : Nat) (F : Nat → Int) (gf cf : Nat) (bs : List BlkV) (out : Value) (w : World) : Prop where
  fir : w.ownsRow w0.heap.size 3 1 (.slice (some ⟨gf, 0, none⟩) n cf) n (cellsI (rowF F n))
  out : w.ownsRow w0.heap.size 60 3 out bs.length (cellsB_Sr bs)
  bel : Below w0.heap.size w0 w
theorem BkP.below {w0 w w' : World} {n : Nat} {F : Nat → Int} {gf cf : Nat} {bs : List BlkV} {out : Value} (h : BkP w0 n F gf cf bs out w) (hb : Below w.heap.size w w') : BkP w0 n F gf cf bs out w' :=
  ⟨own_below h.fir hb, own_below h.out hb, h.bel.trans ⟨hb.os, hb.tape, hb.output, hb.size, fun k hk => hb.block k (by have := h.bel.size; omega)⟩⟩
theorem BkP.append {w0 w w' : World} {n : Nat} {F : Nat → Int} {gf cf : Nat} {bs : List BlkV} {out v' : Value} (h : BkP w0 n F gf cf bs out w) (b : BlkV) (hg : w.grownBy w' out.ownBlock) (ho : w'.ownsRow w0.heap.size 60 3 v' (bs.length + 1) (cellsB_Sr bs ++ b.cells)) : BkP w0 n F gf cf (bs ++ [b]) v' w' := by
  refine ⟨h.fir.kept hg (.inr fun hc => ?_), ?_, h.bel.grown hg h.bel.size fun k hk => own_ge h.out hk⟩
  · obtain ⟨c1, k1⟩ := own_block h.fir rfl
    obtain ⟨c2, k2⟩ := own_block h.out (b := gf) hc.symm
    exact absurd (blk_ty k1 k2) (by decide)
  · have e : cellsB_Sr (bs ++ [b]) = cellsB_Sr bs ++ b.cells := by simp [cellsB_Sr]
    rw [e, List.length_append]
    exact ho
/-- memory while a block is told -/
structure BkI (w0 : World) (n : Nat) (ars : List ArcV) (F : Nat → Int) (gr gs k gf cf : Nat) (bs : List BlkV) (out : Value) (L : Nat → Bool) (V : Nat → Value) (w : World) : Prop where
  p0 : L 14 = false → BkP w0 n F gf cf bs out w
  p1 : L 14 = true → BkP w0 n F gf cf (bs ++ [⟨k, F k, optI (shortO ars F k)⟩]) (V 38) w
  a15 : L 15 = true → V 3 = V 38
  f3 : L 15 = false → V 3 = out
  e11 : L 11 = true → V 35 = .int .i64 (optI (shortO ars F k))
  b : L 13 = true → L 14 = false → ∃ gb, V 37 = .slice (some ⟨gb, 0, none⟩) 1 1 ∧ gb < w.heap.size ∧ w.cell? ⟨gb, 0, none⟩ = some (.int .i64 k) ∧ w.cell? ⟨gb, 1, none⟩ = some (.int .i64 (F k)) ∧ w.cell? ⟨gb, 2, none⟩ = some (.int .i64 (optI (shortO ars F k)))
  e0 : L 0 = true → V 24 = out
  e1 : L 1 = true → V 25 = .int .i64 k
  e2 : L 2 = true → V 26 = .slice (some ⟨gf, 0, none⟩) n cf
  e3 : L 3 = true → V 27 = .int .i64 k
  e4 : L 4 = true → V 28 = .pointer (some ⟨gf, k, none⟩)
  e5 : L 5 = true → V 29 = .int .i64 (F k)
  e6 : L 6 = true → V 30 = .pointer (some ⟨gr, 0, none⟩)
  e7 : L 7 = true → V 31 = .pointer (some ⟨gr, 0, none⟩)
  e8 : L 8 = true → V 32 = .pointer (some ⟨gr, 0, none⟩)
  e9 : L 9 = true → V 33 = .pointer (some ⟨gs, 0, none⟩)
  e10 : L 10 = true → V 34 = .int .i64 k
  e12 : L 12 = true → V 36 = .agg #[.int .i64 k, .int .i64 (F k), .int .i64 (optI (shortO ars F k))]

set_option maxRecDepth 100000 in
set_option maxHeartbeats 4000000 in
theorem blocks_any (n : Nat) (ars : List ArcV) (F Lf K : Nat → Int) (B : Nat) (r : RM) (s : SM) (v : Value) (w : World) (hN : NetOk n ars) (hF : small n F) (hR : RunT w B r s n ars F Lf K v) :
    Calls Tryd.prog 18 #[.pointer (some ⟨r.gr, 0, none⟩)] w fun e w' => ∃ out, e = .returned out ∧ w'.ownsRow w.heap.size 60 3 out (blocksF ars n F Lf n).length (cellsB_Sr (blocksF ars n F Lf n)) ∧ Below w.heap.size w w' := by
  obtain ⟨ib, hib, zb, hzb, hb1, hb2, hb3⟩ := blk_parts
  have n32 := hN.n32
  have c0 := hR.blk.cell 0
  have c1 := hR.blk.cell 1
  simp only [List.getElem?_toArray, List.getElem?_cons_zero, List.getElem?_cons_succ] at c0 c1
  have HN := Lib.hid hN
  have HF := Lib.hid hF
  have HR := Lib.hid hR
  clear hF hR
  go_enter Tryd.func18, Tryd.ntmps18
  go_wp2_with fail
  refine (fired_any n ars F B s w hN HR.out.st).mono ?_
  rintro e w1 ⟨Af, cf, rfl, of, bf⟩
  clear hN
  obtain ⟨gf, rfl⟩ : ∃ g, Af = some ⟨g, 0, none⟩ := own_addr of (by have := HN.out.pos; omega)
  have hR1 := HR.out.below bf
  have d0 := hR1.blk.cell 0
  have d1 := hR1.blk.cell 1
  simp only [List.getElem?_toArray, List.getElem?_cons_zero, List.getElem?_cons_succ] at d0 d1
  have P0 : BkP w n F gf cf (blocksF ars n F Lf 0) (.slice none 0 0) w1 := ⟨of, World.ownsRow_nil _ _ _ _, bf⟩
  clear of bf hR1
  go_wp2_with fail
  clear c0 c1 d0 d1
  go_loopw [3, 17] (fun o i wr => ∃ k : Nat, k ≤ n ∧ i = .int .i64 k ∧ BkP w n F gf cf (blocksF ars n F Lf k) o wr) (fun _ i _ => n - (intOf i).toNat)
  case atStart => exact ⟨0, Nat.zero_le _, rfl, P0⟩
  case round =>
    clear P0
    obtain ⟨k, hk', rfl, P⟩ := hrel
    by_cases hk : k < n
    · have hR2 := HR.out.below P.bel
      have hc := own_firCell hR2.lef hk
      obtain ⟨lk, hlk⟩ : ∃ lk, Lf k = lk := ⟨_, rfl⟩
      have hs := blocksF_succ ars n F Lf k
      rw [hlk] at hc hs
      have h1 : (0 : Int) ≤ (k : Int) := by omega
      have h2 : (k : Int) < (n : Int) := by omega
      have HP := Lib.hid P
      clear P hR2 hlk
      by_cases hl : 0 < lk
      · rw [if_pos hl] at hs
        obtain ⟨bs, hbs⟩ : ∃ bs, blocksF ars n F Lf k = bs := ⟨_, rfl⟩
        have hbl := blocksF_length ars n F Lf k
        rw [hbs] at HP hs hbl
        have Hbs := Lib.hid hbs
        clear hbs
        obtain ⟨Ao, co, rfl, -⟩ := own_slice HP.out.out
        go_wp2_with fail
        have hI0 : ∀ V : Nat → Value, V 3 = .slice Ao bs.length co → BkI w n ars F r.gr s.gs k gf cf bs (.slice Ao bs.length co) (fun _ => false) V wr.drew := fun V hV3 =>
          by
          have h0 := HP.out.below (Drawn.below _ ((Drawn.refl wr).drewN 1))
          constructor
          all_goals first
            | exact fun _ => h0
            | exact fun _ => hV3
            | (intro h; cases h)
        refine wp_region_put2 [24, 25, 26, 27, 28, 29, 30, 31, 32, 33, 34, 35, 36, 37, 38, 3] (BkI w n ars F r.gr s.gs k gf cf bs (.slice Ao bs.length co)) (by kernel_rfl) (by kernel_rfl) ?_ ?_ ?_
        · exact hI0 _ rfl
        · intro i o ho L V w1 hi hL hno h K hK
          rcases i with _ | _ | _ | _ | _ | _ | _ | _ | _ | _ | _ | _ | _ | _ | _ | _ | i
          · cases ho
            simp only [putAll, List.foldl_cons, List.foldl_nil, List.setIfInBounds_toArray, List.set_cons_zero, List.set_cons_succ]
            have e3 : V 3 = _ := h.f3 (hno 15 (by kernel_rfl))
            clear hL hno
            go_simp
            refine hK (updV V 24 (.slice Ao bs.length co)) _ _ (by simp [putAll, updV, e3]) ?_
            exact { h with e0 := fun _ => rfl }
          · cases ho
            simp only [putAll, List.foldl_cons, List.foldl_nil, List.setIfInBounds_toArray, List.set_cons_zero, List.set_cons_succ]
            clear hL hno
            go_simp
            refine hK (updV V 25 (.int .i64 k)) _ _ (by simp [putAll, updV]) ?_
            exact { h with e1 := fun _ => rfl }
          · cases ho
            simp only [putAll, List.foldl_cons, List.foldl_nil, List.setIfInBounds_toArray, List.set_cons_zero, List.set_cons_succ]
            clear hL hno
            go_simp
            refine hK (updV V 26 (.slice (some ⟨gf, 0, none⟩) n cf)) _ _ (by simp [putAll, updV]) ?_
            exact { h with e2 := fun _ => rfl }
          · cases ho
            simp only [putAll, List.foldl_cons, List.foldl_nil, List.setIfInBounds_toArray, List.set_cons_zero, List.set_cons_succ]
            clear hL hno
            go_simp
            refine hK (updV V 27 (.int .i64 k)) _ _ (by simp [putAll, updV]) ?_
            exact { h with e3 := fun _ => rfl }
          · cases ho
            simp only [putAll, List.foldl_cons, List.foldl_nil, List.setIfInBounds_toArray, List.set_cons_zero, List.set_cons_succ]
            have e2 : V 26 = _ := h.e2 (hL ⟨2, .data⟩ (by simp) rfl)
            have e3 : V 27 = _ := h.e3 (hL ⟨3, .data⟩ (by simp) rfl)
            clear hL hno
            go_simp
            refine hK (updV V 28 (.pointer (some ⟨gf, k, none⟩))) _ _ (by simp [putAll, updV, e2, e3]) ?_
            exact { h with e4 := fun _ => rfl }
          · cases ho
            simp only [putAll, List.foldl_cons, List.foldl_nil, List.setIfInBounds_toArray, List.set_cons_zero, List.set_cons_succ]
            have e4 : V 28 = _ := h.e4 (hL ⟨4, .data⟩ (by simp) rfl)
            have l14 : L 14 = false := hno 14 (by kernel_rfl)
            have ct := own_firCell (h.p0 l14).fir hk
            clear hL hno
            go_simp
            refine hK (updV V 29 (.int .i64 (F k))) _ _ (by simp [putAll, updV, e4]) ?_
            exact { h with e5 := fun _ => rfl }
          · cases ho
            simp only [putAll, List.foldl_cons, List.foldl_nil, List.setIfInBounds_toArray, List.set_cons_zero, List.set_cons_succ]
            clear hL hno
            go_simp
            refine hK (updV V 30 (.pointer (some ⟨r.gr, 0, none⟩))) _ _ (by simp [putAll, updV]) ?_
            exact { h with e6 := fun _ => rfl }
          · cases ho
            simp only [putAll, List.foldl_cons, List.foldl_nil, List.setIfInBounds_toArray, List.set_cons_zero, List.set_cons_succ]
            have e6 : V 30 = _ := h.e6 (hL ⟨6, .data⟩ (by simp) rfl)
            clear hL hno
            go_simp
            refine hK (updV V 31 (.pointer (some ⟨r.gr, 0, none⟩))) _ _ (by simp [putAll, updV, e6]) ?_
            exact { h with e7 := fun _ => rfl }
          · cases ho
            simp only [putAll, List.foldl_cons, List.foldl_nil, List.setIfInBounds_toArray, List.set_cons_zero, List.set_cons_succ]
            have e7 : V 31 = _ := h.e7 (hL ⟨7, .data⟩ (by simp) rfl)
            clear hL hno
            go_simp
            refine hK (updV V 32 (.pointer (some ⟨r.gr, 0, none⟩))) _ _ (by simp [putAll, updV, e7]) ?_
            exact { h with e8 := fun _ => rfl }
          · cases ho
            simp only [putAll, List.foldl_cons, List.foldl_nil, List.setIfInBounds_toArray, List.set_cons_zero, List.set_cons_succ]
            have e8 : V 32 = _ := h.e8 (hL ⟨8, .data⟩ (by simp) rfl)
            have l14 : L 14 = false := hno 14 (by kernel_rfl)
            have ct := (HR.out.below (h.p0 l14).bel).blk.cell 0
            simp only [List.getElem?_toArray, List.getElem?_cons_zero] at ct
            clear hL hno
            go_simp
            refine hK (updV V 33 (.pointer (some ⟨s.gs, 0, none⟩))) _ _ (by simp [putAll, updV, e8]) ?_
            exact { h with e9 := fun _ => rfl }
          · cases ho
            simp only [putAll, List.foldl_cons, List.foldl_nil, List.setIfInBounds_toArray, List.set_cons_zero, List.set_cons_succ]
            clear hL hno
            go_simp
            refine hK (updV V 34 (.int .i64 k)) _ _ (by simp [putAll, updV]) ?_
            exact { h with e10 := fun _ => rfl }
          · cases ho
            have e9 : V 33 = _ := h.e9 (hL ⟨9, .data⟩ (by simp) rfl)
            have e10 : V 34 = _ := h.e10 (hL ⟨10, .data⟩ (by simp) rfl)
            have l14 : L 14 = false := hno 14 (by kernel_rfl)
            clear hL hno
            simp only [putAll, List.foldl_cons, List.foldl_nil, List.setIfInBounds_toArray, List.set_cons_zero, List.set_cons_succ]
            go_simp
            refine (short_any k n ars F B s w1 HN.out HF.out (HR.out.below (h.p0 l14).bel).st hk).mono ?_
            rintro e w3 ⟨rfl, hd⟩
            refine hK (updV V 35 (.int .i64 (optI (shortO ars F k)))) _ _ (by simp [putAll, updV, e9, e10]) ?_
            exact { h with
              p0 := fun h14 => BkP.below (h.p0 h14) (hd.below _)
              b := fun h13 _ => by obtain ⟨gb, e, hgb, hc0, hc1, hc2⟩ := h.b h13 l14; exact ⟨gb, e, by rw [hd.size]; exact hgb, (hd.cell _).trans hc0, (hd.cell _).trans hc1, (hd.cell _).trans hc2⟩
              p1 := fun h14 => (by cases (h14.symm.trans l14))
              e11 := fun _ => rfl }
          · cases ho
            simp only [putAll, List.foldl_cons, List.foldl_nil, List.setIfInBounds_toArray, List.set_cons_zero, List.set_cons_succ]
            have e1 : V 25 = _ := h.e1 (hL ⟨1, .data⟩ (by simp) rfl)
            have e5 : V 29 = _ := h.e5 (hL ⟨5, .data⟩ (by simp) rfl)
            have e11 : V 35 = _ := h.e11 (hL ⟨11, .data⟩ (by simp) rfl)
            clear hL hno
            go_simp
            refine hK (updV V 36 (.agg #[.int .i64 k, .int .i64 (F k), .int .i64 (optI (shortO ars F k))])) _ _ (by simp [putAll, updV, e1, e5, e11]) ?_
            exact { h with e12 := fun _ => rfl }
          · cases ho
            have e12 : V 36 = _ := h.e12 (hL ⟨12, .data⟩ (by simp) rfl)
            have l14 : L 14 = false := hno 14 (by kernel_rfl)
            clear hL hno
            simp only [putAll, List.foldl_cons, List.foldl_nil, List.setIfInBounds_toArray, List.set_cons_zero, List.set_cons_succ]
            have hb := (Below.refl w1.heap.size w1).alloc (Nat.le_refl _) (.cells #[.int .i64 k, .int .i64 (F k), .int .i64 (optI (shortO ars F k))] 60)
            have hnew := Blk.new w1 _ rfl 60 #[.int .i64 k, .int .i64 (F k), .int .i64 (optI (shortO ars F k))]
            go_simp
            refine hK (updV V 37 (.slice (some ⟨w1.heap.size, 0, none⟩) 1 1)) _ _ (by simp [putAll, updV, e12]) ?_
            exact { h with
              p0 := fun h14 => BkP.below (h.p0 h14) hb
              b := fun _ _ => ⟨_, rfl, by simp, hnew.cell 0, hnew.cell 1, hnew.cell 2⟩
              p1 := fun h14 => (by cases (h14.symm.trans l14)) }
          · cases ho
            have e0 : V 24 = _ := h.e0 (hL ⟨0, .data⟩ (by simp) rfl)
            obtain ⟨gb, e13', hgb, hc0, hc1, hc2⟩ := h.b (hL ⟨13, .data⟩ (by simp) rfl) hi
            have e13 : V 37 = _ := e13'
            have l15 : L 15 = false := hno 15 (by kernel_rfl)
            clear hL hno
            have hp := h.p0 hi
            have hlen := hbl
            refine step_append_rd rfl _ _ 34 rfl w.heap.size 60 ib zb 3 24 Tryd.underlying34 hib hzb hb1 hb2 hb3 (by decide) (.slice Ao bs.length co) bs.length _ (by simp [putAll, Act.eval, e0]) hp.out w1.heap.size (some ⟨gb, 0, none⟩) 1 1 (BlkV.cells ⟨k, F k, optI (shortO ars F k)⟩) (by simp [putAll, Act.eval, e13]) rfl (.inr ⟨gb, 0, rfl, hgb, fun j u hu => ?_⟩) (by simp [BlkV.cells, Value.oneCell']) (by unfold maxLen; omega) (by omega) hp.bel.size ?_
            · match j, hu with
              | 0, hu => cases hu; exact hc0
              | 1, hu => cases hu; exact hc1
              | 2, hu => cases hu; exact hc2
              | j + 3, hu => simp [BlkV.cells] at hu
            intro v' w2 o2 g2 hv2
            have hnext := BkP.append hp ⟨k, F k, optI (shortO ars F k)⟩ g2 o2
            refine hK (updV V 38 v') _ _ (by simp [putAll, Act.put, updV]) ?_
            exact { h with
              p0 := fun hn => (by cases hn)
              b := fun _ hn => (by cases hn)
              a15 := fun h15 => (by cases (h15.symm.trans l15))
              p1 := fun _ => hnext }
          · cases ho
            have l14 := hL ⟨14, .data⟩ (by simp) rfl
            clear hL hno
            simp only [putAll, List.foldl_cons, List.foldl_nil, List.setIfInBounds_toArray, List.set_cons_zero, List.set_cons_succ]
            have hp := h.p1 l14
            obtain ⟨Ax, cx, e14, _⟩ := own_slice hp.out
            go_simp
            refine hK (updV V 3 (V 38)) _ _ (by simp [putAll, updV, e14]) ?_
            exact { h with a15 := fun _ => rfl, f3 := fun hn => (by cases hn) }
          · simp at ho
        · clear hI0
          intro L V w2 hL h
          have hp := h.p1 (hL 14 (by simp))
          have e15 := h.a15 (hL 15 (by simp))
          rw [← hs, ← e15] at hp
          simp only [putAll, List.foldl_cons, List.foldl_nil, List.setIfInBounds_toArray, List.set_cons_zero, List.set_cons_succ]
          clear h hL HP hs
          go_wp2_with fail
          refine ⟨⟨k + 1, by omega, by go_num, hp⟩, by simp [intOf]; omega⟩
      · rw [if_neg hl, List.append_nil] at hs
        have hl2 : lk ≤ 0 := by omega
        rw [← hs] at HP
        go_wp2_with fail
        refine ⟨⟨k + 1, by omega, by go_num, HP.out⟩, by simp [intOf]; omega⟩
    · obtain rfl : k = n := by omega
      go_wp2
      go_ret
      exact ⟨_, rfl, P.out, P.bel⟩
end Go.Proofs.YtdogddngiolpoaaDoor
