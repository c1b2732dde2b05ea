/-
  pianolaref15.Run.
-/
import Derived.Test.YtdogddngiolpoaaRa
namespace Go.Proofs.Ytdogddngiolpoaa
open Go.RowKit

/-- the document's run in memory, relative to the world when it began -/
structure RefX (wZ w : World) (Z n g : Nat) (F : Nat → Int) (lv : Value) (ls : List Int) : Prop where
  only : Only (fun k => k = g ∨ Z ≤ k) wZ w
  fir : w.ownsRow 0 3 1 (.slice (some ⟨g, 0, none⟩) n n) n (cellsI (rowF F n))
  lst : w.ownsRow Z 3 1 lv ls.length (cellsI ls)
theorem RefX.below {wZ w w' : World} {Z n g : Nat} {F : Nat → Int} {lv : Value} {ls : List Int} (h : RefX wZ w Z n g F lv ls) (hb : Below w.heap.size w w') : RefX wZ w' Z n g F lv ls :=
  ⟨h.only.below hb, own_below h.fir hb, own_below h.lst hb⟩
theorem RefX.fire {wZ w w' : World} {Z n g : Nat} {F F' : Nat → Int} {lv : Value} {ls : List Int} (h : RefX wZ w Z n g F lv ls) (hg : g < Z) (ho : Only (fun k => k = g) w w') (hf : w'.ownsRow 0 3 1 (.slice (some ⟨g, 0, none⟩) n n) n (cellsI (rowF F' n))) : RefX wZ w' Z n g F' lv ls :=
  ⟨h.only.trans (ho.mono fun _ _ hx => .inl hx), hf, own_only h.lst ho fun b hb hx => by have := own_ge h.lst hb; have : b = g := hx; omega⟩
theorem RefX.push {wZ w w' : World} {Z n g : Nat} {F : Nat → Int} {lv v' : Value} {ls : List Int} (h : RefX wZ w Z n g F lv ls) (x : Int) (hgZ : g < Z) (hg : w.grownBy w' lv.ownBlock) (ho : w'.ownsRow Z 3 1 v' (ls.length + 1) (cellsI ls ++ [.int .i64 x])) : RefX wZ w' Z n g F v' (ls ++ [x]) := by
  have e1 : cellsI (ls ++ [x]) = cellsI ls ++ [.int .i64 x] := by simp [cellsI]
  refine ⟨⟨hg.os.trans h.only.os, hg.tape.trans h.only.tape, hg.output.trans h.only.output, Nat.le_trans h.only.size hg.size, fun k hk hx => ?_⟩, h.fir.kept hg (.inr fun hc => ?_), by rw [e1, List.length_append]; exact ho⟩
  · rw [hg.block k (by have := h.only.size; omega) (fun hc => hx (.inr (own_ge h.lst hc.symm)))]
    exact h.only.block k hk hx
  · have := own_ge h.lst (k := g) hc.symm
    omega
theorem RefX.cell {wZ w : World} {Z n g : Nat} {F : Nat → Int} {lv : Value} {ls : List Int} (h : RefX wZ w Z n g F lv ls) (hZ : Z = wZ.heap.size) {p : Addr} (h1 : p.block < Z) (h2 : p.block ≠ g) : w.cell? p = wZ.cell? p :=
  World.cell?_of_block (w := wZ) (h.only.block p.block (by omega) (by omega))
theorem RefX.blk {wZ w : World} {Z n g b : Nat} {F : Nat → Int} {lv : Value} {ls : List Int} {t : TypeId} {cs : Array Value} (h : RefX wZ w Z n g F lv ls) (hZ : Z = wZ.heap.size) (h1 : b < Z) (h2 : b ≠ g) (hk : Blk wZ b t cs) : Blk w b t cs :=
  (h.only.block b (by omega) (by omega)).trans hk
theorem RefX.rd {wZ w : World} {Z n g B : Nat} {F : Nat → Int} {lv : Value} {ls : List Int} {A : Option Addr} {cs : List Value} (h : RefX wZ w Z n g F lv ls) (hZ : Z = wZ.heap.size) (hB : B ≤ Z) (hg : B ≤ g) (hr : Rd wZ B A cs) : Rd w B A cs := by
  rcases hr with hr | ⟨b, off, e, hb, hc⟩
  · exact .inl hr
  · exact .inr ⟨b, off, e, hb, fun j u hu => (h.cell hZ (p := ⟨b, off + j, none⟩) (by simp; omega) (by simp; omega)).trans (hc j u hu)⟩
theorem RefX.rst {wZ w : World} {Z n g B : Nat} {F : Nat → Int} {lv : Value} {ls : List Int} {A : Option Addr} {ars : List ArcV} (h : RefX wZ w Z n g F lv ls) (hZ : Z = wZ.heap.size) (hB : B ≤ Z) (hg : B ≤ g) (hr : Rd wZ B A (cellsA ars)) : RSt w n ars F A g :=
  ⟨(h.rd hZ hB hg hr).more (by have := h.only.size; omega), fun _ hj => own_firCell h.fir hj, (h.fir.lt g rfl).2⟩

/-- ahead of the append, while the document tells a block -/
structure BrP (w0 : World) (bs : List BlkV) (out : Value) (w : World) : Prop where
  out : w.ownsRow w0.heap.size 56 3 out bs.length (cellsB bs)
  bel : Below w0.heap.size w0 w
theorem BrP.below {w0 w w' : World} {bs : List BlkV} {out : Value} (h : BrP w0 bs out w) (hb : Below w.heap.size w w') : BrP w0 bs out w' :=
  ⟨own_below h.out hb, h.bel.trans ⟨hb.os, hb.tape, hb.output, hb.size, fun k hk => hb.block k (by have := h.bel.size; omega)⟩⟩
theorem BrP.append {w0 w w' : World} {bs : List BlkV} {out v' : Value} (h : BrP w0 bs out w) (b : BlkV) (hg : w.grownBy w' out.ownBlock) (ho : w'.ownsRow w0.heap.size 56 3 v' (bs.length + 1) (cellsB bs ++ b.cells)) : BrP w0 (bs ++ [b]) v' w' := by
  refine ⟨?_, h.bel.grown hg h.bel.size fun k hk => own_ge h.out hk⟩
  have e : cellsB (bs ++ [b]) = cellsB bs ++ b.cells := by simp [cellsB]
  rw [e, List.length_append]
  exact ho
structure BrI (w0 : World) (nn : Nat) (ars : List ArcV) (F : Nat → Int) (A : Option Addr) (c g gt v : Nat) (bs : List BlkV) (out : Value) (L : Nat → Bool) (V : Nat → Value) (w : World) : Prop where
  p0 : L 12 = false → BrP w0 bs out w
  p1 : L 12 = true → BrP w0 (bs ++ [⟨v, F v, optI (shortO ars F v)⟩]) (V 111) w
  a13 : L 13 = true → V 17 = V 111
  f3 : L 13 = false → V 17 = out
  e9 : L 9 = true → V 108 = .int .i64 (optI (shortO ars F v))
  b : L 11 = true → L 12 = false → ∃ gb, V 110 = .slice (some ⟨gb, 0, none⟩) 1 1 ∧ gb < w.heap.size ∧ w.cell? ⟨gb, 0, none⟩ = some (.int .i64 v) ∧ w.cell? ⟨gb, 1, none⟩ = some (.int .i64 (F v)) ∧ w.cell? ⟨gb, 2, none⟩ = some (.int .i64 (optI (shortO ars F v)))
  e0 : L 0 = true → V 99 = out
  e1 : L 1 = true → V 100 = .int .i64 v
  e2 : L 2 = true → V 101 = .pointer (some ⟨gt, 2, none⟩)
  e3 : L 3 = true → V 102 = .slice (some ⟨g, 0, none⟩) nn nn
  e4 : L 4 = true → V 103 = .int .i64 v
  e5 : L 5 = true → V 104 = .pointer (some ⟨g, v, none⟩)
  e6 : L 6 = true → V 105 = .int .i64 (F v)
  e7 : L 7 = true → V 106 = .agg #[.int .i64 nn, .slice A ars.length c, .slice (some ⟨g, 0, none⟩) nn nn]
  e8 : L 8 = true → V 107 = .int .i64 v
  e10 : L 10 = true → V 109 = .agg #[.int .i64 v, .int .i64 (F v), .int .i64 (optI (shortO ars F v))]
set_option maxRecDepth 100000 in
set_option maxHeartbeats 4000000 in
theorem refRun_any (n : Int) (ars : List ArcV) (A : Option Addr) (l c : Nat) (rs : List Int) (R : Option Addr) (m cr : Nat) (ps : List Int) (Q : Option Addr) (q cq : Nat) (w : World) (hl : ars.length = l) (hx : ∀ a ∈ ars, a.fit) (hr : Rd w w.heap.size A (cellsA ars)) (hm : l ≤ maxLen)
    (hrs : rs.length = m) (hfr : AllFit rs) (hrr : Rd w w.heap.size R (cellsI rs)) (hmm : m ≤ maxLen) (hps : ps.length = q) (hfp : AllFit ps) (hrp : Rd w w.heap.size Q (cellsI ps)) (hqm : q * 8 ≤ 140737488351232) :
    Calls Try.prog 10 #[.agg #[.int .i64 n, .slice A l c], .slice R m cr, .slice Q q cq] w fun e w' => ∃ lv sv, e = .returned (.tuple #[.agg #[lv, sv], .int .i64 (wrongF n ars rs ps)]) ∧
      w'.ownsRow w.heap.size 3 1 lv (ansF (pickR ars n.toNat rs ps) n ars rs ps).1.length (cellsI (ansF (pickR ars n.toNat rs ps) n ars rs ps).1) ∧ w'.ownsRow w.heap.size 56 3 sv (ansF (pickR ars n.toNat rs ps) n ars rs ps).2.length (cellsB (ansF (pickR ars n.toNat rs ps) n ars rs ps).2) ∧ Below w.heap.size w w' := by
  subst hl hrs hps
  obtain ⟨ii, hii, hz0, hz1, hz2⟩ := info_parts info_int
  obtain ⟨ib, hib, zb, hzb, hb1, hb2, hb3⟩ := blk_parts
  obtain ⟨B, hB⟩ : ∃ B, w.heap.size = B := ⟨_, rfl⟩
  rw [hB]
  obtain ⟨res, hres⟩ : ∃ r, wrongF n ars rs ps = r := ⟨_, rfl⟩
  obtain ⟨an, han⟩ : ∃ r, ansF (pickR ars n.toNat rs ps) n ars rs ps = r := ⟨_, rfl⟩
  have hbad : res ≠ 0 → an = ([], []) := fun h => by rw [← han]; exact ans_wrong (by rw [hres]; exact h)
  rw [hres, han]
  have Hres := Lib.hid hres
  have Han := Lib.hid han
  have Hbad := Lib.hid hbad
  clear hres han hbad
  have c1 := (Below.refl B w).alloc (by omega) (.cells #[.int .i64 n, .slice A ars.length c] 24)
  have k1 := Blk.new w B hB.symm 24 #[.int .i64 n, .slice A ars.length c]
  have c1' := c1.alloc (by simp; omega) (.cells #[.slice none 0 0, .slice none 0 0] 29)
  have k1' := k1.alloc (.cells #[.slice none 0 0, .slice none 0 0] 29)
  have kr := Blk.new (w.alloc (.cells #[.int .i64 n, .slice A ars.length c] 24)) (B + 1) (by simp; omega) 29 #[.slice none 0 0, .slice none 0 0]
  rw [hB] at hr hrr hrp
  have hz1' : ((w.alloc (.cells #[.int .i64 n, .slice A ars.length c] 24)).alloc (.cells #[.slice none 0 0, .slice none 0 0] 29)).heap.size = B + 2 := by simp; omega
  go_enter Try.func10, Try.ntmps10
  go_wp2_with fail
  generalize ((w.alloc (.cells #[.int .i64 n, .slice A ars.length c] 24)).alloc (.cells #[.slice none 0 0, .slice none 0 0] 29)) = W1 at *
  refine (wrong_any n ars A ars.length c rs R rs.length cr ps Q ps.length cq _ rfl hx ((hr.below c1' (Nat.le_refl _)).more (by omega)) hm rfl hfr ((hrr.below c1' (Nat.le_refl _)).more (by omega)) hmm rfl hfp ((hrp.below c1' (Nat.le_refl _)).more (by omega)) (by unfold maxLen; omega)).mono ?_; rintro e w2 ⟨rfl, hb2'⟩
  rw [Hres.out]
  have b2 := c1'.trans (hb2'.mono (by omega))
  have k2 := k1'.below hb2' (by omega)
  have kr2 := kr.below hb2' (by omega)
  have hzz2 := hb2'.size
  rw [hz1'] at hzz2
  clear c1 k1 c1' k1' kr hz1' hb2'
  have y0 := kr2.cell 0
  have y1 := kr2.cell 1
  simp at y0 y1
  have z0 := kr2.frozen 0
  have z1 := kr2.frozen 1
  unfold maxLen at hmm
  by_cases hE0 : res = 0
  · subst hE0
    obtain ⟨nn, rfl, hck, hN, hlen, hall, heven, hsum, hno⟩ := wrongF_parts Hres.out
    have n32 := hN.n32
    have Hall := Lib.hid hall
    have HN := Lib.hid hN
    have Hno := Lib.hid hno
    clear hck hN hall heven hno
    go_wp2_with fail
    go_loopw [9, 10] (fun o i wr => ∃ (k : Nat) (A' : Option Addr) (c' : Nat), k ≤ ps.length ∧ i = .int .i64 k ∧ o = .slice A' (onceFrom [] (ps.take k)).length c' ∧ wr.ownsRow w2.heap.size 3 1 (.slice A' (onceFrom [] (ps.take k)).length c') (onceFrom [] (ps.take k)).length (cellsI (onceFrom [] (ps.take k))) ∧ Below w2.heap.size w2 wr) (fun _ i _ => ps.length - (intOf i).toNat)
    case atStart => exact ⟨0, none, 0, Nat.zero_le _, rfl, rfl, World.ownsRow_nil _ _ _ _, Below.refl _ _⟩
    case round =>
      obtain ⟨k, A', c', hk, rfl, rfl, oo, bo⟩ := hrel
      by_cases hlt : k < ps.length
      · obtain ⟨b, off, x, rfl, hbl, hxf, hc, hd, hxx⟩ := (hrp.below (b2.trans (bo.mono (by omega))) (Nat.le_refl _)).at_ hfp hlt
        obtain ⟨on, hon⟩ : ∃ o, onceFrom [] (ps.take k) = o := ⟨_, rfl⟩
        have hol : on.length ≤ ps.length := by
          have := once_len (ps.take k) []
          rw [hon] at this
          simp only [List.length_nil, List.length_take] at this
          omega
        have hofit : AllFit on := fun y hy => by
          rw [← hon] at hy
          rcases once_mem _ _ _ hy with h | h
          · cases h
          · exact hfp y (List.mem_of_mem_take h)
        have hsnoc := once_snoc (ps.take k) [] x
        rw [hon] at oo hsnoc ⊢
        have htk : ps.take (k + 1) = ps.take k ++ [x] := by rw [List.take_add_one, hxx.out]; rfl
        rw [← htk] at hsnoc
        have ro := rd_of_own oo
        have h1 : (0 : Int) ≤ (k : Int) := by omega
        have h2 : (k : Int) < (ps.length : Int) := by omega
        have Hsnoc := Lib.hid hsnoc
        have Hoo := Lib.hid oo
        have Hbo := Lib.hid bo
        have Hro := Lib.hid ro
        clear hsnoc htk hd hxx hon oo bo ro
        go_wp2_with fail
        go_loopw [11, 12] (fun ag j wx => ∃ jj : Nat, jj ≤ on.length ∧ j = .int .i64 jj ∧ ag = .bool (decide (x ∈ on.take jj)) ∧ Drawn wr wx) (fun _ j _ => on.length - (intOf j).toNat)
        case atStart => exact ⟨0, Nat.zero_le _, rfl, by simp, Drawn.refl wr⟩
        case round =>
          obtain ⟨jj, hjj, rfl, rfl, hdw⟩ := hrel
          by_cases hjl : jj < on.length
          · obtain ⟨b', off', y, rfl, _, _, hcy, _, hyy⟩ := (hdw.rd Hro.out).at_ hofit hjl
            have hcx := (hdw.cell _).trans hc
            have h3 : (0 : Int) ≤ (jj : Int) := by omega
            have h4 : (jj : Int) < (on.length : Int) := by omega
            have htk : on.take (jj + 1) = on.take jj ++ [y] := by rw [List.take_add_one, hyy.out]; rfl
            by_cases hin : x ∈ on.take jj
            · have e1 : decide (x ∈ on.take jj) = true := decide_eq_true hin
              have e2 : decide (x ∈ on.take (jj + 1)) = true := decide_eq_true (by rw [htk]; exact List.mem_append_left _ hin)
              rw [e1]
              clear htk hyy
              go_wp2_with fail
              go_quiet (fail)
              go_wp2
              go_roundw
              case rel => exact ⟨jj + 1, by omega, by go_num, by rw [e2], hdw.drewN _⟩
              case measure => simp [intOf]; omega
            · have e1 : decide (x ∈ on.take jj) = false := decide_eq_false hin
              rw [e1]
              by_cases hxy : y = x
              · have e2 : decide (x ∈ on.take (jj + 1)) = true := decide_eq_true (by rw [htk, hxy]; simp)
                have e3 : (y == x) = true := by simp [hxy]
                clear htk hyy
                go_wp2_with fail
                go_quiet (fail)
                go_wp2
                go_roundw
                case rel => exact ⟨jj + 1, by omega, by go_num, by first | rw [e2] | simp_all, hdw.drewN _⟩
                case measure => simp [intOf]; omega
              · have e2 : decide (x ∈ on.take (jj + 1)) = false := decide_eq_false (by rw [htk]; simp only [List.mem_append, List.mem_singleton, not_or]; exact ⟨hin, fun h => hxy h.symm⟩)
                have e3 : (y == x) = false := by simpa using hxy
                clear htk hyy
                go_wp2_with fail
                go_quiet (fail)
                go_wp2
                go_roundw
                case rel => exact ⟨jj + 1, by omega, by go_num, by first | rw [e2] | simp_all, hdw.drewN _⟩
                case measure => simp [intOf]; omega
          · have hfull : on.take jj = on := List.take_of_length_le (by omega)
            rw [hfull]
            have o2 := own_below Hoo.out (hdw.below _)
            have bo2 := Hbo.out.trans (hdw.below _)
            have hcx := (hdw.cell _).trans hc
            by_cases hin : x ∈ on
            · have e1 : decide (x ∈ on) = true := decide_eq_true hin
              rw [e1]
              have hs := Hsnoc.out
              rw [if_pos hin] at hs
              clear Hsnoc
              go_wp2_with fail
              refine ⟨⟨k + 1, _, _, by omega, by go_num, by rw [hs], by rw [hs]; exact o2, bo2⟩, by simp [intOf]; omega⟩
            · have e1 : decide (x ∈ on) = false := decide_eq_false hin
              rw [e1]
              have hs := Hsnoc.out
              rw [if_neg hin] at hs
              have ba := (Below.refl wr.heap.size wr).alloc (Nat.le_refl _) (.cells #[.int .i64 x] 3)
              have o3 := own_below o2 ba
              have r3 := rd_alloc wr _ rfl 3 [Value.int .i64 x]
              have hz3 : w2.heap.size ≤ (wr.alloc (.cells #[.int .i64 x] 3)).heap.size := by have := bo2.size; simp; omega
              have bo3 := bo2.trans (ba.mono bo2.size)
              clear Hsnoc ba
              go_wp2_with (at_builtin; refine wpList_append_rd _ rfl _ _ 25 rfl w2.heap.size 3 ii (.int .i64 0) 1 8 Try.underlying25 hii hz0 hz1 hz2 rfl (by decide) _ on.length (cellsI on) rfl o3 (wr.heap.size + 1) (some ⟨wr.heap.size, 0, none⟩) 1 1 [.int .i64 x] rfl rfl r3 (by simp [Value.oneCell']) (by unfold maxLen; omega) (by omega) hz3 ?_)
              intro v' w5 o5 g5 h5
              have b5 := bo3.grown g5 hz3 fun k hk => own_ge o3 hk
              obtain ⟨A5, c5, rfl, _⟩ := own_slice o5
              have e2 : cellsI (on ++ [x]) = cellsI on ++ [.int .i64 x] := by simp [cellsI]
              rw [← e2] at o5
              have e3 : on.length + 1 = (onceFrom [] (ps.take (k + 1))).length := by rw [hs]; simp
              rw [e3, ← hs] at o5
              clear o3 r3 g5 h5 o2 bo2 e2
              go_wp2_with fail
              refine ⟨⟨k + 1, A5, c5, by omega, by go_num, by rw [e3], o5, b5⟩, by simp [intOf]; omega⟩
      · have hfull : ps.take k = ps := List.take_of_length_le (by omega)
        rw [hfull] at oo ⊢
        obtain ⟨on, hon⟩ : ∃ o, onceFrom [] ps = o := ⟨_, rfl⟩
        have hol : on.length ≤ ps.length := by
          have := once_len ps []
          rw [hon] at this
          simpa using this
        have hin : ∀ x ∈ on ++ downF nn 0, 0 ≤ x ∧ x < (nn : Int) := fun x hx => by
          rcases List.mem_append.1 hx with h | h
          · rw [← hon] at h
            rcases once_mem _ _ _ h with h | h
            · cases h
            · have := List.all_eq_true.1 Hno.out x h; simpa using this
          · obtain ⟨i, hi⟩ := List.getElem?_of_mem h
            have hil := (List.getElem?_eq_some_iff.1 hi).1
            rw [down_len] at hil
            rw [down_get hil] at hi
            have := Option.some.inj hi
            omega
        have hpick : ∀ F, nextF ars nn F rs (on ++ downF nn 0) = pickR ars nn rs ps F := fun F => by unfold pickR; rw [hon]
        rw [hon] at oo ⊢
        have k3 := k2.below bo (by omega)
        have kr3 := kr2.below bo (by omega)
        have hzr := bo.size
        have b3 := b2.trans (bo.mono (by omega))
        have d0 := k3.cell 0
        have d1 := k3.cell 1
        simp only [List.getElem?_toArray, List.getElem?_cons_zero, List.getElem?_cons_succ] at d0 d1
        have Hin := Lib.hid hin
        have Hpick := Lib.hid hpick
        clear hfull hon hin hpick y0 y1 z0 z1 bo
        go_wp2_with fail
        refine (order_any nn (.slice A ars.length c) on A' on.length c' wr n32 rfl (rd_of_own oo) (by omega)).mono ?_
        rintro e w3 ⟨AL, cL, rfl, oL, bL⟩
        have k4 := k3.below bL (by omega)
        have kr4 := kr3.below bL (by omega)
        have hz3 := bL.size
        have b4 := b3.trans (bL.mono (by omega))
        have rL := rd_of_own oL
        have d0' := k4.cell 0
        have d1' := k4.cell 1
        simp only [List.getElem?_toArray, List.getElem?_cons_zero, List.getElem?_cons_succ] at d0' d1'
        clear oo k3 kr3 b3 d0 d1 oL bL
        go_wp2_with fail
        refine (rStart_any nn A ars.length c w3 n32).mono ?_
        rintro e w4 ⟨g, rfl, hg, og, bg⟩
        have k5 := k4.below bg (by omega)
        have kr5 := kr4.below bg (by omega)
        have hz4 := bg.size
        have b5 := b4.trans (bg.mono (by omega))
        have rL5 := rL.below bg (Nat.le_refl _)
        have hgw := (og.lt g rfl).2
        have og0 := og.mono (base' := 0) (Nat.zero_le _)
        clear k4 kr4 b4 d0' d1' rL bg og
        have ba := (Below.refl w4.heap.size w4).alloc (Nat.le_refl _) (.cells #[.int .i64 nn, .slice A ars.length c, .slice (some ⟨g, 0, none⟩) nn nn] 61)
        have kt := Blk.new w4 _ rfl 61 #[.int .i64 nn, .slice A ars.length c, .slice (some ⟨g, 0, none⟩) nn nn]
        have k6 := k5.below ba k5.lt
        have kr6 := kr5.below ba kr5.lt
        have b6 := b5.alloc (by omega) (.cells #[.int .i64 nn, .slice A ars.length c, .slice (some ⟨g, 0, none⟩) nn nn] 61)
        have rL6 := rL5.below ba (by omega)
        have og6 := own_below og0 ba
        have hz6 : (w4.alloc (.cells #[.int .i64 nn, .slice A ars.length c, .slice (some ⟨g, 0, none⟩) nn nn] 61)).heap.size = w4.heap.size + 1 := by simp
        obtain ⟨wZ, hwZ⟩ : ∃ wZ, w4.alloc (.cells #[.int .i64 nn, .slice A ars.length c, .slice (some ⟨g, 0, none⟩) nn nn] 61) = wZ := ⟨_, rfl⟩
        rw [hwZ] at kt k6 kr6 b6 rL6 og6 hz6
        have t0 := kt.cell 0
        have t1 := kt.cell 1
        have t2 := kt.cell 2
        simp only [List.getElem?_toArray, List.getElem?_cons_zero, List.getElem?_cons_succ] at t0 t1 t2
        have hrZ := hr.below b6 (Nat.le_refl _)
        have hrrZ := hrr.below b6 (Nat.le_refl _)
        have hX0 : RefX wZ wZ wZ.heap.size nn g (fun _ => 0) (.slice none 0 0) [] := ⟨Only.refl _ _, og6, World.ownsRow_nil _ _ _ _⟩
        have HX0 := Lib.hid hX0
        have HrZ := Lib.hid hrZ
        have HrrZ := Lib.hid hrrZ
        have HrL := Lib.hid rL6
        have Hk6 := Lib.hid k6
        have Hkr6 := Lib.hid kr6
        have Hkt := Lib.hid kt
        have Hb6 := Lib.hid b6
        have hsm0 : small nn fun _ => 0 := fun j _ => by simp
        clear k5 kr5 b5 rL5 og0 ba k6 kr6 kt b6 rL6 og6 hrZ hrrZ hX0 k2 kr2 b2
        go_wp2_with fail
        try rw [hwZ]
        clear hwZ
        have hBZ : B ≤ wZ.heap.size := by omega
        have hok : PickOk ars nn rs (pickR ars nn rs ps) := by
          rw [show pickR ars nn rs ps = pickS ars nn rs ps from funext (pick_same Hno.out)]
          exact pickS_ok ars nn rs ps
        have hll : (on ++ downF nn 0).length = on.length + nn := by rw [List.length_append, down_len]
        have hlm : on.length + nn ≤ maxLen := by unfold maxLen; omega
        refine (next_any nn ars (fun _ => 0) A c g nn rs R cr (on ++ downF nn 0) AL (on.length + nn) cL wZ HN.out hsm0 (HX0.out.rst rfl hBZ (by omega) HrZ.out) hlen hfr (HrrZ.out.more hBZ) hll hlm Hin.out (HrL.out.more (by omega))).mono ?_
        rintro e w5 ⟨rfl, bn⟩
        rw [Hpick.out]
        have HX := Lib.hid (HX0.out.below bn)
        clear HX0 bn hsm0 t0 t1 t2
        go_wp2_with fail
        go_loopg [15, 16] (leftSum nn (leftF rs fun _ => 0)) (fun gg lv v wr => ∃ (F : Nat → Int) (ls : List Int), v = .int .i64 (pickR ars nn rs ps F) ∧ gg = leftSum nn (leftF rs F) ∧ RefX wZ wr wZ.heap.size nn g F lv ls ∧ Hid (∀ j, j < nn → 0 ≤ F j ∧ F j ≤ repAt rs j) ∧
          Hid (runF (pickR ars nn rs ps) (leftSum nn (leftF rs fun _ => 0)) (fun _ => 0) = (ls ++ (runF (pickR ars nn rs ps) (leftSum nn (leftF rs F)) F).1, (runF (pickR ars nn rs ps) (leftSum nn (leftF rs F)) F).2)) ∧ ls.length + leftSum nn (leftF rs F) ≤ 200000)
        case atStart =>
          refine ⟨_, [], rfl, rfl, HX.out, fun j hj => ⟨Int.le_refl _, ?_⟩, rfl, ?_⟩
          · have := repAt_lt Hall.out (f := j) (by omega); omega
          · have := leftSum_le (n := nn) (m := 4096) (L := leftF rs fun _ => 0) fun v hv => by have := repAt_lt Hall.out (f := v) (by omega); show repAt rs (v : Int) - 0 ≤ _; omega
            have h32 : nn * 4096 ≤ 32 * 4096 := Nat.mul_le_mul_right _ n32
            simp only [List.length_nil]
            omega
        case round =>
          clear HX
          obtain ⟨F, ls, rfl, rfl, X, hF, hE, hlen3⟩ := hrel
          have hsm : small nn F := fun j hj => by have h1 := hF.out j hj; have h2 := repAt_lt Hall.out (f := j) (by omega); omega
          have kt := X.blk rfl (by omega) (by omega) Hkt.out
          have t0 := kt.cell 0
          have t1 := kt.cell 1
          have t2 := kt.cell 2
          simp only [List.getElem?_toArray, List.getElem?_cons_zero, List.getElem?_cons_succ] at t0 t1 t2
          by_cases hpk : 0 ≤ pickR ars nn rs ps F
          · obtain ⟨v, hpv, hv, hlv, hmay⟩ := hok F hpk
            have hgo := runF_go hok hpk
            have hls := leftSum_upd (leftF rs F) v nn hv hlv
            rw [← left_bump] at hls
            rw [hpv, Int.toNat_natCast] at hgo
            have hE2 : Hid (runF (pickR ars nn rs ps) (leftSum nn (leftF rs fun _ => 0)) (fun _ => 0) = ((ls ++ [(v : Int)]) ++ (runF (pickR ars nn rs ps) (leftSum nn (leftF rs (bump F v))) (bump F v)).1, (runF (pickR ars nn rs ps) (leftSum nn (leftF rs (bump F v))) (bump F v)).2)) := by
              unfold Hid; rw [hE.out, hgo, List.append_assoc]; rfl
            have hF2 : Hid (∀ j, j < nn → 0 ≤ bump F v j ∧ bump F v j ≤ repAt rs j) := by
              intro j hj
              have h1 := hF.out j hj
              unfold bump
              by_cases hjv : j = v
              · subst hjv; rw [upd_self]; unfold leftF at hlv; omega
              · rw [upd_other hjv]; exact h1
            have hlen2 : (ls ++ [(v : Int)]).length + leftSum nn (leftF rs (bump F v)) ≤ 200000 := by simp only [List.length_append, List.length_singleton]; omega
            have hls1 : ls.length ≤ 200000 := by omega
            rw [hpv]
            have hF1 : ∀ j, j < nn → 0 ≤ F j ∧ F j + (1 : Nat) ≤ 1000000 := fun j hj => by have h1 := hF.out j hj; have h2 := repAt_lt Hall.out (f := j) (by omega); omega
            have ba := (Below.refl wr.heap.size wr).alloc (Nat.le_refl _) (.cells #[.int .i64 v] 3)
            have X1 := X.below ba
            have r1 := rd_alloc wr _ rfl 3 [Value.int .i64 v]
            have hzr2 : wZ.heap.size ≤ wr.heap.size := X.only.size
            have hA1 := X1.rd rfl hBZ (by omega) HrZ.out
            have HX1 := Lib.hid X1
            have Hr1 := Lib.hid r1
            have HF1 := Lib.hid hF1
            have Hmay := Lib.hid hmay
            have Hls := Lib.hid hls
            have HA1 := Lib.hid hA1
            clear X ba X1 r1 hE hF hsm hF1 hmay hgo hlv hls hpk hpv hlen3 kt hA1
            go_wp2_with fail
            refine (rFire_any [(v : Int)] (some ⟨wr.heap.size, 0, none⟩) A 1 c 1 nn g nn 0 ars F _ rfl (fun x hx => by simp at hx; subst hx; unfold fits; omega) ((Hr1.out).more (by simp)) (by simp only [blkOf]; intro hc; injection hc with hc; omega) HN.out HF1.out (HA1.out.more (by have := HX1.out.only.size; omega)) ?_ HX1.out.fir).mono ?_
            · rcases HA1.out with h | ⟨b, off, e, hb, _⟩
              · exact .inl h
              · refine .inr ?_
                rw [e]; simp only [blkOf]; intro hc; injection hc with hc; omega
            rintro e w6 ⟨rfl, f6, O6⟩
            obtain ⟨hf1, hf2⟩ := fire_one Hmay.out
            rw [hf2] at f6
            rw [hf1]
            have X6 := HX1.out.fire (by omega) O6 f6
            have ba := (Below.refl w6.heap.size w6).alloc (Nat.le_refl _) (.cells #[.int .i64 v] 3)
            have X7 := X6.below ba
            have r8 := rd_alloc w6 w6.heap.size rfl 3 [Value.int .i64 v]
            have hz8 : wZ.heap.size ≤ (w6.alloc (.cells #[.int .i64 v] 3)).heap.size := X7.only.size
            have HX7 := Lib.hid X7
            clear X6 X7 f6 O6 HX1 Hr1 HF1 hf1 hf2 ba HA1 t0 t1 t2
            go_wp2_with (at_builtin; refine wpList_append_rd _ rfl _ _ 25 rfl wZ.heap.size 3 ii (.int .i64 0) 1 8 Try.underlying25 hii hz0 hz1 hz2 rfl (by decide) _ ls.length (cellsI ls) rfl HX7.out.lst (w6.heap.size + 1) (some ⟨w6.heap.size, 0, none⟩) 1 1 [.int .i64 v] rfl rfl r8 (by simp [Value.oneCell']) (by unfold maxLen; omega) (by omega) hz8 ?_)
            intro v' w7 o7 g7 h7
            rw [← hz6] at o7
            have X9 := HX7.out.push (v : Int) (by omega) g7 o7
            obtain ⟨A7, c7, rfl, _⟩ := own_slice o7
            have kt := X9.blk rfl (by omega) (by omega) Hkt.out
            have t0 := kt.cell 0
            have t1 := kt.cell 1
            have t2 := kt.cell 2
            simp only [List.getElem?_toArray, List.getElem?_cons_zero, List.getElem?_cons_succ] at t0 t1 t2
            have HX9 := Lib.hid X9
            clear X9 o7 g7 h7 r8 hz8 HX7 hls1 Hmay kt
            have hsm2 : small nn (bump F v) := fun j hj => by have h1 := hF2.out j hj; have h2 := repAt_lt Hall.out (f := j) (by omega); omega
            go_wp2_with fail
            refine (next_any nn ars (bump F v) A c g nn rs R cr (on ++ downF nn 0) AL (on.length + nn) cL w7 HN.out hsm2 (HX9.out.rst rfl hBZ (by omega) HrZ.out) hlen hfr ((HX9.out.rd rfl hBZ (by omega) HrrZ.out).more (by have := HX9.out.only.size; omega)) hll hlm Hin.out ((HX9.out.rd rfl (by omega) hg HrL.out).more (by have := HX9.out.only.size; omega))).mono ?_
            rintro e w9 ⟨rfl, bn⟩
            rw [Hpick.out]
            have HX10 := Lib.hid (HX9.out.below bn)
            clear HX9 bn hsm2 t0 t1 t2
            go_wp2_with fail
            go_roundg (leftSum nn (leftF rs (bump F v)))
            case measure => have := Hls.out; omega
            case rel => exact ⟨bump F v, ls ++ [(v : Int)], rfl, rfl, HX10.out, hF2, hE2, hlen2⟩
          · have hst := runF_stop (pick := pickR ars nn rs ps) hpk
            have hE3 := hE.out
            rw [hst, List.append_nil] at hE3
            have HX2 := Lib.hid X
            have HF := Lib.hid hsm
            have bw : Below B w wr := Hb6.out.trans ⟨X.only.os, X.only.tape, X.only.output, X.only.size, fun k hk => X.only.block k (by omega) (by omega)⟩
            have hzw : wZ.heap.size ≤ wr.heap.size := X.only.size
            have Hbw := Lib.hid bw
            have kr9 := X.blk rfl (by omega) (by omega) Hkr6.out
            have Hkr9 := Lib.hid kr9
            have kn9 := X.blk rfl (by omega) (by omega) Hk6.out
            have Hkn9 := Lib.hid kn9
            obtain ⟨Al, cl', hlv, _⟩ := own_slice X.lst
            clear t0 t1 t2 kt hE X hsm bw kr9 kn9
            have P0 : BrP wr (blocksF ars nn F (leftF rs F) 0) (.slice none 0 0) wr := ⟨World.ownsRow_nil _ _ _ _, Below.refl _ _⟩
            go_wp2_with fail
            obtain ⟨w0, hw0⟩ : ∃ w0, wr = w0 := ⟨_, rfl⟩
            rw [hw0] at P0 HX2 Hbw hzw Hkr9 Hkn9 ⊢
            clear hw0
            go_loopw [17, 18] (fun o i wx => ∃ v : Nat, v ≤ nn ∧ i = .int .i64 v ∧ BrP w0 (blocksF ars nn F (leftF rs F) v) o wx) (fun _ i _ => nn - (intOf i).toNat)
            case atStart => exact ⟨0, Nat.zero_le _, rfl, P0⟩
            case round =>
              clear P0
              obtain ⟨v, hv', rfl, P⟩ := hrel
              have kn := Hkn9.out.below P.bel (by omega)
              have d0 := kn.cell 0
              simp only [List.getElem?_toArray, List.getElem?_cons_zero] at d0
              clear kn
              by_cases hv : v < nn
              · have Xw := HX2.out.below P.bel
                have kt := Xw.blk rfl (by omega) (by omega) Hkt.out
                have t2 := kt.cell 2
                simp only [List.getElem?_toArray, List.getElem?_cons_zero, List.getElem?_cons_succ] at t2
                have hcf := own_firCell Xw.fir hv
                have hvr : v < rs.length := by omega
                obtain ⟨b2, off2, x2, hR2, hbl2, -, -, -, -⟩ := (Xw.rd rfl hBZ (by omega) HrrZ.out).at_ hfr hvr
                have hcr := rd_repAt (hR2 ▸ Xw.rd rfl hBZ (by omega) HrrZ.out) hvr
                have hs := blocksF_succ ars nn F (leftF rs F) v
                obtain ⟨y, hy⟩ : ∃ y, F v = y := ⟨_, rfl⟩
                obtain ⟨r, hrp⟩ : ∃ r, repAt rs v = r := ⟨_, rfl⟩
                have hlf : leftF rs F v = r - y := by unfold leftF; rw [hrp, hy]
                rw [hlf] at hs
                rw [hy] at hcf
                rw [hrp] at hcr
                have h1 : (0 : Int) ≤ (v : Int) := by omega
                have h2 : (v : Int) < (nn : Int) := by omega
                have HP := Lib.hid P
                clear P Xw kt hlf
                by_cases hyr : y < r
                · rw [if_pos (by omega)] at hs
                  obtain ⟨bs, hbs⟩ : ∃ bs, blocksF ars nn F (leftF rs F) v = bs := ⟨_, rfl⟩
                  have hbl := blocksF_length ars nn F (leftF rs F) v
                  rw [hbs] at HP hs hbl
                  have Hbs := Lib.hid hbs
                  clear hbs
                  obtain ⟨Ao, co, rfl, -⟩ := own_slice HP.out.out
                  subst hR2
                  go_wp2_with fail
                  go_quiet (fail)
                  clear hcf hcr
                  go_wp2_with fail
                  clear hy hrp d0 t2 hyr
                  have hI0 : ∀ V : Nat → Value, V 17 = .slice Ao bs.length co → BrI w0 nn ars F A c g w4.heap.size v bs (.slice Ao bs.length co) (fun _ => false) V (wr.drewN nq).drew := fun V hV17 => by
                    have h0 := HP.out.below (Drawn.below _ (((Drawn.refl wr).drewN nq).drewN 1))
                    constructor
                    all_goals first
                      | exact fun _ => h0
                      | exact fun _ => hV17
                      | (intro h; cases h)
                  refine wp_region_put2 [99, 100, 101, 102, 103, 104, 105, 106, 107, 108, 109, 110, 111, 17] (BrI w0 nn ars F A c g w4.heap.size v bs (.slice Ao bs.length co)) (by kernel_rfl) (by kernel_rfl) ?_ ?_ ?_
                  · exact hI0 _ rfl
                  · intro i o ho L V w1 hi hL hno h K hK
                    rcases i with _ | _ | _ | _ | _ | _ | _ | _ | _ | _ | _ | _ | _ | _ | i
                    · cases ho
                      simp only [putAll, List.foldl_cons, List.foldl_nil, List.setIfInBounds_toArray, List.set_cons_zero, List.set_cons_succ]
                      have e17 : V 17 = _ := h.f3 (hno 13 (by kernel_rfl))
                      clear hL hno
                      go_simp
                      refine hK (updV V 99 (.slice Ao bs.length co)) _ _ (by simp [putAll, updV, e17]) ?_
                      exact { h with e0 := fun _ => rfl }
                    · cases ho
                      simp only [putAll, List.foldl_cons, List.foldl_nil, List.setIfInBounds_toArray, List.set_cons_zero, List.set_cons_succ]
                      clear hL hno
                      go_simp
                      refine hK (updV V 100 (.int .i64 v)) _ _ (by simp [putAll, updV]) ?_
                      exact { h with e1 := fun _ => rfl }
                    · cases ho
                      simp only [putAll, List.foldl_cons, List.foldl_nil, List.setIfInBounds_toArray, List.set_cons_zero, List.set_cons_succ]
                      clear hL hno
                      go_simp
                      refine hK (updV V 101 (.pointer (some ⟨w4.heap.size, 2, none⟩))) _ _ (by simp [putAll, updV]) ?_
                      exact { h with e2 := fun _ => rfl }
                    · cases ho
                      simp only [putAll, List.foldl_cons, List.foldl_nil, List.setIfInBounds_toArray, List.set_cons_zero, List.set_cons_succ]
                      have e2 : V 101 = _ := h.e2 (hL ⟨2, .data⟩ (by simp) rfl)
                      have l12 : L 12 = false := hno 12 (by kernel_rfl)
                      have Xw := HX2.out.below (h.p0 l12).bel
                      have kt := Xw.blk rfl (by omega) (by omega) Hkt.out
                      have t2 := kt.cell 2
                      simp only [List.getElem?_toArray, List.getElem?_cons_zero, List.getElem?_cons_succ] at t2
                      clear hL hno
                      go_simp
                      refine hK (updV V 102 (.slice (some ⟨g, 0, none⟩) nn nn)) _ _ (by simp [putAll, updV, e2]) ?_
                      exact { h with e3 := fun _ => rfl }
                    · cases ho
                      simp only [putAll, List.foldl_cons, List.foldl_nil, List.setIfInBounds_toArray, List.set_cons_zero, List.set_cons_succ]
                      clear hL hno
                      go_simp
                      refine hK (updV V 103 (.int .i64 v)) _ _ (by simp [putAll, updV]) ?_
                      exact { h with e4 := fun _ => rfl }
                    · cases ho
                      simp only [putAll, List.foldl_cons, List.foldl_nil, List.setIfInBounds_toArray, List.set_cons_zero, List.set_cons_succ]
                      have e3 : V 102 = _ := h.e3 (hL ⟨3, .data⟩ (by simp) rfl)
                      have e4 : V 103 = _ := h.e4 (hL ⟨4, .data⟩ (by simp) rfl)
                      clear hL hno
                      go_simp
                      refine hK (updV V 104 (.pointer (some ⟨g, v, none⟩))) _ _ (by simp [putAll, updV, e3, e4]) ?_
                      exact { h with e5 := fun _ => rfl }
                    · cases ho
                      simp only [putAll, List.foldl_cons, List.foldl_nil, List.setIfInBounds_toArray, List.set_cons_zero, List.set_cons_succ]
                      have e5 : V 104 = _ := h.e5 (hL ⟨5, .data⟩ (by simp) rfl)
                      have l12 : L 12 = false := hno 12 (by kernel_rfl)
                      have Xw := HX2.out.below (h.p0 l12).bel
                      have kt := Xw.blk rfl (by omega) (by omega) Hkt.out
                      have ct := own_firCell Xw.fir hv
                      clear hL hno
                      go_simp
                      refine hK (updV V 105 (.int .i64 (F v))) _ _ (by simp [putAll, updV, e5]) ?_
                      exact { h with e6 := fun _ => rfl }
                    · cases ho
                      simp only [putAll, List.foldl_cons, List.foldl_nil, List.setIfInBounds_toArray, List.set_cons_zero, List.set_cons_succ]
                      have l12 : L 12 = false := hno 12 (by kernel_rfl)
                      have Xw := HX2.out.below (h.p0 l12).bel
                      have kt := Xw.blk rfl (by omega) (by omega) Hkt.out
                      have t0 := kt.cell 0
                      have t1 := kt.cell 1
                      have t2 := kt.cell 2
                      simp only [List.getElem?_toArray, List.getElem?_cons_zero, List.getElem?_cons_succ] at t0 t1 t2
                      clear hL hno
                      go_simp
                      refine hK (updV V 106 (.agg #[.int .i64 nn, .slice A ars.length c, .slice (some ⟨g, 0, none⟩) nn nn])) _ _ (by simp [putAll, updV]) ?_
                      exact { h with e7 := fun _ => rfl }
                    · cases ho
                      simp only [putAll, List.foldl_cons, List.foldl_nil, List.setIfInBounds_toArray, List.set_cons_zero, List.set_cons_succ]
                      clear hL hno
                      go_simp
                      refine hK (updV V 107 (.int .i64 v)) _ _ (by simp [putAll, updV]) ?_
                      exact { h with e8 := fun _ => rfl }
                    · cases ho
                      have e7 : V 106 = _ := h.e7 (hL ⟨7, .data⟩ (by simp) rfl)
                      have e8 : V 107 = _ := h.e8 (hL ⟨8, .data⟩ (by simp) rfl)
                      have l12 : L 12 = false := hno 12 (by kernel_rfl)
                      have l11 : L 11 = false := hno 11 (by kernel_rfl)
                      clear hL hno
                      simp only [putAll, List.foldl_cons, List.foldl_nil, List.setIfInBounds_toArray, List.set_cons_zero, List.set_cons_succ]
                      go_simp
                      refine (rShort_any v nn ars F A c g nn w1 HN.out HF.out ((HX2.out.below (h.p0 l12).bel).rst rfl hBZ (by omega) HrZ.out)).mono ?_
                      rintro e w3 ⟨rfl, hd⟩
                      refine hK (updV V 108 (.int .i64 (optI (shortO ars F v)))) _ _ (by simp [putAll, updV, e7, e8]) ?_
                      exact { h with
                        p0 := fun h12 => (h.p0 h12).below hd
                        b := fun h11 _ => (by cases (h11.symm.trans l11))
                        p1 := fun h12 => (by cases (h12.symm.trans l12))
                        e9 := fun _ => rfl }
                    · cases ho
                      simp only [putAll, List.foldl_cons, List.foldl_nil, List.setIfInBounds_toArray, List.set_cons_zero, List.set_cons_succ]
                      have e1 : V 100 = _ := h.e1 (hL ⟨1, .data⟩ (by simp) rfl)
                      have e6 : V 105 = _ := h.e6 (hL ⟨6, .data⟩ (by simp) rfl)
                      have e9 : V 108 = _ := h.e9 (hL ⟨9, .data⟩ (by simp) rfl)
                      clear hL hno
                      go_simp
                      refine hK (updV V 109 (.agg #[.int .i64 v, .int .i64 (F v), .int .i64 (optI (shortO ars F v))])) _ _ (by simp [putAll, updV, e1, e6, e9]) ?_
                      exact { h with e10 := fun _ => rfl }
                    · cases ho
                      have e10 : V 109 = _ := h.e10 (hL ⟨10, .data⟩ (by simp) rfl)
                      have l12 : L 12 = false := hno 12 (by kernel_rfl)
                      clear hL hno
                      simp only [putAll, List.foldl_cons, List.foldl_nil, List.setIfInBounds_toArray, List.set_cons_zero, List.set_cons_succ]
                      have hb := (Below.refl w1.heap.size w1).alloc (Nat.le_refl _) (.cells #[.int .i64 v, .int .i64 (F v), .int .i64 (optI (shortO ars F v))] 56)
                      have hnew := Blk.new w1 _ rfl 56 #[.int .i64 v, .int .i64 (F v), .int .i64 (optI (shortO ars F v))]
                      go_simp
                      refine hK (updV V 110 (.slice (some ⟨w1.heap.size, 0, none⟩) 1 1)) _ _ (by simp [putAll, updV, e10]) ?_
                      exact { h with
                        p0 := fun h12 => (h.p0 h12).below hb
                        b := fun _ _ => ⟨_, rfl, by simp, hnew.cell 0, hnew.cell 1, hnew.cell 2⟩
                        p1 := fun h12 => (by cases (h12.symm.trans l12)) }
                    · cases ho
                      have e0 : V 99 = _ := h.e0 (hL ⟨0, .data⟩ (by simp) rfl)
                      obtain ⟨gb, e11', hgb, hc0, hc1, hc2⟩ := h.b (hL ⟨11, .data⟩ (by simp) rfl) hi
                      have e11 : V 110 = _ := e11'
                      have l13 : L 13 = false := hno 13 (by kernel_rfl)
                      clear hL hno
                      have hp := h.p0 hi
                      refine step_append_rd rfl _ _ 27 rfl w0.heap.size 56 ib zb 3 24 Try.underlying27 hib hzb hb1 hb2 hb3 (by decide) (.slice Ao bs.length co) bs.length _ (by simp [putAll, Act.eval, e0]) hp.out w1.heap.size (some ⟨gb, 0, none⟩) 1 1 (BlkV.cells ⟨v, F v, optI (shortO ars F v)⟩) (by simp [putAll, Act.eval, e11]) rfl (.inr ⟨gb, 0, rfl, hgb, fun j u hu => ?_⟩) (by simp [BlkV.cells, Value.oneCell']) (by unfold maxLen; omega) (by omega) hp.bel.size ?_
                      · match j, hu with
                        | 0, hu => cases hu; exact hc0
                        | 1, hu => cases hu; exact hc1
                        | 2, hu => cases hu; exact hc2
                        | j + 3, hu => simp [BlkV.cells] at hu
                      intro v' w2 o2 g2 hv2
                      have hnext := hp.append ⟨v, F v, optI (shortO ars F v)⟩ g2 o2
                      refine hK (updV V 111 v') _ _ (by simp [putAll, Act.put, updV]) ?_
                      exact { h with
                        p0 := fun hn => (by cases hn)
                        b := fun _ hn => (by cases hn)
                        a13 := fun h13 => (by cases (h13.symm.trans l13))
                        p1 := fun _ => hnext }
                    · cases ho
                      have l12 := hL ⟨12, .data⟩ (by simp) rfl
                      clear hL hno
                      simp only [putAll, List.foldl_cons, List.foldl_nil, List.setIfInBounds_toArray, List.set_cons_zero, List.set_cons_succ]
                      have hp := h.p1 l12
                      obtain ⟨Ax, cx, e12, _⟩ := own_slice hp.out
                      go_simp
                      refine hK (updV V 17 (V 111)) _ _ (by simp [putAll, updV, e12]) ?_
                      exact { h with a13 := fun _ => rfl, f3 := fun hn => (by cases hn) }
                    · simp at ho
                  · clear hI0
                    intro L V w6 hL h
                    have hp := h.p1 (hL 12 (by simp))
                    have e13 := h.a13 (hL 13 (by simp))
                    rw [← hs, ← e13] at hp
                    simp only [putAll, List.foldl_cons, List.foldl_nil, List.setIfInBounds_toArray, List.set_cons_zero, List.set_cons_succ]
                    clear h hL HP hs
                    go_wp2_with fail
                    refine ⟨⟨v + 1, by omega, by go_num, hp⟩, by simp [intOf]; omega⟩
                · rw [if_neg (by omega), List.append_nil] at hs
                  have hd : decide (y < r) = false := decide_eq_false hyr
                  rw [← hs] at HP
                  subst hR2
                  clear hs hy hrp
                  go_wp2_with fail
                  go_quiet (fail)
                  go_wp2_with fail
                  refine ⟨⟨v + 1, by omega, by go_num, HP.out.below (Drawn.below _ ((Drawn.refl wr).drewN _))⟩, by simp [intOf]; omega⟩
              · obtain rfl : v = nn := by omega
                have X9 := HX2.out.below P.bel
                have han := Han.out
                unfold ansF at han
                rw [if_pos Hres.out, Int.toNat_natCast, hE3] at han
                unfold endF at han
                simp only at han
                have ob := P.out
                have bw9 := Hbw.out.trans (P.bel.mono (by omega))
                have kr9 := Hkr9.out.below P.bel (by omega)
                have hbz := P.bel.size
                have ol := X9.lst
                obtain ⟨bs, hbs⟩ : ∃ bs, blocksF ars v F (leftF rs F) v = bs := ⟨_, rfl⟩
                rw [hbs] at han ob
                obtain ⟨Ab, cb, rfl, _⟩ := own_slice ob
                subst hlv
                have y0 := kr9.cell 0
                have z0 := kr9.frozen 0
                have y1 := (kr9.set 0 (.slice Al ls.length cl')).cell 1
                have z1 := (kr9.set 0 (.slice Al ls.length cl')).frozen 1
                have y2 := (kr9.set 0 (.slice none 0 0)).cell 1
                have z2 := (kr9.set 0 (.slice none 0 0)).frozen 1
                simp only [List.setIfInBounds_toArray, List.set_cons_zero, List.getElem?_toArray, List.getElem?_cons_zero, List.getElem?_cons_succ] at y0 y1 y2
                have j1 := ((kr9.set 0 (.slice Al ls.length cl')).set 1 (.slice none 0 0))
                have j2 := ((kr9.set 0 (.slice none 0 0)).set 1 (.slice Ab bs.length cb))
                simp only [List.setIfInBounds_toArray, List.set_cons_zero, List.set_cons_succ] at j1 j2
                have m1 : ∀ {e : TypeId} {size m : Nat} {v : Value} {xs : List Value} (a b : Value), wr.ownsRow B e size v m xs → e ≠ 29 → ((wr.setCell ⟨B + 1, 0, none⟩ a).setCell ⟨B + 1, 1, none⟩ b).ownsRow B e size v m xs := fun a b ho he => own_set (own_set ho kr9 he 0 a) (kr9.set 0 a) he 1 b
                have m2 : ∀ (a b : Value), Below B w ((wr.setCell ⟨B + 1, 0, none⟩ a).setCell ⟨B + 1, 1, none⟩ b) := fun a b => (bw9.setCell (p := ⟨B + 1, 0, none⟩) (by simp) _).setCell (p := ⟨B + 1, 1, none⟩) (by simp) _
                clear X9 hE3 kr9 hst bw9 P
                by_cases hb0 : bs = []
                · subst hb0
                  rw [if_pos rfl] at han
                  subst han
                  go_wp2_with fail
                  exact run_end rfl rfl rfl rfl j1 ⟨_, _, rfl, m1 _ _ (ol.mono (by omega)) (by decide), World.ownsRow_nil _ _ _ _, m2 _ _⟩
                · rw [if_neg hb0] at han
                  subst han
                  have hbl : 0 < bs.length := List.length_pos_iff.2 hb0
                  go_wp2_with fail
                  exact run_end rfl rfl rfl rfl j2 ⟨_, _, rfl, World.ownsRow_nil _ _ _ _, m1 _ _ (ob.mono (by omega)) (by decide), m2 _ _⟩
  · obtain ⟨j0, j1, j2, j3⟩ := run_bad (Hbad.out hE0) b2 kr2
    have hqq : (res != 0) = true := by simpa using hE0
    go_wp2_with fail
    exact run_end rfl rfl rfl rfl j0 ⟨_, _, rfl, j1, j2, j3⟩
end Go.Proofs.Ytdogddngiolpoaa
