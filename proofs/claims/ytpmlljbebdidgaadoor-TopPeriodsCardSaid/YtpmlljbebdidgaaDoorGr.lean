/-
  TopPeriods.
-/
import Derived.Test.YtpmlljbebdidgaaDoorM24
namespace Go.Proofs.YtpmlljbebdidgaaDoor
open Go.RowKit

theorem sh_zero (rs : List Int) : shF_Hb rs 0 (fun _ => 0) = fun _ => 0 := by
  funext v
  simp [shF_Hb]
theorem whole_G {n : Nat} {rs : List Int} {G : Nat → Int} (hlen : rs.length = n) (hfar : ∀ j, n ≤ j → G j = 0) (h : rowF G n = rs) : G = shF_Hb rs 1 fun _ => 0 := by
  funext v
  show G v = ((1 : Nat) : Int) * repAt rs v + 0
  by_cases hv : v < n
  · have h1 := rowF_at G hv
    rw [h] at h1
    have h2 : repAt rs v = G v := by unfold repAt; rw [Int.toNat_natCast, h1]; rfl
    omega
  · rw [hfar v (by omega)]
    have h2 : repAt rs v = 0 := by unfold repAt; rw [Int.toNat_natCast, List.getElem?_eq_none (by omega)]; rfl
    omega
/-- memory while a round fires: zr: where the round's own memory begins -/
structure GoP (w0 : World) (B zr : Nat) (s : SM) (n : Nat) (ars : List ArcV) (F0 G : Nat → Int) (gF cF : Nat) (w : World) : Prop where
  bel : Below B w0 w
  st : St w B s n ars G
  frow : w.ownsRow zr 3 1 (.slice (some ⟨gF, 0, none⟩) n cF) n (cellsI (rowF F0 n))
  zgt : s.gt < zr
  zgf : s.gf < zr
  zle : zr ≤ w.heap.size
  ble : B ≤ w.heap.size
theorem GoP.below {w0 w w' : World} {B zr : Nat} {s : SM} {n : Nat} {ars : List ArcV} {F0 G : Nat → Int} {gF cF : Nat} (h : GoP w0 B zr s n ars F0 G gF cF w) (hb : Below w.heap.size w w') : GoP w0 B zr s n ars F0 G gF cF w' := by
  have := hb.size
  have := h.zle
  have := h.ble
  exact ⟨h.bel.trans ⟨hb.os, hb.tape, hb.output, hb.size, fun k hk => hb.block k (by omega)⟩, h.st.below hb, own_below h.frow hb, h.zgt, h.zgf, by omega, by omega⟩
theorem GoP.fire {w0 w w' : World} {B zr : Nat} {s : SM} {n : Nat} {ars : List ArcV} {F0 G G' : Nat → Int} {gF cF : Nat} (h : GoP w0 B zr s n ars F0 G gF cF w) (ho : Only (fun k => k = s.gt ∨ k = s.gf) w w') (hs : St w' B s n ars G') : GoP w0 B zr s n ars F0 G' gF cF w' := by
  have h1 := (h.st.tok.lt s.gt rfl).1
  have h2 := (h.st.fir.lt s.gf rfl).1
  have := ho.size
  have := h.zle
  have := h.ble
  have h3 := h.zgt
  have h4 := h.zgf
  refine ⟨h.bel.trans ⟨ho.os, ho.tape, ho.output, ho.size, fun k hk => ho.block k (by omega) (by omega)⟩, hs, own_only h.frow ho fun b hb hx => ?_, h.zgt, h.zgf, by omega, by omega⟩
  have := own_ge h.frow hb
  rcases hx with hx | hx <;> omega
theorem one_dec (x : Nat) : ((x : Int) == 1) = decide (x = 1) := by
  by_cases h : x = 1
  · subst h; rfl
  · rw [decide_eq_false h]; simp; omega
theorem fire_cases {ars : List ArcV} {n v : Nat} {F : Nat → Int} : (mayB ars n F v = true ∧ fireN ars n F [(v : Int)] = 1 ∧ fireF ars n F [(v : Int)] = bump F v) ∨ (mayB ars n F v = false ∧ fireN ars n F [(v : Int)] = 0 ∧ fireF ars n F [(v : Int)] = F) := by
  cases h : mayB ars n F v with
  | true => exact .inl ⟨rfl, (fire_one h).1, (fire_one h).2⟩
  | false => exact .inr ⟨rfl, by simp [fireN, h], by simp [fireF, h]⟩

structure GoI (w0 : World) (B zr : Nat) (s : SM) (n : Nat) (ars : List ArcV) (F0 G : Nat → Int) (rs : List Int) (gF cF gb bR oR cr k : Nat) (L : Nat → Bool) (V : Nat → Value) (w : World) : Prop where
  p0 : L 14 = false → GoP w0 B zr s n ars F0 G gF cF w
  p1 : L 14 = true → V 207 = .int .i64 (fireN ars n G [(k : Int)] : Nat) ∧ GoP w0 B zr s n ars F0 (fireF ars n G [(k : Int)]) gF cF w
  b : L 13 = true → L 14 = false → V 206 = .slice (some ⟨gbOf (V 206), 0, none⟩) 1 1 ∧ Rd w w.heap.size (some ⟨gbOf (V 206), 0, none⟩) (cellsI [(k : Int)]) ∧ zr ≤ gbOf (V 206)
  e11 : L 11 = true → V 204 = .pointer (some ⟨s.gs, 0, none⟩)
  e12 : L 12 = true → V 205 = .int .i64 k
  e15 : L 15 = true → V 208 = .bool (decide (fireN ars n G [(k : Int)] = 1))
  e16 : L 16 = true → V 209 = .bool (decide (fireN ars n G [(k : Int)] = 1))
  e0 : L 0 = true → V 193 = .slice (some ⟨gF, 0, none⟩) n cF
  e1 : L 1 = true → V 194 = .int .i64 k
  e2 : L 2 = true → V 195 = .pointer (some ⟨gF, k, none⟩)
  e3 : L 3 = true → V 196 = .int .i64 (F0 k)
  e4 : L 4 = true → V 197 = .pointer (some ⟨gb, 1, none⟩)
  e5 : L 5 = true → V 198 = .slice (some ⟨bR, oR, none⟩) n cr
  e6 : L 6 = true → V 199 = .int .i64 k
  e7 : L 7 = true → V 200 = .pointer (some ⟨bR, oR + k, none⟩)
  e8 : L 8 = true → V 201 = .int .i64 (repAt rs k)
  e9 : L 9 = true → V 202 = .bool true
  e10 : L 10 = true → V 203 = .bool true
structure WhI (w0 : World) (B : Nat) (s : SM) (n : Nat) (ars : List ArcV) (G : Nat → Int) (rs : List Int) (gb bR oR cr : Nat) (L : Nat → Bool) (V : Nat → Value) (w : World) : Prop where
  bel : Below B w0 w
  st : St w B s n ars G
  ble : B ≤ w.heap.size
  c : L 1 = true → V 213 = .slice (sAddr (V 213)) n (sCap (V 213)) ∧ Rd w w.heap.size (sAddr (V 213)) (cellsI (rowF G n))
  e4 : L 4 = true → V 216 = .bool (decide (rowF G n = rs))
  e0 : L 0 = true → V 212 = .pointer (some ⟨s.gs, 0, none⟩)
  e2 : L 2 = true → V 214 = .pointer (some ⟨gb, 1, none⟩)
  e3 : L 3 = true → V 215 = .slice (some ⟨bR, oR, none⟩) n cr
  e5 : L 5 = true → V 21 = .bool (decide (rowF G n = rs))
theorem WhI.below {w0 w w' : World} {B : Nat} {s : SM} {n : Nat} {ars : List ArcV} {G : Nat → Int} {rs : List Int} {gb bR oR cr : Nat} {L : Nat → Bool} {V : Nat → Value} (h : WhI w0 B s n ars G rs gb bR oR cr L V w) (hb : Below w.heap.size w w') : WhI w0 B s n ars G rs gb bR oR cr L V w' :=
  { h with
    bel := h.bel.trans (hb.mono h.ble)
    st := h.st.below hb
    ble := Nat.le_trans h.ble hb.size
    c := fun hl => ⟨(h.c hl).1, ((h.c hl).2.below hb (Nat.le_refl _)).more hb.size⟩ }
/-- memory while a period goes round: zr: where what came after the second state begins -/
structure HoP (w0 : World) (B zr : Nat) (s : SM) (n : Nat) (ars : List ArcV) (AS : Option Addr) (cS : Nat) (G : Nat → Int) (w : World) : Prop where
  bel : Below B w0 w
  st : St w B s n ars G
  srow : w.ownsRow zr 3 1 (.slice AS ars.length cS) ars.length (cellsI (rowF (tokI ars fun _ => 0) ars.length))
  zgt : s.gt < zr
  zgf : s.gf < zr
  zle : zr ≤ w.heap.size
  ble : B ≤ w.heap.size
theorem HoP.below {w0 w w' : World} {B zr : Nat} {s : SM} {n : Nat} {ars : List ArcV} {AS : Option Addr} {cS : Nat} {G : Nat → Int} (h : HoP w0 B zr s n ars AS cS G w) (hb : Below w.heap.size w w') : HoP w0 B zr s n ars AS cS G w' := by
  have := hb.size
  have := h.zle
  have := h.ble
  exact ⟨h.bel.trans ⟨hb.os, hb.tape, hb.output, hb.size, fun k hk => hb.block k (by omega)⟩, h.st.below hb, own_below h.srow hb, h.zgt, h.zgf, by omega, by omega⟩
theorem HoP.fire {w0 w w' : World} {B zr : Nat} {s : SM} {n : Nat} {ars : List ArcV} {AS : Option Addr} {cS : Nat} {G G' : Nat → Int} (h : HoP w0 B zr s n ars AS cS G w) (ho : Only (fun k => k = s.gt ∨ k = s.gf) w w') (hs : St w' B s n ars G') : HoP w0 B zr s n ars AS cS G' w' := by
  have h1 := (h.st.tok.lt s.gt rfl).1
  have h2 := (h.st.fir.lt s.gf rfl).1
  have := ho.size
  have := h.zle
  have := h.ble
  have h3 := h.zgt
  have h4 := h.zgf
  refine ⟨h.bel.trans ⟨ho.os, ho.tape, ho.output, ho.size, fun k hk => ho.block k (by omega) (by omega)⟩, hs, own_only h.srow ho fun b hb hx => ?_, h.zgt, h.zgf, by omega, by omega⟩
  have := own_ge h.srow hb
  rcases hx with hx | hx <;> omega
structure HoIa (w0 : World) (B zr : Nat) (s2 : SM) (n : Nat) (ars : List ArcV) (AS : Option Addr) (cS : Nat) (G4 G5 : Nat → Int) (gp bl ol al cl : Nat) (L : Nat → Bool) (V : Nat → Value) (w : World) : Prop where
  bel : Below B w0 w
  p0 : L 3 = false → HoP w0 B zr s2 n ars AS cS G4 w
  p1 : L 3 = true → HoP w0 B zr s2 n ars AS cS G5 w
  e3 : L 3 = true → V 278 = .int .i64 (al : Nat)
  e8b : L 8 = true → L 3 = true
  c : L 10 = true → V 285 = .slice (sAddr (V 285)) ars.length (sCap (V 285)) ∧ Rd w w.heap.size (sAddr (V 285)) (cellsI (rowF (tokI ars fun _ => 0) ars.length))
  e12 : L 12 = true → V 287 = .bool true
  e0 : L 0 = true → V 275 = .pointer (some ⟨s2.gs, 0, none⟩)
  e1 : L 1 = true → V 276 = .pointer (some ⟨gp, 0, none⟩)
  e2 : L 2 = true → V 277 = .slice (some ⟨bl, ol, none⟩) al cl
  e4 : L 4 = true → V 279 = .pointer (some ⟨gp, 0, none⟩)
  e5 : L 5 = true → V 280 = .slice (some ⟨bl, ol, none⟩) al cl
  e6 : L 6 = true → V 281 = .int .i64 (al : Nat)
  e7 : L 7 = true → V 282 = .bool true
  e8 : L 8 = true → V 283 = .bool true
  e9 : L 9 = true → V 284 = .pointer (some ⟨s2.gs, 0, none⟩)
  e11 : L 11 = true → V 286 = .slice AS ars.length cS
  e13 : L 13 = true → V 288 = .bool true
  e14 : L 14 = true → V 27 = .bool true
structure HoIb (w0 : World) (B zr : Nat) (s2 : SM) (n : Nat) (ars : List ArcV) (AS : Option Addr) (cS : Nat) (G4 G5 : Nat → Int) (gp bl ol al cl : Nat) (L : Nat → Bool) (V : Nat → Value) (w : World) : Prop where
  bel : Below B w0 w
  p0 : L 3 = false → HoP w0 B zr s2 n ars AS cS G4 w
  p1 : L 3 = true → HoP w0 B zr s2 n ars AS cS G5 w
  e3 : L 3 = true → V 292 = .int .i64 (al : Nat)
  e8b : L 8 = true → L 3 = true
  c : L 10 = true → V 299 = .slice (sAddr (V 299)) ars.length (sCap (V 299)) ∧ Rd w w.heap.size (sAddr (V 299)) (cellsI (rowF (tokI ars fun _ => 0) ars.length))
  e12 : L 12 = true → V 301 = .bool true
  e0 : L 0 = true → V 289 = .pointer (some ⟨s2.gs, 0, none⟩)
  e1 : L 1 = true → V 290 = .pointer (some ⟨gp, 0, none⟩)
  e2 : L 2 = true → V 291 = .slice (some ⟨bl, ol, none⟩) al cl
  e4 : L 4 = true → V 293 = .pointer (some ⟨gp, 0, none⟩)
  e5 : L 5 = true → V 294 = .slice (some ⟨bl, ol, none⟩) al cl
  e6 : L 6 = true → V 295 = .int .i64 (al : Nat)
  e7 : L 7 = true → V 296 = .bool true
  e8 : L 8 = true → V 297 = .bool true
  e9 : L 9 = true → V 298 = .pointer (some ⟨s2.gs, 0, none⟩)
  e11 : L 11 = true → V 300 = .slice AS ars.length cS
  e13 : L 13 = true → V 302 = .bool true
  e14 : L 14 = true → V 28 = .bool true

set_option maxRecDepth 100000 in
set_option maxHeartbeats 8000000 in
theorem topPeriods_any (g : GraV) (ps : List Int) (Q : Option Addr) (q cq : Nat) (row : List Int) (M : Option Addr) (m cm : Nat) (w : World) (hg : g.good w w.heap.size)
    (hps : ps.length = q) (hlcq : q ≤ cq) (hfp : AllFit ps) (hrp : Rd w w.heap.size Q (cellsI ps)) (hzq : cq * 8 ≤ 140737488351232)
    (hrow : row.length = m) (hlcm : m ≤ cm) (hfm : AllFit row) (hrm : Rd w w.heap.size M (cellsI row)) (hzm : cm * 8 ≤ 140737488351232) (hT : Tab w) :
    Calls Tryd.prog 3 #[.agg #[.string g.nm, .slice g.aA g.acts.length g.cA, .slice g.aE g.edges.length g.cE, .slice g.aI g.ins.length g.cI, .slice g.aO g.outs.length g.cO], .slice Q q cq, .slice M m cm] w fun e w' => e = .returned (.bool true) ∧ Below w.heap.size w w' := by
  subst hps hrow
  have b1 := (Below.refl w.heap.size w).alloc (Nat.le_refl _) (.cells #[.string g.nm, .slice g.aA g.acts.length g.cA, .slice g.aE g.edges.length g.cE, .slice g.aI g.ins.length g.cI, .slice g.aO g.outs.length g.cO] 26)
  have k1 := Blk.new w _ rfl 26 #[.string g.nm, .slice g.aA g.acts.length g.cA, .slice g.aE g.edges.length g.cE, .slice g.aI g.ins.length g.cI, .slice g.aO g.outs.length g.cO]
  go_enter Tryd.func3, Tryd.ntmps3
  go_upto_region 1 with fail
  obtain ⟨W1, hW1⟩ : ∃ W, w.alloc (.cells #[.string g.nm, .slice g.aA g.acts.length g.cA, .slice g.aE g.edges.length g.cE, .slice g.aI g.ins.length g.cI, .slice g.aO g.outs.length g.cO] 26) = W := ⟨_, rfl⟩
  obtain ⟨B, hB⟩ : ∃ B, w.heap.size = B := ⟨_, rfl⟩
  have hg1 : g.good W1 W1.heap.size := by rw [← hW1]; exact (hg.below b1 (Nat.le_refl _)).more b1.size
  have hq1 : Rd W1 W1.heap.size Q (cellsI ps) := by rw [← hW1]; exact (hrp.below b1 (Nat.le_refl _)).more b1.size
  have hm1 : Rd W1 W1.heap.size M (cellsI row) := by rw [← hW1]; exact (hrm.below b1 (Nat.le_refl _)).more b1.size
  have ht1 : Tab W1 := by rw [← hW1]; exact hT.below b1 hT.pos
  rw [hW1] at b1 k1 ⊢
  rw [hB] at b1 k1 ⊢
  have HBB := Lib.hid hB
  have hz1 : B ≤ W1.heap.size := by have := b1.size; omega
  have c0 := k1.cell 0
  have c1 := k1.cell 1
  have c2 := k1.cell 2
  have c3 := k1.cell 3
  have c4 := k1.cell 4
  simp only [List.getElem?_toArray, List.getElem?_cons_zero, List.getElem?_cons_succ] at c0 c1 c2 c3 c4
  have HG1 := Lib.hid hg1
  have HQ1 := Lib.hid hq1
  have HM1 := Lib.hid hm1
  have HT1 := Lib.hid ht1
  have HB1 := Lib.hid b1
  clear hg hrp hrm hT hg1 hq1 hm1 ht1 b1 k1 hW1 hB
  go_wp2_with fail
  refine (netOf_any g W1 HG1.out).mono ?_
  rintro e w2 ⟨n, A, l, c, rfl, hb2, h⟩
  obtain ⟨E, hE⟩ : ∃ E, checkG g = E := ⟨_, rfl⟩
  rw [hE] at h ⊢
  have hz2 : B ≤ w2.heap.size := by have := hb2.size; omega
  have b2 := HB1.out.trans (hb2.mono hz1)
  have hb3 := (Below.refl w2.heap.size w2).alloc (Nat.le_refl _) (.cells #[.int .i64 n, .slice A l c] 30)
  have k3 := Blk.new w2 _ rfl 30 #[.int .i64 n, .slice A l c]
  have q3 := (((HQ1.out.below hb2 (Nat.le_refl _)).more hb2.size).below hb3 (Nat.le_refl _)).more hb3.size
  have m3 := (((HM1.out.below hb2 (Nat.le_refl _)).more hb2.size).below hb3 (Nat.le_refl _)).more hb3.size
  have t3 := (HT1.out.below hb2 HT1.out.pos).below hb3 (HT1.out.below hb2 HT1.out.pos).pos
  have b3 := b2.trans (hb3.mono hz2)
  clear c0 c1 c2 c3 c4 HB1 b2 hb2
  go_upto_region 2 with fail
  obtain ⟨W3, hW3⟩ : ∃ W, w2.alloc (.cells #[.int .i64 n, .slice A l c] 30) = W := ⟨_, rfl⟩
  obtain ⟨gn, hgn⟩ : ∃ g, w2.heap.size = g := ⟨_, rfl⟩
  rw [hW3] at hb3 k3 q3 m3 t3 b3
  rw [hgn] at k3
  try rw [hW3]
  try rw [hgn]
  have hz3 : B ≤ W3.heap.size := by have := hb3.size; omega
  have HB3 := Lib.hid b3
  have HB23 := Lib.hid hb3
  have HT3 := Lib.hid t3
  have HQ3 := Lib.hid q3
  have HM3 := Lib.hid m3
  clear hW3 b3 t3 q3 m3 hb3
  by_cases hE0 : E = 0
  · subst hE0
    obtain ⟨hn, hl, ho⟩ := h rfl
    have hck := checkG_net hE
    have hal := garcs_length g
    generalize garcs g = ars at *
    obtain ⟨na, hna⟩ : ∃ k, g.acts.length = k := ⟨_, rfl⟩
    rw [hna] at hn hck
    subst hn
    rw [← hal] at hl
    subst hl
    obtain ⟨m', hm', hN⟩ := netOk_of hck
    obtain rfl : na = m' := by omega
    have hx : ∀ a ∈ ars, a.fit := fun a ha => by
      obtain ⟨h1, h2, h3, h4, h5, h6, h7, h8, h9, h10⟩ := hN.ok a ha
      have := hN.n32
      refine ⟨?_, ?_, ?_, ?_, ?_⟩ <;> unfold fits <;> omega
    have hmA : ars.length ≤ maxLen := by have := hN.l96; unfold maxLen; omega
    have TS3 : TpS W3.heap.size W3 na ars gn A c Q ps M row := ⟨Nat.le_refl _, k3, k3.lt, (rd_of_own ho).below HB23.out (Nat.le_refl _) |>.more HB23.out.size, HQ3.out, HM3.out, HT3.out, HT3.out.pos⟩
    have HSV := Lib.hid (solve_any na ars A ars.length c W3 rfl hx TS3.rA hmA HT3.out)
    have n0 := k3.cell 0
    have n1 := k3.cell 1
    simp only [List.getElem?_toArray, List.getElem?_cons_zero, List.getElem?_cons_succ] at n0 n1
    have HS3 := Lib.hid TS3
    have HN := Lib.hid hN
    have Hck := Lib.hid hck
    have HX := Lib.hid hx
    clear h hm' hna hal ho hE k3 TS3 hN hck hx HT3 HQ3 HM3 HB23 hgn HG1 HQ1 HM1 HT1
    go_wp2_with fail
    refine HSV.out.mono ?_
    rintro e w4 ⟨vd, reps, cyc, k, Ar, cr, Ac, cc, rfl, hs, -, -, oR, oC, hb4⟩
    obtain ⟨hk0, -⟩ := hs.steady Hck.out
    subst hk0
    have hz4 : B ≤ w4.heap.size := by have := hb4.size; omega
    have TS4 := (HS3.out.below hb4).more hb4.size (Nat.le_refl _)
    have b4 := HB3.out.trans (hb4.mono hz3)
    have hb5 := (Below.refl w4.heap.size w4).alloc (Nat.le_refl _) (.cells #[.int .u8 vd, .slice Ar reps.length cr, .slice Ac cyc.length cc] 38)
    have kb := Blk.new w4 _ rfl 38 #[.int .u8 vd, .slice Ar reps.length cr, .slice Ac cyc.length cc]
    have TS5 := (TS4.below hb5).more hb5.size (Nat.le_refl _)
    have rR5 := ((rd_of_own oR).below hb5 (Nat.le_refl _)).more hb5.size
    have rC5 := ((rd_of_own oC).below hb5 (Nat.le_refl _)).more hb5.size
    have Hcl := Lib.hid (own_len oC)
    have hcc : cyc.length ≤ cc := by obtain ⟨_, _, h, hle⟩ := own_slice oC; injection h with _ _ h; omega
    have b5 := b4.trans (hb5.mono hz4)
    clear HSV n0 n1 oR oC TS4 b4 hb4 HS3 HB3
    go_upto_region 5 with fail
    obtain ⟨W5, hW5⟩ : ∃ W, w4.alloc (.cells #[.int .u8 vd, .slice Ar reps.length cr, .slice Ac cyc.length cc] 38) = W := ⟨_, rfl⟩
    obtain ⟨gb, hgb⟩ : ∃ g, w4.heap.size = g := ⟨_, rfl⟩
    rw [hW5] at hb5 kb TS5 rR5 rC5 b5
    rw [hgb] at kb
    try rw [hW5]
    try rw [hgb]
    have hz5 : B ≤ W5.heap.size := by have := hb5.size; omega
    have n0 := TS5.kn.cell 0
    have n1 := TS5.kn.cell 1
    have r0 := kb.cell 0
    have r1 := kb.cell 1
    have r2 := kb.cell 2
    simp only [List.getElem?_toArray, List.getElem?_cons_zero, List.getElem?_cons_succ] at n0 n1 r0 r1 r2
    have HB5 := Lib.hid b5
    have HS5 := Lib.hid TS5
    have HR5 := Lib.hid rR5
    have HC5 := Lib.hid rC5
    have Hcc := Lib.hid hcc
    have HKB := Lib.hid kb
    have HSA := Lib.hid hs
    clear b5 TS5 rR5 rC5 hb5 hW5 hgb hcc kb hz4
    rcases hs with ⟨hc, -⟩ | ⟨-, -, m', hm', hcase⟩
    · exact absurd Hck.out hc
    obtain rfl : na = m' := by omega
    clear hm'
    rcases hcase with ⟨-, rfl, rfl, rfl⟩ | ⟨-, rfl, rfl, -⟩ | ⟨hbig, hev, rfl, rfl, rfl⟩
    · clear HC5 HR5 HKB HSA Hcc r2 n0 n1
      simp only [List.length_nil] at r1
      go_wp2_with fail
      refine (awake15_any W5 HS5.out.tab).mono ?_
      rintro e w9 ⟨rfl, hb9⟩
      have B9 := Lib.hid (HB5.out.trans (hb9.mono hz5))
      clear hb9
      go_wp2_with fail
      go_ret
      exact ⟨rfl, HBB.out.symm ▸ B9.out⟩
    · have hL := Hcl.out
      have HCF := Lib.hid (confirm_any na ars A ars.length c (stL cyc) Ac cyc.length cc W5 rfl HX.out HS5.out.rA hmA (stL_length _) (stL_fit HSA.out) (by rw [cells_stL]; exact HC5.out) hL Hcc.out HS5.out.tab)
      rw [cyc_told HSA.out rfl] at HCF
      obtain ⟨LC, hLC⟩ : ∃ L, cyc.length = L := ⟨_, rfl⟩
      rw [hLC] at HCF r2
      clear hLC hL HC5 HR5 HKB HSA Hcc r1
      go_wp2_with fail
      refine HCF.out.mono ?_
      rintro e w6 ⟨rfl, hb6⟩
      have HB6 := Lib.hid (HB5.out.trans (hb6.mono hz5))
      have HS6 := Lib.hid (HS5.out.below hb6)
      have hz6 : B ≤ w6.heap.size := by have := hb6.size; omega
      clear hb6 HCF
      go_wp2_with fail
      refine (awake15_any w6 HS6.out.tab).mono ?_
      rintro e w9 ⟨rfl, hb9⟩
      have B9 := Lib.hid (HB6.out.trans (hb9.mono hz6))
      clear hb9
      go_wp2_with fail
      go_ret
      exact ⟨rfl, HBB.out.symm ▸ B9.out⟩
    · obtain ⟨hlen, hall, heven⟩ := steady_reps Hck.out hbig hev
      generalize (rowN na fun v => (cR na ars v : Int)) = rs at *
      subst hlen
      have TB5 : TpB W5.heap.size W5 gb 1 Ar cr Ac 0 cc rs := ⟨HKB.out, HKB.out.lt, HR5.out⟩
      have hfr := reps_fit hall
      have hmr : rs.length ≤ maxLen := by have := HN.out.n32; unfold maxLen; omega
      have HRU := Lib.hid (simRun_any rs.length ars A ars.length c rs Ar rs.length cr ps Q ps.length cq W5 rfl HX.out HS5.out.rA hmA rfl hfr HR5.out hmr rfl hfp HS5.out.rQ (by omega))
      have HTB5 := Lib.hid TB5
      have Hall := Lib.hid hall
      have Heven := Lib.hid heven
      have Hfr := Lib.hid hfr
      have Hmr := Lib.hid hmr
      have HmA := Lib.hid hmA
      have Hfp := Lib.hid hfp
      have Hfm := Lib.hid hfm
      clear hbig hev HC5 HSA Hcc r2 TB5 HR5 HKB hall heven hfr hmr hmA hfp hfm
      go_wp2_with fail
      refine HRU.out.mono ?_
      rintro e w6 ⟨lv, sv, rfl, ol, os, hb6⟩
      obtain ⟨a1, ha1⟩ : ∃ a, ansF (pickS ars (rs.length : Int).toNat rs ps) rs.length ars rs ps = a := ⟨_, rfl⟩
      obtain ⟨e1, he1⟩ : ∃ a, wrongF rs.length ars rs ps = a := ⟨_, rfl⟩
      rw [ha1] at ol os
      rw [he1]
      obtain ⟨Al, cl, rfl, _⟩ := own_slice ol
      obtain ⟨As, cs, rfl, _⟩ := own_slice os
      have hz6 : B ≤ w6.heap.size := by have := hb6.size; omega
      have TS6 := (HS5.out.below hb6).more hb6.size (Nat.le_refl _)
      have TB6 := (HTB5.out.below hb6).more hb6.size
      have b6 := HB5.out.trans (hb6.mono hz5)
      have hb7 := (Below.refl w6.heap.size w6).alloc (Nat.le_refl _) (.cells #[.slice Al a1.1.length cl, .slice As a1.2.length cs] 44)
      have kp := Blk.new w6 _ rfl 44 #[.slice Al a1.1.length cl, .slice As a1.2.length cs]
      have TS7 := (TS6.below hb7).more hb7.size (Nat.le_refl _)
      have TB7 := (TB6.below hb7).more hb7.size
      have rl7 := ((rd_of_own ol).below hb7 (Nat.le_refl _)).more hb7.size
      have rs7 := ((rd_of_own os).below hb7 (Nat.le_refl _)).more hb7.size
      have b7 := b6.trans (hb7.mono hz6)
      clear HRU n0 n1 r0 r1 ol os TS6 TB6 b6 hb6 HS5 HB5 HTB5
      go_upto_region 12 with fail
      obtain ⟨W7, hW7⟩ : ∃ W, w6.alloc (.cells #[.slice Al a1.1.length cl, .slice As a1.2.length cs] 44) = W := ⟨_, rfl⟩
      obtain ⟨gp, hgp⟩ : ∃ g, w6.heap.size = g := ⟨_, rfl⟩
      rw [hW7] at hb7 kp TS7 TB7 rl7 rs7 b7
      rw [hgp] at kp
      try rw [hW7]
      try rw [hgp]
      have hz7 : B ≤ W7.heap.size := by have := hb7.size; omega
      have hpl := kp.lt
      have p0 := kp.cell 0
      have p1 := kp.cell 1
      have r0 := TB7.kb.cell 0
      have r1 := TB7.kb.cell 1
      have n0 := TS7.kn.cell 0
      have n1 := TS7.kn.cell 1
      simp only [List.getElem?_toArray, List.getElem?_cons_zero, List.getElem?_cons_succ] at p0 p1 r0 r1 n0 n1
      have HB7 := Lib.hid b7
      have HS7 := Lib.hid TS7
      have HTB7 := Lib.hid TB7
      have hw := wrong_top ps Hck.out rfl Hall.out Heven.out
      rw [he1] at hw
      clear b7 TS7 TB7 hb7 hW7 hgp
      have bad : e1 ≠ 0 → a1 = ([], []) := fun h1 => by
        rw [← ha1]
        unfold ansF
        rw [if_neg (by rw [he1]; exact h1)]
      rcases hw with rfl | rfl | rfl
      · obtain ⟨nn, -, -, -, -, -, -, hsum, -⟩ := wrongF_parts he1
        have hpos := HN.out.pos
        have n32 := HN.out.n32
        obtain ⟨bR, oR, x0, rfl, hbR, -, -, -, -⟩ := HTB7.out.rR.at_ Hfr.out (k := 0) hpos
        have hend := fun G hR hF => any_endP (G := G) he1 hR hF
        rw [ha1] at hend
        have hleft := sumF_left Hall.out rs.length (Nat.le_refl _)
        rw [List.take_length] at hleft
        have hst : leftSum rs.length (leftF rs fun _ => 0) ≤ 2048 := by omega
        have Hend := Lib.hid hend
        have Ha1 := Lib.hid ha1
        have He1 := Lib.hid he1
        have HTP7 := Lib.hid (⟨kp, hpl, rl7, rs7⟩ : TpP W7.heap.size W7 gp Al cl As cs a1.1 a1.2)
        have HNW := Lib.hid (new_any_Sf rs.length A c ars W7 Hck.out HN.out HS7.out.rA)
        obtain ⟨B3, hB3⟩ : ∃ B3, W7.heap.size = B3 := ⟨_, rfl⟩
        rw [hB3] at HTP7 HS7 HTB7 HNW hz7
        have hB7 : B3 ≤ W7.heap.size := by omega
        clear hB3 hend ha1 he1 hleft hsum bad kp hpl rl7 rs7 nn hbR r0 r1 p0 p1
        go_wp2_with fail
        refine HNW.out.mono ?_
        rintro e w8 ⟨s, rfl, hS8, hb8, hgs⟩
        have n0 := (HS7.out.below hb8).kn.cell 0
        have r0 := (HTB7.out.below hb8).kb.cell 0
        have r1 := (HTB7.out.below hb8).kb.cell 1
        simp only [List.getElem?_toArray, List.getElem?_cons_zero, List.getElem?_cons_succ] at n0 r0 r1
        have hnn : ((rs.length : Int) != (rs.length : Int)) = false := by simp
        have HS8 := Lib.hid hS8
        have Hb8 := Lib.hid hb8
        clear HNW hS8 hb8 hgs n1
        go_wp2_with fail
        clear n0 r0 r1
        go_loopw [15] (fun i wx => ∃ (k : Nat) (G : Nat → Int), k ≤ row.length ∧ i = .int .i64 k ∧ St wx B3 s rs.length ars G ∧ Reach ars rs.length rs G ∧ Below B3 W7 wx) (fun i _ => row.length - (intOf i).toNat)
        case atStart => exact ⟨0, fun _ => 0, by omega, rfl, HS8.out, .zero, Hb8.out⟩
        case round =>
          clear HS8 Hb8
          obtain ⟨k, G, hk', rfl, hS, hR, hb⟩ := hrel
          have hsz := hb.size
          by_cases hk : k < row.length
          · have hrow := (HS7.out.below hb).rM
            obtain ⟨bQ, oQ, x, rfl, hbQ, hxf, hcx, hd, hxx⟩ := hrow.at_ Hfm.out hk
            have h1 : (0 : Int) ≤ (k : Int) := by omega
            have h2 : (k : Int) < (row.length : Int) := by omega
            have HS := Lib.hid hS
            have HR := Lib.hid hR
            clear hd hrow hcx hS hR
            go_wp2_with fail
            refine (fired_any rs.length ars G B3 s wr HN.out HS.out).mono ?_
            rintro e w5 ⟨AF, cF, rfl, oF, bF⟩
            obtain ⟨gF, rfl⟩ := own_addr oF hpos
            have hS5 := HS.out.below bF
            have hz5 := bF.size
            have b5 := hb.trans (bF.mono (by omega))
            have TS5 := HS7.out.below b5
            have TB5 := HTB7.out.below b5
            have hrow := TS5.rM
            obtain ⟨bQ', oQ', x', hA', -, -, hcx, -, hxx'⟩ := hrow.at_ Hfm.out hk
            injection hA' with hA'
            injection hA' with hA1 hA2 _
            have hxe : x' = x := by
              have q1 := hxx'.out
              rw [hxx.out] at q1
              injection q1 with q1
              exact q1.symm
            rw [hxe, ← hA1, ← hA2] at hcx
            have n0 := TS5.kn.cell 0
            have r1 := TB5.kb.cell 1
            simp only [List.getElem?_toArray, List.getElem?_cons_zero, List.getElem?_cons_succ] at n0 r1
            clear hxx hxx' hA1 hA2 hxe hrow x' TS5
            have HB := Lib.hid b5
            have HS5 := Lib.hid hS5
            have HTB5 := Lib.hid TB5
            clear hb HS b5 hS5 bF TB5
            by_cases hx0 : 0 ≤ x
            · obtain ⟨v, rfl⟩ : ∃ v : Nat, x = v := ⟨x.toNat, by omega⟩
              by_cases hv : v < rs.length
              · have hv0 : (0 : Int) ≤ (v : Int) := by omega
                have hv2 : (v : Int) < (rs.length : Int) := by omega
                have hcf := own_firCell oF hv
                have hcr := rd_repAt HTB5.out.rR hv
                by_cases hlt : G v < repAt rs v
                · clear oF
                  go_wp2_with fail
                  go_quiet (fail)
                  generalize hW6 : World.drewN w5 _ = W6
                  have hd6 : Drawn w5 W6 := by rw [← hW6]; exact (Drawn.refl _).drewN _
                  have hcx6 := (hd6.cell _).trans hcx
                  have S6 := HS5.out.drawn hd6
                  have B6 := HB.out.trans (hd6.below _)
                  have r6 := rd_alloc W6 _ rfl 3 [Value.int .i64 v]
                  have ba := (Below.refl W6.heap.size W6).alloc (Nat.le_refl _) (.cells #[.int .i64 v] 3)
                  have b7 := B6.trans (ba.mono (by have := B6.size; omega))
                  have S7 := S6.below ba
                  have hgt := (S6.tok.lt s.gt rfl).2
                  have hgf := (S6.fir.lt s.gf rfl).2
                  have hgt1 := (S6.tok.lt s.gt rfl).1
                  have hgf1 := (S6.fir.lt s.gf rfl).1
                  have hF6 : ∀ j, j < rs.length → 0 ≤ G j ∧ G j + (1 : Nat) ≤ 1000000 := fun j hj => by
                    have q1 := HR.out.nonneg j
                    have q2 := HR.out.le_reps (fun v hv => by have := repAt_lt Hall.out (f := v) (by omega); omega) j hj
                    have q3 := repAt_lt Hall.out (f := j) (by omega)
                    omega
                  have Hr6 := Lib.hid r6
                  have HS7' := Lib.hid S7
                  have HB7' := Lib.hid b7
                  have HF6 := Lib.hid hF6
                  have hz7' := b7.size
                  clear hd6 hcx hcf hcr S6 B6 r6 ba b7 S7 hF6 hW6 n0 r1
                  go_wp2_with fail
                  refine (fire_any [(v : Int)] (some ⟨W6.heap.size, 0, none⟩) 1 1 rs.length ars G B3 s _ rfl (fun x hx => by simp at hx; subst hx; unfold fits; omega) ((Hr6.out).more (by simp)) (by simp only [blkOf]; intro hc; injection hc with hc; omega) (by simp only [blkOf]; intro hc; injection hc with hc; omega) HN.out HF6.out HS7'.out).mono ?_
                  rintro e w8 ⟨rfl, S8, O8⟩
                  have b8 : Below B3 W7 w8 := HB7'.out.trans ⟨O8.os, O8.tape, O8.output, O8.size, fun k hk => O8.block k (by omega) (by omega)⟩
                  have hR8 : Reach ars rs.length rs (fireF ars rs.length G [(v : Int)]) := by
                    rcases fire_cases (ars := ars) (n := rs.length) (v := v) (F := G) with ⟨hm, -, hf1⟩ | ⟨-, -, hf1⟩
                    · rw [hf1]; exact .step HR.out (by unfold leftF; omega) hm
                    · rw [hf1]; exact HR.out
                  go_wp2_with fail
                  go_roundw
                  case rel => exact ⟨k + 1, _, by omega, by go_num, S8, hR8, b8⟩
                  case measure => simp [intOf]; omega
                · clear oF
                  have hd : decide (G v < repAt rs v) = false := decide_eq_false hlt
                  go_wp2_with fail
                  go_quiet (fail)
                  go_wp2_with fail
                  go_roundw
                  case rel => exact ⟨k + 1, G, by omega, by go_num, HS5.out.below (Drawn.below _ ((Drawn.refl _).drewN _)), HR.out, Below.drewN HB.out _⟩
                  case measure => simp [intOf]; omega
              · have hd : decide ((v : Int) < (rs.length : Int)) = false := decide_eq_false (by omega)
                clear oF
                go_wp2_with fail
                go_quiet (fail)
                go_wp2_with fail
                go_roundw
                case rel => exact ⟨k + 1, G, by omega, by go_num, HS5.out.below (Drawn.below _ ((Drawn.refl _).drewN _)), HR.out, Below.drewN HB.out _⟩
                case measure => simp [intOf]; omega
            · have hd : decide (0 ≤ x) = false := decide_eq_false hx0
              clear oF
              go_wp2_with fail
              go_quiet (fail)
              go_wp2_with fail
              go_roundw
              case rel => exact ⟨k + 1, G, by omega, by go_num, HS5.out.below (Drawn.below _ ((Drawn.refl _).drewN _)), HR.out, Below.drewN HB.out _⟩
              case measure => simp [intOf]; omega
          · obtain rfl : k = row.length := by omega
            have hls := hR.left_le
            have HS := Lib.hid hS
            have HR := Lib.hid hR
            have HB := Lib.hid hb
            clear hS hR hb
            go_wp2_with fail
            go_loopw [17] (fun i wx => ∃ (r : Nat) (G : Nat → Int), r ≤ 2049 ∧ i = .int .i64 r ∧ St wx B3 s rs.length ars G ∧ Reach ars rs.length rs G ∧ leftSum rs.length (leftF rs G) + r ≤ 2048 ∧ Below B3 W7 wx) (fun i _ => 2049 - (intOf i).toNat)
            case atStart => exact ⟨0, G, by omega, rfl, HS.out, HR.out, by omega, HB.out⟩
            case round =>
              clear HS HR HB hls
              obtain ⟨r, F0, hr, rfl, hS, hR, hsum2, hb⟩ := hrel
              have hr2 : (r : Int) ≤ 2048 := by omega
              have hsz := hb.size
              go_wp2_with fail
              refine (fired_any rs.length ars F0 B3 s wr HN.out hS).mono ?_
              rintro e w2 ⟨AF, cF, rfl, oF, bF⟩
              obtain ⟨gF, rfl⟩ := own_addr oF hpos
              have hgt := (hS.tok.lt s.gt rfl).2
              have hgf := (hS.fir.lt s.gf rfl).2
              have hP0 : GoP W7 B3 wr.heap.size s rs.length ars F0 F0 gF cF w2 := ⟨hb.trans ⟨bF.os, bF.tape, bF.output, bF.size, fun k hk => bF.block k (by omega)⟩, hS.below bF, oF, hgt, hgf, bF.size, by have := bF.size; omega⟩
              obtain ⟨zr, hzr⟩ : ∃ zr, wr.heap.size = zr := ⟨_, rfl⟩
              rw [hzr] at hP0
              have HP0 := Lib.hid hP0
              clear hS oF bF hP0 hgt hgf
              go_wp2_with fail
              clear hzr
              go_loopw [19, 20] (fun a i wx => ∃ (k : Nat) (G : Nat → Int) (b : Bool), k ≤ rs.length ∧ i = .int .i64 k ∧ a = .bool b ∧ GoP W7 B3 zr s rs.length ars F0 G gF cF wx ∧ Reach ars rs.length rs G ∧ Hid (∀ j, k ≤ j → G j = F0 j) ∧ Hid (b = false → G = F0 ∧ ∀ j, j < k → 0 < leftF rs F0 j → mayB ars rs.length F0 j = false) ∧ Hid (b = true → leftSum rs.length (leftF rs G) < leftSum rs.length (leftF rs F0))) (fun _ i _ => rs.length - (intOf i).toNat)
              case atStart => exact ⟨0, F0, false, by omega, rfl, rfl, HP0.out, hR, fun _ _ => rfl, fun _ => ⟨rfl, fun j hj => by omega⟩, fun h => by cases h⟩
              case round =>
                clear HP0
                obtain ⟨k, G, b, hk', rfl, rfl, P, hRG, hfar, hf, ht⟩ := hrel
                have n0 := (HS7.out.below P.bel).kn.cell 0
                simp only [List.getElem?_toArray, List.getElem?_cons_zero] at n0
                by_cases hk : k < rs.length
                · have hkr : k < rs.length := hk
                  have hGk := hfar.out k (Nat.le_refl _)
                  have hfar2 : ∀ j, k + 1 ≤ j → G j = F0 j := fun j hj => hfar.out j (by omega)
                  have h1 : (0 : Int) ≤ (k : Int) := by omega
                  have h2 : (k : Int) < (rs.length : Int) := by omega
                  by_cases hlv : F0 k < repAt rs k
                  · have HG1 : Hid (∀ j, j < rs.length → 0 ≤ G j ∧ G j + (1 : Nat) ≤ 1000000) := fun j hj => by
                      have q1 := hRG.nonneg j
                      have q2 := hRG.le_reps (fun v hv => by have := repAt_lt Hall.out (f := v) (by omega); omega) j hj
                      have q3 := repAt_lt Hall.out (f := j) (by omega)
                      omega
                    have HTB := HTB7
                    have HP := Lib.hid P
                    have Hfar2 := Lib.hid hfar2
                    have HGk := Lib.hid hGk
                    clear P hfar2 hGk
                    go_wp2_with fail
                    have hI0 : ∀ V, GoI W7 B3 zr s rs.length ars F0 G rs gF cF gb bR oR cr k (fun _ => false) V wr.drew := fun V => by
                      have h0 := HP.out.below (Drawn.below _ ((Drawn.refl wr).drewN 1))
                      constructor
                      all_goals first
                        | exact fun _ => h0
                        | (intro h; cases h)
                    refine wp_region_put3 [193, 194, 195, 196, 197, 198, 199, 200, 201, 202, 203, 204, 205, 206, 207, 208, 209] (GoI W7 B3 zr s rs.length ars F0 G rs gF cF gb bR oR cr k) (by kernel_rfl) (by kernel_rfl) ?_ ?_ ?_
                    · exact hI0 _
                    · intro i o ho L V w1 hi hL hno h K hK
                      rcases i with _ | _ | _ | _ | _ | _ | _ | _ | _ | _ | _ | _ | _ | _ | _ | _ | _ | i
                      · replace ho := Option.some.inj ho
                        subst ho
                        simp only [putAll, List.foldl_cons, List.foldl_nil, List.setIfInBounds_toArray, List.set_cons_zero, List.set_cons_succ]
                        clear hL hno
                        go_simp
                        refine hK (updV V 193 (.slice (some ⟨gF, 0, none⟩) rs.length cF)) _ _ (by simp [putAll, updV]) ?_
                        exact { h with e0 := fun _ => rfl }
                      · replace ho := Option.some.inj ho
                        subst ho
                        simp only [putAll, List.foldl_cons, List.foldl_nil, List.setIfInBounds_toArray, List.set_cons_zero, List.set_cons_succ]
                        clear hL hno
                        go_simp
                        refine hK (updV V 194 (.int .i64 k)) _ _ (by simp [putAll, updV]) ?_
                        exact { h with e1 := fun _ => rfl }
                      · replace ho := Option.some.inj ho
                        subst ho
                        simp only [putAll, List.foldl_cons, List.foldl_nil, List.setIfInBounds_toArray, List.set_cons_zero, List.set_cons_succ]
                        have e0 : V 193 = _ := h.e0 (hL ⟨0, .data⟩ (by simp) rfl)
                        have e1 : V 194 = _ := h.e1 (hL ⟨1, .data⟩ (by simp) rfl)
                        clear hL hno
                        go_simp
                        refine hK (updV V 195 (.pointer (some ⟨gF, k, none⟩))) _ _ (by simp [putAll, updV, e0, e1]) ?_
                        exact { h with e2 := fun _ => rfl }
                      · replace ho := Option.some.inj ho
                        subst ho
                        simp only [putAll, List.foldl_cons, List.foldl_nil, List.setIfInBounds_toArray, List.set_cons_zero, List.set_cons_succ]
                        have e2 : V 195 = _ := h.e2 (hL ⟨2, .data⟩ (by simp) rfl)
                        have l14 : L 14 = false := hno 14 (by kernel_rfl)
                        have P := h.p0 l14
                        have ct := own_firCell P.frow hk
                        clear hL hno
                        go_simp
                        refine hK (updV V 196 (.int .i64 (F0 k))) _ _ (by simp [putAll, updV, e2]) ?_
                        exact { h with e3 := fun _ => rfl }
                      · replace ho := Option.some.inj ho
                        subst ho
                        simp only [putAll, List.foldl_cons, List.foldl_nil, List.setIfInBounds_toArray, List.set_cons_zero, List.set_cons_succ]
                        clear hL hno
                        go_simp
                        refine hK (updV V 197 (.pointer (some ⟨gb, 1, none⟩))) _ _ (by simp [putAll, updV]) ?_
                        exact { h with e4 := fun _ => rfl }
                      · replace ho := Option.some.inj ho
                        subst ho
                        simp only [putAll, List.foldl_cons, List.foldl_nil, List.setIfInBounds_toArray, List.set_cons_zero, List.set_cons_succ]
                        have e4 : V 197 = _ := h.e4 (hL ⟨4, .data⟩ (by simp) rfl)
                        have l14 : L 14 = false := hno 14 (by kernel_rfl)
                        have P := h.p0 l14
                        have ct := (HTB.out.below P.bel).kb.cell 1
                        simp only [List.getElem?_toArray, List.getElem?_cons_zero, List.getElem?_cons_succ] at ct
                        clear hL hno
                        go_simp
                        refine hK (updV V 198 (.slice (some ⟨bR, oR, none⟩) rs.length cr)) _ _ (by simp [putAll, updV, e4]) ?_
                        exact { h with e5 := fun _ => rfl }
                      · replace ho := Option.some.inj ho
                        subst ho
                        simp only [putAll, List.foldl_cons, List.foldl_nil, List.setIfInBounds_toArray, List.set_cons_zero, List.set_cons_succ]
                        clear hL hno
                        go_simp
                        refine hK (updV V 199 (.int .i64 k)) _ _ (by simp [putAll, updV]) ?_
                        exact { h with e6 := fun _ => rfl }
                      · replace ho := Option.some.inj ho
                        subst ho
                        simp only [putAll, List.foldl_cons, List.foldl_nil, List.setIfInBounds_toArray, List.set_cons_zero, List.set_cons_succ]
                        have e5 : V 198 = _ := h.e5 (hL ⟨5, .data⟩ (by simp) rfl)
                        have e6 : V 199 = _ := h.e6 (hL ⟨6, .data⟩ (by simp) rfl)
                        clear hL hno
                        go_simp
                        refine hK (updV V 200 (.pointer (some ⟨bR, oR + k, none⟩))) _ _ (by simp [putAll, updV, e5, e6]) ?_
                        exact { h with e7 := fun _ => rfl }
                      · replace ho := Option.some.inj ho
                        subst ho
                        simp only [putAll, List.foldl_cons, List.foldl_nil, List.setIfInBounds_toArray, List.set_cons_zero, List.set_cons_succ]
                        have e7 : V 200 = _ := h.e7 (hL ⟨7, .data⟩ (by simp) rfl)
                        have l14 : L 14 = false := hno 14 (by kernel_rfl)
                        have P := h.p0 l14
                        have ct := rd_repAt ((HTB.out.below P.bel).rR) hkr
                        clear hL hno
                        go_simp
                        refine hK (updV V 201 (.int .i64 (repAt rs k))) _ _ (by simp [putAll, updV, e7]) ?_
                        exact { h with e8 := fun _ => rfl }
                      · replace ho := Option.some.inj ho
                        subst ho
                        simp only [putAll, List.foldl_cons, List.foldl_nil, List.setIfInBounds_toArray, List.set_cons_zero, List.set_cons_succ]
                        have e3 : V 196 = _ := h.e3 (hL ⟨3, .data⟩ (by simp) rfl)
                        have e8 : V 201 = _ := h.e8 (hL ⟨8, .data⟩ (by simp) rfl)
                        have hlt := hlv
                        clear hL hno
                        go_simp
                        refine hK (updV V 202 (.bool true)) _ _ (by simp [putAll, updV, e3, e8]) ?_
                        exact { h with e9 := fun _ => rfl }
                      · replace ho := Option.some.inj ho
                        subst ho
                        simp only [putAll, List.foldl_cons, List.foldl_nil, List.setIfInBounds_toArray, List.set_cons_zero, List.set_cons_succ]
                        have e9 : V 202 = _ := h.e9 (hL ⟨9, .data⟩ (by simp) rfl)
                        clear hL hno
                        go_simp
                        refine hK (updV V 203 (.bool true)) _ _ (by simp [putAll, updV, e9]) ?_
                        exact { h with e10 := fun _ => rfl }
                      · replace ho := Option.some.inj ho
                        subst ho
                        have e10 : V 203 = _ := h.e10 (hL ⟨10, .guard⟩ (by simp) rfl)
                        clear hL hno
                        simp only [putAll, List.foldl_cons, List.foldl_nil, List.setIfInBounds_toArray, List.set_cons_zero, List.set_cons_succ]
                        go_simp
                        refine hK (updV V 204 (.pointer (some ⟨s.gs, 0, none⟩))) _ _ (by simp [putAll, updV, e10]) ?_
                        exact { h with e11 := fun _ => rfl }
                      · replace ho := Option.some.inj ho
                        subst ho
                        have e10 : V 203 = _ := h.e10 (hL ⟨10, .guard⟩ (by simp) rfl)
                        clear hL hno
                        simp only [putAll, List.foldl_cons, List.foldl_nil, List.setIfInBounds_toArray, List.set_cons_zero, List.set_cons_succ]
                        go_simp
                        refine hK (updV V 205 (.int .i64 k)) _ _ (by simp [putAll, updV, e10]) ?_
                        exact { h with e12 := fun _ => rfl }
                      · replace ho := Option.some.inj ho
                        subst ho
                        have e10 : V 203 = _ := h.e10 (hL ⟨10, .guard⟩ (by simp) rfl)
                        have e12 : V 205 = _ := h.e12 (hL ⟨12, .data⟩ (by simp) rfl)
                        have l14 : L 14 = false := hno 14 (by kernel_rfl)
                        clear hL hno
                        simp only [putAll, List.foldl_cons, List.foldl_nil, List.setIfInBounds_toArray, List.set_cons_zero, List.set_cons_succ]
                        have hb := (Below.refl w1.heap.size w1).alloc (Nat.le_refl _) (.cells #[.int .i64 k] 3)
                        have hnew := rd_alloc w1 _ rfl 3 [Value.int .i64 k]
                        go_simp
                        refine hK (updV V 206 (.slice (some ⟨w1.heap.size, 0, none⟩) 1 1)) _ _ (by simp [putAll, updV, e10, e12]) ?_
                        exact { h with
                          p0 := fun h14 => (h.p0 h14).below hb
                          p1 := fun h14 => (by cases (h14.symm.trans l14))
                          b := fun _ _ => ⟨rfl, hnew.more (by simp), (h.p0 l14).zle⟩ }
                      · replace ho := Option.some.inj ho
                        subst ho
                        have e10 : V 203 = _ := h.e10 (hL ⟨10, .guard⟩ (by simp) rfl)
                        have e11 : V 204 = _ := h.e11 (hL ⟨11, .data⟩ (by simp) rfl)
                        have l13 : L 13 = true := hL ⟨13, .data⟩ (by simp) rfl
                        have l14 : L 14 = false := hi
                        have hq := h.b l13 l14
                        generalize gbOf (V 206) = gB at hq
                        have e13 : V 206 = _ := hq.1
                        have hrb := hq.2.1
                        have hgb := hq.2.2
                        clear hq
                        clear hL hno
                        simp only [putAll, List.foldl_cons, List.foldl_nil, List.setIfInBounds_toArray, List.set_cons_zero, List.set_cons_succ]
                        have P := h.p0 hi
                        have hgt := P.zgt
                        have hgf := P.zgf
                        go_simp
                        refine (fire_any [(k : Int)] (some ⟨gB, 0, none⟩) 1 1 rs.length ars G B3 s w1 rfl (fun x hx => by simp at hx; subst hx; unfold fits; omega) hrb (by simp only [blkOf]; intro hc; injection hc with hc; omega) (by simp only [blkOf]; intro hc; injection hc with hc; omega) HN.out HG1.out P.st).mono ?_
                        rintro e w3 ⟨rfl, hS, hO⟩
                        refine hK (updV V 207 (.int .i64 (fireN ars rs.length G [(k : Int)] : Nat))) _ _ (by simp [putAll, updV, e10, e11, e13]) ?_
                        exact { h with
                          p0 := fun hn => (by cases hn)
                          p1 := fun _ => ⟨rfl, P.fire hO hS⟩
                          b := fun _ hn => (by cases hn) }
                      · replace ho := Option.some.inj ho
                        subst ho
                        have e10 : V 203 = _ := h.e10 (hL ⟨10, .guard⟩ (by simp) rfl)
                        have e14 : V 207 = _ := (h.p1 (hL ⟨14, .data⟩ (by simp) rfl)).1
                        clear hL hno
                        simp only [putAll, List.foldl_cons, List.foldl_nil, List.setIfInBounds_toArray, List.set_cons_zero, List.set_cons_succ]
                        go_simp
                        refine hK (updV V 208 (.bool (decide (fireN ars rs.length G [(k : Int)] = 1)))) _ _ (by simp [putAll, updV, e10, e14]; exact one_dec _) ?_
                        exact { h with e15 := fun _ => rfl }
                      · replace ho := Option.some.inj ho
                        subst ho
                        have e10 : V 203 = _ := h.e10 (hL ⟨10, .data⟩ (by simp) rfl)
                        have e15 : V 208 = _ := h.e15 (hL ⟨15, .data⟩ (by simp) rfl)
                        clear hL hno
                        simp only [putAll, List.foldl_cons, List.foldl_nil, List.setIfInBounds_toArray, List.set_cons_zero, List.set_cons_succ]
                        go_simp
                        refine hK (updV V 209 (.bool (decide (fireN ars rs.length G [(k : Int)] = 1)))) _ _ (by simp [putAll, updV, e10, e15]) ?_
                        exact { h with e16 := fun _ => rfl }
                      · simp at ho
                    · clear hI0
                      intro L V w6 hL h
                      obtain ⟨-, hP6⟩ := h.p1 (hL 14 (by simp))
                      have e16 := h.e16 (hL 16 (by simp))
                      simp only [putAll, List.foldl_cons, List.foldl_nil, List.setIfInBounds_toArray, List.set_cons_zero, List.set_cons_succ, e16]
                      clear h hL HP n0
                      have hfar2 := Hfar2.out
                      have hGk := HGk.out
                      rcases fire_cases (ars := ars) (n := rs.length) (v := k) (F := G) with ⟨hm, hn1, hf1⟩ | ⟨hm, hn1, hf1⟩
                      · rw [hf1] at hP6
                        rw [hn1]
                        have hlG : 0 < leftF rs G k := by unfold leftF; omega
                        have hR2 : Reach ars rs.length rs (bump G k) := .step hRG hlG hm
                        have hls := leftSum_upd (leftF rs G) k rs.length hk hlG
                        rw [← left_bump] at hls
                        have hle : leftSum rs.length (leftF rs G) ≤ leftSum rs.length (leftF rs F0) := by
                          cases b with
                          | false => rw [(hf.out rfl).1]; exact Nat.le_refl _
                          | true => have := ht.out rfl; omega
                        have hP7 := Lib.hid hP6
                        clear hP6
                        go_wp2_with fail
                        refine ⟨⟨k + 1, bump G k, true, by omega, by go_num, rfl, hP7.out, hR2, fun j hj => ?_, fun h => (by cases h), fun _ => by omega⟩, by simp [intOf]; omega⟩
                        unfold bump
                        rw [upd_other (by omega)]
                        exact hfar2 j hj
                      · rw [hf1] at hP6
                        rw [hn1]
                        have hP7 := Lib.hid hP6
                        clear hP6
                        go_wp2_with fail
                        refine ⟨⟨k + 1, G, b, by omega, by go_num, rfl, hP7.out, hRG, hfar2, fun hb0 => ?_, ht.out⟩, by simp [intOf]; omega⟩
                        obtain ⟨e1, e2⟩ := hf.out hb0
                        refine ⟨e1, fun j hj hl => ?_⟩
                        by_cases hjk : j = k
                        · subst hjk; rw [← e1]; exact hm
                        · exact e2 j (by omega) hl
                  · have hd : decide (F0 k < repAt rs k) = false := decide_eq_false hlv
                    have hct := own_firCell P.frow hk
                    have TB := HTB7.out.below P.bel
                    have hcr := rd_repAt TB.rR hkr
                    have r1 := TB.kb.cell 1
                    simp only [List.getElem?_toArray, List.getElem?_cons_zero, List.getElem?_cons_succ] at r1
                    have HP := Lib.hid P
                    have hle : repAt rs k ≤ F0 k := by omega
                    clear P TB
                    go_wp2_with fail
                    go_quiet (fail)
                    go_wp2_with fail
                    refine ⟨⟨k + 1, G, b, by omega, by go_num, rfl, HP.out.below (Drawn.below _ ((Drawn.refl wr).drewN _)), hRG, hfar2, fun hb0 => ?_, ht.out⟩, by simp [intOf]; omega⟩
                    obtain ⟨e1, e2⟩ := hf.out hb0
                    refine ⟨e1, fun j hj hl => ?_⟩
                    by_cases hjk : j = k
                    · subst hjk; unfold leftF at hl; omega
                    · exact e2 j (by omega) hl
                · obtain rfl : k = rs.length := by omega
                  cases b with
                  | true =>
                    have h5 := ht.out rfl
                    have HP := Lib.hid P
                    clear P
                    go_wp2_with fail
                    refine ⟨⟨r + 1, G, by omega, by go_num, HP.out.st, hRG, by omega, HP.out.bel⟩, by simp [intOf]; omega⟩
                  | false =>
                    obtain ⟨rfl, e2⟩ := hf.out rfl
                    have hfin : Final ars rs.length rs G := fun v hv hl => e2 v hv hl
                    have he := Hend.out G hRG hfin
                    have hff : AllFit (rowF G rs.length) := fun x hx => by
                      obtain ⟨j, hj, rfl⟩ := List.mem_map.1 hx
                      have hj := List.mem_range.1 hj
                      have q1 := hRG.nonneg j
                      have q2 := hRG.le_reps (fun v hv => by have := repAt_lt Hall.out (f := v) (by omega); omega) j hj
                      have q3 := repAt_lt Hall.out (f := j) (by omega)
                      unfold fits; omega
                    have Hff := Lib.hid hff
                    have He := Lib.hid he
                    have HRG := Lib.hid hRG
                    have HP := Lib.hid P
                    have HTB := HTB7
                    clear hfin e2 hf ht hfar he hRG P hff hR
                    go_wp2_with fail
                    clear n0
                    have hI0 : ∀ V, WhI W7 B3 s rs.length ars G rs gb bR oR cr (fun _ => false) V wr.drew := fun V => by
                      have h0 := HP.out.below (Drawn.below _ ((Drawn.refl wr).drewN 1))
                      constructor
                      all_goals first
                        | exact h0.bel
                        | exact h0.st
                        | exact h0.ble
                        | (intro h; cases h)
                    refine wp_region_put3 [212, 213, 214, 215, 216, 21] (WhI W7 B3 s rs.length ars G rs gb bR oR cr) (by kernel_rfl) (by kernel_rfl) ?_ ?_ ?_
                    · exact hI0 _
                    · intro i o ho L V w1 hi hL hno h K hK
                      rcases i with _ | _ | _ | _ | _ | _ | i
                      · replace ho := Option.some.inj ho
                        subst ho
                        simp only [putAll, List.foldl_cons, List.foldl_nil, List.setIfInBounds_toArray, List.set_cons_zero, List.set_cons_succ]
                        clear hL hno
                        go_simp
                        refine hK (updV V 212 (.pointer (some ⟨s.gs, 0, none⟩))) _ _ (by simp [putAll, updV]) ?_
                        exact { h with e0 := fun _ => rfl }
                      · replace ho := Option.some.inj ho
                        subst ho
                        have e0 : V 212 = _ := h.e0 (hL ⟨0, .data⟩ (by simp) rfl)
                        clear hL hno
                        simp only [putAll, List.foldl_cons, List.foldl_nil, List.setIfInBounds_toArray, List.set_cons_zero, List.set_cons_succ]
                        go_simp
                        refine (fired_any rs.length ars G B3 s w1 HN.out h.st).mono ?_
                        rintro e w3 ⟨A3, c3, rfl, o3, b3⟩
                        refine hK (updV V 213 (.slice A3 rs.length c3)) _ _ (by simp [putAll, updV, e0]) ?_
                        exact { h.below b3 with
                          c := fun _ => ⟨rfl, rd_of_own o3⟩ }
                      · replace ho := Option.some.inj ho
                        subst ho
                        simp only [putAll, List.foldl_cons, List.foldl_nil, List.setIfInBounds_toArray, List.set_cons_zero, List.set_cons_succ]
                        clear hL hno
                        go_simp
                        refine hK (updV V 214 (.pointer (some ⟨gb, 1, none⟩))) _ _ (by simp [putAll, updV]) ?_
                        exact { h with e2 := fun _ => rfl }
                      · replace ho := Option.some.inj ho
                        subst ho
                        simp only [putAll, List.foldl_cons, List.foldl_nil, List.setIfInBounds_toArray, List.set_cons_zero, List.set_cons_succ]
                        have e2 : V 214 = _ := h.e2 (hL ⟨2, .data⟩ (by simp) rfl)
                        have ct := (HTB.out.below h.bel).kb.cell 1
                        simp only [List.getElem?_toArray, List.getElem?_cons_zero, List.getElem?_cons_succ] at ct
                        clear hL hno
                        go_simp
                        refine hK (updV V 215 (.slice (some ⟨bR, oR, none⟩) rs.length cr)) _ _ (by simp [putAll, updV, e2]) ?_
                        exact { h with e3 := fun _ => rfl }
                      · replace ho := Option.some.inj ho
                        subst ho
                        have e3 : V 215 = _ := h.e3 (hL ⟨3, .data⟩ (by simp) rfl)
                        have hc := h.c (hL ⟨1, .data⟩ (by simp) rfl)
                        generalize sAddr (V 213) = A3 at hc
                        generalize sCap (V 213) = c3 at hc
                        have e1 : V 213 = _ := hc.1
                        have hcr := hc.2
                        clear hL hno hc
                        simp only [putAll, List.foldl_cons, List.foldl_nil, List.setIfInBounds_toArray, List.set_cons_zero, List.set_cons_succ]
                        have hrr := (HTB.out.below h.bel).rR
                        go_simp
                        refine (sameInts_any (rowF G rs.length) rs A3 (some ⟨bR, oR, none⟩) rs.length rs.length c3 cr _ _ w1 (rowF_length _ _) rfl Hff.out Hfr.out hcr hrr Hmr.out).mono ?_
                        rintro e w3 ⟨rfl, d3⟩
                        refine hK (updV V 216 (.bool (decide (rowF G rs.length = rs)))) _ _ (by simp [putAll, updV, e1, e3]) ?_
                        exact { h.below (d3.below _) with
                          e4 := fun _ => rfl }
                      · replace ho := Option.some.inj ho
                        subst ho
                        simp only [putAll, List.foldl_cons, List.foldl_nil, List.setIfInBounds_toArray, List.set_cons_zero, List.set_cons_succ]
                        have e4 : V 216 = _ := h.e4 (hL ⟨4, .data⟩ (by simp) rfl)
                        clear hL hno
                        go_simp
                        refine hK (updV V 21 (.bool (decide (rowF G rs.length = rs)))) _ _ (by simp [putAll, updV, e4]) ?_
                        exact { h with e5 := fun _ => rfl }
                      · simp at ho
                    · clear hI0
                      intro L V w6 hL h
                      have e5 := h.e5 (hL 5 (by simp))
                      simp only [putAll, List.foldl_cons, List.foldl_nil, List.setIfInBounds_toArray, List.set_cons_zero, List.set_cons_succ, e5]
                      have hbel := h.bel
                      have hst6 := h.st
                      have hz6a := h.ble
                      clear h hL HP
                      have hz6b : B ≤ w6.heap.size := by omega
                      have HB6 := Lib.hid (HB7.out.trans (hbel.mono hz7))
                      have TS6 := HS7.out.below hbel
                      have TP6 := HTP7.out.below hbel
                      have TB6 := HTB7.out.below hbel
                      have Hbel := Lib.hid hbel
                      have Hst6 := Lib.hid hst6
                      obtain ⟨bb, hbb⟩ : ∃ bb, decide (rowF G rs.length = rs) = bb := ⟨_, rfl⟩
                      rw [hbb]
                      clear hbel hst6
                      cases bb with
                      | false =>
                        have h0 : a1.2 ≠ [] := fun hc => of_decide_eq_false hbb (He.out.2 hc)
                        have hhome := home_blocks He1.out (by rw [Ha1.out]; exact h0)
                        rw [Ha1.out] at hhome
                        obtain ⟨F, vs, hFv, hV, hlt⟩ := hhome
                        subst hFv
                        obtain ⟨m1, hvl⟩ : ∃ m, vs.length = m := ⟨_, rfl⟩
                        have TP : TpP B3 w6 gp Al cl As cs [] (vs.map (blkN ars F)) := TP6
                        have p0 := TP.kp.cell 0
                        have p1 := TP.kp.cell 1
                        have n0 := TS6.kn.cell 0
                        have n1 := TS6.kn.cell 1
                        simp only [List.getElem?_toArray, List.getElem?_cons_zero, List.getElem?_cons_succ, List.length_nil, List.length_map, hvl] at p0 p1 n0 n1
                        have hmi : (0 : Int) < (m1 : Int) := by have := hV.ne; omega
                        have HCF := Lib.hid (confirm_yes rs.length ars A c F vs As m1 cs w6 hvl Hck.out HN.out (TS6.rA.more hz6a) (TP.rs.more hz6a) hV)
                        have HT6 := Lib.hid TS6
                        clear h0 hbb hV hlt hvl TP TP6 TB6 TS6 hst hpos
                        go_wp2_with fail
                        refine HCF.out.mono ?_
                        rintro e w7 ⟨rfl, hb7⟩
                        have HB8 := Lib.hid (HB6.out.trans (hb7.mono hz6b))
                        have HS8 := Lib.hid (HT6.out.below (hb7.mono hz6a))
                        have hz8 : B ≤ w7.heap.size := by have := hb7.size; omega
                        clear hb7 HCF p0 p1 n0 n1
                        go_wp2_with fail
                        refine (awake15_any w7 HS8.out.tab).mono ?_
                        rintro e w9 ⟨rfl, hb9⟩
                        have B9 := Lib.hid (HB8.out.trans (hb9.mono hz8))
                        clear hb9
                        go_wp2_with fail
                        go_ret
                        exact ⟨rfl, HBB.out.symm ▸ B9.out⟩
                      | true =>
                        have hw0 := of_decide_eq_true hbb
                        have h0 : a1.2 = [] := He.out.1 hw0
                        have hhome := home_list He1.out (by rw [Ha1.out]; exact h0)
                        rw [Ha1.out] at hhome
                        obtain ⟨hfire, hcnt, hnod, hlp, hlm⟩ := hhome
                        obtain ⟨xs, hxs⟩ : ∃ xs, a1.1 = xs := ⟨_, rfl⟩
                        have TP : TpP B3 w6 gp Al cl As cs a1.1 a1.2 := TP6
                        rw [hxs, h0] at TP
                        rw [hxs] at hfire hcnt hnod hlp hlm
                        have hfx := fit_nodes n32 hnod
                        clear TP6
                        obtain ⟨bl, ol, x1, rfl, hbl0, -, -, -, -⟩ := TP.rl.at_ hfx (k := 0) hlp
                        have hGw := whole_G rfl HRG.out.far hw0
                        have p0 := TP.kp.cell 0
                        have p1 := TP.kp.cell 1
                        have n0 := TS6.kn.cell 0
                        simp only [List.getElem?_toArray, List.getElem?_cons_zero, List.getElem?_cons_succ, List.length_nil] at p0 p1 n0
                        have HTL := Lib.hid (tally_any rs.length xs (some ⟨bl, ol, none⟩) xs.length cl w6 n32 rfl hfx (TP.rl.more hz6a) (by omega))
                        rw [goodP_all hnod, hcnt, hnod] at HTL
                        have HTP6 := Lib.hid TP
                        have Hnod := Lib.hid hnod
                        have Hfire := Lib.hid hfire
                        have HGw := Lib.hid hGw
                        have Hfx := Lib.hid hfx
                        have Hlm := Lib.hid hlm
                        clear hw0 hbb h0 hxs hcnt hnod hfire hlp TP TB6 TS6 hGw hfx hlm hst
                        go_wp2_with fail
                        refine HTL.out.mono ?_
                        rintro e W10 ⟨gt1, rfl, hg1, ot1, hb10⟩
                        have hz10 : B3 ≤ W10.heap.size := by have := hb10.size; omega
                        have hz10b : B ≤ W10.heap.size := by omega
                        have hbl := Hbel.out.trans (hb10.mono hz6a)
                        have TS10 := (HS7.out.below hbl).more hz10 (Nat.le_refl _)
                        have TB10 := (HTB7.out.below hbl).more hz10
                        have TP10 := (HTP6.out.below (hb10.mono hz6a)).more hz10
                        have S10 := Hst6.out.below hb10
                        have rc10 := rd_of_own ot1
                        have HNW := Lib.hid (new_any_Sf rs.length A c ars W10 Hck.out HN.out TS10.rA)
                        have n0 := TS10.kn.cell 0
                        have n1 := TS10.kn.cell 1
                        simp only [List.getElem?_toArray, List.getElem?_cons_zero, List.getElem?_cons_succ] at n0 n1
                        have HB10 := Lib.hid (HB6.out.trans (hb10.mono hz6b))
                        have HS10 := Lib.hid TS10
                        have HTB10 := Lib.hid TB10
                        have HTP := Lib.hid TP10
                        have HST := Lib.hid (fun w' (hb : Below W10.heap.size W10 w') => S10.below hb)
                        have HRC := Lib.hid rc10
                        clear HTL p0 p1 TS10 TB10 TP10 S10 rc10 ot1 hb10 hg1 hbl
                        go_wp2_with fail
                        refine HNW.out.mono ?_
                        obtain ⟨B4, hB4⟩ : ∃ B4, W10.heap.size = B4 := ⟨_, rfl⟩
                        rw [hB4] at HS10 HTB10 HTP HST HRC hz10b hz10 ⊢
                        have hblz : bl < B4 := by omega
                        rintro e w11 ⟨s2, rfl, hS11, hb11, hgs2⟩
                        have r1 := (HTB10.out.below hb11).kb.cell 1
                        simp only [List.getElem?_toArray, List.getElem?_cons_zero, List.getElem?_cons_succ] at r1
                        have HSI := Lib.hid (sameInts_yes rs (some ⟨gt1, 0, none⟩) (some ⟨bR, oR, none⟩) rs.length rs.length cr _ _ w11 rfl Hfr.out (HRC.out.below hb11 (Nat.le_refl _)) (HTB10.out.below hb11).rR Hmr.out)
                        have hz11 : B4 ≤ w11.heap.size := by have := hb11.size; omega
                        have HS11 := Lib.hid hS11
                        have Hb11 := Lib.hid hb11
                        clear HNW n0 n1 hS11 hb11 hgs2 hB4
                        go_wp2_with fail
                        refine HSI.out.mono ?_
                        rintro e w12 ⟨rfl, d12⟩
                        have S12 := HS11.out.below (d12.below _)
                        have b12 := Hb11.out.trans (d12.below _)
                        have hz12 : B4 ≤ w12.heap.size := by have := (d12.below 0).size; omega
                        have hgt := (S12.tok.lt s2.gt rfl).2
                        have hgf := (S12.fir.lt s2.gf rfl).2
                        have HCT := Lib.hid (counts_any rs.length ars (fun _ => 0) B4 s2 w12 HN.out S12)
                        have HS12 := Lib.hid S12
                        have Hb12 := Lib.hid b12
                        clear HSI r1 d12 S12 b12
                        go_wp2_with fail
                        refine HCT.out.mono ?_
                        rintro e w13 ⟨AS, cS, rfl, oS, bS⟩
                        obtain ⟨zs, hzs⟩ : ∃ z, w12.heap.size = z := ⟨_, rfl⟩
                        have hbs := bS.size
                        have P13 : HoP W10 B4 w12.heap.size s2 rs.length ars AS cS (fun _ => 0) w13 := ⟨Hb12.out.trans (bS.mono hz12), HS12.out.below bS, oS, hgt, hgf, hbs, by omega⟩
                        rw [hzs] at P13
                        have hft : AllFit (rowF (tokI ars fun _ => 0) ars.length) := fun x hx => by
                          obtain ⟨i, hi, rfl⟩ := List.mem_map.1 hx
                          have hi := List.mem_range.1 hi
                          have := (HN.out.ok _ (arcAt_mem hi)).2.2.2.2.2.2.2.2
                          unfold tokI tokA fits
                          rw [Int.mul_zero, Int.mul_zero]
                          omega
                        obtain ⟨f1, f2⟩ := Hfire.out 0
                        obtain ⟨f3, f4⟩ := Hfire.out 1
                        rw [sh_zero] at f1 f2
                        have hT1 : rowF (tokI ars (shF_Hb rs 1 fun _ => 0)) ars.length = rowF (tokI ars fun _ => 0) ars.length := List.map_congr_left fun i hi => tok_shift HN.out Heven.out 1 _ (List.mem_range.1 hi)
                        have hT2 : rowF (tokI ars (shF_Hb rs 2 fun _ => 0)) ars.length = rowF (tokI ars fun _ => 0) ars.length := List.map_congr_left fun i hi => tok_shift HN.out Heven.out 2 _ (List.mem_range.1 hi)
                        have hGa : ∀ j, j < rs.length → 0 ≤ (fun _ => 0 : Nat → Int) j ∧ (fun _ => 0 : Nat → Int) j + (xs.length : Nat) ≤ 1000000 := fun j hj => by have := Hlm.out; simp only; omega
                        have hGb : ∀ j, j < rs.length → 0 ≤ shF_Hb rs 1 (fun _ => 0) j ∧ shF_Hb rs 1 (fun _ => 0) j + (xs.length : Nat) ≤ 1000000 := fun j hj => by
                          have hR := repAt_lt Hall.out hj
                          have := Hlm.out
                          show 0 ≤ ((1 : Nat) : Int) * repAt rs j + 0 ∧ ((1 : Nat) : Int) * repAt rs j + 0 + (xs.length : Nat) ≤ 1000000
                          omega
                        have hTG : rowF (tokI ars G) ars.length = rowF (tokI ars fun _ => 0) ars.length := by rw [HGw.out]; exact hT1
                        obtain ⟨G6, hG6⟩ : ∃ f, (shF_Hb rs (1 + 1) fun _ => 0) = f := ⟨_, rfl⟩
                        obtain ⟨G5, hG5⟩ : ∃ f, (shF_Hb rs 1 fun _ => 0) = f := ⟨_, rfl⟩
                        have hT2' : rowF (tokI ars (shF_Hb rs (1 + 1) fun _ => 0)) ars.length = rowF (tokI ars fun _ => 0) ars.length := hT2
                        have f2' : fireF ars rs.length (fun _ => 0) xs = shF_Hb rs 1 fun _ => 0 := f2
                        rw [hG6] at f4 hT2'
                        rw [hG5] at f2' f3 f4 hT1 hGb
                        have Hft := Lib.hid hft
                        have HFNa := Lib.hid f1
                        have HFFa := Lib.hid f2'
                        have HTa := Lib.hid hT1
                        have HGa := Lib.hid hGa
                        have HFNb := Lib.hid f3
                        have HFFb := Lib.hid f4
                        have HTb := Lib.hid hT2'
                        have HGb := Lib.hid hGb
                        have HTG := Lib.hid hTG
                        have HP := Lib.hid P13
                        clear HCT oS bS hbs hzs P13 hft f1 f2 f2' f3 f4 hT1 hT2 hT2' hGa hGb hTG hG5 hG6 hgt hgf
                        go_wp2_with fail
                        have hI0 : ∀ V, HoIa W10 B4 zs s2 rs.length ars AS cS (fun _ => 0) G5 gp bl ol xs.length cl (fun _ => false) V w13.drew := fun V => by
                          have h0 := HP.out.below (Drawn.below _ ((Drawn.refl w13).drewN 1))
                          constructor
                          all_goals first
                            | exact h0.bel
                            | exact fun _ => h0
                            | (intro h; cases h)
                        refine wp_region_put3 [275, 276, 277, 278, 279, 280, 281, 282, 283, 284, 285, 286, 287, 288, 27] (HoIa W10 B4 zs s2 rs.length ars AS cS (fun _ => 0) G5 gp bl ol xs.length cl) (by kernel_rfl) (by kernel_rfl) ?_ ?_ ?_
                        · exact hI0 _
                        · intro i o ho L V w1 hi hL hno h K hK
                          rcases i with _ | _ | _ | _ | _ | _ | _ | _ | _ | _ | _ | _ | _ | _ | _ | i
                          · replace ho := Option.some.inj ho
                            subst ho
                            simp only [putAll, List.foldl_cons, List.foldl_nil, List.setIfInBounds_toArray, List.set_cons_zero, List.set_cons_succ]
                            clear hL hno
                            go_simp
                            refine hK (updV V 275 (.pointer (some ⟨s2.gs, 0, none⟩))) _ _ (by simp [putAll, updV]) ?_
                            exact { h with e0 := fun _ => rfl }
                          · replace ho := Option.some.inj ho
                            subst ho
                            simp only [putAll, List.foldl_cons, List.foldl_nil, List.setIfInBounds_toArray, List.set_cons_zero, List.set_cons_succ]
                            clear hL hno
                            go_simp
                            refine hK (updV V 276 (.pointer (some ⟨gp, 0, none⟩))) _ _ (by simp [putAll, updV]) ?_
                            exact { h with e1 := fun _ => rfl }
                          · replace ho := Option.some.inj ho
                            subst ho
                            simp only [putAll, List.foldl_cons, List.foldl_nil, List.setIfInBounds_toArray, List.set_cons_zero, List.set_cons_succ]
                            have e1 : V 276 = _ := h.e1 (hL ⟨1, .data⟩ (by simp) rfl)
                            have hbl := h.bel
                            have ct := (HTP.out.below hbl).kp.cell 0
                            simp only [List.getElem?_toArray, List.getElem?_cons_zero] at ct
                            clear hL hno
                            go_simp
                            refine hK (updV V 277 (.slice (some ⟨bl, ol, none⟩) xs.length cl)) _ _ (by simp [putAll, updV, e1]) ?_
                            exact { h with e2 := fun _ => rfl }
                          · replace ho := Option.some.inj ho
                            subst ho
                            have e0 : V 275 = _ := h.e0 (hL ⟨0, .data⟩ (by simp) rfl)
                            have e2 : V 277 = _ := h.e2 (hL ⟨2, .data⟩ (by simp) rfl)
                            have P := h.p0 hi
                            have l10 : L 10 = false := hno 10 (by kernel_rfl)
                            have l8 : L 8 = false := hno 8 (by kernel_rfl)
                            clear hL hno
                            simp only [putAll, List.foldl_cons, List.foldl_nil, List.setIfInBounds_toArray, List.set_cons_zero, List.set_cons_succ]
                            have hrl := (HTP.out.below P.bel).rl
                            have q1 := (P.st.tok.lt s2.gt rfl).1
                            have q2 := (P.st.fir.lt s2.gf rfl).1
                            have q3 := P.ble
                            go_simp
                            refine (fire_any xs (some ⟨bl, ol, none⟩) xs.length cl rs.length ars (fun _ => 0) B4 s2 w1 rfl Hfx.out (hrl.more q3) (by simp only [blkOf]; intro hc; injection hc with hc; omega) (by simp only [blkOf]; intro hc; injection hc with hc; omega) HN.out HGa.out P.st).mono ?_
                            rintro e w3 ⟨rfl, hS, hO⟩
                            rw [HFNa.out]
                            rw [HFFa.out] at hS
                            have P2 := P.fire hO hS
                            refine hK (updV V 278 (.int .i64 (xs.length : Nat))) _ _ (by simp [putAll, updV, e0, e2]) ?_
                            exact { h with
                              bel := P2.bel
                              p0 := fun hn => (by cases hn)
                              p1 := fun _ => P2
                              e3 := fun _ => rfl
                              e8b := fun hn => (by cases (hn.symm.trans l8))
                              c := fun hn => (by cases (hn.symm.trans l10)) }
                          · replace ho := Option.some.inj ho
                            subst ho
                            simp only [putAll, List.foldl_cons, List.foldl_nil, List.setIfInBounds_toArray, List.set_cons_zero, List.set_cons_succ]
                            clear hL hno
                            go_simp
                            refine hK (updV V 279 (.pointer (some ⟨gp, 0, none⟩))) _ _ (by simp [putAll, updV]) ?_
                            exact { h with e4 := fun _ => rfl }
                          · replace ho := Option.some.inj ho
                            subst ho
                            simp only [putAll, List.foldl_cons, List.foldl_nil, List.setIfInBounds_toArray, List.set_cons_zero, List.set_cons_succ]
                            have e4 : V 279 = _ := h.e4 (hL ⟨4, .data⟩ (by simp) rfl)
                            have hbl := h.bel
                            have ct := (HTP.out.below hbl).kp.cell 0
                            simp only [List.getElem?_toArray, List.getElem?_cons_zero] at ct
                            clear hL hno
                            go_simp
                            refine hK (updV V 280 (.slice (some ⟨bl, ol, none⟩) xs.length cl)) _ _ (by simp [putAll, updV, e4]) ?_
                            exact { h with e5 := fun _ => rfl }
                          · replace ho := Option.some.inj ho
                            subst ho
                            simp only [putAll, List.foldl_cons, List.foldl_nil, List.setIfInBounds_toArray, List.set_cons_zero, List.set_cons_succ]
                            have e5 : V 280 = _ := h.e5 (hL ⟨5, .data⟩ (by simp) rfl)
                            clear hL hno
                            go_simp
                            refine hK (updV V 281 (.int .i64 (xs.length : Nat))) _ _ (by simp [putAll, updV, e5]) ?_
                            exact { h with e6 := fun _ => rfl }
                          · replace ho := Option.some.inj ho
                            subst ho
                            simp only [putAll, List.foldl_cons, List.foldl_nil, List.setIfInBounds_toArray, List.set_cons_zero, List.set_cons_succ]
                            have e3 : V 278 = _ := h.e3 (hL ⟨3, .data⟩ (by simp) rfl)
                            have e6 : V 281 = _ := h.e6 (hL ⟨6, .data⟩ (by simp) rfl)
                            clear hL hno
                            go_simp
                            refine hK (updV V 282 (.bool true)) _ _ (by simp [putAll, updV, e3, e6]) ?_
                            exact { h with e7 := fun _ => rfl }
                          · replace ho := Option.some.inj ho
                            subst ho
                            simp only [putAll, List.foldl_cons, List.foldl_nil, List.setIfInBounds_toArray, List.set_cons_zero, List.set_cons_succ]
                            have e7 : V 282 = _ := h.e7 (hL ⟨7, .data⟩ (by simp) rfl)
                            have l3 : L 3 = true := hL ⟨3, .chain⟩ (by simp) rfl
                            clear hL hno
                            go_simp
                            refine hK (updV V 283 (.bool true)) _ _ (by simp [putAll, updV, e7]) ?_
                            exact { h with e8 := fun _ => rfl, e8b := fun _ => l3 }
                          · replace ho := Option.some.inj ho
                            subst ho
                            simp only [putAll, List.foldl_cons, List.foldl_nil, List.setIfInBounds_toArray, List.set_cons_zero, List.set_cons_succ]
                            have e8 : V 283 = _ := h.e8 (hL ⟨8, .guard⟩ (by simp) rfl)
                            clear hL hno
                            go_simp
                            refine hK (updV V 284 (.pointer (some ⟨s2.gs, 0, none⟩))) _ _ (by simp [putAll, updV, e8]) ?_
                            exact { h with e9 := fun _ => rfl }
                          · replace ho := Option.some.inj ho
                            subst ho
                            have e8 : V 283 = _ := h.e8 (hL ⟨8, .guard⟩ (by simp) rfl)
                            have e9 : V 284 = _ := h.e9 (hL ⟨9, .data⟩ (by simp) rfl)
                            have l3 : L 3 = true := h.e8b (hL ⟨8, .guard⟩ (by simp) rfl)
                            have P := h.p1 l3
                            clear hL hno
                            simp only [putAll, List.foldl_cons, List.foldl_nil, List.setIfInBounds_toArray, List.set_cons_zero, List.set_cons_succ]
                            go_simp
                            refine (counts_any rs.length ars G5 B4 s2 w1 HN.out P.st).mono ?_
                            rintro e w3 ⟨A3, c3, rfl, o3, b3⟩
                            rw [HTa.out] at o3
                            have P2 := P.below b3
                            refine hK (updV V 285 (.slice A3 ars.length c3)) _ _ (by simp [putAll, updV, e8, e9]) ?_
                            exact { h with
                              bel := P2.bel
                              p0 := fun hn => (by cases (hn.symm.trans l3))
                              p1 := fun _ => P2
                              c := fun _ => ⟨rfl, rd_of_own o3⟩ }
                          · replace ho := Option.some.inj ho
                            subst ho
                            simp only [putAll, List.foldl_cons, List.foldl_nil, List.setIfInBounds_toArray, List.set_cons_zero, List.set_cons_succ]
                            have e8 : V 283 = _ := h.e8 (hL ⟨8, .guard⟩ (by simp) rfl)
                            clear hL hno
                            go_simp
                            refine hK (updV V 286 (.slice AS ars.length cS)) _ _ (by simp [putAll, updV, e8]) ?_
                            exact { h with e11 := fun _ => rfl }
                          · replace ho := Option.some.inj ho
                            subst ho
                            have e8 : V 283 = _ := h.e8 (hL ⟨8, .guard⟩ (by simp) rfl)
                            have e11 : V 286 = _ := h.e11 (hL ⟨11, .data⟩ (by simp) rfl)
                            have l3 : L 3 = true := h.e8b (hL ⟨8, .guard⟩ (by simp) rfl)
                            have P := h.p1 l3
                            have hc := h.c (hL ⟨10, .data⟩ (by simp) rfl)
                            have Hc := Lib.hid hc
                            generalize sAddr (V 285) = A3 at hc
                            generalize sCap (V 285) = c3 at hc
                            have e10 : V 285 = _ := hc.1
                            have hcr := hc.2
                            clear hL hno hc
                            simp only [putAll, List.foldl_cons, List.foldl_nil, List.setIfInBounds_toArray, List.set_cons_zero, List.set_cons_succ]
                            go_simp
                            refine (sameInts_yes (rowF (tokI ars fun _ => 0) ars.length) A3 AS ars.length c3 cS _ _ w1 (rowF_length _ _) Hft.out hcr (rd_of_own P.srow) HmA.out).mono ?_
                            rintro e w3 ⟨rfl, d3⟩
                            have P2 := P.below (d3.below _)
                            refine hK (updV V 287 (.bool true)) _ _ (by simp [putAll, updV, e8, e11, e10]) ?_
                            exact { h with
                              bel := P2.bel
                              p0 := fun hn => (by cases (hn.symm.trans l3))
                              p1 := fun _ => P2
                              c := fun _ => ⟨Hc.out.1, (d3.rd Hc.out.2).more (d3.below 0).size⟩
                              e12 := fun _ => rfl }
                          · replace ho := Option.some.inj ho
                            subst ho
                            simp only [putAll, List.foldl_cons, List.foldl_nil, List.setIfInBounds_toArray, List.set_cons_zero, List.set_cons_succ]
                            have e8 : V 283 = _ := h.e8 (hL ⟨8, .data⟩ (by simp) rfl)
                            have e12 : V 287 = _ := h.e12 (hL ⟨12, .data⟩ (by simp) rfl)
                            clear hL hno
                            go_simp
                            refine hK (updV V 288 (.bool true)) _ _ (by simp [putAll, updV, e8, e12]) ?_
                            exact { h with e13 := fun _ => rfl }
                          · replace ho := Option.some.inj ho
                            subst ho
                            simp only [putAll, List.foldl_cons, List.foldl_nil, List.setIfInBounds_toArray, List.set_cons_zero, List.set_cons_succ]
                            have e13 : V 288 = _ := h.e13 (hL ⟨13, .data⟩ (by simp) rfl)
                            clear hL hno
                            go_simp
                            refine hK (updV V 27 (.bool true)) _ _ (by simp [putAll, updV, e13]) ?_
                            exact { h with e14 := fun _ => rfl }
                          · simp at ho
                        · clear hI0
                          intro L V w14 hL h
                          have hP14 := h.p1 (hL 3 (by simp))
                          have e14 := h.e14 (hL 14 (by simp))
                          simp only [putAll, List.foldl_cons, List.foldl_nil, List.setIfInBounds_toArray, List.set_cons_zero, List.set_cons_succ, e14]
                          clear h hL HP
                          have HP := Lib.hid hP14
                          clear hP14 e14
                          go_wp2_with fail
                          have hI0 : ∀ V, HoIb W10 B4 zs s2 rs.length ars AS cS G5 G6 gp bl ol xs.length cl (fun _ => false) V w14.drew := fun V => by
                            have h0 := HP.out.below (Drawn.below _ ((Drawn.refl w14).drewN 1))
                            constructor
                            all_goals first
                              | exact h0.bel
                              | exact fun _ => h0
                              | (intro h; cases h)
                          refine wp_region_put3 [289, 290, 291, 292, 293, 294, 295, 296, 297, 298, 299, 300, 301, 302, 28] (HoIb W10 B4 zs s2 rs.length ars AS cS G5 G6 gp bl ol xs.length cl) (by kernel_rfl) (by kernel_rfl) ?_ ?_ ?_
                          · exact hI0 _
                          · intro i o ho L V w1 hi hL hno h K hK
                            rcases i with _ | _ | _ | _ | _ | _ | _ | _ | _ | _ | _ | _ | _ | _ | _ | i
                            · replace ho := Option.some.inj ho
                              subst ho
                              simp only [putAll, List.foldl_cons, List.foldl_nil, List.setIfInBounds_toArray, List.set_cons_zero, List.set_cons_succ]
                              clear hL hno
                              go_simp
                              refine hK (updV V 289 (.pointer (some ⟨s2.gs, 0, none⟩))) _ _ (by simp [putAll, updV]) ?_
                              exact { h with e0 := fun _ => rfl }
                            · replace ho := Option.some.inj ho
                              subst ho
                              simp only [putAll, List.foldl_cons, List.foldl_nil, List.setIfInBounds_toArray, List.set_cons_zero, List.set_cons_succ]
                              clear hL hno
                              go_simp
                              refine hK (updV V 290 (.pointer (some ⟨gp, 0, none⟩))) _ _ (by simp [putAll, updV]) ?_
                              exact { h with e1 := fun _ => rfl }
                            · replace ho := Option.some.inj ho
                              subst ho
                              simp only [putAll, List.foldl_cons, List.foldl_nil, List.setIfInBounds_toArray, List.set_cons_zero, List.set_cons_succ]
                              have e1 : V 290 = _ := h.e1 (hL ⟨1, .data⟩ (by simp) rfl)
                              have hbl := h.bel
                              have ct := (HTP.out.below hbl).kp.cell 0
                              simp only [List.getElem?_toArray, List.getElem?_cons_zero] at ct
                              clear hL hno
                              go_simp
                              refine hK (updV V 291 (.slice (some ⟨bl, ol, none⟩) xs.length cl)) _ _ (by simp [putAll, updV, e1]) ?_
                              exact { h with e2 := fun _ => rfl }
                            · replace ho := Option.some.inj ho
                              subst ho
                              have e0 : V 289 = _ := h.e0 (hL ⟨0, .data⟩ (by simp) rfl)
                              have e2 : V 291 = _ := h.e2 (hL ⟨2, .data⟩ (by simp) rfl)
                              have P := h.p0 hi
                              have l10 : L 10 = false := hno 10 (by kernel_rfl)
                              have l8 : L 8 = false := hno 8 (by kernel_rfl)
                              clear hL hno
                              simp only [putAll, List.foldl_cons, List.foldl_nil, List.setIfInBounds_toArray, List.set_cons_zero, List.set_cons_succ]
                              have hrl := (HTP.out.below P.bel).rl
                              have q1 := (P.st.tok.lt s2.gt rfl).1
                              have q2 := (P.st.fir.lt s2.gf rfl).1
                              have q3 := P.ble
                              go_simp
                              refine (fire_any xs (some ⟨bl, ol, none⟩) xs.length cl rs.length ars G5 B4 s2 w1 rfl Hfx.out (hrl.more q3) (by simp only [blkOf]; intro hc; injection hc with hc; omega) (by simp only [blkOf]; intro hc; injection hc with hc; omega) HN.out HGb.out P.st).mono ?_
                              rintro e w3 ⟨rfl, hS, hO⟩
                              rw [HFNb.out]
                              rw [HFFb.out] at hS
                              have P2 := P.fire hO hS
                              refine hK (updV V 292 (.int .i64 (xs.length : Nat))) _ _ (by simp [putAll, updV, e0, e2]) ?_
                              exact { h with
                                bel := P2.bel
                                p0 := fun hn => (by cases hn)
                                p1 := fun _ => P2
                                e3 := fun _ => rfl
                                e8b := fun hn => (by cases (hn.symm.trans l8))
                                c := fun hn => (by cases (hn.symm.trans l10)) }
                            · replace ho := Option.some.inj ho
                              subst ho
                              simp only [putAll, List.foldl_cons, List.foldl_nil, List.setIfInBounds_toArray, List.set_cons_zero, List.set_cons_succ]
                              clear hL hno
                              go_simp
                              refine hK (updV V 293 (.pointer (some ⟨gp, 0, none⟩))) _ _ (by simp [putAll, updV]) ?_
                              exact { h with e4 := fun _ => rfl }
                            · replace ho := Option.some.inj ho
                              subst ho
                              simp only [putAll, List.foldl_cons, List.foldl_nil, List.setIfInBounds_toArray, List.set_cons_zero, List.set_cons_succ]
                              have e4 : V 293 = _ := h.e4 (hL ⟨4, .data⟩ (by simp) rfl)
                              have hbl := h.bel
                              have ct := (HTP.out.below hbl).kp.cell 0
                              simp only [List.getElem?_toArray, List.getElem?_cons_zero] at ct
                              clear hL hno
                              go_simp
                              refine hK (updV V 294 (.slice (some ⟨bl, ol, none⟩) xs.length cl)) _ _ (by simp [putAll, updV, e4]) ?_
                              exact { h with e5 := fun _ => rfl }
                            · replace ho := Option.some.inj ho
                              subst ho
                              simp only [putAll, List.foldl_cons, List.foldl_nil, List.setIfInBounds_toArray, List.set_cons_zero, List.set_cons_succ]
                              have e5 : V 294 = _ := h.e5 (hL ⟨5, .data⟩ (by simp) rfl)
                              clear hL hno
                              go_simp
                              refine hK (updV V 295 (.int .i64 (xs.length : Nat))) _ _ (by simp [putAll, updV, e5]) ?_
                              exact { h with e6 := fun _ => rfl }
                            · replace ho := Option.some.inj ho
                              subst ho
                              simp only [putAll, List.foldl_cons, List.foldl_nil, List.setIfInBounds_toArray, List.set_cons_zero, List.set_cons_succ]
                              have e3 : V 292 = _ := h.e3 (hL ⟨3, .data⟩ (by simp) rfl)
                              have e6 : V 295 = _ := h.e6 (hL ⟨6, .data⟩ (by simp) rfl)
                              clear hL hno
                              go_simp
                              refine hK (updV V 296 (.bool true)) _ _ (by simp [putAll, updV, e3, e6]) ?_
                              exact { h with e7 := fun _ => rfl }
                            · replace ho := Option.some.inj ho
                              subst ho
                              simp only [putAll, List.foldl_cons, List.foldl_nil, List.setIfInBounds_toArray, List.set_cons_zero, List.set_cons_succ]
                              have e7 : V 296 = _ := h.e7 (hL ⟨7, .data⟩ (by simp) rfl)
                              have l3 : L 3 = true := hL ⟨3, .chain⟩ (by simp) rfl
                              clear hL hno
                              go_simp
                              refine hK (updV V 297 (.bool true)) _ _ (by simp [putAll, updV, e7]) ?_
                              exact { h with e8 := fun _ => rfl, e8b := fun _ => l3 }
                            · replace ho := Option.some.inj ho
                              subst ho
                              simp only [putAll, List.foldl_cons, List.foldl_nil, List.setIfInBounds_toArray, List.set_cons_zero, List.set_cons_succ]
                              have e8 : V 297 = _ := h.e8 (hL ⟨8, .guard⟩ (by simp) rfl)
                              clear hL hno
                              go_simp
                              refine hK (updV V 298 (.pointer (some ⟨s2.gs, 0, none⟩))) _ _ (by simp [putAll, updV, e8]) ?_
                              exact { h with e9 := fun _ => rfl }
                            · replace ho := Option.some.inj ho
                              subst ho
                              have e8 : V 297 = _ := h.e8 (hL ⟨8, .guard⟩ (by simp) rfl)
                              have e9 : V 298 = _ := h.e9 (hL ⟨9, .data⟩ (by simp) rfl)
                              have l3 : L 3 = true := h.e8b (hL ⟨8, .guard⟩ (by simp) rfl)
                              have P := h.p1 l3
                              clear hL hno
                              simp only [putAll, List.foldl_cons, List.foldl_nil, List.setIfInBounds_toArray, List.set_cons_zero, List.set_cons_succ]
                              go_simp
                              refine (counts_any rs.length ars G6 B4 s2 w1 HN.out P.st).mono ?_
                              rintro e w3 ⟨A3, c3, rfl, o3, b3⟩
                              rw [HTb.out] at o3
                              have P2 := P.below b3
                              refine hK (updV V 299 (.slice A3 ars.length c3)) _ _ (by simp [putAll, updV, e8, e9]) ?_
                              exact { h with
                                bel := P2.bel
                                p0 := fun hn => (by cases (hn.symm.trans l3))
                                p1 := fun _ => P2
                                c := fun _ => ⟨rfl, rd_of_own o3⟩ }
                            · replace ho := Option.some.inj ho
                              subst ho
                              simp only [putAll, List.foldl_cons, List.foldl_nil, List.setIfInBounds_toArray, List.set_cons_zero, List.set_cons_succ]
                              have e8 : V 297 = _ := h.e8 (hL ⟨8, .guard⟩ (by simp) rfl)
                              clear hL hno
                              go_simp
                              refine hK (updV V 300 (.slice AS ars.length cS)) _ _ (by simp [putAll, updV, e8]) ?_
                              exact { h with e11 := fun _ => rfl }
                            · replace ho := Option.some.inj ho
                              subst ho
                              have e8 : V 297 = _ := h.e8 (hL ⟨8, .guard⟩ (by simp) rfl)
                              have e11 : V 300 = _ := h.e11 (hL ⟨11, .data⟩ (by simp) rfl)
                              have l3 : L 3 = true := h.e8b (hL ⟨8, .guard⟩ (by simp) rfl)
                              have P := h.p1 l3
                              have hc := h.c (hL ⟨10, .data⟩ (by simp) rfl)
                              have Hc := Lib.hid hc
                              generalize sAddr (V 299) = A3 at hc
                              generalize sCap (V 299) = c3 at hc
                              have e10 : V 299 = _ := hc.1
                              have hcr := hc.2
                              clear hL hno hc
                              simp only [putAll, List.foldl_cons, List.foldl_nil, List.setIfInBounds_toArray, List.set_cons_zero, List.set_cons_succ]
                              go_simp
                              refine (sameInts_yes (rowF (tokI ars fun _ => 0) ars.length) A3 AS ars.length c3 cS _ _ w1 (rowF_length _ _) Hft.out hcr (rd_of_own P.srow) HmA.out).mono ?_
                              rintro e w3 ⟨rfl, d3⟩
                              have P2 := P.below (d3.below _)
                              refine hK (updV V 301 (.bool true)) _ _ (by simp [putAll, updV, e8, e11, e10]) ?_
                              exact { h with
                                bel := P2.bel
                                p0 := fun hn => (by cases (hn.symm.trans l3))
                                p1 := fun _ => P2
                                c := fun _ => ⟨Hc.out.1, (d3.rd Hc.out.2).more (d3.below 0).size⟩
                                e12 := fun _ => rfl }
                            · replace ho := Option.some.inj ho
                              subst ho
                              simp only [putAll, List.foldl_cons, List.foldl_nil, List.setIfInBounds_toArray, List.set_cons_zero, List.set_cons_succ]
                              have e8 : V 297 = _ := h.e8 (hL ⟨8, .data⟩ (by simp) rfl)
                              have e12 : V 301 = _ := h.e12 (hL ⟨12, .data⟩ (by simp) rfl)
                              clear hL hno
                              go_simp
                              refine hK (updV V 302 (.bool true)) _ _ (by simp [putAll, updV, e8, e12]) ?_
                              exact { h with e13 := fun _ => rfl }
                            · replace ho := Option.some.inj ho
                              subst ho
                              simp only [putAll, List.foldl_cons, List.foldl_nil, List.setIfInBounds_toArray, List.set_cons_zero, List.set_cons_succ]
                              have e13 : V 302 = _ := h.e13 (hL ⟨13, .data⟩ (by simp) rfl)
                              clear hL hno
                              go_simp
                              refine hK (updV V 28 (.bool true)) _ _ (by simp [putAll, updV, e13]) ?_
                              exact { h with e14 := fun _ => rfl }
                            · simp at ho
                          · clear hI0
                            intro L V w15 hL h
                            have hP15 := h.p1 (hL 3 (by simp))
                            have e14 := h.e14 (hL 14 (by simp))
                            simp only [putAll, List.foldl_cons, List.foldl_nil, List.setIfInBounds_toArray, List.set_cons_zero, List.set_cons_succ, e14]
                            clear h hL HP
                            have HP := Lib.hid hP15
                            have HCT := Lib.hid (counts_any rs.length ars G B3 s w15 HN.out (HST.out w15 hP15.bel))
                            clear hP15 e14
                            go_wp2_with fail
                            refine HCT.out.mono ?_
                            rintro e w16 ⟨A6, c6, rfl, o6, b6⟩
                            rw [HTG.out] at o6
                            have P16 := HP.out.below b6
                            have HSI := Lib.hid (sameInts_yes (rowF (tokI ars fun _ => 0) ars.length) A6 AS ars.length c6 cS _ _ w16 (rowF_length _ _) Hft.out (rd_of_own o6) (rd_of_own P16.srow) HmA.out)
                            have HP16 := Lib.hid P16
                            clear HCT o6 b6 P16 HP
                            go_wp2_with fail
                            refine HSI.out.mono ?_
                            rintro e w17 ⟨rfl, d17⟩
                            have P17 := HP16.out.below (d17.below _)
                            have HS17 := Lib.hid (HS10.out.below P17.bel)
                            have HB17 := Lib.hid (HB10.out.trans (P17.bel.mono hz10b))
                            have hz17 : B ≤ w17.heap.size := by have := P17.ble; omega
                            clear HSI d17 P17 HP16
                            go_wp2_with fail
                            refine (awake15_any w17 HS17.out.tab).mono ?_
                            rintro e w9 ⟨rfl, hb9⟩
                            have B9 := Lib.hid (HB17.out.trans (hb9.mono hz17))
                            clear hb9
                            go_wp2_with fail
                            go_ret
                            exact ⟨rfl, HBB.out.symm ▸ B9.out⟩
      · obtain rfl := bad (by decide)
        simp only [List.length_nil] at p0 p1
        clear bad ha1 he1 kp rl7 rs7 hpl r0 r1 n0 n1
        go_wp2_with fail
        refine (awake15_any W7 HS7.out.tab).mono ?_
        rintro e w9 ⟨rfl, hb9⟩
        have B9 := Lib.hid (HB7.out.trans (hb9.mono hz7))
        clear hb9
        go_wp2_with fail
        go_ret
        exact ⟨rfl, HBB.out.symm ▸ B9.out⟩
      · obtain rfl := bad (by decide)
        simp only [List.length_nil] at p0 p1
        clear bad ha1 he1 kp rl7 rs7 hpl r0 r1 n0 n1
        go_wp2_with fail
        refine (awake15_any W7 HS7.out.tab).mono ?_
        rintro e w9 ⟨rfl, hb9⟩
        have B9 := Lib.hid (HB7.out.trans (hb9.mono hz7))
        clear hb9
        go_wp2_with fail
        go_ret
        exact ⟨rfl, HBB.out.symm ▸ B9.out⟩
  · have hne : (E != 0) = true := by simpa using hE0
    clear h hE k3 HQ3 HM3 HB23 hgn HG1 HQ1 HM1 HT1
    go_wp2_with fail
    refine (awake15_any W3 HT3.out).mono ?_
    rintro e w9 ⟨rfl, hb9⟩
    have B9 := Lib.hid (HB3.out.trans (hb9.mono hz3))
    clear hb9
    go_wp2_with fail
    go_ret
    exact ⟨rfl, HBB.out.symm ▸ B9.out⟩
end Go.Proofs.YtpmlljbebdidgaaDoor
