/-
  pianolalaw15.go1: firing, round by round, till nothing may fire that has firings left.
-/
import Derived.Test.YtdogddngiolpoaaPz
import Derived.Test.YtdogddngiolpoaaOr2
namespace Go.Proofs.Ytdogddngiolpoaa
open Go.RowKit

/-- memory while a round fires: zr: where the round's own memory begins -/
structure GoP (w0 : World) (B zr : Nat) (s : SM) (n : Nat) (ars : List ArcV) (F0 G : Nat → Int) (gF cF : Nat) (w : World) : Prop where
  bel : Below B w0 w
  st : St w B s n ars G
  frow : w.ownsRow zr 3 1 (.slice (some ⟨gF, 0, none⟩) n cF) n (cellsI (rowF F0 n))
  zgt : s.gt < zr
  zgf : s.gf < zr
  zle : zr ≤ w.heap.size
  ble : B ≤ w.heap.size
theorem GoP.below {w0 w w' : World} {B zr : Nat} {s : SM} {n : Nat} {ars : List ArcV} {F0 G : Nat → Int} {gF cF : Nat} (h : GoP w0 B zr s n ars F0 G gF cF w) (hb : Below w.heap.size w w') : GoP w0 B zr s n ars F0 G gF cF w' := by
  have := hb.size
  have := h.zle
  have := h.ble
  exact ⟨h.bel.trans ⟨hb.os, hb.tape, hb.output, hb.size, fun k hk => hb.block k (by omega)⟩, h.st.below hb, own_below h.frow hb, h.zgt, h.zgf, by omega, by omega⟩
theorem GoP.fire {w0 w w' : World} {B zr : Nat} {s : SM} {n : Nat} {ars : List ArcV} {F0 G G' : Nat → Int} {gF cF : Nat} (h : GoP w0 B zr s n ars F0 G gF cF w) (ho : Only (fun k => k = s.gt ∨ k = s.gf) w w') (hs : St w' B s n ars G') : GoP w0 B zr s n ars F0 G' gF cF w' := by
  have h1 := (h.st.tok.lt s.gt rfl).1
  have h2 := (h.st.fir.lt s.gf rfl).1
  have := ho.size
  have := h.zle
  have := h.ble
  have h3 := h.zgt
  have h4 := h.zgf
  refine ⟨h.bel.trans ⟨ho.os, ho.tape, ho.output, ho.size, fun k hk => ho.block k (by omega) (by omega)⟩, hs, own_only h.frow ho fun b hb hx => ?_, h.zgt, h.zgf, by omega, by omega⟩
  have := own_ge h.frow hb
  rcases hx with hx | hx <;> omega
def gbOf : Value → Nat
  | .slice (some a) _ _ => a.block
  | _ => 0
structure GoI (w0 : World) (B zr : Nat) (s : SM) (n : Nat) (ars : List ArcV) (F0 G : Nat → Int) (rs : List Int) (gF cF bR oR cr k : Nat) (L : Nat → Bool) (V : Nat → Value) (w : World) : Prop where
  p0 : L 13 = false → GoP w0 B zr s n ars F0 G gF cF w
  p1 : L 13 = true → V 45 = .int .i64 (fireN ars n G [(k : Int)] : Nat) ∧ GoP w0 B zr s n ars F0 (fireF ars n G [(k : Int)]) gF cF w
  b : L 12 = true → L 13 = false → V 44 = .slice (some ⟨gbOf (V 44), 0, none⟩) 1 1 ∧ Rd w w.heap.size (some ⟨gbOf (V 44), 0, none⟩) (cellsI [(k : Int)]) ∧ zr ≤ gbOf (V 44)
  e10 : L 10 = true → V 42 = .pointer (some ⟨s.gs, 0, none⟩)
  e11 : L 11 = true → V 43 = .int .i64 k
  e14 : L 14 = true → V 46 = .bool (decide (fireN ars n G [(k : Int)] = 1))
  e15 : L 15 = true → V 47 = .bool (decide (fireN ars n G [(k : Int)] = 1))
  e0 : L 0 = true → V 32 = .slice (some ⟨gF, 0, none⟩) n cF
  e1 : L 1 = true → V 33 = .int .i64 k
  e2 : L 2 = true → V 34 = .pointer (some ⟨gF, k, none⟩)
  e3 : L 3 = true → V 35 = .int .i64 (F0 k)
  e4 : L 4 = true → V 36 = .slice (some ⟨bR, oR, none⟩) n cr
  e5 : L 5 = true → V 37 = .int .i64 k
  e6 : L 6 = true → V 38 = .pointer (some ⟨bR, oR + k, none⟩)
  e7 : L 7 = true → V 39 = .int .i64 (repAt rs k)
  e8 : L 8 = true → V 40 = .bool true
  e9 : L 9 = true → V 41 = .bool true
theorem one_dec (x : Nat) : ((x : Int) == 1) = decide (x = 1) := by
  by_cases h : x = 1
  · subst h; rfl
  · rw [decide_eq_false h]; simp; omega
theorem fire_cases {ars : List ArcV} {n v : Nat} {F : Nat → Int} : (mayB ars n F v = true ∧ fireN ars n F [(v : Int)] = 1 ∧ fireF ars n F [(v : Int)] = bump F v) ∨ (mayB ars n F v = false ∧ fireN ars n F [(v : Int)] = 0 ∧ fireF ars n F [(v : Int)] = F) := by
  cases h : mayB ars n F v with
  | true => exact .inl ⟨rfl, (fire_one h).1, (fire_one h).2⟩
  | false => exact .inr ⟨rfl, by simp [fireN, h], by simp [fireF, h]⟩

set_option maxRecDepth 100000 in
set_option maxHeartbeats 4000000 in
theorem go1_any (n : Nat) (ars : List ArcV) (rs : List Int) (R : Option Addr) (cr : Nat) (F : Nat → Int) (B : Nat) (s : SM) (w : World) (hN : NetOk n ars) (hrs : rs.length = n) (hfr : AllFit rs) (hall : rs.all repB = true) (hrr : Rd w B R (cellsI rs)) (hS : St w B s n ars F) (hB : B ≤ w.heap.size)
    (hR : Reach ars n rs F) (hsum : leftSum n (leftF rs F) ≤ 2048) :
    Calls Try.prog 23 #[.pointer (some ⟨s.gs, 0, none⟩), .int .i64 n, .slice R n cr] w fun e w' => ∃ G, e = .returned (.bool true) ∧ St w' B s n ars G ∧ Reach ars n rs G ∧ Final ars n rs G ∧ Below B w w' := by
  have n32 := hN.n32
  have hpos := hN.pos
  obtain ⟨bR, oR, x0, rfl, hbR, -, -, -, -⟩ := hrr.at_ hfr (k := 0) (by omega)
  have hsmall : ∀ G, Reach ars n rs G → ∀ j, j < n → 0 ≤ G j ∧ G j ≤ 4096 := fun G h j hj => by
    have h1 := h.nonneg j
    have h2 := h.le_reps (fun v hv => by have := repAt_lt hall (f := v) (by omega); omega) j hj
    have h3 := repAt_lt hall (f := j) (by omega)
    omega
  have HN := Lib.hid hN
  have Hrr := Lib.hid hrr
  have Hsmall := Lib.hid hsmall
  have Hall := Lib.hid hall
  clear hN hsmall hall hrr
  go_enter Try.func23, Try.ntmps23
  go_wp2_with fail
  obtain ⟨w0, hw0⟩ : ∃ w0, w = w0 := ⟨_, rfl⟩
  rw [hw0] at hS hB Hrr ⊢
  have Hw0 := Lib.hid hw0
  clear hw0
  go_loopw [7] (fun i wr => ∃ (k : Nat) (G : Nat → Int), k ≤ 2049 ∧ i = .int .i64 k ∧ St wr B s n ars G ∧ Reach ars n rs G ∧ leftSum n (leftF rs G) + k ≤ 2048 ∧ Below B w0 wr) (fun i _ => 2049 - (intOf i).toNat)
  case atStart => exact ⟨0, F, by omega, rfl, hS, hR, by omega, Below.refl _ _⟩
  case round =>
    clear hS hR hsum
    obtain ⟨r, F0, hr, rfl, hS, hR, hsum, hb⟩ := hrel
    have hr2 : (r : Int) ≤ 2048 := by omega
    have hsz := hb.size
    go_wp2_with fail
    refine (fired_any n ars F0 B s wr HN.out hS).mono ?_
    rintro e w2 ⟨AF, cF, rfl, oF, bF⟩
    obtain ⟨gF, rfl⟩ := own_addr oF hpos
    have hgt := (hS.tok.lt s.gt rfl).2
    have hgf := (hS.fir.lt s.gf rfl).2
    have hP0 : GoP w0 B wr.heap.size s n ars F0 F0 gF cF w2 := ⟨hb.trans ⟨bF.os, bF.tape, bF.output, bF.size, fun k hk => bF.block k (by omega)⟩, hS.below bF, oF, hgt, hgf, bF.size, by have := bF.size; omega⟩
    have hnn : ((n : Int) != (n : Int)) = false := by simp
    obtain ⟨zr, hzr⟩ : ∃ zr, wr.heap.size = zr := ⟨_, rfl⟩
    rw [hzr] at hP0
    have HP0 := Lib.hid hP0
    clear hS oF bF hP0 hgt hgf
    go_wp2_with fail
    clear hzr
    go_loopw [9, 10] (fun a i wx => ∃ (k : Nat) (G : Nat → Int) (b : Bool), k ≤ n ∧ i = .int .i64 k ∧ a = .bool b ∧ GoP w0 B zr s n ars F0 G gF cF wx ∧ Reach ars n rs G ∧ Hid (∀ j, k ≤ j → G j = F0 j) ∧ Hid (b = false → G = F0 ∧ ∀ j, j < k → 0 < leftF rs F0 j → mayB ars n F0 j = false) ∧ Hid (b = true → leftSum n (leftF rs G) < leftSum n (leftF rs F0))) (fun _ i _ => n - (intOf i).toNat)
    case atStart => exact ⟨0, F0, false, by omega, rfl, rfl, HP0.out, hR, fun _ _ => rfl, fun _ => ⟨rfl, fun j hj => by omega⟩, fun h => by cases h⟩
    case round =>
      clear HP0
      obtain ⟨k, G, b, hk', rfl, rfl, P, hRG, hfar, hf, ht⟩ := hrel
      by_cases hk : k < n
      · have hkr : k < rs.length := by omega
        have hGk := hfar.out k (Nat.le_refl _)
        have hfar2 : ∀ j, k + 1 ≤ j → G j = F0 j := fun j hj => hfar.out j (by omega)
        have h1 : (0 : Int) ≤ (k : Int) := by omega
        have h2 : (k : Int) < (n : Int) := by omega
        by_cases hlv : F0 k < repAt rs k
        · have HG1 : Hid (∀ j, j < n → 0 ≤ G j ∧ G j + (1 : Nat) ≤ 1000000) := fun j hj => by have := Hsmall.out G hRG j hj; omega
          have HP := Lib.hid P
          have Hfar2 := Lib.hid hfar2
          have HGk := Lib.hid hGk
          clear P hfar2 hGk
          go_wp2_with fail
          have hI0 : ∀ V, GoI w0 B zr s n ars F0 G rs gF cF bR oR cr k (fun _ => false) V wr.drew := fun V => by
            have h0 := HP.out.below (Drawn.below _ ((Drawn.refl wr).drewN 1))
            constructor
            all_goals first
              | exact fun _ => h0
              | (intro h; cases h)
          refine wp_region_put3 [32, 33, 34, 35, 36, 37, 38, 39, 40, 41, 42, 43, 44, 45, 46, 47] (GoI w0 B zr s n ars F0 G rs gF cF bR oR cr k) (by kernel_rfl) (by kernel_rfl) ?_ ?_ ?_
          · exact hI0 _
          · intro i o ho L V w1 hi hL hno h K hK
            rcases i with _ | _ | _ | _ | _ | _ | _ | _ | _ | _ | _ | _ | _ | _ | _ | _ | i
            · replace ho := Option.some.inj ho
              subst ho
              simp only [putAll, List.foldl_cons, List.foldl_nil, List.setIfInBounds_toArray, List.set_cons_zero, List.set_cons_succ]
              clear hL hno
              go_simp
              refine hK (updV V 32 (.slice (some ⟨gF, 0, none⟩) n cF)) _ _ (by simp [putAll, updV]) ?_
              exact { h with e0 := fun _ => rfl }
            · replace ho := Option.some.inj ho
              subst ho
              simp only [putAll, List.foldl_cons, List.foldl_nil, List.setIfInBounds_toArray, List.set_cons_zero, List.set_cons_succ]
              clear hL hno
              go_simp
              refine hK (updV V 33 (.int .i64 k)) _ _ (by simp [putAll, updV]) ?_
              exact { h with e1 := fun _ => rfl }
            · replace ho := Option.some.inj ho
              subst ho
              simp only [putAll, List.foldl_cons, List.foldl_nil, List.setIfInBounds_toArray, List.set_cons_zero, List.set_cons_succ]
              have e0 : V 32 = _ := h.e0 (hL ⟨0, .data⟩ (by simp) rfl)
              have e1 : V 33 = _ := h.e1 (hL ⟨1, .data⟩ (by simp) rfl)
              clear hL hno
              go_simp
              refine hK (updV V 34 (.pointer (some ⟨gF, k, none⟩))) _ _ (by simp [putAll, updV, e0, e1]) ?_
              exact { h with e2 := fun _ => rfl }
            · replace ho := Option.some.inj ho
              subst ho
              simp only [putAll, List.foldl_cons, List.foldl_nil, List.setIfInBounds_toArray, List.set_cons_zero, List.set_cons_succ]
              have e2 : V 34 = _ := h.e2 (hL ⟨2, .data⟩ (by simp) rfl)
              have l13 : L 13 = false := hno 13 (by kernel_rfl)
              have P := h.p0 l13
              have ct := own_firCell P.frow hk
              clear hL hno
              go_simp
              refine hK (updV V 35 (.int .i64 (F0 k))) _ _ (by simp [putAll, updV, e2]) ?_
              exact { h with e3 := fun _ => rfl }
            · replace ho := Option.some.inj ho
              subst ho
              simp only [putAll, List.foldl_cons, List.foldl_nil, List.setIfInBounds_toArray, List.set_cons_zero, List.set_cons_succ]
              clear hL hno
              go_simp
              refine hK (updV V 36 (.slice (some ⟨bR, oR, none⟩) n cr)) _ _ (by simp [putAll, updV]) ?_
              exact { h with e4 := fun _ => rfl }
            · replace ho := Option.some.inj ho
              subst ho
              simp only [putAll, List.foldl_cons, List.foldl_nil, List.setIfInBounds_toArray, List.set_cons_zero, List.set_cons_succ]
              clear hL hno
              go_simp
              refine hK (updV V 37 (.int .i64 k)) _ _ (by simp [putAll, updV]) ?_
              exact { h with e5 := fun _ => rfl }
            · replace ho := Option.some.inj ho
              subst ho
              simp only [putAll, List.foldl_cons, List.foldl_nil, List.setIfInBounds_toArray, List.set_cons_zero, List.set_cons_succ]
              have e4 : V 36 = _ := h.e4 (hL ⟨4, .data⟩ (by simp) rfl)
              have e5 : V 37 = _ := h.e5 (hL ⟨5, .data⟩ (by simp) rfl)
              clear hL hno
              go_simp
              refine hK (updV V 38 (.pointer (some ⟨bR, oR + k, none⟩))) _ _ (by simp [putAll, updV, e4, e5]) ?_
              exact { h with e6 := fun _ => rfl }
            · replace ho := Option.some.inj ho
              subst ho
              simp only [putAll, List.foldl_cons, List.foldl_nil, List.setIfInBounds_toArray, List.set_cons_zero, List.set_cons_succ]
              have e6 : V 38 = _ := h.e6 (hL ⟨6, .data⟩ (by simp) rfl)
              have l13 : L 13 = false := hno 13 (by kernel_rfl)
              have P := h.p0 l13
              have ct := rd_repAt (Hrr.out.below P.bel (Nat.le_refl _)) hkr
              clear hL hno
              go_simp
              refine hK (updV V 39 (.int .i64 (repAt rs k))) _ _ (by simp [putAll, updV, e6]) ?_
              exact { h with e7 := fun _ => rfl }
            · replace ho := Option.some.inj ho
              subst ho
              simp only [putAll, List.foldl_cons, List.foldl_nil, List.setIfInBounds_toArray, List.set_cons_zero, List.set_cons_succ]
              have e3 : V 35 = _ := h.e3 (hL ⟨3, .data⟩ (by simp) rfl)
              have e7 : V 39 = _ := h.e7 (hL ⟨7, .data⟩ (by simp) rfl)
              have hlt := hlv
              clear hL hno
              go_simp
              refine hK (updV V 40 (.bool true)) _ _ (by simp [putAll, updV, e3, e7]) ?_
              exact { h with e8 := fun _ => rfl }
            · replace ho := Option.some.inj ho
              subst ho
              simp only [putAll, List.foldl_cons, List.foldl_nil, List.setIfInBounds_toArray, List.set_cons_zero, List.set_cons_succ]
              have e8 : V 40 = _ := h.e8 (hL ⟨8, .data⟩ (by simp) rfl)
              clear hL hno
              go_simp
              refine hK (updV V 41 (.bool true)) _ _ (by simp [putAll, updV, e8]) ?_
              exact { h with e9 := fun _ => rfl }
            · replace ho := Option.some.inj ho
              subst ho
              have e9 : V 41 = _ := h.e9 (hL ⟨9, .guard⟩ (by simp) rfl)
              clear hL hno
              simp only [putAll, List.foldl_cons, List.foldl_nil, List.setIfInBounds_toArray, List.set_cons_zero, List.set_cons_succ]
              go_simp
              refine hK (updV V 42 (.pointer (some ⟨s.gs, 0, none⟩))) _ _ (by simp [putAll, updV, e9]) ?_
              exact { h with e10 := fun _ => rfl }
            · replace ho := Option.some.inj ho
              subst ho
              have e9 : V 41 = _ := h.e9 (hL ⟨9, .guard⟩ (by simp) rfl)
              clear hL hno
              simp only [putAll, List.foldl_cons, List.foldl_nil, List.setIfInBounds_toArray, List.set_cons_zero, List.set_cons_succ]
              go_simp
              refine hK (updV V 43 (.int .i64 k)) _ _ (by simp [putAll, updV, e9]) ?_
              exact { h with e11 := fun _ => rfl }
            · replace ho := Option.some.inj ho
              subst ho
              have e9 : V 41 = _ := h.e9 (hL ⟨9, .guard⟩ (by simp) rfl)
              have e11 : V 43 = _ := h.e11 (hL ⟨11, .data⟩ (by simp) rfl)
              have l13 : L 13 = false := hno 13 (by kernel_rfl)
              clear hL hno
              simp only [putAll, List.foldl_cons, List.foldl_nil, List.setIfInBounds_toArray, List.set_cons_zero, List.set_cons_succ]
              have hb := (Below.refl w1.heap.size w1).alloc (Nat.le_refl _) (.cells #[.int .i64 k] 3)
              have hnew := rd_alloc w1 _ rfl 3 [Value.int .i64 k]
              go_simp
              refine hK (updV V 44 (.slice (some ⟨w1.heap.size, 0, none⟩) 1 1)) _ _ (by simp [putAll, updV, e9, e11]) ?_
              exact { h with
                p0 := fun h13 => (h.p0 h13).below hb
                p1 := fun h13 => (by cases (h13.symm.trans l13))
                b := fun _ _ => ⟨rfl, hnew.more (by simp), (h.p0 l13).zle⟩ }
            · replace ho := Option.some.inj ho
              subst ho
              have e9 : V 41 = _ := h.e9 (hL ⟨9, .guard⟩ (by simp) rfl)
              have e10 : V 42 = _ := h.e10 (hL ⟨10, .data⟩ (by simp) rfl)
              have l12 : L 12 = true := hL ⟨12, .data⟩ (by simp) rfl
              have l13 : L 13 = false := hi
              have hq := h.b l12 l13
              generalize gbOf (V 44) = gb at hq
              have e12 : V 44 = _ := hq.1
              have hrb := hq.2.1
              have hgb := hq.2.2
              clear hq
              clear hL hno
              simp only [putAll, List.foldl_cons, List.foldl_nil, List.setIfInBounds_toArray, List.set_cons_zero, List.set_cons_succ]
              have P := h.p0 hi
              have hgt := P.zgt
              have hgf := P.zgf
              go_simp
              refine (fire_any [(k : Int)] (some ⟨gb, 0, none⟩) 1 1 n ars G B s w1 rfl (fun x hx => by simp at hx; subst hx; unfold fits; omega) hrb (by simp only [blkOf]; intro hc; injection hc with hc; omega) (by simp only [blkOf]; intro hc; injection hc with hc; omega) HN.out HG1.out P.st).mono ?_
              rintro e w3 ⟨rfl, hS, hO⟩
              refine hK (updV V 45 (.int .i64 (fireN ars n G [(k : Int)] : Nat))) _ _ (by simp [putAll, updV, e9, e10, e12]) ?_
              exact { h with
                p0 := fun hn => (by cases hn)
                p1 := fun _ => ⟨rfl, P.fire hO hS⟩
                b := fun _ hn => (by cases hn) }
            · replace ho := Option.some.inj ho
              subst ho
              have e9 : V 41 = _ := h.e9 (hL ⟨9, .guard⟩ (by simp) rfl)
              have e13 : V 45 = _ := (h.p1 (hL ⟨13, .data⟩ (by simp) rfl)).1
              clear hL hno
              simp only [putAll, List.foldl_cons, List.foldl_nil, List.setIfInBounds_toArray, List.set_cons_zero, List.set_cons_succ]
              go_simp
              refine hK (updV V 46 (.bool (decide (fireN ars n G [(k : Int)] = 1)))) _ _ (by simp [putAll, updV, e9, e13]; exact one_dec _) ?_
              exact { h with e14 := fun _ => rfl }
            · replace ho := Option.some.inj ho
              subst ho
              have e9 : V 41 = _ := h.e9 (hL ⟨9, .data⟩ (by simp) rfl)
              have e14 : V 46 = _ := h.e14 (hL ⟨14, .data⟩ (by simp) rfl)
              clear hL hno
              simp only [putAll, List.foldl_cons, List.foldl_nil, List.setIfInBounds_toArray, List.set_cons_zero, List.set_cons_succ]
              go_simp
              refine hK (updV V 47 (.bool (decide (fireN ars n G [(k : Int)] = 1)))) _ _ (by simp [putAll, updV, e9, e14]) ?_
              exact { h with e15 := fun _ => rfl }
            · simp at ho
          · clear hI0
            intro L V w6 hL h
            obtain ⟨-, hP6⟩ := h.p1 (hL 13 (by simp))
            have e15 := h.e15 (hL 15 (by simp))
            simp only [putAll, List.foldl_cons, List.foldl_nil, List.setIfInBounds_toArray, List.set_cons_zero, List.set_cons_succ, e15]
            clear h hL HP
            have hfar2 := Hfar2.out
            have hGk := HGk.out
            rcases fire_cases (ars := ars) (n := n) (v := k) (F := G) with ⟨hm, hn1, hf1⟩ | ⟨hm, hn1, hf1⟩
            · rw [hf1] at hP6
              rw [hn1]
              have hlG : 0 < leftF rs G k := by unfold leftF; omega
              have hR2 : Reach ars n rs (bump G k) := .step hRG hlG hm
              have hls := leftSum_upd (leftF rs G) k n hk hlG
              rw [← left_bump] at hls
              have hle : leftSum n (leftF rs G) ≤ leftSum n (leftF rs F0) := by
                cases b with
                | false => rw [(hf.out rfl).1]; exact Nat.le_refl _
                | true => have := ht.out rfl; omega
              have hP7 := Lib.hid hP6
              clear hP6
              go_wp2_with fail
              refine ⟨⟨k + 1, bump G k, true, by omega, by go_num, rfl, hP7.out, hR2, fun j hj => ?_, fun h => (by cases h), fun _ => by omega⟩, by simp [intOf]; omega⟩
              unfold bump
              rw [upd_other (by omega)]
              exact hfar2 j hj
            · rw [hf1] at hP6
              rw [hn1]
              have hP7 := Lib.hid hP6
              clear hP6
              go_wp2_with fail
              refine ⟨⟨k + 1, G, b, by omega, by go_num, rfl, hP7.out, hRG, hfar2, fun hb0 => ?_, ht.out⟩, by simp [intOf]; omega⟩
              obtain ⟨e1, e2⟩ := hf.out hb0
              refine ⟨e1, fun j hj hl => ?_⟩
              by_cases hjk : j = k
              · subst hjk; rw [← e1]; exact hm
              · exact e2 j (by omega) hl
        · have hd : decide (F0 k < repAt rs k) = false := decide_eq_false hlv
          have hct := own_firCell P.frow hk
          have hcr := rd_repAt (Hrr.out.below P.bel (Nat.le_refl _)) hkr
          have HP := Lib.hid P
          have hle : repAt rs k ≤ F0 k := by omega
          clear P
          go_wp2_with fail
          go_quiet (fail)
          go_wp2_with fail
          refine ⟨⟨k + 1, G, b, by omega, by go_num, rfl, HP.out.below (Drawn.below _ ((Drawn.refl wr).drewN _)), hRG, hfar2, fun hb0 => ?_, ht.out⟩, by simp [intOf]; omega⟩
          obtain ⟨e1, e2⟩ := hf.out hb0
          refine ⟨e1, fun j hj hl => ?_⟩
          by_cases hjk : j = k
          · subst hjk; unfold leftF at hl; omega
          · exact e2 j (by omega) hl
      · obtain rfl : k = n := by omega
        cases b with
        | false =>
          obtain ⟨rfl, e2⟩ := hf.out rfl
          have hfin : Final ars k rs G := fun v hv hl => e2 v hv hl
          have HP := Lib.hid P
          have Hfin := Lib.hid hfin
          clear P e2 hfin
          go_wp2_with fail
          go_ret
          exact ⟨rfl, G, HP.out.st, hRG, Hfin.out, by rw [Hw0.out]; exact HP.out.bel⟩
        | true =>
          have h5 := ht.out rfl
          have HP := Lib.hid P
          clear P
          go_wp2_with fail
          refine ⟨⟨r + 1, G, by omega, by go_num, HP.out.st, hRG, by omega, HP.out.bel⟩, by simp [intOf]; omega⟩
end Go.Proofs.Ytdogddngiolpoaa
