/-
  FracExact: what the law computes is true.
-/
import Derived.Test.YtfielhbepnkekaaLf1
namespace Go.Proofs.Ytfielhbepnkekaa
open Go.RowKit

/-- behind the store of a product into its box -/
def AccDone (W0 : World) (g : Nat) (z : Int) (w : World) : Prop := ∃ w' zs zA zc zk, w = (w'.setCell ⟨g, 0, none⟩ (.bool zs)).setCell ⟨g, 1, none⟩ (.slice zA zk zc) ∧ Below W0.heap.size W0 w' ∧ WIs w' (.agg #[.bool zs, .slice zA zk zc]) z zk
theorem acc_stored {W0 w1 : World} (g : Nat) {z : Int} {zs : Bool} {zA : Option Addr} {zc zk : Nat} (hb : Below W0.heap.size W0 w1) (hw : WIs w1 (.agg #[.bool zs, .slice zA zk zc]) z zk) : AccDone W0 g z ((w1.setCell ⟨g, 0, none⟩ (.bool zs)).setCell ⟨g, 1, none⟩ (.slice zA zk zc)) := ⟨w1, zs, zA, zc, zk, rfl, hb, hw⟩
structure AcN (W0 : World) (fs : List Fr) (g5 b off c k : Nat) (s5 : Bool) (A5 : Option Addr) (m5 c5 : Nat) (N xn : Int) (L : Nat → Bool) (V : Nat → Value) (w : World) : Prop where
  p : L 8 = false → Below W0.heap.size W0 w
  zo : L 6 = true → L 7 = false → ∃ zn, zn ≤ 3 ∧ WIs w (V 57) xn zn
  zt : L 7 = true → L 8 = false → ∃ zs zA zc zk, V 58 = .agg #[.bool zs, .slice zA zk zc] ∧ WIs w (.agg #[.bool zs, .slice zA zk zc]) (N * xn) zk
  zf : L 8 = true → AccDone W0 g5 (N * xn) w
  e0 : L 0 = true → V 51 = .agg #[.bool s5, .slice A5 m5 c5]
  e1 : L 1 = true → V 52 = .slice (some ⟨b, off, none⟩) fs.length c
  e2 : L 2 = true → V 53 = .int .i64 (k : Nat)
  e3 : L 3 = true → V 54 = .pointer (some ⟨b, off + k * 2, none⟩)
  e4 : L 4 = true → V 55 = .pointer (some ⟨b, off + k * 2, none⟩)
  e5 : L 5 = true → V 56 = .int .i64 xn

structure AcD (W0 : World) (fs : List Fr) (g6 b off c k : Nat) (s6 : Bool) (A6 : Option Addr) (m6 c6 : Nat) (E xd : Int) (L : Nat → Bool) (V : Nat → Value) (w : World) : Prop where
  p : L 8 = false → Below W0.heap.size W0 w
  zo : L 6 = true → L 7 = false → ∃ zn, zn ≤ 3 ∧ WIs w (V 65) xd zn
  zt : L 7 = true → L 8 = false → ∃ zs zA zc zk, V 66 = .agg #[.bool zs, .slice zA zk zc] ∧ WIs w (.agg #[.bool zs, .slice zA zk zc]) (E * xd) zk
  zf : L 8 = true → AccDone W0 g6 (E * xd) w
  e0 : L 0 = true → V 59 = .agg #[.bool s6, .slice A6 m6 c6]
  e1 : L 1 = true → V 60 = .slice (some ⟨b, off, none⟩) fs.length c
  e2 : L 2 = true → V 61 = .int .i64 (k : Nat)
  e3 : L 3 = true → V 62 = .pointer (some ⟨b, off + k * 2, none⟩)
  e4 : L 4 = true → V 63 = .pointer (some ⟨b, off + k * 2 + 1, none⟩)
  e5 : L 5 = true → V 64 = .int .i64 xd

structure CrX (W0 : World) (g3 : Nat) (x y N E : Int) (s5 : Bool) (A5 : Option Addr) (m5 c5 : Nat) (s6 : Bool) (A6 : Option Addr) (m6 c6 : Nat) (L : Nat → Bool) (V : Nat → Value) (w : World) : Prop where
  p : Below W0.heap.size W0 w
  za : L 6 = true → L 8 = false → ∃ zn, zn ≤ 3 ∧ WIs w (V 73) x zn
  zb : L 12 = true → L 13 = false → ∃ zn, zn ≤ 3 ∧ WIs w (V 79) y zn
  zt : L 8 = true → L 14 = false → ∃ zn, 0 ≤ zn ∧ WIs w (V 75) (x * E) zn
  zu : L 13 = true → L 14 = false → ∃ zn, 0 ≤ zn ∧ WIs w (V 80) (N * y) zn
  e1 : L 1 = true → V 68 = .bool true
  e2 : L 2 = true → V 69 = .bool false
  e3 : L 3 = true → V 70 = .bool false
  e14 : L 14 = true → V 81 = .int .i64 0
  e15 : L 15 = true → V 82 = .bool false
  e16 : L 16 = true → V 83 = .bool false
  e0 : L 0 = true → V 67 = .agg #[.int .i64 x, .int .i64 y]
  e4 : L 4 = true → V 71 = .pointer (some ⟨g3, 0, none⟩)
  e5 : L 5 = true → V 72 = .int .i64 x
  e7 : L 7 = true → V 74 = .agg #[.bool s6, .slice A6 m6 c6]
  e9 : L 9 = true → V 76 = .agg #[.bool s5, .slice A5 m5 c5]
  e10 : L 10 = true → V 77 = .pointer (some ⟨g3, 1, none⟩)
  e11 : L 11 = true → V 78 = .int .i64 y

structure LsZ (W0 : World) (fs : List Fr) (b off c q : Nat) (gn gd ln ld x y : Int) (L : Nat → Bool) (V : Nat → Value) (w : World) : Prop where
  p : Below W0.heap.size W0 w
  zs : L 7 = true → L 8 = false → ∃ zg, V 111 = .slice (some ⟨zg, 0, none⟩) 2 2 ∧ Rd w w.heap.size (some ⟨zg, 0, none⟩) (cellsF [⟨gn, gd⟩, ⟨ln, ld⟩])
  zb : L 12 = true → L 13 = false → ∃ zg, V 10 = .pointer (some ⟨zg, 0, none⟩) ∧ W0.heap.size ≤ zg ∧ Blk w zg 23 #[.int .i64 0, .int .i64 0]
  zf : L 13 = true → ∃ zg, V 10 = .pointer (some ⟨zg, 0, none⟩) ∧ W0.heap.size ≤ zg ∧ Blk w zg 23 #[.int .i64 x, .int .i64 y]
  e8 : L 8 = true → V 112 = .tuple #[.agg #[.int .i64 x, .int .i64 y], .int .i64 0]
  e9 : L 9 = true → V 103 = .tuple #[.agg #[.int .i64 x, .int .i64 y], .int .i64 0]
  e0 : L 0 = true → V 104 = .agg #[.int .i64 gn, .int .i64 gd]
  e1 : L 1 = true → V 105 = .slice (some ⟨b, off, none⟩) fs.length c
  e2 : L 2 = true → V 106 = .slice (some ⟨b, off, none⟩) fs.length c
  e3 : L 3 = true → V 107 = .int .i64 (fs.length : Nat)
  e4 : L 4 = true → V 108 = .int .i64 (q : Nat)
  e5 : L 5 = true → V 109 = .pointer (some ⟨b, off + q * 2, none⟩)
  e6 : L 6 = true → V 110 = .agg #[.int .i64 ln, .int .i64 ld]
  e10 : L 10 = true → V 113 = .agg #[.int .i64 x, .int .i64 y]
  e11 : L 11 = true → V 114 = .int .i64 0
  e14 : L 14 = true → V 11 = .int .i64 0

set_option maxRecDepth 100000 in
set_option maxHeartbeats 4000000 in
theorem exact_arg (fs : List Fr) (A : Option Addr) (l c : Nat) (w : World) (hl : fs.length = l) (hx : ∀ a ∈ fs, a.fit) (hr : Rd w w.heap.size A (cellsF fs)) (h3 : ¬ l > 300) (e0 : mulR fs = (⟨0, 0⟩, 1)) : Calls Try.prog 10 #[.slice A l c] w fun e w' => e = .returned (.bool true) ∧ Below w.heap.size w w' := by
  have h300 : decide ((l : Int) > 300) = false := decide_eq_false (by omega)
  go_enter Try.func10, Try.ntmps10
  go_wp2_with fail
  refine (lentF_any fs A l c _ _ hl hr (by omega)).mono ?_
  rintro e w1 ⟨g, c2, rfl, hwL⟩
  have bb := hwL.2.2.2
  have hmu := Lib.hid (fmul_any fs (some ⟨g, 0, none⟩) l c2 w1 hl hx hwL.rdf (by unfold maxLen; omega))
  rw [e0] at hmu
  clear hwL
  go_wp2_with fail
  refine hmu.out.mono ?_
  rintro e w2 ⟨rfl, hb2⟩
  have bb := bb.trans (hb2.mono bb.size)
  have bb := bb.alloc bb.size (.cells #[.int .i64 0, .int .i64 0] 23)
  have kf := Blk.new w2 _ rfl 23 #[.int .i64 0, .int .i64 0]
  clear hb2
  go_wp2_with fail
  refine (awake_any _).mono ?_
  rintro e w3 ⟨rfl, hb3⟩
  have kf := kf.low hb3 kf.lt
  have bb := bb.trans (hb3.mono bb.size)
  have c0 := kf.cell 0
  have c1 := kf.cell 1
  simp only [List.getElem?_toArray, List.getElem?_cons_zero, List.getElem?_cons_succ] at c0 c1
  clear hb3 kf
  go_wp2_with fail
  go_ret
  exact ⟨by simp, bb⟩
set_option maxRecDepth 100000 in
set_option maxHeartbeats 4000000 in
theorem exact_big (fs : List Fr) (A : Option Addr) (l c : Nat) (w : World) (hl : fs.length = l) (hx : ∀ a ∈ fs, a.fit) (hr : Rd w w.heap.size A (cellsF fs)) (h3 : ¬ l > 300) (e0 : mulR fs = (⟨0, 0⟩, 4)) : Calls Try.prog 10 #[.slice A l c] w fun e w' => e = .returned (.bool true) ∧ Below w.heap.size w w' := by
  have h300 : decide ((l : Int) > 300) = false := decide_eq_false (by omega)
  go_enter Try.func10, Try.ntmps10
  go_wp2_with fail
  refine (lentF_any fs A l c _ _ hl hr (by omega)).mono ?_
  rintro e w1 ⟨g, c2, rfl, hwL⟩
  have bb := hwL.2.2.2
  have hmu := Lib.hid (fmul_any fs (some ⟨g, 0, none⟩) l c2 w1 hl hx hwL.rdf (by unfold maxLen; omega))
  rw [e0] at hmu
  clear hwL
  go_wp2_with fail
  refine hmu.out.mono ?_
  rintro e w2 ⟨rfl, hb2⟩
  have bb := bb.trans (hb2.mono bb.size)
  have bb := bb.alloc bb.size (.cells #[.int .i64 0, .int .i64 0] 23)
  have kf := Blk.new w2 _ rfl 23 #[.int .i64 0, .int .i64 0]
  clear hb2
  go_wp2_with fail
  refine (awake_any _).mono ?_
  rintro e w3 ⟨rfl, hb3⟩
  have kf := kf.low hb3 kf.lt
  have bb := bb.trans (hb3.mono bb.size)
  have c0 := kf.cell 0
  have c1 := kf.cell 1
  simp only [List.getElem?_toArray, List.getElem?_cons_zero, List.getElem?_cons_succ] at c0 c1
  clear hb3 kf
  go_wp2_with fail
  go_ret
  exact ⟨by simp, bb⟩
set_option maxRecDepth 100000 in
set_option maxHeartbeats 4000000 in
theorem exact_long (A : Option Addr) (l c : Nat) (w : World) (h3 : l > 300) : Calls Try.prog 10 #[.slice A l c] w fun e w' => e = .returned (.bool true) ∧ Below w.heap.size w w' := by
  have h300 : decide ((l : Int) > 300) = true := decide_eq_true (by omega)
  go_enter Try.func10, Try.ntmps10
  go_wp2_with fail
  go_ret
  exact ⟨rfl, Below.refl _ _⟩
theorem last_nums {n q c : Nat} (hq : n = q + 1) (lc : n ≤ c) (h3 : ¬ n > 300) :
    q ≤ c ∧ IntKind.i64.wrap ((n : Int) - 1) = (q : Int) ∧ wrap64 ((n : Int) - 1) = (q : Int) ∧ (0 : Int) ≤ (q : Int) ∧ (q : Int) < (n : Int) ∧ q ≤ maxLen ∧ q < n ∧ q * 16 ≤ 140737488351232 ∧ q ≤ 300 := by
  refine ⟨by omega, ?_, ?_, by omega, by omega, by unfold maxLen; omega, by omega, by omega, by omega⟩
  · rw [IntKind.wrap_i64]; omega
  · unfold wrap64; omega
set_option maxRecDepth 100000 in
set_option maxHeartbeats 4000000 in
theorem exact_ok (fs : List Fr) (A : Option Addr) (l c : Nat) (w : World) (hl : fs.length = l) (lc : l ≤ c) (hx : ∀ a ∈ fs, a.fit) (hr : Rd w w.heap.size A (cellsF fs)) (h3 : ¬ l > 300) (x y : Int) (e0 : mulR fs = (⟨x, y⟩, 0)) : Calls Try.prog 10 #[.slice A l c] w fun e w' => e = .returned (.bool true) ∧ Below w.heap.size w w' := by
  subst hl
  have h300 : decide ((fs.length : Int) > 300) = false := decide_eq_false (by omega)
  have Hmu := Lib.hid fun (A : Option Addr) (c : Nat) (w : World) (hr : Rd w w.heap.size A (cellsF fs)) => fmul_any fs A fs.length c w rfl hx hr (by unfold maxLen; omega)
  rw [e0] at Hmu
  have Hall := Lib.hid (mulR_ok e0).1
  have hfit := mulR_fit e0
  obtain ⟨hvf, hE⟩ := mulR_worth e0
  have hfx : fits x := hfit.1
  have hfy : fits y := hfit.2
  have VC := Lib.hid fun w => valid_of ⟨x, y⟩ w hfit
  rw [hvf] at VC
  have HE : Hid (x * prodD fs = prodN fs * y) := hE
  have E0 := Lib.hid e0
  have Hpw := Lib.hid (prodN_pw hx)
  clear hE hvf hfit e0
  go_enter Try.func10, Try.ntmps10
  go_wp2_with fail
  refine (lentF_any fs A fs.length c _ _ rfl hr (by omega)).mono ?_
  rintro e w1 ⟨g, c2, rfl, hwL⟩
  have bb := hwL.2.2.2
  have rL := hwL.rdf
  clear hwL
  go_wp2_with fail
  refine (Hmu.out _ _ _ rL).mono ?_
  rintro e w2 ⟨rfl, hb2⟩
  have bb := bb.trans (hb2.mono bb.size)
  have bb := bb.alloc bb.size (.cells #[.int .i64 x, .int .i64 y] 23)
  have k3 := Blk.new w2 _ rfl 23 #[.int .i64 x, .int .i64 y]
  clear hb2 rL
  go_wp2_with fail
  refine (of_agg 1 _ (fitI _ (by omega))).mono ?_
  rintro e w3 ⟨s5, A5, c5, m5, rfl, hw5, hm5, hb3⟩
  have k3 := k3.low hb3 k3.lt
  have bb := bb.trans (hb3.mono bb.size)
  have hB3 := Lib.hid bb
  have Hr := Lib.hid ((hr.below bb (Nat.le_refl _)).more bb.size)
  have hs3 := bb.size
  have b3 := (Below.refl w3.heap.size w3).alloc (Nat.le_refl _) (.cells #[.bool s5, .slice A5 m5 c5] 48)
  have k5 := Blk.new w3 _ rfl 48 #[.bool s5, .slice A5 m5 c5]
  have hw5 := hw5.below b3
  have k3l := k3.lt
  have K3 := Lib.hid k3
  clear hb3 bb k3
  go_wp2_with fail
  refine (of_agg 1 _ (fitI _ (by omega))).mono ?_
  rintro e w4 ⟨s6, A6, c6, m6, rfl, hw6, hm6, hb4⟩
  have k5 := k5.low hb4 k5.lt
  have hw5 := hw5.below hb4
  have b4 := b3.trans (hb4.mono b3.size)
  have k5l := k5.lt
  have k5 := k5.alloc (.cells #[.bool s6, .slice A6 m6 c6] 48)
  have ba := (Below.refl w4.heap.size w4).alloc (Nat.le_refl _) (.cells #[.bool s6, .slice A6 m6 c6] 48)
  have hw5 := hw5.below ba
  have hw6 := hw6.below ba
  have k6 := Blk.new w4 _ rfl 48 #[.bool s6, .slice A6 m6 c6]
  have b5 := b4.alloc b4.size (.cells #[.bool s6, .slice A6 m6 c6] 48)
  have h46 := b4.size
  have H0 := Lib.hid (And.intro b5 (And.intro k5 (And.intro k6 (And.intro hw5 hw6))))
  clear hb4 b3 b4 k5 k6 hw5 hw6 ba b5
  go_wp2_with fail
  obtain ⟨g3, hg3⟩ : ∃ g, w2.heap.size = g := ⟨_, rfl⟩
  obtain ⟨g5, hg5⟩ : ∃ g, w3.heap.size = g := ⟨_, rfl⟩
  obtain ⟨g6, hg6⟩ : ∃ g, w4.heap.size = g := ⟨_, rfl⟩
  rw [hg5, hg6] at H0
  rw [hg3] at K3 k3l
  rw [hg5] at k3l k5l h46
  rw [hg6] at k5l h46
  try rw [hg3]
  try rw [hg5]
  try rw [hg6]
  have HG5 := Lib.hid hg5
  clear hg3 hg5 hg6
  go_loopw [7] (fun i wr => ∃ (k : Nat) (s5 : Bool) (A5 : Option Addr) (c5 m5 : Nat) (s6 : Bool) (A6 : Option Addr) (c6 m6 : Nat), k ≤ fs.length ∧ i = .int .i64 k ∧ Below g5 w3 wr ∧ Blk wr g5 48 #[.bool s5, .slice A5 m5 c5] ∧ Blk wr g6 48 #[.bool s6, .slice A6 m6 c6] ∧ WIs wr (.agg #[.bool s5, .slice A5 m5 c5]) (prodN (fs.take k)) m5 ∧ WIs wr (.agg #[.bool s6, .slice A6 m6 c6]) (prodD (fs.take k)) m6) (fun i _ => fs.length - (intOf i).toNat)
  case atStart => exact ⟨0, s5, A5, c5, m5, s6, A6, c6, m6, Nat.zero_le _, rfl, H0.out.1, H0.out.2.1, H0.out.2.2.1, H0.out.2.2.2.1, H0.out.2.2.2.2⟩
  case round =>
    clear H0 hm5 hm6
    obtain ⟨k, s5, A5, c5, m5, s6, A6, c6, m6, hk, rfl, hb, k5, k6, hw5, hw6⟩ := hrel
    have hHB := hb
    have hm5 : m5 ≤ 901 := by have h1 := hw5.short (3 * k + 1) (Int.lt_of_le_of_lt (Hpw.out k hk).1 (pw_lt k)); omega
    have hm6 : m6 ≤ 901 := by have h1 := hw6.short (3 * k + 1) (Int.lt_of_le_of_lt (Hpw.out k hk).2 (pw_lt k)); omega
    by_cases hlt : k < fs.length
    · have hg53 : w3.heap.size = g5 := HG5.out
      obtain ⟨b, off, ⟨xn, xd⟩, rfl, hbl, hfx, c0, c1, hd, hxx⟩ := Hr.out.fr hx hlt
      have hvx := Hall.out _ (List.mem_of_getElem? hxx.out)
      have hbg : b < g5 := by omega
      have hts : fs.take (k + 1) = fs.take k ++ [⟨xn, xd⟩] := by rw [List.take_add_one, hxx.out]; rfl
      have vc := Lib.hid fun w => valid_of ⟨xn, xd⟩ w hfx
      rw [hvx] at vc
      obtain ⟨hfn, hfd⟩ := hfx
      simp only at c0 c1 hfn hfd
      have hgw5 : g5 < wr.heap.size := k5.lt
      have hgw6 : g6 < wr.heap.size := k6.lt
      have XN := Lib.hid c0
      have XD := Lib.hid c1
      have d0 := (hb.cell (p := ⟨b, off + k * 2, none⟩) hbg).trans c0
      have d1 := (hb.cell (p := ⟨b, off + k * 2 + 1, none⟩) hbg).trans c1
      obtain ⟨N, hN⟩ : ∃ N, prodN (fs.take k) = N := ⟨_, rfl⟩
      obtain ⟨E, hEE⟩ : ∃ E, prodD (fs.take k) = E := ⟨_, rfl⟩
      have hN2 : prodN (fs.take (k + 1)) = N * xn := by rw [hts, prodN_snoc, hN]
      have hE2 : prodD (fs.take (k + 1)) = E * xd := by rw [hts, prodD_snoc, hEE]
      rw [hN] at hw5
      rw [hEE] at hw6
      have HN2 := Lib.hid hN2
      have HE2 := Lib.hid hE2
      have HX := Lib.hid (And.intro hb (And.intro k5 (And.intro k6 (And.intro hw5 hw6))))
      clear hN hEE hN2 hE2 hts hd hxx hvx c0 c1 hb hHB k5 k6 hw5 hw6 hg53
      go_wp2_with fail
      refine (vc.out wr).mono ?_
      rintro e w5 ⟨rfl, hb5⟩
      obtain ⟨hb, k5, k6, hw5, hw6⟩ := HX.out
      have k5 := k5.low hb5 hgw5
      have k6 := k6.low hb5 hgw6
      have hw5 := hw5.below hb5
      have hw6 := hw6.below hb5
      have hb := hb.trans (hb5.mono (by omega))
      have hbW : b < w5.heap.size := by have := hb5.size; omega
      have hgw5 : g5 < w5.heap.size := k5.lt
      have hgw6 : g6 < w5.heap.size := k6.lt
      have X : Hid (w5.cell? ⟨b, off + k * 2, none⟩ = some (.int .i64 xn)) := (hb.cell (p := ⟨b, off + k * 2, none⟩) hbg).trans XN.out
      have K5 := Lib.hid k5
      have W5 := Lib.hid hw5
      have K6 := Lib.hid k6
      have W6 := Lib.hid hw6
      have HB := Lib.hid hb
      clear HX k5 k6 hw5 hw6 hb hb5 d0 d1
      go_wp2_with fail
      have hIN : ∀ V, AcN w5 fs g5 b off c k s5 A5 m5 c5 N xn (fun _ => false) V w5.drew := fun V => by
        have h0 : Below w5.heap.size w5 w5.drew := Drawn.below _ ((Drawn.refl w5).drewN 1)
        constructor
        all_goals first
          | exact fun _ => h0
          | exact h0
          | (intro h; cases h)
      refine wp_region_put3 [51, 52, 53, 54, 55, 56, 57, 58] (AcN w5 fs g5 b off c k s5 A5 m5 c5 N xn) (by kernel_rfl) (by kernel_rfl) ?_ ?_ ?_
      · exact hIN _
      · intro i o ho L V w1 hi hL hno h K hK
        rcases i with _ | _ | _ | _ | _ | _ | _ | _ | _ | i
        · replace ho := Option.some.inj ho
          subst ho
          simp only [putAll, List.foldl_cons, List.foldl_nil, List.setIfInBounds_toArray, List.set_cons_zero, List.set_cons_succ]
          have l8 : L 8 = false := hno 8 (by kernel_rfl)
          have ct0 := (K5.out.low (h.p l8) (by omega)).cell 0
          have ct1 := (K5.out.low (h.p l8) (by omega)).cell 1
          simp only [List.getElem?_toArray, List.getElem?_cons_zero, List.getElem?_cons_succ] at ct0 ct1
          clear hL hno
          go_simp
          refine hK (updV V 51 (.agg #[.bool s5, .slice A5 m5 c5])) _ _ (by simp [putAll, updV]) ?_
          exact { h with e0 := fun _ => rfl }
        · replace ho := Option.some.inj ho
          subst ho
          simp only [putAll, List.foldl_cons, List.foldl_nil, List.setIfInBounds_toArray, List.set_cons_zero, List.set_cons_succ]
          clear hL hno
          go_simp
          refine hK (updV V 52 (.slice (some ⟨b, off, none⟩) fs.length c)) _ _ (by simp [putAll, updV]) ?_
          exact { h with e1 := fun _ => rfl }
        · replace ho := Option.some.inj ho
          subst ho
          simp only [putAll, List.foldl_cons, List.foldl_nil, List.setIfInBounds_toArray, List.set_cons_zero, List.set_cons_succ]
          clear hL hno
          go_simp
          refine hK (updV V 53 (.int .i64 (k : Nat))) _ _ (by simp [putAll, updV]) ?_
          exact { h with e2 := fun _ => rfl }
        · replace ho := Option.some.inj ho
          subst ho
          simp only [putAll, List.foldl_cons, List.foldl_nil, List.setIfInBounds_toArray, List.set_cons_zero, List.set_cons_succ]
          have e1 : V 52 = _ := h.e1 (hL ⟨1, .data⟩ (by simp) rfl)
          have e2 : V 53 = _ := h.e2 (hL ⟨2, .data⟩ (by simp) rfl)
          clear hL hno
          go_simp
          refine hK (updV V 54 (.pointer (some ⟨b, off + k * 2, none⟩))) _ _ (by simp [putAll, updV, e1, e2]) ?_
          exact { h with e3 := fun _ => rfl }
        · replace ho := Option.some.inj ho
          subst ho
          simp only [putAll, List.foldl_cons, List.foldl_nil, List.setIfInBounds_toArray, List.set_cons_zero, List.set_cons_succ]
          have e3 : V 54 = _ := h.e3 (hL ⟨3, .data⟩ (by simp) rfl)
          clear hL hno
          go_simp
          refine hK (updV V 55 (.pointer (some ⟨b, off + k * 2, none⟩))) _ _ (by simp [putAll, updV, e3]) ?_
          exact { h with e4 := fun _ => rfl }
        · replace ho := Option.some.inj ho
          subst ho
          simp only [putAll, List.foldl_cons, List.foldl_nil, List.setIfInBounds_toArray, List.set_cons_zero, List.set_cons_succ]
          have e4 : V 55 = _ := h.e4 (hL ⟨4, .data⟩ (by simp) rfl)
          have l8 : L 8 = false := hno 8 (by kernel_rfl)
          have ct := (Below_cell (h.p l8) hbW X.out)
          clear hL hno
          go_simp
          refine hK (updV V 56 (.int .i64 xn)) _ _ (by simp [putAll, updV, e4]) ?_
          exact { h with e5 := fun _ => rfl }
        · replace ho := Option.some.inj ho
          subst ho
          have e5 : V 56 = _ := h.e5 (hL ⟨5, .data⟩ (by simp) rfl)
          have l8 : L 8 = false := hno 8 (by kernel_rfl)
          have l7 : L 7 = false := hno 7 (by kernel_rfl)
          clear hL hno
          simp only [putAll, List.foldl_cons, List.foldl_nil, List.setIfInBounds_toArray, List.set_cons_zero, List.set_cons_succ]
          go_simp
          refine (of_any xn w1 (by assumption)).mono ?_
          intro e w3 hof
          refine Exists.elim hof fun v hq => Exists.elim hq fun n hq2 => ?_
          have he := hq2.1
          have hv := hq2.2.1
          have hn := hq2.2.2.1
          have hb3 := hq2.2.2.2
          clear hof hq hq2
          subst he
          refine hK (updV V 57 v) _ _ (by simp [putAll, updV, e5]) ?_
          exact { h with
            p := fun hn8 => (h.p hn8).trans (hb3.mono (h.p hn8).size)
            zo := fun _ _ => ⟨n, hn, hv⟩
            zt := fun hn => (by cases (hn.symm.trans l7))
            zf := fun hn => (by cases (hn.symm.trans l8)) }
        · replace ho := Option.some.inj ho
          subst ho
          have e0 : V 51 = _ := h.e0 (hL ⟨0, .data⟩ (by simp) rfl)
          have t6 : L 6 = true := hL ⟨6, .data⟩ (by simp) rfl
          have l8 : L 8 = false := hno 8 (by kernel_rfl)
          have l7 : L 7 = false := hi
          clear hL hno
          simp only [putAll, List.foldl_cons, List.foldl_nil, List.setIfInBounds_toArray, List.set_cons_zero, List.set_cons_succ]
          refine Exists.elim (h.zo t6 l7) fun n hq => ?_
          have hn := hq.1
          have hv := hq.2
          have hw5 := W5.out.below (h.p l8)
          clear hq
          go_simp
          refine (times_any (.agg #[.bool s5, .slice A5 m5 c5]) (V 57) N xn m5 n w1 hw5 hv (by omega) (by omega)).mono ?_
          intro e w3 hmk
          refine makes_elim hmk fun zs zA zc zk he hv3 hnew hb3 => ?_
          clear hmk hnew
          subst he
          refine hK (updV V 58 (.agg #[.bool zs, .slice zA zk zc])) _ _ (by simp [putAll, updV, e0]) ?_
          exact { h with
            p := fun hn8 => (h.p hn8).trans (hb3.mono (h.p hn8).size)
            zo := fun _ hn => (by cases hn)
            zt := fun _ _ => ⟨zs, zA, zc, zk, rfl, hv3⟩
            zf := fun hn => (by cases (hn.symm.trans l8)) }
        · replace ho := Option.some.inj ho
          subst ho
          have t7 : L 7 = true := hL ⟨7, .data⟩ (by simp) rfl
          have l8 : L 8 = false := hi
          clear hL hno
          simp only [putAll, List.foldl_cons, List.foldl_nil, List.setIfInBounds_toArray, List.set_cons_zero, List.set_cons_succ]
          refine Exists.elim (h.zt t7 l8) fun zs hs => Exists.elim hs fun zA ha => Exists.elim ha fun zc hc => Exists.elim hc fun zk hk => ?_
          have r1 := hk.1
          have r2 := hk.2
          have pb := h.p l8
          clear hs ha hc hk
          have kb := K5.out.low pb (by omega)
          have f0 := kb.cell 0
          have f1 := kb.cell 1
          have z0 := kb.frozen 0
          have z1 := kb.frozen 1
          simp only [List.getElem?_toArray, List.getElem?_cons_zero, List.getElem?_cons_succ] at f0 f1
          have hzf := acc_stored g5 (zs := zs) (zA := zA) (zc := zc) (zk := zk) pb r2
          clear kb pb r2
          go_simp
          refine hK V _ _ (by simp [putAll, r1]) ?_
          exact { h with p := fun hn => (by cases hn), zo := fun _ hn => (by cases (hn.symm.trans t7)), zt := fun _ hn => (by cases hn), zf := fun _ => hzf }
        · simp at ho
      · clear hIN
        intro L V w6 hL h
        have t8 : L 8 = true := hL 8 (by simp)
        refine Exists.elim (h.zf t8) fun wp hq1 => Exists.elim hq1 fun sn hq2 => Exists.elim hq2 fun An hq3 => Exists.elim hq3 fun cn hq4 => Exists.elim hq4 fun mn hq5 => ?_
        have hW6 := hq5.1
        have bp := hq5.2.1
        have hwn := hq5.2.2
        clear t8 hq1 hq2 hq3 hq4 hq5
        simp only [putAll, List.foldl_cons, List.foldl_nil, List.setIfInBounds_toArray, List.set_cons_zero, List.set_cons_succ]
        have kold := K5.out.low bp hgw5
        have n5 := (kold.set 0 (.bool sn)).set 1 (.slice An mn cn)
        have n6 := ((K6.out.low bp hgw6).far (p := ⟨g5, 0, none⟩) (by simp; omega) (.bool sn)).far (p := ⟨g5, 1, none⟩) (by simp; omega) (.slice An mn cn)
        have nw5 := hwn.apart kold sn An mn cn
        have nw6 := (W6.out.below bp).apart kold sn An mn cn
        have nb := ((HB.out.trans (bp.mono (by omega))).setCell (p := ⟨g5, 0, none⟩) (Nat.le_refl _) (.bool sn)).setCell (p := ⟨g5, 1, none⟩) (Nat.le_refl _) (.slice An mn cn)
        rw [← hW6] at n5 n6 nw5 nw6 nb
        simp at n5
        have hbW : b < w6.heap.size := by have := nb.size; omega
        have hgw5 : g5 < w6.heap.size := n5.lt
        have hgw6 : g6 < w6.heap.size := n6.lt
        have X : Hid (w6.cell? ⟨b, off + k * 2 + 1, none⟩ = some (.int .i64 xd)) := (nb.cell (p := ⟨b, off + k * 2 + 1, none⟩) hbg).trans XD.out
        have K5 := Lib.hid n5
        have W5 := Lib.hid nw5
        have K6 := Lib.hid n6
        have W6 := Lib.hid nw6
        have HB := Lib.hid nb
        clear h hL hW6 bp hwn kold n5 n6 nw5 nw6 nb
        generalize V 51 = v51
        generalize V 52 = v52
        generalize V 53 = v53
        generalize V 54 = v54
        generalize V 55 = v55
        generalize V 56 = v56
        generalize V 57 = v57
        generalize V 58 = v58
        go_wp2_with fail
        have hID : ∀ V, AcD w6 fs g6 b off c k s6 A6 m6 c6 E xd (fun _ => false) V w6.drew := fun V => by
          have h0 : Below w6.heap.size w6 w6.drew := Drawn.below _ ((Drawn.refl w6).drewN 1)
          constructor
          all_goals first
            | exact fun _ => h0
            | exact h0
            | (intro h; cases h)
        refine wp_region_put3 [59, 60, 61, 62, 63, 64, 65, 66] (AcD w6 fs g6 b off c k s6 A6 m6 c6 E xd) (by kernel_rfl) (by kernel_rfl) ?_ ?_ ?_
        · exact hID _
        · intro i o ho L V w1 hi hL hno h K hK
          rcases i with _ | _ | _ | _ | _ | _ | _ | _ | _ | i
          · replace ho := Option.some.inj ho
            subst ho
            simp only [putAll, List.foldl_cons, List.foldl_nil, List.setIfInBounds_toArray, List.set_cons_zero, List.set_cons_succ]
            have l8 : L 8 = false := hno 8 (by kernel_rfl)
            have ct0 := (K6.out.low (h.p l8) (by omega)).cell 0
            have ct1 := (K6.out.low (h.p l8) (by omega)).cell 1
            simp only [List.getElem?_toArray, List.getElem?_cons_zero, List.getElem?_cons_succ] at ct0 ct1
            clear hL hno
            go_simp
            refine hK (updV V 59 (.agg #[.bool s6, .slice A6 m6 c6])) _ _ (by simp [putAll, updV]) ?_
            exact { h with e0 := fun _ => rfl }
          · replace ho := Option.some.inj ho
            subst ho
            simp only [putAll, List.foldl_cons, List.foldl_nil, List.setIfInBounds_toArray, List.set_cons_zero, List.set_cons_succ]
            clear hL hno
            go_simp
            refine hK (updV V 60 (.slice (some ⟨b, off, none⟩) fs.length c)) _ _ (by simp [putAll, updV]) ?_
            exact { h with e1 := fun _ => rfl }
          · replace ho := Option.some.inj ho
            subst ho
            simp only [putAll, List.foldl_cons, List.foldl_nil, List.setIfInBounds_toArray, List.set_cons_zero, List.set_cons_succ]
            clear hL hno
            go_simp
            refine hK (updV V 61 (.int .i64 (k : Nat))) _ _ (by simp [putAll, updV]) ?_
            exact { h with e2 := fun _ => rfl }
          · replace ho := Option.some.inj ho
            subst ho
            simp only [putAll, List.foldl_cons, List.foldl_nil, List.setIfInBounds_toArray, List.set_cons_zero, List.set_cons_succ]
            have e1 : V 60 = _ := h.e1 (hL ⟨1, .data⟩ (by simp) rfl)
            have e2 : V 61 = _ := h.e2 (hL ⟨2, .data⟩ (by simp) rfl)
            clear hL hno
            go_simp
            refine hK (updV V 62 (.pointer (some ⟨b, off + k * 2, none⟩))) _ _ (by simp [putAll, updV, e1, e2]) ?_
            exact { h with e3 := fun _ => rfl }
          · replace ho := Option.some.inj ho
            subst ho
            simp only [putAll, List.foldl_cons, List.foldl_nil, List.setIfInBounds_toArray, List.set_cons_zero, List.set_cons_succ]
            have e3 : V 62 = _ := h.e3 (hL ⟨3, .data⟩ (by simp) rfl)
            clear hL hno
            go_simp
            refine hK (updV V 63 (.pointer (some ⟨b, off + k * 2 + 1, none⟩))) _ _ (by simp [putAll, updV, e3]) ?_
            exact { h with e4 := fun _ => rfl }
          · replace ho := Option.some.inj ho
            subst ho
            simp only [putAll, List.foldl_cons, List.foldl_nil, List.setIfInBounds_toArray, List.set_cons_zero, List.set_cons_succ]
            have e4 : V 63 = _ := h.e4 (hL ⟨4, .data⟩ (by simp) rfl)
            have l8 : L 8 = false := hno 8 (by kernel_rfl)
            have ct := (Below_cell (h.p l8) hbW X.out)
            clear hL hno
            go_simp
            refine hK (updV V 64 (.int .i64 xd)) _ _ (by simp [putAll, updV, e4]) ?_
            exact { h with e5 := fun _ => rfl }
          · replace ho := Option.some.inj ho
            subst ho
            have e5 : V 64 = _ := h.e5 (hL ⟨5, .data⟩ (by simp) rfl)
            have l8 : L 8 = false := hno 8 (by kernel_rfl)
            have l7 : L 7 = false := hno 7 (by kernel_rfl)
            clear hL hno
            simp only [putAll, List.foldl_cons, List.foldl_nil, List.setIfInBounds_toArray, List.set_cons_zero, List.set_cons_succ]
            go_simp
            refine (of_any xd w1 (by assumption)).mono ?_
            intro e w3 hof
            refine Exists.elim hof fun v hq => Exists.elim hq fun n hq2 => ?_
            have he := hq2.1
            have hv := hq2.2.1
            have hn := hq2.2.2.1
            have hb3 := hq2.2.2.2
            clear hof hq hq2
            subst he
            refine hK (updV V 65 v) _ _ (by simp [putAll, updV, e5]) ?_
            exact { h with
              p := fun hn8 => (h.p hn8).trans (hb3.mono (h.p hn8).size)
              zo := fun _ _ => ⟨n, hn, hv⟩
              zt := fun hn => (by cases (hn.symm.trans l7))
              zf := fun hn => (by cases (hn.symm.trans l8)) }
          · replace ho := Option.some.inj ho
            subst ho
            have e0 : V 59 = _ := h.e0 (hL ⟨0, .data⟩ (by simp) rfl)
            have t6 : L 6 = true := hL ⟨6, .data⟩ (by simp) rfl
            have l8 : L 8 = false := hno 8 (by kernel_rfl)
            have l7 : L 7 = false := hi
            clear hL hno
            simp only [putAll, List.foldl_cons, List.foldl_nil, List.setIfInBounds_toArray, List.set_cons_zero, List.set_cons_succ]
            refine Exists.elim (h.zo t6 l7) fun n hq => ?_
            have hn := hq.1
            have hv := hq.2
            have hw5 := W6.out.below (h.p l8)
            clear hq
            go_simp
            refine (times_any (.agg #[.bool s6, .slice A6 m6 c6]) (V 65) E xd m6 n w1 hw5 hv (by omega) (by omega)).mono ?_
            intro e w3 hmk
            refine makes_elim hmk fun zs zA zc zk he hv3 hnew hb3 => ?_
            clear hmk hnew
            subst he
            refine hK (updV V 66 (.agg #[.bool zs, .slice zA zk zc])) _ _ (by simp [putAll, updV, e0]) ?_
            exact { h with
              p := fun hn8 => (h.p hn8).trans (hb3.mono (h.p hn8).size)
              zo := fun _ hn => (by cases hn)
              zt := fun _ _ => ⟨zs, zA, zc, zk, rfl, hv3⟩
              zf := fun hn => (by cases (hn.symm.trans l8)) }
          · replace ho := Option.some.inj ho
            subst ho
            have t7 : L 7 = true := hL ⟨7, .data⟩ (by simp) rfl
            have l8 : L 8 = false := hi
            clear hL hno
            simp only [putAll, List.foldl_cons, List.foldl_nil, List.setIfInBounds_toArray, List.set_cons_zero, List.set_cons_succ]
            refine Exists.elim (h.zt t7 l8) fun zs hs => Exists.elim hs fun zA ha => Exists.elim ha fun zc hc => Exists.elim hc fun zk hk => ?_
            have r1 := hk.1
            have r2 := hk.2
            have pb := h.p l8
            clear hs ha hc hk
            have kb := K6.out.low pb (by omega)
            have f0 := kb.cell 0
            have f1 := kb.cell 1
            have z0 := kb.frozen 0
            have z1 := kb.frozen 1
            simp only [List.getElem?_toArray, List.getElem?_cons_zero, List.getElem?_cons_succ] at f0 f1
            have hzf := acc_stored g6 (zs := zs) (zA := zA) (zc := zc) (zk := zk) pb r2
            clear kb pb r2
            go_simp
            refine hK V _ _ (by simp [putAll, r1]) ?_
            exact { h with p := fun hn => (by cases hn), zo := fun _ hn => (by cases (hn.symm.trans t7)), zt := fun _ hn => (by cases hn), zf := fun _ => hzf }
          · simp at ho
        · clear hID
          intro L V w7 hL h
          have t8 : L 8 = true := hL 8 (by simp)
          refine Exists.elim (h.zf t8) fun wp hq1 => Exists.elim hq1 fun sd hq2 => Exists.elim hq2 fun Ad hq3 => Exists.elim hq3 fun cd hq4 => Exists.elim hq4 fun md hq5 => ?_
          have hW7 := hq5.1
          have bp := hq5.2.1
          have hwn := hq5.2.2
          clear t8 hq1 hq2 hq3 hq4 hq5
          simp only [putAll, List.foldl_cons, List.foldl_nil, List.setIfInBounds_toArray, List.set_cons_zero, List.set_cons_succ]
          have kold := K6.out.low bp hgw6
          have n6 := (kold.set 0 (.bool sd)).set 1 (.slice Ad md cd)
          have n5 := ((K5.out.low bp hgw5).far (p := ⟨g6, 0, none⟩) (by simp; omega) (.bool sd)).far (p := ⟨g6, 1, none⟩) (by simp; omega) (.slice Ad md cd)
          have nw6 := hwn.apart kold sd Ad md cd
          have nw5 := (W5.out.below bp).apart kold sd Ad md cd
          have nb := ((HB.out.trans (bp.mono (by omega))).setCell (p := ⟨g6, 0, none⟩) (by simp; omega) (.bool sd)).setCell (p := ⟨g6, 1, none⟩) (by simp; omega) (.slice Ad md cd)
          rw [← hW7] at n5 n6 nw5 nw6 nb
          simp at n6
          rw [← HN2.out] at nw5
          rw [← HE2.out] at nw6
          have HX := Lib.hid (And.intro nb (And.intro n5 (And.intro n6 (And.intro nw5 nw6))))
          clear h hL hW7 bp hwn kold n5 n6 nw5 nw6 nb K5 K6 W5 W6 HB
          generalize V 59 = v59
          generalize V 60 = v60
          generalize V 61 = v61
          generalize V 62 = v62
          generalize V 63 = v63
          generalize V 64 = v64
          generalize V 65 = v65
          generalize V 66 = v66
          go_wp2_with fail
          go_roundw
          case rel => exact ⟨k + 1, _, _, _, _, _, _, _, _, by omega, by go_num, HX.out.1, HX.out.2.1, HX.out.2.2.1, HX.out.2.2.2.1, HX.out.2.2.2.2⟩
          case measure => simp [intOf]; omega
    · have ht : fs.take k = fs := List.take_of_length_le (by omega)
      rw [ht] at hw5 hw6
      obtain rfl : k = fs.length := by omega
      clear hHB ht hlt hk
      obtain ⟨N, hN⟩ : ∃ N, prodN fs = N := ⟨_, rfl⟩
      obtain ⟨E, hEE⟩ : ∃ E, prodD fs = E := ⟨_, rfl⟩
      rw [hN] at hw5 HE
      rw [hEE] at hw6 HE
      clear hN hEE
      have hg53 : w3.heap.size = g5 := HG5.out
      have k3 := K3.out.low hb (by omega)
      have hgw3 : g3 < wr.heap.size := k3.lt
      have hgw5 : g5 < wr.heap.size := k5.lt
      have hgw6 : g6 < wr.heap.size := k6.lt
      have K3r := Lib.hid K3.out
      have K3 := Lib.hid k3
      have K5 := Lib.hid k5
      have W5 := Lib.hid hw5
      have K6 := Lib.hid k6
      have W6 := Lib.hid hw6
      have HB := Lib.hid hb
      clear k3 k5 k6 hw5 hw6 hb hg53 K3r
      go_wp2_with fail
      have hIC : ∀ V, CrX wr g3 x y N E s5 A5 m5 c5 s6 A6 m6 c6 (fun _ => false) V wr.drew := fun V => by
        have h0 : Below wr.heap.size wr wr.drew := Drawn.below _ ((Drawn.refl wr).drewN 1)
        constructor
        all_goals first
          | exact fun _ => h0
          | exact h0
          | (intro h; cases h)
      refine wp_region_put3 [67, 68, 69, 70, 71, 72, 73, 74, 75, 76, 77, 78, 79, 80, 81, 82, 83] (CrX wr g3 x y N E s5 A5 m5 c5 s6 A6 m6 c6) (by kernel_rfl) (by kernel_rfl) ?_ ?_ ?_
      · exact hIC _
      · intro i o ho L V w1 hi hL hno h K hK
        rcases i with _ | _ | _ | _ | _ | _ | _ | _ | _ | _ | _ | _ | _ | _ | _ | _ | _ | i
        · replace ho := Option.some.inj ho
          subst ho
          simp only [putAll, List.foldl_cons, List.foldl_nil, List.setIfInBounds_toArray, List.set_cons_zero, List.set_cons_succ]
          have ct0 := (K3.out.low h.p (by omega)).cell 0
          have ct1 := (K3.out.low h.p (by omega)).cell 1
          simp only [List.getElem?_toArray, List.getElem?_cons_zero, List.getElem?_cons_succ] at ct0 ct1
          clear hL hno
          go_simp
          refine hK (updV V 67 (.agg #[.int .i64 x, .int .i64 y])) _ _ (by simp [putAll, updV]) ?_
          exact { h with e0 := fun _ => rfl }
        · replace ho := Option.some.inj ho
          subst ho
          have e0 : V 67 = _ := h.e0 (hL ⟨0, .data⟩ (by simp) rfl)
          clear hL hno
          simp only [putAll, List.foldl_cons, List.foldl_nil, List.setIfInBounds_toArray, List.set_cons_zero, List.set_cons_succ]
          go_simp
          refine (VC.out w1).mono ?_
          rintro e w3 ⟨rfl, hb3⟩
          refine hK (updV V 68 (.bool true)) _ _ (by simp [putAll, updV, e0]) ?_
          exact { h with
            p := h.p.trans (hb3.mono h.p.size)
            za := fun h1 h2 => (h.za h1 h2).imp fun _ hq => ⟨hq.1, hq.2.below hb3⟩
            zb := fun h1 h2 => (h.zb h1 h2).imp fun _ hq => ⟨hq.1, hq.2.below hb3⟩
            zt := fun h1 h2 => (h.zt h1 h2).imp fun _ hq => ⟨hq.1, hq.2.below hb3⟩
            zu := fun h1 h2 => (h.zu h1 h2).imp fun _ hq => ⟨hq.1, hq.2.below hb3⟩
            e1 := fun _ => rfl }
        · replace ho := Option.some.inj ho
          subst ho
          have e1 : V 68 = _ := h.e1 (hL ⟨1, .data⟩ (by simp) rfl)
          clear hL hno
          simp only [putAll, List.foldl_cons, List.foldl_nil, List.setIfInBounds_toArray, List.set_cons_zero, List.set_cons_succ]
          go_simp
          refine hK (updV V 69 (.bool false)) _ _ (by simp [putAll, updV, e1]) ?_
          exact { h with e2 := fun _ => rfl }
        · replace ho := Option.some.inj ho
          subst ho
          have e2 : V 69 = _ := h.e2 (hL ⟨2, .data⟩ (by simp) rfl)
          clear hL hno
          simp only [putAll, List.foldl_cons, List.foldl_nil, List.setIfInBounds_toArray, List.set_cons_zero, List.set_cons_succ]
          go_simp
          refine hK (updV V 70 (.bool false)) _ _ (by simp [putAll, updV, e2]) ?_
          exact { h with e3 := fun _ => rfl }
        · replace ho := Option.some.inj ho
          subst ho
          simp only [putAll, List.foldl_cons, List.foldl_nil, List.setIfInBounds_toArray, List.set_cons_zero, List.set_cons_succ]
          have gd3 : V 70 = _ := h.e3 (hL ⟨3, .guard⟩ (by simp) rfl)
          clear hL hno
          go_simp
          refine hK (updV V 71 (.pointer (some ⟨g3, 0, none⟩))) _ _ (by simp [putAll, updV, gd3]) ?_
          exact { h with e4 := fun _ => rfl }
        · replace ho := Option.some.inj ho
          subst ho
          simp only [putAll, List.foldl_cons, List.foldl_nil, List.setIfInBounds_toArray, List.set_cons_zero, List.set_cons_succ]
          have e4 : V 71 = _ := h.e4 (hL ⟨4, .data⟩ (by simp) rfl)
          have gd3 : V 70 = _ := h.e3 (hL ⟨3, .guard⟩ (by simp) rfl)
          have ct := (K3.out.low h.p (by omega)).cell 0
          simp only [List.getElem?_toArray, List.getElem?_cons_zero] at ct
          clear hL hno
          go_simp
          refine hK (updV V 72 (.int .i64 x)) _ _ (by simp [putAll, updV, gd3, e4]) ?_
          exact { h with e5 := fun _ => rfl }
        · replace ho := Option.some.inj ho
          subst ho
          have gd3 : V 70 = _ := h.e3 (hL ⟨3, .guard⟩ (by simp) rfl)
          have e5 : V 72 = _ := h.e5 (hL ⟨5, .data⟩ (by simp) rfl)
          have lt : L 8 = false := hno 8 (by kernel_rfl)
          have l14 : L 14 = false := hno 14 (by kernel_rfl)
          clear hL hno
          simp only [putAll, List.foldl_cons, List.foldl_nil, List.setIfInBounds_toArray, List.set_cons_zero, List.set_cons_succ]
          go_simp
          refine (of_any x w1 (by assumption)).mono ?_
          intro e w3 hof
          refine Exists.elim hof fun v hq => Exists.elim hq fun n hq2 => ?_
          have he := hq2.1
          have hv := hq2.2.1
          have hn := hq2.2.2.1
          have hb3 := hq2.2.2.2
          clear hof hq hq2
          subst he
          refine hK (updV V 73 v) _ _ (by simp [putAll, updV, gd3, e5]) ?_
          exact { h with
            p := h.p.trans (hb3.mono h.p.size)
            za := fun _ _ => ⟨n, hn, hv⟩
            zb := fun h1 h2 => (h.zb h1 h2).imp fun _ hq => ⟨hq.1, hq.2.below hb3⟩
            zt := fun h1 h2 => (h.zt h1 h2).imp fun _ hq => ⟨hq.1, hq.2.below hb3⟩
            zu := fun h1 h2 => (h.zu h1 h2).imp fun _ hq => ⟨hq.1, hq.2.below hb3⟩ }
        · replace ho := Option.some.inj ho
          subst ho
          simp only [putAll, List.foldl_cons, List.foldl_nil, List.setIfInBounds_toArray, List.set_cons_zero, List.set_cons_succ]
          have gd3 : V 70 = _ := h.e3 (hL ⟨3, .guard⟩ (by simp) rfl)
          have ct0 := (K6.out.low h.p (by omega)).cell 0
          have ct1 := (K6.out.low h.p (by omega)).cell 1
          simp only [List.getElem?_toArray, List.getElem?_cons_zero, List.getElem?_cons_succ] at ct0 ct1
          clear hL hno
          go_simp
          refine hK (updV V 74 (.agg #[.bool s6, .slice A6 m6 c6])) _ _ (by simp [putAll, updV, gd3]) ?_
          exact { h with e7 := fun _ => rfl }
        · replace ho := Option.some.inj ho
          subst ho
          have gd3 : V 70 = _ := h.e3 (hL ⟨3, .guard⟩ (by simp) rfl)
          have e7 : V 74 = _ := h.e7 (hL ⟨7, .data⟩ (by simp) rfl)
          have ta : L 6 = true := hL ⟨6, .data⟩ (by simp) rfl
          have li : L 8 = false := hi
          clear hL hno
          simp only [putAll, List.foldl_cons, List.foldl_nil, List.setIfInBounds_toArray, List.set_cons_zero, List.set_cons_succ]
          refine Exists.elim (h.za ta li) fun n hq => ?_
          have hn := hq.1
          have hv := hq.2
          have hw5 := W6.out.below h.p
          clear hq
          go_simp
          refine (times_any (V 73) (.agg #[.bool s6, .slice A6 m6 c6]) x E n m6 w1 hv hw5 (by omega) (by omega)).mono ?_
          intro e w3 hmk
          refine makes_elim hmk fun zs zA zc zk he hv3 hnew hb3 => ?_
          clear hmk hnew
          subst he
          refine hK (updV V 75 (.agg #[.bool zs, .slice zA zk zc])) _ _ (by simp [putAll, updV, gd3, e7]) ?_
          exact { h with
            p := h.p.trans (hb3.mono h.p.size)
            za := fun _ hn => (by cases hn)
            zt := fun _ _ => ⟨zk, Nat.zero_le _, hv3⟩
            zb := fun h1 h2 => (h.zb h1 h2).imp fun _ hq => ⟨hq.1, hq.2.below hb3⟩
            zu := fun h1 h2 => (h.zu h1 h2).imp fun _ hq => ⟨hq.1, hq.2.below hb3⟩ }
        · replace ho := Option.some.inj ho
          subst ho
          simp only [putAll, List.foldl_cons, List.foldl_nil, List.setIfInBounds_toArray, List.set_cons_zero, List.set_cons_succ]
          have gd3 : V 70 = _ := h.e3 (hL ⟨3, .guard⟩ (by simp) rfl)
          have ct0 := (K5.out.low h.p (by omega)).cell 0
          have ct1 := (K5.out.low h.p (by omega)).cell 1
          simp only [List.getElem?_toArray, List.getElem?_cons_zero, List.getElem?_cons_succ] at ct0 ct1
          clear hL hno
          go_simp
          refine hK (updV V 76 (.agg #[.bool s5, .slice A5 m5 c5])) _ _ (by simp [putAll, updV, gd3]) ?_
          exact { h with e9 := fun _ => rfl }
        · replace ho := Option.some.inj ho
          subst ho
          simp only [putAll, List.foldl_cons, List.foldl_nil, List.setIfInBounds_toArray, List.set_cons_zero, List.set_cons_succ]
          have gd3 : V 70 = _ := h.e3 (hL ⟨3, .guard⟩ (by simp) rfl)
          clear hL hno
          go_simp
          refine hK (updV V 77 (.pointer (some ⟨g3, 1, none⟩))) _ _ (by simp [putAll, updV, gd3]) ?_
          exact { h with e10 := fun _ => rfl }
        · replace ho := Option.some.inj ho
          subst ho
          simp only [putAll, List.foldl_cons, List.foldl_nil, List.setIfInBounds_toArray, List.set_cons_zero, List.set_cons_succ]
          have e10 : V 77 = _ := h.e10 (hL ⟨10, .data⟩ (by simp) rfl)
          have gd3 : V 70 = _ := h.e3 (hL ⟨3, .guard⟩ (by simp) rfl)
          have ct := (K3.out.low h.p (by omega)).cell 1
          simp only [List.getElem?_toArray, List.getElem?_cons_zero, List.getElem?_cons_succ] at ct
          clear hL hno
          go_simp
          refine hK (updV V 78 (.int .i64 y)) _ _ (by simp [putAll, updV, gd3, e10]) ?_
          exact { h with e11 := fun _ => rfl }
        · replace ho := Option.some.inj ho
          subst ho
          have gd3 : V 70 = _ := h.e3 (hL ⟨3, .guard⟩ (by simp) rfl)
          have e11 : V 78 = _ := h.e11 (hL ⟨11, .data⟩ (by simp) rfl)
          have lt : L 13 = false := hno 13 (by kernel_rfl)
          have l14 : L 14 = false := hno 14 (by kernel_rfl)
          clear hL hno
          simp only [putAll, List.foldl_cons, List.foldl_nil, List.setIfInBounds_toArray, List.set_cons_zero, List.set_cons_succ]
          go_simp
          refine (of_any y w1 (by assumption)).mono ?_
          intro e w3 hof
          refine Exists.elim hof fun v hq => Exists.elim hq fun n hq2 => ?_
          have he := hq2.1
          have hv := hq2.2.1
          have hn := hq2.2.2.1
          have hb3 := hq2.2.2.2
          clear hof hq hq2
          subst he
          refine hK (updV V 79 v) _ _ (by simp [putAll, updV, gd3, e11]) ?_
          exact { h with
            p := h.p.trans (hb3.mono h.p.size)
            zb := fun _ _ => ⟨n, hn, hv⟩
            za := fun h1 h2 => (h.za h1 h2).imp fun _ hq => ⟨hq.1, hq.2.below hb3⟩
            zt := fun h1 h2 => (h.zt h1 h2).imp fun _ hq => ⟨hq.1, hq.2.below hb3⟩
            zu := fun h1 h2 => (h.zu h1 h2).imp fun _ hq => ⟨hq.1, hq.2.below hb3⟩ }
        · replace ho := Option.some.inj ho
          subst ho
          have gd3 : V 70 = _ := h.e3 (hL ⟨3, .guard⟩ (by simp) rfl)
          have e9 : V 76 = _ := h.e9 (hL ⟨9, .data⟩ (by simp) rfl)
          have ta : L 12 = true := hL ⟨12, .data⟩ (by simp) rfl
          have li : L 13 = false := hi
          clear hL hno
          simp only [putAll, List.foldl_cons, List.foldl_nil, List.setIfInBounds_toArray, List.set_cons_zero, List.set_cons_succ]
          refine Exists.elim (h.zb ta li) fun n hq => ?_
          have hn := hq.1
          have hv := hq.2
          have hw5 := W5.out.below h.p
          clear hq
          go_simp
          refine (times_any (.agg #[.bool s5, .slice A5 m5 c5]) (V 79) N y m5 n w1 hw5 hv (by omega) (by omega)).mono ?_
          intro e w3 hmk
          refine makes_elim hmk fun zs zA zc zk he hv3 hnew hb3 => ?_
          clear hmk hnew
          subst he
          refine hK (updV V 80 (.agg #[.bool zs, .slice zA zk zc])) _ _ (by simp [putAll, updV, gd3, e9]) ?_
          exact { h with
            p := h.p.trans (hb3.mono h.p.size)
            zb := fun _ hn => (by cases hn)
            zu := fun _ _ => ⟨zk, Nat.zero_le _, hv3⟩
            za := fun h1 h2 => (h.za h1 h2).imp fun _ hq => ⟨hq.1, hq.2.below hb3⟩
            zt := fun h1 h2 => (h.zt h1 h2).imp fun _ hq => ⟨hq.1, hq.2.below hb3⟩ }
        · replace ho := Option.some.inj ho
          subst ho
          have gd3 : V 70 = _ := h.e3 (hL ⟨3, .guard⟩ (by simp) rfl)
          have t8 : L 8 = true := hL ⟨8, .data⟩ (by simp) rfl
          have t13 : L 13 = true := hL ⟨13, .data⟩ (by simp) rfl
          have l14 : L 14 = false := hi
          clear hL hno
          simp only [putAll, List.foldl_cons, List.foldl_nil, List.setIfInBounds_toArray, List.set_cons_zero, List.set_cons_succ]
          refine Exists.elim (h.zt t8 l14) fun n hq => Exists.elim (h.zu t13 l14) fun m hr => ?_
          have hv := hq.2
          have hw := hr.2
          clear hq hr
          go_simp
          have hcm := cmp_any (V 75) (V 80) _ _ n m w1 hv hw
          rw [cmpI_eq HE.out] at hcm
          refine hcm.mono ?_
          rintro e w3 ⟨rfl, hb3⟩
          refine hK (updV V 81 (.int .i64 0)) _ _ (by simp [putAll, updV, gd3]) ?_
          exact { h with
            p := h.p.trans (hb3.mono h.p.size)
            za := fun h1 h2 => (h.za h1 h2).imp fun _ hq => ⟨hq.1, hq.2.below hb3⟩
            zb := fun h1 h2 => (h.zb h1 h2).imp fun _ hq => ⟨hq.1, hq.2.below hb3⟩
            zt := fun _ hn => (by cases hn)
            zu := fun _ hn => (by cases hn)
            e14 := fun _ => rfl }
        · replace ho := Option.some.inj ho
          subst ho
          have gd3 : V 70 = _ := h.e3 (hL ⟨3, .guard⟩ (by simp) rfl)
          have e14 : V 81 = _ := h.e14 (hL ⟨14, .data⟩ (by simp) rfl)
          clear hL hno
          simp only [putAll, List.foldl_cons, List.foldl_nil, List.setIfInBounds_toArray, List.set_cons_zero, List.set_cons_succ]
          go_simp
          refine hK (updV V 82 (.bool false)) _ _ (by simp [putAll, updV, gd3, e14]) ?_
          exact { h with e15 := fun _ => rfl }
        · replace ho := Option.some.inj ho
          subst ho
          have e3 : V 70 = _ := h.e3 (hL ⟨3, .data⟩ (by simp) rfl)
          have e15 : V 82 = _ := h.e15 (hL ⟨15, .data⟩ (by simp) rfl)
          clear hL hno
          simp only [putAll, List.foldl_cons, List.foldl_nil, List.setIfInBounds_toArray, List.set_cons_zero, List.set_cons_succ]
          go_simp
          refine hK (updV V 83 (.bool false)) _ _ (by simp [putAll, updV, e3, e15]) ?_
          exact { h with e16 := fun _ => rfl }
        · simp at ho
      · clear hIC
        intro L V w5 hL h
        have t16 : L 16 = true := hL 16 (by simp)
        have e16 := h.e16 t16
        have bp := h.p
        simp only [putAll, List.foldl_cons, List.foldl_nil, List.setIfInBounds_toArray, List.set_cons_zero, List.set_cons_succ, e16]
        have K3 := Lib.hid (K3.out.low bp hgw3)
        have hgw3 : g3 < w5.heap.size := by have := bp.size; omega
        have HB := Lib.hid (HB.out.trans (bp.mono (by omega)))
        clear h hL t16 e16 bp K5 K6 W5 W6 hgw5 hgw6
        generalize V 67 = v67
        generalize V 68 = v68
        generalize V 69 = v69
        generalize V 70 = v70
        generalize V 71 = v71
        generalize V 72 = v72
        generalize V 73 = v73
        generalize V 74 = v74
        generalize V 75 = v75
        generalize V 76 = v76
        generalize V 77 = v77
        generalize V 78 = v78
        generalize V 79 = v79
        generalize V 80 = v80
        generalize V 81 = v81
        generalize V 82 = v82
        by_cases hl0 : fs.length = 0
        · have hf0 : fs = [] := List.eq_nil_of_length_eq_zero hl0
          have e1 : (⟨x, y⟩ : Fr) = ⟨1, 1⟩ := by
            have := E0.out
            rw [hf0] at this
            exact (congrArg Prod.fst this).symm
          injection e1 with ex ey
          subst ex ey
          have hq0 : ((fs.length : Int) == 0) = true := by simpa using hl0
          clear hf0
          go_wp2_with fail
          refine (awake_any _).mono ?_
          rintro e w6 ⟨rfl, hb6⟩
          have k3 := K3.out.low hb6 hgw3
          have c0 := k3.cell 0
          have c1 := k3.cell 1
          simp only [List.getElem?_toArray, List.getElem?_cons_zero, List.getElem?_cons_succ] at c0 c1
          have hb6' := HB.out.trans (hb6.mono (by have := HB.out.size; have := HG5.out; omega))
          clear k3 hb6
          go_wp2_with fail
          go_ret
          exact ⟨by simp, hB3.out.trans (hb6'.mono (by have := HG5.out; omega))⟩
        · obtain ⟨q, hq⟩ : ∃ q, fs.length = q + 1 := ⟨fs.length - 1, by omega⟩
          have hq0 : ((fs.length : Int) == 0) = false := by simpa using hl0
          obtain ⟨hqc, hwq, hwq2, hqa, hqb, hqm, hql, hqz, hq3⟩ := last_nums hq lc h3
          obtain ⟨b, off, ⟨ln, ld⟩, rfl, hbl, hfx, c0, c1, hd, hxx⟩ := Hr.out.fr hx (k := q) hql
          have hsplit : fs = fs.take q ++ [⟨ln, ld⟩] := by
            conv => lhs; rw [← List.take_append_drop q fs]
            rw [hd.out, List.drop_eq_nil_of_le (Nat.le_of_eq hq)]
          have E1 := E0.out
          rw [hsplit] at E1
          obtain ⟨⟨gn, gd⟩, hmg, hgf, hml⟩ := mulR_snoc E1
          simp only at c0 c1
          have hg53 : w3.heap.size = g5 := HG5.out
          have hbg : b < g5 := by omega
          have rtake : Rd w5 w5.heap.size (some ⟨b, off, none⟩) (cellsF (fs.take q)) := by
            have h1 := (Hr.out.below HB.out (by omega)).more (B' := w5.heap.size) (by have := HB.out.size; omega)
            rw [hsplit, cellsF_append] at h1
            exact h1.front
          have hxt : ∀ a ∈ fs.take q, a.fit := fun a ha => hx a (List.mem_of_mem_take ha)
          have htl : (fs.take q).length = q := List.length_take_of_le (Nat.le_of_lt hql)
          have MG := Lib.hid fun (A : Option Addr) (c : Nat) (w : World) (hr : Rd w w.heap.size A (cellsF (fs.take q))) => fmul_any (fs.take q) A q c w htl hxt hr hqm
          rw [hmg] at MG
          have ML := Lib.hid fun (A : Option Addr) (c : Nat) (w : World) (hr : Rd w w.heap.size A (cellsF [⟨gn, gd⟩, ⟨ln, ld⟩])) => fmul_any [⟨gn, gd⟩, ⟨ln, ld⟩] A 2 c w rfl (fun f hf => by simp at hf; rcases hf with rfl | rfl <;> assumption) hr (by unfold maxLen; omega)
          rw [hml] at ML
          simp only at MG ML
          have XN0 := Lib.hid c0
          have XD0 := Lib.hid c1
          have LE := Lib.hid fun (w : World) (hr : Rd w w.heap.size (some ⟨b, off, none⟩) (cellsF (fs.take q))) => lentF_any (fs.take q) (some ⟨b, off, none⟩) q c w.heap.size w htl hr hqz
          have Hq := Lib.hid hq
          clear hsplit E1 hmg hml hd hxx c0 c1 hxt htl hg53 hl0 hgf hfx hq lc h300 h3 Hpw hqm hqz hq3
          go_wp2_with fail
          refine (LE.out _ rtake).mono ?_
          rintro e w6 ⟨g, c2, rfl, hwL⟩
          have hb6 : Below w5.heap.size w5 w6 := hwL.2.2.2
          have rL := hwL.rdf
          have K3 := Lib.hid (K3.out.low hb6 hgw3)
          have HB := Lib.hid (HB.out.trans (hb6.mono (by have := HB.out.size; have := HG5.out; omega)))
          clear hwL hb6 rtake hgw3
          go_wp2_with fail
          refine (MG.out _ _ _ rL).mono ?_
          rintro e w7 ⟨rfl, hb7⟩
          have k3 := K3.out.low hb7 K3.out.lt
          have hb := HB.out.trans (hb7.mono (by have := HB.out.size; have := HG5.out; omega))
          have k3 := k3.alloc (.cells #[.int .i64 gn, .int .i64 gd] 23)
          have k8 := Blk.new w7 _ rfl 23 #[.int .i64 gn, .int .i64 gd]
          have hb := hb.alloc (by have := hb.size; have := HG5.out; omega) (.cells #[.int .i64 gn, .int .i64 gd] 23)
          clear hb7 rL K3 HB
          go_wp2_with fail
          obtain ⟨g8, hg8⟩ : ∃ g, w7.heap.size = g := ⟨_, rfl⟩
          obtain ⟨W8, hW8⟩ : ∃ W, w7.alloc (.cells #[.int .i64 gn, .int .i64 gd] 23) = W := ⟨_, rfl⟩
          rw [hW8] at k3 k8 hb
          rw [hg8] at k8
          try rw [hW8]
          try rw [hg8]
          have hgw8 : g8 < W8.heap.size := k8.lt
          have hgw3 : g3 < W8.heap.size := k3.lt
          have hbW : b < W8.heap.size := by have := hb.size; have := HG5.out; omega
          have XN : Hid (W8.cell? ⟨b, off + q * 2, none⟩ = some (.int .i64 ln)) := (hb.cell (p := ⟨b, off + q * 2, none⟩) hbg).trans XN0.out
          have XD : Hid (W8.cell? ⟨b, off + q * 2 + 1, none⟩ = some (.int .i64 ld)) := (hb.cell (p := ⟨b, off + q * 2 + 1, none⟩) hbg).trans XD0.out
          have K3 := Lib.hid k3
          have K8 := Lib.hid k8
          have HB := Lib.hid hb
          clear hW8 hg8 k3 k8 hb XN0 XD0
          have hIZ : ∀ V, LsZ W8 fs b off c q gn gd ln ld x y (fun _ => false) V W8.drew := fun V => by
            have h0 : Below W8.heap.size W8 W8.drew := Drawn.below _ ((Drawn.refl W8).drewN 1)
            constructor
            all_goals first
              | exact fun _ => h0
              | exact h0
              | (intro h; cases h)
          refine wp_region_put3 [10, 11, 103, 104, 105, 106, 107, 108, 109, 110, 111, 112, 113, 114] (LsZ W8 fs b off c q gn gd ln ld x y) (by kernel_rfl) (by kernel_rfl) ?_ ?_ ?_
          · exact hIZ _
          · intro i o ho L V w1 hi hL hno h K hK
            rcases i with _ | _ | _ | _ | _ | _ | _ | _ | _ | _ | _ | _ | _ | _ | _ | i
            · replace ho := Option.some.inj ho
              subst ho
              simp only [putAll, List.foldl_cons, List.foldl_nil, List.setIfInBounds_toArray, List.set_cons_zero, List.set_cons_succ]
              have ct0 := (K8.out.low h.p (by omega)).cell 0
              have ct1 := (K8.out.low h.p (by omega)).cell 1
              simp only [List.getElem?_toArray, List.getElem?_cons_zero, List.getElem?_cons_succ] at ct0 ct1
              clear hL hno
              go_simp
              refine hK (updV V 104 (.agg #[.int .i64 gn, .int .i64 gd])) _ _ (by simp [putAll, updV]) ?_
              exact { h with e0 := fun _ => rfl }
            · replace ho := Option.some.inj ho
              subst ho
              simp only [putAll, List.foldl_cons, List.foldl_nil, List.setIfInBounds_toArray, List.set_cons_zero, List.set_cons_succ]
              clear hL hno
              go_simp
              refine hK (updV V 105 (.slice (some ⟨b, off, none⟩) fs.length c)) _ _ (by simp [putAll, updV]) ?_
              exact { h with e1 := fun _ => rfl }
            · replace ho := Option.some.inj ho
              subst ho
              simp only [putAll, List.foldl_cons, List.foldl_nil, List.setIfInBounds_toArray, List.set_cons_zero, List.set_cons_succ]
              clear hL hno
              go_simp
              refine hK (updV V 106 (.slice (some ⟨b, off, none⟩) fs.length c)) _ _ (by simp [putAll, updV]) ?_
              exact { h with e2 := fun _ => rfl }
            · replace ho := Option.some.inj ho
              subst ho
              simp only [putAll, List.foldl_cons, List.foldl_nil, List.setIfInBounds_toArray, List.set_cons_zero, List.set_cons_succ]
              have e2 : V 106 = _ := h.e2 (hL ⟨2, .data⟩ (by simp) rfl)
              clear hL hno
              go_simp
              refine hK (updV V 107 (.int .i64 (fs.length : Nat))) _ _ (by simp [putAll, updV, e2]) ?_
              exact { h with e3 := fun _ => rfl }
            · replace ho := Option.some.inj ho
              subst ho
              simp only [putAll, List.foldl_cons, List.foldl_nil, List.setIfInBounds_toArray, List.set_cons_zero, List.set_cons_succ]
              have e3 : V 107 = _ := h.e3 (hL ⟨3, .data⟩ (by simp) rfl)
              clear hL hno
              go_simp
              refine hK (updV V 108 (.int .i64 (q : Nat))) _ _ (by simp [putAll, updV, e3]) ?_
              exact { h with e4 := fun _ => rfl }
            · replace ho := Option.some.inj ho
              subst ho
              simp only [putAll, List.foldl_cons, List.foldl_nil, List.setIfInBounds_toArray, List.set_cons_zero, List.set_cons_succ]
              have e1 : V 105 = _ := h.e1 (hL ⟨1, .data⟩ (by simp) rfl)
              have e4 : V 108 = _ := h.e4 (hL ⟨4, .data⟩ (by simp) rfl)
              clear hL hno
              go_simp
              refine hK (updV V 109 (.pointer (some ⟨b, off + q * 2, none⟩))) _ _ (by simp [putAll, updV, e1, e4]) ?_
              exact { h with e5 := fun _ => rfl }
            · replace ho := Option.some.inj ho
              subst ho
              simp only [putAll, List.foldl_cons, List.foldl_nil, List.setIfInBounds_toArray, List.set_cons_zero, List.set_cons_succ]
              have e5 : V 109 = _ := h.e5 (hL ⟨5, .data⟩ (by simp) rfl)
              have ct0 := (Below_cell h.p hbW XN.out)
              have ct1 := (Below_cell h.p hbW XD.out)
              clear hL hno
              go_simp
              refine hK (updV V 110 (.agg #[.int .i64 ln, .int .i64 ld])) _ _ (by simp [putAll, updV, e5]) ?_
              exact { h with e6 := fun _ => rfl }
            · replace ho := Option.some.inj ho
              subst ho
              have e0 : V 104 = _ := h.e0 (hL ⟨0, .data⟩ (by simp) rfl)
              have e6 : V 110 = _ := h.e6 (hL ⟨6, .data⟩ (by simp) rfl)
              have l8 : L 8 = false := hno 8 (by kernel_rfl)
              have l13 : L 13 = false := hno 13 (by kernel_rfl)
              clear hL hno
              simp only [putAll, List.foldl_cons, List.foldl_nil, List.setIfInBounds_toArray, List.set_cons_zero, List.set_cons_succ]
              have hb := (Below.refl w1.heap.size w1).alloc (Nat.le_refl _) (.cells #[.int .i64 gn, .int .i64 gd, .int .i64 ln, .int .i64 ld] 23)
              have hnew := rd_alloc w1 _ rfl 23 (cellsF [⟨gn, gd⟩, ⟨ln, ld⟩])
              go_simp
              refine hK (updV V 111 (.slice (some ⟨w1.heap.size, 0, none⟩) 2 2)) _ _ (by simp [putAll, updV, e0, e6]) ?_
              exact { h with
                p := h.p.trans (hb.mono h.p.size)
                zs := fun _ _ => ⟨_, rfl, hnew.more (by simp)⟩
                zb := fun h1 h2 => by obtain ⟨g, q1, q2, q3⟩ := h.zb h1 h2; exact ⟨g, q1, q2, q3.alloc _⟩
                zf := fun hn => (by cases (hn.symm.trans l13)) }
            · replace ho := Option.some.inj ho
              subst ho
              have t7 : L 7 = true := hL ⟨7, .data⟩ (by simp) rfl
              have l8 : L 8 = false := hi
              have l13 : L 13 = false := hno 13 (by kernel_rfl)
              clear hL hno
              simp only [putAll, List.foldl_cons, List.foldl_nil, List.setIfInBounds_toArray, List.set_cons_zero, List.set_cons_succ]
              refine Exists.elim (h.zs t7 l8) fun zg hq => ?_
              have q1 := hq.1
              have q2 := hq.2
              clear hq
              go_simp
              refine (ML.out _ _ w1 q2).mono ?_
              rintro e w3 ⟨rfl, hb3⟩
              refine hK (updV V 112 (.tuple #[.agg #[.int .i64 x, .int .i64 y], .int .i64 0])) _ _ (by simp [putAll, updV, q1]) ?_
              exact { h with
                p := h.p.trans (hb3.mono h.p.size)
                zs := fun _ hn => (by cases hn)
                zb := fun h1 h2 => by obtain ⟨g, q1, q2, q3⟩ := h.zb h1 h2; exact ⟨g, q1, q2, q3.low hb3 q3.lt⟩
                zf := fun hn => (by cases (hn.symm.trans l13))
                e8 := fun _ => rfl }
            · replace ho := Option.some.inj ho
              subst ho
              have e8 : V 112 = _ := h.e8 (hL ⟨8, .data⟩ (by simp) rfl)
              clear hL hno
              simp only [putAll, List.foldl_cons, List.foldl_nil, List.setIfInBounds_toArray, List.set_cons_zero, List.set_cons_succ]
              go_simp
              refine hK (updV V 103 (.tuple #[.agg #[.int .i64 x, .int .i64 y], .int .i64 0])) _ _ (by simp [putAll, updV, e8]) ?_
              exact { h with e9 := fun _ => rfl }
            · replace ho := Option.some.inj ho
              subst ho
              simp only [putAll, List.foldl_cons, List.foldl_nil, List.setIfInBounds_toArray, List.set_cons_zero, List.set_cons_succ]
              have e9 : V 103 = _ := h.e9 (hL ⟨9, .data⟩ (by simp) rfl)
              clear hL hno
              go_simp
              refine hK (updV V 113 (.agg #[.int .i64 x, .int .i64 y])) _ _ (by simp [putAll, updV, e9]) ?_
              exact { h with e10 := fun _ => rfl }
            · replace ho := Option.some.inj ho
              subst ho
              simp only [putAll, List.foldl_cons, List.foldl_nil, List.setIfInBounds_toArray, List.set_cons_zero, List.set_cons_succ]
              have e9 : V 103 = _ := h.e9 (hL ⟨9, .data⟩ (by simp) rfl)
              clear hL hno
              go_simp
              refine hK (updV V 114 (.int .i64 0)) _ _ (by simp [putAll, updV, e9]) ?_
              exact { h with e11 := fun _ => rfl }
            · replace ho := Option.some.inj ho
              subst ho
              have l13 : L 13 = false := hno 13 (by kernel_rfl)
              clear hL hno
              simp only [putAll, List.foldl_cons, List.foldl_nil, List.setIfInBounds_toArray, List.set_cons_zero, List.set_cons_succ]
              have hb := (Below.refl w1.heap.size w1).alloc (Nat.le_refl _) (.cells #[.int .i64 0, .int .i64 0] 23)
              have hnew := Blk.new w1 _ rfl 23 #[.int .i64 0, .int .i64 0]
              go_simp
              refine hK (updV V 10 (.pointer (some ⟨w1.heap.size, 0, none⟩))) _ _ (by simp [putAll, updV]) ?_
              exact { h with
                p := h.p.trans (hb.mono h.p.size)
                zs := fun h1 h2 => by obtain ⟨g, q1, q2⟩ := h.zs h1 h2; exact ⟨g, q1, (q2.below hb (Nat.le_refl _)).more hb.size⟩
                zb := fun _ _ => ⟨_, rfl, h.p.size, hnew⟩
                zf := fun hn => (by cases (hn.symm.trans l13)) }
            · replace ho := Option.some.inj ho
              subst ho
              have e10 : V 113 = _ := h.e10 (hL ⟨10, .data⟩ (by simp) rfl)
              have t8 : L 8 = true := hL ⟨8, .chain⟩ (by simp) rfl
              have t12 : L 12 = true := hL ⟨12, .data⟩ (by simp) rfl
              have l13 : L 13 = false := hi
              clear hL hno
              simp only [putAll, List.foldl_cons, List.foldl_nil, List.setIfInBounds_toArray, List.set_cons_zero, List.set_cons_succ]
              refine Exists.elim (h.zb t12 l13) fun zg hq => ?_
              have q1 := hq.1
              have q2 := hq.2.1
              have q3 := hq.2.2
              clear hq
              have f0 := q3.cell 0
              have f1 := q3.cell 1
              have z0 := q3.frozen 0
              have z1 := q3.frozen 1
              simp only [List.getElem?_toArray, List.getElem?_cons_zero, List.getElem?_cons_succ] at f0 f1
              have kb := (q3.set 0 (.int .i64 x)).set 1 (.int .i64 y)
              have bb := (h.p.setCell (p := ⟨zg, 0, none⟩) q2 (.int .i64 x)).setCell (p := ⟨zg, 1, none⟩) q2 (.int .i64 y)
              simp at kb
              clear q3
              go_simp
              refine hK V _ _ (by simp [putAll, q1, e10]) ?_
              exact { h with p := bb, zs := fun _ hn => (by cases (hn.symm.trans t8)), zb := fun _ hn => (by cases hn), zf := fun _ => ⟨zg, q1, q2, kb⟩ }
            · replace ho := Option.some.inj ho
              subst ho
              simp only [putAll, List.foldl_cons, List.foldl_nil, List.setIfInBounds_toArray, List.set_cons_zero, List.set_cons_succ]
              have e11 : V 114 = _ := h.e11 (hL ⟨11, .data⟩ (by simp) rfl)
              clear hL hno
              go_simp
              refine hK (updV V 11 (.int .i64 0)) _ _ (by simp [putAll, updV, e11]) ?_
              exact { h with e14 := fun _ => rfl }
            · simp at ho
          · clear hIZ
            intro L V w9 hL h
            have t13 : L 13 = true := hL 13 (by simp)
            have t14 : L 14 = true := hL 14 (by simp)
            have e14 := h.e14 t14
            refine Exists.elim (h.zf t13) fun g9 hq => ?_
            have q1 := hq.1
            have k9 := hq.2.2
            have bp := h.p
            simp only [putAll, List.foldl_cons, List.foldl_nil, List.setIfInBounds_toArray, List.set_cons_zero, List.set_cons_succ, e14, q1]
            have k3 := K3.out.low bp hgw3
            have hb := HB.out.trans (bp.mono (by have := HB.out.size; have := HG5.out; omega))
            have K3 := Lib.hid k3
            have K9 := Lib.hid k9
            have HB := Lib.hid hb
            clear h hL t13 t14 e14 hq q1 k9 bp k3 hb K8
            generalize V 103 = v103
            generalize V 104 = v104
            generalize V 105 = v105
            generalize V 106 = v106
            generalize V 107 = v107
            generalize V 108 = v108
            generalize V 109 = v109
            generalize V 110 = v110
            generalize V 111 = v111
            generalize V 112 = v112
            generalize V 113 = v113
            generalize V 114 = v114
            go_wp2_with fail
            refine (awake_any _).mono ?_
            rintro e w10 ⟨rfl, hb10⟩
            have k3 := K3.out.low hb10 K3.out.lt
            have k9 := K9.out.low hb10 K9.out.lt
            have c0 := k3.cell 0
            have c1 := k3.cell 1
            have c2 := k9.cell 0
            have c3 := k9.cell 1
            simp only [List.getElem?_toArray, List.getElem?_cons_zero, List.getElem?_cons_succ] at c0 c1 c2 c3
            have hb11 := HB.out.trans (hb10.mono (by have := HB.out.size; have := HG5.out; omega))
            clear k3 k9 hb10
            go_wp2_with fail
            go_ret
            exact ⟨by simp, hB3.out.trans (hb11.mono (by have := HG5.out; omega))⟩
theorem exactFLaw_any (fs : List Fr) (A : Option Addr) (l c : Nat) (w : World) (hl : fs.length = l) (lc : l ≤ c) (hx : ∀ a ∈ fs, a.fit) (hr : Rd w w.heap.size A (cellsF fs)) (_hz : c * 16 ≤ 140737488351232) : Calls Try.prog 10 #[.slice A l c] w fun e w' => e = .returned (.bool true) ∧ Below w.heap.size w w' := by
  by_cases h3 : l > 300
  · exact exact_long A l c w h3
  · rcases mulR_err fs with h | h | h
    · obtain ⟨⟨x, y⟩, hf⟩ : ∃ f, (mulR fs).1 = f := ⟨_, rfl⟩
      exact exact_ok fs A l c w hl lc hx hr h3 x y (Prod.ext hf h)
    · exact exact_arg fs A l c w hl hx hr h3 h
    · exact exact_big fs A l c w hl hx hr h3 h
end Go.Proofs.Ytfielhbepnkekaa
