/-
  The document's state: Has, Short, May.
-/
import Derived.Test.YtdogddngiolpoaaSd
namespace Go.Proofs.Ytdogddngiolpoaa
open Go.RowKit

/-- the document's state in memory -/
structure RSt (w : World) (n : Nat) (ars : List ArcV) (F : Nat → Int) (A : Option Addr) (g : Nat) : Prop where
  arcs : Rd w w.heap.size A (cellsA ars)
  fir : ∀ j, j < n → w.cell? ⟨g, j, none⟩ = some (.int .i64 (F j))
  lt : g < w.heap.size
theorem RSt.below {w w' : World} {n : Nat} {ars : List ArcV} {F : Nat → Int} {A : Option Addr} {g : Nat} (h : RSt w n ars F A g) (hb : Below w.heap.size w w') : RSt w' n ars F A g :=
  ⟨(h.arcs.below hb (Nat.le_refl _)).more hb.size, fun j hj => (hb.cell (p := ⟨g, j, none⟩) h.lt).trans (h.fir j hj), by have := h.lt; have := hb.size; omega⟩
theorem arc_nat {n : Nat} {a : ArcV} (h : a.ok n) : ∃ (f t : Nat) (g k s : Int), a = ⟨f, t, g, k, s⟩ ∧ f < n ∧ t < n ∧ 1 ≤ g ∧ g ≤ 64 ∧ 1 ≤ k ∧ k ≤ 64 ∧ 0 ≤ s ∧ s ≤ 256 := by
  obtain ⟨f, t, g, k, s⟩ := a
  obtain ⟨h1, h2, h3, h4, h5⟩ := h
  simp only at h1 h2 h3 h4 h5
  exact ⟨f.toNat, t.toNat, g, k, s, by rw [Int.toNat_of_nonneg h1, Int.toNat_of_nonneg h3], by omega, by omega, h5⟩

set_option maxHeartbeats 1000000 in
theorem rHas_any (i n : Nat) (ars : List ArcV) (F : Nat → Int) (A : Option Addr) (c g cf : Nat) (w : World) (hN : NetOk n ars) (hF : small n F) (hS : RSt w n ars F A g) (hi : i < ars.length) :
    Calls Try.prog 43 #[.agg #[.int .i64 n, .slice A ars.length c, .slice (some ⟨g, 0, none⟩) n cf], .int .i64 i] w fun e w' => e = .returned (.int .i64 (tokI ars F i)) ∧ Below w.heap.size w w' := by
  have n32 := hN.n32
  have l96 := hN.l96
  obtain ⟨W1, hW1⟩ : ∃ W1, w.alloc (.cells #[.int .i64 n, .slice A ars.length c, .slice (some ⟨g, 0, none⟩) n cf] 61) = W1 := ⟨_, rfl⟩
  have b1 : Below w.heap.size w W1 := hW1 ▸ (Below.refl _ _).alloc (Nat.le_refl _) _
  have k1 : Blk W1 w.heap.size 61 #[.int .i64 n, .slice A ars.length c, .slice (some ⟨g, 0, none⟩) n cf] := hW1 ▸ Blk.new w _ rfl _ _
  have S1 := hS.below b1
  obtain ⟨b, off, a, rfl, hb, -, c0, c1, c2, c3, c4, -, hx⟩ := S1.arcs.arc hN.fit hi
  have ha := arcAt_some hx.out
  have htk : tokI ars F i = tokA F a := by unfold tokI; rw [ha]
  have hok := hN.ok a (List.mem_of_getElem? hx.out)
  have htf := tokA_fit hok hF
  obtain ⟨f, t, ag, ak, az, rfl, hf, ht, hg1, hg2, hk1, hk2, hs1, hs2⟩ := arc_nat hok
  have F1 := hF f hf
  have F2 := hF t ht
  obtain ⟨x, hxf⟩ : ∃ x, F f = x := ⟨_, rfl⟩
  obtain ⟨y, hyt⟩ : ∃ y, F t = y := ⟨_, rfl⟩
  have m1 : 0 ≤ ag * x := Int.mul_nonneg (by omega) (by omega)
  have m2 : ag * x ≤ 64 * 1000000 := Int.mul_le_mul hg2 (by omega) (by omega) (by omega)
  have m3 : 0 ≤ ak * y := Int.mul_nonneg (by omega) (by omega)
  have m4 : ak * y ≤ 64 * 1000000 := Int.mul_le_mul hk2 (by omega) (by omega) (by omega)
  have htv : tokI ars F i = az + ag * x - ak * y := by rw [htk, ← hxf, ← hyt]; rfl
  obtain ⟨W2, hW2⟩ : ∃ W2, W1.alloc (.cells #[.int .i64 f, .int .i64 t, .int .i64 ag, .int .i64 ak, .int .i64 az] 52) = W2 := ⟨_, rfl⟩
  have b2 : Below w.heap.size w W2 := hW2 ▸ b1.alloc b1.size _
  have k2 : Blk W2 w.heap.size 61 #[.int .i64 n, .slice (some ⟨b, off, none⟩) ars.length c, .slice (some ⟨g, 0, none⟩) n cf] := hW2 ▸ k1.alloc _
  have a2 : Blk W2 W1.heap.size 52 #[.int .i64 f, .int .i64 t, .int .i64 ag, .int .i64 ak, .int .i64 az] := hW2 ▸ Blk.new W1 _ rfl _ _
  have S2 := hS.below b2
  have q1 := S2.fir f hf
  have q2 := S2.fir t ht
  rw [hxf] at q1
  rw [hyt] at q2
  have s0 := k1.cell 1
  have s2 := k2.cell 2
  have e0 := a2.cell 0
  have e1 := a2.cell 1
  have e2 := a2.cell 2
  have e3 := a2.cell 3
  have e4 := a2.cell 4
  simp at s0 s2 e0 e1 e2 e3 e4 c0 c1 c2 c3 c4
  have hlt1 := k1.lt
  go_enter Try.func43, Try.ntmps43
  go_upto_region 1 with fail
  try rw [hW1]
  clear hS S1 S2 k1 k2 a2 hok ha htk b1 hF htf hx
  go_upto_region 2 with fail
  try rw [hW2]
  clear hW1 hW2 c0 c1 c2 c3 c4 s0
  have v1 : IntKind.i64.wrap (ag * x) = ag * x := IntWalk.i64_in _ (by omega)
  have v2 : IntKind.i64.wrap (ak * y) = ak * y := IntWalk.i64_in _ (by omega)
  have g1 : (0 : Int) ≤ (f : Int) := by omega
  have g2 : (f : Int) < (n : Int) := by omega
  have g3 : (0 : Int) ≤ (t : Int) := by omega
  have g4 : (t : Int) < (n : Int) := by omega
  go_quiet (fail)
  go_wp2
  go_ret
  refine ⟨?_, Below.drewN b2 _⟩
  rw [htv]
  rfl
end Go.Proofs.Ytdogddngiolpoaa
