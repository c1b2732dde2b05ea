/-
  forest.Path's closure 'learn'.
-/
import Derived.Test.YteokomepcgkddaaFs
import Derived.Deep.RegionWith
import Derived.BigRegion
namespace Go.Proofs.Yteokomepcgkddaa
open Go.RowKit

/-- the state behind a call of learn -/
def LearnOut (W0 : World) (n gN bN gT bT gK bK gW bW : Nat) (kn : List Bool) (nx : List Stp) (tw q : List Int) (e : Ending) (w' : World) : Prop :=
  ∃ vq, e = .returned (.tuple #[]) ∧ PSt W0 w' n gN bN gT bT gK bK gW bW kn nx tw q vq

theorem learn_yes {W0 wr : World} {n gN bN gT bT gK bK gW bW : Nat} {kn : List Bool} {nx : List Stp} {tw q : List Int} {vq : Value} (x : Nat) (v : Int) (i : Nat) (b : Bool) (h : PSt W0 wr n gN bN gT bT gK bK gW bW kn nx tw q vq) (hxn : x < n) (hx : kn[x]? = some true) :
    Calls Try.prog 26 #[.int .i64 x, .int .i64 v, .agg #[.int .i64 i, .bool b], .pointer (some ⟨bK, 0, none⟩), .pointer (some ⟨bN, 0, none⟩), .pointer (some ⟨bT, 0, none⟩), .pointer (some ⟨bW, 0, none⟩)] wr (LearnOut W0 n gN bN gT bT gK bK gW bW kn nx tw q) := by
  have h1 := h.alloc (.cells #[.int .i64 i, .bool b] 48)
  have k0 := h1.kK.cell 0
  have c0 := h1.oK.cellAt x (by omega)
  rw [show (cellsB kn)[x]? = some (.bool true) by simp [cellsB, hx]] at c0
  simp at k0
  clear hx
  go_enter Try.func26, Try.ntmps26
  go_wp2
  go_end0
  exact ⟨vq, rfl, h1⟩
theorem learn_no {W0 wr : World} {n gN bN gT bT gK bK gW bW : Nat} {kn : List Bool} {nx : List Stp} {tw q : List Int} {vq : Value} (x : Nat) (v : Int) (i : Nat) (b : Bool) (h : PSt W0 wr n gN bN gT bT gK bK gW bW kn nx tw q vq) (hxn : x < n) (hq : q.length < 100000) (hx : kn[x]? = some false) :
    Calls Try.prog 26 #[.int .i64 x, .int .i64 v, .agg #[.int .i64 i, .bool b], .pointer (some ⟨bK, 0, none⟩), .pointer (some ⟨bN, 0, none⟩), .pointer (some ⟨bT, 0, none⟩), .pointer (some ⟨bW, 0, none⟩)] wr (LearnOut W0 n gN bN gT bT gK bK gW bW (kn.set x true) (nx.set x (i, b)) (tw.set x v) (q ++ [(x : Int)])) := by
  obtain ⟨i0, hi, hz0, hz1, hz2⟩ := info_parts info_int
  have h1 := h.alloc (.cells #[.int .i64 i, .bool b] 48)
  have kB := Blk.new wr _ rfl 48 #[.int .i64 i, .bool b]
  have k0 := h1.kK.cell 0
  have kn0 := h1.kN.cell 0
  have kt0 := h1.kT.cell 0
  have kw0 := h1.kW.cell 0
  have c0 := h1.oK.cellAt x (by omega)
  rw [show (cellsB kn)[x]? = some (.bool false) by simp [cellsB, hx]] at c0
  simp at k0 kn0 kt0 kw0
  clear hx
  have := h.s0; have := h.s1; have := h.s2; have := h.s3; have := h.s4; have := h.s5; have := h.s6; have := h.s7
  have hbl := h.kW.lt
  have hlN := cellsS_length nx
  obtain ⟨c1, hc1⟩ : ∃ c1, (cellsS nx)[x * 2]? = some c1 := ⟨_, List.getElem?_eq_getElem (by have := h.oN.1; omega)⟩
  obtain ⟨c2, hc2⟩ : ∃ c2, (cellsS nx)[x * 2 + 1]? = some c2 := ⟨_, List.getElem?_eq_getElem (by have := h.oN.1; omega)⟩
  obtain ⟨c3, hc3⟩ : ∃ c3, (cellsI tw)[x]? = some c3 := ⟨_, List.getElem?_eq_getElem (by have := h.oT.1; omega)⟩
  have d1 := h1.oN.cellAt (x * 2) (by omega)
  have d2 := h1.oN.cellAt (x * 2 + 1) (by omega)
  have d3 := h1.oT.cellAt x (by omega)
  rw [hc1] at d1
  rw [hc2] at d2
  rw [hc3] at d3
  have f0 := h1.oK.frozenAt x
  have f1 := h1.oN.frozenAt (x * 2)
  have f2 := h1.oN.frozenAt (x * 2 + 1)
  have f3 := h1.oT.frozenAt x
  have S2 := (h1.setK x true).setN x (i, b)
  have S3 := (S2.setT x v).drawn 1
  clear S2 hc1 hc2 hc3 hlN
  go_enter Try.func26, Try.ntmps26
  go_wp2
  clear h1 h
  obtain ⟨gB, hgB⟩ : ∃ gB, wr.heap.size = gB := ⟨_, rfl⟩
  obtain ⟨W, hW⟩ : ∃ W, wr.alloc (.cells #[.int .i64 i, .bool b] 48) = W := ⟨_, rfl⟩
  rw [hgB] at kB hbl ⊢
  rw [hW] at c0 k0 kn0 kt0 kw0 d1 d2 d3 f0 f1 f2 f3 S3 kB ⊢
  clear hW hgB
  have p0 : W.cell? ⟨gB, 0, none⟩ = some (.int .i64 i) := kB.cell 0
  have p1 : W.cell? ⟨gB, 1, none⟩ = some (.bool b) := kB.cell 1
  clear kB
  have n1 : gK ≠ bN := by omega
  have n2 : gK ≠ bT := by omega
  have n3 : gK ≠ gB := by omega
  have n4 : gK ≠ gN := by omega
  have n5 : gK ≠ gT := by omega
  have n6 : gN ≠ bT := by omega
  have n7 : gN ≠ gT := by omega
  have m1 : bN ≠ gK := by omega
  have m2 : bT ≠ gK := by omega
  have m3 : gB ≠ gK := by omega
  have m4 : gN ≠ gK := by omega
  have m5 : gT ≠ gK := by omega
  have m6 : bT ≠ gN := by omega
  have m7 : gT ≠ gN := by omega
  go_region
  generalize hW3 : World.drewN ((((W.setCell ⟨gK, x, none⟩ (.bool true)).setCell ⟨gN, x * 2, none⟩ (.int .i64 i)).setCell ⟨gN, x * 2 + 1, none⟩ (.bool b)).setCell ⟨gT, x, none⟩ (.int .i64 v)) 1 = W3 at S3
  change Exit.then _ _ _ _ (World.drewN ((((W.setCell ⟨gK, x, none⟩ (.bool true)).setCell ⟨gN, x * 2, none⟩ (.int .i64 i)).setCell ⟨gN, x * 2 + 1, none⟩ (.bool b)).setCell ⟨gT, x, none⟩ (.int .i64 v)) 1)
  rw [hW3]
  clear hW3
  clear c0 k0 kn0 kt0 d1 d2 d3 f0 f1 f2 f3 p0 p1
  have kw3 := S3.kW.cell 0
  simp at kw3
  clear kw0
  go_wp2_with (at_builtin; refine wpList_append_q _ rfl _ _ 25 rfl gW 3 i0 (.int .i64 0) Try.underlying25 hi hz0 hz1 hz2 rfl vq q.length (cellsI q) rfl (S3.alloc _).oq ⟨W3.heap.size, 0, none⟩ 1 (.int .i64 x) rfl (by simp) rfl (by omega) (by have := S3.kW.lt; simp; omega) ?_)
  intro vq' W4 o4 g4 _
  have kw4 := ((S3.alloc (.cells #[.int .i64 x] 3)).kW.grown g4 (fun he => (S3.far bW (.inr rfl)) he.symm))
  have S5 := (S3.alloc (.cells #[.int .i64 x] 3)).setQ (q' := q ++ [(x : Int)]) g4 (by simpa [cellsI] using o4)
  obtain ⟨gq, oq, cq, rfl, _⟩ := o4.slice
  have kw5 := kw4.cell 0
  have kf5 := kw4.frozen 0
  simp at kw5
  clear kw3 kw4 S3 o4 g4
  go_wp2
  go_end0
  exact ⟨_, rfl, S5⟩
end Go.Proofs.Yteokomepcgkddaa
