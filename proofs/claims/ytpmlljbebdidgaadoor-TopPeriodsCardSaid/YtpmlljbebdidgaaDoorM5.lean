/-
  Fs, Ft, Fu: texts pasted together.
-/
import Derived.Test.YtpmlljbebdidgaaDoorFq
import Derived.Test.YtpmlljbebdidgaaDoorM2
import Derived.Test.YtpmlljbebdidgaaDoorFr
import Derived.Deep.RegionWith
import Derived.BigRegion
/-
  forest.Path's memory, and its closure 'learn'.
-/
namespace Go.Proofs.YtpmlljbebdidgaaDoor
open Go.RowKit

def stepCells (s : Stp) : List Value := [.int .i64 s.1, .bool s.2]
def cellsS (p : List Stp) : List Value := p.flatMap stepCells
def cellsB (l : List Bool) : List Value := l.map Value.bool
theorem cellsS_length (p : List Stp) : (cellsS p).length = p.length * 2 := by
  induction p with
  | nil => rfl
  | cons s p ih => simp only [cellsS, List.flatMap_cons, List.length_append] at ih ⊢; rw [ih]; simp [stepCells]; omega
theorem cellsS_at : ∀ (p : List Stp) (k : Nat) (s : Stp), p[k]? = some s → (cellsS p)[k * 2]? = some (.int .i64 s.1) ∧ (cellsS p)[k * 2 + 1]? = some (.bool s.2)
  | [], k, s, h => by simp at h
  | s' :: p, 0, s, h => by simp at h; subst h; exact ⟨rfl, rfl⟩
  | s' :: p, k + 1, s, h => by
    have ih := cellsS_at p k s (by simpa using h)
    have e : cellsS (s' :: p) = stepCells s' ++ cellsS p := rfl
    rw [e, List.getElem?_append_right (by simp [stepCells]; omega), List.getElem?_append_right (by simp [stepCells]; omega)]
    rw [show (k + 1) * 2 - (stepCells s').length = k * 2 by simp [stepCells]; omega, show (k + 1) * 2 + 1 - (stepCells s').length = k * 2 + 1 by simp [stepCells]; omega]
    exact ih
theorem cellsS_set : ∀ (p : List Stp) (k : Nat) (s : Stp), ((cellsS p).set (k * 2) (.int .i64 s.1)).set (k * 2 + 1) (.bool s.2) = cellsS (p.set k s)
  | [], k, s => by simp [cellsS]
  | s' :: p, 0, s => rfl
  | s' :: p, k + 1, s => by
    have e : ∀ s' p, cellsS (s' :: p) = .int .i64 s'.1 :: .bool s'.2 :: cellsS p := fun _ _ => rfl
    rw [List.set_cons_succ, e, e, show (k + 1) * 2 = (k * 2 + 1) + 1 by omega, List.set_cons_succ, List.set_cons_succ, List.set_cons_succ, show k * 2 + 1 + 1 = k * 2 + 1 + 1 by rfl, List.set_cons_succ, cellsS_set]
theorem cellsB_set (l : List Bool) (j : Nat) (b : Bool) : (cellsB l).set j (.bool b) = cellsB (l.set j b) := by simp [cellsB, List.map_set]

/-- forest.Path's memory behind W0: the three tables, the queue, and the cells that hold them -/
structure PSt (W0 wr : World) (n gN bN gT bT gK bK gW bW : Nat) (kn : List Bool) (nx : List Stp) (tw q : List Int) (vq : Value) : Prop where
  bw : Below W0.heap.size W0 wr
  kN : Blk wr bN 36 #[.slice (some ⟨gN, 0, none⟩) n n]
  oN : wr.ownsRow gN 84 2 (.slice (some ⟨gN, 0, none⟩) n n) n (cellsS nx)
  kT : Blk wr bT 27 #[.slice (some ⟨gT, 0, none⟩) n n]
  oT : wr.ownsRow gT 3 1 (.slice (some ⟨gT, 0, none⟩) n n) n (cellsI tw)
  kK : Blk wr bK 123 #[.slice (some ⟨gK, 0, none⟩) n n]
  oK : wr.ownsRow gK 4 1 (.slice (some ⟨gK, 0, none⟩) n n) n (cellsB kn)
  kW : Blk wr bW 27 #[vq]
  oq : ownsQ wr gW 3 vq q.length (cellsI q)
  s0 : W0.heap.size ≤ gN
  s1 : gN < bN
  s2 : bN < gT
  s3 : gT < bT
  s4 : bT < gK
  s5 : gK < bK
  s6 : bK < gW
  s7 : gW < bW
theorem ownsQ.ne {w : World} {base n g : Nat} {e t : TypeId} {v : Value} {xs : List Value} {cs : Array Value} (h : ownsQ w base e v n xs) (hg : Blk w g t cs) (hne : e ≠ t) : v.ownBlock ≠ some g := by
  obtain ⟨_, g', off, cap, cur, rfl, _, hh, _⟩ := h
  intro he
  have : g' = g := by simpa [Value.ownBlock] using he
  subst this
  unfold Blk at hg
  rw [hh] at hg
  injection hg with hg
  injection hg with _ ht
  exact hne ht
section
variable {W0 wr : World} {n gN bN gT bT gK bK gW bW : Nat} {kn : List Bool} {nx : List Stp} {tw q : List Int} {vq : Value}
theorem PSt.alloc (h : PSt W0 wr n gN bN gT bT gK bK gW bW kn nx tw q vq) (o : Obj) : PSt W0 (wr.alloc o) n gN bN gT bT gK bK gW bW kn nx tw q vq :=
  ⟨h.bw.alloc h.bw.size o, h.kN.alloc o, h.oN.alloc o, h.kT.alloc o, h.oT.alloc o, h.kK.alloc o, h.oK.alloc o, h.kW.alloc o, h.oq.alloc o, h.s0, h.s1, h.s2, h.s3, h.s4, h.s5, h.s6, h.s7⟩
theorem PSt.drawn (h : PSt W0 wr n gN bN gT bT gK bK gW bW kn nx tw q vq) (d : Nat) : PSt W0 (wr.drewN d) n gN bN gT bT gK bK gW bW kn nx tw q vq :=
  ⟨Below.drewN h.bw d, h.kN, h.oN, h.kT, h.oT, h.kK, h.oK, h.kW, h.oq, h.s0, h.s1, h.s2, h.s3, h.s4, h.s5, h.s6, h.s7⟩
/-- the numbers of the blocks that are not the queue's own -/
theorem PSt.far (h : PSt W0 wr n gN bN gT bT gK bK gW bW kn nx tw q vq) : ∀ k, (k < gW ∨ k = bW) → vq.ownBlock ≠ some k := by
  intro k hk
  rcases hk with hk | rfl
  · intro he
    have := (h.oq.lt k he).1
    omega
  · exact h.oq.ne h.kW (by decide)
/-- a store into a block of the state's own that is none but the one named -/
theorem PSt.setN (h : PSt W0 wr n gN bN gT bT gK bK gW bW kn nx tw q vq) (x : Nat) (s : Stp) : PSt W0 ((wr.setCell ⟨gN, x * 2, none⟩ (.int .i64 s.1)).setCell ⟨gN, x * 2 + 1, none⟩ (.bool s.2)) n gN bN gT bT gK bK gW bW kn (nx.set x s) tw q vq := by
  have := h.s0; have := h.s1; have := h.s2; have := h.s3; have := h.s4; have := h.s5; have := h.s6; have := h.s7
  have o1 := h.oN.stored (x * 2) (.int .i64 s.1)
  have o2 := o1.1.stored (x * 2 + 1) (.bool s.2)
  have hf := h.far gN (by omega)
  have ho := o2.1
  rw [cellsS_set] at ho
  exact ⟨(h.bw.setCell (by simp; omega) _).setCell (by simp; omega) _, (h.kN.far (by simp; omega) _).far (by simp; omega) _, ho, (h.kT.far (by simp; omega) _).far (by simp; omega) _,
    (h.oT.kept o1.2 (.inr (by simp [Value.ownBlock]; omega))).kept o2.2 (.inr (by simp [Value.ownBlock]; omega)), (h.kK.far (by simp; omega) _).far (by simp; omega) _,
    (h.oK.kept o1.2 (.inr (by simp [Value.ownBlock]; omega))).kept o2.2 (.inr (by simp [Value.ownBlock]; omega)), (h.kW.far (by simp; omega) _).far (by simp; omega) _, (h.oq.kept o1.2 hf).kept o2.2 hf,
    h.s0, h.s1, h.s2, h.s3, h.s4, h.s5, h.s6, h.s7⟩
theorem PSt.setT (h : PSt W0 wr n gN bN gT bT gK bK gW bW kn nx tw q vq) (x : Nat) (m : Int) : PSt W0 (wr.setCell ⟨gT, x, none⟩ (.int .i64 m)) n gN bN gT bT gK bK gW bW kn nx (tw.set x m) q vq := by
  have := h.s0; have := h.s1; have := h.s2; have := h.s3; have := h.s4; have := h.s5; have := h.s6; have := h.s7
  have o1 := h.oT.stored x (.int .i64 m)
  have hf := h.far gT (by omega)
  have ho := o1.1
  rw [cellsI_set] at ho
  exact ⟨h.bw.setCell (by simp; omega) _, h.kN.far (by simp; omega) _, h.oN.kept o1.2 (.inr (by simp [Value.ownBlock]; omega)), h.kT.far (by simp; omega) _, ho, h.kK.far (by simp; omega) _,
    h.oK.kept o1.2 (.inr (by simp [Value.ownBlock]; omega)), h.kW.far (by simp; omega) _, h.oq.kept o1.2 hf, h.s0, h.s1, h.s2, h.s3, h.s4, h.s5, h.s6, h.s7⟩
theorem PSt.setK (h : PSt W0 wr n gN bN gT bT gK bK gW bW kn nx tw q vq) (x : Nat) (b : Bool) : PSt W0 (wr.setCell ⟨gK, x, none⟩ (.bool b)) n gN bN gT bT gK bK gW bW (kn.set x b) nx tw q vq := by
  have := h.s0; have := h.s1; have := h.s2; have := h.s3; have := h.s4; have := h.s5; have := h.s6; have := h.s7
  have o1 := h.oK.stored x (.bool b)
  have hf := h.far gK (by omega)
  have ho := o1.1
  rw [cellsB_set] at ho
  exact ⟨h.bw.setCell (by simp; omega) _, h.kN.far (by simp; omega) _, h.oN.kept o1.2 (.inr (by simp [Value.ownBlock]; omega)), h.kT.far (by simp; omega) _, h.oT.kept o1.2 (.inr (by simp [Value.ownBlock]; omega)), h.kK.far (by simp; omega) _, ho,
    h.kW.far (by simp; omega) _, h.oq.kept o1.2 hf, h.s0, h.s1, h.s2, h.s3, h.s4, h.s5, h.s6, h.s7⟩
/-- the queue has grown (it may lie elsewhere now), and its cell says so -/
theorem PSt.setQ {w' : World} {q' : List Int} {vq' : Value} (h : PSt W0 wr n gN bN gT bT gK bK gW bW kn nx tw q vq) (hg : wr.grownBy w' vq.ownBlock) (ho : ownsQ w' gW 3 vq' q'.length (cellsI q')) :
    PSt W0 (w'.setCell ⟨bW, 0, none⟩ vq') n gN bN gT bT gK bK gW bW kn nx tw q' vq' := by
  have := h.s0; have := h.s1; have := h.s2; have := h.s3; have := h.s4; have := h.s5; have := h.s6; have := h.s7
  have nb : ∀ k, (k < gW ∨ k = bW) → some k ≠ vq.ownBlock := fun k hk he => h.far k hk he.symm
  have kW' := h.kW.grown hg (nb bW (.inr rfl))
  have hst : (w'.setCell ⟨bW, 0, none⟩ vq').heap.size = w'.heap.size := by simp
  have gs : w'.grownBy (w'.setCell ⟨bW, 0, none⟩ vq') (some bW) := ⟨rfl, rfl, rfl, by simp, fun k _ hk => Below.heap_setCell w' _ _ k (fun he => hk (by rw [he]))⟩
  have bw' : Below W0.heap.size W0 w' := h.bw.grown hg h.bw.size (fun k hk => by have := (h.oq.lt k hk).1; omega)
  exact ⟨bw'.setCell (by simp; omega) _, (h.kN.grown hg (nb _ (by omega))).far (by simp; omega) _, (h.oN.kept hg (.inr (by simpa [Value.ownBlock] using nb gN (by omega)))).kept gs (.inr (by simp [Value.ownBlock]; omega)),
    (h.kT.grown hg (nb _ (by omega))).far (by simp; omega) _, (h.oT.kept hg (.inr (by simpa [Value.ownBlock] using nb gT (by omega)))).kept gs (.inr (by simp [Value.ownBlock]; omega)),
    (h.kK.grown hg (nb _ (by omega))).far (by simp; omega) _, (h.oK.kept hg (.inr (by simpa [Value.ownBlock] using nb gK (by omega)))).kept gs (.inr (by simp [Value.ownBlock]; omega)),
    by simpa using kW'.set 0 vq', ho.far (ho.ne kW' (by decide)) _, h.s0, h.s1, h.s2, h.s3, h.s4, h.s5, h.s6, h.s7⟩
end
end Go.Proofs.YtpmlljbebdidgaaDoor
/-
  forest.Path's closure 'learn'.
-/
namespace Go.Proofs.YtpmlljbebdidgaaDoor
open Go.RowKit

/-- the state behind a call of learn -/
def LearnOut (W0 : World) (n gN bN gT bT gK bK gW bW : Nat) (kn : List Bool) (nx : List Stp) (tw q : List Int) (e : Ending) (w' : World) : Prop :=
  ∃ vq, e = .returned (.tuple #[]) ∧ PSt W0 w' n gN bN gT bT gK bK gW bW kn nx tw q vq

set_option maxRecDepth 100000 in
theorem learn_yes {W0 wr : World} {n gN bN gT bT gK bK gW bW : Nat} {kn : List Bool} {nx : List Stp} {tw q : List Int} {vq : Value} (x : Nat) (v : Int) (i : Nat) (b : Bool) (h : PSt W0 wr n gN bN gT bT gK bK gW bW kn nx tw q vq) (hxn : x < n) (hx : kn[x]? = some true) :
    Calls Tryd.prog 44 #[.int .i64 x, .int .i64 v, .agg #[.int .i64 i, .bool b], .pointer (some ⟨bK, 0, none⟩), .pointer (some ⟨bN, 0, none⟩), .pointer (some ⟨bT, 0, none⟩), .pointer (some ⟨bW, 0, none⟩)] wr (LearnOut W0 n gN bN gT bT gK bK gW bW kn nx tw q) := by
  have h1 := h.alloc (.cells #[.int .i64 i, .bool b] 84)
  have k0 := h1.kK.cell 0
  have c0 := h1.oK.cellAt x (by omega)
  rw [show (cellsB kn)[x]? = some (.bool true) by simp [cellsB, hx]] at c0
  simp at k0
  clear hx
  go_enter Tryd.func44, Tryd.ntmps44
  go_wp2
  go_end0
  exact ⟨vq, rfl, h1⟩
set_option maxRecDepth 100000 in
theorem learn_no {W0 wr : World} {n gN bN gT bT gK bK gW bW : Nat} {kn : List Bool} {nx : List Stp} {tw q : List Int} {vq : Value} (x : Nat) (v : Int) (i : Nat) (b : Bool) (h : PSt W0 wr n gN bN gT bT gK bK gW bW kn nx tw q vq) (hxn : x < n) (hq : q.length < 100000) (hx : kn[x]? = some false) :
    Calls Tryd.prog 44 #[.int .i64 x, .int .i64 v, .agg #[.int .i64 i, .bool b], .pointer (some ⟨bK, 0, none⟩), .pointer (some ⟨bN, 0, none⟩), .pointer (some ⟨bT, 0, none⟩), .pointer (some ⟨bW, 0, none⟩)] wr (LearnOut W0 n gN bN gT bT gK bK gW bW (kn.set x true) (nx.set x (i, b)) (tw.set x v) (q ++ [(x : Int)])) := by
  obtain ⟨i0, hi, hz0, hz1, hz2⟩ := info_parts info_int
  have h1 := h.alloc (.cells #[.int .i64 i, .bool b] 84)
  have kB := Blk.new wr _ rfl 84 #[.int .i64 i, .bool b]
  have k0 := h1.kK.cell 0
  have kn0 := h1.kN.cell 0
  have kt0 := h1.kT.cell 0
  have kw0 := h1.kW.cell 0
  have c0 := h1.oK.cellAt x (by omega)
  rw [show (cellsB kn)[x]? = some (.bool false) by simp [cellsB, hx]] at c0
  simp at k0 kn0 kt0 kw0
  clear hx
  have := h.s0; have := h.s1; have := h.s2; have := h.s3; have := h.s4; have := h.s5; have := h.s6; have := h.s7
  have hbl := h.kW.lt
  have hlN := cellsS_length nx
  obtain ⟨c1, hc1⟩ : ∃ c1, (cellsS nx)[x * 2]? = some c1 := ⟨_, List.getElem?_eq_getElem (by have := h.oN.1; omega)⟩
  obtain ⟨c2, hc2⟩ : ∃ c2, (cellsS nx)[x * 2 + 1]? = some c2 := ⟨_, List.getElem?_eq_getElem (by have := h.oN.1; omega)⟩
  obtain ⟨c3, hc3⟩ : ∃ c3, (cellsI tw)[x]? = some c3 := ⟨_, List.getElem?_eq_getElem (by have := h.oT.1; omega)⟩
  have d1 := h1.oN.cellAt (x * 2) (by omega)
  have d2 := h1.oN.cellAt (x * 2 + 1) (by omega)
  have d3 := h1.oT.cellAt x (by omega)
  rw [hc1] at d1
  rw [hc2] at d2
  rw [hc3] at d3
  have f0 := h1.oK.frozenAt x
  have f1 := h1.oN.frozenAt (x * 2)
  have f2 := h1.oN.frozenAt (x * 2 + 1)
  have f3 := h1.oT.frozenAt x
  have S2 := (h1.setK x true).setN x (i, b)
  have S3 := (S2.setT x v).drawn 1
  clear S2 hc1 hc2 hc3 hlN
  go_enter Tryd.func44, Tryd.ntmps44
  go_wp2
  clear h1 h
  obtain ⟨gB, hgB⟩ : ∃ gB, wr.heap.size = gB := ⟨_, rfl⟩
  obtain ⟨W, hW⟩ : ∃ W, wr.alloc (.cells #[.int .i64 i, .bool b] 84) = W := ⟨_, rfl⟩
  rw [hgB] at kB hbl ⊢
  rw [hW] at c0 k0 kn0 kt0 kw0 d1 d2 d3 f0 f1 f2 f3 S3 kB ⊢
  clear hW hgB
  have p0 : W.cell? ⟨gB, 0, none⟩ = some (.int .i64 i) := kB.cell 0
  have p1 : W.cell? ⟨gB, 1, none⟩ = some (.bool b) := kB.cell 1
  clear kB
  have n1 : gK ≠ bN := by omega
  have n2 : gK ≠ bT := by omega
  have n3 : gK ≠ gB := by omega
  have n4 : gK ≠ gN := by omega
  have n5 : gK ≠ gT := by omega
  have n6 : gN ≠ bT := by omega
  have n7 : gN ≠ gT := by omega
  have m1 : bN ≠ gK := by omega
  have m2 : bT ≠ gK := by omega
  have m3 : gB ≠ gK := by omega
  have m4 : gN ≠ gK := by omega
  have m5 : gT ≠ gK := by omega
  have m6 : bT ≠ gN := by omega
  have m7 : gT ≠ gN := by omega
  go_region
  generalize hW3 : World.drewN ((((W.setCell ⟨gK, x, none⟩ (.bool true)).setCell ⟨gN, x * 2, none⟩ (.int .i64 i)).setCell ⟨gN, x * 2 + 1, none⟩ (.bool b)).setCell ⟨gT, x, none⟩ (.int .i64 v)) 1 = W3 at S3
  change Exit.then _ _ _ _ (World.drewN ((((W.setCell ⟨gK, x, none⟩ (.bool true)).setCell ⟨gN, x * 2, none⟩ (.int .i64 i)).setCell ⟨gN, x * 2 + 1, none⟩ (.bool b)).setCell ⟨gT, x, none⟩ (.int .i64 v)) 1)
  rw [hW3]
  clear hW3
  clear c0 k0 kn0 kt0 d1 d2 d3 f0 f1 f2 f3 p0 p1
  have kw3 := S3.kW.cell 0
  simp at kw3
  clear kw0
  go_wp2_with (at_builtin; refine wpList_append_q _ rfl _ _ 27 rfl gW 3 i0 (.int .i64 0) Tryd.underlying27 hi hz0 hz1 hz2 rfl vq q.length (cellsI q) rfl (S3.alloc _).oq ⟨W3.heap.size, 0, none⟩ 1 (.int .i64 x) rfl (by simp) rfl (by omega) (by have := S3.kW.lt; simp; omega) ?_)
  intro vq' W4 o4 g4 _
  have kw4 := ((S3.alloc (.cells #[.int .i64 x] 3)).kW.grown g4 (fun he => (S3.far bW (.inr rfl)) he.symm))
  have S5 := (S3.alloc (.cells #[.int .i64 x] 3)).setQ (q' := q ++ [(x : Int)]) g4 (by simpa [cellsI] using o4)
  obtain ⟨gq, oq, cq, rfl, _⟩ := o4.slice
  have kw5 := kw4.cell 0
  have kf5 := kw4.frozen 0
  simp at kw5
  clear kw3 kw4 S3 o4 g4
  go_wp2
  go_end0
  exact ⟨_, rfl, S5⟩
end Go.Proofs.YtpmlljbebdidgaaDoor
/-
  forest.Path: the walk where there is no path to tell.
-/
namespace Go.Proofs.YtpmlljbebdidgaaDoor
open Go.RowKit

set_option maxRecDepth 100000 in
theorem path_bad (n : Int) (ars : List ArcV) (A : Option Addr) (l c : Nat) (s t : Int) (w : World) (hl : ars.length = l) (hx : ∀ a ∈ ars, a.fit) (hr : Rd w w.heap.size A (cellsA ars)) (hm : l ≤ maxLen) (hc : checkF n ars ≠ 0) :
    Calls Tryd.prog 22 #[.agg #[.int .i64 n, .slice A l c], .int .i64 s, .int .i64 t] w fun e w' => e = .returned (.tuple #[.slice none 0 0, .int .i64 (checkF n ars)]) ∧ Below w.heap.size w w' := by
  have b0 := (Below.refl w.heap.size w).alloc (Nat.le_refl _) (.cells #[.int .i64 n, .slice A l c] 30)
  have kb := Blk.new w _ rfl 30 #[.int .i64 n, .slice A l c]
  obtain ⟨q, hq⟩ : ∃ q, checkF n ars = q := ⟨_, rfl⟩
  have hne : (q != 0) = true := by rw [hq] at hc; simpa using hc
  have Hq := Lib.hid hq
  have Hc := Lib.hid hc
  clear hq hc
  rw [Hq.out]
  go_enter Tryd.func22, Tryd.ntmps22
  go_wp2_with fail
  refine (of_bad n ars A l c _ hl hx ((hr.below b0 (Nat.le_refl _)).more (by simp)) hm Hc.out).mono ?_; rintro e w1 ⟨rfl, hb1⟩
  rw [Hq.out]
  have b1 := b0.trans (hb1.mono (by simp))
  have b2 := b1.alloc b1.size (.cells #[.slice none 0 0, .slice none 0 0] 70)
  clear kb
  go_wp2
  go_ret2
  exact ⟨rfl, b2⟩

set_option maxRecDepth 100000 in
theorem path_node (n : Nat) (ars : List ArcV) (A : Option Addr) (l c : Nat) (s t : Int) (w : World) (hl : ars.length = l) (hx : ∀ a ∈ ars, a.fit) (hr : Rd w w.heap.size A (cellsA ars)) (hm : l ≤ maxLen) (hc : checkF n ars = 0) (hs : fits s) (ht : fits t) (hst : s < 0 ∨ t < 0 ∨ n ≤ s ∨ n ≤ t) :
    Calls Tryd.prog 22 #[.agg #[.int .i64 n, .slice A l c], .int .i64 s, .int .i64 t] w fun e w' => e = .returned (.tuple #[.slice none 0 0, .int .i64 100]) ∧ Below w.heap.size w w' := by
  have b0 := (Below.refl w.heap.size w).alloc (Nat.le_refl _) (.cells #[.int .i64 n, .slice A l c] 30)
  have kb := Blk.new w _ rfl 30 #[.int .i64 n, .slice A l c]
  have Hc := Lib.hid hc
  clear hc
  unfold fits at hs ht
  by_cases hmn : min s t < 0
  all_goals
    go_enter Tryd.func22, Tryd.ntmps22
    go_wp2_with fail
    refine (of_walk n ars A l c _ hl hx ((hr.below b0 (Nat.le_refl _)).more (by simp)) hm Hc.out).mono ?_; rintro e w1 ⟨At, ct, gh, rfl, hgh, ot, oh, hb1⟩
    have b1 := b0.trans (hb1.mono (by simp))
    have b2 := b1.alloc b1.size (.cells #[.slice At (treeF n ars).length ct, .slice (some ⟨gh, 0, none⟩) n n] 70)
    have k2 := (kb.below hb1 (by simp)).alloc (.cells #[.slice At (treeF n ars).length ct, .slice (some ⟨gh, 0, none⟩) n n] 70)
    have n0 := k2.cell 0
    simp at n0
    clear kb k2 ot oh
    go_wp2
    all_goals
      go_ret2
      exact ⟨rfl, b2⟩

set_option maxRecDepth 100000 in
theorem path_apart (n : Nat) (ars : List ArcV) (A : Option Addr) (l c : Nat) (s t : Nat) (w : World) (hl : ars.length = l) (hx : ∀ a ∈ ars, a.fit) (hr : Rd w w.heap.size A (cellsA ars)) (hm : l ≤ maxLen) (hc : checkF n ars = 0) (hs : s < n) (ht : t < n) (hst : root (upF n ars) s ≠ root (upF n ars) t) :
    Calls Tryd.prog 22 #[.agg #[.int .i64 n, .slice A l c], .int .i64 s, .int .i64 t] w fun e w' => e = .returned (.tuple #[.slice none 0 0, .int .i64 110]) ∧ Below w.heap.size w w' := by
  have b0 := (Below.refl w.heap.size w).alloc (Nat.le_refl _) (.cells #[.int .i64 n, .slice A l c] 30)
  have kb := Blk.new w _ rfl 30 #[.int .i64 n, .slice A l c]
  obtain ⟨_, hn32, _, _⟩ := checkF_ok hc
  have Hc := Lib.hid hc
  clear hc
  have c1 := homeF_at (ars := ars) hs
  have c2 := homeF_at (ars := ars) ht
  obtain ⟨x, hx1⟩ : ∃ x, root (upF n ars) s = x := ⟨_, rfl⟩
  obtain ⟨y, hy1⟩ : ∃ y, root (upF n ars) t = y := ⟨_, rfl⟩
  rw [hx1] at c1 hst
  rw [hy1] at c2 hst
  have hne : ((x : Int) != (y : Int)) = true := by simp; omega
  have Hc1 := Lib.hid c1
  have Hc2 := Lib.hid c2
  clear hx1 hy1 c1 c2 hst
  go_enter Tryd.func22, Tryd.ntmps22
  go_wp2_with fail
  refine (of_walk n ars A l c _ hl hx ((hr.below b0 (Nat.le_refl _)).more (by simp)) hm Hc.out).mono ?_; rintro e w1 ⟨At, ct, gh, rfl, hgh, ot, oh, hb1⟩
  have b1 := b0.trans (hb1.mono (by simp))
  have b2 := b1.alloc b1.size (.cells #[.slice At (treeF n ars).length ct, .slice (some ⟨gh, 0, none⟩) n n] 70)
  have k2 := (kb.below hb1 (by simp)).alloc (.cells #[.slice At (treeF n ars).length ct, .slice (some ⟨gh, 0, none⟩) n n] 70)
  have kF := Blk.new w1 _ rfl 70 #[.slice At (treeF n ars).length ct, .slice (some ⟨gh, 0, none⟩) n n]
  have oh2 := oh.alloc (.cells #[.slice At (treeF n ars).length ct, .slice (some ⟨gh, 0, none⟩) n n] 70)
  obtain ⟨W, hW⟩ : ∃ W, w1.alloc (.cells #[.slice At (treeF n ars).length ct, .slice (some ⟨gh, 0, none⟩) n n] 70) = W := ⟨_, rfl⟩
  obtain ⟨bF, hbF⟩ : ∃ bF, w1.heap.size = bF := ⟨_, rfl⟩
  rw [hW] at b2 k2 kF oh2
  rw [hbF] at kF
  have n0 := k2.cell 0
  have f1 := kF.cell 1
  have d1 := oh2.cellAt s (by omega)
  have d2 := oh2.cellAt t (by omega)
  rw [show (cellsI (homeF n ars))[s]? = some (.int .i64 x) by simp [cellsI, Hc1.out]] at d1
  rw [show (cellsI (homeF n ars))[t]? = some (.int .i64 y) by simp [cellsI, Hc2.out]] at d2
  simp at n0 f1
  clear kb k2 kF ot oh oh2 b0 b1 hgh hb1
  go_upto_region 4 with fail
  try rw [hW]
  clear hW
  go_cut [30] (fun s wx => wx = W ∧ s = .bool false)
  case first =>
    go_wp2_with fail
    all_goals go_meet
    all_goals (refine ⟨rfl, ?_⟩; first | rfl | (congr 1; simp; done) | (congr 1; simp; omega))
  case rest =>
    obtain ⟨rfl, rfl⟩ := hcut
    go_wp2
    go_quiet (fail)
    go_wp2
    go_ret2
    exact ⟨rfl, Below.drewN b2 _⟩
end Go.Proofs.YtpmlljbebdidgaaDoor
