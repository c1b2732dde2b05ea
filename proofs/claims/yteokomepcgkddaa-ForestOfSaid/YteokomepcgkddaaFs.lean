/-
  forest.Path's memory, and its closure 'learn'.
-/
import Derived.Test.YteokomepcgkddaaFq
import Derived.Test.YteokomepcgkddaaFg
import Derived.Test.YteokomepcgkddaaFr
namespace Go.Proofs.Yteokomepcgkddaa
open Go.RowKit

def stepCells (s : Stp) : List Value := [.int .i64 s.1, .bool s.2]
def cellsS (p : List Stp) : List Value := p.flatMap stepCells
def cellsB (l : List Bool) : List Value := l.map Value.bool
theorem cellsS_length (p : List Stp) : (cellsS p).length = p.length * 2 := by
  induction p with
  | nil => rfl
  | cons s p ih => simp only [cellsS, List.flatMap_cons, List.length_append] at ih ⊢; rw [ih]; simp [stepCells]; omega
theorem cellsS_at : ∀ (p : List Stp) (k : Nat) (s : Stp), p[k]? = some s → (cellsS p)[k * 2]? = some (.int .i64 s.1) ∧ (cellsS p)[k * 2 + 1]? = some (.bool s.2)
  | [], k, s, h => by simp at h
  | s' :: p, 0, s, h => by simp at h; subst h; exact ⟨rfl, rfl⟩
  | s' :: p, k + 1, s, h => by
    have ih := cellsS_at p k s (by simpa using h)
    have e : cellsS (s' :: p) = stepCells s' ++ cellsS p := rfl
    rw [e, List.getElem?_append_right (by simp [stepCells]; omega), List.getElem?_append_right (by simp [stepCells]; omega)]
    rw [show (k + 1) * 2 - (stepCells s').length = k * 2 by simp [stepCells]; omega, show (k + 1) * 2 + 1 - (stepCells s').length = k * 2 + 1 by simp [stepCells]; omega]
    exact ih
theorem cellsS_set : ∀ (p : List Stp) (k : Nat) (s : Stp), ((cellsS p).set (k * 2) (.int .i64 s.1)).set (k * 2 + 1) (.bool s.2) = cellsS (p.set k s)
  | [], k, s => by simp [cellsS]
  | s' :: p, 0, s => rfl
  | s' :: p, k + 1, s => by
    have e : ∀ s' p, cellsS (s' :: p) = .int .i64 s'.1 :: .bool s'.2 :: cellsS p := fun _ _ => rfl
    rw [List.set_cons_succ, e, e, show (k + 1) * 2 = (k * 2 + 1) + 1 by omega, List.set_cons_succ, List.set_cons_succ, List.set_cons_succ, show k * 2 + 1 + 1 = k * 2 + 1 + 1 by rfl, List.set_cons_succ, cellsS_set]
theorem cellsB_set (l : List Bool) (j : Nat) (b : Bool) : (cellsB l).set j (.bool b) = cellsB (l.set j b) := by simp [cellsB, List.map_set]

/-- forest.Path's memory behind W0: the three tables, the queue, and the cells that hold them -/
structure PSt (W0 wr : World) (n gN bN gT bT gK bK gW bW : Nat) (kn : List Bool) (nx : List Stp) (tw q : List Int) (vq : Value) : Prop where
  bw : Below W0.heap.size W0 wr
  kN : Blk wr bN 38 #[.slice (some ⟨gN, 0, none⟩) n n]
  oN : wr.ownsRow gN 48 2 (.slice (some ⟨gN, 0, none⟩) n n) n (cellsS nx)
  kT : Blk wr bT 25 #[.slice (some ⟨gT, 0, none⟩) n n]
  oT : wr.ownsRow gT 3 1 (.slice (some ⟨gT, 0, none⟩) n n) n (cellsI tw)
  kK : Blk wr bK 57 #[.slice (some ⟨gK, 0, none⟩) n n]
  oK : wr.ownsRow gK 4 1 (.slice (some ⟨gK, 0, none⟩) n n) n (cellsB kn)
  kW : Blk wr bW 25 #[vq]
  oq : ownsQ wr gW 3 vq q.length (cellsI q)
  s0 : W0.heap.size ≤ gN
  s1 : gN < bN
  s2 : bN < gT
  s3 : gT < bT
  s4 : bT < gK
  s5 : gK < bK
  s6 : bK < gW
  s7 : gW < bW
theorem ownsQ.ne {w : World} {base n g : Nat} {e t : TypeId} {v : Value} {xs : List Value} {cs : Array Value} (h : ownsQ w base e v n xs) (hg : Blk w g t cs) (hne : e ≠ t) : v.ownBlock ≠ some g := by
  obtain ⟨_, g', off, cap, cur, rfl, _, hh, _⟩ := h
  intro he
  have : g' = g := by simpa [Value.ownBlock] using he
  subst this
  unfold Blk at hg
  rw [hh] at hg
  injection hg with hg
  injection hg with _ ht
  exact hne ht
section
variable {W0 wr : World} {n gN bN gT bT gK bK gW bW : Nat} {kn : List Bool} {nx : List Stp} {tw q : List Int} {vq : Value}
theorem PSt.alloc (h : PSt W0 wr n gN bN gT bT gK bK gW bW kn nx tw q vq) (o : Obj) : PSt W0 (wr.alloc o) n gN bN gT bT gK bK gW bW kn nx tw q vq :=
  ⟨h.bw.alloc h.bw.size o, h.kN.alloc o, h.oN.alloc o, h.kT.alloc o, h.oT.alloc o, h.kK.alloc o, h.oK.alloc o, h.kW.alloc o, h.oq.alloc o, h.s0, h.s1, h.s2, h.s3, h.s4, h.s5, h.s6, h.s7⟩
theorem PSt.drawn (h : PSt W0 wr n gN bN gT bT gK bK gW bW kn nx tw q vq) (d : Nat) : PSt W0 (wr.drewN d) n gN bN gT bT gK bK gW bW kn nx tw q vq :=
  ⟨Below.drewN h.bw d, h.kN, h.oN, h.kT, h.oT, h.kK, h.oK, h.kW, h.oq, h.s0, h.s1, h.s2, h.s3, h.s4, h.s5, h.s6, h.s7⟩
/-- the numbers of the blocks that are not the queue's own -/
theorem PSt.far (h : PSt W0 wr n gN bN gT bT gK bK gW bW kn nx tw q vq) : ∀ k, (k < gW ∨ k = bW) → vq.ownBlock ≠ some k := by
  intro k hk
  rcases hk with hk | rfl
  · intro he
    have := (h.oq.lt k he).1
    omega
  · exact h.oq.ne h.kW (by decide)
/-- a store into a block of the state's own that is none but the one named -/
theorem PSt.setN (h : PSt W0 wr n gN bN gT bT gK bK gW bW kn nx tw q vq) (x : Nat) (s : Stp) : PSt W0 ((wr.setCell ⟨gN, x * 2, none⟩ (.int .i64 s.1)).setCell ⟨gN, x * 2 + 1, none⟩ (.bool s.2)) n gN bN gT bT gK bK gW bW kn (nx.set x s) tw q vq := by
  have := h.s0; have := h.s1; have := h.s2; have := h.s3; have := h.s4; have := h.s5; have := h.s6; have := h.s7
  have o1 := h.oN.stored (x * 2) (.int .i64 s.1)
  have o2 := o1.1.stored (x * 2 + 1) (.bool s.2)
  have hf := h.far gN (by omega)
  have ho := o2.1
  rw [cellsS_set] at ho
  exact ⟨(h.bw.setCell (by simp; omega) _).setCell (by simp; omega) _, (h.kN.far (by simp; omega) _).far (by simp; omega) _, ho, (h.kT.far (by simp; omega) _).far (by simp; omega) _,
    (h.oT.kept o1.2 (.inr (by simp [Value.ownBlock]; omega))).kept o2.2 (.inr (by simp [Value.ownBlock]; omega)), (h.kK.far (by simp; omega) _).far (by simp; omega) _,
    (h.oK.kept o1.2 (.inr (by simp [Value.ownBlock]; omega))).kept o2.2 (.inr (by simp [Value.ownBlock]; omega)), (h.kW.far (by simp; omega) _).far (by simp; omega) _, (h.oq.kept o1.2 hf).kept o2.2 hf,
    h.s0, h.s1, h.s2, h.s3, h.s4, h.s5, h.s6, h.s7⟩
theorem PSt.setT (h : PSt W0 wr n gN bN gT bT gK bK gW bW kn nx tw q vq) (x : Nat) (m : Int) : PSt W0 (wr.setCell ⟨gT, x, none⟩ (.int .i64 m)) n gN bN gT bT gK bK gW bW kn nx (tw.set x m) q vq := by
  have := h.s0; have := h.s1; have := h.s2; have := h.s3; have := h.s4; have := h.s5; have := h.s6; have := h.s7
  have o1 := h.oT.stored x (.int .i64 m)
  have hf := h.far gT (by omega)
  have ho := o1.1
  rw [cellsI_set] at ho
  exact ⟨h.bw.setCell (by simp; omega) _, h.kN.far (by simp; omega) _, h.oN.kept o1.2 (.inr (by simp [Value.ownBlock]; omega)), h.kT.far (by simp; omega) _, ho, h.kK.far (by simp; omega) _,
    h.oK.kept o1.2 (.inr (by simp [Value.ownBlock]; omega)), h.kW.far (by simp; omega) _, h.oq.kept o1.2 hf, h.s0, h.s1, h.s2, h.s3, h.s4, h.s5, h.s6, h.s7⟩
theorem PSt.setK (h : PSt W0 wr n gN bN gT bT gK bK gW bW kn nx tw q vq) (x : Nat) (b : Bool) : PSt W0 (wr.setCell ⟨gK, x, none⟩ (.bool b)) n gN bN gT bT gK bK gW bW (kn.set x b) nx tw q vq := by
  have := h.s0; have := h.s1; have := h.s2; have := h.s3; have := h.s4; have := h.s5; have := h.s6; have := h.s7
  have o1 := h.oK.stored x (.bool b)
  have hf := h.far gK (by omega)
  have ho := o1.1
  rw [cellsB_set] at ho
  exact ⟨h.bw.setCell (by simp; omega) _, h.kN.far (by simp; omega) _, h.oN.kept o1.2 (.inr (by simp [Value.ownBlock]; omega)), h.kT.far (by simp; omega) _, h.oT.kept o1.2 (.inr (by simp [Value.ownBlock]; omega)), h.kK.far (by simp; omega) _, ho,
    h.kW.far (by simp; omega) _, h.oq.kept o1.2 hf, h.s0, h.s1, h.s2, h.s3, h.s4, h.s5, h.s6, h.s7⟩
/-- the queue has grown (it may lie elsewhere now), and its cell says so -/
theorem PSt.setQ {w' : World} {q' : List Int} {vq' : Value} (h : PSt W0 wr n gN bN gT bT gK bK gW bW kn nx tw q vq) (hg : wr.grownBy w' vq.ownBlock) (ho : ownsQ w' gW 3 vq' q'.length (cellsI q')) :
    PSt W0 (w'.setCell ⟨bW, 0, none⟩ vq') n gN bN gT bT gK bK gW bW kn nx tw q' vq' := by
  have := h.s0; have := h.s1; have := h.s2; have := h.s3; have := h.s4; have := h.s5; have := h.s6; have := h.s7
  have nb : ∀ k, (k < gW ∨ k = bW) → some k ≠ vq.ownBlock := fun k hk he => h.far k hk he.symm
  have kW' := h.kW.grown hg (nb bW (.inr rfl))
  have hst : (w'.setCell ⟨bW, 0, none⟩ vq').heap.size = w'.heap.size := by simp
  have gs : w'.grownBy (w'.setCell ⟨bW, 0, none⟩ vq') (some bW) := ⟨rfl, rfl, rfl, by simp, fun k _ hk => Below.heap_setCell w' _ _ k (fun he => hk (by rw [he]))⟩
  have bw' : Below W0.heap.size W0 w' := h.bw.grown hg h.bw.size (fun k hk => by have := (h.oq.lt k hk).1; omega)
  exact ⟨bw'.setCell (by simp; omega) _, (h.kN.grown hg (nb _ (by omega))).far (by simp; omega) _, (h.oN.kept hg (.inr (by simpa [Value.ownBlock] using nb gN (by omega)))).kept gs (.inr (by simp [Value.ownBlock]; omega)),
    (h.kT.grown hg (nb _ (by omega))).far (by simp; omega) _, (h.oT.kept hg (.inr (by simpa [Value.ownBlock] using nb gT (by omega)))).kept gs (.inr (by simp [Value.ownBlock]; omega)),
    (h.kK.grown hg (nb _ (by omega))).far (by simp; omega) _, (h.oK.kept hg (.inr (by simpa [Value.ownBlock] using nb gK (by omega)))).kept gs (.inr (by simp [Value.ownBlock]; omega)),
    by simpa using kW'.set 0 vq', ho.far (ho.ne kW' (by decide)) _, h.s0, h.s1, h.s2, h.s3, h.s4, h.s5, h.s6, h.s7⟩
end
end Go.Proofs.Yteokomepcgkddaa
