/-
  pianolakeep.Apart: its memory's states.
-/
import Derived.Test.YtdogddngiolpoaaAp2
namespace Go.Proofs.Ytdogddngiolpoaa
open Go.RowKit

/-- the lists, whose they are -/
structure ApG (m B bo gl : Nat) (A : Nat → Option Addr) : Prop where
  nbo : ∀ j, j < m → blkOf (A j) ≠ some bo
  ngl : ∀ j, j < m → blkOf (A j) ≠ some gl
  dis : ∀ j k, j < m → k < m → j ≠ k → ∀ b, blkOf (A j) = some b → blkOf (A k) ≠ some b
  bgl : B ≤ gl
  bogl : bo ≠ gl
/-- while they are marked -/
structure ApA (w wr : World) (m B bo oo gl : Nat) (A : Nat → Option Addr) (n c : Nat → Nat) (zs : Nat → List Int) (L : Nat → Value) : Prop where
  bw : Below B w wr
  out : ∀ j, j < m → wr.cell? ⟨bo, oo + j, none⟩ = some (.slice (A j) (n j) (c j))
  lng : wr.ownsRow gl 25 1 (.slice (some ⟨gl, 0, none⟩) m m) m ((List.range m).map L)
  own : ∀ j, j < m → wr.ownsRow B 3 1 (.slice (A j) (n j) (c j)) (n j) (cellsI (zs j))
theorem own_addr {w : World} {base : Nat} {e : TypeId} {size n c : Nat} {A : Option Addr} {xs : List Value} (h : w.ownsRow base e size (.slice A n c) n xs) (hn : 0 < n) : ∃ g, A = some ⟨g, 0, none⟩ := by
  rcases h.2 with ⟨h', h0⟩ | ⟨g, cap, cur, hv, _⟩
  · omega
  · injection hv with ha; exact ⟨g, ha⟩
theorem ApA.store {w wr : World} {m B bo oo gl : Nat} {A : Nat → Option Addr} {n c : Nat → Nat} {zs : Nat → List Int} {L : Nat → Value} (G : ApG m B bo gl A) (h : ApA w wr m B bo oo gl A n c zs L) {i g : Nat} (hi : i < m) (hA : A i = some ⟨g, 0, none⟩) (k : Nat) (x : Int) :
    ApA w (wr.setCell ⟨g, k, none⟩ (.int .i64 x)) m B bo oo gl A n c (upd zs i ((zs i).set k x)) L := by
  have oi := h.own i hi
  rw [hA] at oi
  have st := oi.stored k (.int .i64 x)
  have hbg : blkOf (A i) = some g := by rw [hA]; rfl
  have hB := (oi.lt g (by rfl)).1
  refine ⟨h.bw.setCell (by simp; omega) _, fun j hj => ?_, h.lng.kept st.2 (.inr (by simp only [Value.ownBlock]; intro he; exact G.ngl i hi (by rw [hbg]; exact he.symm))), fun j hj => ?_⟩
  · rw [World.cell?_of_block (w := wr) (Below.heap_setCell wr _ _ bo (fun he => G.nbo i hi (by rw [hbg]; simp only at he; rw [he])))]
    exact h.out j hj
  · by_cases hji : j = i
    · subst hji
      rw [upd_self, hA, ← cellsI_put]
      exact st.1
    · rw [upd_other hji]
      refine (h.own j hj).kept st.2 ?_
      rw [ownBlock_slice]
      cases hbj : blkOf (A j) with
      | none => exact .inl rfl
      | some b => exact .inr (fun he => G.dis j i hj hi hji b hbj (by rw [hbg, ← he]))
theorem ApA.long {w wr : World} {m B bo oo gl : Nat} {A : Nat → Option Addr} {n c : Nat → Nat} {zs : Nat → List Int} {L : Nat → Value} (G : ApG m B bo gl A) (h : ApA w wr m B bo oo gl A n c zs L) (i : Nat) (v : Value) :
    ApA w (wr.setCell ⟨gl, i, none⟩ v) m B bo oo gl A n c zs (upd L i v) := by
  have st := h.lng.stored i v
  refine ⟨h.bw.setCell (by have := G.bgl; simp; omega) _, fun j hj => ?_, by rw [map_upd]; exact st.1, fun j hj => (h.own j hj).kept st.2 ?_⟩
  · rw [World.cell?_of_block (w := wr) (Below.heap_setCell wr _ _ bo (fun he => G.bogl he))]
    exact h.out j hj
  · rw [ownBlock_slice]
    exact .inr (G.ngl j hj)
/-- while they grow -/
structure ApB (w wr : World) (m B bo oo gl : Nat) (A : Nat → Option Addr) (n c : Nat → Nat) (L : Nat → Value) (ys : Nat → List Int) : Prop where
  bw : Below B w wr
  out : ∀ j, j < m → wr.cell? ⟨bo, oo + j, none⟩ = some (.slice (A j) (n j) (c j))
  lng : wr.ownsRow gl 25 1 (.slice (some ⟨gl, 0, none⟩) m m) m ((List.range m).map L)
  own : ∀ j, j < m → ownsN wr B 3 (L j) (ys j).length (cellsI (ys j))
  rd : ∀ j, j < m → Rd wr wr.heap.size (A j) (cellsI (marksOf j (n j)))
  dis : ∀ j k, j < m → k < m → j ≠ k → ∀ b, (L j).ownBlock = some b → (L k).ownBlock ≠ some b
  dia : ∀ j k, j < m → k < m → j ≠ k → ∀ b, blkOf (A j) = some b → (L k).ownBlock ≠ some b
  aft : ∀ j, j < m → ∀ b, blkOf (A j) = some b → (L j).ownBlock = some b → L j = .slice (A j) (ys j).length (c j) ∧ ∃ tl, ys j = marksOf j (n j) ++ tl
  nbo : ∀ j, j < m → (L j).ownBlock ≠ some bo
  ngl : ∀ j, j < m → (L j).ownBlock ≠ some gl
  bos : bo < wr.heap.size
  gls : gl < wr.heap.size
  abl : ∀ j, j < m → ∀ b, blkOf (A j) = some b → b < wr.heap.size
theorem ApB.start {w wr : World} {m B bo oo gl : Nat} {A : Nat → Option Addr} {n c : Nat → Nat} (G : ApG m B bo gl A) (hbo : bo < wr.heap.size) (h : ApA w wr m B bo oo gl A n c (fun j => marksOf j (n j)) (fun j => .slice (A j) (n j) (c j))) :
    ApB w wr m B bo oo gl A n c (fun j => .slice (A j) (n j) (c j)) (fun j => marksOf j (n j)) := by
  have hgl : gl < wr.heap.size := (h.lng.lt gl rfl).2
  refine ⟨h.bw, h.out, h.lng, fun j hj => ?_, fun j hj => rd_of_own (h.own j hj), ?_, ?_, ?_, ?_, ?_, hbo, hgl, ?_⟩
  · simp only [marksOf_length]; exact ownsN_of_row (h.own j hj)
  · intro j k hj hk hne b hb
    rw [ownBlock_slice] at hb ⊢
    exact G.dis j k hj hk hne b hb
  · intro j k hj hk hne b hb
    rw [ownBlock_slice]
    exact G.dis j k hj hk hne b hb
  · intro j hj b _ _
    exact ⟨by simp only [marksOf_length], [], by simp⟩
  · intro j hj; rw [ownBlock_slice]; exact G.nbo j hj
  · intro j hj; rw [ownBlock_slice]; exact G.ngl j hj
  · intro j hj b hb
    have := (h.own j hj).lt b (by rw [ownBlock_slice]; exact hb)
    exact this.2
theorem ApB.alloc {w wr : World} {m B bo oo gl : Nat} {A : Nat → Option Addr} {n c : Nat → Nat} {L : Nat → Value} {ys : Nat → List Int} (G : ApG m B bo gl A) (h : ApB w wr m B bo oo gl A n c L ys) (o : Obj) : ApB w (wr.alloc o) m B bo oo gl A n c L ys := by
  have hk : wr.grownBy (wr.alloc o) none := World.grownBy_alloc wr o none
  have hbo := h.bos
  refine ⟨h.bw.alloc (by have := G.bgl; have := h.gls; omega) o, fun j hj => ?_, h.lng.alloc o, fun j hj => (h.own j hj).kept hk (by cases (L j).ownBlock <;> simp), fun j hj => ?_, h.dis, h.dia, h.aft, h.nbo, h.ngl, by simp; omega, by have := h.gls; simp; omega, fun j hj b hb => by have := h.abl j hj b hb; simp; omega⟩
  · rw [World.cell?_of_block (w := wr) (Below.heap_alloc wr o bo hbo)]; exact h.out j hj
  · exact ((h.rd j hj).below ((Below.refl wr.heap.size wr).alloc (Nat.le_refl _) o) (Nat.le_refl _)).more (by simp)
theorem ApB.drawn {w wr : World} {m B bo oo gl : Nat} {A : Nat → Option Addr} {n c : Nat → Nat} {L : Nat → Value} {ys : Nat → List Int} (h : ApB w wr m B bo oo gl A n c L ys) (d : Nat) : ApB w (wr.drewN d) m B bo oo gl A n c L ys :=
  ⟨Below.drewN h.bw d, h.out, h.lng, h.own, h.rd, h.dis, h.dia, h.aft, h.nbo, h.ngl, h.bos, h.gls, h.abl⟩
/-- one more behind list i -/
theorem ApB.grow {w wr w' : World} {m B bo oo gl : Nat} {A : Nat → Option Addr} {n c : Nat → Nat} {L : Nat → Value} {ys : Nat → List Int} (G : ApG m B bo gl A) (h : ApB w wr m B bo oo gl A n c L ys) {i : Nat} (hi : i < m) (x : Int) {v' : Value}
    (ho : ownsN w' B 3 v' ((ys i).length + 1) (cellsI (ys i) ++ [.int .i64 x])) (hg : wr.grownBy w' (L i).ownBlock) (hb : v'.ownBlock = (L i).ownBlock ∨ v'.ownBlock = some wr.heap.size)
    (hv : v'.ownBlock = (L i).ownBlock → ∀ A' c', L i = .slice A' (ys i).length c' → v' = .slice A' ((ys i).length + 1) c')
    (hkeep : ∀ g off q cap, L i = .slice (some ⟨g, off, none⟩) q cap → ∀ j u, (cellsI (ys i))[j]? = some u → w'.cell? ⟨g, off + j, none⟩ = some u) :
    ApB w (w'.setCell ⟨gl, i, none⟩ v') m B bo oo gl A n c (upd L i v') (upd ys i (ys i ++ [x])) := by
  have hsz := hg.size
  have nb : ∀ b, b < wr.heap.size → (L i).ownBlock ≠ some b → w'.heap[b]? = wr.heap[b]? := fun b hbl hne => hg.block b hbl (fun he => hne he.symm)
  have lng' := h.lng.kept hg (.inr (fun he => h.ngl i hi (by rw [← he]; rfl)))
  have st := lng'.stored i v'
  have vbo : v'.ownBlock ≠ some bo := by
    rcases hb with hb | hb
    · rw [hb]; exact h.nbo i hi
    · rw [hb]; have := h.bos; intro he; injection he with he; omega
  have vgl : v'.ownBlock ≠ some gl := by
    rcases hb with hb | hb
    · rw [hb]; exact h.ngl i hi
    · rw [hb]; have := h.gls; intro he; injection he with he; omega
  have keepS : ∀ a : Addr, a.block ≠ gl → (w'.setCell ⟨gl, i, none⟩ v').cell? a = w'.cell? a := fun a ha => World.cell?_of_block (Below.heap_setCell w' _ _ a.block ha)
  have bw' : Below B w w' := h.bw.grown hg (by have := G.bgl; have := h.gls; omega) (fun k hk => ((h.own i hi).lt k hk).1)
  refine ⟨bw'.setCell (by have := G.bgl; simp; omega) _, fun j hj => ?_, by rw [map_upd]; exact st.1, fun j hj => ?_, fun j hj => ?_, ?_, ?_, ?_, ?_, ?_, by have := h.bos; simp; omega, by have := h.gls; simp; omega, fun j hj b hb => by have := h.abl j hj b hb; simp; omega⟩
  · rw [keepS _ (fun he => G.bogl he), World.cell?_of_block (w := wr) (nb bo h.bos (h.nbo i hi))]
    exact h.out j hj
  · by_cases hji : j = i
    · subst hji
      rw [upd_self, upd_self]
      have e : cellsI (ys j ++ [x]) = cellsI (ys j) ++ [.int .i64 x] := by simp [cellsI]
      rw [e, List.length_append]
      exact ho.kept st.2 (.inr vgl)
    · rw [upd_other hji, upd_other hji]
      refine ((h.own j hj).kept hg ?_).kept st.2 (.inr (h.ngl j hj))
      cases hbj : (L j).ownBlock with
      | none => exact .inl rfl
      | some b => exact .inr (fun he => h.dis j i hj hi hji b hbj he.symm)
  · rcases h.rd j hj with hr | ⟨b, off, hA, hbl, hc⟩
    · exact .inl hr
    · have hbA : blkOf (A j) = some b := by rw [hA]; rfl
      refine .inr ⟨b, off, hA, by simp; omega, fun k u hu => ?_⟩
      rw [keepS _ (fun he => G.ngl j hj (by rw [hbA]; simp only at he; rw [he]))]
      by_cases hLb : (L i).ownBlock = some b
      · by_cases hji : j = i
        · subst hji
          obtain ⟨hL, tl, htl⟩ := h.aft j hj b hbA hLb
          rw [hA] at hL
          refine hkeep b off _ _ hL k u ?_
          rw [htl]
          simp only [cellsI, List.map_append]
          rw [List.getElem?_append_left (by have := (List.getElem?_eq_some_iff.1 hu).1; simpa [cellsI] using this)]
          exact hu
        · exact absurd hLb (h.dia j i hj hi hji b hbA)
      · rw [World.cell?_of_block (w := wr) (a := ⟨b, off + k, none⟩) (nb b hbl hLb)]
        exact hc k u hu
  · intro j k hj hk hne b hbj
    by_cases hji : j = i
    · subst hji
      rw [upd_self] at hbj
      rw [upd_other (fun h => hne h.symm)]
      rcases hb with hb | hb
      · rw [hb] at hbj; exact h.dis j k hj hk hne b hbj
      · rw [hb] at hbj
        injection hbj with hbj
        intro he
        have := ((h.own k hk).lt b he).2
        omega
    · rw [upd_other hji] at hbj
      by_cases hki : k = i
      · subst hki
        rw [upd_self]
        rcases hb with hb | hb
        · rw [hb]; exact h.dis j k hj hk hne b hbj
        · rw [hb]; intro he
          injection he with he
          have := ((h.own j hj).lt b hbj).2
          omega
      · rw [upd_other hki]; exact h.dis j k hj hk hne b hbj
  · intro j k hj hk hne b hbj
    by_cases hki : k = i
    · subst hki
      rw [upd_self]
      rcases hb with hb | hb
      · rw [hb]; exact h.dia j k hj hk hne b hbj
      · rw [hb]; intro he
        injection he with he
        have := h.abl j hj b hbj
        omega
    · rw [upd_other hki]; exact h.dia j k hj hk hne b hbj
  · intro j hj b hbj hLb
    by_cases hji : j = i
    · subst hji
      rw [upd_self] at hLb ⊢
      rw [upd_self]
      have hsame : (L j).ownBlock = some b := by
        rcases hb with hb | hb
        · rw [← hb]; exact hLb
        · exfalso
          rw [hb] at hLb
          injection hLb with hLb
          have := h.abl j hj b hbj
          omega
      obtain ⟨hL, tl, htl⟩ := h.aft j hj b hbj hsame
      refine ⟨?_, tl ++ [x], by rw [htl, List.append_assoc]⟩
      rw [List.length_append]
      exact hv (by rw [hLb, hsame]) (A j) (c j) hL
    · rw [upd_other hji] at hLb ⊢
      rw [upd_other hji]
      exact h.aft j hj b hbj hLb
  · intro j hj
    by_cases hji : j = i
    · subst hji; rw [upd_self]; exact vbo
    · rw [upd_other hji]; exact h.nbo j hj
  · intro j hj
    by_cases hji : j = i
    · subst hji; rw [upd_self]; exact vgl
    · rw [upd_other hji]; exact h.ngl j hj
end Go.Proofs.Ytdogddngiolpoaa
