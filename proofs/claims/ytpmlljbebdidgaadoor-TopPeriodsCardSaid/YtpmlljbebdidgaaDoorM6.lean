/-
  Ap, Ap2, Ap3, Ap4: texts pasted together.
-/
import Derived.Test.YtpmlljbebdidgaaDoorFq
import Derived.Deep.DeepAppendWide
import Derived.Deep.DeepCutAuto
import Derived.IntWalk
/-
  pianolakeep.Apart's memory: lists that may be nil, one appended to behind the other; what is read of the old ones stays.
-/
namespace Go.Proofs.YtpmlljbebdidgaaDoor
open Go.RowKit

/-- a slice of numbers that may be nil, in a block of its own -/
def ownsN (w : World) (base : Nat) (e : TypeId) (v : Value) (n : Nat) (xs : List Value) : Prop := (v = .slice none 0 0 ∧ n = 0 ∧ xs = []) ∨ ownsQ w base e v n xs
theorem ownsN_of_row {w : World} {base : Nat} {e : TypeId} {v : Value} {n : Nat} {xs : List Value} (h : w.ownsRow base e 1 v n xs) : ownsN w base e v n xs := by
  obtain ⟨h1, h2⟩ := h
  rcases h2 with ⟨h2, h3⟩ | ⟨g, cap, cur, h2, h3, h4, h5, h6, h7, h8⟩
  · exact .inl ⟨h2, h3, List.eq_nil_of_length_eq_zero (by rw [h1, h3])⟩
  · exact .inr ⟨by rw [h1, Nat.mul_one], g, 0, cap, cur, h2, h3, h4, h5, h6, by rw [h7]; omega, by rw [List.drop_zero]; rw [Nat.mul_one] at h8; exact h8⟩
theorem ownsN.lt {w : World} {base n : Nat} {e : TypeId} {v : Value} {xs : List Value} (h : ownsN w base e v n xs) : ∀ k, v.ownBlock = some k → base ≤ k ∧ k < w.heap.size := by
  rcases h with ⟨rfl, _, _⟩ | h
  · intro k hk; simp [Value.ownBlock] at hk
  · exact h.lt
theorem ownsN.kept {w w' : World} {base n : Nat} {e : TypeId} {v : Value} {xs : List Value} {row : Option Nat} (h : ownsN w base e v n xs) (hg : w.grownBy w' row) (hne : v.ownBlock = none ∨ v.ownBlock ≠ row) : ownsN w' base e v n xs := by
  rcases h with h | h
  · exact .inl h
  · refine .inr ?_
    rcases hne with hne | hne
    · obtain ⟨_, g, off, cap, cur, rfl, _⟩ := h
      simp [Value.ownBlock] at hne
    · exact h.kept hg hne
/-- what is read of it -/
theorem ownsN.slice {w : World} {base n : Nat} {e : TypeId} {v : Value} {xs : List Value} (h : ownsN w base e v n xs) : ∃ A c, v = .slice A n c ∧ (∀ j u, xs[j]? = some u → ∃ g off, A = some ⟨g, off, none⟩ ∧ w.cell? ⟨g, off + j, none⟩ = some u) := by
  rcases h with ⟨rfl, rfl, rfl⟩ | h
  · exact ⟨none, 0, rfl, fun j u hu => by simp at hu⟩
  · obtain ⟨g, off, cap, rfl, _, _, _, _, hc⟩ := h.slice
    exact ⟨_, cap, rfl, fun j u hu => ⟨g, off, rfl, hc j u hu⟩⟩
section
variable {P : Program} (w : World)
/-- one more behind it: what could be read of the old one can still be read -/
theorem run_append_n (base : Nat) (t ty e : TypeId) (i : TypeInfo) (z : Value) (ht : P.underlying t = some (.slice e)) (hi : P.info? e = some i) (hz : i.zero = some z)
    (hsize : i.size = 1) (hby : i.bytes = 8) (hzs : z.cells.size = 1)
    (v : Value) (n : Nat) (xs : List Value) (hown : ownsN w base e v n xs) (ad : Addr) (c : Nat) (x : Value) (hx : w.cell? ad = some x) (h1 : x.oneCell' = true) (hn : n ≤ 17592186044416) (hbase : base ≤ w.heap.size) :
    ∃ v' w', (Builtin.append_ #[t, t] ty #[v, .slice (some ad) 1 c]).run P w = .ok v' w' ∧ ownsN w' base e v' (n + 1) (xs ++ [x]) ∧ w.grownBy w' v.ownBlock ∧ (v'.ownBlock = v.ownBlock ∨ v'.ownBlock = some w.heap.size) ∧
      (∀ g off m cap, v = .slice (some ⟨g, off, none⟩) m cap → ∀ j u, xs[j]? = some u → w'.cell? ⟨g, off + j, none⟩ = some u) ∧ (v'.ownBlock = v.ownBlock → ∀ A' c', v = .slice A' n c' → v' = .slice A' (n + 1) c') := by
  have hsrc : ∀ j u, [x][j]? = some u → w.cell? (ad.add j) = some u := by
    intro j u hu
    match j with
    | 0 => simp at hu; subst hu; have : ad.add 0 = ad := by unfold Addr.add; split <;> simp_all
           rw [this]; exact hx
    | j + 1 => simp at hu
  have hs : Src P i.size t (.slice (some ad) 1 c) 1 [x] w := Src.ofSlice w ht ad 1 c [x] (by simp [hsize]) hsrc (by simpa using h1)
  rcases hown with ⟨rfl, rfl, rfl⟩ | hown
  · have hfit : Builtin.nextslicecap (0 + 1) 0 * i.bytes ≤ 281474976710656 := by rw [hby]; exact growslice_fits_wide (by omega) (by omega)
    have hr := run_append_grow_src w t t ty e i z ht hi hz none 0 0 [] (run_firstCells_none w.drew i.size 0 0 0) (.slice (some ad) 1 c) 1 [x] hs (by omega) (by omega) hfit
    have hge := grownCap_ge w (0 + 1) 0 e
    have hle := grownCap_le_maxLen w (0 + 1) 0 e (by unfold maxLen; omega)
    refine ⟨_, _, hr, .inr ⟨rfl, w.heap.size, 0, _, _, rfl, hbase, heap_alloc_new w.drew _, hge, hle, ?_, ?_⟩, ⟨rfl, rfl, rfl, by simp, fun k hk _ => Below.heap_alloc w.drew _ k hk⟩, .inr rfl, (fun g off m cap hv => by cases hv), fun he => by simp [Value.ownBlock] at he⟩
    · simp [size_zeroCells, hzs]; omega
    · rw [List.drop_zero, Array.toList_append]
      rfl
  · have hown' := hown
    obtain ⟨hl, g, off, cap, cur, rfl, hb, hg, h2, h3, h4, h5⟩ := hown
    have hlt := (Array.getElem?_eq_some_iff.1 hg).1
    have hcells : ∀ j u, xs[j]? = some u → w.cell? ⟨g, off + j, none⟩ = some u := by
      obtain ⟨g', off', cap', hv, _, _, _, _, hc⟩ := hown'.slice
      injection hv with ha _ _
      injection ha with ha
      injection ha with ha ho _
      subst ha ho
      exact hc
    by_cases hroom : n + 1 ≤ cap
    · have hr := run_append_room_src w t t ty e i ht hi g off n cap (.slice (some ad) 1 c) 1 [x] hs hroom
        (by intro j hj; simp at hj; subst hj; rw [cell_of_row w g _ cur e (0, 0) hg]; simp [hsize]; omega) (by intro j hj; simp [World.frozen?, hg])
      rw [hsize, Nat.mul_one] at hr
      have hset : w.setCells g (off + n) [x] = w.setCell ⟨g, off + n, none⟩ x := by simp [World.setCells]
      rw [hset] at hr
      refine ⟨_, _, hr, .inr ⟨by simp [hl], g, off, cap, _, rfl, hb, setRowCells hg _ _, hroom, h3, by simp; omega, ?_⟩, ⟨rfl, rfl, rfl, by simp, fun k _ hk => Below.heap_setCell w _ x k (fun he => hk (by rw [he]; rfl))⟩, .inl rfl, ?_, fun _ A' c' hv => by injection hv with h1 _ h3; rw [h1, h3]⟩
      · rw [Array.toList_setIfInBounds, List.drop_set, if_neg (by omega), show off + n - off = n by omega]
        have hlen : n < (cur.toList.drop off).length := by simp; omega
        rw [List.take_succ_eq_append_getElem (by simpa using hlen), List.getElem_set_self, List.take_set_of_le (by omega), h5]
      · intro g' off' m' cap' hv j u hu
        injection hv with ha _ _
        injection ha with ha
        injection ha with ha ho _
        subst ha ho
        have hj : j < n := by have := (List.getElem?_eq_some_iff.1 hu).1; omega
        rw [World.cell?_setCell_other]
        · exact hcells j u hu
        · intro he; injection he with _ he _; omega
    · have hcap : cap = n := by omega
      subst hcap
      have hold : (Builtin.firstCells i.size cap (.slice (some ⟨g, off, none⟩) cap cap)).run P w.drew = .ok xs.toArray w.drew :=
        run_firstCells_some w.drew i.size cap _ cap cap xs (by rw [hl, hsize]; omega) (fun j u hu => by rw [Addr.add_lit]; exact hcells j u hu)
      have hfit : Builtin.nextslicecap (cap + 1) cap * i.bytes ≤ 281474976710656 := by rw [hby]; exact growslice_fits_wide (by omega) (by omega)
      have hr := run_append_grow_src w t t ty e i z ht hi hz (some ⟨g, off, none⟩) cap cap xs hold (.slice (some ad) 1 c) 1 [x] hs (by omega) (by omega) hfit
      have hge := grownCap_ge w (cap + 1) cap e
      have hle := grownCap_le_maxLen w (cap + 1) cap e (by unfold maxLen; omega)
      refine ⟨_, _, hr, .inr ⟨by simp [hl], w.heap.size, 0, _, _, rfl, hbase, heap_alloc_new w.drew _, hge, hle, ?_, ?_⟩, ⟨rfl, rfl, rfl, by simp, fun k hk _ => Below.heap_alloc w.drew _ k hk⟩, .inr rfl, ?_, fun he => by simp [Value.ownBlock] at he; omega⟩
      · simp [size_zeroCells, hzs, hl]; omega
      · rw [List.drop_zero, Array.toList_append]
        have : (xs ++ [x]).toArray.toList.length = cap + 1 := by simp [hl]
        rw [← this, List.take_left]
      · intro g' off' m' cap' hv j u hu
        injection hv with ha _ _
        injection ha with ha
        injection ha with ha ho _
        subst ha ho
        have hk := Below.heap_alloc w.drew (.cells ((xs ++ [x]).toArray ++ Builtin.zeroCells z.cells (grownCap w (cap + 1) cap e - (cap + 1))) e) g hlt
        rw [World.cell?_of_block (w := w.drew) (a := ⟨g, off + j, none⟩) hk]
        exact hcells j u hu
theorem wpList_append_n {ops : Array Oper} {rest : List Oper} {o : Oper} {a : Act} {Q : Exit → Act → World → Prop} (hgd : o.guard = none) (s y : Operand) (t : TypeId)
    (ho : o.op = .call { callee := .builtin .append, args := #[s, y], argTypes := #[t, t] })
    (base : Nat) (e : TypeId) (i : TypeInfo) (z : Value) (ht : P.underlying t = some (.slice e)) (hi : P.info? e = some i) (hz : i.zero = some z)
    (hsize : i.size = 1) (hby : i.bytes = 8) (hzs : z.cells.size = 1)
    (v : Value) (n : Nat) (xs : List Value) (hs : a.eval s = v) (hown : ownsN w base e v n xs) (ad : Addr) (c : Nat) (x : Value) (hy : a.eval y = .slice (some ad) 1 c) (hx : w.cell? ad = some x) (h1 : x.oneCell' = true) (hn : n ≤ 17592186044416) (hbase : base ≤ w.heap.size)
    (h : ∀ v' w', ownsN w' base e v' (n + 1) (xs ++ [x]) → w.grownBy w' v.ownBlock → (v'.ownBlock = v.ownBlock ∨ v'.ownBlock = some w.heap.size) → (∀ g off m cap, v = .slice (some ⟨g, off, none⟩) m cap → ∀ j u, xs[j]? = some u → w'.cell? ⟨g, off + j, none⟩ = some u) → (v'.ownBlock = v.ownBlock → ∀ A' c', v = .slice A' n c' → v' = .slice A' (n + 1) c') →
      wpList P ops Q rest (a.put o.dst v') w') : wpList P ops Q (o :: rest) a w := by
  refine wpList_plain hgd fun K hK => ?_
  obtain ⟨v', w', hrun, h2, h3, h4, h5, h6⟩ := run_append_n (P := P) w base t o.type e i z ht hi hz hsize hby hzs v n xs hown ad c x hx h1 hn hbase
  unfold Oper.wp execOp
  simp only [ho, resolve, invoke, builtin, Sem.run_bind, Sem.run_pure, Result.andThen_ok, List.map_toArray, List.map_cons, List.map_nil, hs, hy, hrun]
  exact hK _ _ (h v' w' h2 h3 h4 h5 h6)
end
end Go.Proofs.YtpmlljbebdidgaaDoor
/-
  pianolakeep.Apart: the walk, over any number of lists in blocks of their own.
-/
namespace Go.Proofs.YtpmlljbebdidgaaDoor
open Go.RowKit

def markOf (j k : Nat) : Int := (j : Int) * 1000003 + (k : Int)
def tailOf (j k : Nat) : Int := -(j : Int) * 1000003 - (k : Int) - 1
def marksOf (j n : Nat) : List Int := (List.range n).map fun k => markOf j k
def tailsOf (j n : Nat) : List Int := (List.range n).map fun k => tailOf j k
theorem marksOf_length (j n : Nat) : (marksOf j n).length = n := by simp [marksOf]
theorem tailsOf_length (j n : Nat) : (tailsOf j n).length = n := by simp [tailsOf]
theorem marksOf_at {j n k : Nat} (h : k < n) : (marksOf j n)[k]? = some (markOf j k) := by simp [marksOf, h]
theorem tailsOf_at {j n k : Nat} (h : k < n) : (tailsOf j n)[k]? = some (tailOf j k) := by simp [tailsOf, h]
theorem tailsOf_succ (j n : Nat) : tailsOf j (n + 1) = tailsOf j n ++ [tailOf j n] := by simp [tailsOf, List.range_succ]
theorem marksOf_succ (j n : Nat) : marksOf j (n + 1) = marksOf j n ++ [markOf j n] := by simp [marksOf, List.range_succ]
/-- so far it is marked -/
def upTo (n : Nat → Nat) (i k j : Nat) : Nat := if j < i then n j else if j = i then k else 0
def marking (n : Nat → Nat) (xs : Nat → List Int) (i k j : Nat) : List Int := marksOf j (upTo n i k j) ++ (xs j).drop (upTo n i k j)
def growing (n : Nat → Nat) (i k j : Nat) : List Int := marksOf j (n j) ++ tailsOf j (upTo (fun _ => 16) i k j)
theorem marking_zero (n : Nat → Nat) (xs : Nat → List Int) (j : Nat) : marking n xs 0 0 j = xs j := by
  unfold marking upTo
  by_cases h : j = 0 <;> simp [h, marksOf]
theorem upTo_next (n : Nat → Nat) (i j : Nat) : upTo n i (n i) j = upTo n (i + 1) 0 j := by
  unfold upTo
  by_cases h : j < i
  · rw [if_pos h, if_pos (by omega)]
  · by_cases h2 : j = i
    · subst h2; rw [if_neg h, if_pos rfl, if_pos (by omega)]
    · rw [if_neg h, if_neg h2, if_neg (by omega)]
      split <;> rfl
theorem marking_next (n : Nat → Nat) (xs : Nat → List Int) (i : Nat) : marking n xs i (n i) = marking n xs (i + 1) 0 := by
  funext j; unfold marking; rw [upTo_next]
theorem growing_next (n : Nat → Nat) (i : Nat) : growing n i 16 = growing n (i + 1) 0 := by
  funext j; unfold growing; rw [show (16 : Nat) = (fun _ : Nat => 16) i from rfl, upTo_next]
theorem upTo_self (n : Nat → Nat) (i k : Nat) : upTo n i k i = k := by unfold upTo; rw [if_neg (by omega), if_pos rfl]
theorem upTo_other {n : Nat → Nat} {i k k' j : Nat} (h : j ≠ i) : upTo n i k j = upTo n i k' j := by unfold upTo; rw [if_neg h, if_neg h]
theorem marking_other {n : Nat → Nat} {xs : Nat → List Int} {i k k' j : Nat} (h : j ≠ i) : marking n xs i k j = marking n xs i k' j := by unfold marking; rw [upTo_other h]
theorem growing_other {n : Nat → Nat} {i k k' j : Nat} (h : j ≠ i) : growing n i k j = growing n i k' j := by unfold growing; rw [upTo_other h]
theorem marking_set {n : Nat → Nat} {xs : Nat → List Int} {i k : Nat} (hl : (xs i).length = n i) (hk : k < n i) : (marking n xs i k i).set k (markOf i k) = marking n xs i (k + 1) i := by
  unfold marking
  rw [upTo_self, upTo_self, List.set_append_right _ _ (by rw [marksOf_length]; exact Nat.le_refl _), marksOf_length, Nat.sub_self, marksOf_succ, List.append_assoc]
  rw [List.drop_eq_getElem_cons (show k < (xs i).length by omega), List.set_cons_zero]
  rfl
theorem marking_length {n : Nat → Nat} {xs : Nat → List Int} {i k j : Nat} (hl : (xs j).length = n j) (hk : j = i → k ≤ n j) : (marking n xs i k j).length = n j := by
  unfold marking upTo
  split
  · simp [marksOf_length, hl]
  · split
    · rename_i h; have := hk h; simp [marksOf_length, hl]; omega
    · simp [marksOf_length, hl]
theorem marking_end {n : Nat → Nat} {xs : Nat → List Int} {m j : Nat} (hl : (xs j).length = n j) (hj : j < m) : marking n xs m 0 j = marksOf j (n j) := by
  unfold marking upTo
  rw [if_pos hj, List.drop_eq_nil_of_le (by omega), List.append_nil]
theorem growing_succ (n : Nat → Nat) (i k : Nat) : growing n i k i ++ [tailOf i k] = growing n i (k + 1) i := by
  unfold growing
  rw [upTo_self, upTo_self, tailsOf_succ, List.append_assoc]
theorem growing_length (n : Nat → Nat) (i k : Nat) : (growing n i k i).length = n i + k := by unfold growing; rw [upTo_self]; simp [marksOf_length, tailsOf_length]
theorem growing_zero {n : Nat → Nat} {j : Nat} : growing n 0 0 j = marksOf j (n j) := by
  unfold growing upTo
  by_cases h : j = 0 <;> simp [h, tailsOf]
theorem growing_end {n : Nat → Nat} {m j : Nat} (hj : j < m) : growing n m 0 j = marksOf j (n j) ++ tailsOf j 16 := by
  unfold growing upTo
  rw [if_pos hj]
def upd {α : Type} (f : Nat → α) (i : Nat) (v : α) : Nat → α := fun j => if j = i then v else f j
theorem upd_self {α : Type} (f : Nat → α) (i : Nat) (v : α) : upd f i v i = v := if_pos rfl
theorem upd_other {α : Type} {f : Nat → α} {i j : Nat} {v : α} (h : j ≠ i) : upd f i v j = f j := if_neg h
theorem map_upd {α : Type} (f : Nat → α) (m i : Nat) (v : α) : (List.range m).map (upd f i v) = ((List.range m).map f).set i v := by
  apply List.ext_getElem?
  intro j
  by_cases hji : i = j
  · subst hji
    by_cases hjm : i < m
    · rw [List.getElem?_set_self (by simpa using hjm)]
      simp [hjm, upd_self]
    · simp [hjm]
  · rw [List.getElem?_set_ne hji]
    simp only [List.getElem?_map]
    by_cases hjm : j < m
    · simp [hjm, upd_other (fun h => hji h.symm)]
    · simp [hjm]
theorem cellsI_put (l : List Int) (j : Nat) (u : Int) : (cellsI l).set j (.int .i64 u) = cellsI (l.set j u) := by simp [cellsI, List.map_set]
/-- the block that an address lies in -/
def blkOf : Option Addr → Option Nat
  | some a => some a.block
  | none => none
theorem ownBlock_slice (A : Option Addr) (n c : Nat) : (Value.slice A n c).ownBlock = blkOf A := by cases A <;> rfl
end Go.Proofs.YtpmlljbebdidgaaDoor
/-
  pianolakeep.Apart: its memory's states.
-/
namespace Go.Proofs.YtpmlljbebdidgaaDoor
open Go.RowKit

/-- the lists, whose they are -/
structure ApG (m B bo gl : Nat) (A : Nat → Option Addr) : Prop where
  nbo : ∀ j, j < m → blkOf (A j) ≠ some bo
  ngl : ∀ j, j < m → blkOf (A j) ≠ some gl
  dis : ∀ j k, j < m → k < m → j ≠ k → ∀ b, blkOf (A j) = some b → blkOf (A k) ≠ some b
  bgl : B ≤ gl
  bogl : bo ≠ gl
/-- while they are marked -/
structure ApA (w wr : World) (m B bo oo gl : Nat) (A : Nat → Option Addr) (n c : Nat → Nat) (zs : Nat → List Int) (L : Nat → Value) : Prop where
  bw : Below B w wr
  out : ∀ j, j < m → wr.cell? ⟨bo, oo + j, none⟩ = some (.slice (A j) (n j) (c j))
  lng : wr.ownsRow gl 27 1 (.slice (some ⟨gl, 0, none⟩) m m) m ((List.range m).map L)
  own : ∀ j, j < m → wr.ownsRow B 3 1 (.slice (A j) (n j) (c j)) (n j) (cellsI (zs j))
theorem own_addr {w : World} {base : Nat} {e : TypeId} {size n c : Nat} {A : Option Addr} {xs : List Value} (h : w.ownsRow base e size (.slice A n c) n xs) (hn : 0 < n) : ∃ g, A = some ⟨g, 0, none⟩ := by
  rcases h.2 with ⟨h', h0⟩ | ⟨g, cap, cur, hv, _⟩
  · omega
  · injection hv with ha; exact ⟨g, ha⟩
theorem ApA.store {w wr : World} {m B bo oo gl : Nat} {A : Nat → Option Addr} {n c : Nat → Nat} {zs : Nat → List Int} {L : Nat → Value} (G : ApG m B bo gl A) (h : ApA w wr m B bo oo gl A n c zs L) {i g : Nat} (hi : i < m) (hA : A i = some ⟨g, 0, none⟩) (k : Nat) (x : Int) :
    ApA w (wr.setCell ⟨g, k, none⟩ (.int .i64 x)) m B bo oo gl A n c (upd zs i ((zs i).set k x)) L := by
  have oi := h.own i hi
  rw [hA] at oi
  have st := oi.stored k (.int .i64 x)
  have hbg : blkOf (A i) = some g := by rw [hA]; rfl
  have hB := (oi.lt g (by rfl)).1
  refine ⟨h.bw.setCell (by simp; omega) _, fun j hj => ?_, h.lng.kept st.2 (.inr (by simp only [Value.ownBlock]; intro he; exact G.ngl i hi (by rw [hbg]; exact he.symm))), fun j hj => ?_⟩
  · rw [World.cell?_of_block (w := wr) (Below.heap_setCell wr _ _ bo (fun he => G.nbo i hi (by rw [hbg]; simp only at he; rw [he])))]
    exact h.out j hj
  · by_cases hji : j = i
    · subst hji
      rw [upd_self, hA, ← cellsI_put]
      exact st.1
    · rw [upd_other hji]
      refine (h.own j hj).kept st.2 ?_
      rw [ownBlock_slice]
      cases hbj : blkOf (A j) with
      | none => exact .inl rfl
      | some b => exact .inr (fun he => G.dis j i hj hi hji b hbj (by rw [hbg, ← he]))
theorem ApA.long {w wr : World} {m B bo oo gl : Nat} {A : Nat → Option Addr} {n c : Nat → Nat} {zs : Nat → List Int} {L : Nat → Value} (G : ApG m B bo gl A) (h : ApA w wr m B bo oo gl A n c zs L) (i : Nat) (v : Value) :
    ApA w (wr.setCell ⟨gl, i, none⟩ v) m B bo oo gl A n c zs (upd L i v) := by
  have st := h.lng.stored i v
  refine ⟨h.bw.setCell (by have := G.bgl; simp; omega) _, fun j hj => ?_, by rw [map_upd]; exact st.1, fun j hj => (h.own j hj).kept st.2 ?_⟩
  · rw [World.cell?_of_block (w := wr) (Below.heap_setCell wr _ _ bo (fun he => G.bogl he))]
    exact h.out j hj
  · rw [ownBlock_slice]
    exact .inr (G.ngl j hj)
/-- while they grow -/
structure ApB (w wr : World) (m B bo oo gl : Nat) (A : Nat → Option Addr) (n c : Nat → Nat) (L : Nat → Value) (ys : Nat → List Int) : Prop where
  bw : Below B w wr
  out : ∀ j, j < m → wr.cell? ⟨bo, oo + j, none⟩ = some (.slice (A j) (n j) (c j))
  lng : wr.ownsRow gl 27 1 (.slice (some ⟨gl, 0, none⟩) m m) m ((List.range m).map L)
  own : ∀ j, j < m → ownsN wr B 3 (L j) (ys j).length (cellsI (ys j))
  rd : ∀ j, j < m → Rd wr wr.heap.size (A j) (cellsI (marksOf j (n j)))
  dis : ∀ j k, j < m → k < m → j ≠ k → ∀ b, (L j).ownBlock = some b → (L k).ownBlock ≠ some b
  dia : ∀ j k, j < m → k < m → j ≠ k → ∀ b, blkOf (A j) = some b → (L k).ownBlock ≠ some b
  aft : ∀ j, j < m → ∀ b, blkOf (A j) = some b → (L j).ownBlock = some b → L j = .slice (A j) (ys j).length (c j) ∧ ∃ tl, ys j = marksOf j (n j) ++ tl
  nbo : ∀ j, j < m → (L j).ownBlock ≠ some bo
  ngl : ∀ j, j < m → (L j).ownBlock ≠ some gl
  bos : bo < wr.heap.size
  gls : gl < wr.heap.size
  abl : ∀ j, j < m → ∀ b, blkOf (A j) = some b → b < wr.heap.size
theorem ApB.start {w wr : World} {m B bo oo gl : Nat} {A : Nat → Option Addr} {n c : Nat → Nat} (G : ApG m B bo gl A) (hbo : bo < wr.heap.size) (h : ApA w wr m B bo oo gl A n c (fun j => marksOf j (n j)) (fun j => .slice (A j) (n j) (c j))) :
    ApB w wr m B bo oo gl A n c (fun j => .slice (A j) (n j) (c j)) (fun j => marksOf j (n j)) := by
  have hgl : gl < wr.heap.size := (h.lng.lt gl rfl).2
  refine ⟨h.bw, h.out, h.lng, fun j hj => ?_, fun j hj => rd_of_own (h.own j hj), ?_, ?_, ?_, ?_, ?_, hbo, hgl, ?_⟩
  · simp only [marksOf_length]; exact ownsN_of_row (h.own j hj)
  · intro j k hj hk hne b hb
    rw [ownBlock_slice] at hb ⊢
    exact G.dis j k hj hk hne b hb
  · intro j k hj hk hne b hb
    rw [ownBlock_slice]
    exact G.dis j k hj hk hne b hb
  · intro j hj b _ _
    exact ⟨by simp only [marksOf_length], [], by simp⟩
  · intro j hj; rw [ownBlock_slice]; exact G.nbo j hj
  · intro j hj; rw [ownBlock_slice]; exact G.ngl j hj
  · intro j hj b hb
    have := (h.own j hj).lt b (by rw [ownBlock_slice]; exact hb)
    exact this.2
theorem ApB.alloc {w wr : World} {m B bo oo gl : Nat} {A : Nat → Option Addr} {n c : Nat → Nat} {L : Nat → Value} {ys : Nat → List Int} (G : ApG m B bo gl A) (h : ApB w wr m B bo oo gl A n c L ys) (o : Obj) : ApB w (wr.alloc o) m B bo oo gl A n c L ys := by
  have hk : wr.grownBy (wr.alloc o) none := World.grownBy_alloc wr o none
  have hbo := h.bos
  refine ⟨h.bw.alloc (by have := G.bgl; have := h.gls; omega) o, fun j hj => ?_, h.lng.alloc o, fun j hj => (h.own j hj).kept hk (by cases (L j).ownBlock <;> simp), fun j hj => ?_, h.dis, h.dia, h.aft, h.nbo, h.ngl, by simp; omega, by have := h.gls; simp; omega, fun j hj b hb => by have := h.abl j hj b hb; simp; omega⟩
  · rw [World.cell?_of_block (w := wr) (Below.heap_alloc wr o bo hbo)]; exact h.out j hj
  · exact ((h.rd j hj).below ((Below.refl wr.heap.size wr).alloc (Nat.le_refl _) o) (Nat.le_refl _)).more (by simp)
theorem ApB.drawn {w wr : World} {m B bo oo gl : Nat} {A : Nat → Option Addr} {n c : Nat → Nat} {L : Nat → Value} {ys : Nat → List Int} (h : ApB w wr m B bo oo gl A n c L ys) (d : Nat) : ApB w (wr.drewN d) m B bo oo gl A n c L ys :=
  ⟨Below.drewN h.bw d, h.out, h.lng, h.own, h.rd, h.dis, h.dia, h.aft, h.nbo, h.ngl, h.bos, h.gls, h.abl⟩
/-- one more behind list i -/
theorem ApB.grow {w wr w' : World} {m B bo oo gl : Nat} {A : Nat → Option Addr} {n c : Nat → Nat} {L : Nat → Value} {ys : Nat → List Int} (G : ApG m B bo gl A) (h : ApB w wr m B bo oo gl A n c L ys) {i : Nat} (hi : i < m) (x : Int) {v' : Value}
    (ho : ownsN w' B 3 v' ((ys i).length + 1) (cellsI (ys i) ++ [.int .i64 x])) (hg : wr.grownBy w' (L i).ownBlock) (hb : v'.ownBlock = (L i).ownBlock ∨ v'.ownBlock = some wr.heap.size)
    (hv : v'.ownBlock = (L i).ownBlock → ∀ A' c', L i = .slice A' (ys i).length c' → v' = .slice A' ((ys i).length + 1) c')
    (hkeep : ∀ g off q cap, L i = .slice (some ⟨g, off, none⟩) q cap → ∀ j u, (cellsI (ys i))[j]? = some u → w'.cell? ⟨g, off + j, none⟩ = some u) :
    ApB w (w'.setCell ⟨gl, i, none⟩ v') m B bo oo gl A n c (upd L i v') (upd ys i (ys i ++ [x])) := by
  have hsz := hg.size
  have nb : ∀ b, b < wr.heap.size → (L i).ownBlock ≠ some b → w'.heap[b]? = wr.heap[b]? := fun b hbl hne => hg.block b hbl (fun he => hne he.symm)
  have lng' := h.lng.kept hg (.inr (fun he => h.ngl i hi (by rw [← he]; rfl)))
  have st := lng'.stored i v'
  have vbo : v'.ownBlock ≠ some bo := by
    rcases hb with hb | hb
    · rw [hb]; exact h.nbo i hi
    · rw [hb]; have := h.bos; intro he; injection he with he; omega
  have vgl : v'.ownBlock ≠ some gl := by
    rcases hb with hb | hb
    · rw [hb]; exact h.ngl i hi
    · rw [hb]; have := h.gls; intro he; injection he with he; omega
  have keepS : ∀ a : Addr, a.block ≠ gl → (w'.setCell ⟨gl, i, none⟩ v').cell? a = w'.cell? a := fun a ha => World.cell?_of_block (Below.heap_setCell w' _ _ a.block ha)
  have bw' : Below B w w' := h.bw.grown hg (by have := G.bgl; have := h.gls; omega) (fun k hk => ((h.own i hi).lt k hk).1)
  refine ⟨bw'.setCell (by have := G.bgl; simp; omega) _, fun j hj => ?_, by rw [map_upd]; exact st.1, fun j hj => ?_, fun j hj => ?_, ?_, ?_, ?_, ?_, ?_, by have := h.bos; simp; omega, by have := h.gls; simp; omega, fun j hj b hb => by have := h.abl j hj b hb; simp; omega⟩
  · rw [keepS _ (fun he => G.bogl he), World.cell?_of_block (w := wr) (nb bo h.bos (h.nbo i hi))]
    exact h.out j hj
  · by_cases hji : j = i
    · subst hji
      rw [upd_self, upd_self]
      have e : cellsI (ys j ++ [x]) = cellsI (ys j) ++ [.int .i64 x] := by simp [cellsI]
      rw [e, List.length_append]
      exact ho.kept st.2 (.inr vgl)
    · rw [upd_other hji, upd_other hji]
      refine ((h.own j hj).kept hg ?_).kept st.2 (.inr (h.ngl j hj))
      cases hbj : (L j).ownBlock with
      | none => exact .inl rfl
      | some b => exact .inr (fun he => h.dis j i hj hi hji b hbj he.symm)
  · rcases h.rd j hj with hr | ⟨b, off, hA, hbl, hc⟩
    · exact .inl hr
    · have hbA : blkOf (A j) = some b := by rw [hA]; rfl
      refine .inr ⟨b, off, hA, by simp; omega, fun k u hu => ?_⟩
      rw [keepS _ (fun he => G.ngl j hj (by rw [hbA]; simp only at he; rw [he]))]
      by_cases hLb : (L i).ownBlock = some b
      · by_cases hji : j = i
        · subst hji
          obtain ⟨hL, tl, htl⟩ := h.aft j hj b hbA hLb
          rw [hA] at hL
          refine hkeep b off _ _ hL k u ?_
          rw [htl]
          simp only [cellsI, List.map_append]
          rw [List.getElem?_append_left (by have := (List.getElem?_eq_some_iff.1 hu).1; simpa [cellsI] using this)]
          exact hu
        · exact absurd hLb (h.dia j i hj hi hji b hbA)
      · rw [World.cell?_of_block (w := wr) (a := ⟨b, off + k, none⟩) (nb b hbl hLb)]
        exact hc k u hu
  · intro j k hj hk hne b hbj
    by_cases hji : j = i
    · subst hji
      rw [upd_self] at hbj
      rw [upd_other (fun h => hne h.symm)]
      rcases hb with hb | hb
      · rw [hb] at hbj; exact h.dis j k hj hk hne b hbj
      · rw [hb] at hbj
        injection hbj with hbj
        intro he
        have := ((h.own k hk).lt b he).2
        omega
    · rw [upd_other hji] at hbj
      by_cases hki : k = i
      · subst hki
        rw [upd_self]
        rcases hb with hb | hb
        · rw [hb]; exact h.dis j k hj hk hne b hbj
        · rw [hb]; intro he
          injection he with he
          have := ((h.own j hj).lt b hbj).2
          omega
      · rw [upd_other hki]; exact h.dis j k hj hk hne b hbj
  · intro j k hj hk hne b hbj
    by_cases hki : k = i
    · subst hki
      rw [upd_self]
      rcases hb with hb | hb
      · rw [hb]; exact h.dia j k hj hk hne b hbj
      · rw [hb]; intro he
        injection he with he
        have := h.abl j hj b hbj
        omega
    · rw [upd_other hki]; exact h.dia j k hj hk hne b hbj
  · intro j hj b hbj hLb
    by_cases hji : j = i
    · subst hji
      rw [upd_self] at hLb ⊢
      rw [upd_self]
      have hsame : (L j).ownBlock = some b := by
        rcases hb with hb | hb
        · rw [← hb]; exact hLb
        · exfalso
          rw [hb] at hLb
          injection hLb with hLb
          have := h.abl j hj b hbj
          omega
      obtain ⟨hL, tl, htl⟩ := h.aft j hj b hbj hsame
      refine ⟨?_, tl ++ [x], by rw [htl, List.append_assoc]⟩
      rw [List.length_append]
      exact hv (by rw [hLb, hsame]) (A j) (c j) hL
    · rw [upd_other hji] at hLb ⊢
      rw [upd_other hji]
      exact h.aft j hj b hbj hLb
  · intro j hj
    by_cases hji : j = i
    · subst hji; rw [upd_self]; exact vbo
    · rw [upd_other hji]; exact h.nbo j hj
  · intro j hj
    by_cases hji : j = i
    · subst hji; rw [upd_self]; exact vgl
    · rw [upd_other hji]; exact h.ngl j hj
end Go.Proofs.YtpmlljbebdidgaaDoor
/-
  pianolakeep.Apart answers true of lists in blocks of their own.
-/
namespace Go.Proofs.YtpmlljbebdidgaaDoor
open Go.RowKit

theorem info_slice : (Tryd.prog.info? 27).map (fun i => (i.zero, i.size, i.bytes)) = some (some (.slice none 0 0), 1, 24) := by kernel_rfl
theorem made_slice (m : Nat) : (madeCells #[Value.slice none 0 0] m).toList = (List.range m).map fun _ => Value.slice none 0 0 := by
  apply List.ext_getElem
  · simp [madeCells]
  · intro j h1 h2; simp [madeCells, Nat.mod_one]
theorem marks_fit {j n : Nat} (hj : j ≤ 100) (hn : n ≤ 17592186044400) : AllFit (marksOf j n) := by
  intro x hx
  obtain ⟨k, hk, rfl⟩ := List.mem_map.1 hx
  have := List.mem_range.1 hk
  unfold fits markOf; omega

/-- what the old lists hold -/
theorem read_old {w wr : World} {m B bo oo gl : Nat} {A : Nat → Option Addr} {n c : Nat → Nat} {L : Nat → Value} {ys : Nat → List Int} (T : ApB w wr m B bo oo gl A n c L ys) {p s : Nat} (hp : p < m) (hs : s < n p) :
    ∃ b off, A p = some ⟨b, off, none⟩ ∧ wr.cell? ⟨b, off + s, none⟩ = some (.int .i64 (markOf p s)) := by
  have hu : (cellsI (marksOf p (n p)))[s]? = some (.int .i64 (markOf p s)) := by simp only [cellsI, List.getElem?_map, marksOf_at hs]; rfl
  rcases T.rd p hp with h | ⟨b, off, hA, _, hc⟩
  · rw [h] at hu; simp at hu
  · exact ⟨b, off, hA, hc s _ hu⟩
/-- what the long ones hold -/
theorem read_long {w wr : World} {m B bo oo gl : Nat} {A : Nat → Option Addr} {n c : Nat → Nat} {L : Nat → Value} (T : ApB w wr m B bo oo gl A n c L (growing n m 0)) {p s : Nat} (hp : p < m) (hs : s < n p + 16) :
    ∃ A1 c1 b off, wr.cell? ⟨gl, p, none⟩ = some (.slice A1 (n p + 16) c1) ∧ A1 = some ⟨b, off, none⟩ ∧ wr.cell? ⟨b, off + s, none⟩ = some (.int .i64 (if s < n p then markOf p s else tailOf p (s - n p))) := by
  have hlg := T.lng.cellAt p (by omega)
  rw [show ((List.range m).map L)[p]? = some (L p) by simp [hp]] at hlg
  have hlen : (growing n m 0 p).length = n p + 16 := by rw [growing_end hp]; simp [marksOf_length, tailsOf_length]
  obtain ⟨A1, c1, hL, hc⟩ := (T.own p hp).slice
  rw [hlen] at hL
  have hu : (cellsI (growing n m 0 p))[s]? = some (.int .i64 (if s < n p then markOf p s else tailOf p (s - n p))) := by
    rw [growing_end hp]
    simp only [cellsI, List.getElem?_map]
    by_cases hsn : s < n p
    · rw [if_pos hsn, List.getElem?_append_left (by rw [marksOf_length]; exact hsn), marksOf_at hsn]; rfl
    · rw [if_neg hsn, List.getElem?_append_right (by rw [marksOf_length]; omega), marksOf_length, tailsOf_at (by omega)]; rfl
  obtain ⟨b, off, hA, hx⟩ := hc s _ hu
  exact ⟨A1, c1, b, off, by rw [hlg, hL], hA, hx⟩

end Go.Proofs.YtpmlljbebdidgaaDoor
