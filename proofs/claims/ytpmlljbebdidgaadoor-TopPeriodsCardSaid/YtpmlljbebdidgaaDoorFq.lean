/-
  A queue in memory: a slice of numbers that may begin inside its block; what is appended to it, what is taken off its head.
-/
import Derived.Test.YtpmlljbebdidgaaDoorM1
import Derived.Deep.AppendSrc
namespace Go.Proofs.YtpmlljbebdidgaaDoor
open Go.RowKit

/-- a slice of one-cell elements, from whatever place of its block on -/
def ownsQ (w : World) (base : Nat) (e : TypeId) (v : Value) (n : Nat) (xs : List Value) : Prop :=
  xs.length = n ∧ ∃ g off cap cur, v = .slice (some ⟨g, off, none⟩) n cap ∧ base ≤ g ∧ w.heap[g]? = some (.cells cur e (0, 0)) ∧ n ≤ cap ∧ cap ≤ maxLen ∧ off + cap ≤ cur.size ∧ (cur.toList.drop off).take n = xs
theorem ownsQ.lt {w : World} {base n : Nat} {e : TypeId} {v : Value} {xs : List Value} (h : ownsQ w base e v n xs) : ∀ k, v.ownBlock = some k → base ≤ k ∧ k < w.heap.size := by
  obtain ⟨_, g, off, cap, cur, rfl, hb, hg, _⟩ := h
  intro k hk
  simp [Value.ownBlock] at hk
  subst hk
  exact ⟨hb, (Array.getElem?_eq_some_iff.1 hg).1⟩
theorem ownsQ.kept {w w' : World} {base n : Nat} {e : TypeId} {v : Value} {xs : List Value} {row : Option Nat} (h : ownsQ w base e v n xs) (hg : w.grownBy w' row) (hne : v.ownBlock ≠ row) : ownsQ w' base e v n xs := by
  obtain ⟨h1, g, off, cap, cur, rfl, hb, hgg, rest⟩ := h
  refine ⟨h1, g, off, cap, cur, rfl, hb, ?_, rest⟩
  rw [hg.block g (Array.getElem?_eq_some_iff.1 hgg).1 (by simpa [Value.ownBlock] using hne)]
  exact hgg
theorem ownsQ.alloc {w : World} {base n : Nat} {e : TypeId} {v : Value} {xs : List Value} (h : ownsQ w base e v n xs) (o : Obj) : ownsQ (w.alloc o) base e v n xs := by
  refine h.kept (World.grownBy_alloc w o none) ?_
  obtain ⟨_, g, off, cap, cur, rfl, _⟩ := h
  simp [Value.ownBlock]
theorem ownsQ.far {w : World} {base n : Nat} {e : TypeId} {v : Value} {xs : List Value} (h : ownsQ w base e v n xs) {p : Addr} (hp : v.ownBlock ≠ some p.block) (u : Value) : ownsQ (w.setCell p u) base e v n xs :=
  h.kept (row := some p.block) ⟨rfl, rfl, rfl, by simp, fun k _ hk => Below.heap_setCell w p u k (fun he => hk (by rw [he]))⟩ hp
theorem ownsQ.slice {w : World} {base n : Nat} {e : TypeId} {v : Value} {xs : List Value} (h : ownsQ w base e v n xs) : ∃ g off cap, v = .slice (some ⟨g, off, none⟩) n cap ∧ base ≤ g ∧ g < w.heap.size ∧ n ≤ cap ∧ cap ≤ maxLen ∧
    (∀ j u, xs[j]? = some u → w.cell? ⟨g, off + j, none⟩ = some u) := by
  obtain ⟨h1, g, off, cap, cur, rfl, hb, hg, h2, h3, h4, h5⟩ := h
  refine ⟨g, off, cap, rfl, hb, (Array.getElem?_eq_some_iff.1 hg).1, h2, h3, ?_⟩
  intro j u hu
  rw [cell_of_row w g (off + j) cur e (0, 0) hg]
  rw [← h5, List.getElem?_take] at hu
  split at hu
  · rw [List.getElem?_drop] at hu
    simpa using hu
  · cases hu
/-- the head is taken off -/
theorem ownsQ.tail {w : World} {base g off n cap : Nat} {e : TypeId} {x : Value} {xs : List Value} (h : ownsQ w base e (.slice (some ⟨g, off, none⟩) (n + 1) cap) (n + 1) (x :: xs)) :
    ownsQ w base e (.slice (some ⟨g, off + 1, none⟩) n (cap - 1)) n xs ∧ ownsQ w base e (.slice (some ⟨g, off, none⟩) 0 0) 0 [] := by
  obtain ⟨h1, g', off', cap', cur, hv, hb, hg, h2, h3, h4, h5⟩ := h
  injection hv with ha hn hc
  injection ha with ha
  injection ha with ha ho _
  subst ha ho hc
  refine ⟨⟨by simpa using h1, g, off + 1, cap - 1, cur, rfl, hb, hg, by omega, by omega, by omega, ?_⟩, ⟨rfl, g, off, 0, cur, rfl, hb, hg, Nat.le_refl _, Nat.zero_le _, by omega, by simp⟩⟩
  have hlt : off < cur.toList.length := by simp; omega
  rw [List.drop_eq_getElem_cons hlt, List.take_succ_cons] at h5
  injection h5
theorem setRowCells {w : World} {g : Nat} {cur : Array Value} {e : TypeId} (hg : w.heap[g]? = some (.cells cur e (0, 0))) (off : Nat) (u : Value) :
    (w.setCell ⟨g, off, none⟩ u).heap[g]? = some (.cells (cur.setIfInBounds off u) e (0, 0)) := by
  simp [World.setCell, Array.getElem?_modify, hg]

section
variable {P : Program} (w : World)
theorem run_append_q (base : Nat) (t ty e : TypeId) (i : TypeInfo) (z : Value) (ht : P.underlying t = some (.slice e)) (hi : P.info? e = some i) (hz : i.zero = some z)
    (hsize : i.size = 1) (hby : i.bytes = 8) (hzs : z.cells.size = 1)
    (v : Value) (n : Nat) (xs : List Value) (hown : ownsQ w base e v n xs) (ad : Addr) (c : Nat) (x : Value) (hx : w.cell? ad = some x) (h1 : x.oneCell' = true) (hn : n < 1000000) (hbase : base ≤ w.heap.size) :
    ∃ v' w', (Builtin.append_ #[t, t] ty #[v, .slice (some ad) 1 c]).run P w = .ok v' w' ∧ ownsQ w' base e v' (n + 1) (xs ++ [x]) ∧ w.grownBy w' v.ownBlock ∧ (v'.ownBlock = v.ownBlock ∨ v'.ownBlock = some w.heap.size) := by
  have hown' := hown
  obtain ⟨hl, g, off, cap, cur, rfl, hb, hg, h2, h3, h4, h5⟩ := hown
  have hsrc : ∀ j u, [x][j]? = some u → w.cell? (ad.add j) = some u := by
    intro j u hu
    match j with
    | 0 => simp at hu; subst hu; have : ad.add 0 = ad := by unfold Addr.add; split <;> simp_all
           rw [this]; exact hx
    | j + 1 => simp at hu
  have hs : Src P i.size t (.slice (some ad) 1 c) 1 [x] w := Src.ofSlice w ht ad 1 c [x] (by simp [hsize]) hsrc (by simpa using h1)
  have hlt := (Array.getElem?_eq_some_iff.1 hg).1
  by_cases hroom : n + 1 ≤ cap
  · have hr := run_append_room_src w t t ty e i ht hi g off n cap (.slice (some ad) 1 c) 1 [x] hs hroom
      (by intro j hj; simp at hj; subst hj; rw [cell_of_row w g _ cur e (0, 0) hg]; simp [hsize]; omega) (by intro j hj; simp [World.frozen?, hg])
    rw [hsize, Nat.mul_one] at hr
    have hset : w.setCells g (off + n) [x] = w.setCell ⟨g, off + n, none⟩ x := by simp [World.setCells]
    rw [hset] at hr
    refine ⟨_, _, hr, ⟨by simp [hl], g, off, cap, _, rfl, hb, setRowCells hg _ _, hroom, h3, by simp; omega, ?_⟩, ⟨rfl, rfl, rfl, by simp, fun k _ hk => Below.heap_setCell w _ x k (fun he => hk (by rw [he]; rfl))⟩, .inl rfl⟩
    rw [Array.toList_setIfInBounds, List.drop_set, if_neg (by omega), show off + n - off = n by omega]
    have hlen : n < (cur.toList.drop off).length := by simp; omega
    rw [List.take_succ_eq_append_getElem (by simpa using hlen), List.getElem_set_self, List.take_set_of_le (by omega), h5]
  · have hcap : cap = n := by omega
    subst hcap
    have hcells := hown'.slice
    obtain ⟨g', off', cap', hv, _, _, _, _, hc⟩ := hcells
    injection hv with ha _ _
    injection ha with ha
    injection ha with ha ho _
    subst ha ho
    have hold : (Builtin.firstCells i.size cap (.slice (some ⟨g, off, none⟩) cap cap)).run P w.drew = .ok xs.toArray w.drew :=
      run_firstCells_some w.drew i.size cap _ cap cap xs (by rw [hl, hsize]; omega) (fun j u hu => by rw [Addr.add_lit]; exact hc j u hu)
    have hfit : Builtin.nextslicecap (cap + 1) cap * i.bytes ≤ 281474976710656 := by rw [hby]; exact growslice_fits (by omega) (by omega)
    have hr := run_append_grow_src w t t ty e i z ht hi hz (some ⟨g, off, none⟩) cap cap xs hold (.slice (some ad) 1 c) 1 [x] hs (by omega) (by omega) hfit
    have hge := grownCap_ge w (cap + 1) cap e
    have hle := grownCap_le_maxLen w (cap + 1) cap e (by unfold maxLen; omega)
    refine ⟨_, _, hr, ⟨by simp [hl], w.heap.size, 0, _, _, rfl, hbase, heap_alloc_new w.drew _, hge, hle, ?_, ?_⟩, ⟨rfl, rfl, rfl, by simp, fun k hk _ => Below.heap_alloc w.drew _ k hk⟩, .inr rfl⟩
    · simp [size_zeroCells, hzs, hl]; omega
    · rw [List.drop_zero, Array.toList_append]
      have : (xs ++ [x]).toArray.toList.length = cap + 1 := by simp [hl]
      rw [← this, List.take_left]

theorem wpList_append_q {ops : Array Oper} {rest : List Oper} {o : Oper} {a : Act} {Q : Exit → Act → World → Prop} (hgd : o.guard = none) (s y : Operand) (t : TypeId)
    (ho : o.op = .call { callee := .builtin .append, args := #[s, y], argTypes := #[t, t] })
    (base : Nat) (e : TypeId) (i : TypeInfo) (z : Value) (ht : P.underlying t = some (.slice e)) (hi : P.info? e = some i) (hz : i.zero = some z)
    (hsize : i.size = 1) (hby : i.bytes = 8) (hzs : z.cells.size = 1)
    (v : Value) (n : Nat) (xs : List Value) (hs : a.eval s = v) (hown : ownsQ w base e v n xs) (ad : Addr) (c : Nat) (x : Value) (hy : a.eval y = .slice (some ad) 1 c) (hx : w.cell? ad = some x) (h1 : x.oneCell' = true) (hn : n < 1000000) (hbase : base ≤ w.heap.size)
    (h : ∀ v' w', ownsQ w' base e v' (n + 1) (xs ++ [x]) → w.grownBy w' v.ownBlock → (v'.ownBlock = v.ownBlock ∨ v'.ownBlock = some w.heap.size) → wpList P ops Q rest (a.put o.dst v') w') : wpList P ops Q (o :: rest) a w := by
  refine wpList_plain hgd fun K hK => ?_
  obtain ⟨v', w', hrun, h2, h3, h4⟩ := run_append_q (P := P) w base t o.type e i z ht hi hz hsize hby hzs v n xs hown ad c x hx h1 hn hbase
  unfold Oper.wp execOp
  simp only [ho, resolve, invoke, builtin, Sem.run_bind, Sem.run_pure, Result.andThen_ok, List.map_toArray, List.map_cons, List.map_nil, hs, hy, hrun]
  exact hK _ _ (h v' w' h2 h3 h4)
end
end Go.Proofs.YtpmlljbebdidgaaDoor
