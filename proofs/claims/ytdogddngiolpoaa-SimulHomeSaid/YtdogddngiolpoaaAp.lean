/-
  pianolakeep.Apart's memory: lists that may be nil, one appended to behind the other; what is read of the old ones stays.
-/
import Derived.Test.YtdogddngiolpoaaFq
import Derived.Deep.DeepAppendWide
namespace Go.Proofs.Ytdogddngiolpoaa
open Go.RowKit

/-- a slice of numbers that may be nil, in a block of its own -/
def ownsN (w : World) (base : Nat) (e : TypeId) (v : Value) (n : Nat) (xs : List Value) : Prop := (v = .slice none 0 0 ∧ n = 0 ∧ xs = []) ∨ ownsQ w base e v n xs
theorem ownsN_of_row {w : World} {base : Nat} {e : TypeId} {v : Value} {n : Nat} {xs : List Value} (h : w.ownsRow base e 1 v n xs) : ownsN w base e v n xs := by
  obtain ⟨h1, h2⟩ := h
  rcases h2 with ⟨h2, h3⟩ | ⟨g, cap, cur, h2, h3, h4, h5, h6, h7, h8⟩
  · exact .inl ⟨h2, h3, List.eq_nil_of_length_eq_zero (by rw [h1, h3])⟩
  · exact .inr ⟨by rw [h1, Nat.mul_one], g, 0, cap, cur, h2, h3, h4, h5, h6, by rw [h7]; omega, by rw [List.drop_zero]; rw [Nat.mul_one] at h8; exact h8⟩
theorem ownsN.lt {w : World} {base n : Nat} {e : TypeId} {v : Value} {xs : List Value} (h : ownsN w base e v n xs) : ∀ k, v.ownBlock = some k → base ≤ k ∧ k < w.heap.size := by
  rcases h with ⟨rfl, _, _⟩ | h
  · intro k hk; simp [Value.ownBlock] at hk
  · exact h.lt
theorem ownsN.kept {w w' : World} {base n : Nat} {e : TypeId} {v : Value} {xs : List Value} {row : Option Nat} (h : ownsN w base e v n xs) (hg : w.grownBy w' row) (hne : v.ownBlock = none ∨ v.ownBlock ≠ row) : ownsN w' base e v n xs := by
  rcases h with h | h
  · exact .inl h
  · refine .inr ?_
    rcases hne with hne | hne
    · obtain ⟨_, g, off, cap, cur, rfl, _⟩ := h
      simp [Value.ownBlock] at hne
    · exact h.kept hg hne
/-- what is read of it -/
theorem ownsN.slice {w : World} {base n : Nat} {e : TypeId} {v : Value} {xs : List Value} (h : ownsN w base e v n xs) : ∃ A c, v = .slice A n c ∧ (∀ j u, xs[j]? = some u → ∃ g off, A = some ⟨g, off, none⟩ ∧ w.cell? ⟨g, off + j, none⟩ = some u) := by
  rcases h with ⟨rfl, rfl, rfl⟩ | h
  · exact ⟨none, 0, rfl, fun j u hu => by simp at hu⟩
  · obtain ⟨g, off, cap, rfl, _, _, _, _, hc⟩ := h.slice
    exact ⟨_, cap, rfl, fun j u hu => ⟨g, off, rfl, hc j u hu⟩⟩
section
variable {P : Program} (w : World)
/-- one more behind it: what could be read of the old one can still be read -/
theorem run_append_n (base : Nat) (t ty e : TypeId) (i : TypeInfo) (z : Value) (ht : P.underlying t = some (.slice e)) (hi : P.info? e = some i) (hz : i.zero = some z)
    (hsize : i.size = 1) (hby : i.bytes = 8) (hzs : z.cells.size = 1)
    (v : Value) (n : Nat) (xs : List Value) (hown : ownsN w base e v n xs) (ad : Addr) (c : Nat) (x : Value) (hx : w.cell? ad = some x) (h1 : x.oneCell' = true) (hn : n ≤ 17592186044416) (hbase : base ≤ w.heap.size) :
    ∃ v' w', (Builtin.append_ #[t, t] ty #[v, .slice (some ad) 1 c]).run P w = .ok v' w' ∧ ownsN w' base e v' (n + 1) (xs ++ [x]) ∧ w.grownBy w' v.ownBlock ∧ (v'.ownBlock = v.ownBlock ∨ v'.ownBlock = some w.heap.size) ∧
      (∀ g off m cap, v = .slice (some ⟨g, off, none⟩) m cap → ∀ j u, xs[j]? = some u → w'.cell? ⟨g, off + j, none⟩ = some u) ∧ (v'.ownBlock = v.ownBlock → ∀ A' c', v = .slice A' n c' → v' = .slice A' (n + 1) c') := by
  have hsrc : ∀ j u, [x][j]? = some u → w.cell? (ad.add j) = some u := by
    intro j u hu
    match j with
    | 0 => simp at hu; subst hu; have : ad.add 0 = ad := by unfold Addr.add; split <;> simp_all
           rw [this]; exact hx
    | j + 1 => simp at hu
  have hs : Src P i.size t (.slice (some ad) 1 c) 1 [x] w := Src.ofSlice w ht ad 1 c [x] (by simp [hsize]) hsrc (by simpa using h1)
  rcases hown with ⟨rfl, rfl, rfl⟩ | hown
  · have hfit : Builtin.nextslicecap (0 + 1) 0 * i.bytes ≤ 281474976710656 := by rw [hby]; exact growslice_fits_wide (by omega) (by omega)
    have hr := run_append_grow_src w t t ty e i z ht hi hz none 0 0 [] (run_firstCells_none w.drew i.size 0 0 0) (.slice (some ad) 1 c) 1 [x] hs (by omega) (by omega) hfit
    have hge := grownCap_ge w (0 + 1) 0 e
    have hle := grownCap_le_maxLen w (0 + 1) 0 e (by unfold maxLen; omega)
    refine ⟨_, _, hr, .inr ⟨rfl, w.heap.size, 0, _, _, rfl, hbase, heap_alloc_new w.drew _, hge, hle, ?_, ?_⟩, ⟨rfl, rfl, rfl, by simp, fun k hk _ => Below.heap_alloc w.drew _ k hk⟩, .inr rfl, (fun g off m cap hv => by cases hv), fun he => by simp [Value.ownBlock] at he⟩
    · simp [size_zeroCells, hzs]; omega
    · rw [List.drop_zero, Array.toList_append]
      rfl
  · have hown' := hown
    obtain ⟨hl, g, off, cap, cur, rfl, hb, hg, h2, h3, h4, h5⟩ := hown
    have hlt := (Array.getElem?_eq_some_iff.1 hg).1
    have hcells : ∀ j u, xs[j]? = some u → w.cell? ⟨g, off + j, none⟩ = some u := by
      obtain ⟨g', off', cap', hv, _, _, _, _, hc⟩ := hown'.slice
      injection hv with ha _ _
      injection ha with ha
      injection ha with ha ho _
      subst ha ho
      exact hc
    by_cases hroom : n + 1 ≤ cap
    · have hr := run_append_room_src w t t ty e i ht hi g off n cap (.slice (some ad) 1 c) 1 [x] hs hroom
        (by intro j hj; simp at hj; subst hj; rw [cell_of_row w g _ cur e (0, 0) hg]; simp [hsize]; omega) (by intro j hj; simp [World.frozen?, hg])
      rw [hsize, Nat.mul_one] at hr
      have hset : w.setCells g (off + n) [x] = w.setCell ⟨g, off + n, none⟩ x := by simp [World.setCells]
      rw [hset] at hr
      refine ⟨_, _, hr, .inr ⟨by simp [hl], g, off, cap, _, rfl, hb, setRowCells hg _ _, hroom, h3, by simp; omega, ?_⟩, ⟨rfl, rfl, rfl, by simp, fun k _ hk => Below.heap_setCell w _ x k (fun he => hk (by rw [he]; rfl))⟩, .inl rfl, ?_, fun _ A' c' hv => by injection hv with h1 _ h3; rw [h1, h3]⟩
      · rw [Array.toList_setIfInBounds, List.drop_set, if_neg (by omega), show off + n - off = n by omega]
        have hlen : n < (cur.toList.drop off).length := by simp; omega
        rw [List.take_succ_eq_append_getElem (by simpa using hlen), List.getElem_set_self, List.take_set_of_le (by omega), h5]
      · intro g' off' m' cap' hv j u hu
        injection hv with ha _ _
        injection ha with ha
        injection ha with ha ho _
        subst ha ho
        have hj : j < n := by have := (List.getElem?_eq_some_iff.1 hu).1; omega
        rw [World.cell?_setCell_other]
        · exact hcells j u hu
        · intro he; injection he with _ he _; omega
    · have hcap : cap = n := by omega
      subst hcap
      have hold : (Builtin.firstCells i.size cap (.slice (some ⟨g, off, none⟩) cap cap)).run P w.drew = .ok xs.toArray w.drew :=
        run_firstCells_some w.drew i.size cap _ cap cap xs (by rw [hl, hsize]; omega) (fun j u hu => by rw [Addr.add_lit]; exact hcells j u hu)
      have hfit : Builtin.nextslicecap (cap + 1) cap * i.bytes ≤ 281474976710656 := by rw [hby]; exact growslice_fits_wide (by omega) (by omega)
      have hr := run_append_grow_src w t t ty e i z ht hi hz (some ⟨g, off, none⟩) cap cap xs hold (.slice (some ad) 1 c) 1 [x] hs (by omega) (by omega) hfit
      have hge := grownCap_ge w (cap + 1) cap e
      have hle := grownCap_le_maxLen w (cap + 1) cap e (by unfold maxLen; omega)
      refine ⟨_, _, hr, .inr ⟨by simp [hl], w.heap.size, 0, _, _, rfl, hbase, heap_alloc_new w.drew _, hge, hle, ?_, ?_⟩, ⟨rfl, rfl, rfl, by simp, fun k hk _ => Below.heap_alloc w.drew _ k hk⟩, .inr rfl, ?_, fun he => by simp [Value.ownBlock] at he; omega⟩
      · simp [size_zeroCells, hzs, hl]; omega
      · rw [List.drop_zero, Array.toList_append]
        have : (xs ++ [x]).toArray.toList.length = cap + 1 := by simp [hl]
        rw [← this, List.take_left]
      · intro g' off' m' cap' hv j u hu
        injection hv with ha _ _
        injection ha with ha
        injection ha with ha ho _
        subst ha ho
        have hk := Below.heap_alloc w.drew (.cells ((xs ++ [x]).toArray ++ Builtin.zeroCells z.cells (grownCap w (cap + 1) cap e - (cap + 1))) e) g hlt
        rw [World.cell?_of_block (w := w.drew) (a := ⟨g, off + j, none⟩) hk]
        exact hcells j u hu
theorem wpList_append_n {ops : Array Oper} {rest : List Oper} {o : Oper} {a : Act} {Q : Exit → Act → World → Prop} (hgd : o.guard = none) (s y : Operand) (t : TypeId)
    (ho : o.op = .call { callee := .builtin .append, args := #[s, y], argTypes := #[t, t] })
    (base : Nat) (e : TypeId) (i : TypeInfo) (z : Value) (ht : P.underlying t = some (.slice e)) (hi : P.info? e = some i) (hz : i.zero = some z)
    (hsize : i.size = 1) (hby : i.bytes = 8) (hzs : z.cells.size = 1)
    (v : Value) (n : Nat) (xs : List Value) (hs : a.eval s = v) (hown : ownsN w base e v n xs) (ad : Addr) (c : Nat) (x : Value) (hy : a.eval y = .slice (some ad) 1 c) (hx : w.cell? ad = some x) (h1 : x.oneCell' = true) (hn : n ≤ 17592186044416) (hbase : base ≤ w.heap.size)
    (h : ∀ v' w', ownsN w' base e v' (n + 1) (xs ++ [x]) → w.grownBy w' v.ownBlock → (v'.ownBlock = v.ownBlock ∨ v'.ownBlock = some w.heap.size) → (∀ g off m cap, v = .slice (some ⟨g, off, none⟩) m cap → ∀ j u, xs[j]? = some u → w'.cell? ⟨g, off + j, none⟩ = some u) → (v'.ownBlock = v.ownBlock → ∀ A' c', v = .slice A' n c' → v' = .slice A' (n + 1) c') →
      wpList P ops Q rest (a.put o.dst v') w') : wpList P ops Q (o :: rest) a w := by
  refine wpList_plain hgd fun K hK => ?_
  obtain ⟨v', w', hrun, h2, h3, h4, h5, h6⟩ := run_append_n (P := P) w base t o.type e i z ht hi hz hsize hby hzs v n xs hown ad c x hx h1 hn hbase
  unfold Oper.wp execOp
  simp only [ho, resolve, invoke, builtin, Sem.run_bind, Sem.run_pure, Result.andThen_ok, List.map_toArray, List.map_cons, List.map_nil, hs, hy, hrun]
  exact hK _ _ (h v' w' h2 h3 h4 h5 h6)
end
end Go.Proofs.Ytdogddngiolpoaa
