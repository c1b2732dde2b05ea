/-
  What a net reads as.
-/
import Derived.Test.YtdogddngiolpoaaDoorM2
import Derived.Test.YtdogddngiolpoaaDoorQ
import Derived.Deep.Slices
import Derived.Deep.Fields
import Derived.ChangeSame
import Derived.Lib.SmallJoins
set_option maxRecDepth 100000
namespace Go.Proofs.YtdogddngiolpoaaDoor
open Go.ChangeShapes Go.WideShapes Go.ChangeAt Go.RowKit Go.Deep Go.Joins

theorem cellsNet : Tryd.prog.cellsOf 24 = 2 := by kernel_rfl
theorem cellsArc : Tryd.prog.cellsOf 49 = 5 := by kernel_rfl
theorem bytesArc : Tryd.prog.bytesOf 49 = 40 := by kernel_rfl

section
variable {H : Type} {enc : TypeId × Value → H} {P : Program} {w : World} {base : Nat} {spare : Nat → Bool} {held : Bool}
theorem open_slice_fields {t e : TypeId} {fs : Array Field} {fuel : Nat} {cs : List Value} {x : DataW H × List MemPlace} (ht : P.underlying t = some (.slice e)) (he : P.underlying e = some (.struct fs))
    (hone : oneCellFields P fs = true) (hC : P.cellsOf e = fs.size) (h : DataW.trod enc P w base spare held fuel t cs = some x) :
    (cs = [.slice none 0 0] ∧ x = (.nil, [])) ∨
    ∃ (a : Addr) (len cap m : Nat) (D : Nat → DataW H) (Pl : Nat → List MemPlace), cs = [.slice (some a) len cap] ∧ base ≤ a.block ∧ len ≤ cap ∧ cap ≤ maxLen ∧ m = (if spare a.block then cap else len) ∧
      x = (.slice ((List.range len).map D) ((List.range (m - len)).map fun j => D (len + j)), MemPlace.row a (m * fs.size) ++ (List.range m).flatMap Pl) ∧
      ∀ i, i < m → ∃ (ys : List (DataW H × List MemPlace)) (n : Nat), D i = .agg (ys.map (·.1)) ∧ Pl i = ys.flatMap (·.2) ∧ ys.length = fs.size ∧
        ∀ (j : Nat) (f : Field), fs[j]? = some f → ∃ (v : Value) (y : DataW H × List MemPlace), w.cell? (a.add (i * fs.size + j)) = some v ∧ ys[j]? = some y ∧ DataW.trod enc P w base spare held n f.type [v] = some y := by
  rcases open_slice ht h with h0 | ⟨a, len, cap, m, n, D, Pl, hcs, hb, hl, hm, hmm, hx, hi⟩
  · exact .inl h0
  · refine .inr ⟨a, len, cap, m, D, Pl, hcs, hb, hl, hm, hmm, by rw [hC] at hx; exact hx, fun i him => ?_⟩
    obtain ⟨cs', hc, ht'⟩ := hi i him
    rw [hC] at hc
    obtain ⟨ys, n', hn', hy, hlen, hyl, hf⟩ := DataW.trod_struct he ht'
    obtain ⟨_, hcl, hat⟩ := World.cells?_some hc
    simp only [Prod.mk.injEq] at hy
    refine ⟨ys, n', hy.1, hy.2, hyl, fun j f hj => ?_⟩
    obtain ⟨ho, hk⟩ := hone_of hone j f hj
    have hjl : j < fs.size := (Array.getElem?_eq_some_iff.1 hj).1
    have hcell := hat j hjl
    have hv : cs'[j]? = some (cs'[j]'(by omega)) := List.getElem?_eq_getElem (by omega)
    have h1 := hf j f hj
    rw [ho, hk] at h1
    have hone' : (cs'.drop j).take 1 = [cs'[j]'(by omega)] := by
      rw [List.drop_eq_getElem_cons (by omega)]
      rfl
    rw [hone'] at h1
    have hys : ys[j]? = some (ys[j]'(by omega)) := List.getElem?_eq_getElem (by omega)
    refine ⟨_, _, ?_, hys, h1.trans hys⟩
    rw [← Go.Deep.add_add, hcell, hv]
end
theorem cellsA_get (ars : List ArcV) : ∀ (k : Nat) (u : Value), (cellsA ars)[k]? = some u → ∃ a, ars[k / 5]? = some a ∧ a.cells[k % 5]? = some u := by
  induction ars with
  | nil => intro k u h; simp [cellsA] at h
  | cons b ars ih =>
    intro k u h
    rw [cellsA_cons] at h
    by_cases hk : k < 5
    · rw [List.getElem?_append_left (by simp [ArcV.cells]; omega)] at h
      exact ⟨b, by rw [show k / 5 = 0 by omega]; rfl, by rw [show k % 5 = k by omega]; exact h⟩
    · rw [List.getElem?_append_right (by simp [ArcV.cells]; omega), show b.cells.length = 5 from rfl] at h
      obtain ⟨a, h1, h2⟩ := ih (k - 5) u h
      exact ⟨a, by rw [show k / 5 = (k - 5) / 5 + 1 by omega]; exact h1, by rw [show k % 5 = (k - 5) % 5 by omega]; exact h2⟩

set_option maxHeartbeats 1000000 in
/-- what a net reads as -/
theorem open_net {H : Type} {enc : TypeId × Value → H} {W : World} {base : Nat} {v : Value} {d : DataW H} {p : List MemPlace} {ts : List TypeId} {ds : List (DataW H)} {j : Nat} (hv : Value.okWide Tryd.prog W .any base 24 v) (h : DataW.Trod enc Tryd.prog W 0 (fun _ => true) true 24 v d p)
    (hz : (DataW.weightsEach Tryd.prog ts ds).all (· ≤ reachBytes) = true) (ht : ts[j]? = some 24) (hd : ds[j]? = some d) :
    ∃ n A l c ars, v = .agg #[.int .i64 n, .slice A l c] ∧ fits n ∧ List.length ars = l ∧ l ≤ c ∧ (∀ a ∈ ars, ArcV.fit a) ∧ Rd W W.heap.size A (cellsA ars) ∧ c * 40 ≤ 140737488351232 ∧ l ≤ maxLen := by
  obtain ⟨v0, v1, y0, y1, m, rfl, rfl, rfl, h0, h1⟩ := open_agg2 Tryd.underlying24 (by kernel_rfl) cellsNet hv h
  obtain ⟨n, hn, _, hw⟩ := DataW.trod_int (by exact Tryd.underlying3) h0
  simp only [List.cons.injEq, and_true] at hn
  subst hn
  rcases open_slice_fields (fs := _) (by exact Tryd.underlying22) Tryd.underlying49 (by kernel_rfl) cellsArc h1 with ⟨hcs, hx⟩ | ⟨a, len, cap, mm, D, Pl, hcs, _, hl, hm, hmm, hx, hi⟩
  · simp only [List.cons.injEq, and_true] at hcs
    subst hcs
    exact ⟨n, none, 0, 0, [], rfl, fits_of_wf hw, rfl, Nat.le_refl _, fun _ h => (by cases h), .inl rfl, by omega, by unfold maxLen; omega⟩
  · simp only [List.cons.injEq, and_true] at hcs
    subst hcs
    simp only [if_true] at hmm
    subst hmm
    have hy1 : y1.1 = .slice ((List.range len).map D) ((List.range (mm - len)).map fun j => D (len + j)) := congrArg Prod.fst hx
    have hsz : (len + (mm - len)) * 40 ≤ 140737488351232 := by
      have hmem := DataW.weights_mem_each (P := Tryd.prog) ht hd ((len + (mm - len)) * 40) (by
        simp only [DataW.weights, Tryd.underlying24, List.map_cons, List.map_nil, DataW.weightsEach, List.mem_append]
        refine .inr (.inl ?_)
        rw [hy1]
        simp [DataW.weights, Tryd.underlying22, bytesArc])
      have := List.all_eq_true.1 hz _ hmem
      exact of_decide_eq_true this
    -- the numbers of arc i
    have arc : ∀ i, i < len → ∃ b : ArcV, b.fit ∧ ∀ j u, b.cells[j]? = some u → W.cell? (a.add (i * 5 + j)) = some u := by
      intro i hil
      obtain ⟨ys, m', _, _, _, hf⟩ := hi i (by omega)
      have one : ∀ j f, (#[⟨ "From", 3, 0, false, "", "", 0⟩, ⟨ "To", 3, 1, false, "", "", 8⟩, ⟨ "Give", 3, 2, false, "", "", 16⟩, ⟨ "Take", 3, 3, false, "", "", 24⟩, ⟨ "Start", 3, 4, false, "", "", 32⟩] : Array Field)[j]? = some f → f.type = 3 → ∃ x, fits x ∧ W.cell? (a.add (i * 5 + j)) = some (.int .i64 x) := by
        intro j f hj hft
        obtain ⟨v, y, hc, _, ht⟩ := hf j f hj
        rw [hft] at ht
        obtain ⟨x, hx, _, hw⟩ := DataW.trod_int Tryd.underlying3 ht
        simp only [List.cons.injEq, and_true] at hx
        subst hx
        exact ⟨x, fits_of_wf hw, hc⟩
      obtain ⟨x0, g0, e0⟩ := one 0 _ rfl rfl
      obtain ⟨x1, g1, e1⟩ := one 1 _ rfl rfl
      obtain ⟨x2, g2, e2⟩ := one 2 _ rfl rfl
      obtain ⟨x3, g3, e3⟩ := one 3 _ rfl rfl
      obtain ⟨x4, g4, e4⟩ := one 4 _ rfl rfl
      refine ⟨⟨x0, x1, x2, x3, x4⟩, ⟨g0, g1, g2, g3, g4⟩, fun j u hu => ?_⟩
      match j, hu with
      | 0, hu => simp [ArcV.cells] at hu; subst hu; exact e0
      | 1, hu => simp [ArcV.cells] at hu; subst hu; exact e1
      | 2, hu => simp [ArcV.cells] at hu; subst hu; exact e2
      | 3, hu => simp [ArcV.cells] at hu; subst hu; exact e3
      | 4, hu => simp [ArcV.cells] at hu; subst hu; exact e4
      | j + 5, hu => simp [ArcV.cells] at hu
    have : Inhabited ArcV := ⟨⟨0, 0, 0, 0, 0⟩⟩
    obtain ⟨f, hf⟩ := choose_lt arc
    refine ⟨n, some a, len, mm, (List.range len).map f, rfl, fits_of_wf hw, by simp, hl, ?_, ?_, by omega, by omega⟩
    · intro b hb
      obtain ⟨i, hi, rfl⟩ := List.mem_map.1 hb
      exact (hf i (List.mem_range.1 hi)).1
    · by_cases h0 : 0 < len
      · obtain ⟨b, off, spot⟩ := a
        have e0 := (hf 0 h0).2 0 (.int .i64 (f 0).f) rfl
        have hspot : spot = none := by simpa [Addr.add] using World.cell?_spot e0
        subst hspot
        refine .inr ⟨b, off, rfl, ?_, fun k u hu => ?_⟩
        · have := World.block_lt_of_cell? W _ e0
          simpa [Addr.add] using this
        · obtain ⟨x, h1, h2⟩ := cellsA_get _ k u hu
          have hk : k / 5 < len := by have := (List.getElem?_eq_some_iff.1 h1).1; simpa using this
          have hx : x = f (k / 5) := by simp [hk] at h1; exact h1.symm
          subst hx
          have := (hf (k / 5) hk).2 (k % 5) u h2
          rw [show k / 5 * 5 + k % 5 = k by omega, Addr.add_lit] at this
          exact this
      · left
        obtain rfl : len = 0 := by omega
        rfl
end Go.Proofs.YtdogddngiolpoaaDoor
