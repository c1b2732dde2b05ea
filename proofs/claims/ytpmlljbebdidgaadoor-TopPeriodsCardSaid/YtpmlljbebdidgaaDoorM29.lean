/-
  Q, BQ, GQ: texts pasted together.
-/
import Derived.Test.YtpmlljbebdidgaaDoorM1
import Derived.Test.YtpmlljbebdidgaaDoorCards
import Derived.Test.YtpmlljbebdidgaaDoorTie
import Derived.ProofKit
import Derived.OpenShut
import Derived.Deep.DeepHandedRow
import Derived.Lib.LaidTab
import Derived.SizedLaws
import Derived.Test.YtpmlljbebdidgaaDoorM2
import Derived.Deep.Slices
import Derived.Deep.Fields
import Derived.ChangeSame
import Derived.Lib.SmallJoins
import Derived.Test.YtpmlljbebdidgaaDoorM20
/-
  From a law's walk to its row: what an argument reads as, the law's post out of 'nothing below the old heap has changed', and the table that the row lists.
-/
set_option maxRecDepth 100000
namespace Go.Proofs.YtpmlljbebdidgaaDoor
open Go.ChangeShapes Go.WideShapes Go.ChangeAt Go.RowKit

theorem laidOut : laidOutB Tryd.prog = true := by kernel_rfl
theorem own : ownKnob Tryd.prog.godebug = none := by kernel_rfl
/-- the table's name, as the rows have it -/
def tabName : String := Rows.topPeriodsRow.named.headD Rows.topPeriodsRow.func
theorem gTab : Tryd.prog.globalNamed tabName = some 0 := by kernel_rfl
theorem gTabType : (Tryd.prog.globals[0]?).map (·.type) = some 161 := by kernel_rfl
theorem cellsTab : Tryd.prog.cellsOf 161 = 64 := by kernel_rfl
theorem cellsByte : Tryd.prog.cellsOf 5 = 1 := by kernel_rfl
theorem cellsInt : Tryd.prog.cellsOf 3 = 1 := by kernel_rfl
theorem bytesInt : Tryd.prog.bytesOf 3 = 8 := by kernel_rfl

/-- the table as the rows list it -/
def listed : List (String × DataW Unit) := [(tabName, Rows.laid_math_bits_deBruijn64tab)]
theorem tab_of_laid {W : World} (h : laidMetH Tryd.prog listed W) : Tab W := by
  have ht : Lib.TabIs Tryd.prog W tabName .u8 (Lib.deBruijn64tab.map Int.ofNat) :=
    Lib.tabIs_of_head (rest := []) gTab gTabType Tryd.underlying161 Tryd.underlying5 cellsByte cellsTab h
  intro j hj
  have := ht.cell gTab j (by simpa [Lib.deBruijn64tab] using hj)
  rw [this]
  congr 2
  simp only [List.getD_eq_getElem?_getD, List.getElem?_map]
  cases Lib.deBruijn64tab[j]? <;> rfl

section
variable {H : Type} {enc : TypeId × Value → H} {P : Program}
theorem trodAll_below (hl : laidOutB P = true) {W W' : World} (hb : Below W.heap.size W W') :
    ∀ (ts : List TypeId) (vs : List Value) (ds : List (DataW H)) (p : List MemPlace), (ts.all fun t => P.readableRec t && decide (t < P.types.size)) = true → DataW.TrodAll enc P W 0 (fun _ => true) true ts vs ds p → (∀ x ∈ p, x.block < W.heap.size) →
      DataW.TrodAll enc P W' 0 (fun b => decide (b < W.heap.size)) true ts vs ds p
  | [], vs, ds, p, _, h, _ => by
    obtain ⟨rfl, rfl, rfl⟩ := trodAll_nil h
    rfl
  | t :: ts, vs, ds, p, ha, h, hlt => by
    obtain ⟨v, vs', d, ds', p', q', rfl, rfl, rfl, h1, h2⟩ := trodAll_cons h
    simp only [List.all_cons, Bool.and_eq_true, decide_eq_true_eq] at ha
    exact ⟨p', q', Below.trod hl ha.1.1 ha.1.2 h1 hb (fun x hx => hlt x (List.mem_append_left _ hx)), trodAll_below hl hb ts vs' ds' q' ha.2 h2 (fun x hx => hlt x (List.mem_append_right _ hx)), rfl⟩

/-- the post of a law: it answers true, and nothing below the old heap has changed -/
theorem law_post {f : Func} {s : ChangeSpec} {W W' : World} {args : Array Value} {ds gs : List (DataW H)} {before : List MemPlace} {tb : TypeId} (hl : laidOutB P = true) (hts : (f.params.toList.all fun t => P.readableRec t && decide (t < P.types.size)) = true)
    (hsv : s.vars = []) (hrt : f.resultTypes = #[tb]) (hbool : P.underlying tb = some .bool) (hW : DataW.Whole enc P f.params.toList s.vars false W args.toList ds gs before)
    (hres : (s.fn H (ds ++ gs)).results = [.lit (.bool true)]) (hargs : (s.fn H (ds ++ gs)).args = ds) (hvars : (s.fn H (ds ++ gs)).vars = []) (hb : Below W.heap.size W W') :
    s.post enc P f false true false false W args (.bool true) W' := by
  have hlt : ∀ p ∈ before, p.block < W.heap.size := fun p hp => hW.lt p hp
  have hW' := hW
  obtain ⟨p, q, hA, hV, rfl, _, _⟩ := hW
  refine ⟨ds, gs, p ++ q, [], p, [], hW', ?_, ?_, ?_, hb.frame _, fun h => by cases h⟩
  · rw [hres, hrt]
    exact trodAll_cons_mk (shut_bool hbool true) trodAll_mk0
  · rw [hargs]
    exact trodAll_below hl hb _ _ _ _ hts hA (fun x hx => hlt x (List.mem_append_left _ hx))
  · rw [hvars, hsv]
    rfl
end

theorem fits_of_wf {x : Int} (h : (Lit.int .i64 x).wf = true) : fits x := bounds_i64 h

set_option maxRecDepth 100000 in
/-- what a slice of numbers reads as -/
theorem open_list {H : Type} {enc : TypeId × Value → H} {W : World} {base : Nat} {v : Value} {d : DataW H} {p : List MemPlace} {ts : List TypeId} {ds : List (DataW H)} {j : Nat} (hv : Value.okWide Tryd.prog W .any base 27 v) (h : DataW.Trod enc Tryd.prog W 0 (fun _ => true) true 27 v d p)
    (hz : (DataW.weightsEach Tryd.prog ts ds).all (· ≤ reachBytes) = true) (ht : ts[j]? = some 27) (hd : ds[j]? = some d) :
    ∃ A n c xs, v = .slice A n c ∧ List.length xs = n ∧ n ≤ c ∧ AllFit xs ∧ Rd W W.heap.size A (cellsI xs) ∧ c * 8 ≤ 140737488351232 := by
  obtain ⟨a0, len, cap, rfl⟩ := okWide_slice Tryd.underlying27 hv
  obtain ⟨fuel, hf⟩ := h
  rcases open_ints Tryd.underlying27 Tryd.underlying3 cellsInt hf with ⟨hcs, hx⟩ | ⟨a, len', cap', zs, hcs, _, hl, hm, hzl, hx, hcell, hwz⟩
  · simp only [Value.cells, List.cons.injEq, Value.slice.injEq] at hcs
    obtain ⟨⟨rfl, rfl, rfl⟩, _⟩ := hcs
    exact ⟨none, 0, 0, [], rfl, rfl, Nat.le_refl _, fun x hx => (by cases hx), .inl rfl, by omega⟩
  · simp only [Value.cells, List.cons.injEq, Value.slice.injEq] at hcs
    obtain ⟨⟨rfl, rfl, rfl⟩, _⟩ := hcs
    simp only [if_true] at hzl
    have hd0 : d = .slice (lits .i64 (zs.take len)) (lits .i64 (zs.drop len)) := congrArg Prod.fst hx
    rw [hd0] at hd
    have hsz := sized_slice hz ht hd Tryd.underlying27
    rw [bytesInt] at hsz
    simp only [lits, List.length_map, List.length_take, List.length_drop, reachBytes] at hsz
    refine ⟨some a, len, cap, zs.take len, rfl, by simp; omega, hl, fun x hx => fits_of_wf (hwz x (List.mem_of_mem_take hx)), ?_, by omega⟩
    by_cases h0 : 0 < zs.length
    · obtain ⟨b, off, rfl, hc⟩ := ints_at hcell h0
      refine .inr ⟨b, off, rfl, World.block_lt_of_cell? W ⟨b, off + 0, none⟩ (hc 0 h0), fun i u hu => ?_⟩
      have hi := (List.getElem?_eq_some_iff.1 hu).1
      rw [cellsI_length, List.length_take] at hi
      rw [hc i (by omega), ← hu]
      simp [cellsI, show i < len by omega, show i < zs.length by omega]
    · left
      have : zs = [] := List.eq_nil_of_length_eq_zero (by omega)
      simp [this, cellsI]

/-- a world for the witness: the settled one, the table holding what its initialiser lays -/
noncomputable def laidWorld (os : Os) : World :=
  { World.holding Tryd.prog os ⟨#[], #[], []⟩ with heap := (World.holding Tryd.prog os ⟨#[], #[], []⟩).heap.modify 0 fun
      | .cells _ t frozen => .cells (Lib.deBruijn64tab.map fun n : Nat => Value.int .u8 (n : Int)).toArray t frozen
      | o => o }
end Go.Proofs.YtpmlljbebdidgaaDoor
/-
  What a net reads as.
-/
set_option maxRecDepth 100000
namespace Go.Proofs.YtpmlljbebdidgaaDoor
open Go.ChangeShapes Go.WideShapes Go.ChangeAt Go.RowKit Go.Deep Go.Joins

theorem cellsNet : Tryd.prog.cellsOf 30 = 2 := by kernel_rfl
theorem cellsArc : Tryd.prog.cellsOf 66 = 5 := by kernel_rfl
theorem bytesArc : Tryd.prog.bytesOf 66 = 40 := by kernel_rfl

section
variable {H : Type} {enc : TypeId × Value → H} {P : Program} {w : World} {base : Nat} {spare : Nat → Bool} {held : Bool}
theorem open_slice_fields {t e : TypeId} {fs : Array Field} {fuel : Nat} {cs : List Value} {x : DataW H × List MemPlace} (ht : P.underlying t = some (.slice e)) (he : P.underlying e = some (.struct fs))
    (hone : oneCellFields P fs = true) (hC : P.cellsOf e = fs.size) (h : DataW.trod enc P w base spare held fuel t cs = some x) :
    (cs = [.slice none 0 0] ∧ x = (.nil, [])) ∨
    ∃ (a : Addr) (len cap m : Nat) (D : Nat → DataW H) (Pl : Nat → List MemPlace), cs = [.slice (some a) len cap] ∧ base ≤ a.block ∧ len ≤ cap ∧ cap ≤ maxLen ∧ m = (if spare a.block then cap else len) ∧
      x = (.slice ((List.range len).map D) ((List.range (m - len)).map fun j => D (len + j)), MemPlace.row a (m * fs.size) ++ (List.range m).flatMap Pl) ∧
      ∀ i, i < m → ∃ (ys : List (DataW H × List MemPlace)) (n : Nat), D i = .agg (ys.map (·.1)) ∧ Pl i = ys.flatMap (·.2) ∧ ys.length = fs.size ∧
        ∀ (j : Nat) (f : Field), fs[j]? = some f → ∃ (v : Value) (y : DataW H × List MemPlace), w.cell? (a.add (i * fs.size + j)) = some v ∧ ys[j]? = some y ∧ DataW.trod enc P w base spare held n f.type [v] = some y := by
  rcases open_slice ht h with h0 | ⟨a, len, cap, m, n, D, Pl, hcs, hb, hl, hm, hmm, hx, hi⟩
  · exact .inl h0
  · refine .inr ⟨a, len, cap, m, D, Pl, hcs, hb, hl, hm, hmm, by rw [hC] at hx; exact hx, fun i him => ?_⟩
    obtain ⟨cs', hc, ht'⟩ := hi i him
    rw [hC] at hc
    obtain ⟨ys, n', hn', hy, hlen, hyl, hf⟩ := DataW.trod_struct he ht'
    obtain ⟨_, hcl, hat⟩ := World.cells?_some hc
    simp only [Prod.mk.injEq] at hy
    refine ⟨ys, n', hy.1, hy.2, hyl, fun j f hj => ?_⟩
    obtain ⟨ho, hk⟩ := hone_of hone j f hj
    have hjl : j < fs.size := (Array.getElem?_eq_some_iff.1 hj).1
    have hcell := hat j hjl
    have hv : cs'[j]? = some (cs'[j]'(by omega)) := List.getElem?_eq_getElem (by omega)
    have h1 := hf j f hj
    rw [ho, hk] at h1
    have hone' : (cs'.drop j).take 1 = [cs'[j]'(by omega)] := by
      rw [List.drop_eq_getElem_cons (by omega)]
      rfl
    rw [hone'] at h1
    have hys : ys[j]? = some (ys[j]'(by omega)) := List.getElem?_eq_getElem (by omega)
    refine ⟨_, _, ?_, hys, h1.trans hys⟩
    rw [← Go.Deep.add_add, hcell, hv]
end
theorem cellsA_get (ars : List ArcV) : ∀ (k : Nat) (u : Value), (cellsA ars)[k]? = some u → ∃ a, ars[k / 5]? = some a ∧ a.cells[k % 5]? = some u := by
  induction ars with
  | nil => intro k u h; simp [cellsA] at h
  | cons b ars ih =>
    intro k u h
    rw [cellsA_cons] at h
    by_cases hk : k < 5
    · rw [List.getElem?_append_left (by simp [ArcV.cells]; omega)] at h
      exact ⟨b, by rw [show k / 5 = 0 by omega]; rfl, by rw [show k % 5 = k by omega]; exact h⟩
    · rw [List.getElem?_append_right (by simp [ArcV.cells]; omega), show b.cells.length = 5 from rfl] at h
      obtain ⟨a, h1, h2⟩ := ih (k - 5) u h
      exact ⟨a, by rw [show k / 5 = (k - 5) / 5 + 1 by omega]; exact h1, by rw [show k % 5 = (k - 5) % 5 by omega]; exact h2⟩

set_option maxHeartbeats 1000000 in
/-- what a net reads as -/
theorem open_net {H : Type} {enc : TypeId × Value → H} {W : World} {base : Nat} {v : Value} {d : DataW H} {p : List MemPlace} {ts : List TypeId} {ds : List (DataW H)} {j : Nat} (hv : Value.okWide Tryd.prog W .any base 30 v) (h : DataW.Trod enc Tryd.prog W 0 (fun _ => true) true 30 v d p)
    (hz : (DataW.weightsEach Tryd.prog ts ds).all (· ≤ reachBytes) = true) (ht : ts[j]? = some 30) (hd : ds[j]? = some d) :
    ∃ n A l c ars, v = .agg #[.int .i64 n, .slice A l c] ∧ fits n ∧ List.length ars = l ∧ l ≤ c ∧ (∀ a ∈ ars, ArcV.fit a) ∧ Rd W W.heap.size A (cellsA ars) ∧ c * 40 ≤ 140737488351232 ∧ l ≤ maxLen := by
  obtain ⟨v0, v1, y0, y1, m, rfl, rfl, rfl, h0, h1⟩ := open_agg2 Tryd.underlying30 (by kernel_rfl) cellsNet hv h
  obtain ⟨n, hn, _, hw⟩ := DataW.trod_int (by exact Tryd.underlying3) h0
  simp only [List.cons.injEq, and_true] at hn
  subst hn
  rcases open_slice_fields (fs := _) (by exact Tryd.underlying28) Tryd.underlying66 (by kernel_rfl) cellsArc h1 with ⟨hcs, hx⟩ | ⟨a, len, cap, mm, D, Pl, hcs, _, hl, hm, hmm, hx, hi⟩
  · simp only [List.cons.injEq, and_true] at hcs
    subst hcs
    exact ⟨n, none, 0, 0, [], rfl, fits_of_wf hw, rfl, Nat.le_refl _, fun _ h => (by cases h), .inl rfl, by omega, by unfold maxLen; omega⟩
  · simp only [List.cons.injEq, and_true] at hcs
    subst hcs
    simp only [if_true] at hmm
    subst hmm
    have hy1 : y1.1 = .slice ((List.range len).map D) ((List.range (mm - len)).map fun j => D (len + j)) := congrArg Prod.fst hx
    have hsz : (len + (mm - len)) * 40 ≤ 140737488351232 := by
      have hmem := DataW.weights_mem_each (P := Tryd.prog) ht hd ((len + (mm - len)) * 40) (by
        simp only [DataW.weights, Tryd.underlying30, List.map_cons, List.map_nil, DataW.weightsEach, List.mem_append]
        refine .inr (.inl ?_)
        rw [hy1]
        simp [DataW.weights, Tryd.underlying28, bytesArc])
      have := List.all_eq_true.1 hz _ hmem
      exact of_decide_eq_true this
    -- the numbers of arc i
    have arc : ∀ i, i < len → ∃ b : ArcV, b.fit ∧ ∀ j u, b.cells[j]? = some u → W.cell? (a.add (i * 5 + j)) = some u := by
      intro i hil
      obtain ⟨ys, m', _, _, _, hf⟩ := hi i (by omega)
      have one : ∀ j f, (#[⟨ "From", 3, 0, false, "", "", 0⟩, ⟨ "To", 3, 1, false, "", "", 8⟩, ⟨ "Give", 3, 2, false, "", "", 16⟩, ⟨ "Take", 3, 3, false, "", "", 24⟩, ⟨ "Start", 3, 4, false, "", "", 32⟩] : Array Field)[j]? = some f → f.type = 3 → ∃ x, fits x ∧ W.cell? (a.add (i * 5 + j)) = some (.int .i64 x) := by
        intro j f hj hft
        obtain ⟨v, y, hc, _, ht⟩ := hf j f hj
        rw [hft] at ht
        obtain ⟨x, hx, _, hw⟩ := DataW.trod_int Tryd.underlying3 ht
        simp only [List.cons.injEq, and_true] at hx
        subst hx
        exact ⟨x, fits_of_wf hw, hc⟩
      obtain ⟨x0, g0, e0⟩ := one 0 _ rfl rfl
      obtain ⟨x1, g1, e1⟩ := one 1 _ rfl rfl
      obtain ⟨x2, g2, e2⟩ := one 2 _ rfl rfl
      obtain ⟨x3, g3, e3⟩ := one 3 _ rfl rfl
      obtain ⟨x4, g4, e4⟩ := one 4 _ rfl rfl
      refine ⟨⟨x0, x1, x2, x3, x4⟩, ⟨g0, g1, g2, g3, g4⟩, fun j u hu => ?_⟩
      match j, hu with
      | 0, hu => simp [ArcV.cells] at hu; subst hu; exact e0
      | 1, hu => simp [ArcV.cells] at hu; subst hu; exact e1
      | 2, hu => simp [ArcV.cells] at hu; subst hu; exact e2
      | 3, hu => simp [ArcV.cells] at hu; subst hu; exact e3
      | 4, hu => simp [ArcV.cells] at hu; subst hu; exact e4
      | j + 5, hu => simp [ArcV.cells] at hu
    have : Inhabited ArcV := ⟨⟨0, 0, 0, 0, 0⟩⟩
    obtain ⟨f, hf⟩ := choose_lt arc
    refine ⟨n, some a, len, mm, (List.range len).map f, rfl, fits_of_wf hw, by simp, hl, ?_, ?_, by omega, by omega⟩
    · intro b hb
      obtain ⟨i, hi, rfl⟩ := List.mem_map.1 hb
      exact (hf i (List.mem_range.1 hi)).1
    · by_cases h0 : 0 < len
      · obtain ⟨b, off, spot⟩ := a
        have e0 := (hf 0 h0).2 0 (.int .i64 (f 0).f) rfl
        have hspot : spot = none := by simpa [Addr.add] using World.cell?_spot e0
        subst hspot
        refine .inr ⟨b, off, rfl, ?_, fun k u hu => ?_⟩
        · have := World.block_lt_of_cell? W _ e0
          simpa [Addr.add] using this
        · obtain ⟨x, h1, h2⟩ := cellsA_get _ k u hu
          have hk : k / 5 < len := by have := (List.getElem?_eq_some_iff.1 h1).1; simpa using this
          have hx : x = f (k / 5) := by simp [hk] at h1; exact h1.symm
          subst hx
          have := (hf (k / 5) hk).2 (k % 5) u h2
          rw [show k / 5 * 5 + k % 5 = k by omega, Addr.add_lit] at this
          exact this
      · left
        obtain rfl : len = 0 := by omega
        rfl
end Go.Proofs.YtpmlljbebdidgaaDoor
/-
  What a graph reads as.
-/
set_option maxRecDepth 100000
namespace Go.Proofs.YtpmlljbebdidgaaDoor
open Go.ChangeShapes Go.WideShapes Go.ChangeAt Go.RowKit Go.Deep Go.Joins

theorem cellsGraph : Tryd.prog.cellsOf 26 = 5 := by kernel_rfl
theorem cellsActor : Tryd.prog.cellsOf 62 = 3 := by kernel_rfl
theorem cellsEdge : Tryd.prog.cellsOf 59 = 5 := by kernel_rfl
theorem cellsPort : Tryd.prog.cellsOf 68 = 3 := by kernel_rfl

theorem weights_all {H : Type} {P : Program} {e : TypeId} {d : DataW H} {n : Nat} (hn : n ∈ d.weights P e) : ∀ (l : List (DataW H)), d ∈ l → n ∈ DataW.weightsAll P e l := by
  intro l
  induction l with
  | nil => intro h; cases h
  | cons x l ih =>
    intro h
    simp only [DataW.weightsAll, List.mem_append]
    rcases List.mem_cons.1 h with rfl | h
    · exact .inl hn
    · exact .inr (ih h)
theorem flat_get {α : Type} (f : α → List Value) (n : Nat) (hf : ∀ x, (f x).length = n) (hn : 0 < n) : ∀ (l : List α) (k : Nat) (u : Value), (l.flatMap f)[k]? = some u → ∃ a, l[k / n]? = some a ∧ (f a)[k % n]? = some u := by
  intro l
  induction l with
  | nil => intro k u h; simp at h
  | cons b l ih =>
    intro k u h
    rw [List.flatMap_cons] at h
    by_cases hk : k < n
    · rw [List.getElem?_append_left (by rw [hf]; exact hk)] at h
      rw [Nat.div_eq_of_lt hk, Nat.mod_eq_of_lt hk]
      exact ⟨b, rfl, h⟩
    · rw [List.getElem?_append_right (by rw [hf]; omega), hf] at h
      obtain ⟨a, h1, h2⟩ := ih (k - n) u h
      have e1 : k / n = (k - n) / n + 1 := by rw [Nat.div_eq_sub_div hn (by omega)]
      have e2 : k % n = (k - n) % n := by rw [Nat.mod_eq_sub_mod (by omega)]
      rw [e1, e2]
      exact ⟨a, h1, h2⟩

section
variable {H : Type} {enc : TypeId × Value → H} {W : World}
/-- a field that is a list of numbers -/
theorem field_list {n : Nat} {v : Value} {y : DataW H × List MemPlace} (h : DataW.trod enc Tryd.prog W 0 (fun _ => true) true n 27 [v] = some y) (hz : ∀ x ∈ y.1.weights Tryd.prog 27, x ≤ reachBytes) :
    ∃ A c xs, v = .slice A (List.length xs) c ∧ AllFit xs ∧ Rd W W.heap.size A (cellsI xs) ∧ xs.length * 8 ≤ 140737488351232 ∧ xs.length ≤ maxLen := by
  rcases open_ints Tryd.underlying27 Tryd.underlying3 cellsInt h with ⟨hcs, hx⟩ | ⟨a, len, cap, zs, hcs, _, hl, hm, hzl, hx, hcell, hwz⟩
  · simp only [List.cons.injEq, and_true] at hcs
    subst hcs
    exact ⟨none, 0, [], rfl, fun x hx => (by cases hx), .inl rfl, by simp, by simp⟩
  · simp only [List.cons.injEq, and_true] at hcs
    subst hcs
    simp only [if_true] at hzl
    have hd0 : y.1 = .slice (lits .i64 (zs.take len)) (lits .i64 (zs.drop len)) := congrArg Prod.fst hx
    have hsz := hz ((len + (cap - len)) * 8) (by rw [hd0]; simp [DataW.weights, Tryd.underlying27, bytesInt, lits, hzl, Nat.min_eq_left hl])
    simp only [reachBytes] at hsz
    refine ⟨some a, cap, zs.take len, by rw [List.length_take, hzl, Nat.min_eq_left hl], fun x hx => fits_of_wf (hwz x (List.mem_of_mem_take hx)), ?_, by rw [List.length_take]; omega, by rw [List.length_take]; omega⟩
    by_cases h0 : 0 < zs.length
    · obtain ⟨b, off, rfl, hc⟩ := ints_at hcell h0
      refine .inr ⟨b, off, rfl, World.block_lt_of_cell? W ⟨b, off + 0, none⟩ (hc 0 h0), fun i u hu => ?_⟩
      have hi := (List.getElem?_eq_some_iff.1 hu).1
      rw [cellsI_length, List.length_take] at hi
      rw [hc i (by omega), ← hu]
      simp [cellsI, show i < len by omega, show i < zs.length by omega]
    · left
      have : zs = [] := List.eq_nil_of_length_eq_zero (by omega)
      simp [this, cellsI]
/-- a field that is a list of structs -/
theorem field_rows {α : Type} [Inhabited α] {f : α → List Value} {good : α → Prop} {te e : TypeId} {fs : Array Field} {n : Nat} {v : Value} {y : DataW H × List MemPlace} (ht : Tryd.prog.underlying te = some (.slice e)) (he : Tryd.prog.underlying e = some (.struct fs))
    (hone : oneCellFields Tryd.prog fs = true) (hC : Tryd.prog.cellsOf e = fs.size) (hf : ∀ x, (f x).length = fs.size) (hpos : 0 < fs.size)
    (h : DataW.trod enc Tryd.prog W 0 (fun _ => true) true n te [v] = some y) (hz : ∀ x ∈ y.1.weights Tryd.prog te, x ≤ reachBytes)
    (hmk : ∀ (ys : List (DataW H × List MemPlace)) (us : Nat → Value) (m : Nat), ys.length = fs.size → (∀ x ∈ DataW.weightsEach Tryd.prog (fs.toList.map (·.type)) (ys.map (·.1)), x ≤ reachBytes) →
      (∀ (j : Nat) (fd : Field), fs[j]? = some fd → ∃ y, ys[j]? = some y ∧ DataW.trod enc Tryd.prog W 0 (fun _ => true) true m fd.type [us j] = some y) → ∃ a : α, good a ∧ ∀ j u, (f a)[j]? = some u → u = us j) :
    ∃ A c l, v = .slice A (List.length l) c ∧ (∀ x ∈ l, good x) ∧ Rd W W.heap.size A (l.flatMap f) ∧ l.length ≤ maxLen := by
  rcases open_slice_fields ht he hone hC h with ⟨hcs, hx⟩ | ⟨a, len, cap, mm, D, Pl, hcs, _, hl, hm, hmm, hx, hi⟩
  · simp only [List.cons.injEq, and_true] at hcs
    subst hcs
    exact ⟨none, 0, [], rfl, fun x hx => (by cases hx), .inl rfl, by simp⟩
  · simp only [List.cons.injEq, and_true] at hcs
    subst hcs
    simp only [if_true] at hmm
    subst hmm
    have hy1 : y.1 = .slice ((List.range len).map D) ((List.range (mm - len)).map fun j => D (len + j)) := congrArg Prod.fst hx
    have one : ∀ i, i < len → ∃ b : α, good b ∧ ∀ j u, (f b)[j]? = some u → W.cell? (a.add (i * fs.size + j)) = some u := by
      intro i hil
      obtain ⟨ys, m, hD, _, hyl, hfj⟩ := hi i (by omega)
      obtain ⟨us, hus⟩ : ∃ us : Nat → Value, ∀ j, j < fs.size → W.cell? (a.add (i * fs.size + j)) = some (us j) ∧ ∀ fd, fs[j]? = some fd → ∃ y, ys[j]? = some y ∧ DataW.trod enc Tryd.prog W 0 (fun _ => true) true m fd.type [us j] = some y := by
        have : Inhabited Value := ⟨.bool false⟩
        refine choose_lt (p := fun j u => W.cell? (a.add (i * fs.size + j)) = some u ∧ ∀ fd, fs[j]? = some fd → ∃ y, ys[j]? = some y ∧ DataW.trod enc Tryd.prog W 0 (fun _ => true) true m fd.type [u] = some y) fun j hj => ?_
        obtain ⟨v, y, h1, h2, h3⟩ := hfj j fs[j] (Array.getElem?_eq_getElem hj)
        refine ⟨v, h1, fun fd hfd => ?_⟩
        rw [Array.getElem?_eq_getElem hj] at hfd
        cases hfd
        exact ⟨y, h2, h3⟩
      obtain ⟨b, hb, hbu⟩ := hmk ys us m hyl (fun x hx => by
        refine hz x ?_
        rw [hy1]
        simp only [DataW.weights, ht, List.mem_cons, List.mem_append]
        refine .inr (.inl (weights_all (d := D i) ?_ _ (List.mem_map.2 ⟨i, List.mem_range.2 hil, rfl⟩)))
        rw [hD]
        simp only [DataW.weights, he]
        exact hx) (fun j fd hj => (hus j (Array.getElem?_eq_some_iff.1 hj).1).2 fd hj)
      refine ⟨b, hb, fun j u hu => ?_⟩
      have hj : j < fs.size := by have := (List.getElem?_eq_some_iff.1 hu).1; rw [hf] at this; exact this
      rw [hbu j u hu]
      exact (hus j hj).1
    obtain ⟨F, hF⟩ := choose_lt one
    refine ⟨some a, mm, (List.range len).map F, by simp, ?_, ?_, by simp; omega⟩
    · intro b hb
      obtain ⟨i, hi, rfl⟩ := List.mem_map.1 hb
      exact (hF i (List.mem_range.1 hi)).1
    · by_cases h0 : 0 < len
      · have e1 : ((f (F 0))[0]?) = some ((f (F 0))[0]'(by rw [hf]; exact hpos)) := List.getElem?_eq_getElem _
        have e0 := (hF 0 h0).2 0 _ e1
        obtain ⟨b, off, spot⟩ := a
        have hspot : spot = none := by simpa [Addr.add] using World.cell?_spot e0
        subst hspot
        refine .inr ⟨b, off, rfl, ?_, fun k u hu => ?_⟩
        · have := World.block_lt_of_cell? W _ e0
          simpa [Addr.add] using this
        · obtain ⟨x, h1, h2⟩ := flat_get f fs.size hf hpos _ k u hu
          have hk : k / fs.size < len := by have := (List.getElem?_eq_some_iff.1 h1).1; simpa using this
          have hx : x = F (k / fs.size) := by simp [hk] at h1; exact h1.symm
          subst hx
          have := (hF (k / fs.size) hk).2 (k % fs.size) u h2
          rw [show k / fs.size * fs.size + k % fs.size = k by rw [Nat.mul_comm]; exact Nat.div_add_mod k fs.size, Addr.add_lit] at this
          exact this
      · left
        obtain rfl : len = 0 := by omega
        rfl
/-- a struct by value: its fields, one cell each -/
theorem open_agg_fields {t : TypeId} {fs : Array Field} {base : Nat} {v : Value} {d : DataW H} {p : List MemPlace} (hs : Tryd.prog.underlying t = some (.struct fs)) (hone : oneCellFields Tryd.prog fs = true) (hC : Tryd.prog.cellsOf t = fs.size)
    (hv : Value.okWide Tryd.prog W .any base t v) (h : DataW.Trod enc Tryd.prog W 0 (fun _ => true) true t v d p) :
    ∃ (cs : Array Value) (ys : List (DataW H × List MemPlace)) (n : Nat), v = .agg cs ∧ d = .agg (ys.map (·.1)) ∧ cs.size = fs.size ∧ ys.length = fs.size ∧
      ∀ (j : Nat) (f : Field), fs[j]? = some f → ∃ u y, cs[j]? = some u ∧ ys[j]? = some y ∧ DataW.trod enc Tryd.prog W 0 (fun _ => true) true n f.type [u] = some y := by
  obtain ⟨cs, rfl, hsz⟩ := okWide_struct hs hv
  obtain ⟨fuel, hf⟩ := h
  obtain ⟨ys, n, _, hx, hl, hlen, hf⟩ := DataW.trod_struct hs hf
  simp only [Prod.mk.injEq] at hx
  rw [hC] at hsz
  refine ⟨cs, ys, n, rfl, hx.1, hsz, hlen, fun j f hj => ?_⟩
  obtain ⟨ho, hk⟩ := hone_of hone j f hj
  have hjl : j < fs.size := (Array.getElem?_eq_some_iff.1 hj).1
  have h1 := hf j f hj
  rw [ho, hk] at h1
  have hone' : ((Value.agg cs).cells.toList.drop j).take 1 = [cs[j]'(by omega)] := by
    rw [show (Value.agg cs).cells.toList = cs.toList from rfl, List.drop_eq_getElem_cons (by simpa using by omega)]
    rfl
  rw [hone'] at h1
  have hys : ys[j]? = some (ys[j]'(by omega)) := List.getElem?_eq_getElem (by omega)
  exact ⟨_, _, Array.getElem?_eq_getElem (by omega), hys, h1.trans hys⟩
end
theorem ActV.len3 (x : ActV) : x.cells.length = 3 := rfl
theorem GEdg.len5 (x : GEdg) : x.cells.length = 5 := rfl
theorem PrtV.len3 (x : PrtV) : x.cells.length = 3 := rfl
instance : Inhabited ActV := ⟨⟨ByteArray.empty, 0, [], none, 0⟩⟩
instance : Inhabited GEdg := ⟨⟨0, 0, 0, 0, [], none, 0⟩⟩
instance : Inhabited PrtV := ⟨⟨ByteArray.empty, 0, 0⟩⟩

set_option maxHeartbeats 1000000 in
theorem open_graph {H : Type} {enc : TypeId × Value → H} {W : World} {base : Nat} {v : Value} {d : DataW H} {p : List MemPlace} {ts : List TypeId} {ds : List (DataW H)} {j : Nat} (hv : Value.okWide Tryd.prog W .any base 26 v) (h : DataW.Trod enc Tryd.prog W 0 (fun _ => true) true 26 v d p)
    (hz : (DataW.weightsEach Tryd.prog ts ds).all (· ≤ reachBytes) = true) (ht : ts[j]? = some 26) (hd : ds[j]? = some d) :
    ∃ g : GraV, v = g.val ∧ g.good W W.heap.size := by
  obtain ⟨cs, ys, n, rfl, rfl, hcs, hys, hf⟩ := open_agg_fields Tryd.underlying26 (by kernel_rfl) cellsGraph hv h
  have hw : ∀ x ∈ DataW.weights Tryd.prog 26 (.agg (ys.map (·.1)) : DataW H), x ≤ reachBytes := fun x hx => of_decide_eq_true (List.all_eq_true.1 hz x (DataW.weights_mem_each ht hd x hx))
  simp only [DataW.weights, Tryd.underlying26] at hw
  have hj : ∀ (j : Nat) (y : DataW H × List MemPlace) (t : TypeId), ([9, 22, 23, 24, 24] : List TypeId)[j]? = some t → ys[j]? = some y → ∀ x ∈ y.1.weights Tryd.prog t, x ≤ reachBytes := by
    intro j y t h1 h2 x hx
    exact hw x (DataW.weights_mem_each (j := j) h1 (by rw [List.getElem?_map, h2]; rfl) x hx)
  obtain ⟨u0, y0, c0, g0, t0⟩ := hf 0 _ rfl
  obtain ⟨u1, y1, c1, g1, t1⟩ := hf 1 _ rfl
  obtain ⟨u2, y2, c2, g2, t2⟩ := hf 2 _ rfl
  obtain ⟨u3, y3, c3, g3, t3⟩ := hf 3 _ rfl
  obtain ⟨u4, y4, c4, g4, t4⟩ := hf 4 _ rfl
  obtain ⟨nm, hn, _, hnz⟩ := DataW.trod_string Tryd.underlying9 t0
  simp only [List.cons.injEq, and_true] at hn
  subst hn
  obtain ⟨aA, cA, acts, rfl, gA, rA, lA⟩ := field_rows (α := ActV) (f := ActV.cells) (good := ActV.good W W.heap.size) Tryd.underlying22 Tryd.underlying62 (by kernel_rfl) cellsActor ActV.len3 (by decide) t1 (hj 1 y1 _ rfl g1) (by
    intro ys us m hyl hw hf
    obtain ⟨y0, g0, t0⟩ := hf 0 _ rfl
    obtain ⟨y1, g1, t1⟩ := hf 1 _ rfl
    obtain ⟨y2, g2, t2⟩ := hf 2 _ rfl
    obtain ⟨s, e0, _, hs⟩ := DataW.trod_string Tryd.underlying9 t0
    obtain ⟨tg, e1, _, htg⟩ := DataW.trod_int Tryd.underlying60 t1
    obtain ⟨A, c, xs, e2, q1, q2, q3, q4⟩ := field_list t2 (fun x hx => hw x (DataW.weights_mem_each (j := 2) rfl (by rw [List.getElem?_map, g2]; rfl) x hx))
    simp only [List.cons.injEq, and_true] at e0 e1
    refine ⟨⟨s, tg, xs, A, c⟩, ⟨hs, bounds_u8 htg, q1, q4, q3, q2⟩, fun j u hu => ?_⟩
    match j, hu with
    | 0, hu => simp [ActV.cells] at hu; subst hu; exact e0.symm
    | 1, hu => simp [ActV.cells] at hu; subst hu; exact e1.symm
    | 2, hu => simp [ActV.cells] at hu; subst hu; exact e2.symm
    | j + 3, hu => simp [ActV.cells] at hu)
  obtain ⟨aE, cE, edges, rfl, gE, rE, lE⟩ := field_rows (α := GEdg) (f := GEdg.cells) (good := GEdg.good W W.heap.size) Tryd.underlying23 Tryd.underlying59 (by kernel_rfl) cellsEdge GEdg.len5 (by decide) t2 (hj 2 y2 _ rfl g2) (by
    intro ys us m hyl hw hf
    obtain ⟨y0, g0, t0⟩ := hf 0 _ rfl
    obtain ⟨y1, g1, t1⟩ := hf 1 _ rfl
    obtain ⟨y2, g2, t2⟩ := hf 2 _ rfl
    obtain ⟨y3, g3, t3⟩ := hf 3 _ rfl
    obtain ⟨y4, g4, t4⟩ := hf 4 _ rfl
    obtain ⟨x0, e0, _, w0⟩ := DataW.trod_int Tryd.underlying3 t0
    obtain ⟨x1, e1, _, w1⟩ := DataW.trod_int Tryd.underlying3 t1
    obtain ⟨x2, e2, _, w2⟩ := DataW.trod_int Tryd.underlying3 t2
    obtain ⟨x3, e3, _, w3⟩ := DataW.trod_int Tryd.underlying3 t3
    obtain ⟨A, c, xs, e4, q1, q2, q3, q4⟩ := field_list t4 (fun x hx => hw x (DataW.weights_mem_each (j := 4) rfl (by rw [List.getElem?_map, g4]; rfl) x hx))
    simp only [List.cons.injEq, and_true] at e0 e1 e2 e3
    refine ⟨⟨x0, x1, x2, x3, xs, A, c⟩, ⟨fits_of_wf w0, fits_of_wf w1, fits_of_wf w2, fits_of_wf w3, q1, q4, q3, q2⟩, fun j u hu => ?_⟩
    match j, hu with
    | 0, hu => simp [GEdg.cells] at hu; subst hu; exact e0.symm
    | 1, hu => simp [GEdg.cells] at hu; subst hu; exact e1.symm
    | 2, hu => simp [GEdg.cells] at hu; subst hu; exact e2.symm
    | 3, hu => simp [GEdg.cells] at hu; subst hu; exact e3.symm
    | 4, hu => simp [GEdg.cells] at hu; subst hu; exact e4.symm
    | j + 5, hu => simp [GEdg.cells] at hu)
  have port : ∀ (ys : List (DataW H × List MemPlace)) (us : Nat → Value) (m : Nat), ys.length = 3 → (∀ x ∈ DataW.weightsEach Tryd.prog [9, 3, 3] (ys.map (·.1)), x ≤ reachBytes) →
      (∀ (j : Nat) (fd : Field), (#[⟨ "Name", 9, 0, false, "", "", 0⟩, ⟨ "Actor", 3, 1, false, "", "", 16⟩, ⟨ "Port", 3, 2, false, "", "", 24⟩] : Array Field)[j]? = some fd → ∃ y, ys[j]? = some y ∧ DataW.trod enc Tryd.prog W 0 (fun _ => true) true m fd.type [us j] = some y) → ∃ a : PrtV, a.good ∧ ∀ j u, a.cells[j]? = some u → u = us j := by
    intro ys us m hyl hw hf
    obtain ⟨y0, g0, t0⟩ := hf 0 _ rfl
    obtain ⟨y1, g1, t1⟩ := hf 1 _ rfl
    obtain ⟨y2, g2, t2⟩ := hf 2 _ rfl
    obtain ⟨s, e0, _, hs⟩ := DataW.trod_string Tryd.underlying9 t0
    obtain ⟨x1, e1, _, w1⟩ := DataW.trod_int Tryd.underlying3 t1
    obtain ⟨x2, e2, _, w2⟩ := DataW.trod_int Tryd.underlying3 t2
    simp only [List.cons.injEq, and_true] at e0 e1 e2
    refine ⟨⟨s, x1, x2⟩, ⟨hs, fits_of_wf w1, fits_of_wf w2⟩, fun j u hu => ?_⟩
    match j, hu with
    | 0, hu => simp [PrtV.cells] at hu; subst hu; exact e0.symm
    | 1, hu => simp [PrtV.cells] at hu; subst hu; exact e1.symm
    | 2, hu => simp [PrtV.cells] at hu; subst hu; exact e2.symm
    | j + 3, hu => simp [PrtV.cells] at hu
  obtain ⟨aI, cI, ins, rfl, gI, rI, lI⟩ := field_rows (α := PrtV) (f := PrtV.cells) (good := PrtV.good) Tryd.underlying24 Tryd.underlying68 (by kernel_rfl) cellsPort PrtV.len3 (by decide) t3 (hj 3 y3 _ rfl g3) port
  obtain ⟨aO, cO, outs, rfl, gO, rO, lO⟩ := field_rows (α := PrtV) (f := PrtV.cells) (good := PrtV.good) Tryd.underlying24 Tryd.underlying68 (by kernel_rfl) cellsPort PrtV.len3 (by decide) t4 (hj 4 y4 _ rfl g4) port
  have hcs' : cs = #[.string nm, .slice aA acts.length cA, .slice aE edges.length cE, .slice aI ins.length cI, .slice aO outs.length cO] := by
    refine Array.ext_getElem? fun k => ?_
    match k with
    | 0 => exact c0
    | 1 => exact c1
    | 2 => exact c2
    | 3 => exact c3
    | 4 => exact c4
    | k + 5 => rw [Array.getElem?_eq_none (by rw [hcs]; show 5 ≤ k + 5; omega), Array.getElem?_eq_none (by show 5 ≤ k + 5; omega)]
  exact ⟨⟨nm, acts, edges, ins, outs, aA, cA, aE, cE, aI, cI, aO, cO⟩, by rw [hcs']; rfl, ⟨hnz, lA, lE, lI, lO, rA, rE, rI, rO, gA, gE, gI, gO⟩⟩
end Go.Proofs.YtpmlljbebdidgaaDoor
