/-
  Fw, Fx, Fy, Yl, Fh, Yo: texts pasted together.
-/
import Derived.Test.YtpmlljbebdidgaaDoorFv
import Derived.Deep.RegionHeld3
import Derived.Test.YtpmlljbebdidgaaDoorYk
/-
  pianolaref00.SameInts of two lists that are one; the law's example that is always asked.
-/
namespace Go.Proofs.YtpmlljbebdidgaaDoor
open Go.RowKit


def awArcs : List ArcV := [⟨1, 1, 1, 1, 0⟩, ⟨2, 1, 1, 1, 0⟩]
theorem aw_check : checkF (3 : Nat) awArcs = 0 := by decide
theorem aw_tree : treeF 3 awArcs = [1] := by decide
theorem aw_home : homeF 3 awArcs = [0, 1, 1] := by decide
theorem aw_fit : ∀ a ∈ awArcs, a.fit := by
  intro a ha
  simp [awArcs] at ha
  rcases ha with rfl | rfl <;> simp [ArcV.fit, fits]
theorem aw_root : root (upF 3 awArcs) 1 = root (upF 3 awArcs) 2 := by decide
theorem aw_path {T : List Edg} (hT : FInv 3 awArcs awArcs.length (upF 3 awArcs) (treeF 3 awArcs) T) {p : List Stp} (h : Walk T 1 p 2) (hr : Red p) : p = [(1, true)] := by
  refine uniq hT.forest h ⟨2, ?_, rfl⟩ hr trivial
  refine (stepOk_iff hT).2 ⟨by rw [aw_tree]; simp, ⟨2, 1, 1, 1, 0⟩, rfl, ?_⟩
  simp

end Go.Proofs.YtpmlljbebdidgaaDoor
/-
  Steps: are two rows the same; a row turned about.
-/
namespace Go.Proofs.YtpmlljbebdidgaaDoor
open Go.RowKit

theorem Rd.step {w : World} {B : Nat} {A : Option Addr} {p : List Stp} {k : Nat} (h : Rd w B A (cellsS p)) (hk : k < p.length) :
    ∃ b off s, A = some ⟨b, off, none⟩ ∧ b < B ∧ w.cell? ⟨b, off + k * 2, none⟩ = some (.int .i64 (s.1 : Nat)) ∧ w.cell? ⟨b, off + k * 2 + 1, none⟩ = some (.bool s.2) ∧ Hid (p.drop k = s :: p.drop (k + 1)) ∧ Hid (p[k]? = some s) := by
  rcases h with h | ⟨b, off, ha, hb, hc⟩
  · have := cellsS_length p; rw [h] at this; simp at this; omega
  · have hg : p[k]? = some p[k] := List.getElem?_eq_getElem hk
    obtain ⟨h1, h2⟩ := cellsS_at p k p[k] hg
    exact ⟨b, off, p[k], ha, hb, hc _ _ h1, by rw [Nat.add_assoc]; exact hc _ _ h2, List.drop_eq_getElem_cons hk, hg⟩


theorem turned_drop {p : List Stp} {j : Nat} {s : Stp} (h : p.drop j = s :: p.drop (j + 1)) : turned (p.drop j) = turned (p.drop (j + 1)) ++ [(s.1, !s.2)] := by rw [h, turned_cons]
theorem turned_length (p : List Stp) : (turned p).length = p.length := by simp [turned]

end Go.Proofs.YtpmlljbebdidgaaDoor
/-
  forest.Path's answer, whatever the net and the nodes.
-/
namespace Go.Proofs.YtpmlljbebdidgaaDoor
open Go.RowKit

/-- what forest.Path answers: an error's number and steps -/
def PathAns (n : Int) (ars : List ArcV) (s t k : Int) (p : List Stp) : Prop :=
  (checkF n ars ≠ 0 ∧ k = checkF n ars ∧ p = []) ∨
  (checkF n ars = 0 ∧ (s < 0 ∨ t < 0 ∨ n ≤ s ∨ n ≤ t) ∧ k = 100 ∧ p = []) ∨
  (checkF n ars = 0 ∧ ∃ m a b : Nat, n = m ∧ s = a ∧ t = b ∧ a < m ∧ b < m ∧ root (upF m ars) a ≠ root (upF m ars) b ∧ k = 110 ∧ p = []) ∨
  (checkF n ars = 0 ∧ ∃ m a b : Nat, n = m ∧ s = a ∧ t = b ∧ a < m ∧ b < m ∧ root (upF m ars) a = root (upF m ars) b ∧ k = 0 ∧ ∃ T, FInv m ars ars.length (upF m ars) (treeF m ars) T ∧ Walk T a p b ∧ Red p)
theorem tree_same {n : Nat} {ars : List ArcV} {T T' : List Edg} (h : FInv n ars ars.length (upF n ars) (treeF n ars) T) (h' : FInv n ars ars.length (upF n ars) (treeF n ars) T') {u v : Nat} {p : List Stp} (hp : Walk T u p v) : Walk T' u p v := by
  induction p generalizing u with
  | nil => exact hp
  | cons s p ih =>
    obtain ⟨m, h1, h2⟩ := hp
    exact ⟨m, (stepOk_iff h').2 ((stepOk_iff h).1 h1), ih h2⟩
theorem PathAns.one {n : Int} {ars : List ArcV} {s t k k' : Int} {p p' : List Stp} (h : PathAns n ars s t k p) (h' : PathAns n ars s t k' p') : k = k' ∧ p = p' := by
  rcases h with ⟨h1, h2, h3⟩ | ⟨h1, h2, h3, h4⟩ | ⟨h1, m, a, b, rfl, rfl, rfl, h2, h3, h4, h5, h6⟩ | ⟨h1, m, a, b, rfl, rfl, rfl, h2, h3, h4, h5, T, h6, h7, h8⟩ <;>
    rcases h' with ⟨g1, g2, g3⟩ | ⟨g1, g2, g3, g4⟩ | ⟨g1, m', a', b', e1, e2, e3, g2, g3, g4, g5, g6⟩ | ⟨g1, m', a', b', e1, e2, e3, g2, g3, g4, g5, T', g6, g7, g8⟩
  all_goals first
    | exact absurd h1 g1
    | exact absurd g1 h1
    | (exfalso; omega)
    | skip
  · exact ⟨h2.trans g2.symm, h3.trans g3.symm⟩
  · exact ⟨h3.trans g3.symm, h4.trans g4.symm⟩
  · exact ⟨h5.trans g5.symm, h6.trans g6.symm⟩
  · obtain rfl : m = m' := by omega
    obtain rfl : a = a' := by omega
    obtain rfl : b = b' := by omega
    exact absurd g4 h4
  · obtain rfl : m = m' := by omega
    obtain rfl : a = a' := by omega
    obtain rfl : b = b' := by omega
    exact absurd h4 g4
  · obtain rfl : m = m' := by omega
    obtain rfl : a = a' := by omega
    obtain rfl : b = b' := by omega
    exact ⟨h5.trans g5.symm, uniq h6.forest h7 (tree_same g6 h6 g7) h8 g8⟩
theorem turned_nil : turned [] = [] := rfl
theorem PathAns.turn {n : Int} {ars : List ArcV} {s t k : Int} {p : List Stp} (h : PathAns n ars s t k p) : PathAns n ars t s k (turned p) := by
  rcases h with ⟨h1, h2, h3⟩ | ⟨h1, h2, h3, h4⟩ | ⟨h1, m, a, b, h2, h3, h4, h5, h6, h7, h8, h9⟩ | ⟨h1, m, a, b, h2, h3, h4, h5, h6, h7, h8, T, h9, h10, h11⟩
  · exact .inl ⟨h1, h2, by rw [h3]; rfl⟩
  · exact .inr (.inl ⟨h1, by omega, h3, by rw [h4]; rfl⟩)
  · exact .inr (.inr (.inl ⟨h1, m, b, a, h2, h4, h3, h6, h5, fun he => h7 he.symm, h8, by rw [h9]; rfl⟩))
  · exact .inr (.inr (.inr ⟨h1, m, b, a, h2, h4, h3, h6, h5, h7.symm, h8, T, h9, h10.turn, h11.turn⟩))

/-- forest.Path -/
theorem path_any (n : Int) (ars : List ArcV) (A : Option Addr) (l c : Nat) (s t : Int) (w : World) (hl : ars.length = l) (hx : ∀ a ∈ ars, a.fit) (hr : Rd w w.heap.size A (cellsA ars)) (hm : l ≤ maxLen) (hs : fits s) (ht : fits t) :
    Calls Tryd.prog 22 #[.agg #[.int .i64 n, .slice A l c], .int .i64 s, .int .i64 t] w fun e w' => ∃ A' c' k p, e = .returned (.tuple #[.slice A' p.length c', .int .i64 k]) ∧ PathAns n ars s t k p ∧ Rd w' w'.heap.size A' (cellsS p) ∧ p.length ≤ 32 ∧ Below w.heap.size w w' := by
  by_cases hc : checkF n ars = 0
  · have hn : ∃ m : Nat, n = m := by
      refine ⟨n.toNat, ?_⟩
      unfold checkF at hc
      split at hc
      · cases hc
      · omega
    obtain ⟨m, rfl⟩ := hn
    by_cases hst : s < 0 ∨ t < 0 ∨ (m : Int) ≤ s ∨ (m : Int) ≤ t
    · exact (path_node m ars A l c s t w hl hx hr hm hc hs ht hst).mono fun e w' ⟨he, hb⟩ => ⟨none, 0, 100, [], he, .inr (.inl ⟨hc, hst, rfl, rfl⟩), .inl rfl, by simp, hb⟩
    · obtain ⟨a, rfl⟩ : ∃ a : Nat, s = a := ⟨s.toNat, by omega⟩
      obtain ⟨b, rfl⟩ : ∃ b : Nat, t = b := ⟨t.toNat, by omega⟩
      have ha : a < m := by omega
      have hb : b < m := by omega
      by_cases he : root (upF m ars) a = root (upF m ars) b
      · obtain ⟨T, hT⟩ := finv_end (checkF_ok hc).2.2.2
        exact (path_ok m ars A l c a b w T hT hl hx hr hm hc ha hb he).mono fun e w' ⟨A', c', p, h1, h2, h3, h4, h5, h6⟩ =>
          ⟨A', c', 0, p, h1, .inr (.inr (.inr ⟨hc, m, a, b, rfl, rfl, rfl, ha, hb, he, rfl, T, hT, h2, h3⟩)), rd_of_own h4, h6, h5⟩
      · exact (path_apart m ars A l c a b w hl hx hr hm hc ha hb he).mono fun e w' ⟨h1, h2⟩ => ⟨none, 0, 110, [], h1, .inr (.inr (.inl ⟨hc, m, a, b, rfl, rfl, rfl, ha, hb, he, rfl, rfl⟩)), .inl rfl, by simp, h2⟩
  · exact (path_bad n ars A l c s t w hl hx hr hm hc).mono fun e w' ⟨he, hb⟩ => ⟨none, 0, checkF n ars, [], he, .inl ⟨hc, rfl, rfl⟩, .inl rfl, by simp, hb⟩
end Go.Proofs.YtpmlljbebdidgaaDoor
/-
  What balance.Solve answers, as a law of the net: plain, no program in sight.
-/
namespace Go.Proofs.YtpmlljbebdidgaaDoor

/-- the forest's edges, newest first -/
def edgesF (n : Nat) (ars : List ArcV) : List Edg := (treeF n ars).reverse.map fun x => ⟨x.toNat, (ars[x.toNat]?.elim 0 fun a => a.f).toNat, (ars[x.toNat]?.elim 0 fun a => a.t).toNat⟩
def cR (n : Nat) (ars : List ArcV) : Nat → Nat := (countsR (gN ars) (kN ars) (edgesF n ars)).1
def cP (n : Nat) (ars : List ArcV) : Nat → Nat := (countsR (gN ars) (kN ars) (edgesF n ars)).2
theorem edges_of {n : Nat} {ars : List ArcV} {i : Nat} {up : List Int} {T : List Edg} (h : FInv n ars i up (treeF n ars) T) : T = edgesF n ars := by
  unfold edgesF
  have ht := h.tree
  rw [ht, ← List.map_reverse, List.reverse_reverse, List.map_map]
  refine (List.map_id T).symm.trans (List.map_congr_left fun e he => ?_)
  obtain ⟨-, -, -, a, ha, hf, ht'⟩ := h.edge e he
  show e = _
  simp only [Function.comp]
  have e0 : ((e.i : Int)).toNat = e.i := by omega
  rw [e0, ha]
  show e = ⟨e.i, a.f.toNat, a.t.toNat⟩
  rw [hf, ht']
  have e1 : ((e.f : Int)).toNat = e.f := by omega
  have e2 : ((e.t : Int)).toNat = e.t := by omega
  rw [e1, e2]
theorem ctx_at {n : Nat} {ars : List ArcV} (hc : checkF n ars = 0) : Ctx n ars (edgesF n ars) (cR n ars) (cP n ars) := by
  obtain ⟨T, C⟩ := ctx_of hc
  obtain rfl := edges_of C.fi
  exact C
/-- does an arc balance? -/
def evA (R : Nat → Nat) (a : ArcV) : Bool := decide (a.g * (R a.f.toNat : Int) = a.k * (R a.t.toNat : Int))
/-- the first arc that does not -/
def FirstU (ars : List ArcV) (R : Nat → Nat) (i : Nat) (a : ArcV) : Prop := ars[i]? = some a ∧ evA R a = false ∧ ∀ j b, j < i → ars[j]? = some b → evA R b = true
/-- what Solve answers: verdict, counts, cycle, error -/
def SolA (n : Int) (ars : List ArcV) (vd : Int) (reps : List Int) (cyc : List Stp) (k : Int) : Prop :=
  (checkF n ars ≠ 0 ∧ k = checkF n ars ∧ vd = 0 ∧ reps = [] ∧ cyc = []) ∨
  (checkF n ars = 0 ∧ k = 0 ∧ ∃ m : Nat, n = m ∧
    ((Big m (cR m ars) ∧ vd = 3 ∧ reps = [] ∧ cyc = []) ∨
     (¬ Big m (cR m ars) ∧ vd = 2 ∧ reps = [] ∧ ∃ i a p, FirstU ars (cR m ars) i a ∧ PathAns m ars a.t a.f 0 p ∧ cyc = (i, false) :: p) ∨
     (¬ Big m (cR m ars) ∧ (∀ a ∈ ars, evA (cR m ars) a = true) ∧ vd = 1 ∧ reps = rowN m (fun v => (cR m ars v : Int)) ∧ cyc = [])))
theorem FirstU.one {ars : List ArcV} {R : Nat → Nat} {i i' : Nat} {a a' : ArcV} (h : FirstU ars R i a) (h' : FirstU ars R i' a') : i = i' ∧ a = a' := by
  obtain ⟨h1, h2, h3⟩ := h
  obtain ⟨g1, g2, g3⟩ := h'
  have e : i = i' := by
    rcases Nat.lt_trichotomy i i' with hlt | rfl | hlt
    · have := g3 i a hlt h1; rw [h2] at this; cases this
    · rfl
    · have := h3 i' a' hlt g1; rw [g2] at this; cases this
  subst e
  rw [h1] at g1
  exact ⟨rfl, Option.some.inj g1⟩
theorem SolA.one {n : Int} {ars : List ArcV} {vd vd' k k' : Int} {reps reps' : List Int} {cyc cyc' : List Stp} (h : SolA n ars vd reps cyc k) (h' : SolA n ars vd' reps' cyc' k') : vd = vd' ∧ reps = reps' ∧ cyc = cyc' ∧ k = k' := by
  rcases h with ⟨hc, rfl, rfl, rfl, rfl⟩ | ⟨hc, rfl, m, rfl, h⟩
  · rcases h' with ⟨-, rfl, rfl, rfl, rfl⟩ | ⟨hc', -⟩
    · exact ⟨rfl, rfl, rfl, rfl⟩
    · exact absurd hc' hc
  · rcases h' with ⟨hc', -⟩ | ⟨-, rfl, m', hm, h'⟩
    · exact absurd hc hc'
    · obtain rfl : m = m' := by omega
      rcases h with ⟨hb, rfl, rfl, rfl⟩ | ⟨hb, rfl, rfl, i, a, p, hu, hp, rfl⟩ | ⟨hb, he, rfl, rfl, rfl⟩
      · rcases h' with ⟨-, rfl, rfl, rfl⟩ | ⟨hb', -⟩ | ⟨hb', -⟩
        · exact ⟨rfl, rfl, rfl, rfl⟩
        · exact absurd hb hb'
        · exact absurd hb hb'
      · rcases h' with ⟨hb', -⟩ | ⟨-, rfl, rfl, i', a', p', hu', hp', rfl⟩ | ⟨-, he', -⟩
        · exact absurd hb' hb
        · obtain ⟨rfl, rfl⟩ := hu.one hu'
          obtain ⟨-, rfl⟩ := hp.one hp'
          exact ⟨rfl, rfl, rfl, rfl⟩
        · have := he' a (List.mem_of_getElem? hu.1); rw [hu.2.1] at this; cases this
      · rcases h' with ⟨hb', -⟩ | ⟨-, -, -, i', a', p', hu', -⟩ | ⟨-, -, rfl, rfl, rfl⟩
        · exact absurd hb' hb
        · have := he a' (List.mem_of_getElem? hu'.1); rw [hu'.2.1] at this; cases this
        · exact ⟨rfl, rfl, rfl, rfl⟩
/-- counts that are not great -/
theorem not_big {n : Nat} {R : Nat → Nat} (h : ¬ Big n R) {v : Nat} (hv : v < n) : R v ≤ 4096 := by
  by_cases h1 : R v ≤ 4096
  · exact h1
  · exact absurd ⟨v, hv, by omega⟩ h
theorem shF_small {n : Nat} {ars : List ArcV} {T : List Edg} {R P : Nat → Nat} (C : Ctx n ars T R P) (h : ¬ Big n R) {v : Nat} (hv : v < n) : Small (shF n ars R v) := by
  have := hm_le n ars v
  exact share_small (C.ri.pos v) (C.ri.pos _) (not_big h hv) (not_big h (by omega))
/-- an arc that has what its share says is even -/
theorem arc_even {n : Nat} {ars : List ArcV} {T : List Edg} {R P : Nat → Nat} (C : Ctx n ars T R P) (h : ¬ Big n R) {i : Nat} {a : ArcV} (ha : ars[i]? = some a) :
    timesF (shF n ars R a.f.toNat) a.g a.k = shF n ars R a.t.toNat ↔ evA R a = true := by
  have hb := C.arc a (List.mem_of_getElem? ha)
  have hs := shF_small C h (v := a.f.toNat) (by omega)
  unfold shF at hs ⊢
  rw [C.same ha] at hs ⊢
  rw [share_far (C.ri.pos _) hs (by omega)]
  unfold evA
  exact decide_eq_true_iff.symm
theorem okT_small {f : Fr} (h : Small f) : okT f = true := by
  unfold okT
  rw [decide_eq_true h.n2, decide_eq_true h.d2]; rfl
end Go.Proofs.YtpmlljbebdidgaaDoor
/-
  forest.Of's answer, whatever the net; the forest of the first arcs.
-/
namespace Go.Proofs.YtpmlljbebdidgaaDoor
open Go.RowKit

/-- what forest.Of answers -/
def OfAns (n : Int) (ars : List ArcV) (k : Int) (tree home : List Int) : Prop :=
  (checkF n ars ≠ 0 ∧ k = checkF n ars ∧ tree = [] ∧ home = []) ∨ (checkF n ars = 0 ∧ k = 0 ∧ ∃ m : Nat, n = m ∧ tree = treeF m ars ∧ home = homeF m ars)
theorem checkF_nat {n : Int} {ars : List ArcV} (hc : checkF n ars = 0) : ∃ m : Nat, n = m := by
  refine ⟨n.toNat, ?_⟩
  unfold checkF at hc
  split at hc
  · cases hc
  · omega
theorem tree_fit {n : Nat} {ars : List ArcV} (hc : checkF n ars = 0) : AllFit (treeF n ars) := by
  obtain ⟨h1, h2, h3, hok⟩ := checkF_ok hc
  obtain ⟨T, hT⟩ := finv_end hok
  intro x hx
  rw [hT.tree, List.mem_map] at hx
  obtain ⟨e, he, rfl⟩ := hx
  have := (hT.edge e (List.mem_reverse.1 he)).1
  unfold fits; omega
theorem home_fit {n : Nat} {ars : List ArcV} (hc : checkF n ars = 0) : AllFit (homeF n ars) := by
  obtain ⟨h1, h2, h3, hok⟩ := checkF_ok hc
  intro x hx
  obtain ⟨v, hv, rfl⟩ := List.mem_map.1 hx
  have := root_lt (up := upF n ars) (List.mem_range.1 hv)
  unfold fits; omega
theorem OfAns.fit {n : Int} {ars : List ArcV} {k : Int} {tree home : List Int} (h : OfAns n ars k tree home) : AllFit tree ∧ AllFit home ∧ tree.length ≤ 96 ∧ home.length ≤ 32 ∧ fits k := by
  rcases h with ⟨_, h1, rfl, rfl⟩ | ⟨hc, hk, m, rfl, rfl, rfl⟩
  · refine ⟨(fun _ h => (by cases h)), (fun _ h => (by cases h)), by simp, by simp, ?_⟩
    have : ∀ l : List ArcV, fits (arcsF n l) := by
      intro l
      induction l with
      | nil => simp [arcsF, fits]
      | cons a l ih =>
        rw [arcsF]
        split
        · exact ih
        · unfold arcF; split
          · simp [fits]
          · split
            · simp [fits]
            · split <;> simp [fits]
    rw [h1]
    unfold checkF
    split
    · simp [fits]
    · split
      · simp [fits]
      · exact this _
  · obtain ⟨h1, h2, h3, _⟩ := checkF_ok hc
    exact ⟨tree_fit hc, home_fit hc, Nat.le_trans (treeF_le m ars) h3, by rw [homeF_length]; exact h2, by rw [hk]; simp [fits]⟩

theorem of_any (n : Int) (ars : List ArcV) (A : Option Addr) (l c : Nat) (w : World) (hl : ars.length = l) (hx : ∀ a ∈ ars, a.fit) (hr : Rd w w.heap.size A (cellsA ars)) (hm : l ≤ maxLen) :
    Calls Tryd.prog 18 #[.agg #[.int .i64 n, .slice A l c]] w fun e w' => ∃ At ct Ah ch k tree home, e = .returned (.tuple #[.agg #[.slice At tree.length ct, .slice Ah home.length ch], .int .i64 k]) ∧ OfAns n ars k tree home ∧
      Rd w' w'.heap.size At (cellsI tree) ∧ Rd w' w'.heap.size Ah (cellsI home) ∧ Below w.heap.size w w' := by
  by_cases hc : checkF n ars = 0
  · obtain ⟨m, rfl⟩ := checkF_nat hc
    refine (of_walk m ars A l c w hl hx hr hm hc).mono ?_
    rintro e w' ⟨At, ct, gh, rfl, _, ot, oh, hb⟩
    exact ⟨At, ct, some ⟨gh, 0, none⟩, m, 0, treeF m ars, homeF m ars, by rw [homeF_length], .inr ⟨hc, rfl, m, rfl, rfl, rfl⟩, rd_of_own ot, rd_of_own oh, hb⟩
  · refine (of_bad n ars A l c w hl hx hr hm hc).mono ?_
    rintro e w' ⟨rfl, hb⟩
    exact ⟨none, 0, none, 0, checkF n ars, [], [], rfl, .inl ⟨hc, rfl, rfl, rfl⟩, .inl rfl, .inl rfl, hb⟩

theorem cellsA_take (ars : List ArcV) : ∀ k, cellsA (ars.take k) = (cellsA ars).take (k * 5) := by
  induction ars with
  | nil => intro k; simp [cellsA]
  | cons a ars ih =>
    intro k
    match k with
    | 0 => simp [cellsA]
    | k + 1 => rw [List.take_succ_cons, cellsA_cons, cellsA_cons, ih k, show (k + 1) * 5 = a.cells.length + k * 5 by simp [ArcV.cells]; omega, List.take_length_add_append]
theorem Rd.takeA {w : World} {B : Nat} {A : Option Addr} {ars : List ArcV} (h : Rd w B A (cellsA ars)) (k : Nat) : Rd w B A (cellsA (ars.take k)) := by
  rcases h with h | ⟨b, off, ha, hb, hc⟩
  · left; rw [cellsA_take, h]; simp
  · refine .inr ⟨b, off, ha, hb, fun j u hu => hc j u ?_⟩
    rw [cellsA_take, List.getElem?_take] at hu
    split at hu
    · exact hu
    · cases hu
theorem arcsF_take (n : Int) : ∀ (ars : List ArcV) (k : Nat), arcsF n ars = 0 → arcsF n (ars.take k) = 0
  | [], k, _ => by simp [arcsF]
  | a :: ars, 0, _ => rfl
  | a :: ars, k + 1, h => by
    rw [arcsF] at h
    rw [List.take_succ_cons, arcsF]
    by_cases ha : arcF n a = 0
    · rw [if_pos ha] at h ⊢; exact arcsF_take n ars k h
    · rw [if_neg ha] at h; exact absurd h ha
theorem checkF_take {n : Int} {ars : List ArcV} (k : Nat) (h : checkF n ars = 0) : checkF n (ars.take k) = 0 := by
  unfold checkF at h ⊢
  split at h
  · cases h
  · rename_i h1
    rw [if_neg h1]
    split at h
    · cases h
    · rename_i h2
      rw [if_neg (by rw [List.length_take]; omega)]
      exact arcsF_take n ars k h
/-- arc by arc, in two parts -/
theorem forestGo_app : ∀ (xs ys : List ArcV) (i : Nat) (up tr : List Int), forestGo i up tr (xs ++ ys) = forestGo (i + xs.length) (forestGo i up tr xs).1 (forestGo i up tr xs).2 ys
  | [], ys, i, up, tr => rfl
  | x :: xs, ys, i, up, tr => by
    rw [List.cons_append, forestGo, forestGo, List.length_cons]
    split
    · rw [forestGo_app, show i + 1 + xs.length = i + (xs.length + 1) by omega]
    · rw [forestGo_app, show i + 1 + xs.length = i + (xs.length + 1) by omega]
/-- what comes on is numbered from there on -/
theorem forestGo_new : ∀ (xs : List ArcV) (i : Nat) (up tr : List Int), ∃ new, (forestGo i up tr xs).2 = tr ++ new ∧ ∀ x ∈ new, (i : Int) ≤ x ∧ x < ((i + xs.length : Nat) : Int)
  | [], i, up, tr => ⟨[], by simp [forestGo], fun _ h => by cases h⟩
  | x :: xs, i, up, tr => by
    rw [forestGo, List.length_cons]
    split
    · obtain ⟨new, h1, h2⟩ := forestGo_new xs (i + 1) up tr
      exact ⟨new, h1, fun y hy => by have := h2 y hy; omega⟩
    · obtain ⟨new, h1, h2⟩ := forestGo_new xs (i + 1) (up.set (max (root up x.f.toNat) (root up x.t.toNat)) (min (root up x.f.toNat) (root up x.t.toNat) : Nat)) (tr ++ [(i : Int)])
      refine ⟨(i : Int) :: new, by rw [h1, List.append_assoc]; rfl, fun y hy => ?_⟩
      rcases List.mem_cons.1 hy with rfl | hy
      · omega
      · have := h2 y hy; omega
theorem treeF_take (n : Nat) (ars : List ArcV) (k : Nat) (hk : k ≤ ars.length) : (treeF n ars).filter (fun x => decide (x < (k : Int))) = treeF n (ars.take k) := by
  have e : treeF n ars = (forestGo 0 (selfs n) [] (ars.take k ++ ars.drop k)).2 := by rw [List.take_append_drop]; rfl
  rw [e, forestGo_app]
  obtain ⟨new1, h1, h2⟩ := forestGo_new (ars.take k) 0 (selfs n) []
  have e1 : treeF n (ars.take k) = new1 := by unfold treeF; rw [h1]; rfl
  obtain ⟨new2, h3, h4⟩ := forestGo_new (ars.drop k) (0 + (ars.take k).length) (forestGo 0 (selfs n) [] (ars.take k)).1 (forestGo 0 (selfs n) [] (ars.take k)).2
  have hl : (ars.take k).length = k := by rw [List.length_take]; omega
  rw [h3, h1, e1, List.nil_append, List.filter_append, List.filter_eq_self.2, List.filter_eq_nil_iff.2, List.append_nil]
  · intro x hx
    have := h4 x hx
    simp; omega
  · intro x hx
    have := h2 x hx
    simp; omega
end Go.Proofs.YtpmlljbebdidgaaDoor
/-
  The reference's counts, edge by edge: plain part; steps as cells.
-/
namespace Go.Proofs.YtpmlljbebdidgaaDoor
open Go.RowKit

theorem cellsS_one (p : List Stp) : ∀ u ∈ cellsS p, u.oneCell' = true := by
  intro u hu
  obtain ⟨s, -, hs⟩ := List.mem_flatMap.1 hu
  exact stepCells_one s u hs
/-- the counts after the first i edges -/
def cI (n : Nat) (ars : List ArcV) (i : Nat) : (Nat → Nat) × (Nat → Nat) := countsR (gN ars) (kN ars) ((edgesF n ars).drop ((edgesF n ars).length - i))
theorem forest_drop : ∀ {T : List Edg} (j : Nat), Forest T → Forest (T.drop j)
  | _, 0, h => h
  | [], _ + 1, _ => trivial
  | _ :: _, j + 1, h => forest_drop j h.1
theorem edges_length {n : Nat} {ars : List ArcV} : (edgesF n ars).length = (treeF n ars).length := by simp [edgesF]
theorem cI_zero (n : Nat) (ars : List ArcV) : cI n ars 0 = (fun _ => 1, id) := by
  unfold cI
  rw [Nat.sub_zero, List.drop_length]
  rfl
theorem cI_all (n : Nat) (ars : List ArcV) : cI n ars (treeF n ars).length = (cR n ars, cP n ars) := by
  unfold cI
  rw [edges_length, Nat.sub_self, List.drop_zero]
  rfl
theorem cI_le {n : Nat} {ars : List ArcV} (hc : checkF n ars = 0) (i v : Nat) : (cI n ars i).1 v ≤ cR n ars v := by
  have C := ctx_at hc
  have hb : ∀ e ∈ (edgesF n ars).drop ((edgesF n ars).length - i), 1 ≤ gN ars e.i ∧ 1 ≤ kN ars e.i := fun e he => by
    obtain ⟨-, -, -, a, ha, -, -⟩ := C.fi.edge e (List.mem_of_mem_drop he)
    have := C.arc a (List.mem_of_getElem? ha)
    rw [gN_at ha, kN_at ha]
    omega
  exact counts_le (rinv_all (forest_drop _ C.fi.forest) hb) (fun e he => C.ri.ev e (List.mem_of_mem_drop he)) C.ri.pos v
theorem cI_pos {n : Nat} {ars : List ArcV} (hc : checkF n ars = 0) (i v : Nat) : 1 ≤ (cI n ars i).1 v := by
  have C := ctx_at hc
  have hb : ∀ e ∈ (edgesF n ars).drop ((edgesF n ars).length - i), 1 ≤ gN ars e.i ∧ 1 ≤ kN ars e.i := fun e he => by
    obtain ⟨-, -, -, a, ha, -, -⟩ := C.fi.edge e (List.mem_of_mem_drop he)
    have := C.arc a (List.mem_of_getElem? ha)
    rw [gN_at ha, kN_at ha]
    omega
  exact (rinv_all (forest_drop _ C.fi.forest) hb).pos v
/-- one edge more -/
theorem cI_succ {n : Nat} {ars : List ArcV} (hc : checkF n ars = 0) {i : Nat} {x : Int} (h : (treeF n ars)[i]? = some x) :
    ∃ e a, ars[e.i]? = some a ∧ x = (e.i : Int) ∧ a.f = (e.f : Int) ∧ a.t = (e.t : Int) ∧ e.f < n ∧ e.t < n ∧ gN ars e.i = a.g.toNat ∧ kN ars e.i = a.k.toNat ∧ 1 ≤ a.g ∧ a.g ≤ 64 ∧ 1 ≤ a.k ∧ a.k ≤ 64 ∧ cI n ars (i + 1) = joinR (gN ars) (kN ars) (cI n ars i) e := by
  have C := ctx_at hc
  have hlt : i < (treeF n ars).length := (List.getElem?_eq_some_iff.1 h).1
  have hle := edges_length (n := n) (ars := ars)
  have hk : (edgesF n ars).length - (i + 1) < (edgesF n ars).length := by omega
  obtain ⟨e, he⟩ : ∃ e, (edgesF n ars)[(edgesF n ars).length - (i + 1)]? = some e := ⟨_, List.getElem?_eq_getElem hk⟩
  have hd : (edgesF n ars).drop ((edgesF n ars).length - (i + 1)) = e :: (edgesF n ars).drop ((edgesF n ars).length - i) := by
    rw [List.drop_eq_getElem_cons hk]
    rw [List.getElem?_eq_getElem hk] at he
    injection he with he
    rw [he]
    congr 1
    congr 1
    omega
  have hmem := List.mem_of_getElem? he
  obtain ⟨h1, h2, h3, a, ha, hf, ht⟩ := C.fi.edge e hmem
  have hx : x = (e.i : Int) := by
    have h4 := h
    rw [C.fi.tree, List.getElem?_map, List.getElem?_reverse (by omega)] at h4
    rw [show (edgesF n ars).length - 1 - i = (edgesF n ars).length - (i + 1) by omega, he] at h4
    injection h4 with h4
    exact h4.symm
  have hb := C.arc a (List.mem_of_getElem? ha)
  refine ⟨e, a, ha, hx, hf, ht, h2, h3, gN_at ha, kN_at ha, hb.2.2.2.2.1, hb.2.2.2.2.2.1, hb.2.2.2.2.2.2.1, hb.2.2.2.2.2.2.2, ?_⟩
  unfold cI
  rw [hd]
  rfl
end Go.Proofs.YtpmlljbebdidgaaDoor
