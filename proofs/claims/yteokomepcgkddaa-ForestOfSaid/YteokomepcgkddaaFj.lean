/-
  The forest's arcs alone, one behind the other: they join what the forest joins; how many roots are left.
-/
import Derived.Test.YteokomepcgkddaaFh
namespace Go.Proofs.Yteokomepcgkddaa
open Go.RowKit

def joinStep (ars : List ArcV) (up : List Int) (x : Int) : List Int :=
  match ars[x.toNat]? with
  | some a => up.set (max (root up a.f.toNat) (root up a.t.toNat)) (min (root up a.f.toNat) (root up a.t.toNat) : Nat)
  | none => up
def Joins (ars : List ArcV) : List Int → List Int → Prop
  | _, [] => True
  | up, x :: xs => (0 ≤ x ∧ x < ars.length ∧ ∃ a, ars[x.toNat]? = some a ∧ root up a.f.toNat ≠ root up a.t.toNat) ∧ Joins ars (joinStep ars up x) xs
theorem forestGo_joins (ars : List ArcV) : ∀ (k i : Nat) (up tr : List Int), i + k = ars.length → ∃ new, (forestGo i up tr (ars.drop i)).2 = tr ++ new ∧ (forestGo i up tr (ars.drop i)).1 = new.foldl (joinStep ars) up ∧ Joins ars up new ∧ List.Pairwise (· < ·) new ∧ ∀ x ∈ new, (i : Int) ≤ x
  | 0, i, up, tr, h => by
    rw [List.drop_eq_nil_of_le (by omega)]
    exact ⟨[], by simp [forestGo], rfl, trivial, List.Pairwise.nil, fun _ h => by cases h⟩
  | k + 1, i, up, tr, h => by
    have hi : i < ars.length := by omega
    rw [List.drop_eq_getElem_cons hi, forestGo]
    by_cases he : root up ars[i].f.toNat = root up ars[i].t.toNat
    · rw [if_pos he]
      obtain ⟨new, h1, h2, h3, h4, h5⟩ := forestGo_joins ars k (i + 1) up tr (by omega)
      exact ⟨new, h1, h2, h3, h4, fun x hx => by have := h5 x hx; omega⟩
    · rw [if_neg he]
      have hs : joinStep ars up (i : Int) = up.set (max (root up ars[i].f.toNat) (root up ars[i].t.toNat)) (min (root up ars[i].f.toNat) (root up ars[i].t.toNat) : Nat) := by
        unfold joinStep
        rw [Int.toNat_natCast, List.getElem?_eq_getElem hi]
      obtain ⟨new, h1, h2, h3, h4, h5⟩ := forestGo_joins ars k (i + 1) (joinStep ars up (i : Int)) (tr ++ [(i : Int)]) (by omega)
      rw [← hs]
      refine ⟨(i : Int) :: new, by rw [h1, List.append_assoc]; rfl, h2, ⟨⟨by omega, by omega, ars[i], by rw [Int.toNat_natCast]; exact List.getElem?_eq_getElem hi, he⟩, h3⟩, List.Pairwise.cons (fun x hx => by have := h5 x hx; omega) h4, fun x hx => ?_⟩
      rcases List.mem_cons.1 hx with rfl | hx
      · omega
      · have := h5 x hx; omega
theorem treeF_joins (n : Nat) (ars : List ArcV) : (treeF n ars).foldl (joinStep ars) (selfs n) = upF n ars ∧ Joins ars (selfs n) (treeF n ars) ∧ List.Pairwise (· < ·) (treeF n ars) := by
  obtain ⟨new, h1, h2, h3, h4, _⟩ := forestGo_joins ars ars.length 0 (selfs n) [] (by omega)
  have e : treeF n ars = new := by unfold treeF; exact h1
  rw [e]
  exact ⟨h2.symm, h3, h4⟩
/-- what a joining step does to the roots -/
theorem joinStep_root {ars : List ArcV} {n : Nat} (hok : ∀ a ∈ ars, 0 ≤ a.f ∧ a.f < n ∧ 0 ≤ a.t ∧ a.t < n) {up : List Int} (hl : up.length = n) {x : Int} {a : ArcV} (ha : ars[x.toNat]? = some a) (hne : root up a.f.toNat ≠ root up a.t.toNat) :
    ∀ v, v < n → root (joinStep ars up x) v = if root up v = root up a.f.toNat ∨ root up v = root up a.t.toNat then min (root up a.f.toNat) (root up a.t.toNat) else root up v := by
  intro v hv
  obtain ⟨h1, h2, h3, h4⟩ := hok a (List.mem_of_getElem? ha)
  have rx := root_lt (up := up) (n := n) (v := a.f.toNat) (by omega)
  have ry := root_lt (up := up) (n := n) (v := a.t.toNat) (by omega)
  have e : joinStep ars up x = up.set (max (root up a.f.toNat) (root up a.t.toNat)) (min (root up a.f.toNat) (root up a.t.toNat) : Nat) := by unfold joinStep; rw [ha]
  rw [e, root_set up _ _ (by omega) (by omega) (by
      rcases Nat.lt_or_ge (root up a.f.toNat) (root up a.t.toNat) with hh | hh
      · rw [Nat.max_eq_right (by omega)]; exact root_root up _
      · rw [Nat.max_eq_left (by omega)]; exact root_root up _) (by
      rcases Nat.lt_or_ge (root up a.f.toNat) (root up a.t.toNat) with hh | hh
      · rw [Nat.min_eq_left (by omega)]; exact root_root up _
      · rw [Nat.min_eq_right (by omega)]; exact root_root up _) v (by omega)]
  generalize root up v = rv
  generalize root up a.f.toNat = ra at *
  generalize root up a.t.toNat = rb at *
  split <;> split <;> omega
theorem joinStep_length (ars : List ArcV) (up : List Int) (x : Int) : (joinStep ars up x).length = up.length := by
  unfold joinStep
  split <;> simp
theorem joinStep_good {ars : List ArcV} {up : List Int} (h : Good up) (x : Int) : Good (joinStep ars up x) := by
  unfold joinStep
  split
  · exact good_set up _ _ h (by omega)
  · exact h
/-- how many roots -/
def rootsN (n : Nat) (up : List Int) : Nat := (List.range n).countP fun v => decide (root up v = v)
theorem count_less {p : Nat → Bool} {hi : Nat} (hp : p hi = true) : ∀ {n : Nat}, hi < n → (List.range n).countP (fun v => p v && decide (v ≠ hi)) + 1 = (List.range n).countP p
  | 0, h => absurd h (Nat.not_lt_zero _)
  | n + 1, h => by
    rw [List.range_succ, List.countP_append, List.countP_append]
    by_cases he : hi = n
    · subst he
      have e : (List.range hi).countP (fun v => p v && decide (v ≠ hi)) = (List.range hi).countP p := by
        apply List.countP_congr
        intro v hv
        have := List.mem_range.1 hv
        simp; omega
      rw [e]
      simp [hp]
    · have ih := count_less hp (n := n) (by omega)
      have e : List.countP (fun v => p v && decide (v ≠ hi)) [n] = List.countP p [n] := by
        have : n ≠ hi := fun h => he h.symm
        simp [this]
      rw [e]; omega
theorem rootsN_step {ars : List ArcV} {n : Nat} (hok : ∀ a ∈ ars, 0 ≤ a.f ∧ a.f < n ∧ 0 ≤ a.t ∧ a.t < n) {up : List Int} (hl : up.length = n) {x : Int} {a : ArcV} (ha : ars[x.toNat]? = some a) (hne : root up a.f.toNat ≠ root up a.t.toNat) :
    rootsN n (joinStep ars up x) + 1 = rootsN n up := by
  obtain ⟨h1, h2, h3, h4⟩ := hok a (List.mem_of_getElem? ha)
  have rx := root_lt (up := up) (n := n) (v := a.f.toNat) (by omega)
  have ry := root_lt (up := up) (n := n) (v := a.t.toNat) (by omega)
  have rrx := root_root up a.f.toNat
  have rry := root_root up a.t.toNat
  have key : rootsN n (joinStep ars up x) = (List.range n).countP (fun v => decide (root up v = v) && decide (v ≠ max (root up a.f.toNat) (root up a.t.toNat))) := by
    apply List.countP_congr
    intro v hv
    have hvn := List.mem_range.1 hv
    rw [joinStep_root hok hl ha hne v hvn]
    generalize hra : root up a.f.toNat = ra at *
    generalize hrb : root up a.t.toNat = rb at *
    simp only [decide_eq_true_eq, Bool.and_eq_true]
    by_cases hva : v = ra
    · subst hva; rw [rrx]; simp; omega
    · by_cases hvb : v = rb
      · subst hvb; rw [rry]; simp; omega
      · generalize root up v = rv
        split <;> omega
  rw [key]
  refine count_less ?_ (by omega)
  rcases Nat.lt_or_ge (root up a.f.toNat) (root up a.t.toNat) with hh | hh
  · rw [Nat.max_eq_right (by omega)]; simpa using rry
  · rw [Nat.max_eq_left (by omega)]; simpa using rrx
theorem rootsN_joins {ars : List ArcV} {n : Nat} (hok : ∀ a ∈ ars, 0 ≤ a.f ∧ a.f < n ∧ 0 ≤ a.t ∧ a.t < n) : ∀ (xs up : List Int), up.length = n → Joins ars up xs → rootsN n (xs.foldl (joinStep ars) up) + xs.length = rootsN n up
  | [], _, _, _ => rfl
  | x :: xs, up, hl, ⟨⟨_, _, a, ha, hne⟩, h2⟩ => by
    have ih := rootsN_joins hok xs (joinStep ars up x) (by rw [joinStep_length, hl]) h2
    have := rootsN_step hok hl ha hne
    rw [List.foldl_cons, List.length_cons]; omega
theorem rootsN_selfs (n : Nat) : rootsN n (selfs n) = n := by
  have : (List.range n).countP (fun v => decide (root (selfs n) v = v)) = (List.range n).length := by
    rw [List.countP_eq_length]
    intro v hv
    simpa using selfs_root (List.mem_range.1 hv)
  unfold rootsN
  rw [this, List.length_range]
/-- arcs and components are as many as nodes -/
theorem spans {n : Nat} {ars : List ArcV} (hok : ∀ a ∈ ars, 0 ≤ a.f ∧ a.f < n ∧ 0 ≤ a.t ∧ a.t < n) : (treeF n ars).length + rootsN n (upF n ars) = n := by
  obtain ⟨h1, h2, _⟩ := treeF_joins n ars
  have := rootsN_joins hok (treeF n ars) (selfs n) (selfs_length n) h2
  rw [h1, rootsN_selfs] at this
  omega
end Go.Proofs.Yteokomepcgkddaa
