/-
  PLAIN: the least rank is the first in the line.
-/
import Derived.Test.YtdogddngiolpoaaPz
namespace Go.Proofs.Ytdogddngiolpoaa
open Go.RowKit

/-- a list, each number once -/
def onceFrom : List Int → List Int → List Int
  | acc, [] => acc
  | acc, x :: xs => onceFrom (if x ∈ acc then acc else acc ++ [x]) xs
theorem onceFrom_step {acc xs : List Int} {x : Int} : onceFrom acc (x :: xs) = onceFrom (if x ∈ acc then acc else acc ++ [x]) xs := rfl
theorem once_find (p : Int → Bool) : ∀ (xs acc : List Int), (onceFrom acc xs).find? p = (acc ++ xs).find? p := by
  intro xs
  induction xs with
  | nil => intro acc; rw [List.append_nil]; rfl
  | cons x xs ih =>
    intro acc
    rw [onceFrom_step, ih]
    split
    · rename_i h
      rw [List.find?_append, List.find?_append]
      by_cases hp : p x = true
      · have : (acc.find? p).isSome = true := by rw [List.find?_isSome]; exact ⟨x, h, hp⟩
        obtain ⟨y, hy⟩ := Option.isSome_iff_exists.1 this
        rw [hy]; rfl
      · rw [List.find?_cons_of_neg hp]
    · rw [List.append_assoc]; rfl
theorem once_mem : ∀ (xs acc : List Int) (x : Int), x ∈ onceFrom acc xs → x ∈ acc ∨ x ∈ xs := by
  intro xs
  induction xs with
  | nil => intro acc x h; exact .inl h
  | cons y xs ih =>
    intro acc x h
    rw [onceFrom_step] at h
    rcases ih _ _ h with h1 | h1
    · split at h1
      · exact .inl h1
      · rcases List.mem_append.1 h1 with h2 | h2
        · exact .inl h2
        · exact .inr (by simp at h2; simp [h2])
    · exact .inr (List.mem_cons_of_mem _ h1)
theorem once_len : ∀ (xs acc : List Int), (onceFrom acc xs).length ≤ acc.length + xs.length := by
  intro xs
  induction xs with
  | nil => intro acc; exact Nat.le_refl _
  | cons y xs ih =>
    intro acc
    rw [onceFrom_step]
    have := ih (if y ∈ acc then acc else acc ++ [y])
    simp only [List.length_cons]
    split at this
    · rename_i h; rw [if_pos h]; omega
    · rename_i h; rw [if_neg h]; simp only [List.length_append, List.length_singleton] at this; omega
theorem once_snoc : ∀ (xs acc : List Int) (x : Int), onceFrom acc (xs ++ [x]) = if x ∈ onceFrom acc xs then onceFrom acc xs else onceFrom acc xs ++ [x] := by
  intro xs
  induction xs with
  | nil => intro acc x; rfl
  | cons y xs ih => intro acc x; rw [List.cons_append, onceFrom_step, ih, onceFrom_step]
def pickR (ars : List ArcV) (n : Nat) (rs ps : List Int) (F : Nat → Int) : Int := nextF ars n F rs (onceFrom [] ps ++ downF n 0)
theorem want_iff {ars : List ArcV} {n : Nat} {F : Nat → Int} {rs : List Int} {v : Nat} : wantB ars n F rs v = true ↔ 0 < leftF rs F v ∧ mayB ars n F v = true := by
  unfold wantB leftF
  rw [Bool.and_eq_true, decide_eq_true_eq, Int.toNat_natCast]
  constructor
  · rintro ⟨a, b⟩; exact ⟨by omega, b⟩
  · rintro ⟨a, b⟩; exact ⟨by omega, b⟩
/-- what the best has: the least rank -/
theorem bestF_min (ars : List ArcV) (n : Nat) (F Lf K : Nat → Int) (k : Nat) : ∀ u, u < k → 0 < Lf u → mayB ars n F u = true → 0 ≤ bestF ars n F Lf K k ∧ K (bestF ars n F Lf K k).toNat ≤ K u := by
  induction k with
  | zero => intro u hu; omega
  | succ k ih =>
    intro u hu hl hm
    rw [bestF_succ]
    unfold bestStep
    have hlim := bestF_lt ars n F Lf K k
    by_cases huk : u = k
    · subst huk
      split
      · rw [Int.toNat_natCast]; exact ⟨by omega, Int.le_refl _⟩
      · rename_i h
        refine ⟨?_, ?_⟩
        · rcases Int.lt_or_le (bestF ars n F Lf K u) 0 with h1 | h1
          · exact absurd ⟨hl, hm, .inl h1⟩ h
          · exact h1
        · rcases Int.lt_or_le (K u) (K (bestF ars n F Lf K u).toNat) with h1 | h1
          · exact absurd ⟨hl, hm, .inr h1⟩ h
          · exact h1
    · obtain ⟨i1, i2⟩ := ih u (by omega) hl hm
      split
      · rename_i h
        rw [Int.toNat_natCast]
        refine ⟨by omega, ?_⟩
        rcases h.2.2 with h1 | h1
        · omega
        · omega
      · exact ⟨i1, i2⟩
/-- the rank of a node that is preferred: where it first stands -/
theorem rank_in {n : Nat} {ps : List Int} {v i : Nat} (h : ps[i]? = some (v : Int)) : rankF n ps 0 v ≤ i ∧ ∃ j : Nat, rankF n ps 0 v = j ∧ ps[j]? = some (v : Int) := by
  have hi := (List.getElem?_eq_some_iff.1 h).1
  unfold rankF
  rw [List.drop_zero]
  cases hf : (List.range ps.length).find? (fun i : Nat => decide ((ps[i]?).getD 0 = (v : Int))) with
  | none =>
    rw [List.find?_eq_none] at hf
    have := hf i (List.mem_range.2 hi)
    rw [h] at this
    simp at this
  | some j =>
    have h1 := List.find?_some hf
    have h2 := List.mem_range.1 (List.mem_of_find?_eq_some hf)
    simp only [decide_eq_true_eq] at h1
    have h3 : ps[j]? = some (v : Int) := by
      rw [List.getElem?_eq_getElem h2] at h1 ⊢
      simpa using h1
    refine ⟨?_, j, rfl, h3⟩
    show (j : Int) ≤ i
    rcases Nat.lt_or_ge i j with hij | hij
    · obtain ⟨_, xa, xb, hl, hne⟩ := List.find?_eq_some_iff_append.1 hf
      have hlen : xa.length = j := by
        have e1 : (List.range ps.length)[xa.length]? = some j := by rw [hl, List.getElem?_append_right (Nat.le_refl _)]; simp
        have e2 := (List.getElem?_eq_some_iff.1 e1).2
        simpa using e2
      have hmem : i ∈ xa := by
        have e1 : (List.range ps.length)[i]? = xa[i]? := by rw [hl, List.getElem?_append_left (by omega)]
        rw [List.getElem?_eq_getElem (by simpa using hi), List.getElem_range] at e1
        exact List.mem_of_getElem? e1.symm
      have := hne i hmem
      rw [h] at this
      simp at this
    · omega
theorem rank_out {n : Nat} {ps : List Int} {v : Nat} (h : (v : Int) ∉ ps) : rankF n ps 0 v = (ps.length : Int) + n - v := by
  unfold rankF
  rw [List.drop_zero]
  have : (List.range ps.length).find? (fun i : Nat => decide ((ps[i]?).getD 0 = (v : Int))) = none := by
    rw [List.find?_eq_none]
    intro i hi
    have hi' := List.mem_range.1 hi
    rw [List.getElem?_eq_getElem hi']
    simp only [Option.getD_some, decide_eq_true_eq]
    intro hc
    exact h (hc ▸ List.getElem_mem hi')
  rw [this]
theorem rank_inj {n : Nat} {ps : List Int} {u v : Nat} (hu : u < n) (hv : v < n) (h : rankF n ps 0 u = rankF n ps 0 v) : u = v := by
  by_cases h1 : (u : Int) ∈ ps
  · obtain ⟨i, hi⟩ := List.getElem?_of_mem h1
    obtain ⟨_, a, ea, ha⟩ := rank_in (n := n) hi
    have hal := (List.getElem?_eq_some_iff.1 ha).1
    by_cases h2 : (v : Int) ∈ ps
    · obtain ⟨j, hj⟩ := List.getElem?_of_mem h2
      obtain ⟨_, b, eb, hb⟩ := rank_in (n := n) hj
      have : a = b := by omega
      subst this
      rw [ha] at hb
      have := Option.some.inj hb
      omega
    · rw [rank_out h2] at h; omega
  · by_cases h2 : (v : Int) ∈ ps
    · obtain ⟨j, hj⟩ := List.getElem?_of_mem h2
      obtain ⟨_, b, eb, hb⟩ := rank_in (n := n) hj
      have hbl := (List.getElem?_eq_some_iff.1 hb).1
      rw [rank_out h1] at h; omega
    · rw [rank_out h1, rank_out h2] at h; omega
theorem down_get {n i : Nat} (h : i < n) : (downF n 0)[i]? = some ((n - 1 - i : Nat) : Int) := by
  unfold downF
  simp [h]
theorem down_len (n : Nat) : (downF n 0).length = n := by simp [downF]
/-- what find? says of a list with places -/
theorem find_first {p : Int → Bool} {xs : List Int} {x : Int} (h : xs.find? p = some x) : ∃ i : Nat, xs[i]? = some x ∧ p x = true ∧ ∀ (j : Nat) y, j < i → xs[j]? = some y → p y = false := by
  obtain ⟨hp, xa, xb, rfl, hne⟩ := List.find?_eq_some_iff_append.1 h
  refine ⟨xa.length, by rw [List.getElem?_append_right (Nat.le_refl _)]; simp, hp, fun j y hj hy => ?_⟩
  rw [List.getElem?_append_left hj] at hy
  simpa using hne y (List.mem_of_getElem? hy)

/-- THE TWO RULES PICK THE SAME -/
theorem pick_same {ars : List ArcV} {n : Nat} {rs ps : List Int} (hps : nodesB (n : Int) ps = true) (F : Nat → Int) : pickR ars n rs ps F = pickS ars n rs ps F := by
  unfold pickR nextF
  have e : (onceFrom [] ps ++ downF n 0).find? (wantB ars n F rs) = (ps ++ downF n 0).find? (wantB ars n F rs) := by
    rw [List.find?_append, List.find?_append, once_find, List.nil_append]
  rw [e]
  have inps : ∀ x ∈ ps, 0 ≤ x ∧ x < (n : Int) := fun x hx => by have := List.all_eq_true.1 hps x hx; simpa using this
  have inline : ∀ v : Nat, v < n → (v : Int) ∈ ps ++ downF n 0 := fun v hv => by
    refine List.mem_append_right _ (List.mem_of_getElem? (i := n - 1 - v) ?_)
    rw [down_get (by omega)]
    congr 2
    omega
  cases hf : (ps ++ downF n 0).find? (wantB ars n F rs) with
  | none =>
    rw [List.find?_eq_none] at hf
    show (-1 : Int) = _
    rcases Int.lt_or_le (pickS ars n rs ps F) 0 with h | h
    · have := bestF_lt ars n F (leftF rs F) (rankF n ps 0) n
      unfold pickS at h ⊢
      omega
    · obtain ⟨v, hv, hvn, hl, hm⟩ := pickS_ok ars n rs ps F h
      exact absurd (want_iff.2 ⟨hl, hm⟩) (hf v (inline v hvn))
  | some x =>
    obtain ⟨i, hi, hw, hfirst⟩ := find_first hf
    have hx : 0 ≤ x ∧ x < (n : Int) := by
      rcases List.mem_append.1 (List.mem_of_getElem? hi) with h | h
      · exact inps x h
      · obtain ⟨j, hj⟩ := List.getElem?_of_mem h
        have hjl := (List.getElem?_eq_some_iff.1 hj).1
        rw [down_len] at hjl
        rw [down_get hjl] at hj
        have := Option.some.inj hj
        omega
    obtain ⟨v, rfl⟩ : ∃ v : Nat, x = v := ⟨x.toNat, by omega⟩
    have hv : v < n := by omega
    obtain ⟨hl, hm⟩ := want_iff.1 hw
    obtain ⟨hb0, hbk⟩ := bestF_min ars n F (leftF rs F) (rankF n ps 0) n v hv hl hm
    obtain ⟨b, hbe, hbn, hbl, hbm⟩ := bestF_ok ars n F (leftF rs F) (rankF n ps 0) n hb0
    show (v : Int) = bestF ars n F (leftF rs F) (rankF n ps 0) n
    rw [hbe, Int.toNat_natCast] at hbk
    rw [hbe]
    have hbw : wantB ars n F rs b = true := want_iff.2 ⟨hbl, hbm⟩
    -- the first in the line has the least rank
    have hle : rankF n ps 0 v ≤ rankF n ps 0 b := by
      by_cases hbp : (b : Int) ∈ ps
      · obtain ⟨j, hj⟩ := List.getElem?_of_mem hbp
        obtain ⟨_, jb, ejb, hjb⟩ := rank_in (n := n) hj
        have hjl := (List.getElem?_eq_some_iff.1 hjb).1
        have hij : i ≤ jb := by
          rcases Nat.lt_or_ge jb i with h | h
          · have := hfirst jb b h (by rw [List.getElem?_append_left hjl]; exact hjb)
            rw [hbw] at this; cases this
          · exact h
        rw [List.getElem?_append_left (by omega)] at hi
        have := (rank_in (n := n) hi).1
        omega
      · rw [rank_out hbp]
        by_cases hvp : (v : Int) ∈ ps
        · obtain ⟨j, hj⟩ := List.getElem?_of_mem hvp
          obtain ⟨_, a, ea, ha⟩ := rank_in (n := n) hj
          have := (List.getElem?_eq_some_iff.1 ha).1
          omega
        · rw [rank_out hvp]
          have hge : ps.length ≤ i := by
            rcases Nat.lt_or_ge i ps.length with h | h
            · rw [List.getElem?_append_left h] at hi
              exact absurd (List.mem_of_getElem? hi) hvp
            · exact h
          rw [List.getElem?_append_right hge] at hi
          have hil := (List.getElem?_eq_some_iff.1 hi).1
          rw [down_len] at hil
          rw [down_get hil] at hi
          have hiv := Option.some.inj hi
          have hbi := hfirst (ps.length + (n - 1 - b)) b
          rcases Nat.lt_or_ge (ps.length + (n - 1 - b)) i with h | h
          · have := hbi h (by rw [List.getElem?_append_right (by omega), show ps.length + (n - 1 - b) - ps.length = n - 1 - b by omega, down_get (by omega)]; congr 2; omega)
            rw [hbw] at this; cases this
          · omega
    have := rank_inj hv hbn (show rankF n ps 0 v = rankF n ps 0 b by omega)
    omega
theorem runF_congr {pick pick' : (Nat → Int) → Int} (h : ∀ F, pick F = pick' F) : pick = pick' := funext h
end Go.Proofs.Ytdogddngiolpoaa
