/-
  What forest.Of builds is a forest, and its roots tell who is joined to whom.
-/
import Derived.Test.YteokomepcgkddaaFd
import Derived.Test.YteokomepcgkddaaFp
namespace Go.Proofs.Yteokomepcgkddaa
open Go.RowKit

theorem conn_cons {T : List Edg} {e : Edg} : ∀ {p : List Stp} {u v : Nat}, Walk (e :: T) u p v → Conn T u v ∨ (Conn T u e.f ∧ Conn T e.t v) ∨ (Conn T u e.t ∧ Conn T e.f v)
  | [], u, v, h => .inl ⟨[], h⟩
  | s :: p, u, v, ⟨m, ⟨d, hd, h1, h2⟩, h3⟩ => by
    have ih := conn_cons h3
    rcases List.mem_cons.1 hd with rfl | hd
    · have hum : (u = d.f ∧ m = d.t) ∨ (u = d.t ∧ m = d.f) := by
        split at h2
        · exact .inr ⟨h2.2, h2.1⟩
        · exact .inl h2
      rcases hum with ⟨rfl, rfl⟩ | ⟨rfl, rfl⟩
      · rcases ih with h | ⟨_, h⟩ | ⟨_, h⟩
        · exact .inr (.inl ⟨Conn.refl _ _, h⟩)
        · exact .inr (.inl ⟨Conn.refl _ _, h⟩)
        · exact .inl h
      · rcases ih with h | ⟨_, h⟩ | ⟨_, h⟩
        · exact .inr (.inr ⟨Conn.refl _ _, h⟩)
        · exact .inl h
        · exact .inr (.inr ⟨Conn.refl _ _, h⟩)
    · have hum : Conn T u m := ⟨[s], m, ⟨d, hd, h1, h2⟩, rfl⟩
      rcases ih with h | ⟨h, h'⟩ | ⟨h, h'⟩
      · exact .inl (hum.trans h)
      · exact .inr (.inl ⟨hum.trans h, h'⟩)
      · exact .inr (.inr ⟨hum.trans h, h'⟩)
theorem conn_new {T : List Edg} {e : Edg} : Conn (e :: T) e.f e.t := ⟨[(e.i, false)], e.t, ⟨e, List.mem_cons_self, rfl, by simp⟩, rfl⟩
theorem conn_iff {T : List Edg} {e : Edg} {u v : Nat} : Conn (e :: T) u v ↔ Conn T u v ∨ (Conn T u e.f ∧ Conn T e.t v) ∨ (Conn T u e.t ∧ Conn T e.f v) := by
  constructor
  · intro ⟨p, hp⟩
    exact conn_cons hp
  · intro h
    rcases h with h | ⟨h, h'⟩ | ⟨h, h'⟩
    · exact h.more
    · exact (h.more.trans conn_new).trans h'.more
    · exact (h.more.trans conn_new.symm).trans h'.more

/-- forest.Of's state: the edges so far; who is joined to whom -/
structure FInv (n : Nat) (ars : List ArcV) (i : Nat) (up tr : List Int) (T : List Edg) : Prop where
  len : up.length = n
  good : Good up
  forest : Forest T
  conn : ∀ u v, u < n → v < n → (root up u = root up v ↔ Conn T u v)
  tree : tr = T.reverse.map fun e => (e.i : Int)
  edge : ∀ e ∈ T, e.i < i ∧ e.f < n ∧ e.t < n ∧ ∃ a, ars[e.i]? = some a ∧ a.f = (e.f : Int) ∧ a.t = (e.t : Int)
  all : ∀ j a, j < i → ars[j]? = some a → root up a.f.toNat = root up a.t.toNat
theorem root_lt {up : List Int} {n v : Nat} (hv : v < n) : root up v < n := by have := root_le up v; omega
theorem selfs_root {n v : Nat} (hv : v < n) : root (selfs n) v = v := by
  rw [root_step]
  have h : ¬ upN (selfs n) v < v := by
    unfold upN
    rw [selfs_at hv]; simp
  rw [if_neg h]
theorem finv_start (n : Nat) (ars : List ArcV) : FInv n ars 0 (selfs n) [] [] := by
  refine ⟨selfs_length n, selfs_good n, trivial, ?_, rfl, (fun _ h => by cases h), (fun _ _ h _ => absurd h (Nat.not_lt_zero _))⟩
  intro u v hu hv
  rw [selfs_root hu, selfs_root hv]
  constructor
  · rintro rfl; exact Conn.refl _ _
  · intro ⟨p, hp⟩
    cases p with
    | nil => exact hp
    | cons s p => obtain ⟨m, ⟨d, hd, _⟩, _⟩ := hp; cases hd
theorem finv_step {n : Nat} {ars : List ArcV} {i : Nat} {up tr : List Int} {T : List Edg} {a : ArcV} (hok : ∀ a ∈ ars, 0 ≤ a.f ∧ a.f < n ∧ 0 ≤ a.t ∧ a.t < n) (h : FInv n ars i up tr T) (ha : ars[i]? = some a) :
    (root up a.f.toNat = root up a.t.toNat → FInv n ars (i + 1) up tr T) ∧
    (root up a.f.toNat ≠ root up a.t.toNat → FInv n ars (i + 1) (up.set (max (root up a.f.toNat) (root up a.t.toNat)) (min (root up a.f.toNat) (root up a.t.toNat) : Nat)) (tr ++ [(i : Int)]) (⟨i, a.f.toNat, a.t.toNat⟩ :: T)) := by
  obtain ⟨h1, h2, h3, h4⟩ := hok a (List.mem_of_getElem? ha)
  constructor
  · intro he
    refine ⟨h.len, h.good, h.forest, h.conn, h.tree, fun e hm => ?_, fun j b hj hb => ?_⟩
    · obtain ⟨x1, x2⟩ := h.edge e hm
      exact ⟨by omega, x2⟩
    · by_cases hji : j = i
      · subst hji
        rw [ha] at hb; cases hb
        exact he
      · exact h.all j b (by omega) hb
  · intro hne
    obtain ⟨x, hx⟩ : ∃ x, a.f.toNat = x := ⟨_, rfl⟩
    obtain ⟨y, hy⟩ : ∃ y, a.t.toNat = y := ⟨_, rfl⟩
    rw [hx, hy] at hne ⊢
    have hxn : x < n := by omega
    have hyn : y < n := by omega
    have rx := root_lt (up := up) hxn
    have ry := root_lt (up := up) hyn
    have hset : ∀ v, v < n → root (up.set (max (root up x) (root up y)) (min (root up x) (root up y) : Nat)) v = if root up v = max (root up x) (root up y) then min (root up x) (root up y) else root up v := by
      intro v hv
      refine root_set up _ _ (by omega) (by rw [h.len]; omega) ?_ ?_ v (by rw [h.len]; exact hv)
      · rcases Nat.lt_or_ge (root up x) (root up y) with hh | hh
        · rw [Nat.max_eq_right (by omega)]; exact root_root up y
        · rw [Nat.max_eq_left (by omega)]; exact root_root up x
      · rcases Nat.lt_or_ge (root up x) (root up y) with hh | hh
        · rw [Nat.min_eq_left (by omega)]; exact root_root up x
        · rw [Nat.min_eq_right (by omega)]; exact root_root up y
    have hsame : ∀ u v, u < n → v < n → (root (up.set (max (root up x) (root up y)) (min (root up x) (root up y) : Nat)) u = root (up.set (max (root up x) (root up y)) (min (root up x) (root up y) : Nat)) v ↔
        root up u = root up v ∨ (root up u = root up x ∧ root up y = root up v) ∨ (root up u = root up y ∧ root up x = root up v)) := by
      intro u v hu hv
      rw [hset u hu, hset v hv]
      generalize root up u = ru
      generalize root up v = rv
      generalize root up x = rx at *
      generalize root up y = ry at *
      split <;> split <;> omega
    refine ⟨by simp [h.len], good_set up _ _ h.good (by omega), ⟨h.forest, fun d hd he => ?_, fun hc => ?_⟩, fun u v hu hv => ?_, ?_, fun e hm => ?_, fun j b hj hb => ?_⟩
    · have := (h.edge d hd).1
      simp only at he; omega
    · exact hne ((h.conn x y hxn hyn).2 hc)
    · rw [hsame u v hu hv, conn_iff]
      simp only
      rw [h.conn u v hu hv, h.conn u x hu hxn, h.conn y v hyn hv, h.conn u y hu hyn, h.conn x v hxn hv]
    · rw [h.tree]; simp
    · rcases List.mem_cons.1 hm with rfl | hm
      · exact ⟨by simp, hxn, hyn, a, ha, by simp only; omega, by simp only; omega⟩
      · obtain ⟨x1, x2⟩ := h.edge e hm
        exact ⟨by omega, x2⟩
    · obtain ⟨g1, g2, g3, g4⟩ := hok b (List.mem_of_getElem? hb)
      rw [hsame _ _ (by omega) (by omega)]
      by_cases hji : j = i
      · subst hji
        rw [ha] at hb; cases hb
        rw [hx, hy]
        exact .inr (.inl ⟨rfl, rfl⟩)
      · exact .inl (h.all j b (by omega) hb)
/-- the end of forest.Of's arcs -/
theorem finv_all {n : Nat} {ars : List ArcV} (hok : ∀ a ∈ ars, 0 ≤ a.f ∧ a.f < n ∧ 0 ≤ a.t ∧ a.t < n) : ∀ (k i : Nat) (up tr : List Int) (T : List Edg), i + k = ars.length → FInv n ars i up tr T →
    ∃ T', FInv n ars ars.length (forestGo i up tr (ars.drop i)).1 (forestGo i up tr (ars.drop i)).2 T'
  | 0, i, up, tr, T, hk, h => by
    obtain rfl : i = ars.length := by omega
    rw [List.drop_eq_nil_of_le (Nat.le_refl _)]
    exact ⟨T, h⟩
  | k + 1, i, up, tr, T, hk, h => by
    have hi : i < ars.length := by omega
    obtain ⟨s1, s2⟩ := finv_step hok h (List.getElem?_eq_getElem hi)
    rw [List.drop_eq_getElem_cons hi, forestGo]
    by_cases he : root up ars[i].f.toNat = root up ars[i].t.toNat
    · rw [if_pos he]
      exact finv_all hok k (i + 1) _ _ _ (by omega) (s1 he)
    · rw [if_neg he]
      exact finv_all hok k (i + 1) _ _ _ (by omega) (s2 he)
theorem finv_end {n : Nat} {ars : List ArcV} (hok : ∀ a ∈ ars, 0 ≤ a.f ∧ a.f < n ∧ 0 ≤ a.t ∧ a.t < n) : ∃ T, FInv n ars ars.length (upF n ars) (treeF n ars) T :=
  finv_all hok ars.length 0 _ _ _ (by omega) (finv_start n ars)
/-- of a sound net -/
theorem checkF_ok {n : Nat} {ars : List ArcV} (hc : checkF n ars = 0) : 1 ≤ n ∧ n ≤ 32 ∧ ars.length ≤ 96 ∧ ∀ a ∈ ars, 0 ≤ a.f ∧ a.f < n ∧ 0 ≤ a.t ∧ a.t < n := by
  unfold checkF at hc
  split at hc
  · cases hc
  · split at hc
    · cases hc
    · exact ⟨by omega, by omega, by omega, arcs_ok n ars hc⟩
theorem homeF_at {n v : Nat} {ars : List ArcV} (hv : v < n) : (homeF n ars)[v]? = some (root (upF n ars) v : Int) := by simp [homeF, hv]
theorem homeF_length (n : Nat) (ars : List ArcV) : (homeF n ars).length = n := by simp [homeF]
/-- what a step of the forest is -/
theorem stepOk_iff {n : Nat} {ars : List ArcV} {up tr : List Int} {T : List Edg} (h : FInv n ars ars.length up tr T) {u v : Nat} {s : Stp} :
    stepOk T u v s ↔ (s.1 : Int) ∈ tr ∧ ∃ a, ars[s.1]? = some a ∧ if s.2 = true then (v : Int) = a.f ∧ (u : Int) = a.t else (u : Int) = a.f ∧ (v : Int) = a.t := by
  constructor
  · intro ⟨e, he, h1, h2⟩
    obtain ⟨_, _, _, a, ha, hf, ht⟩ := h.edge e he
    refine ⟨?_, a, by rw [← h1]; exact ha, ?_⟩
    · rw [h.tree, List.mem_map]
      exact ⟨e, List.mem_reverse.2 he, by rw [h1]⟩
    · rw [hf, ht]
      by_cases hs : s.2 = true
      · rw [if_pos hs] at h2 ⊢; omega
      · rw [if_neg hs] at h2 ⊢; omega
  · intro ⟨hm, a, ha, h2⟩
    rw [h.tree, List.mem_map] at hm
    obtain ⟨e, he, h1⟩ := hm
    have h1' : e.i = s.1 := by omega
    obtain ⟨_, _, _, b, hb, hf, ht⟩ := h.edge e (List.mem_reverse.1 he)
    rw [h1', ha] at hb; cases hb
    refine ⟨e, List.mem_reverse.1 he, h1', ?_⟩
    rw [hf, ht] at h2
    by_cases hs : s.2 = true
    · rw [if_pos hs] at h2 ⊢; omega
    · rw [if_neg hs] at h2 ⊢; omega
end Go.Proofs.Yteokomepcgkddaa
