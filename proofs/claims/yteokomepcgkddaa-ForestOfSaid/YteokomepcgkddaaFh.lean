/-
  forest.Of's answer, whatever the net; the forest of the first arcs.
-/
import Derived.Test.YteokomepcgkddaaFw
import Derived.Deep.RegionHeld3
namespace Go.Proofs.Yteokomepcgkddaa
open Go.RowKit

/-- what forest.Of answers -/
def OfAns (n : Int) (ars : List ArcV) (k : Int) (tree home : List Int) : Prop :=
  (checkF n ars ≠ 0 ∧ k = checkF n ars ∧ tree = [] ∧ home = []) ∨ (checkF n ars = 0 ∧ k = 0 ∧ ∃ m : Nat, n = m ∧ tree = treeF m ars ∧ home = homeF m ars)
theorem checkF_nat {n : Int} {ars : List ArcV} (hc : checkF n ars = 0) : ∃ m : Nat, n = m := by
  refine ⟨n.toNat, ?_⟩
  unfold checkF at hc
  split at hc
  · cases hc
  · omega
theorem tree_fit {n : Nat} {ars : List ArcV} (hc : checkF n ars = 0) : AllFit (treeF n ars) := by
  obtain ⟨h1, h2, h3, hok⟩ := checkF_ok hc
  obtain ⟨T, hT⟩ := finv_end hok
  intro x hx
  rw [hT.tree, List.mem_map] at hx
  obtain ⟨e, he, rfl⟩ := hx
  have := (hT.edge e (List.mem_reverse.1 he)).1
  unfold fits; omega
theorem home_fit {n : Nat} {ars : List ArcV} (hc : checkF n ars = 0) : AllFit (homeF n ars) := by
  obtain ⟨h1, h2, h3, hok⟩ := checkF_ok hc
  intro x hx
  obtain ⟨v, hv, rfl⟩ := List.mem_map.1 hx
  have := root_lt (up := upF n ars) (List.mem_range.1 hv)
  unfold fits; omega
theorem OfAns.fit {n : Int} {ars : List ArcV} {k : Int} {tree home : List Int} (h : OfAns n ars k tree home) : AllFit tree ∧ AllFit home ∧ tree.length ≤ 96 ∧ home.length ≤ 32 ∧ fits k := by
  rcases h with ⟨_, h1, rfl, rfl⟩ | ⟨hc, hk, m, rfl, rfl, rfl⟩
  · refine ⟨(fun _ h => (by cases h)), (fun _ h => (by cases h)), by simp, by simp, ?_⟩
    have : ∀ l : List ArcV, fits (arcsF n l) := by
      intro l
      induction l with
      | nil => simp [arcsF, fits]
      | cons a l ih =>
        rw [arcsF]
        split
        · exact ih
        · unfold arcF; split
          · simp [fits]
          · split
            · simp [fits]
            · split <;> simp [fits]
    rw [h1]
    unfold checkF
    split
    · simp [fits]
    · split
      · simp [fits]
      · exact this _
  · obtain ⟨h1, h2, h3, _⟩ := checkF_ok hc
    exact ⟨tree_fit hc, home_fit hc, Nat.le_trans (treeF_le m ars) h3, by rw [homeF_length]; exact h2, by rw [hk]; simp [fits]⟩

theorem of_any (n : Int) (ars : List ArcV) (A : Option Addr) (l c : Nat) (w : World) (hl : ars.length = l) (hx : ∀ a ∈ ars, a.fit) (hr : Rd w w.heap.size A (cellsA ars)) (hm : l ≤ maxLen) :
    Calls Try.prog 11 #[.agg #[.int .i64 n, .slice A l c]] w fun e w' => ∃ At ct Ah ch k tree home, e = .returned (.tuple #[.agg #[.slice At tree.length ct, .slice Ah home.length ch], .int .i64 k]) ∧ OfAns n ars k tree home ∧
      Rd w' w'.heap.size At (cellsI tree) ∧ Rd w' w'.heap.size Ah (cellsI home) ∧ Below w.heap.size w w' := by
  by_cases hc : checkF n ars = 0
  · obtain ⟨m, rfl⟩ := checkF_nat hc
    refine (of_walk m ars A l c w hl hx hr hm hc).mono ?_
    rintro e w' ⟨At, ct, gh, rfl, _, ot, oh, hb⟩
    exact ⟨At, ct, some ⟨gh, 0, none⟩, m, 0, treeF m ars, homeF m ars, by rw [homeF_length], .inr ⟨hc, rfl, m, rfl, rfl, rfl⟩, rd_of_own ot, rd_of_own oh, hb⟩
  · refine (of_bad n ars A l c w hl hx hr hm hc).mono ?_
    rintro e w' ⟨rfl, hb⟩
    exact ⟨none, 0, none, 0, checkF n ars, [], [], rfl, .inl ⟨hc, rfl, rfl, rfl⟩, .inl rfl, .inl rfl, hb⟩

theorem cellsA_take (ars : List ArcV) : ∀ k, cellsA (ars.take k) = (cellsA ars).take (k * 5) := by
  induction ars with
  | nil => intro k; simp [cellsA]
  | cons a ars ih =>
    intro k
    match k with
    | 0 => simp [cellsA]
    | k + 1 => rw [List.take_succ_cons, cellsA_cons, cellsA_cons, ih k, show (k + 1) * 5 = a.cells.length + k * 5 by simp [ArcV.cells]; omega, List.take_length_add_append]
theorem Rd.takeA {w : World} {B : Nat} {A : Option Addr} {ars : List ArcV} (h : Rd w B A (cellsA ars)) (k : Nat) : Rd w B A (cellsA (ars.take k)) := by
  rcases h with h | ⟨b, off, ha, hb, hc⟩
  · left; rw [cellsA_take, h]; simp
  · refine .inr ⟨b, off, ha, hb, fun j u hu => hc j u ?_⟩
    rw [cellsA_take, List.getElem?_take] at hu
    split at hu
    · exact hu
    · cases hu
theorem arcsF_take (n : Int) : ∀ (ars : List ArcV) (k : Nat), arcsF n ars = 0 → arcsF n (ars.take k) = 0
  | [], k, _ => by simp [arcsF]
  | a :: ars, 0, _ => rfl
  | a :: ars, k + 1, h => by
    rw [arcsF] at h
    rw [List.take_succ_cons, arcsF]
    by_cases ha : arcF n a = 0
    · rw [if_pos ha] at h ⊢; exact arcsF_take n ars k h
    · rw [if_neg ha] at h; exact absurd h ha
theorem checkF_take {n : Int} {ars : List ArcV} (k : Nat) (h : checkF n ars = 0) : checkF n (ars.take k) = 0 := by
  unfold checkF at h ⊢
  split at h
  · cases h
  · rename_i h1
    rw [if_neg h1]
    split at h
    · cases h
    · rename_i h2
      rw [if_neg (by rw [List.length_take]; omega)]
      exact arcsF_take n ars k h
/-- arc by arc, in two parts -/
theorem forestGo_app : ∀ (xs ys : List ArcV) (i : Nat) (up tr : List Int), forestGo i up tr (xs ++ ys) = forestGo (i + xs.length) (forestGo i up tr xs).1 (forestGo i up tr xs).2 ys
  | [], ys, i, up, tr => rfl
  | x :: xs, ys, i, up, tr => by
    rw [List.cons_append, forestGo, forestGo, List.length_cons]
    split
    · rw [forestGo_app, show i + 1 + xs.length = i + (xs.length + 1) by omega]
    · rw [forestGo_app, show i + 1 + xs.length = i + (xs.length + 1) by omega]
/-- what comes on is numbered from there on -/
theorem forestGo_new : ∀ (xs : List ArcV) (i : Nat) (up tr : List Int), ∃ new, (forestGo i up tr xs).2 = tr ++ new ∧ ∀ x ∈ new, (i : Int) ≤ x ∧ x < ((i + xs.length : Nat) : Int)
  | [], i, up, tr => ⟨[], by simp [forestGo], fun _ h => by cases h⟩
  | x :: xs, i, up, tr => by
    rw [forestGo, List.length_cons]
    split
    · obtain ⟨new, h1, h2⟩ := forestGo_new xs (i + 1) up tr
      exact ⟨new, h1, fun y hy => by have := h2 y hy; omega⟩
    · obtain ⟨new, h1, h2⟩ := forestGo_new xs (i + 1) (up.set (max (root up x.f.toNat) (root up x.t.toNat)) (min (root up x.f.toNat) (root up x.t.toNat) : Nat)) (tr ++ [(i : Int)])
      refine ⟨(i : Int) :: new, by rw [h1, List.append_assoc]; rfl, fun y hy => ?_⟩
      rcases List.mem_cons.1 hy with rfl | hy
      · omega
      · have := h2 y hy; omega
theorem treeF_take (n : Nat) (ars : List ArcV) (k : Nat) (hk : k ≤ ars.length) : (treeF n ars).filter (fun x => decide (x < (k : Int))) = treeF n (ars.take k) := by
  have e : treeF n ars = (forestGo 0 (selfs n) [] (ars.take k ++ ars.drop k)).2 := by rw [List.take_append_drop]; rfl
  rw [e, forestGo_app]
  obtain ⟨new1, h1, h2⟩ := forestGo_new (ars.take k) 0 (selfs n) []
  have e1 : treeF n (ars.take k) = new1 := by unfold treeF; rw [h1]; rfl
  obtain ⟨new2, h3, h4⟩ := forestGo_new (ars.drop k) (0 + (ars.take k).length) (forestGo 0 (selfs n) [] (ars.take k)).1 (forestGo 0 (selfs n) [] (ars.take k)).2
  have hl : (ars.take k).length = k := by rw [List.length_take]; omega
  rw [h3, h1, e1, List.nil_append, List.filter_append, List.filter_eq_self.2, List.filter_eq_nil_iff.2, List.append_nil]
  · intro x hx
    have := h4 x hx
    simp; omega
  · intro x hx
    have := h2 x hx
    simp; omega
end Go.Proofs.Yteokomepcgkddaa
