/-
  forest.Path's answer, whatever the net and the nodes.
-/
import Derived.Test.YteokomepcgkddaaFx
namespace Go.Proofs.Yteokomepcgkddaa
open Go.RowKit

/-- what forest.Path answers: an error's number and steps -/
def PathAns (n : Int) (ars : List ArcV) (s t k : Int) (p : List Stp) : Prop :=
  (checkF n ars ≠ 0 ∧ k = checkF n ars ∧ p = []) ∨
  (checkF n ars = 0 ∧ (s < 0 ∨ t < 0 ∨ n ≤ s ∨ n ≤ t) ∧ k = 100 ∧ p = []) ∨
  (checkF n ars = 0 ∧ ∃ m a b : Nat, n = m ∧ s = a ∧ t = b ∧ a < m ∧ b < m ∧ root (upF m ars) a ≠ root (upF m ars) b ∧ k = 110 ∧ p = []) ∨
  (checkF n ars = 0 ∧ ∃ m a b : Nat, n = m ∧ s = a ∧ t = b ∧ a < m ∧ b < m ∧ root (upF m ars) a = root (upF m ars) b ∧ k = 0 ∧ ∃ T, FInv m ars ars.length (upF m ars) (treeF m ars) T ∧ Walk T a p b ∧ Red p)
theorem tree_same {n : Nat} {ars : List ArcV} {T T' : List Edg} (h : FInv n ars ars.length (upF n ars) (treeF n ars) T) (h' : FInv n ars ars.length (upF n ars) (treeF n ars) T') {u v : Nat} {p : List Stp} (hp : Walk T u p v) : Walk T' u p v := by
  induction p generalizing u with
  | nil => exact hp
  | cons s p ih =>
    obtain ⟨m, h1, h2⟩ := hp
    exact ⟨m, (stepOk_iff h').2 ((stepOk_iff h).1 h1), ih h2⟩
theorem PathAns.one {n : Int} {ars : List ArcV} {s t k k' : Int} {p p' : List Stp} (h : PathAns n ars s t k p) (h' : PathAns n ars s t k' p') : k = k' ∧ p = p' := by
  rcases h with ⟨h1, h2, h3⟩ | ⟨h1, h2, h3, h4⟩ | ⟨h1, m, a, b, rfl, rfl, rfl, h2, h3, h4, h5, h6⟩ | ⟨h1, m, a, b, rfl, rfl, rfl, h2, h3, h4, h5, T, h6, h7, h8⟩ <;>
    rcases h' with ⟨g1, g2, g3⟩ | ⟨g1, g2, g3, g4⟩ | ⟨g1, m', a', b', e1, e2, e3, g2, g3, g4, g5, g6⟩ | ⟨g1, m', a', b', e1, e2, e3, g2, g3, g4, g5, T', g6, g7, g8⟩
  all_goals first
    | exact absurd h1 g1
    | exact absurd g1 h1
    | (exfalso; omega)
    | skip
  · exact ⟨h2.trans g2.symm, h3.trans g3.symm⟩
  · exact ⟨h3.trans g3.symm, h4.trans g4.symm⟩
  · exact ⟨h5.trans g5.symm, h6.trans g6.symm⟩
  · obtain rfl : m = m' := by omega
    obtain rfl : a = a' := by omega
    obtain rfl : b = b' := by omega
    exact absurd g4 h4
  · obtain rfl : m = m' := by omega
    obtain rfl : a = a' := by omega
    obtain rfl : b = b' := by omega
    exact absurd h4 g4
  · obtain rfl : m = m' := by omega
    obtain rfl : a = a' := by omega
    obtain rfl : b = b' := by omega
    exact ⟨h5.trans g5.symm, uniq h6.forest h7 (tree_same g6 h6 g7) h8 g8⟩
theorem turned_nil : turned [] = [] := rfl
theorem PathAns.turn {n : Int} {ars : List ArcV} {s t k : Int} {p : List Stp} (h : PathAns n ars s t k p) : PathAns n ars t s k (turned p) := by
  rcases h with ⟨h1, h2, h3⟩ | ⟨h1, h2, h3, h4⟩ | ⟨h1, m, a, b, h2, h3, h4, h5, h6, h7, h8, h9⟩ | ⟨h1, m, a, b, h2, h3, h4, h5, h6, h7, h8, T, h9, h10, h11⟩
  · exact .inl ⟨h1, h2, by rw [h3]; rfl⟩
  · exact .inr (.inl ⟨h1, by omega, h3, by rw [h4]; rfl⟩)
  · exact .inr (.inr (.inl ⟨h1, m, b, a, h2, h4, h3, h6, h5, fun he => h7 he.symm, h8, by rw [h9]; rfl⟩))
  · exact .inr (.inr (.inr ⟨h1, m, b, a, h2, h4, h3, h6, h5, h7.symm, h8, T, h9, h10.turn, h11.turn⟩))

/-- forest.Path -/
theorem path_any (n : Int) (ars : List ArcV) (A : Option Addr) (l c : Nat) (s t : Int) (w : World) (hl : ars.length = l) (hx : ∀ a ∈ ars, a.fit) (hr : Rd w w.heap.size A (cellsA ars)) (hm : l ≤ maxLen) (hs : fits s) (ht : fits t) :
    Calls Try.prog 17 #[.agg #[.int .i64 n, .slice A l c], .int .i64 s, .int .i64 t] w fun e w' => ∃ A' c' k p, e = .returned (.tuple #[.slice A' p.length c', .int .i64 k]) ∧ PathAns n ars s t k p ∧ Rd w' w'.heap.size A' (cellsS p) ∧ p.length ≤ 32 ∧ Below w.heap.size w w' := by
  by_cases hc : checkF n ars = 0
  · have hn : ∃ m : Nat, n = m := by
      refine ⟨n.toNat, ?_⟩
      unfold checkF at hc
      split at hc
      · cases hc
      · omega
    obtain ⟨m, rfl⟩ := hn
    by_cases hst : s < 0 ∨ t < 0 ∨ (m : Int) ≤ s ∨ (m : Int) ≤ t
    · exact (path_node m ars A l c s t w hl hx hr hm hc hs ht hst).mono fun e w' ⟨he, hb⟩ => ⟨none, 0, 100, [], he, .inr (.inl ⟨hc, hst, rfl, rfl⟩), .inl rfl, by simp, hb⟩
    · obtain ⟨a, rfl⟩ : ∃ a : Nat, s = a := ⟨s.toNat, by omega⟩
      obtain ⟨b, rfl⟩ : ∃ b : Nat, t = b := ⟨t.toNat, by omega⟩
      have ha : a < m := by omega
      have hb : b < m := by omega
      by_cases he : root (upF m ars) a = root (upF m ars) b
      · obtain ⟨T, hT⟩ := finv_end (checkF_ok hc).2.2.2
        exact (path_ok m ars A l c a b w T hT hl hx hr hm hc ha hb he).mono fun e w' ⟨A', c', p, h1, h2, h3, h4, h5, h6⟩ =>
          ⟨A', c', 0, p, h1, .inr (.inr (.inr ⟨hc, m, a, b, rfl, rfl, rfl, ha, hb, he, rfl, T, hT, h2, h3⟩)), rd_of_own h4, h6, h5⟩
      · exact (path_apart m ars A l c a b w hl hx hr hm hc ha hb he).mono fun e w' ⟨h1, h2⟩ => ⟨none, 0, 110, [], h1, .inr (.inr (.inl ⟨hc, m, a, b, rfl, rfl, rfl, ha, hb, he, rfl, rfl⟩)), .inl rfl, by simp, h2⟩
  · exact (path_bad n ars A l c s t w hl hx hr hm hc).mono fun e w' ⟨he, hb⟩ => ⟨none, 0, checkF n ars, [], he, .inl ⟨hc, rfl, rfl⟩, .inl rfl, by simp, hb⟩
end Go.Proofs.Yteokomepcgkddaa
