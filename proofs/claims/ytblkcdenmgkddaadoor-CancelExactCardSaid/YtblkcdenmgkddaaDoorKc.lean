/-
  frac.Valid, frac.right, frac.New; the references' Valid, All, New.
-/
import Derived.Test.YtblkcdenmgkddaaDoorKb
import Derived.Test.YtblkcdenmgkddaaDoorKq
import Derived.Defers
import Derived.Recover
import Derived.Laws.Pointers
namespace Go.Proofs.YtblkcdenmgkddaaDoor
open Go.RowKit

theorem quiet_drawn {P : Program} {f : FuncId} {args : Array Value} {w : World} {n : Nat} {v : Value}
    (h : Calls P f args (w.drewN n) fun e w' => e = .returned v ∧ Drawn (w.drewN n) w') : Calls P f args (w.drewN n) fun e w'' => e = .returned v ∧ ∃ m, w'' = w.drewN m :=
  h.mono fun _ _ ⟨he, m, hm⟩ => ⟨he, n + m, by rw [hm, World.drewN_drewN]⟩
theorem natAbs_lt {x : Int} (h : fits x) : x.natAbs < 18446744073709551616 := by unfold fits at h; omega


/-- the cells of a list of fractions -/
def Fr.cells (f : Fr) : List Value := [.int .i64 f.n, .int .i64 f.d]
def cellsF (fs : List Fr) : List Value := fs.flatMap Fr.cells
theorem cellsF_cons (f : Fr) (fs : List Fr) : cellsF (f :: fs) = f.cells ++ cellsF fs := rfl
theorem cellsF_length (fs : List Fr) : (cellsF fs).length = fs.length * 2 := by
  induction fs with
  | nil => rfl
  | cons a fs ih => rw [cellsF_cons, List.length_append, ih, List.length_cons]; simp [Fr.cells]; omega
theorem cellsF_append (a b : List Fr) : cellsF (a ++ b) = cellsF a ++ cellsF b := by simp [cellsF]
theorem cellsF_one (fs : List Fr) : ∀ u ∈ cellsF fs, u.oneCell' = true := by
  intro u hu
  obtain ⟨a, _, h⟩ := List.mem_flatMap.1 hu
  simp [Fr.cells] at h
  rcases h with rfl | rfl <;> rfl
theorem cellsF_at (fs : List Fr) : ∀ (k : Nat) (a : Fr), fs[k]? = some a → ∀ j u, a.cells[j]? = some u → (cellsF fs)[k * 2 + j]? = some u := by
  induction fs with
  | nil => intro k a h; simp at h
  | cons b fs ih =>
    intro k a h j u hu
    rw [cellsF_cons]
    match k, h with
    | 0, h =>
      simp at h
      subst h
      have hj : j < b.cells.length := (List.getElem?_eq_some_iff.1 hu).1
      rw [Nat.zero_mul, Nat.zero_add, List.getElem?_append_left hj]; exact hu
    | k + 1, h =>
      rw [List.getElem?_append_right (by simp [Fr.cells]; omega)]
      have e : (k + 1) * 2 + j - b.cells.length = k * 2 + j := by simp [Fr.cells]; omega
      rw [e]
      exact ih k a (by simpa using h) j u hu
theorem Rd.fr {w : World} {B : Nat} {A : Option Addr} {fs : List Fr} {k : Nat} (h : Rd w B A (cellsF fs)) (hx : ∀ a ∈ fs, a.fit) (hk : k < fs.length) :
    ∃ b off a, A = some ⟨b, off, none⟩ ∧ b < B ∧ a.fit ∧ w.cell? ⟨b, off + k * 2, none⟩ = some (.int .i64 a.n) ∧ w.cell? ⟨b, off + k * 2 + 1, none⟩ = some (.int .i64 a.d) ∧ Hid (fs.drop k = a :: fs.drop (k + 1)) ∧ Hid (fs[k]? = some a) := by
  rcases h with h | ⟨b, off, ha, hb, hc⟩
  · have := cellsF_length fs; rw [h] at this; simp at this; omega
  · have hg : fs[k]? = some fs[k] := List.getElem?_eq_getElem hk
    have at_ : ∀ j u, fs[k].cells[j]? = some u → w.cell? ⟨b, off + (k * 2 + j), none⟩ = some u := fun j u hu' => hc (k * 2 + j) u (cellsF_at fs k fs[k] hg j u hu')
    refine ⟨b, off, fs[k], ha, hb, hx _ (List.getElem_mem _), ?_, ?_, List.drop_eq_getElem_cons hk, hg⟩
    · have := at_ 0 _ rfl; simpa [Nat.add_assoc] using this
    · have := at_ 1 _ rfl; simpa [Nat.add_assoc] using this



end Go.Proofs.YtblkcdenmgkddaaDoor
