/-
  Products, orders and wholes of fractions: plain numbers, no program in sight.
-/
import Derived.Test.YtblkcdenmgkddaaDoorKp
import Derived.Test.YtblkcdenmgkddaaDoorWl
namespace Go.Proofs.YtblkcdenmgkddaaDoor

/-- a fraction's two numbers -/
structure Fr where
  n : Int
  d : Int
def Fr.valid (f : Fr) : Bool := validB f.n f.d
def Fr.fit (f : Fr) : Prop := fits f.n ∧ fits f.d
theorem Fr.ext_ {f g : Fr} (h : f.n = g.n) (h' : f.d = g.d) : f = g := by cases f; cases g; simp at h h'; subst h h'; rfl
/-- n over d, or an error -/
def newR (n d : Int) : Fr × Int := if d = 0 then (⟨0, 0⟩, 20) else if (okB (newN n d) && okB (newD n d)) = true then (⟨newN n d, newD n d⟩, 0) else (⟨0, 0⟩, 4)
/-- two factors -/
def mul2 (a b : Fr) : Fr := ⟨newN a.n b.d * newN b.n a.d, newD a.n b.d * newD b.n a.d⟩
/-- from the left to the right, on from a -/
def mulGo (a : Fr) : List Fr → Fr × Int
  | [] => (a, 0)
  | x :: xs => if (okB (mul2 a x).n && okB (mul2 a x).d) = true then mulGo (mul2 a x) xs else (⟨0, 0⟩, 4)
def mulR (fs : List Fr) : Fr × Int := if fs.all Fr.valid = true then mulGo ⟨1, 1⟩ fs else (⟨0, 0⟩, 1)
def invR (f : Fr) : Fr × Int := if f.valid = true then newR f.d f.n else (⟨0, 0⟩, 1)
def cmpR (a b : Fr) : Int × Int := if a.valid = true ∧ b.valid = true then (cmpI (a.n * b.d) (b.n * a.d), 0) else (0, 1)

theorem Fr.pos {f : Fr} (h : f.valid = true) : 0 < f.d := (validB_iff.1 h).1
theorem Fr.cop {f : Fr} (h : f.valid = true) : Nat.Coprime f.n.natAbs f.d.natAbs := (validB_iff.1 h).2
theorem newR_ok {n d : Int} {f : Fr} (h : newR n d = (f, 0)) : d ≠ 0 ∧ f = ⟨newN n d, newD n d⟩ ∧ f.fit := by
  unfold newR at h
  by_cases hd : d = 0
  · rw [if_pos hd] at h; simp at h
  · rw [if_neg hd] at h
    split at h
    · rename_i h2
      simp only [Prod.mk.injEq, and_true] at h
      rw [Bool.and_eq_true, okB_iff, okB_iff] at h2
      exact ⟨hd, h.symm, by rw [← h]; exact h2⟩
    · simp at h
theorem newR_err (n d : Int) : (newR n d).2 = 0 ∨ ((newR n d).2 = 20 ∧ d = 0 ∧ (newR n d).1 = ⟨0, 0⟩) ∨ ((newR n d).2 = 4 ∧ d ≠ 0 ∧ (newR n d).1 = ⟨0, 0⟩) := by
  unfold newR
  by_cases hd : d = 0
  · rw [if_pos hd]; exact .inr (.inl ⟨rfl, hd, rfl⟩)
  · rw [if_neg hd]
    split
    · exact .inl rfl
    · exact .inr (.inr ⟨rfl, hd, rfl⟩)
/-- what is valid is answered by its own numbers, and what is not is not -/
theorem newR_self {n d : Int} (hn : fits n) (hd : fits d) : validB n d = true ↔ newR n d = (⟨n, d⟩, 0) := by
  constructor
  · intro h
    obtain ⟨h0, _⟩ := validB_iff.1 h
    obtain ⟨h1, h2⟩ := new_same h
    unfold newR
    rw [if_neg (by omega), h1, h2, if_pos (by rw [okB_iff.2 hn, okB_iff.2 hd]; rfl)]
  · intro h
    obtain ⟨h0, h1, _⟩ := newR_ok h
    have h2 : n = newN n d := congrArg Fr.n h1
    have h3 : d = newD n d := congrArg Fr.d h1
    have h4 := new_valid (n := n) h0
    rw [← h2, ← h3] at h4
    exact h4

theorem mul2_worth {a b : Fr} (ha : a.valid = true) (hb : b.valid = true) : (mul2 a b).n * (a.d * b.d) = a.n * b.n * (mul2 a b).d := by
  have h1 := new_worth (n := a.n) (d := b.d) (by have := Fr.pos hb; omega)
  have h2 := new_worth (n := b.n) (d := a.d) (by have := Fr.pos ha; omega)
  show newN a.n b.d * newN b.n a.d * (a.d * b.d) = a.n * b.n * (newD a.n b.d * newD b.n a.d)
  calc newN a.n b.d * newN b.n a.d * (a.d * b.d) = newN a.n b.d * b.d * (newN b.n a.d * a.d) := by
        rw [Int.mul_comm a.d b.d, ← Int.mul_assoc, Int.mul_assoc (newN a.n b.d), Int.mul_comm (newN b.n a.d) b.d, ← Int.mul_assoc, Int.mul_assoc]
    _ = a.n * newD a.n b.d * (b.n * newD b.n a.d) := by rw [h1, h2]
    _ = a.n * b.n * (newD a.n b.d * newD b.n a.d) := by
        rw [Int.mul_assoc, ← Int.mul_assoc (newD a.n b.d), Int.mul_comm (newD a.n b.d) b.n, Int.mul_assoc b.n, ← Int.mul_assoc]
theorem mul2_valid {a b : Fr} (ha : a.valid = true) (hb : b.valid = true) : (mul2 a b).valid = true := by
  have pa := Fr.pos ha
  have pb := Fr.pos hb
  refine validB_iff.2 ⟨Int.mul_pos (newD_pos (by omega)) (newD_pos (by omega)), ?_⟩
  show Nat.gcd (newN a.n b.d * newN b.n a.d).natAbs (newD a.n b.d * newD b.n a.d).natAbs = 1
  rw [Int.natAbs_mul, Int.natAbs_mul]
  have c1 : Nat.Coprime (newN a.n b.d).natAbs (newD a.n b.d).natAbs := (validB_iff.1 (new_valid (by omega))).2
  have c2 : Nat.Coprime (newN b.n a.d).natAbs (newD b.n a.d).natAbs := (validB_iff.1 (new_valid (by omega))).2
  have dv : ∀ n d : Int, (newN n d).natAbs ∣ n.natAbs ∧ (newD n d).natAbs ∣ d.natAbs := fun n d => by
    rw [newN_abs, newD_abs]; exact ⟨Nat.div_dvd_of_dvd (Nat.gcd_dvd_left _ _), Nat.div_dvd_of_dvd (Nat.gcd_dvd_right _ _)⟩
  have c3 : Nat.Coprime (newN a.n b.d).natAbs (newD b.n a.d).natAbs := ((Fr.cop ha).coprime_dvd_left (dv _ _).1).coprime_dvd_right (dv _ _).2
  have c4 : Nat.Coprime (newN b.n a.d).natAbs (newD a.n b.d).natAbs := ((Fr.cop hb).coprime_dvd_left (dv _ _).1).coprime_dvd_right (dv _ _).2
  exact Nat.Coprime.mul_left (Nat.Coprime.mul_right c1 c3) (Nat.Coprime.mul_right c4 c2)
/-- a valid fraction is told by what it is worth -/
theorem Fr.uniq {f g : Fr} (hf : f.valid = true) (hg : g.valid = true) (h : f.n * g.d = g.n * f.d) : f = g := by
  obtain ⟨h1, h2⟩ := valid_uniq hf hg h
  exact Fr.ext_ h1 h2
end Go.Proofs.YtblkcdenmgkddaaDoor
