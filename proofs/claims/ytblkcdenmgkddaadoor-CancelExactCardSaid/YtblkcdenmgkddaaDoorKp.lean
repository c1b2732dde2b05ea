/-
  Fractions in lowest terms: plain numbers, no program in sight.
-/
import Derived.Lib.Hide
namespace Go.Proofs.YtblkcdenmgkddaaDoor

/-- is n over d in lowest terms -/
def validB (n d : Int) : Bool := decide (0 < d ∧ Nat.gcd n.natAbs d.natAbs = 1)
theorem validB_iff {n d : Int} : validB n d = true ↔ 0 < d ∧ Nat.gcd n.natAbs d.natAbs = 1 := by unfold validB; exact decide_eq_true_iff
/-- a size with a sign -/
def sgnI (b : Bool) (k : Nat) : Int := if b = true then -(k : Int) else k
/-- n over d: what stands above, what stands below -/
def newN (n d : Int) : Int := sgnI (decide (n < 0) != decide (d < 0)) (n.natAbs / Nat.gcd n.natAbs d.natAbs)
def newD (n d : Int) : Int := ((d.natAbs / Nat.gcd n.natAbs d.natAbs : Nat) : Int)

theorem gcd_pos {n d : Int} (h : d ≠ 0) : 0 < Nat.gcd n.natAbs d.natAbs := Nat.gcd_pos_of_pos_right _ (by omega)
theorem newD_pos {n d : Int} (h : d ≠ 0) : 0 < newD n d := by
  unfold newD
  have := Nat.div_pos (Nat.gcd_le_right n.natAbs (show 0 < d.natAbs by omega)) (gcd_pos (n := n) h)
  omega
theorem newN_abs (n d : Int) : (newN n d).natAbs = n.natAbs / Nat.gcd n.natAbs d.natAbs := by
  unfold newN sgnI; generalize n.natAbs / Nat.gcd n.natAbs d.natAbs = k; split <;> omega
theorem newD_abs (n d : Int) : (newD n d).natAbs = d.natAbs / Nat.gcd n.natAbs d.natAbs := by unfold newD; generalize d.natAbs / Nat.gcd n.natAbs d.natAbs = k; omega
theorem new_valid {n d : Int} (h : d ≠ 0) : validB (newN n d) (newD n d) = true := by
  refine validB_iff.2 ⟨newD_pos h, ?_⟩
  rw [newN_abs, newD_abs]
  exact Nat.gcd_div_gcd_div_gcd_of_pos_right (by omega)
/-- it is worth n over d -/
theorem new_worth {n d : Int} (h : d ≠ 0) : newN n d * d = n * newD n d := by
  obtain ⟨g, hg⟩ : ∃ g, Nat.gcd n.natAbs d.natAbs = g := ⟨_, rfl⟩
  have hg0 : 0 < g := hg ▸ gcd_pos h
  obtain ⟨a, ha⟩ : g ∣ n.natAbs := hg ▸ Nat.gcd_dvd_left _ _
  obtain ⟨b, hb⟩ : g ∣ d.natAbs := hg ▸ Nat.gcd_dvd_right _ _
  have hN : newN n d = sgnI (decide (n < 0) != decide (d < 0)) a := by unfold newN; rw [hg, ha, Nat.mul_div_cancel_left _ hg0]
  have hD : newD n d = b := by unfold newD; rw [hg, hb, Nat.mul_div_cancel_left _ hg0]
  have hn : n = sgnI (decide (n < 0)) (g * a) := by unfold sgnI; rw [← ha]; split <;> rename_i h1 <;> simp at h1 <;> omega
  have hd : d = sgnI (decide (d < 0)) (g * b) := by unfold sgnI; rw [← hb]; split <;> rename_i h1 <;> simp at h1 <;> omega
  rw [hN, hD]
  generalize decide (n < 0) = s at hn ⊢
  generalize decide (d < 0) = t at hd ⊢
  subst hn hd
  have e : (a : Int) * ((g : Int) * b) = (g : Int) * a * b := by rw [← Int.mul_assoc, Int.mul_comm (a : Int) g]
  cases s <;> cases t <;> simp [sgnI, Int.natCast_mul, Int.neg_mul, Int.mul_neg, e]
/-- two in lowest terms that are worth the same are the same -/
theorem valid_uniq {a b c e : Int} (h : validB a b = true) (h' : validB c e = true) (hx : a * e = c * b) : a = c ∧ b = e := by
  obtain ⟨hb, hg⟩ := validB_iff.1 h
  obtain ⟨he, hg'⟩ := validB_iff.1 h'
  have hn : a.natAbs * e.natAbs = c.natAbs * b.natAbs := by rw [← Int.natAbs_mul, ← Int.natAbs_mul, hx]
  have d1 : b.natAbs ∣ e.natAbs := by
    refine (Nat.Coprime.symm hg).dvd_of_dvd_mul_left ?_
    exact ⟨c.natAbs, by rw [hn, Nat.mul_comm]⟩
  have d2 : e.natAbs ∣ b.natAbs := by
    refine (Nat.Coprime.symm hg').dvd_of_dvd_mul_left ?_
    exact ⟨a.natAbs, by rw [← hn, Nat.mul_comm]⟩
  have hbe : b = e := by have := Nat.dvd_antisymm d1 d2; omega
  subst hbe
  exact ⟨Int.eq_of_mul_eq_mul_right (by omega) hx, rfl⟩
theorem new_same {n d : Int} (h : validB n d = true) : newN n d = n ∧ newD n d = d := by
  obtain ⟨hd, _⟩ := validB_iff.1 h
  exact valid_uniq (new_valid (by omega)) h (new_worth (by omega))
end Go.Proofs.YtblkcdenmgkddaaDoor
