/-
  The document's answers for Sum, Dot and Lcm: what the code's answer is, by the whole numbers.
-/
import Derived.Test.YtblkcdenmgkddaaDoorWk
import Derived.Test.YtblkcdenmgkddaaDoorIkp
namespace Go.Proofs.YtblkcdenmgkddaaDoor
open Go.RowKit
attribute [local go_sem ↓] Go.wp_at_zero Go.wp_at_succ


theorem keep2 {w wc w' : World} {b o b' o' : Nat} {u v : Value} (hbm : Below wc.heap.size wc w') (h : Below w.heap.size w wc) (h1 : wc.cell? ⟨b, o, none⟩ = some u) (h2 : wc.cell? ⟨b', o', none⟩ = some v) (hb : b < w.heap.size) (hb' : b' < w.heap.size) :
    Below w.heap.size w w' ∧ w'.cell? ⟨b, o, none⟩ = some u ∧ w'.cell? ⟨b', o', none⟩ = some v :=
  ⟨h.trans (hbm.mono h.size), (hbm.cell (p := ⟨b, o, none⟩) (Nat.lt_of_lt_of_le hb h.size)).trans h1, (hbm.cell (p := ⟨b', o', none⟩) (Nat.lt_of_lt_of_le hb' h.size)).trans h2⟩



theorem lcm_alt (m n : Nat) : m * (n / Nat.gcd m n) = m / Nat.gcd m n * n := by
  rw [lcm_of]
  unfold Nat.lcm
  exact (Nat.mul_div_assoc m (Nat.gcd_dvd_right m n)).symm
theorem lcmGo_step {m : Nat} {x : Int} {xs : List Int} {q : Nat} (hx : x ≠ 0) (hq : x.natAbs / Nat.gcd m x.natAbs = q) (hz : zeroF xs = false) :
    lcmGo m true (x :: xs) = if okB ((m : Int) * (q : Int)) = true then lcmGo (m * q) true xs else (0, false) := by
  have he : m / Nat.gcd m x.natAbs * x.natAbs = m * q := by rw [← hq, lcm_alt]
  rw [lcmGo, if_neg hx, if_neg (by simp), he, ← Int.natCast_mul]
  cases ho : okB ((m * q : Nat) : Int)
  · rw [lcmGo_false _ _ hz, if_neg (by simp)]
  · have hf := okB_iff.1 ho
    unfold fits at hf
    rw [if_pos rfl, Nat.mod_eq_of_lt (by omega)]

end Go.Proofs.YtblkcdenmgkddaaDoor
