/-
  Plain arithmetic of the greatest common divisor by halves; no program in sight.
-/
import Derived.Lib.TrailingZeros
namespace Go.Proofs.YtkheoaleamolcaaDoor
open Go

theorem coprime_two_pow {p : Nat} (k : Nat) (hp : p % 2 = 1) : Nat.Coprime (2 ^ k) p := by
  apply Nat.Coprime.pow_left
  show Nat.gcd 2 p = 1
  rw [Nat.gcd_rec, hp]; decide

theorem ctz_split {x : Nat} (hx : x < 18446744073709551616) (h0 : x ≠ 0) : ∃ m, x = 2 ^ Lib.ctz 64 x * (2 * m + 1) ∧ Lib.ctz 64 x < 64 := by
  unfold Lib.ctz; rw [if_neg h0]
  exact Lib.ctzFrom_spec 64 x (by omega) hx

theorem ctz_shr {x : Nat} (hx : x < 18446744073709551616) (h0 : x ≠ 0) :
    ∃ m : Nat, (x : Int) / 2 ^ min (Lib.ctz 64 x) 64 = (m : Int) ∧ m % 2 = 1 ∧ x = 2 ^ Lib.ctz 64 x * m ∧ m ≤ x ∧ 0 < m := by
  obtain ⟨m, hm, hk⟩ := ctz_split hx h0
  have hp : 0 < 2 ^ Lib.ctz 64 x := Nat.pow_pos (by decide)
  refine ⟨2 * m + 1, ?_, by omega, hm, ?_, by omega⟩
  · rw [Nat.min_eq_left (by omega)]
    have : x / 2 ^ Lib.ctz 64 x = 2 * m + 1 := Nat.div_eq_of_eq_mul_right hp hm
    rw [← this]
    simp [Int.natCast_ediv, Int.natCast_pow]
  · rw [hm]; exact Nat.le_mul_of_pos_left _ hp

theorem ctz_unique {x i m : Nat} (hx : x < 18446744073709551616) (h : x = 2 ^ i * m) (hm : m % 2 = 1) : Lib.ctz 64 x = i := by
  have h0 : x ≠ 0 := by
    rw [h]; exact Nat.mul_ne_zero (Nat.ne_of_gt (Nat.pow_pos (by decide))) (by omega)
  obtain ⟨n, hn, _⟩ := ctz_split hx h0
  generalize Lib.ctz 64 x = j at hn
  rcases Nat.lt_trichotomy j i with hl | hl | hl
  · exfalso
    obtain ⟨d, rfl⟩ : ∃ d, i = j + (d + 1) := ⟨i - j - 1, by omega⟩
    rw [Nat.pow_add, Nat.mul_assoc] at h
    have : 2 * n + 1 = 2 ^ (d + 1) * m := Nat.eq_of_mul_eq_mul_left (Nat.pow_pos (by decide : 0 < 2)) (hn.symm.trans h)
    rw [Nat.pow_succ, Nat.mul_right_comm] at this; omega
  · exact hl
  · exfalso
    obtain ⟨d, rfl⟩ : ∃ d, j = i + (d + 1) := ⟨j - i - 1, by omega⟩
    rw [Nat.pow_add, Nat.mul_assoc] at hn
    have : m = 2 ^ (d + 1) * (2 * n + 1) := Nat.eq_of_mul_eq_mul_left (Nat.pow_pos (by decide : 0 < 2)) (h.symm.trans hn)
    rw [Nat.pow_succ, Nat.mul_right_comm] at this; omega

/-- the low bits of 'or' -/
theorem or_low {x y i j a b : Nat} (hx : x = 2 ^ i * a) (hy : y = 2 ^ j * b) (ha : a % 2 = 1) (hb : b % 2 = 1) :
    ∃ m, x ||| y = 2 ^ min i j * m ∧ m % 2 = 1 := by
  have key : ∀ {i d a b : Nat}, a % 2 = 1 → b % 2 = 1 → ∃ m, (2 ^ i * a) ||| (2 ^ (i + d) * b) = 2 ^ i * m ∧ m % 2 = 1 := by
    intro i d a b ha hb
    refine ⟨a ||| 2 ^ d * b, ?_, ?_⟩
    · rw [Nat.pow_add, Nat.mul_assoc]
      apply Nat.eq_of_testBit_eq
      intro k
      simp only [Nat.testBit_or, Nat.testBit_two_pow_mul]
      cases decide (k ≥ i) <;> simp
    · rw [Nat.or_mod_two_eq_one]; left; exact ha
  rcases Nat.le_total i j with h | h
  · obtain ⟨d, rfl⟩ := Nat.exists_eq_add_of_le h
    rw [hx, hy, Nat.min_eq_left h]
    exact key ha hb
  · obtain ⟨d, rfl⟩ := Nat.exists_eq_add_of_le h
    rw [hx, hy, Nat.min_eq_right h, Nat.or_comm]
    exact key hb ha

theorem ctz_or {x y i j a b : Nat} (h : x ||| y < 18446744073709551616) (hx : x = 2 ^ i * a) (hy : y = 2 ^ j * b) (ha : a % 2 = 1) (hb : b % 2 = 1) : Lib.ctz 64 (x ||| y) = min i j := by
  obtain ⟨m, hm, h1⟩ := or_low hx hy ha hb
  exact ctz_unique h hm h1

theorem gcd_strip {p q k m : Nat} (hp : p % 2 = 1) (hq : q = 2 ^ k * m) : Nat.gcd p q = Nat.gcd p m := by
  rw [hq]; exact Nat.Coprime.gcd_mul_left_cancel_right _ (coprime_two_pow k hp)

/-- the whole: the odd part's divisor, put back -/
theorem gcd_halves {x y i j a b : Nat} (hx : x = 2 ^ i * a) (hy : y = 2 ^ j * b) (ha : a % 2 = 1) (hb : b % 2 = 1) : Nat.gcd x y = Nat.gcd a y * 2 ^ min i j := by
  have e : Nat.gcd a y = Nat.gcd a b := gcd_strip ha hy
  rw [e]
  rcases Nat.le_total i j with h | h
  · obtain ⟨d, rfl⟩ := Nat.exists_eq_add_of_le h
    rw [Nat.min_eq_left h, hx, hy, Nat.pow_add, Nat.mul_assoc, Nat.gcd_mul_left, Nat.mul_comm]
    congr 1
    exact gcd_strip ha rfl
  · obtain ⟨d, rfl⟩ := Nat.exists_eq_add_of_le h
    rw [Nat.min_eq_right h, hx, hy, Nat.pow_add, Nat.mul_assoc, Nat.gcd_mul_left, Nat.mul_comm]
    congr 1
    rw [Nat.gcd_comm, gcd_strip hb rfl, Nat.gcd_comm]

theorem gcd_less {p q : Nat} (h : p ≤ q) : Nat.gcd p (q - p) = Nat.gcd p q := by
  conv => rhs; rw [← Nat.sub_add_cancel h]
  simp
end Go.Proofs.YtkheoaleamolcaaDoor
