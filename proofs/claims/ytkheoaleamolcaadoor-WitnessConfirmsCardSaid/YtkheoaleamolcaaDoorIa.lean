/-
  The walks of ints.Add, ints.Sub, ints.size, bits.Mul64, ints.Mul and bits.TrailingZeros64: each returns the plain function's answer, for all numbers, and leaves the world as it was; TrailingZeros64 where the table of bits holds what its initialiser lays.
-/
import Derived.Test.YtkheoaleamolcaaDoorProg
import Derived.WalkKit
import Derived.Lib.Mul64
import Derived.Lib.TrailingZeros
import Derived.Laws.Bits64b
import Derived.Lib.Hide
namespace Go.Proofs.YtkheoaleamolcaaDoor
open Go.RowKit

/-- a number of 64 bits -/
def fits (n : Int) : Prop := -9223372036854775808 ≤ n ∧ n ≤ 9223372036854775807
/-- a number, if it fits; whether it does -/
def okOf (n : Int) : Int := if -9223372036854775808 ≤ n ∧ n ≤ 9223372036854775807 then n else 0
def okB (n : Int) : Bool := decide (-9223372036854775808 ≤ n ∧ n ≤ 9223372036854775807)
theorem okOf_fits (n : Int) : fits (okOf n) := by
  unfold okOf fits; split <;> omega
theorem val_yes {n : Int} (h : fits n) : n = okOf n := by unfold fits at h; unfold okOf; rw [if_pos h]
theorem val_no {n : Int} (h : ¬ fits n) : 0 = okOf n := by unfold fits at h; unfold okOf; rw [if_neg h]
theorem b_yes {n : Int} (h : fits n) : true = okB n := by unfold fits at h; unfold okB; exact (decide_eq_true h).symm
theorem b_no {n : Int} (h : ¬ fits n) : false = okB n := by unfold fits at h; unfold okB; exact (decide_eq_false h).symm
theorem okB_iff {n : Int} : okB n = true ↔ fits n := by unfold okB fits; exact decide_eq_true_iff
theorem tup2 {a b : Int} {c d : Bool} (h : a = b) (h' : c = d) : Ending.returned (.tuple #[.int .i64 a, .bool c]) = .returned (.tuple #[.int .i64 b, .bool d]) := by rw [h, h']
theorem ret1 {k : IntKind} {a b : Int} (h : a = b) : Ending.returned (.int k a) = .returned (.int k b) := by rw [h]



theorem size_any (a : Int) (w : World) (ha : fits a) :
    Calls Tryd.prog 45 #[.int .i64 a] w fun e w' => e = .returned (.int .u64 (a.natAbs : Int)) ∧ w = w' := by
  unfold fits at ha
  go_enter Tryd.func45, Tryd.ntmps45
  go_wp2
  all_goals go_ret
  all_goals (refine ⟨ret1 ?_, rfl⟩)
  · rw [IntKind.wrap_u64, IntKind.wrap_u64]; omega
  · omega

theorem maskN (a : Nat) (ha : a < 18446744073709551616) : bits .and .u64 (a : Int) 4294967295 = ((a % 4294967296 : Nat) : Int) := by
  have h := bits_and_u64_nat a 4294967295 ha (by omega)
  have e : a &&& 4294967295 = a % 4294967296 := Nat.and_two_pow_sub_one_eq_mod a 32
  rw [e] at h
  exact h
theorem divN (a : Nat) : (a : Int) / 4294967296 = ((a / 4294967296 : Nat) : Int) := by omega
theorem mulN (a b : Nat) : (a : Int) * (b : Int) = ((a * b : Nat) : Int) := (Int.natCast_mul a b).symm
theorem addN (a b : Nat) : (a : Int) + (b : Int) = ((a + b : Nat) : Int) := (Int.natCast_add a b).symm
theorem wrapN (a : Nat) (ha : a < 18446744073709551616) : IntKind.u64.wrap (a : Int) = (a : Int) := by rw [IntKind.wrap_u64]; omega
theorem wrapM (a : Nat) : IntKind.u64.wrap (a : Int) = ((a % 18446744073709551616 : Nat) : Int) := by rw [IntKind.wrap_u64]; omega


theorem mul_sign (a b : Int) : ((!decide (a < 0) == decide (b < 0)) = false → a * b = (a.natAbs : Int) * b.natAbs) ∧ ((!decide (a < 0) == decide (b < 0)) = true → a * b = -((a.natAbs : Int) * b.natAbs)) ∧ (0 : Int) ≤ (a.natAbs : Int) * b.natAbs := by
  refine ⟨?_, ?_, Int.mul_nonneg (by omega) (by omega)⟩
  · intro h
    by_cases h1 : a < 0 <;> by_cases h2 : b < 0 <;> simp [h1, h2] at h
    · obtain ⟨x, hx⟩ : ∃ x : Nat, a = -x := ⟨a.natAbs, by omega⟩
      obtain ⟨y, hy⟩ : ∃ y : Nat, b = -y := ⟨b.natAbs, by omega⟩
      subst hx hy; simp [Int.neg_mul_neg]
    · obtain ⟨x, hx⟩ : ∃ x : Nat, a = x := ⟨a.natAbs, by omega⟩
      obtain ⟨y, hy⟩ : ∃ y : Nat, b = y := ⟨b.natAbs, by omega⟩
      subst hx hy; simp
  · intro h
    by_cases h1 : a < 0 <;> by_cases h2 : b < 0 <;> simp [h1, h2] at h
    · obtain ⟨x, hx⟩ : ∃ x : Nat, a = -x := ⟨a.natAbs, by omega⟩
      obtain ⟨y, hy⟩ : ∃ y : Nat, b = y := ⟨b.natAbs, by omega⟩
      subst hx hy; simp [Int.neg_mul]
    · obtain ⟨x, hx⟩ : ∃ x : Nat, a = x := ⟨a.natAbs, by omega⟩
      obtain ⟨y, hy⟩ : ∃ y : Nat, b = -y := ⟨b.natAbs, by omega⟩
      subst hx hy; simp [Int.mul_neg]
section
variable {a b : Int}
theorem mul_w1 (h : ((a.natAbs : Int) * b.natAbs / 18446744073709551616 != 0) = true) : ¬ fits (a * b) := by
  obtain ⟨h1, h2, h0⟩ := mul_sign a b
  unfold fits
  simp only [bne_iff_ne, ne_eq] at h
  cases hs : (!decide (a < 0) == decide (b < 0))
  · rw [h1 hs]; omega
  · rw [h2 hs]; omega
theorem mul_w2 (h : ((a.natAbs : Int) * b.natAbs / 18446744073709551616 != 0) = false) (hs : (!decide (a < 0) == decide (b < 0)) = true) (hl : 9223372036854775808 < (a.natAbs : Int) * b.natAbs % 18446744073709551616) : ¬ fits (a * b) := by
  obtain ⟨h1, h2, h0⟩ := mul_sign a b
  unfold fits
  simp only [bne_eq_false_iff_eq] at h
  rw [h2 hs]; omega
theorem mul_w3 (h : ((a.natAbs : Int) * b.natAbs / 18446744073709551616 != 0) = false) (hs : (!decide (a < 0) == decide (b < 0)) = true) (hl : (a.natAbs : Int) * b.natAbs % 18446744073709551616 ≤ 9223372036854775808) :
    fits (a * b) ∧ wrap64 (IntKind.u64.wrap (-((a.natAbs : Int) * b.natAbs % 18446744073709551616))) = a * b := by
  obtain ⟨h1, h2, h0⟩ := mul_sign a b
  unfold fits wrap64
  rw [IntKind.wrap_u64]
  simp only [bne_eq_false_iff_eq] at h
  rw [h2 hs]; omega
theorem mul_w4 (h : ((a.natAbs : Int) * b.natAbs / 18446744073709551616 != 0) = false) (hs : (!decide (a < 0) == decide (b < 0)) = false) (hl : 9223372036854775807 < (a.natAbs : Int) * b.natAbs % 18446744073709551616) : ¬ fits (a * b) := by
  obtain ⟨h1, h2, h0⟩ := mul_sign a b
  unfold fits
  simp only [bne_eq_false_iff_eq] at h
  rw [h1 hs]; omega
theorem mul_w5 (h : ((a.natAbs : Int) * b.natAbs / 18446744073709551616 != 0) = false) (hs : (!decide (a < 0) == decide (b < 0)) = false) (hl : (a.natAbs : Int) * b.natAbs % 18446744073709551616 ≤ 9223372036854775807) :
    fits (a * b) ∧ (a.natAbs : Int) * b.natAbs % 18446744073709551616 = a * b := by
  obtain ⟨h1, h2, h0⟩ := mul_sign a b
  unfold fits
  simp only [bne_eq_false_iff_eq] at h
  rw [h1 hs]; omega
end


/-- the table of bits, in its variable -/
def Tab (w : World) : Prop := ∀ j, j < 64 → w.cell? ⟨0, j, none⟩ = some (.int .u8 (Lib.deBruijn64tab.getD j 0))

theorem tz_core (x k idx : Nat) (w : World) (hx0 : ((x : Int) == 0) = false)
    (key : IntKind.u64.wrap (bits BinOp.and IntKind.u64 (x : Int) (IntKind.u64.wrap (-(x : Int))) * 285870213051353865) / 288230376151711744 = (idx : Int))
    (hi : idx < 64) (hk : k < 64) (hcell : w.cell? ⟨0, idx, none⟩ = some (.int .u8 k)) :
    Calls Tryd.prog 46 #[.int .u64 x] w fun e w' => e = .returned (.int .i64 k) ∧ w = w' := by
  go_enter Tryd.func46, Tryd.ntmps46
  go_wp2_with (simp only [key])
  go_ret
  exact ⟨rfl, rfl⟩

theorem tz_key (x a : Nat) (hx : x < 18446744073709551616) (hx0 : x ≠ 0) (hlow : x &&& (18446744073709551616 - x) = a) :
    IntKind.u64.wrap (bits BinOp.and IntKind.u64 (x : Int) (IntKind.u64.wrap (-(x : Int))) * 285870213051353865) / 288230376151711744 = ((a * 285870213051353865 % 18446744073709551616 / 288230376151711744 : Nat) : Int) := by
  have e1 : IntKind.u64.wrap (-(x : Int)) = ((18446744073709551616 - x : Nat) : Int) := by rw [IntKind.wrap_u64]; omega
  rw [e1, bits_and_u64_nat x _ hx (by omega), hlow, IntKind.wrap_u64]
  omega

theorem tz_any (x : Nat) (hx : x < 18446744073709551616) (hx0 : x ≠ 0) (w : World) (hT : Tab w) :
    Calls Tryd.prog 46 #[.int .u64 x] w fun e w' => e = .returned (.int .i64 (Lib.ctz 64 x)) ∧ w = w' := by
  obtain ⟨hlow, hk⟩ := Lib.lowest_bit 64 x hx0 hx
  obtain ⟨hi, htab⟩ := Lib.deBruijn64_at _ hk
  have hcell := hT _ hi
  rw [htab] at hcell
  exact tz_core x _ _ w (by simp; omega) (tz_key x _ hx hx0 hlow) hi hk hcell
end Go.Proofs.YtkheoaleamolcaaDoor
