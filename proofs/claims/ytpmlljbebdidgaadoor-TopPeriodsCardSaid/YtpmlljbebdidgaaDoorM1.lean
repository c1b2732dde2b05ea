/-
  Ia, Ib, Ip, Ic, Id, Ie, Wp, Wa, Wb, Wc, Wd, We, Wf, Wg, Wh, Wi, Wj, Wk, If, Ii, Ba: texts pasted together.
-/
import Derived.Test.YtpmlljbebdidgaaDoorProg
import Derived.WalkKit
import Derived.Lib.Mul64
import Derived.Lib.TrailingZeros
import Derived.Laws.Bits64b
import Derived.Lib.Hide
import Derived.Outline
import Derived.BigQuiet
import Derived.Deep.QuietTactic
import Derived.Maps.AppendAt
import Derived.Deep.AppendLies
import Derived.Deep.LoopGhost
import Derived.Deep.DeepCutAuto
import Derived.Deep.RegionHeld3
import Derived.Deep.DrawnRows
import Derived.BigRegion
/-
  The walks of ints.Add, ints.Sub, ints.size, bits.Mul64, ints.Mul and bits.TrailingZeros64: each returns the plain function's answer, for all numbers, and leaves the world as it was; TrailingZeros64 where the table of bits holds what its initialiser lays.
-/
namespace Go.Proofs.YtpmlljbebdidgaaDoor
open Go.RowKit

/-- a number of 64 bits -/
def fits (n : Int) : Prop := -9223372036854775808 ≤ n ∧ n ≤ 9223372036854775807
/-- a number, if it fits; whether it does -/
def okOf (n : Int) : Int := if -9223372036854775808 ≤ n ∧ n ≤ 9223372036854775807 then n else 0
def okB (n : Int) : Bool := decide (-9223372036854775808 ≤ n ∧ n ≤ 9223372036854775807)
theorem okOf_fits (n : Int) : fits (okOf n) := by
  unfold okOf fits; split <;> omega
theorem val_yes {n : Int} (h : fits n) : n = okOf n := by unfold fits at h; unfold okOf; rw [if_pos h]
theorem val_no {n : Int} (h : ¬ fits n) : 0 = okOf n := by unfold fits at h; unfold okOf; rw [if_neg h]
theorem b_yes {n : Int} (h : fits n) : true = okB n := by unfold fits at h; unfold okB; exact (decide_eq_true h).symm
theorem b_no {n : Int} (h : ¬ fits n) : false = okB n := by unfold fits at h; unfold okB; exact (decide_eq_false h).symm
theorem okB_iff {n : Int} : okB n = true ↔ fits n := by unfold okB fits; exact decide_eq_true_iff
theorem tup2 {a b : Int} {c d : Bool} (h : a = b) (h' : c = d) : Ending.returned (.tuple #[.int .i64 a, .bool c]) = .returned (.tuple #[.int .i64 b, .bool d]) := by rw [h, h']
theorem ret1 {k : IntKind} {a b : Int} (h : a = b) : Ending.returned (.int k a) = .returned (.int k b) := by rw [h]



set_option maxRecDepth 100000 in
theorem size_any (a : Int) (w : World) (ha : fits a) :
    Calls Tryd.prog 58 #[.int .i64 a] w fun e w' => e = .returned (.int .u64 (a.natAbs : Int)) ∧ w = w' := by
  unfold fits at ha
  go_enter Tryd.func58, Tryd.ntmps58
  go_wp2
  all_goals go_ret
  all_goals (refine ⟨ret1 ?_, rfl⟩)
  · rw [IntKind.wrap_u64, IntKind.wrap_u64]; omega
  · omega

theorem maskN (a : Nat) (ha : a < 18446744073709551616) : bits .and .u64 (a : Int) 4294967295 = ((a % 4294967296 : Nat) : Int) := by
  have h := bits_and_u64_nat a 4294967295 ha (by omega)
  have e : a &&& 4294967295 = a % 4294967296 := Nat.and_two_pow_sub_one_eq_mod a 32
  rw [e] at h
  exact h
theorem divN (a : Nat) : (a : Int) / 4294967296 = ((a / 4294967296 : Nat) : Int) := by omega
theorem mulN (a b : Nat) : (a : Int) * (b : Int) = ((a * b : Nat) : Int) := (Int.natCast_mul a b).symm
theorem addN (a b : Nat) : (a : Int) + (b : Int) = ((a + b : Nat) : Int) := (Int.natCast_add a b).symm
theorem wrapN (a : Nat) (ha : a < 18446744073709551616) : IntKind.u64.wrap (a : Int) = (a : Int) := by rw [IntKind.wrap_u64]; omega
theorem wrapM (a : Nat) : IntKind.u64.wrap (a : Int) = ((a % 18446744073709551616 : Nat) : Int) := by rw [IntKind.wrap_u64]; omega

set_option maxRecDepth 100000 in
set_option maxHeartbeats 1000000 in
theorem mul64_any (x y : Nat) (hx : x < 18446744073709551616) (hy : y < 18446744073709551616) (w : World) :
    Calls Tryd.prog 56 #[.int .u64 x, .int .u64 y] w fun e w' => e = .returned (.tuple #[.int .u64 ((x * y / 18446744073709551616 : Nat) : Int), .int .u64 ((x * y % 18446744073709551616 : Nat) : Int)]) ∧ w = w' := by
  obtain ⟨bd, bt, bw, hhi⟩ := Lib.mul64_hi x y hx hy
  have ba := Lib.half_mul_le (a := x / 4294967296) (b := y / 4294967296) (by omega) (by omega)
  have bb := Lib.half_mul_le (a := x / 4294967296) (b := y % 4294967296) (by omega) (by omega)
  have bc := Lib.half_mul_le (a := x % 4294967296) (b := y / 4294967296) (by omega) (by omega)
  have ba' : x / 4294967296 * (y / 4294967296) < 18446744073709551616 := by omega
  have bb' : x / 4294967296 * (y % 4294967296) < 18446744073709551616 := by omega
  have bc' : x % 4294967296 * (y / 4294967296) < 18446744073709551616 := by omega
  have bh1 : x / 4294967296 * (y / 4294967296) + (x / 4294967296 * (y % 4294967296) + x % 4294967296 * (y % 4294967296) / 4294967296) / 4294967296 < 18446744073709551616 := by omega
  have bh : x / 4294967296 * (y / 4294967296) + (x / 4294967296 * (y % 4294967296) + x % 4294967296 * (y % 4294967296) / 4294967296) / 4294967296 + ((x / 4294967296 * (y % 4294967296) + x % 4294967296 * (y % 4294967296) / 4294967296) % 4294967296 + x % 4294967296 * (y / 4294967296)) / 4294967296 < 18446744073709551616 := by omega
  go_enter Tryd.func56, Tryd.ntmps56
  go_wp2
  simp only [maskN x hx, maskN y hy, divN, mulN, addN, wrapN _ bd, wrapN _ bb', wrapN _ bt, maskN _ bt, wrapN _ bc', wrapN _ bw, wrapN _ ba', wrapN _ bh1, wrapN _ bh, wrapM (x * y)]
  rw [hhi]
  go_ret2
  exact ⟨rfl, rfl⟩

theorem mul_sign (a b : Int) : ((!decide (a < 0) == decide (b < 0)) = false → a * b = (a.natAbs : Int) * b.natAbs) ∧ ((!decide (a < 0) == decide (b < 0)) = true → a * b = -((a.natAbs : Int) * b.natAbs)) ∧ (0 : Int) ≤ (a.natAbs : Int) * b.natAbs := by
  refine ⟨?_, ?_, Int.mul_nonneg (by omega) (by omega)⟩
  · intro h
    by_cases h1 : a < 0 <;> by_cases h2 : b < 0 <;> simp [h1, h2] at h
    · obtain ⟨x, hx⟩ : ∃ x : Nat, a = -x := ⟨a.natAbs, by omega⟩
      obtain ⟨y, hy⟩ : ∃ y : Nat, b = -y := ⟨b.natAbs, by omega⟩
      subst hx hy; simp [Int.neg_mul_neg]
    · obtain ⟨x, hx⟩ : ∃ x : Nat, a = x := ⟨a.natAbs, by omega⟩
      obtain ⟨y, hy⟩ : ∃ y : Nat, b = y := ⟨b.natAbs, by omega⟩
      subst hx hy; simp
  · intro h
    by_cases h1 : a < 0 <;> by_cases h2 : b < 0 <;> simp [h1, h2] at h
    · obtain ⟨x, hx⟩ : ∃ x : Nat, a = -x := ⟨a.natAbs, by omega⟩
      obtain ⟨y, hy⟩ : ∃ y : Nat, b = y := ⟨b.natAbs, by omega⟩
      subst hx hy; simp [Int.neg_mul]
    · obtain ⟨x, hx⟩ : ∃ x : Nat, a = x := ⟨a.natAbs, by omega⟩
      obtain ⟨y, hy⟩ : ∃ y : Nat, b = -y := ⟨b.natAbs, by omega⟩
      subst hx hy; simp [Int.mul_neg]
section
variable {a b : Int}
theorem mul_w1 (h : ((a.natAbs : Int) * b.natAbs / 18446744073709551616 != 0) = true) : ¬ fits (a * b) := by
  obtain ⟨h1, h2, h0⟩ := mul_sign a b
  unfold fits
  simp only [bne_iff_ne, ne_eq] at h
  cases hs : (!decide (a < 0) == decide (b < 0))
  · rw [h1 hs]; omega
  · rw [h2 hs]; omega
theorem mul_w2 (h : ((a.natAbs : Int) * b.natAbs / 18446744073709551616 != 0) = false) (hs : (!decide (a < 0) == decide (b < 0)) = true) (hl : 9223372036854775808 < (a.natAbs : Int) * b.natAbs % 18446744073709551616) : ¬ fits (a * b) := by
  obtain ⟨h1, h2, h0⟩ := mul_sign a b
  unfold fits
  simp only [bne_eq_false_iff_eq] at h
  rw [h2 hs]; omega
theorem mul_w3 (h : ((a.natAbs : Int) * b.natAbs / 18446744073709551616 != 0) = false) (hs : (!decide (a < 0) == decide (b < 0)) = true) (hl : (a.natAbs : Int) * b.natAbs % 18446744073709551616 ≤ 9223372036854775808) :
    fits (a * b) ∧ wrap64 (IntKind.u64.wrap (-((a.natAbs : Int) * b.natAbs % 18446744073709551616))) = a * b := by
  obtain ⟨h1, h2, h0⟩ := mul_sign a b
  unfold fits wrap64
  rw [IntKind.wrap_u64]
  simp only [bne_eq_false_iff_eq] at h
  rw [h2 hs]; omega
theorem mul_w4 (h : ((a.natAbs : Int) * b.natAbs / 18446744073709551616 != 0) = false) (hs : (!decide (a < 0) == decide (b < 0)) = false) (hl : 9223372036854775807 < (a.natAbs : Int) * b.natAbs % 18446744073709551616) : ¬ fits (a * b) := by
  obtain ⟨h1, h2, h0⟩ := mul_sign a b
  unfold fits
  simp only [bne_eq_false_iff_eq] at h
  rw [h1 hs]; omega
theorem mul_w5 (h : ((a.natAbs : Int) * b.natAbs / 18446744073709551616 != 0) = false) (hs : (!decide (a < 0) == decide (b < 0)) = false) (hl : (a.natAbs : Int) * b.natAbs % 18446744073709551616 ≤ 9223372036854775807) :
    fits (a * b) ∧ (a.natAbs : Int) * b.natAbs % 18446744073709551616 = a * b := by
  obtain ⟨h1, h2, h0⟩ := mul_sign a b
  unfold fits
  simp only [bne_eq_false_iff_eq] at h
  rw [h1 hs]; omega
end

set_option maxRecDepth 100000 in
set_option maxHeartbeats 1000000 in
theorem mul_any (a b : Int) (w : World) (ha : fits a) (hb : fits b) :
    Calls Tryd.prog 76 #[.int .i64 a, .int .i64 b] w fun e w' => e = .returned (.tuple #[.int .i64 (okOf (a * b)), .bool (okB (a * b))]) ∧ w = w' := by
  have ha' : a.natAbs < 18446744073709551616 := by unfold fits at ha; omega
  have hb' : b.natAbs < 18446744073709551616 := by unfold fits at hb; omega
  go_enter Tryd.func76, Tryd.ntmps76
  go_wp2_with (first | (go_at_call 58; refine (size_any _ _ (by assumption)).mono ?_; rintro e w' ⟨rfl, rfl⟩) | (go_at_call 56; refine (mul64_any _ _ (by assumption) (by assumption) _).mono ?_; rintro e w' ⟨rfl, rfl⟩))
  all_goals go_ret2
  · have h := mul_w1 (a := a) (b := b) (by assumption)
    exact ⟨tup2 (val_no h) (b_no h), rfl⟩
  · have h := mul_w2 (a := a) (b := b) (by assumption) (by assumption) (by assumption)
    exact ⟨tup2 (val_no h) (b_no h), rfl⟩
  · have h := mul_w3 (a := a) (b := b) (by assumption) (by assumption) (by assumption)
    exact ⟨tup2 (h.2.trans (val_yes h.1)) (b_yes h.1), rfl⟩
  · have h := mul_w4 (a := a) (b := b) (by assumption) (by assumption) (by assumption)
    exact ⟨tup2 (val_no h) (b_no h), rfl⟩
  · have h := mul_w5 (a := a) (b := b) (by assumption) (by assumption) (by assumption)
    exact ⟨tup2 (h.2.trans (val_yes h.1)) (b_yes h.1), rfl⟩

/-- the table of bits, in its variable -/
def Tab (w : World) : Prop := ∀ j, j < 64 → w.cell? ⟨0, j, none⟩ = some (.int .u8 (Lib.deBruijn64tab.getD j 0))

set_option maxRecDepth 100000 in
theorem tz_core (x k idx : Nat) (w : World) (hx0 : ((x : Int) == 0) = false)
    (key : IntKind.u64.wrap (bits BinOp.and IntKind.u64 (x : Int) (IntKind.u64.wrap (-(x : Int))) * 285870213051353865) / 288230376151711744 = (idx : Int))
    (hi : idx < 64) (hk : k < 64) (hcell : w.cell? ⟨0, idx, none⟩ = some (.int .u8 k)) :
    Calls Tryd.prog 72 #[.int .u64 x] w fun e w' => e = .returned (.int .i64 k) ∧ w = w' := by
  go_enter Tryd.func72, Tryd.ntmps72
  go_wp2_with (simp only [key])
  go_ret
  exact ⟨rfl, rfl⟩

theorem tz_key (x a : Nat) (hx : x < 18446744073709551616) (hx0 : x ≠ 0) (hlow : x &&& (18446744073709551616 - x) = a) :
    IntKind.u64.wrap (bits BinOp.and IntKind.u64 (x : Int) (IntKind.u64.wrap (-(x : Int))) * 285870213051353865) / 288230376151711744 = ((a * 285870213051353865 % 18446744073709551616 / 288230376151711744 : Nat) : Int) := by
  have e1 : IntKind.u64.wrap (-(x : Int)) = ((18446744073709551616 - x : Nat) : Int) := by rw [IntKind.wrap_u64]; omega
  rw [e1, bits_and_u64_nat x _ hx (by omega), hlow, IntKind.wrap_u64]
  omega

theorem tz_any (x : Nat) (hx : x < 18446744073709551616) (hx0 : x ≠ 0) (w : World) (hT : Tab w) :
    Calls Tryd.prog 72 #[.int .u64 x] w fun e w' => e = .returned (.int .i64 (Lib.ctz 64 x)) ∧ w = w' := by
  obtain ⟨hlow, hk⟩ := Lib.lowest_bit 64 x hx0 hx
  obtain ⟨hi, htab⟩ := Lib.deBruijn64_at _ hk
  have hcell := hT _ hi
  rw [htab] at hcell
  exact tz_core x _ _ w (by simp; omega) (tz_key x _ hx hx0 hlow) hi hk hcell
end Go.Proofs.YtpmlljbebdidgaaDoor
/-
  The walk of ints.Sum over a slice that reads as a list of numbers.
-/
namespace Go.Proofs.YtpmlljbebdidgaaDoor
open Go.RowKit

/-- a slice's cells, of whatever address where there are none -/
def Rd (w : World) (B : Nat) (A : Option Addr) (cs : List Value) : Prop :=
  cs = [] ∨ ∃ b off, A = some ⟨b, off, none⟩ ∧ b < B ∧ ∀ j u, cs[j]? = some u → w.cell? ⟨b, off + j, none⟩ = some u
/-- numbers as cells -/
def cellsI (xs : List Int) : List Value := xs.map (Value.int .i64)
def AllFit (xs : List Int) : Prop := ∀ x ∈ xs, fits x
theorem cellsI_length (xs : List Int) : (cellsI xs).length = xs.length := by simp [cellsI]
theorem Rd.at_ {w : World} {B : Nat} {A : Option Addr} {xs : List Int} {k : Nat} (h : Rd w B A (cellsI xs)) (hx : AllFit xs) (hk : k < xs.length) :
    ∃ b off x, A = some ⟨b, off, none⟩ ∧ b < B ∧ fits x ∧ w.cell? ⟨b, off + k, none⟩ = some (.int .i64 x) ∧ Hid (xs.drop k = x :: xs.drop (k + 1)) ∧ Hid (xs[k]? = some x) := by
  rcases h with h | ⟨b, off, ha, hb, hc⟩
  · have := cellsI_length xs; rw [h] at this; simp at this; omega
  · refine ⟨b, off, xs[k], ha, hb, hx _ (List.getElem_mem _), hc k _ ?_, List.drop_eq_getElem_cons hk, List.getElem?_eq_getElem hk⟩
    simp [cellsI, List.getElem?_map, List.getElem?_eq_getElem hk]

theorem AllFit.drop {xs : List Int} (h : AllFit xs) (k : Nat) : AllFit (xs.drop k) := fun x hx => h x (List.mem_of_mem_drop hx)
theorem natAbs_fit {x : Int} (h : fits x) : x.natAbs < 18446744073709551616 := by unfold fits at h; omega

/-- numbers added from the left to the right, on from t -/
def sumFrom (t : Int) : List Int → Int × Bool
  | [] => (t, true)
  | x :: xs => if okB (t + x) = true then sumFrom (t + x) xs else (0, false)

end Go.Proofs.YtpmlljbebdidgaaDoor
/-
  Plain arithmetic of the greatest common divisor by halves; no program in sight.
-/
namespace Go.Proofs.YtpmlljbebdidgaaDoor
open Go

theorem coprime_two_pow {p : Nat} (k : Nat) (hp : p % 2 = 1) : Nat.Coprime (2 ^ k) p := by
  apply Nat.Coprime.pow_left
  show Nat.gcd 2 p = 1
  rw [Nat.gcd_rec, hp]; decide

theorem ctz_split {x : Nat} (hx : x < 18446744073709551616) (h0 : x ≠ 0) : ∃ m, x = 2 ^ Lib.ctz 64 x * (2 * m + 1) ∧ Lib.ctz 64 x < 64 := by
  unfold Lib.ctz; rw [if_neg h0]
  exact Lib.ctzFrom_spec 64 x (by omega) hx

theorem ctz_shr {x : Nat} (hx : x < 18446744073709551616) (h0 : x ≠ 0) :
    ∃ m : Nat, (x : Int) / 2 ^ min (Lib.ctz 64 x) 64 = (m : Int) ∧ m % 2 = 1 ∧ x = 2 ^ Lib.ctz 64 x * m ∧ m ≤ x ∧ 0 < m := by
  obtain ⟨m, hm, hk⟩ := ctz_split hx h0
  have hp : 0 < 2 ^ Lib.ctz 64 x := Nat.pow_pos (by decide)
  refine ⟨2 * m + 1, ?_, by omega, hm, ?_, by omega⟩
  · rw [Nat.min_eq_left (by omega)]
    have : x / 2 ^ Lib.ctz 64 x = 2 * m + 1 := Nat.div_eq_of_eq_mul_right hp hm
    rw [← this]
    simp [Int.natCast_ediv, Int.natCast_pow]
  · rw [hm]; exact Nat.le_mul_of_pos_left _ hp

theorem ctz_unique {x i m : Nat} (hx : x < 18446744073709551616) (h : x = 2 ^ i * m) (hm : m % 2 = 1) : Lib.ctz 64 x = i := by
  have h0 : x ≠ 0 := by
    rw [h]; exact Nat.mul_ne_zero (Nat.ne_of_gt (Nat.pow_pos (by decide))) (by omega)
  obtain ⟨n, hn, _⟩ := ctz_split hx h0
  generalize Lib.ctz 64 x = j at hn
  rcases Nat.lt_trichotomy j i with hl | hl | hl
  · exfalso
    obtain ⟨d, rfl⟩ : ∃ d, i = j + (d + 1) := ⟨i - j - 1, by omega⟩
    rw [Nat.pow_add, Nat.mul_assoc] at h
    have : 2 * n + 1 = 2 ^ (d + 1) * m := Nat.eq_of_mul_eq_mul_left (Nat.pow_pos (by decide : 0 < 2)) (hn.symm.trans h)
    rw [Nat.pow_succ, Nat.mul_right_comm] at this; omega
  · exact hl
  · exfalso
    obtain ⟨d, rfl⟩ : ∃ d, j = i + (d + 1) := ⟨j - i - 1, by omega⟩
    rw [Nat.pow_add, Nat.mul_assoc] at hn
    have : m = 2 ^ (d + 1) * (2 * n + 1) := Nat.eq_of_mul_eq_mul_left (Nat.pow_pos (by decide : 0 < 2)) (h.symm.trans hn)
    rw [Nat.pow_succ, Nat.mul_right_comm] at this; omega

/-- the low bits of 'or' -/
theorem or_low {x y i j a b : Nat} (hx : x = 2 ^ i * a) (hy : y = 2 ^ j * b) (ha : a % 2 = 1) (hb : b % 2 = 1) :
    ∃ m, x ||| y = 2 ^ min i j * m ∧ m % 2 = 1 := by
  have key : ∀ {i d a b : Nat}, a % 2 = 1 → b % 2 = 1 → ∃ m, (2 ^ i * a) ||| (2 ^ (i + d) * b) = 2 ^ i * m ∧ m % 2 = 1 := by
    intro i d a b ha hb
    refine ⟨a ||| 2 ^ d * b, ?_, ?_⟩
    · rw [Nat.pow_add, Nat.mul_assoc]
      apply Nat.eq_of_testBit_eq
      intro k
      simp only [Nat.testBit_or, Nat.testBit_two_pow_mul]
      cases decide (k ≥ i) <;> simp
    · rw [Nat.or_mod_two_eq_one]; left; exact ha
  rcases Nat.le_total i j with h | h
  · obtain ⟨d, rfl⟩ := Nat.exists_eq_add_of_le h
    rw [hx, hy, Nat.min_eq_left h]
    exact key ha hb
  · obtain ⟨d, rfl⟩ := Nat.exists_eq_add_of_le h
    rw [hx, hy, Nat.min_eq_right h, Nat.or_comm]
    exact key hb ha

theorem ctz_or {x y i j a b : Nat} (h : x ||| y < 18446744073709551616) (hx : x = 2 ^ i * a) (hy : y = 2 ^ j * b) (ha : a % 2 = 1) (hb : b % 2 = 1) : Lib.ctz 64 (x ||| y) = min i j := by
  obtain ⟨m, hm, h1⟩ := or_low hx hy ha hb
  exact ctz_unique h hm h1

theorem gcd_strip {p q k m : Nat} (hp : p % 2 = 1) (hq : q = 2 ^ k * m) : Nat.gcd p q = Nat.gcd p m := by
  rw [hq]; exact Nat.Coprime.gcd_mul_left_cancel_right _ (coprime_two_pow k hp)

/-- the whole: the odd part's divisor, put back -/
theorem gcd_halves {x y i j a b : Nat} (hx : x = 2 ^ i * a) (hy : y = 2 ^ j * b) (ha : a % 2 = 1) (hb : b % 2 = 1) : Nat.gcd x y = Nat.gcd a y * 2 ^ min i j := by
  have e : Nat.gcd a y = Nat.gcd a b := gcd_strip ha hy
  rw [e]
  rcases Nat.le_total i j with h | h
  · obtain ⟨d, rfl⟩ := Nat.exists_eq_add_of_le h
    rw [Nat.min_eq_left h, hx, hy, Nat.pow_add, Nat.mul_assoc, Nat.gcd_mul_left, Nat.mul_comm]
    congr 1
    exact gcd_strip ha rfl
  · obtain ⟨d, rfl⟩ := Nat.exists_eq_add_of_le h
    rw [Nat.min_eq_right h, hx, hy, Nat.pow_add, Nat.mul_assoc, Nat.gcd_mul_left, Nat.mul_comm]
    congr 1
    rw [Nat.gcd_comm, gcd_strip hb rfl, Nat.gcd_comm]

theorem gcd_less {p q : Nat} (h : p ≤ q) : Nat.gcd p (q - p) = Nat.gcd p q := by
  conv => rhs; rw [← Nat.sub_add_cancel h]
  simp
end Go.Proofs.YtpmlljbebdidgaaDoor
/-
  The walk of ints.divisor: the greatest common divisor by halves.
-/
namespace Go.Proofs.YtpmlljbebdidgaaDoor
open Go.RowKit

theorem retu {a b : Int} (h : a = b) : Ending.returned (.int .u64 a) = .returned (.int .u64 b) := by rw [h]

set_option maxRecDepth 100000 in
set_option maxHeartbeats 1000000 in
theorem divisor_pos (x y : Nat) (hx : x < 18446744073709551616) (hy : y < 18446744073709551616) (hx0 : 0 < x) (hy0 : 0 < y) (w : World) (hT : Tab w) :
    Calls Tryd.prog 57 #[.int .u64 x, .int .u64 y] w fun e w' => e = .returned (.int .u64 (Nat.gcd x y : Nat)) ∧ w = w' := by
  have e1 : ((x : Int) == 0) = false := by simp; omega
  have e2 : ((y : Int) == 0) = false := by simp; omega
  have ho : bits BinOp.or IntKind.u64 (x : Int) (y : Int) = ((x ||| y : Nat) : Int) := bits_or_u64_nat x y hx hy
  have hol : x ||| y < 18446744073709551616 := Nat.or_lt_two_pow (n := 64) hx hy
  have ho0 : x ||| y ≠ 0 := by intro h; have := (Nat.or_eq_zero_iff.1 h).1; omega
  obtain ⟨a, hsa, ha1, hxa, hax, ha0⟩ := ctz_shr hx (by omega : x ≠ 0)
  obtain ⟨b, -, hb1, hyb, -, hb0⟩ := ctz_shr hy (by omega : y ≠ 0)
  have Hg := Lib.hid (gcd_halves hxa hyb ha1 hb1)
  have Hc := Lib.hid (ctz_or hol hxa hyb ha1 hb1)
  have Ha1 := Lib.hid ha1
  have hgx : Nat.gcd x y ≤ x := Nat.gcd_le_left _ hx0
  clear hxa hyb ha1 hb1 hb0
  go_enter Tryd.func57, Tryd.ntmps57
  go_wp2_with (go_at_call 72; refine (tz_any _ (by assumption) (by first | assumption | omega) _ hT).mono ?_; rintro e w' ⟨rfl, rfl⟩)
  clear hsa e1 e2 ho
  go_loop [0, 1] (fun s t => ∃ p q : Nat, s = .int .u64 p ∧ t = .int .u64 q ∧ p < 18446744073709551616 ∧ q < 18446744073709551616 ∧ Hid (p % 2 = 1) ∧ Hid (Nat.gcd p q = Nat.gcd a y)) (fun s t => (intOf s).toNat + (intOf t).toNat)
  case atStart => exact ⟨a, y, rfl, rfl, by omega, hy, Ha1, rfl⟩
  case round =>
    obtain ⟨p, q, rfl, rfl, hp, hq, hp1, hpq⟩ := hrel
    have hp0 : 0 < p := by have := hp1.out; omega
    by_cases hq0 : q = 0
    · subst hq0
      have hlim : Nat.gcd x y < 18446744073709551616 := by omega
      go_wp2
      go_ret
      refine ⟨retu ?_, rfl⟩
      obtain ⟨_, _, hc64⟩ := ctz_split hol ho0
      have hpe : p = Nat.gcd a y := by rw [← hpq.out, Nat.gcd_zero_right]
      have hz : (p : Int) * 2 ^ min (Lib.ctz 64 (x ||| y)) 64 = ((Nat.gcd x y : Nat) : Int) := by
        rw [Nat.min_eq_left (by omega), Hc.out, Hg.out, ← hpe]
        simp [Int.natCast_pow]
      rw [hz]
      exact wrapN _ hlim
    · have e3 : ((q : Int) != 0) = true := by simp; omega
      obtain ⟨r, hsr, hr1, hqr, hrq, hr0⟩ := ctz_shr hq hq0
      have Hr1 := Lib.hid hr1
      have Hq := Lib.hid (gcd_strip hp1.out hqr)
      clear hr1 hqr
      go_wp2_with (go_at_call 72; refine (tz_any _ (by assumption) (by first | assumption | omega) _ hT).mono ?_; rintro e w' ⟨rfl, rfl⟩)
      · go_round
        case rel => exact ⟨r, p - r, by go_num, by go_num, by omega, by omega, Hr1, (gcd_less (by omega)).trans ((Nat.gcd_comm _ _).trans (Hq.out.symm.trans hpq.out))⟩
        case measure => simp [intOf]; omega
      · go_round
        case rel => exact ⟨p, r - p, by go_num, by go_num, by omega, by omega, hp1, (gcd_less (by omega)).trans (Hq.out.symm.trans hpq.out)⟩
        case measure => simp [intOf]; omega

set_option maxRecDepth 100000 in
set_option maxHeartbeats 400000 in
theorem divisor_zero (x y : Nat) (hx : x < 18446744073709551616) (hy : y < 18446744073709551616) (h : x = 0 ∨ y = 0) (w : World) :
    Calls Tryd.prog 57 #[.int .u64 x, .int .u64 y] w fun e w' => e = .returned (.int .u64 (Nat.gcd x y : Nat)) ∧ w = w' := by
  have ho : bits BinOp.or IntKind.u64 (x : Int) (y : Int) = ((x ||| y : Nat) : Int) := bits_or_u64_nat x y hx hy
  by_cases h1 : x = 0
  · have e1 : ((x : Int) == 0) = true := by simp; omega
    have he : x ||| y = Nat.gcd x y := by rw [h1]; simp
    have He := Lib.hid he
    clear he h1 h
    go_enter Tryd.func57, Tryd.ntmps57
    go_wp2
    go_ret
    exact ⟨retu (by rw [He.out]), rfl⟩
  · have h2 : y = 0 := by omega
    have e1 : ((x : Int) == 0) = false := by simp; omega
    have e2 : ((y : Int) == 0) = true := by simp; omega
    have he : x ||| y = Nat.gcd x y := by rw [h2]; simp
    have He := Lib.hid he
    clear he h1 h h2
    go_enter Tryd.func57, Tryd.ntmps57
    go_wp2
    go_ret
    exact ⟨retu (by rw [He.out]), rfl⟩

theorem divisor_any (x y : Nat) (hx : x < 18446744073709551616) (hy : y < 18446744073709551616) (w : World) (hT : Tab w) :
    Calls Tryd.prog 57 #[.int .u64 x, .int .u64 y] w fun e w' => e = .returned (.int .u64 (Nat.gcd x y : Nat)) ∧ w = w' := by
  by_cases h : x = 0 ∨ y = 0
  · exact divisor_zero x y hx hy h w
  · exact divisor_pos x y hx hy (by omega) (by omega) w hT
end Go.Proofs.YtpmlljbebdidgaaDoor
/-
  The walks of ints.Gcd, ints.Lcm and ints.Dot.
-/
namespace Go.Proofs.YtpmlljbebdidgaaDoor
open Go.RowKit

/-- the greatest common divisor of g and all sizes -/
def gcdFrom (g : Nat) : List Int → Nat
  | [] => g
  | x :: xs => gcdFrom (Nat.gcd g x.natAbs) xs

theorem gcd_lt {g y : Nat} (hg : g < 18446744073709551616) (hy : y < 18446744073709551616) : Nat.gcd g y < 18446744073709551616 := by
  by_cases h : g = 0
  · subst h; simpa using hy
  · exact Nat.lt_of_le_of_lt (Nat.gcd_le_left _ (by omega)) hg

set_option maxRecDepth 100000 in
set_option maxHeartbeats 400000 in
theorem gcd_any (xs : List Int) (A : Option Addr) (n c B : Nat) (w : World) (hn : xs.length = n) (hx : AllFit xs) (hr : Rd w B A (cellsI xs)) (hl : xs.length ≤ maxLen) (hT : Tab w) :
    Calls Tryd.prog 67 #[.slice A n c] w fun e w' => e = .returned (.tuple #[.int .i64 (okOf (gcdFrom 0 xs)), .bool (okB (gcdFrom 0 xs))]) ∧ w = w' := by
  subst hn
  unfold maxLen at hl
  go_enter Tryd.func67, Tryd.ntmps67
  go_wp2
  go_loop [4, 9] (fun t i => ∃ (k : Nat) (g : Nat), k ≤ xs.length ∧ i = .int .i64 k ∧ t = .int .u64 g ∧ g < 18446744073709551616 ∧ Hid (gcdFrom 0 xs = gcdFrom g (xs.drop k))) (fun _ i => xs.length - (intOf i).toNat)
  case atStart => exact ⟨0, 0, Nat.zero_le _, rfl, rfl, by omega, rfl⟩
  case round =>
    obtain ⟨k, g, hk, rfl, rfl, hg, He⟩ := hrel
    by_cases hlt : k < xs.length
    · obtain ⟨b, off, x, rfl, hb, hxk, hc, hd, -⟩ := hr.at_ hx hlt
      have hxa := natAbs_fit hxk
      have hgl := gcd_lt hg hxa
      go_wp2_with (first | (go_at_call 58; refine (size_any _ _ hxk).mono ?_; rintro e w' ⟨rfl, rfl⟩) | (go_at_call 57; refine (divisor_any _ _ hg hxa _ hT).mono ?_; rintro e w' ⟨rfl, rfl⟩))
      go_round
      case rel => exact ⟨k + 1, Nat.gcd g x.natAbs, by omega, by go_num, rfl, hgl, by unfold Hid; rw [He.out, hd.out]; rfl⟩
      case measure => simp [intOf]; omega
    · have hd : xs.drop k = [] := List.drop_eq_nil_of_le (by omega)
      have hge : gcdFrom 0 xs = g := by rw [He.out, hd]; rfl
      have Hge := Lib.hid hge
      clear hd hge
      go_wp2
      · go_ret2
        have h : 9223372036854775807 < (g : Int) := by assumption
        exact ⟨by rw [Hge.out]; exact tup2 (val_no (by unfold fits; omega)) (b_no (by unfold fits; omega)), rfl⟩
      · go_ret2
        have h : (g : Int) ≤ 9223372036854775807 := by assumption
        exact ⟨by rw [Hge.out]; exact tup2 (val_yes (by unfold fits; omega)) (b_yes (by unfold fits; omega)), rfl⟩

/-- products added, on from t -/
def dotFrom (t : Int) : List Int → List Int → Int × Bool
  | x :: xs, y :: ys => if okB (x * y) = true then (if okB (t + x * y) = true then dotFrom (t + x * y) xs ys else (0, false)) else (0, false)
  | _, _ => (t, true)
theorem dotFrom_nil (t : Int) (ys : List Int) : dotFrom t [] ys = (t, true) := by cases ys <;> rfl
def dotR (xs ys : List Int) : Int × Bool := if xs.length = ys.length then dotFrom 0 xs ys else (0, false)


/-- the least common multiple as the code reckons it: m so far, f: it fits -/
def lcmGo (m : Nat) (f : Bool) : List Int → Int × Bool
  | [] => if f = true then ((m : Int), true) else (0, false)
  | x :: xs => if x = 0 then (0, true) else if f = false then lcmGo m f xs else
      lcmGo (m / Nat.gcd m x.natAbs * x.natAbs % 18446744073709551616) (okB ((m / Nat.gcd m x.natAbs * x.natAbs : Nat) : Int)) xs

theorem lcm_m (q n : Nat) : Value.int .u64 ((q : Int) * (n : Int) % 18446744073709551616) = .int .u64 ((q * n % 18446744073709551616 : Nat) : Int) := by
  rw [Int.natCast_emod, Int.natCast_mul]; rfl
theorem lcm_b1 {q n : Nat} (h : (q : Int) * (n : Int) / 18446744073709551616 = 0) : decide ((q : Int) * (n : Int) % 18446744073709551616 ≤ 9223372036854775807) = okB ((q * n : Nat) : Int) := by
  rw [← Int.natCast_mul] at h ⊢
  unfold okB
  rw [decide_eq_decide]; omega
theorem lcm_b2 {q n : Nat} (h : ¬ (q : Int) * (n : Int) / 18446744073709551616 = 0) : false = okB ((q * n : Nat) : Int) := by
  rw [← Int.natCast_mul] at h
  exact b_no (by unfold fits; omega)
theorem lcm_f {P : Nat} (h : 0 < P) : okB (P : Int) = true → 0 < P % 18446744073709551616 ∧ P % 18446744073709551616 ≤ 9223372036854775807 := by
  intro h'
  have := okB_iff.1 h'
  unfold fits at this
  omega

/-- the world but for draws -/
def Drawn (w w' : World) : Prop := ∃ d, w' = w.drewN d
theorem Drawn.refl (w : World) : Drawn w w := ⟨0, rfl⟩
theorem Drawn.drewN {w w' : World} (h : Drawn w w') (n : Nat) : Drawn w (w'.drewN n) := by
  obtain ⟨d, rfl⟩ := h
  exact ⟨d + n, World.drewN_drewN _ _ _⟩
theorem Drawn.trans {w w' w'' : World} (h : Drawn w w') (h' : Drawn w' w'') : Drawn w w'' := by
  obtain ⟨d, rfl⟩ := h'
  exact h.drewN d
theorem Drawn.cell {w w' : World} (h : Drawn w w') (a : Addr) : w'.cell? a = w.cell? a := by obtain ⟨d, rfl⟩ := h; rfl
theorem Drawn.tab {w w' : World} (h : Drawn w w') (hT : Tab w) : Tab w' := fun j hj => (h.cell _).trans (hT j hj)
theorem Drawn.rd {w w' : World} {B : Nat} {A : Option Addr} {cs : List Value} (h : Drawn w w') (hr : Rd w B A cs) : Rd w' B A cs := by
  rcases hr with hr | ⟨b, off, ha, hb, hc⟩
  · exact .inl hr
  · exact .inr ⟨b, off, ha, hb, fun j u hu => (h.cell _).trans (hc j u hu)⟩
theorem Drawn.size {w w' : World} (h : Drawn w w') : w'.heap.size = w.heap.size := by obtain ⟨d, rfl⟩ := h; rfl
theorem quiet_left {P : Program} {f : FuncId} {args : Array Value} {w : World} {n : Nat} {v : Value}
    (h : Calls P f args (w.drewN n) fun e w' => e = .returned v ∧ w.drewN n = w') : Calls P f args (w.drewN n) fun e w'' => e = .returned v ∧ ∃ m, w'' = w.drewN m :=
  h.mono fun _ _ ⟨he, hm⟩ => ⟨he, n, hm.symm⟩

set_option maxRecDepth 100000 in
set_option maxHeartbeats 1000000 in
theorem lcm_any (xs : List Int) (A : Option Addr) (n c B : Nat) (w : World) (hn : xs.length = n) (hx : AllFit xs) (hr : Rd w B A (cellsI xs)) (hl : xs.length ≤ maxLen) (hT : Tab w) :
    Calls Tryd.prog 41 #[.slice A n c] w fun e w' => e = .returned (.tuple #[.int .i64 (lcmGo 1 true xs).1, .bool (lcmGo 1 true xs).2]) ∧ Drawn w w' := by
  subst hn
  unfold maxLen at hl
  go_enter Tryd.func41, Tryd.ntmps41
  go_wp2
  go_loopw [4, 5, 12] (fun t b i wr => ∃ (k : Nat) (m : Nat) (f : Bool), k ≤ xs.length ∧ i = .int .i64 k ∧ t = .int .u64 m ∧ b = .bool f ∧ Drawn w wr ∧ m < 18446744073709551616 ∧ Hid (f = true → 0 < m ∧ m ≤ 9223372036854775807) ∧ Hid (lcmGo 1 true xs = lcmGo m f (xs.drop k))) (fun _ _ i _ => xs.length - (intOf i).toNat)
  case atStart => exact ⟨0, 1, true, Nat.zero_le _, rfl, rfl, rfl, Drawn.refl w, by omega, fun _ => by omega, rfl⟩
  case round =>
    obtain ⟨k, m, f, hk, rfl, rfl, rfl, hdw, hm, Hf, He⟩ := hrel
    by_cases hlt : k < xs.length
    · obtain ⟨b, off, x, rfl, hb, hxk, hc, hd, -⟩ := (hdw.rd hr).at_ hx hlt
      have hT' := hdw.tab hT
      have hxa := natAbs_fit hxk
      have hst := hd.out ▸ He.out
      rw [lcmGo] at hst
      by_cases hx0 : x = 0
      · subst hx0
        have Hst := Lib.hid hst
        clear hst hd He
        go_wp2
        go_ret2
        exact ⟨by rw [Hst.out]; rfl, hdw⟩
      · have hz : (x == 0) = false := by simpa using hx0
        rw [if_neg hx0] at hst
        cases f
        · rw [if_pos rfl] at hst
          have Hst := Lib.hid hst
          clear hst hd He hx0
          go_wp2
          go_roundw
          case rel => exact ⟨k + 1, m, false, by omega, by go_num, rfl, rfl, hdw, hm, fun h => by (cases h), Hst⟩
          case measure => simp [intOf]; omega
        · rw [if_neg (by simp)] at hst
          have hm0 := (Hf.out rfl).1
          have hgl := gcd_lt hm hxa
          have hg0 : 0 < Nat.gcd m x.natAbs := Nat.gcd_pos_of_pos_left _ hm0
          obtain ⟨q, hq⟩ : ∃ q, m / Nat.gcd m x.natAbs = q := ⟨_, rfl⟩
          have hqm : q ≤ m := by rw [← hq]; exact Nat.div_le_self _ _
          have hq0 : 0 < q := by rw [← hq]; exact Nat.div_pos (Nat.gcd_le_left _ hm0) hg0
          have hP0 : 0 < q * x.natAbs := Nat.mul_pos hq0 (by omega)
          have hql : q < 18446744073709551616 := by omega
          have hqd : (m : Int) / ((Nat.gcd m x.natAbs : Nat) : Int) = (q : Int) := by rw [← hq]; exact (Int.natCast_ediv _ _).symm
          rw [hq] at hst
          have Hst := Lib.hid hst
          have hgz : ((Nat.gcd m x.natAbs : Nat) : Int) ≠ 0 := by omega
          clear hst hd He hq
          go_wp2
          go_quiet ((first | (go_at_call 58; exact quiet_left (size_any _ _ hxk)) | (go_at_call 57; exact quiet_left (divisor_any _ _ hm hxa _ hT')) | (go_at_call 56; exact quiet_left (mul64_any _ _ hql hxa _))))
          go_wp2
          · go_roundw
            case rel => exact ⟨k + 1, _, _, by omega, by go_num, lcm_m _ _, by rw [lcm_b1 (by assumption)], hdw.drewN _, Nat.mod_lt _ (by decide), lcm_f hP0, Hst⟩
            case measure => simp [intOf]; omega
          · go_roundw
            case rel => exact ⟨k + 1, _, _, by omega, by go_num, lcm_m _ _, by rw [lcm_b2 (by assumption)], hdw.drewN _, Nat.mod_lt _ (by decide), lcm_f hP0, Hst⟩
            case measure => simp [intOf]; omega
    · have hd : xs.drop k = [] := List.drop_eq_nil_of_le (by omega)
      have hst := hd ▸ He.out
      clear hd
      cases f
      · have Hst := Lib.hid hst
        clear hst He
        go_wp2
        go_ret2
        exact ⟨by rw [Hst.out]; rfl, hdw⟩
      · have Hst := Lib.hid hst
        have hmm := (Hf.out rfl).2
        clear hst He
        go_wp2
        go_ret2
        exact ⟨by rw [Hst.out]; rfl, hdw⟩
end Go.Proofs.YtpmlljbebdidgaaDoor
/-
  What the statements share: a list as new memory (Ints), two lists compared (SameInts), a list lent with marked room behind it (Lent), and whether it is as it was (Kept).
-/
namespace Go.Proofs.YtpmlljbebdidgaaDoor
open Go.RowKit

theorem info_int : (Tryd.prog.info? 3).map (fun i => (i.zero, i.size, i.bytes)) = some (some (.int .i64 0), 1, 8) := by kernel_rfl

section
variable {P : Program} (w : World)
theorem run_append_rd (base : Nat) (t ty e : TypeId) (i : TypeInfo) (z : Value) (size bytes : Nat) (ht : P.underlying t = some (.slice e)) (hi : P.info? e = some i) (hz : i.zero = some z)
    (hsize : i.size = size) (hby : i.bytes = bytes) (hzs : z.cells.size = size) (hsz : 0 < size)
    (v : Value) (n : Nat) (xs : List Value) (hown : w.ownsRow base e size v n xs) (B : Nat) (A : Option Addr) (m c : Nat) (news : List Value) (hl : news.length = m * size) (hr : Rd w B A news)
    (h1 : ∀ u ∈ news, u.oneCell' = true) (h63 : n + m ≤ maxLen) (hbytes : (n + m) * bytes ≤ 140737488355328) (hbase : base ≤ w.heap.size) :
    ∃ v' w', (Builtin.append_ #[t, t] ty #[v, .slice A m c]).run P w = .ok v' w' ∧ w'.ownsRow base e size v' (n + m) (xs ++ news) ∧ w.grownBy w' v.ownBlock ∧
      (v'.ownBlock = v.ownBlock ∨ v'.ownBlock = some w.heap.size) := by
  have some_ : ∀ ad, A = some ad → (∀ j u, news[j]? = some u → w.cell? (ad.add j) = some u) → ∃ v' w', (Builtin.append_ #[t, t] ty #[v, .slice A m c]).run P w = .ok v' w' ∧ w'.ownsRow base e size v' (n + m) (xs ++ news) ∧ w.grownBy w' v.ownBlock ∧
      (v'.ownBlock = v.ownBlock ∨ v'.ownBlock = some w.heap.size) := by
    intro ad ha hc
    subst ha
    obtain ⟨v', w', g1, g2, g3, _, g5⟩ := run_append_own_at (P := P) w base t ty e i z size bytes ht hi hz hsize hby hzs hsz v n xs hown ad m c news hl hc h1 h63 hbytes hbase
    exact ⟨v', w', g1, g2, g3, g5⟩
  rcases hr with hr | ⟨b, off, ha, _, hc⟩
  · subst hr
    have hm : m = 0 := by
      rcases Nat.eq_zero_or_pos m with h0 | h0
      · exact h0
      · have := Nat.mul_pos h0 hsz; simp only [List.length_nil] at hl; omega
    subst hm
    cases A with
    | some ad => exact some_ ad rfl (fun j u hu => by simp at hu)
    | none =>
      refine ⟨v, w, ?_, by simpa using hown, World.grownBy.refl w _, .inl rfl⟩
      rcases hown.2 with ⟨rfl, rfl⟩ | ⟨g, cap, cur, rfl, _, _, hnc, _⟩
      · simp [Builtin.append_, run_underlying ht, sizeOf, typeInfo, hi, Builtin.lenOf, Builtin.firstCells]
      · simp [Builtin.append_, run_underlying ht, sizeOf, typeInfo, hi, Builtin.lenOf, Builtin.firstCells, hnc, storeCells]
  · exact some_ _ ha (fun j u hu => by rw [Addr.add_lit]; exact hc j u hu)

theorem wpList_append_rd {ops : Array Oper} {rest : List Oper} {o : Oper} {a : Act} {Q : Exit → Act → World → Prop} (hgd : o.guard = none) (s x : Operand) (t : TypeId)
    (ho : o.op = .call { callee := .builtin .append, args := #[s, x], argTypes := #[t, t] })
    (base : Nat) (e : TypeId) (i : TypeInfo) (z : Value) (size bytes : Nat) (ht : P.underlying t = some (.slice e)) (hi : P.info? e = some i) (hz : i.zero = some z)
    (hsize : i.size = size) (hby : i.bytes = bytes) (hzs : z.cells.size = size) (hsz : 0 < size)
    (v : Value) (n : Nat) (xs : List Value) (hs : a.eval s = v) (hown : w.ownsRow base e size v n xs) (B : Nat) (A : Option Addr) (m c : Nat) (news : List Value) (hx : a.eval x = .slice A m c) (hl : news.length = m * size) (hr : Rd w B A news)
    (h1 : ∀ u ∈ news, u.oneCell' = true) (h63 : n + m ≤ maxLen) (hbytes : (n + m) * bytes ≤ 140737488355328) (hbase : base ≤ w.heap.size)
    (h : ∀ v' w', w'.ownsRow base e size v' (n + m) (xs ++ news) → w.grownBy w' v.ownBlock → (v'.ownBlock = v.ownBlock ∨ v'.ownBlock = some w.heap.size) → wpList P ops Q rest (a.put o.dst v') w') : wpList P ops Q (o :: rest) a w := by
  refine wpList_plain hgd fun K hK => ?_
  obtain ⟨v', w', hrun, h2, h3, h4⟩ := run_append_rd (P := P) w base t o.type e i z size bytes ht hi hz hsize hby hzs hsz v n xs hown B A m c news hl hr h1 h63 hbytes hbase
  unfold Oper.wp execOp
  simp only [ho, resolve, invoke, builtin, Sem.run_bind, Sem.run_pure, Result.andThen_ok, List.map_toArray, List.map_cons, List.map_nil, hs, hx, hrun]
  exact hK _ _ (h v' w' h2 h3 h4)
end

section
variable {P : Program} (w : World)
theorem wpList_append_fits_rd {ops : Array Oper} {rest : List Oper} {o : Oper} {a : Act} {Q : Exit → Act → World → Prop}
    (hg : o.guard = none) (s x : Operand) (t : TypeId) (hop : o.op = Op.call { callee := Callee.builtin Builtin.append, args := #[s, x], argTypes := #[t, t] })
    (base : Nat) (e : TypeId) (i : TypeInfo) (size : Nat) (h1 : P.underlying t = some (.slice e)) (h2 : P.info? e = some i) (h4 : i.size = size) (hsz : 0 < size)
    (g k cap : Nat) (xs : List Value) (hs : a.eval s = .slice (some ⟨g, 0, none⟩) k cap) (hown : w.ownsRow base e size (.slice (some ⟨g, 0, none⟩) k cap) k xs) (B : Nat) (A : Option Addr) (m c : Nat) (news : List Value) (hx : a.eval x = .slice A m c) (hn : news.length = m * size)
    (hr : Rd w B A news) (h1c : ∀ u ∈ news, u.oneCell' = true) (b1 : k + m ≤ cap)
    (hK : ∀ w', w'.ownsRow base e size (.slice (some ⟨g, 0, none⟩) (k + m) cap) (k + m) (xs ++ news) → w.grownBy w' (some g) → wpList P ops Q rest (a.put o.dst (.slice (some ⟨g, 0, none⟩) (k + m) cap)) w') :
    wpList P ops Q (o :: rest) a w := by
  have some_ : ∀ ad, A = some ad → (∀ j u, news[j]? = some u → w.cell? (ad.add j) = some u) → wpList P ops Q (o :: rest) a w := by
    intro ad ha hc
    subst ha
    exact wpList_append_fits w hg s x t hop base e i size h1 h2 h4 g k cap xs hs hown ad m c news hx hn hc h1c b1 hK
  rcases hr with hr | ⟨b, off, ha, _, hc⟩
  · subst hr
    have hm : m = 0 := by
      rcases Nat.eq_zero_or_pos m with h0 | h0
      · exact h0
      · have := Nat.mul_pos h0 hsz; simp only [List.length_nil] at hn; omega
    subst hm
    cases A with
    | some ad => exact some_ ad rfl (fun j u hu => by simp at hu)
    | none =>
      refine wpList_plain hg fun K hK' => ?_
      have hnc : k ≤ cap := by omega
      have hrun : (Builtin.append_ #[t, t] o.type #[.slice (some ⟨g, 0, none⟩) k cap, .slice none 0 c]).run P w = .ok (.slice (some ⟨g, 0, none⟩) k cap) w := by
        simp [Builtin.append_, run_underlying h1, sizeOf, typeInfo, h2, Builtin.lenOf, Builtin.firstCells, hnc, storeCells]
      unfold Oper.wp
      simp [execOp, hop, resolve, invoke, builtin, hs, hx, hrun, Result.andThen]
      exact hK' _ _ (by simpa using hK w (by simpa using hown) (World.grownBy.refl _ _))
  · exact some_ _ ha (fun j u hu => by rw [Addr.add_lit]; exact hc j u hu)
end

theorem cellsI_one (xs : List Int) : ∀ u ∈ cellsI xs, u.oneCell' = true := by
  intro u hu
  obtain ⟨x, _, rfl⟩ := List.mem_map.1 hu
  rfl

/-- what is owned can be read -/
theorem rd_of_own {w : World} {base : Nat} {e : TypeId} {size : Nat} {A : Option Addr} {n c : Nat} {xs : List Value} (h : w.ownsRow base e size (.slice A n c) n xs) : Rd w w.heap.size A xs := by
  rcases h.2 with ⟨h', h0⟩ | ⟨g, cap, cur, hv, hb, hg, h1, h2, h3, h4⟩
  · left; apply List.eq_nil_of_length_eq_zero; rw [h.1, h0]; simp
  · right
    injection hv with ha
    refine ⟨g, 0, ha, ?_, ?_⟩
    · rcases Nat.lt_or_ge g w.heap.size with hlt | hge
      · exact hlt
      · rw [Array.getElem?_eq_none hge] at hg; cases hg
    · intro j u hu
      have := h.cells (g := g) (by rw [ha]; rfl) j u hu
      rwa [Addr.add_lit] at this
theorem own_slice {w : World} {base : Nat} {e : TypeId} {size : Nat} {v : Value} {n : Nat} {xs : List Value} (h : w.ownsRow base e size v n xs) : ∃ A c, v = .slice A n c ∧ n ≤ c := by
  rcases h.2 with ⟨h', h0⟩ | ⟨g, cap, cur, hv, hb, hg, h1, h2, h3, h4⟩
  · exact ⟨none, 0, by rw [h', h0], by omega⟩
  · exact ⟨_, cap, hv, h1⟩
theorem Rd.below {w w' : World} {B B' : Nat} {A : Option Addr} {cs : List Value} (hr : Rd w B A cs) (hb : Below B' w w') (hB : B ≤ B') : Rd w' B A cs := by
  rcases hr with hr | ⟨b, off, ha, hlt, hc⟩
  · exact .inl hr
  · exact .inr ⟨b, off, ha, hlt, fun j u hu => (hb.cell (p := ⟨b, off + j, none⟩) (by show b < B'; omega)).trans (hc j u hu)⟩
theorem Rd.more {w : World} {B B' : Nat} {A : Option Addr} {cs : List Value} (hr : Rd w B A cs) (hB : B ≤ B') : Rd w B' A cs := by
  rcases hr with hr | ⟨b, off, ha, hlt, hc⟩
  · exact .inl hr
  · exact .inr ⟨b, off, ha, by omega, hc⟩
theorem Tab.pos {w : World} (h : Tab w) : 0 < w.heap.size := World.block_lt_of_cell? w ⟨0, 0, none⟩ (h 0 (by decide))
theorem Tab.below {w w' : World} {B : Nat} (h : Tab w) (hb : Below B w w') (hB : 0 < B) : Tab w' := fun j hj => (hb.cell (p := ⟨0, j, none⟩) hB).trans (h j hj)
theorem Drawn.below {w w' : World} (B : Nat) (h : Drawn w w') : Below B w w' := by obtain ⟨d, rfl⟩ := h; exact ⟨rfl, rfl, rfl, Nat.le_refl _, fun _ _ => rfl⟩


set_option maxRecDepth 100000 in
set_option maxHeartbeats 400000 in
theorem sameInts_yes (xs : List Int) (A A' : Option Addr) (n c c' B B' : Nat) (w : World) (hn : xs.length = n) (hx : AllFit xs) (hr : Rd w B A (cellsI xs)) (hr' : Rd w B' A' (cellsI xs)) (hl : n ≤ maxLen) :
    Calls Tryd.prog 12 #[.slice A n c, .slice A' n c'] w fun e w' => e = .returned (.bool true) ∧ Drawn w w' := by
  subst hn
  unfold maxLen at hl
  have hq : ((xs.length : Int) != (xs.length : Int)) = false := by simp
  go_enter Tryd.func12, Tryd.ntmps12
  go_wp2
  go_loopw [5] (fun i wr => ∃ k : Nat, k ≤ xs.length ∧ i = .int .i64 k ∧ Drawn w wr) (fun i _ => xs.length - (intOf i).toNat)
  case atStart => exact ⟨0, by omega, rfl, Drawn.refl w⟩
  case round =>
    obtain ⟨k, hk, rfl, hdw⟩ := hrel
    by_cases hlt : k < xs.length
    · obtain ⟨b, off, x, rfl, hb, hxk, hc, hd, hxx⟩ := (hdw.rd hr).at_ hx hlt
      obtain ⟨b', off', x', rfl, hb', hxk', hc', hd', hxx'⟩ := (hdw.rd hr').at_ hx hlt
      obtain rfl : x' = x := by have h := hxx.out; rw [hxx'.out] at h; exact Option.some.inj h
      have h1 : (0 : Int) ≤ (k : Int) := by omega
      have h2 : (k : Int) < (xs.length : Int) := by omega
      have h3 : (x' != x') = false := by simp
      go_wp2
      go_quiet (fail)
      go_wp2
      go_roundw
      case rel => exact ⟨k + 1, by omega, by go_num, hdw.drewN _⟩
      case measure => simp [intOf]; omega
    · go_wp2
      go_ret
      exact ⟨rfl, hdw⟩

/-- the marks behind a list that is lent -/
def marks : List Int := [-7770777, -7770777, -7770777, -7770777]

end Go.Proofs.YtpmlljbebdidgaaDoor
/-
  Whole numbers by digits to the base 2^30, the lowest first: plain lists, no program in sight.
-/
namespace Go.Proofs.YtpmlljbebdidgaaDoor

/-- what digits are worth -/
def val : List Int → Int
  | [] => 0
  | d :: ds => d + 1073741824 * val ds
def Dig (ds : List Int) : Prop := ∀ d ∈ ds, 0 ≤ d ∧ d < 1073741824
/-- no nought at the high end -/
def Norm (ds : List Int) : Prop := Dig ds ∧ ds.getLast? ≠ some 0

theorem Dig.nil : Dig [] := fun d h => by cases h
theorem Dig.cons {d : Int} {ds : List Int} (h : 0 ≤ d ∧ d < 1073741824) (hs : Dig ds) : Dig (d :: ds) := fun x hx => by
  rcases List.mem_cons.1 hx with rfl | hx
  · exact h
  · exact hs x hx
theorem Dig.head {d : Int} {ds : List Int} (h : Dig (d :: ds)) : 0 ≤ d ∧ d < 1073741824 := h d (List.mem_cons_self ..)
theorem Dig.tail {d : Int} {ds : List Int} (h : Dig (d :: ds)) : Dig ds := fun x hx => h x (List.mem_cons_of_mem _ hx)
theorem Dig.append {a b : List Int} (ha : Dig a) (hb : Dig b) : Dig (a ++ b) := fun x hx => by
  rcases List.mem_append.1 hx with hx | hx
  · exact ha x hx
  · exact hb x hx
theorem Dig.take {a : List Int} (h : Dig a) (k : Nat) : Dig (a.take k) := fun x hx => h x (List.mem_of_mem_take hx)
theorem Dig.drop {a : List Int} (h : Dig a) (k : Nat) : Dig (a.drop k) := fun x hx => h x (List.mem_of_mem_drop hx)

/-- base to the power n -/
def pw (n : Nat) : Int := 1073741824 ^ n
theorem pw_succ (n : Nat) : pw (n + 1) = 1073741824 * pw n := by unfold pw; rw [Int.pow_succ, Int.mul_comm]
theorem pw_pos (n : Nat) : 1 ≤ pw n := by
  induction n with
  | zero => decide
  | succ n ih => rw [pw_succ]; omega
theorem pw_add (m n : Nat) : pw (m + n) = pw m * pw n := by unfold pw; rw [Int.pow_add]
theorem pw_le {m n : Nat} (h : m ≤ n) : pw m ≤ pw n := by
  obtain ⟨d, rfl⟩ := Nat.exists_eq_add_of_le h
  rw [pw_add]
  have h1 := pw_pos m
  have h2 := pw_pos d
  have := Int.mul_le_mul_of_nonneg_left h2 (show 0 ≤ pw m by omega)
  omega

theorem val_append (a b : List Int) : val (a ++ b) = val a + pw a.length * val b := by
  induction a with
  | nil => simp [val, pw]
  | cons x a ih =>
    simp only [List.cons_append, val, List.length_cons, ih, pw_succ]
    rw [Int.mul_add, Int.mul_assoc]; omega
theorem val_nonneg {ds : List Int} (h : Dig ds) : 0 ≤ val ds := by
  induction ds with
  | nil => simp [val]
  | cons d ds ih => have := ih h.tail; have := h.head; simp only [val]; omega
theorem val_lt {ds : List Int} (h : Dig ds) : val ds < pw ds.length := by
  induction ds with
  | nil => simp [val, pw]
  | cons d ds ih => have := ih h.tail; have := h.head; simp only [val, List.length_cons, pw_succ]; omega
theorem val_zeros (n : Nat) : val (List.replicate n 0) = 0 := by
  induction n with
  | zero => rfl
  | succ n ih => simp [List.replicate_succ, val, ih]

theorem Norm.nil : Norm [] := ⟨Dig.nil, by simp⟩
theorem val_low {ds : List Int} (h : Norm ds) (hn : ds ≠ []) : pw (ds.length - 1) ≤ val ds := by
  obtain ⟨a, d, rfl⟩ : ∃ a d, ds = a ++ [d] := ⟨ds.dropLast, ds.getLast hn, (List.dropLast_concat_getLast hn).symm⟩
  have hd := h.1 d (by simp)
  have h0 : d ≠ 0 := by have := h.2; simpa using this
  have ha := val_nonneg (h.1.take a.length)
  rw [List.take_left] at ha
  rw [val_append]
  have e : (a ++ [d]).length - 1 = a.length := by simp
  rw [e]
  have h1 := pw_pos a.length
  have h2 : val [d] = d := by simp [val]
  rw [h2]
  have := Int.mul_le_mul_of_nonneg_left (show 1 ≤ d by omega) (show 0 ≤ pw a.length by omega)
  omega
theorem val_pos {ds : List Int} (h : Norm ds) (hn : ds ≠ []) : 0 < val ds := by
  have := val_low h hn
  have := pw_pos (ds.length - 1)
  omega
theorem val_zero {ds : List Int} (h : Norm ds) : val ds = 0 ↔ ds = [] := by
  constructor
  · intro h0
    by_cases hn : ds = []
    · exact hn
    · have := val_pos h hn; omega
  · rintro rfl; rfl

/-- fewer digits: less -/
theorem val_shorter {a b : List Int} (ha : Dig a) (hb : Norm b) (h : a.length < b.length) : val a < val b := by
  have h1 := val_lt ha
  have h2 := val_low hb (by intro e; rw [e] at h; simp at h)
  have h3 := pw_le (show a.length ≤ b.length - 1 by omega)
  omega
/-- the highest digits that differ decide -/
theorem val_split (a : List Int) (i : Nat) (x : Int) (h : a[i]? = some x) : val a = val (a.take i) + pw i * (x + 1073741824 * val (a.drop (i + 1))) := by
  obtain ⟨hi, hx⟩ := List.getElem?_eq_some_iff.1 h
  have e : a = a.take i ++ (x :: a.drop (i + 1)) := by
    rw [← hx, ← List.drop_eq_getElem_cons hi, List.take_append_drop]
  have h2 : val (a.take i ++ (x :: a.drop (i + 1))) = _ := val_append _ _
  rw [← e] at h2
  rw [h2]
  simp only [List.length_take, Nat.min_eq_left (Nat.le_of_lt hi), val]
theorem val_decides {a b : List Int} (ha : Dig a) (hb : Dig b) {i : Nat} {x y : Int} (hx : a[i]? = some x) (hy : b[i]? = some y) (he : a.drop (i + 1) = b.drop (i + 1)) (h : x < y) : val a < val b := by
  rw [val_split a i x hx, val_split b i y hy, he]
  have h1 := val_lt (ha.take i)
  have h2 := val_nonneg (hb.take i)
  have h3 : pw (a.take i).length ≤ pw i := pw_le (by simp; omega)
  have h4 := pw_pos i
  generalize 1073741824 * val (b.drop (i + 1)) = r
  have h5 := Int.mul_le_mul_of_nonneg_left (show x + r + 1 ≤ y + r by omega) (show 0 ≤ pw i by omega)
  rw [Int.mul_add] at h5
  omega

/-! ### adding -/
def padSum : List Int → List Int → List Int
  | [], b => b
  | a, [] => a
  | x :: a, y :: b => (x + y) :: padSum a b
theorem padSum_nil (a : List Int) : padSum a [] = a := by cases a <;> rfl
theorem padSum_val (a : List Int) : ∀ b, val (padSum a b) = val a + val b := by
  induction a with
  | nil => intro b; simp [padSum, val]
  | cons x a ih =>
    intro b
    cases b with
    | nil => simp [padSum, val]
    | cons y b => simp only [padSum, val, ih]; omega
theorem padSum_length (a : List Int) : ∀ b, (padSum a b).length = max a.length b.length := by
  induction a with
  | nil => intro b; simp [padSum]
  | cons x a ih =>
    intro b
    cases b with
    | nil => simp [padSum]
    | cons y b => simp only [padSum, List.length_cons, ih]; omega
theorem padSum_drop (a : List Int) : ∀ (b : List Int) (k : Nat), (padSum a b).drop k = padSum (a.drop k) (b.drop k) := by
  induction a with
  | nil => intro b k; simp [padSum]
  | cons x a ih =>
    intro b k
    cases b with
    | nil => simp [padSum_nil]
    | cons y b =>
      cases k with
      | zero => rfl
      | succ k => simpa [padSum] using ih b k
def carryOn (c : Int) : List Int → List Int
  | [] => if 0 < c then [c] else []
  | s :: ss => (c + s) % 1073741824 :: carryOn ((c + s) / 1073741824) ss
theorem carryOn_val (ss : List Int) : ∀ c, 0 ≤ c → (∀ s ∈ ss, 0 ≤ s) → val (carryOn c ss) = c + val ss := by
  induction ss with
  | nil =>
    intro c hc _
    unfold carryOn
    split
    · simp [val]
    · simp [val]; omega
  | cons s ss ih =>
    intro c hc hs
    have h0 := hs s (List.mem_cons_self ..)
    simp only [carryOn, val]
    rw [ih _ (by omega) (fun x hx => hs x (List.mem_cons_of_mem _ hx))]
    omega
theorem carryOn_dig (ss : List Int) : ∀ c, 0 ≤ c → c < 1073741824 → (∀ s ∈ ss, 0 ≤ s ∧ s ≤ 2147483646) → Dig (carryOn c ss) := by
  induction ss with
  | nil =>
    intro c hc hb _
    unfold carryOn
    split
    · exact Dig.cons ⟨hc, hb⟩ Dig.nil
    · exact Dig.nil
  | cons s ss ih =>
    intro c hc hb hs
    have h0 := hs s (List.mem_cons_self ..)
    exact Dig.cons (by omega) (ih _ (by omega) (by omega) (fun x hx => hs x (List.mem_cons_of_mem _ hx)))
theorem carryOn_length (ss : List Int) : ∀ c, (carryOn c ss).length ≤ ss.length + 1 := by
  induction ss with
  | nil => intro c; unfold carryOn; split <;> simp
  | cons s ss ih => intro c; have := ih ((c + s) / 1073741824); simp only [carryOn, List.length_cons]; omega
theorem padSum_bound (a : List Int) : ∀ b, Dig a → Dig b → ∀ s ∈ padSum a b, 0 ≤ s ∧ s ≤ 2147483646 := by
  induction a with
  | nil => intro b _ hb s hs; have := hb s (by simpa [padSum] using hs); omega
  | cons x a ih =>
    intro b ha hb s hs
    cases b with
    | nil => have := ha s (by simpa [padSum] using hs); omega
    | cons y b =>
      simp only [padSum, List.mem_cons] at hs
      rcases hs with rfl | hs
      · have := ha.head; have := hb.head; omega
      · exact ih b ha.tail hb.tail s hs

/-! ### taking away -/
def padDiff : List Int → List Int → List Int
  | [], _ => []
  | a, [] => a
  | x :: a, y :: b => (x - y) :: padDiff a b
theorem padDiff_nil (a : List Int) : padDiff a [] = a := by cases a <;> rfl
theorem padDiff_val (a : List Int) : ∀ b, b.length ≤ a.length → val (padDiff a b) = val a - val b := by
  induction a with
  | nil => intro b h; obtain rfl : b = [] := List.eq_nil_of_length_eq_zero (by simpa using h); rfl
  | cons x a ih =>
    intro b h
    cases b with
    | nil => simp [padDiff, val]
    | cons y b => simp only [padDiff, val, ih b (by simpa using h)]; omega
theorem padDiff_length (a : List Int) : ∀ b, (padDiff a b).length = a.length := by
  induction a with
  | nil => intro b; simp [padDiff]
  | cons x a ih => intro b; cases b with
    | nil => simp [padDiff]
    | cons y b => simp [padDiff, ih]
theorem padDiff_drop (a : List Int) : ∀ (b : List Int) (k : Nat), (padDiff a b).drop k = padDiff (a.drop k) (b.drop k) := by
  induction a with
  | nil => intro b k; simp [padDiff]
  | cons x a ih =>
    intro b k
    cases b with
    | nil => simp [padDiff_nil]
    | cons y b =>
      cases k with
      | zero => rfl
      | succ k => simpa [padDiff] using ih b k
theorem padDiff_bound (a : List Int) : ∀ b, Dig a → Dig b → ∀ s ∈ padDiff a b, -1073741824 < s ∧ s < 1073741824 := by
  induction a with
  | nil => intro b _ _ s hs; cases hs
  | cons x a ih =>
    intro b ha hb s hs
    cases b with
    | nil => have := ha s (by simpa [padDiff] using hs); omega
    | cons y b =>
      simp only [padDiff, List.mem_cons] at hs
      rcases hs with rfl | hs
      · have := ha.head; have := hb.head; omega
      · exact ih b ha.tail hb.tail s hs
def borrowOn (c : Int) : List Int → List Int
  | [] => []
  | s :: ss => if s - c < 0 then (s - c + 1073741824) :: borrowOn 1 ss else (s - c) :: borrowOn 0 ss
theorem borrowOn_length (ss : List Int) : ∀ c, (borrowOn c ss).length = ss.length := by
  induction ss with
  | nil => intro c; rfl
  | cons s ss ih => intro c; unfold borrowOn; split <;> simp [ih]
theorem borrowOn_dig (ss : List Int) : ∀ c, 0 ≤ c → c ≤ 1 → (∀ s ∈ ss, -1073741824 < s ∧ s < 1073741824) → Dig (borrowOn c ss) := by
  induction ss with
  | nil => intro c _ _ _; exact Dig.nil
  | cons s ss ih =>
    intro c h0 h1 hs
    have hs0 := hs s (List.mem_cons_self ..)
    have hs1 := fun x hx => hs x (List.mem_cons_of_mem _ hx)
    unfold borrowOn
    split
    · exact Dig.cons (by omega) (ih 1 (by omega) (by omega) hs1)
    · exact Dig.cons (by omega) (ih 0 (by omega) (by omega) hs1)
theorem borrowOn_val (ss : List Int) : ∀ c, 0 ≤ c → c ≤ 1 → ∃ r : Int, (r = 0 ∨ r = 1) ∧ val (borrowOn c ss) = val ss - c + r * pw ss.length := by
  induction ss with
  | nil => intro c h0 h1; exact ⟨c, by omega, by simp [borrowOn, val, pw]; omega⟩
  | cons s ss ih =>
    intro c h0 h1
    unfold borrowOn
    split
    · obtain ⟨r, hr, h⟩ := ih 1 (by omega) (by omega)
      refine ⟨r, hr, ?_⟩
      simp only [val, h, List.length_cons, pw_succ]
      rw [Int.mul_left_comm]
      omega
    · obtain ⟨r, hr, h⟩ := ih 0 (by omega) (by omega)
      refine ⟨r, hr, ?_⟩
      simp only [val, h, List.length_cons, pw_succ]
      rw [Int.mul_left_comm]
      omega
theorem less_val {a b : List Int} (ha : Dig a) (hb : Dig b) (hl : b.length ≤ a.length) (h : val b ≤ val a) : val (borrowOn 0 (padDiff a b)) = val a - val b := by
  obtain ⟨r, hr, hv⟩ := borrowOn_val (padDiff a b) 0 (by omega) (by omega)
  rw [padDiff_val a b hl, padDiff_length] at hv
  have h1 := val_lt (borrowOn_dig (padDiff a b) 0 (by omega) (by omega) (padDiff_bound a b ha hb))
  rw [borrowOn_length, padDiff_length] at h1
  have h2 := pw_pos a.length
  rcases hr with rfl | rfl
  · omega
  · omega

/-! ### trimming -/
theorem val_trim {ds : List Int} {n : Nat} (h : ∀ d ∈ ds.drop n, d = 0) : val (ds.take n) = val ds := by
  have e := val_append (ds.take n) (ds.drop n)
  rw [List.take_append_drop] at e
  have hz : ∀ l : List Int, (∀ d ∈ l, d = 0) → val l = 0 := by
    intro l
    induction l with
    | nil => intro _; rfl
    | cons x l ih => intro hl; simp only [val, hl x (List.mem_cons_self ..), ih (fun d hd => hl d (List.mem_cons_of_mem _ hd))]; omega
  rw [hz _ h] at e
  omega

/-! ### a digit times a row -/
/-- x times the digits bs, added onto os from the low end, c carried in -/
def row (x c : Int) : List Int → List Int → List Int
  | [], _ => []
  | o :: os, [] => (o + c) :: os
  | o :: os, y :: bs => (o + x * y + c) % 1073741824 :: row x ((o + x * y + c) / 1073741824) os bs
def mulOn : List Int → List Int → List Int → List Int
  | [], os, _ => os
  | x :: a, os, b => match row x 0 os b with
    | [] => []
    | o :: rest => o :: mulOn a rest b
theorem row_length (x : Int) (os : List Int) : ∀ (c : Int) (bs : List Int), (row x c os bs).length = os.length := by
  induction os with
  | nil => intro c bs; rfl
  | cons o os ih => intro c bs; cases bs <;> simp [row, ih]
theorem row_val (x : Int) (os : List Int) : ∀ (c : Int) (bs : List Int), bs.length < os.length → val (row x c os bs) = val os + x * val bs + c := by
  induction os with
  | nil => intro c bs h; simp at h
  | cons o os ih =>
    intro c bs h
    cases bs with
    | nil => simp only [row, val]; omega
    | cons y bs =>
      simp only [row, val]
      rw [ih _ bs (by simpa using h)]
      rw [Int.mul_add x y, Int.mul_left_comm x]
      omega
theorem prod_bound {x y : Int} (hx : 0 ≤ x ∧ x < 1073741824) (hy : 0 ≤ y ∧ y < 1073741824) : 0 ≤ x * y ∧ x * y ≤ 1152921502459363329 := by
  refine ⟨Int.mul_nonneg hx.1 hy.1, ?_⟩
  have h1 := Int.mul_le_mul_of_nonneg_right (show x ≤ 1073741823 by omega) hy.1
  have h2 := Int.mul_le_mul_of_nonneg_left (show y ≤ 1073741823 by omega) (show (0 : Int) ≤ 1073741823 by omega)
  omega
/-- digits stay digits, where the place behind the row is nought -/
theorem row_dig (x : Int) (hx : 0 ≤ x ∧ x < 1073741824) (os : List Int) : ∀ (c : Int) (bs : List Int), 0 ≤ c → c < 1073741824 → Dig os → Dig bs → os[bs.length]? = some 0 → Dig (row x c os bs) := by
  induction os with
  | nil => intro c bs _ _ _ _ h; simp at h
  | cons o os ih =>
    intro c bs h0 h1 ho hb hz
    cases bs with
    | nil =>
      simp at hz
      subst hz
      exact Dig.cons (by omega) ho.tail
    | cons y bs =>
      have hy := hb.head
      have hoo := ho.head
      have hp := prod_bound hx hy
      exact Dig.cons (by omega) (ih _ bs (by omega) (by omega) ho.tail hb.tail (by simpa using hz))
/-- what lies behind the row stays -/
theorem row_behind (x : Int) (os : List Int) : ∀ (c : Int) (bs : List Int) (j : Nat), bs.length < j → (row x c os bs)[j]? = os[j]? := by
  induction os with
  | nil => intro c bs j _; rfl
  | cons o os ih =>
    intro c bs j h
    cases j with
    | zero => omega
    | succ j =>
      cases bs with
      | nil => simp [row]
      | cons y bs => simpa [row] using ih _ bs j (by simpa using h)
theorem mulOn_val (a : List Int) : ∀ os b, os.length = a.length + b.length → val (mulOn a os b) = val os + val a * val b := by
  induction a with
  | nil => intro os b _; simp [mulOn, val]
  | cons x a ih =>
    intro os b h
    have hl : b.length < os.length := by rw [h, List.length_cons]; omega
    have hv := row_val x os 0 b hl
    have hlen := row_length x os 0 b
    unfold mulOn
    generalize row x 0 os b = r at hv hlen
    cases r with
    | nil => simp only [List.length_nil] at hlen; omega
    | cons o rest =>
      simp only [val] at hv ⊢
      rw [ih rest b (by simp only [List.length_cons] at hlen h; omega)]
      rw [Int.add_mul, Int.mul_add, Int.mul_assoc]
      omega
theorem mulOn_dig (a : List Int) : ∀ os b, os.length = a.length + b.length → Dig a → Dig os → Dig b → (∀ j, b.length ≤ j → ∀ d, os[j]? = some d → d = 0) → Dig (mulOn a os b) := by
  induction a with
  | nil => intro os b _ _ ho _ _; exact ho
  | cons x a ih =>
    intro os b h ha ho hb hz
    have hl : b.length < os.length := by rw [h, List.length_cons]; omega
    have h0 : os[b.length]? = some 0 := by
      rw [List.getElem?_eq_getElem hl, hz b.length (Nat.le_refl _) _ (List.getElem?_eq_getElem hl)]
    have hd := row_dig x ha.head os 0 b (by omega) (by omega) ho hb h0
    have hlen := row_length x os 0 b
    have hbh := row_behind x os 0 b
    unfold mulOn
    generalize row x 0 os b = r at hd hlen hbh
    cases r with
    | nil => exact Dig.nil
    | cons o rest =>
      refine Dig.cons hd.head (ih rest b (by simp only [List.length_cons] at hlen h; omega) ha.tail hd.tail hb (fun j hj d hdj => ?_))
      have := hbh (j + 1) (by omega)
      rw [List.getElem?_cons_succ, hdj] at this
      exact hz (j + 1) (by omega) d this.symm
end Go.Proofs.YtpmlljbebdidgaaDoor
/-
  The references' magnitudes: trim, size, add and less, over slices that read as digits.
-/
namespace Go.Proofs.YtpmlljbebdidgaaDoor
open Go.RowKit

theorem Rd.take {w : World} {B : Nat} {A : Option Addr} {xs : List Int} (h : Rd w B A (cellsI xs)) (k : Nat) : Rd w B A (cellsI (xs.take k)) := by
  rcases h with h | ⟨b, off, ha, hb, hc⟩
  · left
    have : xs = [] := by simpa [cellsI] using h
    subst this; simp [cellsI]
  · refine .inr ⟨b, off, ha, hb, fun j u hu => hc j u ?_⟩
    have hj := (List.getElem?_eq_some_iff.1 hu).1
    simp only [cellsI_length, List.length_take] at hj
    rw [← hu]
    simp [cellsI, show j < k by omega]
theorem Dig.fits {ds : List Int} (h : Dig ds) : AllFit ds := fun x hx => by have := h x hx; unfold Go.Proofs.YtpmlljbebdidgaaDoor.fits; omega


/-- how two numbers compare -/
def cmpI (x y : Int) : Int := if x < y then -1 else if y < x then 1 else 0
theorem cmpI_lt {x y : Int} (h : x < y) : cmpI x y = -1 := if_pos h
theorem cmpI_gt {x y : Int} (h : y < x) : cmpI x y = 1 := by unfold cmpI; rw [if_neg (by omega), if_pos h]
theorem cmpI_eq {x y : Int} (h : x = y) : cmpI x y = 0 := by unfold cmpI; rw [if_neg (by omega), if_neg (by omega)]



end Go.Proofs.YtpmlljbebdidgaaDoor
/-
  The references' magnitudes added: add returns the digits of the sum, in new memory.
-/
namespace Go.Proofs.YtpmlljbebdidgaaDoor
open Go.RowKit

theorem own_slice_max {w : World} {base : Nat} {e : TypeId} {size : Nat} {v : Value} {n : Nat} {xs : List Value} (h : w.ownsRow base e size v n xs) : ∃ A c, v = .slice A n c ∧ n ≤ c ∧ c ≤ maxLen := by
  rcases h.2 with ⟨h', h0⟩ | ⟨g, cap, cur, hv, hb, hg, h1, h2, h3, h4⟩
  · exact ⟨none, 0, by rw [h', h0], by omega, by simp⟩
  · exact ⟨_, cap, hv, h1, h2⟩
theorem own_new {w : World} {base : Nat} {e : TypeId} {size : Nat} {A : Option Addr} {n c : Nat} {xs : List Value} (h : w.ownsRow base e size (.slice A n c) n xs) : ∀ ad, A = some ad → base ≤ ad.block := by
  intro ad ha
  subst ha
  exact (h.lt ad.block rfl).1
theorem getD_zero_of_le {a : List Int} {k : Nat} (h : a.length ≤ k) : a.getD k 0 = 0 := by
  rw [List.getD_eq_getElem?_getD, List.getElem?_eq_none h]; rfl
theorem padSum_at (a : List Int) : ∀ (b : List Int) (k : Nat), k < (padSum a b).length → (padSum a b).drop k = (a.getD k 0 + b.getD k 0) :: (padSum a b).drop (k + 1) := by
  induction a with
  | nil =>
    intro b k h
    simp only [padSum] at h ⊢
    rw [List.drop_eq_getElem_cons h]
    simp [List.getElem?_eq_getElem h]
  | cons x a ih =>
    intro b k h
    cases b with
    | nil =>
      simp only [padSum] at h ⊢
      rw [List.drop_eq_getElem_cons h]
      simp [List.getElem?_eq_getElem h]
    | cons y b =>
      cases k with
      | zero => simp [padSum]
      | succ k =>
        have := ih b k (by simpa [padSum] using h)
        simpa [padSum] using this

end Go.Proofs.YtpmlljbebdidgaaDoor
/-
  The references' magnitudes: less takes the lesser one from the greater one, in new memory.
-/
namespace Go.Proofs.YtpmlljbebdidgaaDoor
open Go.RowKit

theorem padDiff_at (a : List Int) : ∀ (b : List Int) (k : Nat), k < a.length → (padDiff a b).drop k = (a.getD k 0 - b.getD k 0) :: (padDiff a b).drop (k + 1) := by
  induction a with
  | nil => intro b k h; simp at h
  | cons x a ih =>
    intro b k h
    cases b with
    | nil =>
      simp only [padDiff]
      rw [List.drop_eq_getElem_cons h]
      simp [List.getElem?_eq_getElem h]
    | cons y b =>
      cases k with
      | zero => simp [padDiff]
      | succ k =>
        have := ih b k (by simpa using h)
        simpa [padDiff] using this

end Go.Proofs.YtpmlljbebdidgaaDoor
/-
  The references' whole numbers: what a Whole reads as; Of makes one of an int.
-/
namespace Go.Proofs.YtpmlljbebdidgaaDoor
open Go.RowKit

/-- a Whole that is worth z, of n digits -/
def WIs (w : World) (v : Value) (z : Int) (n : Nat) : Prop := ∃ (s : Bool) (A : Option Addr) (c : Nat) (ds : List Int), v = .agg #[.bool s, .slice A n c] ∧ ds.length = n ∧ n ≤ c ∧ c ≤ maxLen ∧ Norm ds ∧ Rd w w.heap.size A (cellsI ds) ∧ z = (if s = true then - val ds else val ds) ∧ (s = true → ds ≠ [])
theorem WIs.below {w w' : World} {v : Value} {z : Int} {n : Nat} (h : WIs w v z n) (hb : Below w.heap.size w w') : WIs w' v z n := by
  obtain ⟨s, A, c, ds, h1, h2, h3, h4, h5, h6, h7, h8⟩ := h
  exact ⟨s, A, c, ds, h1, h2, h3, h4, h5, (h6.below hb (Nat.le_refl _)).more hb.size, h7, h8⟩

/-- a block of a struct's cells, none frozen -/
def Blk (w : World) (g : Nat) (t : TypeId) (cs : Array Value) : Prop := w.heap[g]? = some (.cells cs t (0, 0))
theorem Blk.lt {w : World} {g : Nat} {t : TypeId} {cs : Array Value} (h : Blk w g t cs) : g < w.heap.size := by
  rcases Nat.lt_or_ge g w.heap.size with hlt | hge
  · exact hlt
  · unfold Blk at h; rw [Array.getElem?_eq_none hge] at h; cases h
theorem Blk.cell {w : World} {g : Nat} {t : TypeId} {cs : Array Value} (h : Blk w g t cs) (i : Nat) : w.cell? ⟨g, i, none⟩ = cs[i]? := cell_of_row w g i cs t (0, 0) h
theorem Blk.frozen {w : World} {g : Nat} {t : TypeId} {cs : Array Value} (h : Blk w g t cs) (i : Nat) : w.frozen? ⟨g, i, none⟩ = false := by
  unfold Blk at h; simp [World.frozen?, h]
theorem Blk.grown {w w' : World} {g : Nat} {t : TypeId} {cs : Array Value} {row : Option Nat} (h : Blk w g t cs) (hg : w.grownBy w' row) (hne : some g ≠ row) : Blk w' g t cs := (hg.block g h.lt hne).trans h
theorem Blk.alloc {w : World} {g : Nat} {t : TypeId} {cs : Array Value} (h : Blk w g t cs) (o : Obj) : Blk (w.alloc o) g t cs := (Below.heap_alloc w o g h.lt).trans h
theorem Blk.set {w : World} {g : Nat} {t : TypeId} {cs : Array Value} (h : Blk w g t cs) (i : Nat) (u : Value) : Blk (w.setCell ⟨g, i, none⟩ u) g t (cs.setIfInBounds i u) := by
  unfold Blk at h ⊢
  simp [World.setCell, Array.getElem?_modify, h]
theorem Blk.new (w : World) (b : Nat) (hb : b = w.heap.size) (t : TypeId) (cs : Array Value) : Blk (w.alloc (.cells cs t)) b t cs := by subst hb; exact heap_alloc_new w _
theorem Blk.far {w : World} {g : Nat} {t : TypeId} {cs : Array Value} (h : Blk w g t cs) {p : Addr} (hp : g ≠ p.block) (u : Value) : Blk (w.setCell p u) g t cs := (Below.heap_setCell w p u g hp).trans h
theorem own_ne {w : World} {base g : Nat} {e t : TypeId} {size n : Nat} {v : Value} {xs : List Value} {cs : Array Value} (h : w.ownsRow base e size v n xs) (hg : Blk w g t cs) (hne : e ≠ t) : some g ≠ v.ownBlock := by
  rcases h.2 with ⟨rfl, _⟩ | ⟨g', cap, cur, rfl, _, hh, _⟩
  · simp [Value.ownBlock]
  · intro he
    have : g = g' := by simpa [Value.ownBlock] using he
    subst this
    unfold Blk at hg
    rw [hh] at hg
    injection hg with hg
    injection hg with _ ht
    exact hne ht

theorem own_set {w : World} {base g : Nat} {e t : TypeId} {size n : Nat} {v : Value} {xs : List Value} {cs : Array Value} (h : w.ownsRow base e size v n xs) (hg : Blk w g t cs) (hne : e ≠ t) (j : Nat) (u : Value) : (w.setCell ⟨g, j, none⟩ u).ownsRow base e size v n xs := by
  refine h.kept (row := some g) ⟨rfl, rfl, rfl, by simp, fun k _ hk => Below.heap_setCell w _ u k (fun he => hk (by rw [he]))⟩ (.inr (own_ne h hg hne).symm)

theorem pw_small {k : Nat} {m r z : Int} (h : pw k * m + r = z) (hr : 0 ≤ r) (hm : 1 ≤ m) (hz : z ≤ 9223372036854775808) : k ≤ 2 := by
  rcases Nat.lt_or_ge k 3 with h3 | h3
  · omega
  · exfalso
    have h1 := pw_le h3
    have h2 : pw 3 = 1237940039285380274899124224 := by decide
    have h4 := Int.mul_le_mul_of_nonneg_left hm (show 0 ≤ pw k by have := pw_pos k; omega)
    omega

theorem norm_len {ds : List Int} {k : Nat} (h : Norm ds) (hv : val ds ≤ 9223372036854775808) (hk : ds.length = k) : k ≤ 3 := by
  by_cases h0 : ds = []
  · subst h0; simp at hk; omega
  · have h1 := val_low h h0
    rw [hk] at h1
    have := pw_small (k := k - 1) (m := 1) (r := 0) (z := pw (k - 1)) (by simp) (by omega) (by omega) (by omega)
    omega
theorem of_step {k : Nat} {m d q r z : Int} (h : pw k * m + r = z) (hm : m = d + 1073741824 * q) : pw (k + 1) * q + (r + pw k * d) = z := by
  rw [pw_succ, ← h, hm, Int.mul_add, Int.mul_assoc, Int.mul_left_comm (pw k)]; omega
theorem norm_snoc {out : List Int} {d : Int} (ho : Dig out) (hd : 0 ≤ d ∧ d < 1073741824) (h0 : d ≠ 0) : Norm (out ++ [d]) :=
  ⟨ho.append (Dig.cons hd Dig.nil), by simpa using h0⟩



end Go.Proofs.YtpmlljbebdidgaaDoor
/-
  The references' whole numbers: Negative, Plus, Minus and Cmp.
-/
namespace Go.Proofs.YtpmlljbebdidgaaDoor
open Go.RowKit
attribute [local go_sem ↓] Go.wp_at_zero Go.wp_at_succ


/-- three boxes, laid one behind the other, are there still -/
theorem three_boxes {w w1 : World} {x0 y0 x1 y1 x2 y2 : Value} {T : TypeId} (hb : Below (((w.alloc (.cells #[x0, y0] T)).alloc (.cells #[x1, y1] T)).alloc (.cells #[x2, y2] T)).drew.heap.size (((w.alloc (.cells #[x0, y0] T)).alloc (.cells #[x1, y1] T)).alloc (.cells #[x2, y2] T)).drew w1) :
    w1.cell? ⟨w.heap.size, 0, none⟩ = some x0 ∧ w1.cell? ⟨w.heap.size, 1, none⟩ = some y0 ∧ w1.cell? ⟨w.heap.size + 1, 0, none⟩ = some x1 ∧ w1.cell? ⟨w.heap.size + 1, 1, none⟩ = some y1 ∧
    w1.cell? ⟨w.heap.size + 1 + 1, 0, none⟩ = some x2 ∧ w1.cell? ⟨w.heap.size + 1 + 1, 1, none⟩ = some y2 ∧ w1.frozen? ⟨w.heap.size + 1 + 1, 0, none⟩ = false ∧ w1.frozen? ⟨w.heap.size + 1 + 1, 1, none⟩ = false ∧ w.heap.size + 1 + 1 < w1.heap.size ∧ Blk w1 (w.heap.size + 1 + 1) T #[x2, y2] := by
  have s3 : (((w.alloc (.cells #[x0, y0] T)).alloc (.cells #[x1, y1] T)).alloc (.cells #[x2, y2] T)).drew.heap.size = w.heap.size + 1 + 1 + 1 := by simp [World.drew]
  have b0 : Blk w1 w.heap.size T #[x0, y0] := (hb.block w.heap.size (by rw [s3]; omega)).trans (((Blk.new w _ rfl T #[x0, y0]).alloc _).alloc _)
  have b1 : Blk w1 (w.heap.size + 1) T #[x1, y1] := (hb.block (w.heap.size + 1) (by rw [s3]; omega)).trans ((Blk.new (w.alloc (.cells #[x0, y0] T)) (w.heap.size + 1) (by simp) T #[x1, y1]).alloc _)
  have b2 : Blk w1 (w.heap.size + 1 + 1) T #[x2, y2] := (hb.block (w.heap.size + 1 + 1) (by rw [s3]; omega)).trans (Blk.new ((w.alloc (.cells #[x0, y0] T)).alloc (.cells #[x1, y1] T)) (w.heap.size + 1 + 1) (by simp) T #[x2, y2])
  exact ⟨b0.cell 0, b0.cell 1, b1.cell 0, b1.cell 1, b2.cell 0, b2.cell 1, b2.frozen 0, b2.frozen 1, b2.lt, b2⟩

/-- a result's box, written -/
theorem box_written {w1 : World} {g : Nat} {T : TypeId} {x y : Value} (h : Blk w1 g T #[x, y]) (u v : Value) : Blk ((w1.setCell ⟨g, 0, none⟩ u).setCell ⟨g, 1, none⟩ v) g T #[u, v] := by
  have := (h.set 0 u).set 1 v
  simpa using this
theorem Rd.set_new {w : World} {B lo : Nat} {A : Option Addr} {cs : List Value} (h : Rd w B A cs) (hn : ∀ ad, A = some ad → lo ≤ ad.block) {p : Addr} (hp : p.block < lo) (u : Value) : Rd (w.setCell p u) B A cs := by
  rcases h with h | ⟨b, off, ha, hb, hc⟩
  · exact .inl h
  · refine .inr ⟨b, off, ha, hb, fun j v hv => ?_⟩
    have := hn _ ha
    simp only at this
    rw [World.cell?_setCell_other _ _ _ _ (by intro e; have e2 := congrArg Addr.block e; simp only at e2; omega)]
    exact hc j v hv

/-- the digits lie in new memory -/
def New (w : World) (v : Value) : Prop := ∀ s A n c ad, v = .agg #[.bool s, .slice A n c] → A = some ad → w.heap.size ≤ ad.block
theorem New.of {w : World} {s : Bool} {A : Option Addr} {n c : Nat} (h : ∀ ad, A = some ad → w.heap.size ≤ ad.block) : New w (.agg #[.bool s, .slice A n c]) := by
  intro s' A' n' c' ad h1 h2
  injection h1 with h1
  simp at h1
  obtain ⟨_, rfl, _⟩ := h1
  exact h ad h2
theorem New.to {w : World} {s : Bool} {A : Option Addr} {n c : Nat} (h : New w (.agg #[.bool s, .slice A n c])) : ∀ ad, A = some ad → w.heap.size ≤ ad.block := fun ad h1 => h s A n c ad rfl h1
/-- it makes a Whole worth z -/
def Makes (w : World) (z : Int) (e : Ending) (w' : World) : Prop := ∃ v' k, e = .returned v' ∧ WIs w' v' z k ∧ New w v' ∧ Below w.heap.size w w'

/-- what behind the call of a digits' function, and behind the stores of its answer, a Whole is worth -/
theorem makes_of {w W w1 : World} {A₁ : Option Addr} {k c₁ : Nat} {ds : List Int} {x y : Value} {T : TypeId} {z : Int} (s : Bool) (hb0 : Below w.heap.size w W) (hW : W.heap.size = w.heap.size + 1 + 1 + 1) (hk : ds.length = k) (hkc : k ≤ c₁) (hcm : c₁ ≤ maxLen) (hds : Norm ds) (hrd : Rd w1 w1.heap.size A₁ (cellsI ds))
    (hnew : ∀ ad, A₁ = some ad → W.heap.size ≤ ad.block) (hbw : Below W.heap.size W w1) (hz : z = (if s = true then - val ds else val ds)) (hs : s = true → ds ≠ []) (_hbox : Blk w1 (w.heap.size + 1 + 1) T #[x, y]) :
    Makes w z (.returned (.agg #[.bool s, .slice A₁ k c₁])) ((w1.setCell ⟨w.heap.size + 1 + 1, 0, none⟩ (.bool s)).setCell ⟨w.heap.size + 1 + 1, 1, none⟩ (.slice A₁ k c₁)) := by
  have hbb : Below w.heap.size w w1 := hb0.trans (hbw.mono (by omega))
  rw [hW] at hnew
  refine ⟨_, k, rfl, ⟨s, A₁, c₁, ds, rfl, hk, hkc, hcm, hds, ?_, hz, hs⟩, New.of (fun ad h2 => by have := hnew ad h2; omega), (hbb.setCell (by simp; omega) _).setCell (by simp; omega) _⟩
  have := (hrd.set_new hnew (p := ⟨w.heap.size + 1 + 1, 0, none⟩) (by simp) (.bool s)).set_new hnew (p := ⟨w.heap.size + 1 + 1, 1, none⟩) (by simp) (.slice A₁ k c₁)
  simpa using this



end Go.Proofs.YtpmlljbebdidgaaDoor
/-
  The references' whole numbers: Plus where the signs differ; Plus at every two of them; Minus; Cmp.
-/
namespace Go.Proofs.YtpmlljbebdidgaaDoor
open Go.RowKit
attribute [local go_sem ↓] Go.wp_at_zero Go.wp_at_succ

theorem below_drewN {B : Nat} {a w : World} (h : Below B a w) (n : Nat) : Below B a (w.drewN n) := ⟨h.os, h.tape, h.output, h.size, h.block⟩
theorem three_blks {w w1 : World} {x0 y0 x1 y1 x2 y2 : Value} {T : TypeId} (hb : Below (((w.alloc (.cells #[x0, y0] T)).alloc (.cells #[x1, y1] T)).alloc (.cells #[x2, y2] T)).drew.heap.size (((w.alloc (.cells #[x0, y0] T)).alloc (.cells #[x1, y1] T)).alloc (.cells #[x2, y2] T)).drew w1) :
    Blk w1 w.heap.size T #[x0, y0] ∧ Blk w1 (w.heap.size + 1) T #[x1, y1] ∧ Blk w1 (w.heap.size + 1 + 1) T #[x2, y2] := by
  have s3 : (((w.alloc (.cells #[x0, y0] T)).alloc (.cells #[x1, y1] T)).alloc (.cells #[x2, y2] T)).drew.heap.size = w.heap.size + 1 + 1 + 1 := by simp [World.drew]
  exact ⟨(hb.block w.heap.size (by rw [s3]; omega)).trans (((Blk.new w _ rfl T #[x0, y0]).alloc _).alloc _), (hb.block (w.heap.size + 1) (by rw [s3]; omega)).trans ((Blk.new (w.alloc (.cells #[x0, y0] T)) (w.heap.size + 1) (by simp) T #[x1, y1]).alloc _),
    (hb.block (w.heap.size + 1 + 1) (by rw [s3]; omega)).trans (Blk.new ((w.alloc (.cells #[x0, y0] T)).alloc (.cells #[x1, y1] T)) (w.heap.size + 1 + 1) (by simp) T #[x2, y2])⟩
theorem Blk.kept {w w' : World} {g : Nat} {t : TypeId} {cs : Array Value} (h : Blk w g t cs) (hb : Below w.heap.size w w') : Blk w' g t cs := (hb.block g h.lt).trans h
theorem boxes_then {w w1 : World} {x0 y0 x1 y1 x2 y2 : Value} {T : TypeId} {k : Nat} (hb : Below ((((w.alloc (.cells #[x0, y0] T)).alloc (.cells #[x1, y1] T)).alloc (.cells #[x2, y2] T)).drewN k).heap.size ((((w.alloc (.cells #[x0, y0] T)).alloc (.cells #[x1, y1] T)).alloc (.cells #[x2, y2] T)).drewN k) w1) :
    w1.cell? ⟨w.heap.size, 0, none⟩ = some x0 ∧ w1.cell? ⟨w.heap.size, 1, none⟩ = some y0 ∧ w1.cell? ⟨w.heap.size + 1, 0, none⟩ = some x1 ∧ w1.cell? ⟨w.heap.size + 1, 1, none⟩ = some y1 ∧
    w1.cell? ⟨w.heap.size + 1 + 1, 0, none⟩ = some x2 ∧ w1.cell? ⟨w.heap.size + 1 + 1, 1, none⟩ = some y2 ∧ w1.frozen? ⟨w.heap.size + 1 + 1, 0, none⟩ = false ∧ w1.frozen? ⟨w.heap.size + 1 + 1, 1, none⟩ = false ∧ w.heap.size + 1 + 1 < w1.heap.size ∧ Blk w1 (w.heap.size + 1 + 1) T #[x2, y2] :=
  three_boxes ⟨hb.os, hb.tape, hb.output, hb.size, hb.block⟩








theorem WIs.len {w : World} {v : Value} {z : Int} {n m : Nat} (h : WIs w v z n) (hz : z.natAbs < pw m) : n ≤ m := by
  obtain ⟨s, A, c, ds, rfl, hn, hc, hcm, hnorm, hr, hzv, hs⟩ := h
  by_cases h0 : ds = []
  · subst h0; simp at hn; omega
  · have h1 := val_low hnorm h0
    have h2 := val_nonneg hnorm.1
    rcases Nat.lt_or_ge m n with h | h
    · have h3 := pw_le (show m ≤ ds.length - 1 by omega)
      cases s <;> simp at hzv <;> omega
    · exact h


end Go.Proofs.YtpmlljbebdidgaaDoor
/-
  The references' whole numbers: Minus, Cmp and Int.
-/
namespace Go.Proofs.YtpmlljbebdidgaaDoor
open Go.RowKit
attribute [local go_sem ↓] Go.wp_at_zero Go.wp_at_succ

/-- a Whole in new memory, stored into the box of the answer -/
theorem makes_stored {w w2 : World} {s : Bool} {A : Option Addr} {k c g : Nat} {z : Int} (hw : WIs w2 (.agg #[.bool s, .slice A k c]) z k) (hnew : ∀ ad, A = some ad → g < ad.block) (hg : w.heap.size ≤ g) (hb : Below w.heap.size w w2) :
    Makes w z (.returned (.agg #[.bool s, .slice A k c])) ((w2.setCell ⟨g, 0, none⟩ (.bool s)).setCell ⟨g, 1, none⟩ (.slice A k c)) := by
  obtain ⟨s', A', c', ds, h1, h2, h3, h4, h5, h6, h7, h8⟩ := hw
  injection h1 with h1
  simp at h1
  obtain ⟨rfl, rfl, rfl⟩ := h1
  refine ⟨_, k, rfl, ⟨s, A, c, ds, rfl, h2, h3, h4, h5, ?_, h7, h8⟩, New.of (fun ad h => by have := hnew ad h; omega), (hb.setCell hg _).setCell hg _⟩
  have := (h6.set_new (lo := g + 1) (fun ad h => hnew ad h) (p := ⟨g, 0, none⟩) (by simp) (.bool s)).set_new (lo := g + 1) (fun ad h => hnew ad h) (p := ⟨g, 1, none⟩) (by simp) (.slice A k c)
  simpa using this


theorem cmp_sign {s s' : Bool} {a b : List Int} {z z' : Int} (ha : Norm a) (hb : Norm b) (hz : z = (if s = true then - val a else val a)) (hz' : z' = (if s' = true then - val b else val b)) (hs : s = true → a ≠ []) (hs' : s' = true → b ≠ []) :
    cmpI z z' = if s = s' then (if s = true then - cmpI (val a) (val b) else cmpI (val a) (val b)) else (if s = true then -1 else 1) := by
  have h1 := val_nonneg ha.1
  have h2 := val_nonneg hb.1
  cases s <;> cases s'
  · simp at hz hz' ⊢; rw [hz, hz']
  · simp at hz hz' hs' ⊢
    have := val_pos hb hs'
    exact cmpI_gt (by omega)
  · simp at hz hz' hs ⊢
    have := val_pos ha hs
    exact cmpI_lt (by omega)
  · simp at hz hz' ⊢
    unfold cmpI
    split <;> split <;> first | omega | (split <;> omega)

end Go.Proofs.YtpmlljbebdidgaaDoor
/-
  The references' whole numbers: Int: a Whole as an int, if it fits.
-/
namespace Go.Proofs.YtpmlljbebdidgaaDoor
open Go.RowKit
attribute [local go_sem ↓] Go.wp_at_zero Go.wp_at_succ

theorem one_blk {w w1 : World} {x0 y0 : Value} {T : TypeId} (hb : Below (w.alloc (.cells #[x0, y0] T)).drew.heap.size (w.alloc (.cells #[x0, y0] T)).drew w1) : Blk w1 w.heap.size T #[x0, y0] := by
  have s3 : (w.alloc (.cells #[x0, y0] T)).drew.heap.size = w.heap.size + 1 := by simp [World.drew]
  exact (hb.block w.heap.size (by rw [s3]; omega)).trans (Blk.new w _ rfl T #[x0, y0])
theorem val_part {ds : List Int} (h : Dig ds) (j : Nat) : val (ds.drop j) ≤ val ds := by
  have e := val_append (ds.take j) (ds.drop j)
  rw [List.take_append_drop] at e
  have h1 := val_nonneg (h.take j)
  have h2 := val_nonneg (h.drop j)
  have h3 := pw_pos (ds.take j).length
  have h4 := Int.mul_le_mul_of_nonneg_right h3 h2
  omega
theorem fitsLow : fits (-9223372036854775808) := by unfold fits; omega
theorem fitsHigh : fits 9223372036854775807 := by unfold fits; omega

def IntPost (w : World) (z : Int) (e : Ending) (w' : World) : Prop := e = .returned (.tuple #[.int .i64 (okOf z), .bool (okB z)]) ∧ Below w.heap.size w w'





end Go.Proofs.YtpmlljbebdidgaaDoor
/-
  The references' whole numbers: Times, by the school's method, in place.
-/
namespace Go.Proofs.YtpmlljbebdidgaaDoor
open Go.RowKit
attribute [local go_sem ↓] Go.wp_at_zero Go.wp_at_succ

/-- one place of a row -/
theorem row_step {x c o y : Int} {os bs : List Int} {p : Int} (hp : x * y = p) : row x c (o :: os) (y :: bs) = (o + p + c) % 1073741824 :: row x ((o + p + c) / 1073741824) os bs := by rw [row, hp]
theorem drop_set_next (l : List Int) (j : Nat) (u : Int) : (l.set j u).drop (j + 1) = l.drop (j + 1) := by
  rw [List.drop_set]; simp
theorem take_set_le (l : List Int) {i j : Nat} (u : Int) (h : i ≤ j) : (l.set j u).take i = l.take i := by
  apply List.ext_getElem?
  intro k
  simp only [List.getElem?_take, List.getElem?_set]
  split
  · split
    · omega
    · rfl
  · rfl
theorem drop_take_set (l : List Int) (i k : Nat) (u : Int) (h : i + k < l.length) : ((l.set (i + k) u).drop i).take (k + 1) = (l.drop i).take k ++ [u] := by
  have hl : k < ((l.set (i + k) u).drop i).length := by simp; omega
  rw [List.take_succ_eq_append_getElem hl]
  congr 1
  · apply List.ext_getElem?
    intro j
    simp only [List.getElem?_take, List.getElem?_drop, List.getElem?_set]
    split
    · split
      · omega
      · rfl
    · rfl
  · simp
theorem Dig.set {l : List Int} (h : Dig l) (j : Nat) {u : Int} (hu : 0 ≤ u ∧ u < 1073741824) : Dig (l.set j u) := fun x hx => by
  rcases List.mem_or_eq_of_mem_set hx with hx | rfl
  · exact h x hx
  · exact hu
theorem cellsI_set (l : List Int) (j : Nat) (u : Int) : (cellsI l).set j (.int .i64 u) = cellsI (l.set j u) := by simp [cellsI, List.map_set]
theorem mul_step {a zs b out out3 : List Int} {i : Nat} {x : Int} (Ho : mulOn a zs b = out.take i ++ mulOn (a.drop i) (out.drop i) b) (ha : a.drop i = x :: a.drop (i + 1)) (hi : i < out3.length) (ht : out3.take i = out.take i) (hrow : row x 0 (out.drop i) b = out3.drop i) :
    mulOn a zs b = out3.take (i + 1) ++ mulOn (a.drop (i + 1)) (out3.drop (i + 1)) b := by
  rw [Ho, ha, mulOn, hrow, List.drop_eq_getElem_cons hi]
  simp only
  rw [List.take_succ_eq_append_getElem hi, ht, List.append_assoc]
  rfl
theorem madeCells_int (n : Nat) : (madeCells (Value.int .i64 0).cells (n * 1)).toList = cellsI (List.replicate n 0) := by
  simp only [madeCells, Value.cells, cellsI]
  apply List.ext_getElem
  · simp
  · intro j h1 h2; simp [Nat.mod_one]
end Go.Proofs.YtpmlljbebdidgaaDoor
/-
  The references' whole numbers: the walk of Times.
-/
namespace Go.Proofs.YtpmlljbebdidgaaDoor
open Go.RowKit
attribute [local go_sem ↓] Go.wp_at_zero Go.wp_at_succ

end Go.Proofs.YtpmlljbebdidgaaDoor
/-
  The references' whole numbers: Times at every two of them; the document's answer for Add, Sub and Mul.
-/
namespace Go.Proofs.YtpmlljbebdidgaaDoor
open Go.RowKit
attribute [local go_sem ↓] Go.wp_at_zero Go.wp_at_succ



theorem WIs.short {w : World} {v : Value} {z : Int} {n : Nat} (h : WIs w v z n) (m : Nat) (hz : z.natAbs < pw m) : n ≤ m := h.len hz




end Go.Proofs.YtpmlljbebdidgaaDoor
/-
  Kept answers true of a list that was lent and is as it was; awake answers true.
-/
namespace Go.Proofs.YtpmlljbebdidgaaDoor
open Go.RowKit

theorem AllFit.lent (xs : List Int) (h : AllFit xs) : AllFit (xs ++ marks) := by
  intro x hx
  rcases List.mem_append.1 hx with hx | hx
  · exact h x hx
  · simp [marks] at hx; subst hx; unfold fits; omega

/-- what a list that is lent owns, as cells -/
theorem lent_cells {w : World} {base g n : Nat} {xs : List Int} (h : w.ownsRow base 3 1 (.slice (some ⟨g, 0, none⟩) (n + 4) (n + 4)) (n + 4) (cellsI (xs ++ marks))) (hn : xs.length = n) :
    Rd w w.heap.size (some ⟨g, 0, none⟩) (cellsI xs) ∧ ∀ j, n ≤ j → j < n + 4 → w.cell? ⟨g, j, none⟩ = some (.int .i64 (-7770777)) := by
  have hr := rd_of_own h
  rcases hr with hr | ⟨b, off, ha, hb, hc⟩
  · have := h.1; rw [hr] at this; simp at this
  · injection ha with ha
    injection ha with ha1 ha2
    subst ha1 ha2
    refine ⟨.inr ⟨g, 0, rfl, hb, fun j u hu => hc j u ?_⟩, fun j h1 h2 => ?_⟩
    · have hj := (List.getElem?_eq_some_iff.1 hu).1
      unfold cellsI at hu hj ⊢
      rw [List.map_append, List.getElem?_append_left hj]; exact hu
    · have hcj := hc j (.int .i64 (-7770777)) (by
        rw [cellsI, List.map_append, List.getElem?_append_right (by simpa [hn] using h1)]
        obtain ⟨d, rfl⟩ : ∃ d, j = n + d := ⟨j - n, by omega⟩
        have e : n + d - (List.map (Value.int .i64) xs).length = d := by simp [hn]
        rw [e]
        match d, h2 with
        | 0, _ => rfl
        | 1, _ => rfl
        | 2, _ => rfl
        | 3, _ => rfl
        | d + 4, h2 => exact absurd h2 (by omega))
      rwa [Nat.zero_add] at hcj


theorem Below.drewN {B : Nat} {a w : World} (h : Below B a w) (n : Nat) : Below B a (w.drewN n) := ⟨h.os, h.tape, h.output, h.size, h.block⟩
theorem Tab.alloc {w : World} (h : Tab w) (o : Obj) : Tab (w.alloc o) := h.below ((Below.refl _ _).alloc (Nat.le_refl _) o) h.pos
theorem Tab.drewN {w : World} (h : Tab w) (n : Nat) : Tab (w.drewN n) := h
theorem rd_alloc (w : World) (b : Nat) (hb : b = w.heap.size) (T : TypeId) (cs : List Value) : Rd (w.alloc (.cells cs.toArray T)) (b + 1) (some ⟨b, 0, none⟩) cs := by
  subst hb
  refine .inr ⟨w.heap.size, 0, rfl, by omega, fun j u hu => ?_⟩
  rw [Nat.zero_add, cell_of_row _ _ _ cs.toArray T (0, 0) (heap_alloc_new w _)]
  simpa using hu

theorem mul_23 (w : World) : Calls Tryd.prog 76 #[.int .i64 (-2), .int .i64 3] w fun e w' => e = .returned (.tuple #[.int .i64 (-6), .bool true]) ∧ w = w' :=
  (mul_any (-2) 3 w (by unfold fits; omega) (by unfold fits; omega)).mono fun _ _ ⟨h, h'⟩ => ⟨h.trans (tup2 (by decide) (by decide)), h'⟩
theorem allFit_lit {xs : List Int} (h : ∀ x ∈ xs, -9223372036854775808 ≤ x ∧ x ≤ 9223372036854775807) : AllFit xs := fun x hx => h x hx
theorem gcd_lit (w : World) (b : Nat) (hb : b = w.heap.size) (hT : Tab w) : Calls Tryd.prog 67 #[.slice (some ⟨b, 0, none⟩) 2 2] (w.alloc (.cells #[.int .i64 12, .int .i64 (-18)] 3)) fun e w' => e = .returned (.tuple #[.int .i64 6, .bool true]) ∧ (w.alloc (.cells #[.int .i64 12, .int .i64 (-18)] 3)) = w' :=
  (gcd_any [12, -18] _ 2 2 (b + 1) _ rfl (allFit_lit (by simp)) (rd_alloc w b hb 3 (cellsI [12, -18])) (by unfold maxLen; decide) (hT.alloc _)).mono fun _ _ ⟨h, h'⟩ => ⟨h.trans (tup2 (by decide) (by decide)), h'⟩
theorem lcm_lit (w : World) (b : Nat) (hb : b = w.heap.size) (hT : Tab w) : Calls Tryd.prog 41 #[.slice (some ⟨b, 0, none⟩) 2 2] (w.alloc (.cells #[.int .i64 4, .int .i64 (-6)] 3)) fun e w' => e = .returned (.tuple #[.int .i64 12, .bool true]) ∧ Drawn (w.alloc (.cells #[.int .i64 4, .int .i64 (-6)] 3)) w' :=
  (lcm_any [4, -6] _ 2 2 (b + 1) _ rfl (allFit_lit (by simp)) (rd_alloc w b hb 3 (cellsI [4, -6])) (by unfold maxLen; decide) (hT.alloc _)).mono fun _ _ ⟨h, h'⟩ => ⟨h.trans (tup2 (by decide) (by decide)), h'⟩

end Go.Proofs.YtpmlljbebdidgaaDoor
/-
  The document's answer for Gcd (Euclid's way), and IntsGcds: it answers true at every list.
-/
namespace Go.Proofs.YtpmlljbebdidgaaDoor
open Go.RowKit




theorem own_below {w w' : World} {base : Nat} {e : TypeId} {size n : Nat} {v : Value} {xs : List Value} (h : w.ownsRow base e size v n xs) (hb : Below w.heap.size w w') : w'.ownsRow base e size v n xs := by
  refine h.kept (row := none) ⟨hb.os, hb.tape, hb.output, hb.size, fun k hk _ => hb.block k hk⟩ ?_
  cases v.ownBlock <;> simp

end Go.Proofs.YtpmlljbebdidgaaDoor
/-
  In a seat that has ints' texts: what the text Ba holds in others (this file stands under the name Ba there).
-/
namespace Go.Proofs.YtpmlljbebdidgaaDoor
open Go.RowKit
theorem own_ge {w : World} {base : Nat} {e : TypeId} {size n k : Nat} {v : Value} {xs : List Value} (h : w.ownsRow base e size v n xs) (hk : v.ownBlock = some k) : base ≤ k := by
  rcases h.2 with ⟨rfl, _⟩ | ⟨g, cap, cur, rfl, hg, _⟩
  · simp [Value.ownBlock] at hk
  · simp [Value.ownBlock] at hk; omega
end Go.Proofs.YtpmlljbebdidgaaDoor
