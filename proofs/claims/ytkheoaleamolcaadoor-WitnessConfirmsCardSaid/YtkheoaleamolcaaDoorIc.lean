/-
  The walk of ints.divisor: the greatest common divisor by halves.
-/
import Derived.Test.YtkheoaleamolcaaDoorIb
import Derived.Test.YtkheoaleamolcaaDoorIp
namespace Go.Proofs.YtkheoaleamolcaaDoor
open Go.RowKit

theorem retu {a b : Int} (h : a = b) : Ending.returned (.int .u64 a) = .returned (.int .u64 b) := by rw [h]

set_option maxHeartbeats 1000000 in
theorem divisor_pos (x y : Nat) (hx : x < 18446744073709551616) (hy : y < 18446744073709551616) (hx0 : 0 < x) (hy0 : 0 < y) (w : World) (hT : Tab w) :
    Calls Tryd.prog 44 #[.int .u64 x, .int .u64 y] w fun e w' => e = .returned (.int .u64 (Nat.gcd x y : Nat)) ∧ w = w' := by
  have e1 : ((x : Int) == 0) = false := by simp; omega
  have e2 : ((y : Int) == 0) = false := by simp; omega
  have ho : bits BinOp.or IntKind.u64 (x : Int) (y : Int) = ((x ||| y : Nat) : Int) := bits_or_u64_nat x y hx hy
  have hol : x ||| y < 18446744073709551616 := Nat.or_lt_two_pow (n := 64) hx hy
  have ho0 : x ||| y ≠ 0 := by intro h; have := (Nat.or_eq_zero_iff.1 h).1; omega
  obtain ⟨a, hsa, ha1, hxa, hax, ha0⟩ := ctz_shr hx (by omega : x ≠ 0)
  obtain ⟨b, -, hb1, hyb, -, hb0⟩ := ctz_shr hy (by omega : y ≠ 0)
  have Hg := Lib.hid (gcd_halves hxa hyb ha1 hb1)
  have Hc := Lib.hid (ctz_or hol hxa hyb ha1 hb1)
  have Ha1 := Lib.hid ha1
  have hgx : Nat.gcd x y ≤ x := Nat.gcd_le_left _ hx0
  clear hxa hyb ha1 hb1 hb0
  go_enter Tryd.func44, Tryd.ntmps44
  go_wp2_with (go_at_call 46; refine (tz_any _ (by assumption) (by first | assumption | omega) _ hT).mono ?_; rintro e w' ⟨rfl, rfl⟩)
  clear hsa e1 e2 ho
  go_loop [0, 1] (fun s t => ∃ p q : Nat, s = .int .u64 p ∧ t = .int .u64 q ∧ p < 18446744073709551616 ∧ q < 18446744073709551616 ∧ Hid (p % 2 = 1) ∧ Hid (Nat.gcd p q = Nat.gcd a y)) (fun s t => (intOf s).toNat + (intOf t).toNat)
  case atStart => exact ⟨a, y, rfl, rfl, by omega, hy, Ha1, rfl⟩
  case round =>
    obtain ⟨p, q, rfl, rfl, hp, hq, hp1, hpq⟩ := hrel
    have hp0 : 0 < p := by have := hp1.out; omega
    by_cases hq0 : q = 0
    · subst hq0
      have hlim : Nat.gcd x y < 18446744073709551616 := by omega
      go_wp2
      go_ret
      refine ⟨retu ?_, rfl⟩
      obtain ⟨_, _, hc64⟩ := ctz_split hol ho0
      have hpe : p = Nat.gcd a y := by rw [← hpq.out, Nat.gcd_zero_right]
      have hz : (p : Int) * 2 ^ min (Lib.ctz 64 (x ||| y)) 64 = ((Nat.gcd x y : Nat) : Int) := by
        rw [Nat.min_eq_left (by omega), Hc.out, Hg.out, ← hpe]
        simp [Int.natCast_pow]
      rw [hz]
      exact wrapN _ hlim
    · have e3 : ((q : Int) != 0) = true := by simp; omega
      obtain ⟨r, hsr, hr1, hqr, hrq, hr0⟩ := ctz_shr hq hq0
      have Hr1 := Lib.hid hr1
      have Hq := Lib.hid (gcd_strip hp1.out hqr)
      clear hr1 hqr
      go_wp2_with (go_at_call 46; refine (tz_any _ (by assumption) (by first | assumption | omega) _ hT).mono ?_; rintro e w' ⟨rfl, rfl⟩)
      · go_round
        case rel => exact ⟨r, p - r, by go_num, by go_num, by omega, by omega, Hr1, (gcd_less (by omega)).trans ((Nat.gcd_comm _ _).trans (Hq.out.symm.trans hpq.out))⟩
        case measure => simp [intOf]; omega
      · go_round
        case rel => exact ⟨p, r - p, by go_num, by go_num, by omega, by omega, hp1, (gcd_less (by omega)).trans (Hq.out.symm.trans hpq.out)⟩
        case measure => simp [intOf]; omega

set_option maxHeartbeats 400000 in
theorem divisor_zero (x y : Nat) (hx : x < 18446744073709551616) (hy : y < 18446744073709551616) (h : x = 0 ∨ y = 0) (w : World) :
    Calls Tryd.prog 44 #[.int .u64 x, .int .u64 y] w fun e w' => e = .returned (.int .u64 (Nat.gcd x y : Nat)) ∧ w = w' := by
  have ho : bits BinOp.or IntKind.u64 (x : Int) (y : Int) = ((x ||| y : Nat) : Int) := bits_or_u64_nat x y hx hy
  by_cases h1 : x = 0
  · have e1 : ((x : Int) == 0) = true := by simp; omega
    have he : x ||| y = Nat.gcd x y := by rw [h1]; simp
    have He := Lib.hid he
    clear he h1 h
    go_enter Tryd.func44, Tryd.ntmps44
    go_wp2
    go_ret
    exact ⟨retu (by rw [He.out]), rfl⟩
  · have h2 : y = 0 := by omega
    have e1 : ((x : Int) == 0) = false := by simp; omega
    have e2 : ((y : Int) == 0) = true := by simp; omega
    have he : x ||| y = Nat.gcd x y := by rw [h2]; simp
    have He := Lib.hid he
    clear he h1 h h2
    go_enter Tryd.func44, Tryd.ntmps44
    go_wp2
    go_ret
    exact ⟨retu (by rw [He.out]), rfl⟩

theorem divisor_any (x y : Nat) (hx : x < 18446744073709551616) (hy : y < 18446744073709551616) (w : World) (hT : Tab w) :
    Calls Tryd.prog 44 #[.int .u64 x, .int .u64 y] w fun e w' => e = .returned (.int .u64 (Nat.gcd x y : Nat)) ∧ w = w' := by
  by_cases h : x = 0 ∨ y = 0
  · exact divisor_zero x y hx hy h w
  · exact divisor_pos x y hx hy (by omega) (by omega) w hT
end Go.Proofs.YtkheoaleamolcaaDoor
