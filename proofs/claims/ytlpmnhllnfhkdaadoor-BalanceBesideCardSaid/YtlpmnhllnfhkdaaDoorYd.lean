/-
  pianolaref13.gcd.
-/
import Derived.Test.YtlpmnhllnfhkdaaDoorM4
namespace Go.Proofs.YtlpmnhllnfhkdaaDoor
open Go.RowKit

set_option maxRecDepth 100000 in
set_option maxHeartbeats 1000000 in
theorem rgcd_any (a b : Nat) (w : World) (ha : a < 9223372036854775808) (hb : b < 9223372036854775808) :
    Calls Tryd.prog 42 #[.int .i64 (a : Nat), .int .i64 (b : Nat)] w fun e w' => e = .returned (.int .i64 (Nat.gcd a b : Nat)) ∧ w = w' := by
  obtain ⟨g, hg⟩ : ∃ g, Nat.gcd a b = g := ⟨_, rfl⟩
  rw [hg]
  have HG := Lib.hid hg
  clear hg
  go_enter Tryd.func42, Tryd.ntmps42
  go_wp2_with fail
  go_loopw [0, 1, 5] (fun x y _ wr => ∃ p q : Nat, x = .int .i64 (p : Nat) ∧ y = .int .i64 (q : Nat) ∧ p < 9223372036854775808 ∧ q < 9223372036854775808 ∧ Hid (Nat.gcd p q = g) ∧ wr = w) (fun _ y _ _ => (intOf y).toNat)
  case atStart => exact ⟨a, b, rfl, rfl, ha, hb, HG, rfl⟩
  case round =>
    clear ha hb HG
    obtain ⟨p, q, rfl, rfl, hp, hq, H, rfl⟩ := hrel
    by_cases h0 : q = 0
    · subst h0
      obtain rfl : p = g := by have := H.out; rw [Nat.gcd_zero_right] at this; exact this
      go_wp2_with fail
      go_ret
      exact ⟨rfl, rfl⟩
    · have d0 : ((q : Int) != 0) = true := by simp; exact h0
      have hne : (q : Int) ≠ 0 := by omega
      have hm : ((p : Int)).tmod (q : Int) = ((p % q : Nat) : Int) := by rw [Int.tmod_eq_emod_of_nonneg (by omega)]; exact (Int.natCast_emod p q).symm
      have hlt : p % q < q := Nat.mod_lt _ (by omega)
      have H2 : Hid (Nat.gcd q (p % q) = g) := by unfold Hid; rw [← H.out, Nat.gcd_comm p q, Nat.gcd_rec q p, Nat.gcd_comm]
      go_wp2_with fail
      go_roundw
      case rel => exact ⟨q, p % q, rfl, by first | rfl | rw [hm], hq, by omega, H2, trivial⟩
      case measure => simp [intOf]; omega
end Go.Proofs.YtlpmnhllnfhkdaaDoor
