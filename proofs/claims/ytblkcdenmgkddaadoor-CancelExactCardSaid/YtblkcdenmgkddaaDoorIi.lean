/-
  The document's answer for Gcd (Euclid's way), and IntsGcds: it answers true at every list.
-/
import Derived.Test.YtblkcdenmgkddaaDoorIf
namespace Go.Proofs.YtblkcdenmgkddaaDoor
open Go.RowKit


set_option maxHeartbeats 400000 in
theorem common_any (x y : Nat) (hx : x < 18446744073709551616) (hy : y < 18446744073709551616) (w : World) :
    Calls Tryd.prog 23 #[.int .u64 x, .int .u64 y] w fun e w' => e = .returned (.int .u64 (Nat.gcd x y : Nat)) ∧ w = w' := by
  go_enter Tryd.func23, Tryd.ntmps23
  go_wp2
  go_loop [0, 1] (fun s t => ∃ p q : Nat, s = .int .u64 p ∧ t = .int .u64 q ∧ p < 18446744073709551616 ∧ q < 18446744073709551616 ∧ Hid (Nat.gcd p q = Nat.gcd x y)) (fun _ t => (intOf t).toNat)
  case atStart => exact ⟨x, y, rfl, rfl, hx, hy, rfl⟩
  case round =>
    obtain ⟨p, q, rfl, rfl, hp, hq, hpq⟩ := hrel
    by_cases hq0 : q = 0
    · subst hq0
      go_wp2
      go_ret
      exact ⟨retu (by rw [← hpq.out, Nat.gcd_zero_right]), rfl⟩
    · have e3 : ((q : Int) != 0) = true := by simp; omega
      have hm : p % q < q := Nat.mod_lt _ (by omega)
      go_wp2
      go_round
      case rel => exact ⟨q, p % q, rfl, by rw [Int.natCast_emod], hq, by omega, by unfold Hid; rw [← hpq.out, Nat.gcd_comm p q, Nat.gcd_rec q p, Nat.gcd_comm]⟩
      case measure => simp [intOf]; omega


theorem own_below {w w' : World} {base : Nat} {e : TypeId} {size n : Nat} {v : Value} {xs : List Value} (h : w.ownsRow base e size v n xs) (hb : Below w.heap.size w w') : w'.ownsRow base e size v n xs := by
  refine h.kept (row := none) ⟨hb.os, hb.tape, hb.output, hb.size, fun k hk _ => hb.block k hk⟩ ?_
  cases v.ownBlock <;> simp

end Go.Proofs.YtblkcdenmgkddaaDoor
