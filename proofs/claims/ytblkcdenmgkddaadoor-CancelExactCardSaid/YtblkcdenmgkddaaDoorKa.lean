/-
  frac: size, common, signed, lowest, times: what they answer, and where they give up.
-/
import Derived.Test.YtblkcdenmgkddaaDoorWl
import Derived.Test.YtblkcdenmgkddaaDoorKp
import Derived.Test.YtblkcdenmgkddaaDoorOr2
import Derived.WalkLawsBesides
namespace Go.Proofs.YtblkcdenmgkddaaDoor
open Go.RowKit

/-- the panic by which frac gives up -/
def bigP : List PanicEntry := [{ v := .iface 24 (.int .i64 4), recovered := false }]
abbrev big : Ending := .panicked bigP

theorem fsize_any (a : Int) (w : World) (ha : fits a) :
    Calls Tryd.prog 47 #[.int .i64 a] w fun e w' => e = .returned (.int .u64 (a.natAbs : Int)) ∧ w = w' := by
  unfold fits at ha
  go_enter Tryd.func47, Tryd.ntmps47
  go_wp2
  all_goals go_ret
  all_goals (refine ⟨ret1 ?_, rfl⟩)
  · rw [IntKind.wrap_u64, IntKind.wrap_u64]; omega
  · omega

set_option maxHeartbeats 400000 in
theorem fcommon_any (x y : Nat) (hx : x < 18446744073709551616) (hy : y < 18446744073709551616) (w : World) :
    Calls Tryd.prog 50 #[.int .u64 x, .int .u64 y] w fun e w' => e = .returned (.int .u64 (Nat.gcd x y : Nat)) ∧ Drawn w w' := by
  go_enter Tryd.func50, Tryd.ntmps50
  go_wp2
  go_loopw [0, 1] (fun s t wr => ∃ p q : Nat, s = .int .u64 p ∧ t = .int .u64 q ∧ p < 18446744073709551616 ∧ q < 18446744073709551616 ∧ Drawn w wr ∧ Hid (Nat.gcd p q = Nat.gcd x y)) (fun _ t _ => (intOf t).toNat)
  case atStart => exact ⟨x, y, rfl, rfl, hx, hy, Drawn.refl w, rfl⟩
  case round =>
    obtain ⟨p, q, rfl, rfl, hp, hq, hdw, Hg⟩ := hrel
    by_cases h0 : q = 0
    · subst h0
      go_wp2
      go_ret
      refine ⟨ret1 ?_, hdw⟩
      rw [← Hg.out, Nat.gcd_zero_right]
    · have e3 : ((q : Int) != 0) = true := by simp; omega
      have hm : p % q < q := Nat.mod_lt _ (by omega)
      have hq0 : (q : Int) ≠ 0 := by omega
      go_wp2
      go_quiet (fail)
      go_wp2
      go_roundw
      case rel => exact ⟨q, p % q, rfl, by rw [Int.natCast_emod], hq, by omega, hdw.drewN _, by unfold Hid; rw [← Hg.out, Nat.gcd_comm p q, Nat.gcd_rec q p, Nat.gcd_comm]⟩
      case measure => simp [intOf]; omega

/-- a size that fits, with its sign -/
def sOk (b : Bool) (n : Nat) : Prop := fits (sgnI b n)
theorem sOk_t {n : Nat} : sOk true n ↔ n ≤ 9223372036854775808 := by unfold sOk sgnI fits; simp; omega
theorem sOk_f {n : Nat} : sOk false n ↔ n ≤ 9223372036854775807 := by unfold sOk sgnI fits; simp; omega
theorem signed_yes (b : Bool) (n : Nat) (w : World) (h : sOk b n) :
    Calls Tryd.prog 51 #[.bool b, .int .u64 n] w fun e w' => e = .returned (.int .i64 (sgnI b n)) ∧ w = w' := by
  cases b
  · have h1 : (n : Int) ≤ 9223372036854775807 := by have := sOk_f.1 h; omega
    have e : sgnI false n = n := rfl
    rw [e]
    clear h e
    go_enter Tryd.func51, Tryd.ntmps51
    go_wp2
    go_ret
    exact ⟨rfl, rfl⟩
  · have h1 : (n : Int) ≤ 9223372036854775808 := by have := sOk_t.1 h; omega
    have e : sgnI true n = -(n : Int) := rfl
    rw [e]
    clear h e
    go_enter Tryd.func51, Tryd.ntmps51
    go_wp2
    go_ret
    refine ⟨ret1 ?_, rfl⟩
    unfold wrap64
    rw [IntKind.wrap_u64]; omega
theorem signed_no (b : Bool) (n : Nat) (w : World) (h : ¬ sOk b n) :
    Calls Tryd.prog 51 #[.bool b, .int .u64 n] w fun e w' => e = big ∧ w = w' := by
  cases b
  · have h1 : (9223372036854775807 : Int) < n := by rw [sOk_f] at h; omega
    clear h
    go_enter Tryd.func51, Tryd.ntmps51
    go_wp2
    exact ⟨rfl, rfl, rfl⟩
  · have h1 : (9223372036854775808 : Int) < n := by rw [sOk_t] at h; omega
    clear h
    go_enter Tryd.func51, Tryd.ntmps51
    go_wp2
    exact ⟨rfl, rfl, rfl⟩


/-- what lowest answers: q, r: what is left -/
noncomputable def lowE (b : Bool) (q r : Nat) : Ending := @ite _ (sOk b q ∧ sOk false r) (Classical.propDecidable _) (.returned (.agg #[.int .i64 (sgnI b q), .int .i64 r])) big
theorem lowE_yes {b : Bool} {q r : Nat} (h : sOk b q) (h' : sOk false r) : lowE b q r = .returned (.agg #[.int .i64 (sgnI b q), .int .i64 r]) := if_pos ⟨h, h'⟩
theorem lowE_no {b : Bool} {q r : Nat} (h : ¬ (sOk b q ∧ sOk false r)) : lowE b q r = big := if_neg h
end Go.Proofs.YtblkcdenmgkddaaDoor
