/-
  The document's answer for Gcd (Euclid's way), and IntsGcds: it answers true at every list.
-/
import Derived.Test.YtlnbmjebkpkclaaDoorIf
namespace Go.Proofs.YtlnbmjebkpkclaaDoor
open Go.RowKit

theorem refSize_any (a : Int) (w : World) (ha : fits a) :
    Calls Tryd.prog 43 #[.int .i64 a] w fun e w' => e = .returned (.int .u64 (a.natAbs : Int)) ∧ w = w' := by
  unfold fits at ha
  go_enter Tryd.func43, Tryd.ntmps43
  go_wp2
  all_goals go_ret
  all_goals (refine ⟨ret1 ?_, rfl⟩)
  · rw [IntKind.wrap_u64, IntKind.wrap_u64]; omega
  · omega

set_option maxHeartbeats 400000 in
theorem common_any (x y : Nat) (hx : x < 18446744073709551616) (hy : y < 18446744073709551616) (w : World) :
    Calls Tryd.prog 42 #[.int .u64 x, .int .u64 y] w fun e w' => e = .returned (.int .u64 (Nat.gcd x y : Nat)) ∧ w = w' := by
  go_enter Tryd.func42, Tryd.ntmps42
  go_wp2
  go_loop [0, 1] (fun s t => ∃ p q : Nat, s = .int .u64 p ∧ t = .int .u64 q ∧ p < 18446744073709551616 ∧ q < 18446744073709551616 ∧ Hid (Nat.gcd p q = Nat.gcd x y)) (fun _ t => (intOf t).toNat)
  case atStart => exact ⟨x, y, rfl, rfl, hx, hy, rfl⟩
  case round =>
    obtain ⟨p, q, rfl, rfl, hp, hq, hpq⟩ := hrel
    by_cases hq0 : q = 0
    · subst hq0
      go_wp2
      go_ret
      exact ⟨retu (by rw [← hpq.out, Nat.gcd_zero_right]), rfl⟩
    · have e3 : ((q : Int) != 0) = true := by simp; omega
      have hm : p % q < q := Nat.mod_lt _ (by omega)
      go_wp2
      go_round
      case rel => exact ⟨q, p % q, rfl, by rw [Int.natCast_emod], hq, by omega, by unfold Hid; rw [← hpq.out, Nat.gcd_comm p q, Nat.gcd_rec q p, Nat.gcd_comm]⟩
      case measure => simp [intOf]; omega

set_option maxHeartbeats 400000 in
theorem refGcd_any (xs : List Int) (A : Option Addr) (n c B : Nat) (w : World) (hn : xs.length = n) (hx : AllFit xs) (hr : Rd w B A (cellsI xs)) (hl : xs.length ≤ maxLen) :
    Calls Tryd.prog 26 #[.slice A n c] w fun e w' => e = .returned (.tuple #[.int .i64 (okOf (gcdFrom 0 xs)), .bool (okB (gcdFrom 0 xs))]) ∧ w = w' := by
  subst hn
  unfold maxLen at hl
  go_enter Tryd.func26, Tryd.ntmps26
  go_wp2
  go_loop [4, 5] (fun t i => ∃ (k : Nat) (g : Nat), k ≤ xs.length ∧ i = .int .i64 k ∧ t = .int .u64 g ∧ g < 18446744073709551616 ∧ Hid (gcdFrom 0 xs = gcdFrom g (xs.drop k))) (fun _ i => xs.length - (intOf i).toNat)
  case atStart => exact ⟨0, 0, Nat.zero_le _, rfl, rfl, by omega, rfl⟩
  case round =>
    obtain ⟨k, g, hk, rfl, rfl, hg, He⟩ := hrel
    by_cases hlt : k < xs.length
    · obtain ⟨b, off, x, rfl, hb, hxk, hc, hd, -⟩ := hr.at_ hx hlt
      have hxa := natAbs_fit hxk
      have hgl := gcd_lt hg hxa
      go_wp2_with (first | (go_at_call 43; refine (refSize_any _ _ hxk).mono ?_; rintro e w' ⟨rfl, rfl⟩) | (go_at_call 42; refine (common_any _ _ hg hxa _).mono ?_; rintro e w' ⟨rfl, rfl⟩))
      go_round
      case rel => exact ⟨k + 1, Nat.gcd g x.natAbs, by omega, by go_num, rfl, hgl, by unfold Hid; rw [He.out, hd.out]; rfl⟩
      case measure => simp [intOf]; omega
    · have hd : xs.drop k = [] := List.drop_eq_nil_of_le (by omega)
      have hge : gcdFrom 0 xs = g := by rw [He.out, hd]; rfl
      have Hge := Lib.hid hge
      clear hd hge
      go_wp2
      · go_ret2
        have h : 9223372036854775807 < (g : Int) := by assumption
        exact ⟨by rw [Hge.out]; exact tup2 (val_no (by unfold fits; omega)) (b_no (by unfold fits; omega)), rfl⟩
      · go_ret2
        have h : (g : Int) ≤ 9223372036854775807 := by assumption
        exact ⟨by rw [Hge.out]; exact tup2 (val_yes (by unfold fits; omega)) (b_yes (by unfold fits; omega)), rfl⟩

theorem own_below {w w' : World} {base : Nat} {e : TypeId} {size n : Nat} {v : Value} {xs : List Value} (h : w.ownsRow base e size v n xs) (hb : Below w.heap.size w w') : w'.ownsRow base e size v n xs := by
  refine h.kept (row := none) ⟨hb.os, hb.tape, hb.output, hb.size, fun k hk _ => hb.block k hk⟩ ?_
  cases v.ownBlock <;> simp

set_option maxHeartbeats 1000000 in
theorem gcds_any (xs : List Int) (A : Option Addr) (n c : Nat) (w : World) (hn : xs.length = n) (hc : n ≤ c) (hx : AllFit xs) (hr : Rd w w.heap.size A (cellsI xs)) (hz : c * 8 ≤ 140737488351232) (hT : Tab w) :
    Calls Tryd.prog 5 #[.slice A n c] w fun e w' => e = .returned (.bool true) ∧ Below w.heap.size w w' := by
  have hnm : xs.length ≤ maxLen := by unfold maxLen; omega
  go_enter Tryd.func5, Tryd.ntmps5
  go_wp2_with fail
  refine (lent_any xs A n c w.heap.size w hn hr (by omega) (Nat.le_refl _)).mono ?_
  rintro e w1 ⟨g, rfl, hg, hown, hb1⟩
  have hr1 := hr.below hb1 (Nat.le_refl _)
  obtain ⟨hr2, -⟩ := lent_cells hown hn
  have hT1 := hT.below hb1 hT.pos
  go_wp2_with (first
    | (go_at_call 25; refine (gcd_any xs _ n _ _ _ hn hx hr2 hnm hT1).mono ?_; rintro e w' ⟨rfl, rfl⟩)
    | (go_at_call 26; refine (refGcd_any xs _ n _ _ _ hn hx hr1 hnm).mono ?_; rintro e w' ⟨rfl, rfl⟩)
    | (go_at_call 20; refine (awake_any _ hT1).mono ?_; rintro e w2 ⟨rfl, hb2⟩))
  have hr3 := hr1.below hb2 hb1.size
  have hown3 := own_below hown hb2
  go_wp2_with (go_at_call 24; refine (kept_yes xs A n c g _ _ _ hn hx hr3 (by omega) hown3).mono ?_; rintro e w3 ⟨rfl, hd3⟩)
  go_ret
  exact ⟨rfl, (hb1.trans (hb2.mono hb1.size)).trans (hd3.below _)⟩
end Go.Proofs.YtlnbmjebkpkclaaDoor
