/-
  The document's answers for Sum, Dot and Lcm: what the code's answer is, by the whole numbers.
-/
import Derived.Test.YtfielhbepnkekaaWk
import Derived.Test.YtfielhbepnkekaaIkp
namespace Go.Proofs.Ytfielhbepnkekaa
open Go.RowKit
attribute [local go_sem ↓] Go.wp_at_zero Go.wp_at_succ


theorem keep2 {w wc w' : World} {b o b' o' : Nat} {u v : Value} (hbm : Below wc.heap.size wc w') (h : Below w.heap.size w wc) (h1 : wc.cell? ⟨b, o, none⟩ = some u) (h2 : wc.cell? ⟨b', o', none⟩ = some v) (hb : b < w.heap.size) (hb' : b' < w.heap.size) :
    Below w.heap.size w w' ∧ w'.cell? ⟨b, o, none⟩ = some u ∧ w'.cell? ⟨b', o', none⟩ = some v :=
  ⟨h.trans (hbm.mono h.size), (hbm.cell (p := ⟨b, o, none⟩) (Nat.lt_of_lt_of_le hb h.size)).trans h1, (hbm.cell (p := ⟨b', o', none⟩) (Nat.lt_of_lt_of_le hb' h.size)).trans h2⟩

theorem refMul_yes (a b : Int) (w : World) (ha : fits a) (hb : fits b) (h : okB (a * b) = true) : Calls Try.prog 51 #[.int .i64 a, .int .i64 b] w fun e w' => e = .returned (.tuple #[.int .i64 (a * b), .bool true]) ∧ Below w.heap.size w w' := by
  refine (refMul_any a b w ha hb).mono ?_
  rintro e w' ⟨rfl, hb'⟩
  exact ⟨by rw [h, ← val_yes (okB_iff.1 h)], hb'⟩
theorem refMul_no (a b : Int) (w : World) (ha : fits a) (hb : fits b) (h : okB (a * b) = false) : Calls Try.prog 51 #[.int .i64 a, .int .i64 b] w fun e w' => e = .returned (.tuple #[.int .i64 0, .bool false]) ∧ Below w.heap.size w w' := by
  refine (refMul_any a b w ha hb).mono ?_
  rintro e w' ⟨rfl, hb'⟩
  have hn : ¬ fits (a * b) := fun hf => by rw [okB_iff.2 hf] at h; cases h
  exact ⟨by rw [h, ← val_no hn], hb'⟩


theorem lcm_alt (m n : Nat) : m * (n / Nat.gcd m n) = m / Nat.gcd m n * n := by
  rw [lcm_of]
  unfold Nat.lcm
  exact (Nat.mul_div_assoc m (Nat.gcd_dvd_right m n)).symm
theorem lcmGo_step {m : Nat} {x : Int} {xs : List Int} {q : Nat} (hx : x ≠ 0) (hq : x.natAbs / Nat.gcd m x.natAbs = q) (hz : zeroF xs = false) :
    lcmGo m true (x :: xs) = if okB ((m : Int) * (q : Int)) = true then lcmGo (m * q) true xs else (0, false) := by
  have he : m / Nat.gcd m x.natAbs * x.natAbs = m * q := by rw [← hq, lcm_alt]
  rw [lcmGo, if_neg hx, if_neg (by simp), he, ← Int.natCast_mul]
  cases ho : okB ((m * q : Nat) : Int)
  · rw [lcmGo_false _ _ hz, if_neg (by simp)]
  · have hf := okB_iff.1 ho
    unfold fits at hf
    rw [if_pos rfl, Nat.mod_eq_of_lt (by omega)]

set_option maxHeartbeats 1000000 in
theorem refLcm_any (xs : List Int) (A : Option Addr) (n c : Nat) (w : World) (hn : xs.length = n) (hx : AllFit xs) (hr : Rd w w.heap.size A (cellsI xs)) (hl : xs.length ≤ maxLen) :
    Calls Try.prog 50 #[.slice A n c] w fun e w' => e = .returned (.tuple #[.int .i64 (lcmGo 1 true xs).1, .bool (lcmGo 1 true xs).2]) ∧ Below w.heap.size w w' := by
  subst hn
  unfold maxLen at hl
  go_enter Try.func50, Try.ntmps50
  go_wp2
  go_loop [4] (fun i => ∃ k : Nat, k ≤ xs.length ∧ i = .int .i64 k ∧ Hid (zeroF xs = zeroF (xs.drop k))) (fun i => xs.length - (intOf i).toNat)
  case atStart => exact ⟨0, Nat.zero_le _, rfl, rfl⟩
  case round =>
    obtain ⟨k, hk, rfl, Hz⟩ := hrel
    by_cases hlt : k < xs.length
    · obtain ⟨b, off, x, rfl, hb, hxk, hc, hd, -⟩ := hr.at_ hx hlt
      by_cases hx0 : x = 0
      · subst hx0
        have hz : zeroF xs = true := by rw [Hz.out, hd.out, zeroF_cons]; rfl
        have Hl := Lib.hid (lcmGo_zero xs 1 true hz)
        clear hd hz Hz
        go_wp2
        go_ret2
        exact ⟨by rw [Hl.out]; rfl, Below.refl _ _⟩
      · have hz : (x == 0) = false := by simpa using hx0
        have Hz2 : Hid (zeroF xs = zeroF (xs.drop (k + 1))) := by unfold Hid; rw [Hz.out, hd.out, zeroF_cons, hz]; rfl
        clear hd Hz hx0
        go_wp2
        go_round
        case rel => exact ⟨k + 1, by omega, by go_num, Hz2⟩
        case measure => simp [intOf]; omega
    · have hd : xs.drop k = [] := List.drop_eq_nil_of_le (by omega)
      have hz : zeroF xs = false := by rw [Hz.out, hd]; rfl
      have Hz0 := Lib.hid hz
      clear hd hz Hz
      go_wp2
      go_loopw [5, 6] (fun t i wr => ∃ (k m : Nat), k ≤ xs.length ∧ i = .int .i64 k ∧ t = .int .i64 m ∧ 0 < m ∧ m ≤ 9223372036854775807 ∧ Below w.heap.size w wr ∧ Hid (zeroF (xs.drop k) = false) ∧ Hid (lcmGo 1 true xs = lcmGo m true (xs.drop k))) (fun _ i _ => xs.length - (intOf i).toNat)
      case atStart => exact ⟨0, 1, Nat.zero_le _, rfl, rfl, by omega, by omega, Below.refl _ _, Hz0, rfl⟩
      case round =>
        obtain ⟨k, m, hk, rfl, rfl, hm0, hm1, hbw, Hz1, He⟩ := hrel
        by_cases hlt : k < xs.length
        · obtain ⟨b, off, x, rfl, hb, hxk, hc, hd, -⟩ := (hr.below hbw (Nat.le_refl _)).at_ hx hlt
          have hxa := natAbs_fit hxk
          have hz1 := Hz1.out
          rw [hd.out, zeroF_cons, Bool.or_eq_false_iff] at hz1
          have hx0 : x ≠ 0 := by simpa using hz1.1
          have Hz2 := Lib.hid hz1.2
          have hg0 : 0 < Nat.gcd m x.natAbs := Nat.gcd_pos_of_pos_left _ hm0
          obtain ⟨q, hq⟩ : ∃ q, x.natAbs / Nat.gcd m x.natAbs = q := ⟨_, rfl⟩
          have hqx : q ≤ x.natAbs := by rw [← hq]; exact Nat.div_le_self _ _
          have hst := He.out
          rw [hd.out, lcmGo_step hx0 hq hz1.2] at hst
          have Hst := Lib.hid hst
          have hqd : (x.natAbs : Int) / ((Nat.gcd m x.natAbs : Nat) : Int) = (q : Int) := by rw [← hq]; exact (Int.natCast_ediv _ _).symm
          have hgz : ((Nat.gcd m x.natAbs : Nat) : Int) ≠ 0 := by omega
          have hml : m < 18446744073709551616 := by omega
          have hq0 : 0 < q := by rw [← hq]; exact Nat.div_pos (Nat.le_of_dvd (by omega) (Nat.gcd_dvd_right _ _)) hg0
          obtain ⟨g, hg⟩ : ∃ g, Nat.gcd m x.natAbs = g := ⟨_, rfl⟩
          have hcom := fun w => common_any m x.natAbs hml hxa w
          rw [hg] at hqd hgz hcom
          have hgl : g < 18446744073709551616 := by rw [← hg]; exact gcd_lt hml hxa
          clear hst hz1 Hz1 hd He hq hg hg0
          obtain ⟨y, hy⟩ : ∃ y, x.natAbs = y := ⟨_, rfl⟩
          rw [hy] at hqd hqx hxa hcom
          have hsz := fun w => refSize_any x w hxk
          rw [hy] at hsz
          by_cases hqb : q ≤ 9223372036854775807
          · have hqf : fits q := by unfold fits; omega
            have hmf : fits m := by unfold fits; omega
            cases ho : okB ((m : Int) * (q : Int))
            · have ho' := Lib.hid ho
              go_wp2_with (first | (go_at_call 39; refine (hsz _).mono ?_; rintro e w' ⟨rfl, rfl⟩) | (go_at_call 38; refine (hcom _).mono ?_; rintro e w' ⟨rfl, rfl⟩) | (go_at_call 51; refine (refMul_no _ _ _ hmf hqf ho).mono ?_; rintro e w' ⟨rfl, hbm⟩))
              go_ret2
              exact ⟨by rw [Hst.out, ho'.out]; rfl, hbw.trans (hbm.mono hbw.size)⟩
            · have ho' := Lib.hid ho
              have hpos : 0 < m * q := Nat.mul_pos hm0 hq0
              have hof := okB_iff.1 ho
              have hmq : m * q ≤ 9223372036854775807 := by unfold fits at hof; rw [← Int.natCast_mul] at hof; omega
              clear hof
              have Hp := Lib.hid (And.intro hpos hmq)
              clear hpos hmq
              go_wp2_with (first | (go_at_call 39; refine (hsz _).mono ?_; rintro e w' ⟨rfl, rfl⟩) | (go_at_call 38; refine (hcom _).mono ?_; rintro e w' ⟨rfl, rfl⟩) | (go_at_call 51; refine (refMul_yes _ _ _ hmf hqf ho).mono ?_; rintro e w' ⟨rfl, hbm⟩))
              go_roundw
              case rel => exact ⟨k + 1, m * q, by omega, by go_num, by rw [Int.natCast_mul], Hp.out.1, Hp.out.2, hbw.trans (hbm.mono hbw.size), Hz2, by unfold Hid; rw [Hst.out, ho'.out]; rfl⟩
              case measure => simp [intOf]; omega
          · have hno : false = okB ((m : Int) * (q : Int)) := b_no (by intro h; unfold fits at h; have := Int.mul_le_mul_of_nonneg_right (show (1 : Int) ≤ m by omega) (show (0 : Int) ≤ q by omega); omega)
            have Hno := Lib.hid hno
            clear hno
            go_wp2_with (first | (go_at_call 39; refine (hsz _).mono ?_; rintro e w' ⟨rfl, rfl⟩) | (go_at_call 38; refine (hcom _).mono ?_; rintro e w' ⟨rfl, rfl⟩))
            go_ret2
            exact ⟨by rw [Hst.out, ← Hno.out]; rfl, hbw⟩
        · have hd : xs.drop k = [] := List.drop_eq_nil_of_le (by omega)
          have hst := He.out
          rw [hd] at hst
          have Hst := Lib.hid hst
          clear hd hst He Hz1
          go_wp2
          go_ret2
          exact ⟨by rw [Hst.out]; rfl, hbw⟩
end Go.Proofs.Ytfielhbepnkekaa
