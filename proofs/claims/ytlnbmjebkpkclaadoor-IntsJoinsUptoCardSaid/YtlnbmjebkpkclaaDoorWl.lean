/-
  The document's answers for Sum, Dot and Lcm: what the code's answer is, by the whole numbers.
-/
import Derived.Test.YtlnbmjebkpkclaaDoorWk
import Derived.Test.YtlnbmjebkpkclaaDoorIkp
namespace Go.Proofs.YtlnbmjebkpkclaaDoor
open Go.RowKit
attribute [local go_sem ↓] Go.wp_at_zero Go.wp_at_succ

set_option maxHeartbeats 1000000 in
theorem refSum_any (xs : List Int) (A : Option Addr) (n c : Nat) (w : World) (hn : xs.length = n) (hx : AllFit xs) (hr : Rd w w.heap.size A (cellsI xs)) (hl : xs.length ≤ maxLen) :
    Calls Tryd.prog 23 #[.slice A n c] w fun e w' => e = .returned (.tuple #[.int .i64 (sumFrom 0 xs).1, .bool (sumFrom 0 xs).2]) ∧ Below w.heap.size w w' := by
  subst hn
  unfold maxLen at hl
  go_enter Tryd.func23, Tryd.ntmps23
  go_wp2
  go_loopw [4, 5] (fun t i wr => ∃ (k : Nat) (s : Int), k ≤ xs.length ∧ i = .int .i64 k ∧ t = .int .i64 s ∧ fits s ∧ Below w.heap.size w wr ∧ Hid (sumFrom 0 xs = sumFrom s (xs.drop k))) (fun _ i _ => xs.length - (intOf i).toNat)
  case atStart => exact ⟨0, 0, Nat.zero_le _, rfl, rfl, by unfold fits; omega, Below.refl _ _, rfl⟩
  case round =>
    obtain ⟨k, s, hk, rfl, rfl, hs, hbw, He⟩ := hrel
    by_cases hlt : k < xs.length
    · obtain ⟨b, off, x, rfl, hb, hxk, hc, hd, -⟩ := (hr.below hbw (Nat.le_refl _)).at_ hx hlt
      cases hn : okB (s + x)
      · have hn' := Lib.hid hn
        go_wp2_with (go_at_call 17; refine (refAdd_any _ _ _ hs hxk).mono ?_; rintro e w' ⟨rfl, hb'⟩)
        go_ret2
        exact ⟨by rw [He.out, hd.out, sumFrom, hn'.out]; rfl, hbw.trans (hb'.mono hbw.size)⟩
      · have hn' := Lib.hid hn
        go_wp2_with (go_at_call 17; refine (refAdd_any _ _ _ hs hxk).mono ?_; rintro e w' ⟨rfl, hb'⟩)
        go_roundw
        case rel => exact ⟨k + 1, s + x, by omega, by go_num, by rw [← val_yes (okB_iff.1 hn'.out)], okB_iff.1 hn'.out, hbw.trans (hb'.mono hbw.size), by unfold Hid; rw [He.out, hd.out, sumFrom, hn'.out]; rfl⟩
        case measure => simp [intOf]; omega
    · go_wp2
      go_ret2
      have hd : xs.drop k = [] := List.drop_eq_nil_of_le (by omega)
      exact ⟨by rw [He.out, hd]; rfl, hbw⟩

theorem keep2 {w wc w' : World} {b o b' o' : Nat} {u v : Value} (hbm : Below wc.heap.size wc w') (h : Below w.heap.size w wc) (h1 : wc.cell? ⟨b, o, none⟩ = some u) (h2 : wc.cell? ⟨b', o', none⟩ = some v) (hb : b < w.heap.size) (hb' : b' < w.heap.size) :
    Below w.heap.size w w' ∧ w'.cell? ⟨b, o, none⟩ = some u ∧ w'.cell? ⟨b', o', none⟩ = some v :=
  ⟨h.trans (hbm.mono h.size), (hbm.cell (p := ⟨b, o, none⟩) (Nat.lt_of_lt_of_le hb h.size)).trans h1, (hbm.cell (p := ⟨b', o', none⟩) (Nat.lt_of_lt_of_le hb' h.size)).trans h2⟩

theorem refMul_yes (a b : Int) (w : World) (ha : fits a) (hb : fits b) (h : okB (a * b) = true) : Calls Tryd.prog 19 #[.int .i64 a, .int .i64 b] w fun e w' => e = .returned (.tuple #[.int .i64 (a * b), .bool true]) ∧ Below w.heap.size w w' := by
  refine (refMul_any a b w ha hb).mono ?_
  rintro e w' ⟨rfl, hb'⟩
  exact ⟨by rw [h, ← val_yes (okB_iff.1 h)], hb'⟩
theorem refMul_no (a b : Int) (w : World) (ha : fits a) (hb : fits b) (h : okB (a * b) = false) : Calls Tryd.prog 19 #[.int .i64 a, .int .i64 b] w fun e w' => e = .returned (.tuple #[.int .i64 0, .bool false]) ∧ Below w.heap.size w w' := by
  refine (refMul_any a b w ha hb).mono ?_
  rintro e w' ⟨rfl, hb'⟩
  have hn : ¬ fits (a * b) := fun hf => by rw [okB_iff.2 hf] at h; cases h
  exact ⟨by rw [h, ← val_no hn], hb'⟩

set_option maxHeartbeats 1000000 in
theorem refDot_any (xs ys : List Int) (A A' : Option Addr) (n n' c c' : Nat) (w : World) (hn : xs.length = n) (hn' : ys.length = n') (hx : AllFit xs) (hy : AllFit ys) (hr : Rd w w.heap.size A (cellsI xs)) (hr' : Rd w w.heap.size A' (cellsI ys))
    (hl : xs.length ≤ maxLen) (_hl' : ys.length ≤ maxLen) :
    Calls Tryd.prog 30 #[.slice A n c, .slice A' n' c'] w fun e w' => e = .returned (.tuple #[.int .i64 (dotR xs ys).1, .bool (dotR xs ys).2]) ∧ Below w.heap.size w w' := by
  by_cases hne : xs.length = ys.length
  · have hR : dotR xs ys = dotFrom 0 xs ys := by unfold dotR; rw [if_pos hne]
    rw [hR]; clear hR
    subst hn'
    rw [← hne]
    have Hn := Lib.hid hne
    clear hne
    subst hn
    unfold maxLen at hl
    have hq : ((xs.length : Int) != (xs.length : Int)) = false := by simp
    go_enter Tryd.func30, Tryd.ntmps30
    go_wp2
    go_loopw [6, 7] (fun t i wr => ∃ (k : Nat) (s : Int), k ≤ xs.length ∧ i = .int .i64 k ∧ t = .int .i64 s ∧ fits s ∧ Below w.heap.size w wr ∧ Hid (dotFrom 0 xs ys = dotFrom s (xs.drop k) (ys.drop k))) (fun _ i _ => xs.length - (intOf i).toNat)
    case atStart => exact ⟨0, 0, Nat.zero_le _, rfl, rfl, by unfold fits; omega, Below.refl _ _, rfl⟩
    case round =>
      obtain ⟨k, s, hk, rfl, rfl, hs, hbw, He⟩ := hrel
      by_cases hlt : k < xs.length
      · obtain ⟨b, off, x, rfl, hb, hxk, hc, hd, -⟩ := (hr.below hbw (Nat.le_refl _)).at_ hx hlt
        obtain ⟨b', off', y, rfl, hb', hyk, hc', hd', -⟩ := (hr'.below hbw (Nat.le_refl _)).at_ hy (Hn.out ▸ hlt)
        have hst : dotFrom 0 xs ys = if okB (x * y) = true then (if okB (s + x * y) = true then dotFrom (s + x * y) (xs.drop (k + 1)) (ys.drop (k + 1)) else (0, false)) else (0, false) := by
          rw [He.out, hd.out, hd'.out]; rfl
        have Hst := Lib.hid hst
        clear hst hd hd' He
        have h1 : (0 : Int) ≤ (k : Int) := by omega
        have h2 : (k : Int) < (xs.length : Int) := by omega
        cases hp : okB (x * y)
        · have hp' := Lib.hid hp
          go_wp2
          go_region_held3 (fun w' => Below w.heap.size w w' ∧ w'.cell? ⟨b, off + k, none⟩ = some (.int .i64 x) ∧ w'.cell? ⟨b', off' + k, none⟩ = some (.int .i64 y)) (first | exact ⟨hbw.drew, hc, hc'⟩ | exact keep2 (wc := wr.drew) hbm hbw.drew hc hc' hb hb') (first | (go_at_call 19; refine (refMul_no _ _ _ hxk hyk hp).mono ?_; rintro e w' ⟨rfl, hbm⟩))
          go_wp2
          go_ret2
          exact ⟨by rw [Hst.out, hp'.out]; rfl, hbw.drew.trans (hbm.mono hbw.drew.size)⟩
        · have hp' := Lib.hid hp
          have hpf := okB_iff.1 hp
          have hmul := refMul_yes x y
          obtain ⟨p, hpe⟩ : ∃ p, x * y = p := ⟨_, rfl⟩
          rw [hpe] at hpf Hst hp' hp hmul
          cases ha : okB (s + p)
          · have ha' := Lib.hid ha
            go_wp2
            go_region_held3 (fun w' => Below w.heap.size w w' ∧ w'.cell? ⟨b, off + k, none⟩ = some (.int .i64 x) ∧ w'.cell? ⟨b', off' + k, none⟩ = some (.int .i64 y)) (first | exact ⟨hbw.drew, hc, hc'⟩ | exact keep2 (wc := wr.drew) hbm hbw.drew hc hc' hb hb') (first | (go_at_call 19; refine (hmul _ hxk hyk hp).mono ?_; rintro e w' ⟨rfl, hbm⟩))
            have hb2 := hbw.drew.trans (hbm.mono hbw.drew.size)
            go_wp2_with (go_at_call 17; refine (refAdd_any _ _ _ hs hpf).mono ?_; rintro e w'' ⟨rfl, hbn⟩)
            go_ret2
            exact ⟨by rw [Hst.out, hp'.out, ha'.out]; rfl, hb2.trans (hbn.mono hb2.size)⟩
          · have ha' := Lib.hid ha
            go_wp2
            go_region_held3 (fun w' => Below w.heap.size w w' ∧ w'.cell? ⟨b, off + k, none⟩ = some (.int .i64 x) ∧ w'.cell? ⟨b', off' + k, none⟩ = some (.int .i64 y)) (first | exact ⟨hbw.drew, hc, hc'⟩ | exact keep2 (wc := wr.drew) hbm hbw.drew hc hc' hb hb') (first | (go_at_call 19; refine (hmul _ hxk hyk hp).mono ?_; rintro e w' ⟨rfl, hbm⟩))
            have hb2 := hbw.drew.trans (hbm.mono hbw.drew.size)
            go_wp2_with (go_at_call 17; refine (refAdd_any _ _ _ hs hpf).mono ?_; rintro e w'' ⟨rfl, hbn⟩)
            go_roundw
            case rel => exact ⟨k + 1, s + p, by omega, by go_num, by rw [← val_yes (okB_iff.1 ha'.out)], okB_iff.1 ha'.out, hb2.trans (hbn.mono hb2.size), by unfold Hid; rw [Hst.out, hp'.out, ha'.out]; rfl⟩
            case measure => simp [intOf]; omega
      · go_wp2
        go_ret2
        have hd : xs.drop k = [] := List.drop_eq_nil_of_le (by omega)
        have he : dotFrom 0 xs ys = (s, true) := by rw [He.out, hd, dotFrom_nil]
        exact ⟨by rw [he]; rfl, hbw⟩
  · have hR : dotR xs ys = (0, false) := by unfold dotR; rw [if_neg hne]
    rw [hR]; clear hR
    have hq : ((xs.length : Int) != (ys.length : Int)) = true := by simp; omega
    subst hn hn'
    unfold maxLen at hl _hl'
    go_enter Tryd.func30, Tryd.ntmps30
    go_wp2
    go_ret2
    exact ⟨rfl, Below.refl _ _⟩

theorem lcm_alt (m n : Nat) : m * (n / Nat.gcd m n) = m / Nat.gcd m n * n := by
  rw [lcm_of]
  unfold Nat.lcm
  exact (Nat.mul_div_assoc m (Nat.gcd_dvd_right m n)).symm
theorem lcmGo_step {m : Nat} {x : Int} {xs : List Int} {q : Nat} (hx : x ≠ 0) (hq : x.natAbs / Nat.gcd m x.natAbs = q) (hz : zeroF xs = false) :
    lcmGo m true (x :: xs) = if okB ((m : Int) * (q : Int)) = true then lcmGo (m * q) true xs else (0, false) := by
  have he : m / Nat.gcd m x.natAbs * x.natAbs = m * q := by rw [← hq, lcm_alt]
  rw [lcmGo, if_neg hx, if_neg (by simp), he, ← Int.natCast_mul]
  cases ho : okB ((m * q : Nat) : Int)
  · rw [lcmGo_false _ _ hz, if_neg (by simp)]
  · have hf := okB_iff.1 ho
    unfold fits at hf
    rw [if_pos rfl, Nat.mod_eq_of_lt (by omega)]

set_option maxHeartbeats 1000000 in
theorem refLcm_any (xs : List Int) (A : Option Addr) (n c : Nat) (w : World) (hn : xs.length = n) (hx : AllFit xs) (hr : Rd w w.heap.size A (cellsI xs)) (hl : xs.length ≤ maxLen) :
    Calls Tryd.prog 28 #[.slice A n c] w fun e w' => e = .returned (.tuple #[.int .i64 (lcmGo 1 true xs).1, .bool (lcmGo 1 true xs).2]) ∧ Below w.heap.size w w' := by
  subst hn
  unfold maxLen at hl
  go_enter Tryd.func28, Tryd.ntmps28
  go_wp2
  go_loop [4] (fun i => ∃ k : Nat, k ≤ xs.length ∧ i = .int .i64 k ∧ Hid (zeroF xs = zeroF (xs.drop k))) (fun i => xs.length - (intOf i).toNat)
  case atStart => exact ⟨0, Nat.zero_le _, rfl, rfl⟩
  case round =>
    obtain ⟨k, hk, rfl, Hz⟩ := hrel
    by_cases hlt : k < xs.length
    · obtain ⟨b, off, x, rfl, hb, hxk, hc, hd, -⟩ := hr.at_ hx hlt
      by_cases hx0 : x = 0
      · subst hx0
        have hz : zeroF xs = true := by rw [Hz.out, hd.out, zeroF_cons]; rfl
        have Hl := Lib.hid (lcmGo_zero xs 1 true hz)
        clear hd hz Hz
        go_wp2
        go_ret2
        exact ⟨by rw [Hl.out]; rfl, Below.refl _ _⟩
      · have hz : (x == 0) = false := by simpa using hx0
        have Hz2 : Hid (zeroF xs = zeroF (xs.drop (k + 1))) := by unfold Hid; rw [Hz.out, hd.out, zeroF_cons, hz]; rfl
        clear hd Hz hx0
        go_wp2
        go_round
        case rel => exact ⟨k + 1, by omega, by go_num, Hz2⟩
        case measure => simp [intOf]; omega
    · have hd : xs.drop k = [] := List.drop_eq_nil_of_le (by omega)
      have hz : zeroF xs = false := by rw [Hz.out, hd]; rfl
      have Hz0 := Lib.hid hz
      clear hd hz Hz
      go_wp2
      go_loopw [5, 6] (fun t i wr => ∃ (k m : Nat), k ≤ xs.length ∧ i = .int .i64 k ∧ t = .int .i64 m ∧ 0 < m ∧ m ≤ 9223372036854775807 ∧ Below w.heap.size w wr ∧ Hid (zeroF (xs.drop k) = false) ∧ Hid (lcmGo 1 true xs = lcmGo m true (xs.drop k))) (fun _ i _ => xs.length - (intOf i).toNat)
      case atStart => exact ⟨0, 1, Nat.zero_le _, rfl, rfl, by omega, by omega, Below.refl _ _, Hz0, rfl⟩
      case round =>
        obtain ⟨k, m, hk, rfl, rfl, hm0, hm1, hbw, Hz1, He⟩ := hrel
        by_cases hlt : k < xs.length
        · obtain ⟨b, off, x, rfl, hb, hxk, hc, hd, -⟩ := (hr.below hbw (Nat.le_refl _)).at_ hx hlt
          have hxa := natAbs_fit hxk
          have hz1 := Hz1.out
          rw [hd.out, zeroF_cons, Bool.or_eq_false_iff] at hz1
          have hx0 : x ≠ 0 := by simpa using hz1.1
          have Hz2 := Lib.hid hz1.2
          have hg0 : 0 < Nat.gcd m x.natAbs := Nat.gcd_pos_of_pos_left _ hm0
          obtain ⟨q, hq⟩ : ∃ q, x.natAbs / Nat.gcd m x.natAbs = q := ⟨_, rfl⟩
          have hqx : q ≤ x.natAbs := by rw [← hq]; exact Nat.div_le_self _ _
          have hst := He.out
          rw [hd.out, lcmGo_step hx0 hq hz1.2] at hst
          have Hst := Lib.hid hst
          have hqd : (x.natAbs : Int) / ((Nat.gcd m x.natAbs : Nat) : Int) = (q : Int) := by rw [← hq]; exact (Int.natCast_ediv _ _).symm
          have hgz : ((Nat.gcd m x.natAbs : Nat) : Int) ≠ 0 := by omega
          have hml : m < 18446744073709551616 := by omega
          have hq0 : 0 < q := by rw [← hq]; exact Nat.div_pos (Nat.le_of_dvd (by omega) (Nat.gcd_dvd_right _ _)) hg0
          obtain ⟨g, hg⟩ : ∃ g, Nat.gcd m x.natAbs = g := ⟨_, rfl⟩
          have hcom := fun w => common_any m x.natAbs hml hxa w
          rw [hg] at hqd hgz hcom
          have hgl : g < 18446744073709551616 := by rw [← hg]; exact gcd_lt hml hxa
          clear hst hz1 Hz1 hd He hq hg hg0
          obtain ⟨y, hy⟩ : ∃ y, x.natAbs = y := ⟨_, rfl⟩
          rw [hy] at hqd hqx hxa hcom
          have hsz := fun w => refSize_any x w hxk
          rw [hy] at hsz
          by_cases hqb : q ≤ 9223372036854775807
          · have hqf : fits q := by unfold fits; omega
            have hmf : fits m := by unfold fits; omega
            cases ho : okB ((m : Int) * (q : Int))
            · have ho' := Lib.hid ho
              go_wp2_with (first | (go_at_call 43; refine (hsz _).mono ?_; rintro e w' ⟨rfl, rfl⟩) | (go_at_call 42; refine (hcom _).mono ?_; rintro e w' ⟨rfl, rfl⟩) | (go_at_call 19; refine (refMul_no _ _ _ hmf hqf ho).mono ?_; rintro e w' ⟨rfl, hbm⟩))
              go_ret2
              exact ⟨by rw [Hst.out, ho'.out]; rfl, hbw.trans (hbm.mono hbw.size)⟩
            · have ho' := Lib.hid ho
              have hpos : 0 < m * q := Nat.mul_pos hm0 hq0
              have hof := okB_iff.1 ho
              have hmq : m * q ≤ 9223372036854775807 := by unfold fits at hof; rw [← Int.natCast_mul] at hof; omega
              clear hof
              have Hp := Lib.hid (And.intro hpos hmq)
              clear hpos hmq
              go_wp2_with (first | (go_at_call 43; refine (hsz _).mono ?_; rintro e w' ⟨rfl, rfl⟩) | (go_at_call 42; refine (hcom _).mono ?_; rintro e w' ⟨rfl, rfl⟩) | (go_at_call 19; refine (refMul_yes _ _ _ hmf hqf ho).mono ?_; rintro e w' ⟨rfl, hbm⟩))
              go_roundw
              case rel => exact ⟨k + 1, m * q, by omega, by go_num, by rw [Int.natCast_mul], Hp.out.1, Hp.out.2, hbw.trans (hbm.mono hbw.size), Hz2, by unfold Hid; rw [Hst.out, ho'.out]; rfl⟩
              case measure => simp [intOf]; omega
          · have hno : false = okB ((m : Int) * (q : Int)) := b_no (by intro h; unfold fits at h; have := Int.mul_le_mul_of_nonneg_right (show (1 : Int) ≤ m by omega) (show (0 : Int) ≤ q by omega); omega)
            have Hno := Lib.hid hno
            clear hno
            go_wp2_with (first | (go_at_call 43; refine (hsz _).mono ?_; rintro e w' ⟨rfl, rfl⟩) | (go_at_call 42; refine (hcom _).mono ?_; rintro e w' ⟨rfl, rfl⟩))
            go_ret2
            exact ⟨by rw [Hst.out, ← Hno.out]; rfl, hbw⟩
        · have hd : xs.drop k = [] := List.drop_eq_nil_of_le (by omega)
          have hst := He.out
          rw [hd] at hst
          have Hst := Lib.hid hst
          clear hd hst He Hz1
          go_wp2
          go_ret2
          exact ⟨by rw [Hst.out]; rfl, hbw⟩
end Go.Proofs.YtlnbmjebkpkclaaDoor
