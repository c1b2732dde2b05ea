/-
  The walks of ints.Gcd, ints.Lcm and ints.Dot.
-/
import Derived.Test.YtlnbmjebkpkclaaDoorIc
import Derived.BigQuiet
import Derived.Deep.QuietTactic
namespace Go.Proofs.YtlnbmjebkpkclaaDoor
open Go.RowKit

/-- the greatest common divisor of g and all sizes -/
def gcdFrom (g : Nat) : List Int → Nat
  | [] => g
  | x :: xs => gcdFrom (Nat.gcd g x.natAbs) xs

theorem gcd_lt {g y : Nat} (hg : g < 18446744073709551616) (hy : y < 18446744073709551616) : Nat.gcd g y < 18446744073709551616 := by
  by_cases h : g = 0
  · subst h; simpa using hy
  · exact Nat.lt_of_le_of_lt (Nat.gcd_le_left _ (by omega)) hg

set_option maxHeartbeats 400000 in
theorem gcd_any (xs : List Int) (A : Option Addr) (n c B : Nat) (w : World) (hn : xs.length = n) (hx : AllFit xs) (hr : Rd w B A (cellsI xs)) (hl : xs.length ≤ maxLen) (hT : Tab w) :
    Calls Tryd.prog 25 #[.slice A n c] w fun e w' => e = .returned (.tuple #[.int .i64 (okOf (gcdFrom 0 xs)), .bool (okB (gcdFrom 0 xs))]) ∧ w = w' := by
  subst hn
  unfold maxLen at hl
  go_enter Tryd.func25, Tryd.ntmps25
  go_wp2
  go_loop [4, 9] (fun t i => ∃ (k : Nat) (g : Nat), k ≤ xs.length ∧ i = .int .i64 k ∧ t = .int .u64 g ∧ g < 18446744073709551616 ∧ Hid (gcdFrom 0 xs = gcdFrom g (xs.drop k))) (fun _ i => xs.length - (intOf i).toNat)
  case atStart => exact ⟨0, 0, Nat.zero_le _, rfl, rfl, by omega, rfl⟩
  case round =>
    obtain ⟨k, g, hk, rfl, rfl, hg, He⟩ := hrel
    by_cases hlt : k < xs.length
    · obtain ⟨b, off, x, rfl, hb, hxk, hc, hd, -⟩ := hr.at_ hx hlt
      have hxa := natAbs_fit hxk
      have hgl := gcd_lt hg hxa
      go_wp2_with (first | (go_at_call 36; refine (size_any _ _ hxk).mono ?_; rintro e w' ⟨rfl, rfl⟩) | (go_at_call 41; refine (divisor_any _ _ hg hxa _ hT).mono ?_; rintro e w' ⟨rfl, rfl⟩))
      go_round
      case rel => exact ⟨k + 1, Nat.gcd g x.natAbs, by omega, by go_num, rfl, hgl, by unfold Hid; rw [He.out, hd.out]; rfl⟩
      case measure => simp [intOf]; omega
    · have hd : xs.drop k = [] := List.drop_eq_nil_of_le (by omega)
      have hge : gcdFrom 0 xs = g := by rw [He.out, hd]; rfl
      have Hge := Lib.hid hge
      clear hd hge
      go_wp2
      · go_ret2
        have h : 9223372036854775807 < (g : Int) := by assumption
        exact ⟨by rw [Hge.out]; exact tup2 (val_no (by unfold fits; omega)) (b_no (by unfold fits; omega)), rfl⟩
      · go_ret2
        have h : (g : Int) ≤ 9223372036854775807 := by assumption
        exact ⟨by rw [Hge.out]; exact tup2 (val_yes (by unfold fits; omega)) (b_yes (by unfold fits; omega)), rfl⟩

/-- products added, on from t -/
def dotFrom (t : Int) : List Int → List Int → Int × Bool
  | x :: xs, y :: ys => if okB (x * y) = true then (if okB (t + x * y) = true then dotFrom (t + x * y) xs ys else (0, false)) else (0, false)
  | _, _ => (t, true)
theorem dotFrom_nil (t : Int) (ys : List Int) : dotFrom t [] ys = (t, true) := by cases ys <;> rfl
def dotR (xs ys : List Int) : Int × Bool := if xs.length = ys.length then dotFrom 0 xs ys else (0, false)

set_option maxHeartbeats 1000000 in
theorem dot_any (xs ys : List Int) (A A' : Option Addr) (n n' c c' B : Nat) (w : World) (hn : xs.length = n) (hn' : ys.length = n') (hx : AllFit xs) (hy : AllFit ys) (hr : Rd w B A (cellsI xs)) (hr' : Rd w B A' (cellsI ys))
    (hl : xs.length ≤ maxLen) (_hl' : ys.length ≤ maxLen) :
    Calls Tryd.prog 29 #[.slice A n c, .slice A' n' c'] w fun e w' => e = .returned (.tuple #[.int .i64 (dotR xs ys).1, .bool (dotR xs ys).2]) ∧ w = w' := by
  by_cases hne : xs.length = ys.length
  · have hR : dotR xs ys = dotFrom 0 xs ys := by unfold dotR; rw [if_pos hne]
    rw [hR]; clear hR
    subst hn'
    rw [← hne]
    have Hn := Lib.hid hne
    clear hne
    subst hn
    unfold maxLen at hl
    have hq : ((xs.length : Int) != (xs.length : Int)) = false := by simp
    go_enter Tryd.func29, Tryd.ntmps29
    go_wp2
    go_loop [6, 18] (fun t i => ∃ (k : Nat) (s : Int), k ≤ xs.length ∧ i = .int .i64 k ∧ t = .int .i64 s ∧ fits s ∧ Hid (dotFrom 0 xs ys = dotFrom s (xs.drop k) (ys.drop k))) (fun _ i => xs.length - (intOf i).toNat)
    case atStart => exact ⟨0, 0, Nat.zero_le _, rfl, rfl, by unfold fits; omega, rfl⟩
    case round =>
      obtain ⟨k, s, hk, rfl, rfl, hs, He⟩ := hrel
      by_cases hlt : k < xs.length
      · obtain ⟨b, off, x, rfl, hb, hxk, hc, hd, -⟩ := hr.at_ hx hlt
        obtain ⟨b', off', y, rfl, hb', hyk, hc', hd', -⟩ := hr'.at_ hy (Hn.out ▸ hlt)
        have hst : dotFrom 0 xs ys = if okB (x * y) = true then (if okB (s + x * y) = true then dotFrom (s + x * y) (xs.drop (k + 1)) (ys.drop (k + 1)) else (0, false)) else (0, false) := by
          rw [He.out, hd.out, hd'.out]; rfl
        have Hst := Lib.hid hst
        clear hst hd hd' He
        cases hp : okB (x * y)
        · have hp' := Lib.hid hp
          go_wp2_with (go_at_call 16; refine (mul_any _ _ _ hxk hyk).mono ?_; rintro e w' ⟨rfl, rfl⟩)
          go_ret2
          exact ⟨by rw [Hst.out, hp'.out]; rfl, rfl⟩
        · have hp' := Lib.hid hp
          have hpf := okB_iff.1 hp
          have Hpv := Lib.hid (val_yes hpf)
          cases ha : okB (s + x * y)
          · have ha' := Lib.hid ha
            go_wp2_with (first | (go_at_call 16; refine (mul_any _ _ _ hxk hyk).mono ?_; rintro e w' ⟨rfl, rfl⟩; rw [← Hpv.out]) | (go_at_call 14; refine (add_any _ _ _ hs hpf).mono ?_; rintro e w' ⟨rfl, rfl⟩))
            go_ret2
            exact ⟨by rw [Hst.out, hp'.out, ha'.out]; rfl, rfl⟩
          · have ha' := Lib.hid ha
            go_wp2_with (first | (go_at_call 16; refine (mul_any _ _ _ hxk hyk).mono ?_; rintro e w' ⟨rfl, rfl⟩; rw [← Hpv.out]) | (go_at_call 14; refine (add_any _ _ _ hs hpf).mono ?_; rintro e w' ⟨rfl, rfl⟩))
            go_round
            case rel => exact ⟨k + 1, s + x * y, by omega, by go_num, by rw [← val_yes (okB_iff.1 ha'.out)], okB_iff.1 ha'.out, by unfold Hid; rw [Hst.out, hp'.out, ha'.out]; rfl⟩
            case measure => simp [intOf]; omega
      · go_wp2
        go_ret2
        have hd : xs.drop k = [] := List.drop_eq_nil_of_le (by omega)
        have he : dotFrom 0 xs ys = (s, true) := by rw [He.out, hd, dotFrom_nil]
        exact ⟨by rw [he]; rfl, rfl⟩
  · have hR : dotR xs ys = (0, false) := by unfold dotR; rw [if_neg hne]
    rw [hR]; clear hR
    have hq : ((xs.length : Int) != (ys.length : Int)) = true := by simp; omega
    subst hn hn'
    unfold maxLen at hl _hl'
    go_enter Tryd.func29, Tryd.ntmps29
    go_wp2
    go_ret2
    exact ⟨rfl, rfl⟩

/-- the least common multiple as the code reckons it: m so far, f: it fits -/
def lcmGo (m : Nat) (f : Bool) : List Int → Int × Bool
  | [] => if f = true then ((m : Int), true) else (0, false)
  | x :: xs => if x = 0 then (0, true) else if f = false then lcmGo m f xs else
      lcmGo (m / Nat.gcd m x.natAbs * x.natAbs % 18446744073709551616) (okB ((m / Nat.gcd m x.natAbs * x.natAbs : Nat) : Int)) xs

theorem lcm_m (q n : Nat) : Value.int .u64 ((q : Int) * (n : Int) % 18446744073709551616) = .int .u64 ((q * n % 18446744073709551616 : Nat) : Int) := by
  rw [Int.natCast_emod, Int.natCast_mul]; rfl
theorem lcm_b1 {q n : Nat} (h : (q : Int) * (n : Int) / 18446744073709551616 = 0) : decide ((q : Int) * (n : Int) % 18446744073709551616 ≤ 9223372036854775807) = okB ((q * n : Nat) : Int) := by
  rw [← Int.natCast_mul] at h ⊢
  unfold okB
  rw [decide_eq_decide]; omega
theorem lcm_b2 {q n : Nat} (h : ¬ (q : Int) * (n : Int) / 18446744073709551616 = 0) : false = okB ((q * n : Nat) : Int) := by
  rw [← Int.natCast_mul] at h
  exact b_no (by unfold fits; omega)
theorem lcm_f {P : Nat} (h : 0 < P) : okB (P : Int) = true → 0 < P % 18446744073709551616 ∧ P % 18446744073709551616 ≤ 9223372036854775807 := by
  intro h'
  have := okB_iff.1 h'
  unfold fits at this
  omega

/-- the world but for draws -/
def Drawn (w w' : World) : Prop := ∃ d, w' = w.drewN d
theorem Drawn.refl (w : World) : Drawn w w := ⟨0, rfl⟩
theorem Drawn.drewN {w w' : World} (h : Drawn w w') (n : Nat) : Drawn w (w'.drewN n) := by
  obtain ⟨d, rfl⟩ := h
  exact ⟨d + n, World.drewN_drewN _ _ _⟩
theorem Drawn.trans {w w' w'' : World} (h : Drawn w w') (h' : Drawn w' w'') : Drawn w w'' := by
  obtain ⟨d, rfl⟩ := h'
  exact h.drewN d
theorem Drawn.cell {w w' : World} (h : Drawn w w') (a : Addr) : w'.cell? a = w.cell? a := by obtain ⟨d, rfl⟩ := h; rfl
theorem Drawn.tab {w w' : World} (h : Drawn w w') (hT : Tab w) : Tab w' := fun j hj => (h.cell _).trans (hT j hj)
theorem Drawn.rd {w w' : World} {B : Nat} {A : Option Addr} {cs : List Value} (h : Drawn w w') (hr : Rd w B A cs) : Rd w' B A cs := by
  rcases hr with hr | ⟨b, off, ha, hb, hc⟩
  · exact .inl hr
  · exact .inr ⟨b, off, ha, hb, fun j u hu => (h.cell _).trans (hc j u hu)⟩
theorem Drawn.size {w w' : World} (h : Drawn w w') : w'.heap.size = w.heap.size := by obtain ⟨d, rfl⟩ := h; rfl
theorem quiet_left {P : Program} {f : FuncId} {args : Array Value} {w : World} {n : Nat} {v : Value}
    (h : Calls P f args (w.drewN n) fun e w' => e = .returned v ∧ w.drewN n = w') : Calls P f args (w.drewN n) fun e w'' => e = .returned v ∧ ∃ m, w'' = w.drewN m :=
  h.mono fun _ _ ⟨he, hm⟩ => ⟨he, n, hm.symm⟩

set_option maxHeartbeats 1000000 in
theorem lcm_any (xs : List Int) (A : Option Addr) (n c B : Nat) (w : World) (hn : xs.length = n) (hx : AllFit xs) (hr : Rd w B A (cellsI xs)) (hl : xs.length ≤ maxLen) (hT : Tab w) :
    Calls Tryd.prog 27 #[.slice A n c] w fun e w' => e = .returned (.tuple #[.int .i64 (lcmGo 1 true xs).1, .bool (lcmGo 1 true xs).2]) ∧ Drawn w w' := by
  subst hn
  unfold maxLen at hl
  go_enter Tryd.func27, Tryd.ntmps27
  go_wp2
  go_loopw [4, 5, 12] (fun t b i wr => ∃ (k : Nat) (m : Nat) (f : Bool), k ≤ xs.length ∧ i = .int .i64 k ∧ t = .int .u64 m ∧ b = .bool f ∧ Drawn w wr ∧ m < 18446744073709551616 ∧ Hid (f = true → 0 < m ∧ m ≤ 9223372036854775807) ∧ Hid (lcmGo 1 true xs = lcmGo m f (xs.drop k))) (fun _ _ i _ => xs.length - (intOf i).toNat)
  case atStart => exact ⟨0, 1, true, Nat.zero_le _, rfl, rfl, rfl, Drawn.refl w, by omega, fun _ => by omega, rfl⟩
  case round =>
    obtain ⟨k, m, f, hk, rfl, rfl, rfl, hdw, hm, Hf, He⟩ := hrel
    by_cases hlt : k < xs.length
    · obtain ⟨b, off, x, rfl, hb, hxk, hc, hd, -⟩ := (hdw.rd hr).at_ hx hlt
      have hT' := hdw.tab hT
      have hxa := natAbs_fit hxk
      have hst := hd.out ▸ He.out
      rw [lcmGo] at hst
      by_cases hx0 : x = 0
      · subst hx0
        have Hst := Lib.hid hst
        clear hst hd He
        go_wp2
        go_ret2
        exact ⟨by rw [Hst.out]; rfl, hdw⟩
      · have hz : (x == 0) = false := by simpa using hx0
        rw [if_neg hx0] at hst
        cases f
        · rw [if_pos rfl] at hst
          have Hst := Lib.hid hst
          clear hst hd He hx0
          go_wp2
          go_roundw
          case rel => exact ⟨k + 1, m, false, by omega, by go_num, rfl, rfl, hdw, hm, fun h => by (cases h), Hst⟩
          case measure => simp [intOf]; omega
        · rw [if_neg (by simp)] at hst
          have hm0 := (Hf.out rfl).1
          have hgl := gcd_lt hm hxa
          have hg0 : 0 < Nat.gcd m x.natAbs := Nat.gcd_pos_of_pos_left _ hm0
          obtain ⟨q, hq⟩ : ∃ q, m / Nat.gcd m x.natAbs = q := ⟨_, rfl⟩
          have hqm : q ≤ m := by rw [← hq]; exact Nat.div_le_self _ _
          have hq0 : 0 < q := by rw [← hq]; exact Nat.div_pos (Nat.gcd_le_left _ hm0) hg0
          have hP0 : 0 < q * x.natAbs := Nat.mul_pos hq0 (by omega)
          have hql : q < 18446744073709551616 := by omega
          have hqd : (m : Int) / ((Nat.gcd m x.natAbs : Nat) : Int) = (q : Int) := by rw [← hq]; exact (Int.natCast_ediv _ _).symm
          rw [hq] at hst
          have Hst := Lib.hid hst
          have hgz : ((Nat.gcd m x.natAbs : Nat) : Int) ≠ 0 := by omega
          clear hst hd He hq
          go_wp2
          go_quiet ((first | (go_at_call 36; exact quiet_left (size_any _ _ hxk)) | (go_at_call 41; exact quiet_left (divisor_any _ _ hm hxa _ hT')) | (go_at_call 35; exact quiet_left (mul64_any _ _ hql hxa _))))
          go_wp2
          · go_roundw
            case rel => exact ⟨k + 1, _, _, by omega, by go_num, lcm_m _ _, by rw [lcm_b1 (by assumption)], hdw.drewN _, Nat.mod_lt _ (by decide), lcm_f hP0, Hst⟩
            case measure => simp [intOf]; omega
          · go_roundw
            case rel => exact ⟨k + 1, _, _, by omega, by go_num, lcm_m _ _, by rw [lcm_b2 (by assumption)], hdw.drewN _, Nat.mod_lt _ (by decide), lcm_f hP0, Hst⟩
            case measure => simp [intOf]; omega
    · have hd : xs.drop k = [] := List.drop_eq_nil_of_le (by omega)
      have hst := hd ▸ He.out
      clear hd
      cases f
      · have Hst := Lib.hid hst
        clear hst He
        go_wp2
        go_ret2
        exact ⟨by rw [Hst.out]; rfl, hdw⟩
      · have Hst := Lib.hid hst
        have hmm := (Hf.out rfl).2
        clear hst He
        go_wp2
        go_ret2
        exact ⟨by rw [Hst.out]; rfl, hdw⟩
end Go.Proofs.YtlnbmjebkpkclaaDoor
