/-
  The walks of ints.Gcd, ints.Lcm and ints.Dot.
-/
import Derived.Test.YtkheoaleamolcaaDoorIc
import Derived.BigQuiet
import Derived.Deep.QuietTactic
namespace Go.Proofs.YtkheoaleamolcaaDoor
open Go.RowKit

/-- the greatest common divisor of g and all sizes -/
def gcdFrom (g : Nat) : List Int → Nat
  | [] => g
  | x :: xs => gcdFrom (Nat.gcd g x.natAbs) xs

theorem gcd_lt {g y : Nat} (hg : g < 18446744073709551616) (hy : y < 18446744073709551616) : Nat.gcd g y < 18446744073709551616 := by
  by_cases h : g = 0
  · subst h; simpa using hy
  · exact Nat.lt_of_le_of_lt (Nat.gcd_le_left _ (by omega)) hg

set_option maxHeartbeats 400000 in
theorem gcd_any (xs : List Int) (A : Option Addr) (n c B : Nat) (w : World) (hn : xs.length = n) (hx : AllFit xs) (hr : Rd w B A (cellsI xs)) (hl : xs.length ≤ maxLen) (hT : Tab w) :
    Calls Tryd.prog 41 #[.slice A n c] w fun e w' => e = .returned (.tuple #[.int .i64 (okOf (gcdFrom 0 xs)), .bool (okB (gcdFrom 0 xs))]) ∧ w = w' := by
  subst hn
  unfold maxLen at hl
  go_enter Tryd.func41, Tryd.ntmps41
  go_wp2
  go_loop [4, 9] (fun t i => ∃ (k : Nat) (g : Nat), k ≤ xs.length ∧ i = .int .i64 k ∧ t = .int .u64 g ∧ g < 18446744073709551616 ∧ Hid (gcdFrom 0 xs = gcdFrom g (xs.drop k))) (fun _ i => xs.length - (intOf i).toNat)
  case atStart => exact ⟨0, 0, Nat.zero_le _, rfl, rfl, by omega, rfl⟩
  case round =>
    obtain ⟨k, g, hk, rfl, rfl, hg, He⟩ := hrel
    by_cases hlt : k < xs.length
    · obtain ⟨b, off, x, rfl, hb, hxk, hc, hd, -⟩ := hr.at_ hx hlt
      have hxa := natAbs_fit hxk
      have hgl := gcd_lt hg hxa
      go_wp2_with (first | (go_at_call 45; refine (size_any _ _ hxk).mono ?_; rintro e w' ⟨rfl, rfl⟩) | (go_at_call 44; refine (divisor_any _ _ hg hxa _ hT).mono ?_; rintro e w' ⟨rfl, rfl⟩))
      go_round
      case rel => exact ⟨k + 1, Nat.gcd g x.natAbs, by omega, by go_num, rfl, hgl, by unfold Hid; rw [He.out, hd.out]; rfl⟩
      case measure => simp [intOf]; omega
    · have hd : xs.drop k = [] := List.drop_eq_nil_of_le (by omega)
      have hge : gcdFrom 0 xs = g := by rw [He.out, hd]; rfl
      have Hge := Lib.hid hge
      clear hd hge
      go_wp2
      · go_ret2
        have h : 9223372036854775807 < (g : Int) := by assumption
        exact ⟨by rw [Hge.out]; exact tup2 (val_no (by unfold fits; omega)) (b_no (by unfold fits; omega)), rfl⟩
      · go_ret2
        have h : (g : Int) ≤ 9223372036854775807 := by assumption
        exact ⟨by rw [Hge.out]; exact tup2 (val_yes (by unfold fits; omega)) (b_yes (by unfold fits; omega)), rfl⟩

/-- products added, on from t -/
def dotFrom (t : Int) : List Int → List Int → Int × Bool
  | x :: xs, y :: ys => if okB (x * y) = true then (if okB (t + x * y) = true then dotFrom (t + x * y) xs ys else (0, false)) else (0, false)
  | _, _ => (t, true)
theorem dotFrom_nil (t : Int) (ys : List Int) : dotFrom t [] ys = (t, true) := by cases ys <;> rfl
def dotR (xs ys : List Int) : Int × Bool := if xs.length = ys.length then dotFrom 0 xs ys else (0, false)


/-- the least common multiple as the code reckons it: m so far, f: it fits -/
def lcmGo (m : Nat) (f : Bool) : List Int → Int × Bool
  | [] => if f = true then ((m : Int), true) else (0, false)
  | x :: xs => if x = 0 then (0, true) else if f = false then lcmGo m f xs else
      lcmGo (m / Nat.gcd m x.natAbs * x.natAbs % 18446744073709551616) (okB ((m / Nat.gcd m x.natAbs * x.natAbs : Nat) : Int)) xs

theorem lcm_m (q n : Nat) : Value.int .u64 ((q : Int) * (n : Int) % 18446744073709551616) = .int .u64 ((q * n % 18446744073709551616 : Nat) : Int) := by
  rw [Int.natCast_emod, Int.natCast_mul]; rfl
theorem lcm_b1 {q n : Nat} (h : (q : Int) * (n : Int) / 18446744073709551616 = 0) : decide ((q : Int) * (n : Int) % 18446744073709551616 ≤ 9223372036854775807) = okB ((q * n : Nat) : Int) := by
  rw [← Int.natCast_mul] at h ⊢
  unfold okB
  rw [decide_eq_decide]; omega
theorem lcm_b2 {q n : Nat} (h : ¬ (q : Int) * (n : Int) / 18446744073709551616 = 0) : false = okB ((q * n : Nat) : Int) := by
  rw [← Int.natCast_mul] at h
  exact b_no (by unfold fits; omega)
theorem lcm_f {P : Nat} (h : 0 < P) : okB (P : Int) = true → 0 < P % 18446744073709551616 ∧ P % 18446744073709551616 ≤ 9223372036854775807 := by
  intro h'
  have := okB_iff.1 h'
  unfold fits at this
  omega

/-- the world but for draws -/
def Drawn (w w' : World) : Prop := ∃ d, w' = w.drewN d
theorem Drawn.refl (w : World) : Drawn w w := ⟨0, rfl⟩
theorem Drawn.drewN {w w' : World} (h : Drawn w w') (n : Nat) : Drawn w (w'.drewN n) := by
  obtain ⟨d, rfl⟩ := h
  exact ⟨d + n, World.drewN_drewN _ _ _⟩
theorem Drawn.trans {w w' w'' : World} (h : Drawn w w') (h' : Drawn w' w'') : Drawn w w'' := by
  obtain ⟨d, rfl⟩ := h'
  exact h.drewN d
theorem Drawn.cell {w w' : World} (h : Drawn w w') (a : Addr) : w'.cell? a = w.cell? a := by obtain ⟨d, rfl⟩ := h; rfl
theorem Drawn.tab {w w' : World} (h : Drawn w w') (hT : Tab w) : Tab w' := fun j hj => (h.cell _).trans (hT j hj)
theorem Drawn.rd {w w' : World} {B : Nat} {A : Option Addr} {cs : List Value} (h : Drawn w w') (hr : Rd w B A cs) : Rd w' B A cs := by
  rcases hr with hr | ⟨b, off, ha, hb, hc⟩
  · exact .inl hr
  · exact .inr ⟨b, off, ha, hb, fun j u hu => (h.cell _).trans (hc j u hu)⟩
theorem Drawn.size {w w' : World} (h : Drawn w w') : w'.heap.size = w.heap.size := by obtain ⟨d, rfl⟩ := h; rfl
theorem quiet_left {P : Program} {f : FuncId} {args : Array Value} {w : World} {n : Nat} {v : Value}
    (h : Calls P f args (w.drewN n) fun e w' => e = .returned v ∧ w.drewN n = w') : Calls P f args (w.drewN n) fun e w'' => e = .returned v ∧ ∃ m, w'' = w.drewN m :=
  h.mono fun _ _ ⟨he, hm⟩ => ⟨he, n, hm.symm⟩

end Go.Proofs.YtkheoaleamolcaaDoor
