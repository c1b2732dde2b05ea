/-
  The plain law of IntsDivides: the greatest common divisor divides all, and what divides all divides it; where it does not fit, all are 0 or the least int.
-/
import Derived.Test.YtlnbmjebkpkclaaDoorIj
namespace Go.Proofs.YtlnbmjebkpkclaaDoor
open Go.RowKit

theorem gcdFrom_dvd_start (xs : List Int) : ∀ g : Nat, gcdFrom g xs ∣ g := by
  induction xs with
  | nil => intro g; exact Nat.dvd_refl _
  | cons x xs ih => intro g; exact Nat.dvd_trans (ih _) (Nat.gcd_dvd_left _ _)
theorem gcdFrom_dvd (xs : List Int) : ∀ (g : Nat) (x : Int), x ∈ xs → gcdFrom g xs ∣ x.natAbs := by
  induction xs with
  | nil => intro g x hx; cases hx
  | cons y xs ih =>
    intro g x hx
    rcases List.mem_cons.1 hx with rfl | hx
    · exact Nat.dvd_trans (gcdFrom_dvd_start xs _) (Nat.gcd_dvd_right _ _)
    · exact ih _ x hx
theorem dvd_gcdFrom (d : Nat) (xs : List Int) : ∀ g : Nat, d ∣ g → (∀ x ∈ xs, d ∣ x.natAbs) → d ∣ gcdFrom g xs := by
  induction xs with
  | nil => intro g hg _; exact hg
  | cons y xs ih =>
    intro g hg h
    exact ih _ (Nat.dvd_gcd hg (h y (List.mem_cons_self ..))) (fun x hx => h x (List.mem_cons_of_mem _ hx))
theorem someF_iff (xs : List Int) : someF xs = true ↔ gcdFrom 0 xs ≠ 0 := by
  constructor
  · intro h
    obtain ⟨x, hx, hn⟩ := List.any_eq_true.1 h
    intro h0
    have hd := gcdFrom_dvd xs 0 x hx
    rw [h0] at hd
    have := Nat.eq_zero_of_zero_dvd hd
    simp only [bne_iff_ne, ne_eq] at hn
    omega
  · intro h
    cases hs : someF xs with
    | true => rfl
    | false =>
      exfalso; apply h
      have := dvd_gcdFrom 0 xs 0 (Nat.dvd_refl _) (fun x hx => by
        have h1 := List.any_eq_false.1 hs x hx
        simp only [bne_iff_ne, ne_eq, Classical.not_not] at h1
        subst h1; exact Nat.dvd_refl _)
      exact Nat.eq_zero_of_zero_dvd this
theorem gcd_bound (xs : List Int) (hx : AllFit xs) : gcdFrom 0 xs ≤ 9223372036854775808 := by
  by_cases h : gcdFrom 0 xs = 0
  · omega
  · have hs := (someF_iff xs).2 h
    obtain ⟨x, hm, hn⟩ := List.any_eq_true.1 hs
    simp only [bne_iff_ne, ne_eq] at hn
    have := Nat.le_of_dvd (by omega) (gcdFrom_dvd xs 0 x hm)
    have hf := hx x hm
    unfold fits at hf
    omega

theorem divides_any (xs : List Int) (A : Option Addr) (n c : Nat) (d : Int) (w : World) (hn : xs.length = n) (hc : n ≤ c) (hx : AllFit xs) (hr : Rd w w.heap.size A (cellsI xs)) (hz : c * 8 ≤ 140737488351232) (hd : fits d) (hT : Tab w) :
    Calls Tryd.prog 9 #[.slice A n c, .int .i64 d] w fun e w' => e = .returned (.bool true) ∧ Below w.heap.size w w' := by
  have hb := gcd_bound xs hx
  have hdv := gcdFrom_dvd xs 0
  have hsm := someF_iff xs
  by_cases hf : fits (gcdFrom 0 xs)
  · refine divides_walk xs d (gcdFrom 0 xs) true A n c w hn hc hx hd hr hz hT ⟨(val_yes hf).symm, (b_yes hf).symm⟩ ?_ ?_ ?_ ?_
    · intro _ x hm
      refine ⟨fun h0 => ?_, fun _ => Int.tmod_eq_zero_of_dvd (Int.ofNat_dvd_left.2 (hdv x hm))⟩
      have := hdv x hm
      rw [show gcdFrom 0 xs = 0 by omega] at this
      have := Nat.eq_zero_of_zero_dvd this
      omega
    · intro h; cases h
    · intro _
      refine ⟨?_, by omega, ?_⟩
      · cases hl : lowF xs with
        | false => rfl
        | true =>
          cases hs : someF xs with
          | false => rfl
          | true =>
            exfalso
            have h1 := dvd_gcdFrom 9223372036854775808 xs 0 (Nat.dvd_zero _) (fun x hm => by
              have h2 := List.all_eq_true.1 hl x hm
              simp only [Bool.or_eq_true, beq_iff_eq] at h2
              rcases h2 with rfl | rfl
              · exact Nat.dvd_zero _
              · exact Nat.dvd_refl _)
            have h3 := Nat.le_of_dvd (Nat.pos_of_ne_zero (hsm.1 hs)) h1
            unfold fits at hf
            omega
      · cases hs : someF xs with
        | false =>
          have : ¬ gcdFrom 0 xs ≠ 0 := fun h => by rw [hsm.2 h] at hs; cases hs
          exact (decide_eq_false (by omega)).symm
        | true =>
          have := hsm.1 hs
          exact (decide_eq_true (by omega)).symm
    · intro _ ha _
      refine Int.tmod_eq_zero_of_dvd (Int.ofNat_dvd_right.2 (dvd_gcdFrom d.natAbs xs 0 (Nat.dvd_zero _) (fun x hm => ?_)))
      have h2 := List.all_eq_true.1 ha x hm
      simp only [Bool.and_eq_true, bne_iff_ne, ne_eq, beq_iff_eq] at h2
      exact Int.natAbs_dvd_natAbs.2 (Int.dvd_of_tmod_eq_zero h2.2)
  · refine divides_walk xs d 0 false A n c w hn hc hx hd hr hz hT ⟨(val_no hf).symm, (b_no hf).symm⟩ ?_ ?_ ?_ ?_
    · intro h; cases h
    · intro _
      have hG : gcdFrom 0 xs = 9223372036854775808 := by unfold fits at hf; omega
      refine ⟨rfl, ?_, hsm.2 (by omega)⟩
      refine List.all_eq_true.2 (fun x hm => ?_)
      have hd2 := hdv x hm
      rw [hG] at hd2
      have hxf := hx x hm
      unfold fits at hxf
      simp only [Bool.or_eq_true, beq_iff_eq]
      by_cases h0 : x = 0
      · exact .inl h0
      · right
        have := Nat.le_of_dvd (by omega) hd2
        omega
    · intro h; cases h
    · intro h; cases h
end Go.Proofs.YtlnbmjebkpkclaaDoor
