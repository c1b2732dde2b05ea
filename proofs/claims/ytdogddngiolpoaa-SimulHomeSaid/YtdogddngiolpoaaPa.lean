/-
  PLAIN: whatever fires first, the end is the same.
-/
import Derived.Test.YtdogddngiolpoaaSs
import Derived.Test.YtdogddngiolpoaaSy
namespace Go.Proofs.Ytdogddngiolpoaa
open Go.RowKit

theorem mayB_iff {ars : List ArcV} {n : Nat} {F : Nat → Int} {v : Nat} : mayB ars n F v = true ↔ v < n ∧ ∀ i, i < ars.length → (arcAt ars i).t = v → (arcAt ars i).k ≤ tokI ars F i := by
  unfold mayB shortO
  rw [Bool.and_eq_true, decide_eq_true_eq, Int.toNat_natCast, Option.isNone_iff_eq_none, List.find?_eq_none]
  constructor
  · rintro ⟨h1, h2⟩
    refine ⟨by omega, fun i hi ht => ?_⟩
    have := h2 i (List.mem_range.2 hi)
    simp only [ht, decide_true, Bool.true_and, lacks, decide_eq_true_eq] at this
    unfold tokI
    omega
  · rintro ⟨h1, h2⟩
    refine ⟨by omega, fun i hi => ?_⟩
    have hi' := List.mem_range.1 hi
    simp only [Bool.and_eq_true, decide_eq_true_eq, lacks, not_and]
    intro ht
    have := h2 i hi' ht
    unfold tokI at this
    omega
/-- what may fire still may when others have fired more -/
theorem may_mono {ars : List ArcV} {n : Nat} {F G : Nat → Int} {v : Nat} (hN : NetOk n ars) (h : ∀ j, j < n → F j ≤ G j) (he : F v = G v) (hm : mayB ars n F v = true) : mayB ars n G v = true := by
  rw [mayB_iff] at hm ⊢
  refine ⟨hm.1, fun i hi ht => ?_⟩
  have h1 := hm.2 i hi ht
  obtain ⟨f, t, g, k, s, ha, hf, ht', hg, _⟩ := arc_nat (hN.ok _ (arcAt_mem hi))
  unfold tokI tokA at h1 ⊢
  rw [ha] at h1 ht ⊢
  simp only [Int.toNat_natCast] at h1 ht ⊢
  have : t = v := by omega
  subst this
  have h2 := Int.mul_le_mul_of_nonneg_left (h f hf) (show (0 : Int) ≤ g by omega)
  rw [← he]
  omega
/-- the counts that can be reached, none above its own -/
inductive Reach (ars : List ArcV) (n : Nat) (rs : List Int) : (Nat → Int) → Prop
  | zero : Reach ars n rs fun _ => 0
  | step {F : Nat → Int} {v : Nat} : Reach ars n rs F → 0 < leftF rs F v → mayB ars n F v = true → Reach ars n rs (bump F v)
/-- nothing may fire that has firings left -/
def Final (ars : List ArcV) (n : Nat) (rs : List Int) (F : Nat → Int) : Prop := ∀ v, v < n → 0 < leftF rs F v → mayB ars n F v = false
theorem Reach.nonneg {ars : List ArcV} {n : Nat} {rs : List Int} {F : Nat → Int} (h : Reach ars n rs F) : ∀ j, 0 ≤ F j := by
  induction h with
  | zero => intro j; exact Int.le_refl _
  | @step F v _ _ _ ih =>
    intro j
    have := ih j
    unfold bump
    by_cases hj : j = v
    · subst hj; rw [upd_self]; omega
    · rw [upd_other hj]; exact this
theorem Reach.far {ars : List ArcV} {n : Nat} {rs : List Int} {F : Nat → Int} (h : Reach ars n rs F) : ∀ j, n ≤ j → F j = 0 := by
  induction h with
  | zero => intro j _; rfl
  | @step F v _ _ hm ih =>
    intro j hj
    have := (mayB_iff.1 hm).1
    unfold bump
    rw [upd_other (by omega)]
    exact ih j hj
theorem Reach.le_reps {ars : List ArcV} {n : Nat} {rs : List Int} {F : Nat → Int} (hr : ∀ v : Nat, v < n → 0 ≤ repAt rs v) (h : Reach ars n rs F) : ∀ j, j < n → F j ≤ repAt rs j := by
  induction h with
  | zero => intro j hj; exact hr j hj
  | @step F v _ hl hm ih =>
    intro j hj
    have := ih j hj
    unfold bump
    by_cases hjv : j = v
    · subst hjv; rw [upd_self]; unfold leftF at hl; omega
    · rw [upd_other hjv]; exact this
theorem Reach.le_final {ars : List ArcV} {n : Nat} {rs : List Int} {F G : Nat → Int} (hN : NetOk n ars) (hF : ∀ j, 0 ≤ F j) (hfin : Final ars n rs F) (h : Reach ars n rs G) : ∀ j, j < n → G j ≤ F j := by
  induction h with
  | zero => intro j _; exact hF j
  | @step G v _ hl hm ih =>
    intro j hj
    unfold bump
    by_cases hjv : j = v
    · subst hjv
      rw [upd_self]
      have h1 := ih j hj
      rcases Int.lt_or_eq_of_le h1 with h2 | h2
      · omega
      · have h3 := may_mono hN ih h2 hm
        have h4 := hfin j hj (by unfold leftF at hl ⊢; omega)
        rw [h3] at h4; cases h4
    · rw [upd_other hjv]; exact ih j hj
/-- THE END IS ONE -/
theorem end_one {ars : List ArcV} {n : Nat} {rs : List Int} {F G : Nat → Int} (hN : NetOk n ars) (h1 : Reach ars n rs F) (h2 : Final ars n rs F) (h3 : Reach ars n rs G) (h4 : Final ars n rs G) : F = G := by
  funext j
  by_cases hj : j < n
  · have a := h3.le_final hN h1.nonneg h2 j hj
    have b := h1.le_final hN h3.nonneg h4 j hj
    omega
  · rw [h1.far j (by omega), h3.far j (by omega)]
/-- a rule that picks someone while someone can fire -/
def PickAll (ars : List ArcV) (n : Nat) (rs : List Int) (pick : (Nat → Int) → Int) : Prop := ∀ F, ¬ 0 ≤ pick F → Final ars n rs F
theorem leftSum_zero {n : Nat} {L : Nat → Int} (h : leftSum n L = 0) : ∀ v, v < n → L v ≤ 0 := by
  induction n with
  | zero => intro v hv; omega
  | succ n ih =>
    unfold leftSum at *
    rw [List.range_succ, List.map_append, List.sum_append] at h
    simp only [List.map_cons, List.map_nil, List.sum_cons, List.sum_nil] at h
    intro v hv
    by_cases hvn : v = n
    · subst hvn; omega
    · exact ih (by omega) v (by omega)
theorem runF_end {ars : List ArcV} {n : Nat} {rs : List Int} {pick : (Nat → Int) → Int} (hp : PickOk ars n rs pick) (ha : PickAll ars n rs pick) : ∀ (f : Nat) (F : Nat → Int), Reach ars n rs F → leftSum n (leftF rs F) ≤ f →
    Reach ars n rs (runF pick f F).2 ∧ Final ars n rs (runF pick f F).2 ∧ (∀ v, countF (runF pick f F).1 v = (runF pick f F).2 v - F v) ∧ nodesB (n : Int) (runF pick f F).1 = true := by
  intro f
  induction f with
  | zero =>
    intro F hR hs
    refine ⟨hR, fun v hv hl => ?_, fun v => ?_, rfl⟩
    · have := leftSum_zero (show leftSum n (leftF rs F) = 0 by omega) v hv
      have hl' : 0 < leftF rs F v := hl
      omega
    · simp [runF, countF]
  | succ f ih =>
    intro F hR hs
    by_cases h : 0 ≤ pick F
    · obtain ⟨v, e, hv, hl, hm⟩ := hp F h
      have hsum := leftSum_upd (leftF rs F) v n hv hl
      rw [← left_bump] at hsum
      obtain ⟨i1, i2, i3, i4⟩ := ih (bump F v) (.step hR hl hm) (by omega)
      simp only [runF]
      rw [if_pos h, e, Int.toNat_natCast]
      refine ⟨i1, i2, fun j => ?_, ?_⟩
      · have := i3 j
        simp only
        unfold countF at this ⊢
        rw [List.count_cons]
        unfold bump at this ⊢
        by_cases hj : j = v
        · subst hj
          rw [upd_self] at this
          simp only [beq_self_eq_true, if_true]
          omega
        · rw [upd_other hj] at this
          have hb : ((v : Int) == (j : Int)) = false := by simp; omega
          rw [hb]
          simpa using this
      · unfold nodesB at i4 ⊢
        simp only [List.all_cons, i4, Bool.and_true, decide_eq_true_eq]
        omega
    · rw [runF_stop h]
      refine ⟨hR, ha F h, fun v => ?_, rfl⟩
      simp [countF]
theorem bestF_all (ars : List ArcV) (n : Nat) (F Lf K : Nat → Int) (k : Nat) (h : ¬ 0 ≤ bestF ars n F Lf K k) : ∀ v, v < k → 0 < Lf v → mayB ars n F v = false := by
  induction k with
  | zero => intro v hv; omega
  | succ k ih =>
    rw [bestF_succ] at h
    unfold bestStep at h
    split at h
    · exact absurd (show (0 : Int) ≤ (k : Int) by omega) h
    · rename_i h1
      intro v hv hl
      by_cases hvk : v = k
      · subst hvk
        cases hm : mayB ars n F v with
        | false => rfl
        | true => exact absurd ⟨hl, hm, .inl (by omega)⟩ h1
      · exact ih h v (by omega) hl
theorem pickS_all (ars : List ArcV) (n : Nat) (rs ps : List Int) : PickAll ars n rs (pickS ars n rs ps) := fun _ h v hv hl => bestF_all _ _ _ _ _ _ h v hv hl
/-- whatever is preferred: the same end -/
theorem run_same {ars : List ArcV} {n : Nat} {rs : List Int} {pick pick' : (Nat → Int) → Int} (hN : NetOk n ars) (hp : PickOk ars n rs pick) (ha : PickAll ars n rs pick) (hp' : PickOk ars n rs pick') (ha' : PickAll ars n rs pick') :
    (runF pick (leftSum n (leftF rs fun _ => 0)) fun _ => 0).2 = (runF pick' (leftSum n (leftF rs fun _ => 0)) fun _ => 0).2 := by
  obtain ⟨a1, a2, _⟩ := runF_end hp ha _ _ .zero (Nat.le_refl _)
  obtain ⟨b1, b2, _⟩ := runF_end hp' ha' _ _ .zero (Nat.le_refl _)
  exact end_one hN a1 a2 b1 b2
end Go.Proofs.Ytdogddngiolpoaa
