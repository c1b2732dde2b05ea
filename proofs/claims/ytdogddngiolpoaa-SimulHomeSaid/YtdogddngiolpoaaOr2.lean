/-
  A region by an invariant, with what waits for what reckoned once, not anew for each path.
-/
import Derived.Test.YtdogddngiolpoaaOr
namespace Go.Proofs.Ytdogddngiolpoaa
open Go.RowKit

/-- which of the first f operations wait for i -/
def waitsL (ops : Array Oper) (i : Nat) : Nat → List Bool
  | 0 => []
  | f + 1 =>
    let acc := waitsL ops i f
    acc ++ [match ops[f]? with
      | some o => o.after.any fun e => Region.binds .any e && (e.on == i || acc.getD e.on false)
      | none => false]
def waits (ops : Array Oper) (j i : Nat) : Bool := (waitsL ops i ops.size).getD j false
theorem waitsL_length (ops : Array Oper) (i : Nat) : ∀ f, (waitsL ops i f).length = f := by
  intro f
  induction f with
  | zero => rfl
  | succ f ih => simp only [waitsL, List.length_append, ih, List.length_singleton]
theorem waits_done {ops : Array Oper} {L : Nat → Bool} (hc : ∀ j o, ops[j]? = some o → L j = true → ∀ e ∈ o.after, Region.binds .any e = true → L e.on = true) (i : Nat) :
    ∀ f j, (waitsL ops i f).getD j false = true → L j = true → L i = true := by
  intro f
  induction f with
  | zero => intro j h; simp [waitsL] at h
  | succ f ih =>
    intro j h hj
    simp only [waitsL] at h
    rcases Nat.lt_or_ge j f with hjf | hjf
    · refine ih j ?_ hj
      rw [List.getD_eq_getElem?_getD, List.getElem?_append_left (by rw [waitsL_length]; exact hjf), ← List.getD_eq_getElem?_getD] at h
      exact h
    · rw [List.getD_eq_getElem?_getD, List.getElem?_append_right (by rw [waitsL_length]; exact hjf), waitsL_length] at h
      by_cases hjf2 : j = f
      · subst hjf2
        rw [Nat.sub_self] at h
        simp only [List.getElem?_cons_zero, Option.getD_some] at h
        cases ho : ops[j]? with
        | none => rw [ho] at h; cases h
        | some o =>
          rw [ho] at h
          obtain ⟨e, he, h2⟩ := Array.any_eq_true'.1 h
          simp only [Bool.and_eq_true, Bool.or_eq_true, beq_iff_eq] at h2
          have h3 := hc j o ho hj e he h2.1
          rcases h2.2 with h4 | h4
          · rw [← h4]; exact h3
          · exact ih _ h4 h3
      · rw [List.getElem?_eq_none (by simp; omega)] at h
        cases h
theorem wp_region_put3 {P : Program} {id : Nat} {ops : Array Oper} {Q : Exit → Act → World → Prop} {a : Act} {w : World} (D : List Nat) (I : (Nat → Bool) → (Nat → Value) → World → Prop)
    (hm : P.follows .mixedOrders = true) (hd : downOps ops = true) (hI : I (fun _ => false) (fun d => a.tmps.getD d undef) w.drew)
    (hstep : ∀ i o, ops[i]? = some o → ∀ L V w, L i = false → (∀ e ∈ o.after, Region.binds .any e = true → L e.on = true) → (∀ j, waits ops j i = true → L j = false) → I L V w →
      ∀ K : Act → World → Prop, (∀ V' a' w', a' = putAll a D V' → I (alsoL L i) V' w' → K a' w') → if Region.wanted o (yielded ops (putAll a D V).tmps) = true then Oper.wp P o (putAll a D V) w K Q else K ((putAll a D V).put o.dst undef) w)
    (hend : ∀ L V w, (∀ i, i < ops.size → L i = true) → I L V w → Q .normal (putAll a D V) w) : (Code.region id ops true).wp P Q a w := by
  refine wp_region_put2 D (fun L V w => (∀ j o, ops[j]? = some o → L j = true → ∀ e ∈ o.after, Region.binds .any e = true → L e.on = true) ∧ I L V w) hm hd ⟨fun _ _ _ h => (by cases h), hI⟩ ?_ (fun L V w hL h => hend L V w hL h.2)
  rintro i o ho L V w hi hL - ⟨hc, h⟩ K hK
  refine hstep i o ho L V w hi hL (fun j hj => ?_) h K fun V' a' w' ha hI' => hK V' a' w' ha ⟨fun j oj hoj hLj e he hb => ?_, hI'⟩
  · cases hLj : L j with
    | false => rfl
    | true => rw [waits_done hc i _ j hj hLj] at hi; cases hi
  · unfold alsoL at hLj ⊢
    split
    · rfl
    · by_cases hji : j = i
      · subst hji
        rw [ho] at hoj
        cases hoj
        exact hL e he hb
      · rw [if_neg hji] at hLj
        exact hc j oj hoj hLj e he hb
end Go.Proofs.Ytdogddngiolpoaa
