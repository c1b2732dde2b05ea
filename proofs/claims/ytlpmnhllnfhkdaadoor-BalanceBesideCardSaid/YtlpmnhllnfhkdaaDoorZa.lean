/-
  What Solve answers does not look at the tokens at the start; what is steady does not look at the arcs' order and direction (plain).
-/
import Derived.Test.YtlpmnhllnfhkdaaDoorYv
namespace Go.Proofs.YtlpmnhllnfhkdaaDoor

/-- an arc but for its tokens at the start -/
def core (a : ArcV) : Int × Int × Int × Int := (a.f, a.t, a.g, a.k)
def Sim (ars ars' : List ArcV) : Prop := ars.map core = ars'.map core
theorem Sim.symm {ars ars' : List ArcV} (h : Sim ars ars') : Sim ars' ars := Eq.symm h
theorem Sim.length {ars ars' : List ArcV} (h : Sim ars ars') : ars.length = ars'.length := by
  have := congrArg List.length h
  simpa using this
theorem Sim.at_ {ars ars' : List ArcV} (h : Sim ars ars') {i : Nat} {a : ArcV} (ha : ars[i]? = some a) : ∃ a', ars'[i]? = some a' ∧ a'.f = a.f ∧ a'.t = a.t ∧ a'.g = a.g ∧ a'.k = a.k := by
  have h1 : (ars.map core)[i]? = (ars'.map core)[i]? := by rw [h]
  rw [List.getElem?_map, List.getElem?_map, ha] at h1
  cases hb : ars'[i]? with
  | none => rw [hb] at h1; cases h1
  | some a' =>
    rw [hb] at h1
    simp only [Option.map_some, Option.some.injEq, core, Prod.mk.injEq] at h1
    exact ⟨a', rfl, h1.1.symm, h1.2.1.symm, h1.2.2.1.symm, h1.2.2.2.symm⟩
theorem forestGo_sim : ∀ (ars ars' : List ArcV) (i : Nat) (up tr : List Int), Sim ars ars' → forestGo i up tr ars = forestGo i up tr ars'
  | [], [], _, _, _, _ => rfl
  | [], _ :: _, _, _, _, h => by simp [Sim] at h
  | _ :: _, [], _, _, _, h => by simp [Sim] at h
  | a :: ars, b :: ars', i, up, tr, h => by
    unfold Sim at h
    simp only [List.map_cons, List.cons.injEq] at h
    obtain ⟨h1, h2⟩ := h
    simp only [core, Prod.mk.injEq] at h1
    rw [forestGo, forestGo, h1.1, h1.2.1]
    split
    · exact forestGo_sim ars ars' _ _ _ h2
    · exact forestGo_sim ars ars' _ _ _ h2
theorem upF_sim {n : Nat} {ars ars' : List ArcV} (h : Sim ars ars') : upF n ars = upF n ars' := by unfold upF; rw [forestGo_sim _ _ _ _ _ h]
theorem treeF_sim {n : Nat} {ars ars' : List ArcV} (h : Sim ars ars') : treeF n ars = treeF n ars' := by unfold treeF; rw [forestGo_sim _ _ _ _ _ h]
theorem elim_sim {α : Type} {ars ars' : List ArcV} (h : Sim ars ars') (i : Nat) (d : α) (f : ArcV → α) (hf : ∀ a a' : ArcV, a'.f = a.f → a'.t = a.t → a'.g = a.g → a'.k = a.k → f a' = f a) : ars[i]?.elim d f = ars'[i]?.elim d f := by
  cases ha : ars[i]? with
  | none =>
    cases hb : ars'[i]? with
    | none => rfl
    | some b => obtain ⟨a', h1, -⟩ := h.symm.at_ hb; rw [ha] at h1; cases h1
  | some a =>
    obtain ⟨a', h1, h2, h3, h4, h5⟩ := h.at_ ha
    rw [h1]
    exact (hf a a' h2 h3 h4 h5).symm
theorem gN_sim {ars ars' : List ArcV} (h : Sim ars ars') : gN ars = gN ars' := by
  funext i; unfold gN; rw [elim_sim h i 1 (fun a => a.g) (fun _ _ _ _ h _ => h)]
theorem kN_sim {ars ars' : List ArcV} (h : Sim ars ars') : kN ars = kN ars' := by
  funext i; unfold kN; rw [elim_sim h i 1 (fun a => a.k) (fun _ _ _ _ _ h => h)]
theorem edgesF_sim {n : Nat} {ars ars' : List ArcV} (h : Sim ars ars') : edgesF n ars = edgesF n ars' := by
  unfold edgesF
  rw [treeF_sim h]
  refine List.map_congr_left fun x _ => ?_
  rw [elim_sim h x.toNat 0 (fun a => a.f) (fun _ _ h _ _ _ => h), elim_sim h x.toNat 0 (fun a => a.t) (fun _ _ _ h _ _ => h)]
theorem cR_sim {n : Nat} {ars ars' : List ArcV} (h : Sim ars ars') : cR n ars = cR n ars' := by unfold cR; rw [gN_sim h, kN_sim h, edgesF_sim h]
theorem finv_sim {n : Nat} {ars ars' : List ArcV} {i : Nat} {up tr : List Int} {T : List Edg} (h : Sim ars ars') (hF : FInv n ars i up tr T) : FInv n ars' i up tr T :=
  ⟨hF.len, hF.good, hF.forest, hF.conn, hF.tree, fun e he => by
    obtain ⟨h1, h2, h3, a, ha, hf, ht⟩ := hF.edge e he
    obtain ⟨a', ha', h4, h5, -, -⟩ := h.at_ ha
    exact ⟨h1, h2, h3, a', ha', h4.trans hf, h5.trans ht⟩, fun j a' hj ha' => by
    obtain ⟨a, ha, h4, h5, -, -⟩ := h.symm.at_ ha'
    have := hF.all j a hj ha
    rw [h4, h5] at this
    exact this⟩
theorem path_sim {n : Nat} {ars ars' : List ArcV} {s t k : Int} {p : List Stp} (h : Sim ars ars') (hc : checkF n ars = 0) (hc' : checkF n ars' = 0) (hp : PathAns n ars s t k p) : PathAns n ars' s t k p := by
  rcases hp with ⟨h1, -⟩ | ⟨-, h1⟩ | ⟨-, m, a, b, h1, h2, h3, h4, h5, h6, h7⟩ | ⟨-, m, a, b, h1, h2, h3, h4, h5, h6, h7, T, hT, hw⟩
  · exact absurd hc h1
  · exact .inr (.inl ⟨hc', h1⟩)
  · exact .inr (.inr (.inl ⟨hc', m, a, b, h1, h2, h3, h4, h5, by rw [← upF_sim h]; exact h6, h7⟩))
  · refine .inr (.inr (.inr ⟨hc', m, a, b, h1, h2, h3, h4, h5, by rw [← upF_sim h]; exact h6, h7, T, ?_, hw⟩))
    rw [← upF_sim h, ← treeF_sim h, ← h.length]
    exact finv_sim h hT
theorem evA_sim {R : Nat → Nat} {a a' : ArcV} (h1 : a'.f = a.f) (h2 : a'.t = a.t) (h3 : a'.g = a.g) (h4 : a'.k = a.k) : evA R a' = evA R a := by unfold evA; rw [h1, h2, h3, h4]
theorem first_sim {R : Nat → Nat} {ars ars' : List ArcV} {i : Nat} {a : ArcV} (h : Sim ars ars') (hu : FirstU ars R i a) : ∃ a', FirstU ars' R i a' ∧ a'.f = a.f ∧ a'.t = a.t := by
  obtain ⟨a', ha', h1, h2, h3, h4⟩ := h.at_ hu.1
  refine ⟨a', ⟨ha', by rw [evA_sim h1 h2 h3 h4]; exact hu.2.1, fun j b hj hb => ?_⟩, h1, h2⟩
  obtain ⟨b', hb', g1, g2, g3, g4⟩ := h.symm.at_ hb
  rw [← evA_sim g1 g2 g3 g4]
  exact hu.2.2 j b' hj hb'
/-- Solve's answer at nets that are alike but for the start -/
theorem SolA.sim {n : Int} {ars ars' : List ArcV} {vd k : Int} {reps : List Int} {cyc : List Stp} (h : Sim ars ars') (hc : checkF n ars = 0) (hc' : checkF n ars' = 0) (hs : SolA n ars vd reps cyc k) : SolA n ars' vd reps cyc k := by
  rcases hs with ⟨h1, -⟩ | ⟨-, hk, m, rfl, hs⟩
  · exact absurd hc h1
  · refine .inr ⟨hc', hk, m, rfl, ?_⟩
    rw [← cR_sim h]
    rcases hs with hs | ⟨hb, h1, h2, i, a, p, hu, hp, h3⟩ | ⟨hb, he, h1, h2, h3⟩
    · exact .inl hs
    · obtain ⟨a', hu', hf, ht⟩ := first_sim h hu
      refine .inr (.inl ⟨hb, h1, h2, i, a', p, hu', ?_, h3⟩)
      rw [hf, ht]
      exact path_sim h hc hc' hp
    · refine .inr (.inr ⟨hb, fun a' ha' => ?_, h1, h2, h3⟩)
      obtain ⟨i, hi⟩ := List.getElem?_of_mem ha'
      obtain ⟨a, ha, g1, g2, g3, g4⟩ := h.symm.at_ hi
      rw [← evA_sim g1 g2 g3 g4]
      exact he a (List.mem_of_getElem? ha)
theorem SolA.check {n : Int} {ars : List ArcV} {vd k : Int} {reps : List Int} {cyc : List Stp} (hs : SolA n ars vd reps cyc k) : k = checkF n ars := by
  rcases hs with ⟨-, h, -⟩ | ⟨hc, hk, -⟩
  · exact h
  · rw [hk, hc]
/-- an arc turned about -/
def turnA (a : ArcV) : ArcV := ⟨a.t, a.f, a.k, a.g, a.s⟩
def turnN (ars : List ArcV) : List ArcV := (ars.map turnA).reverse
theorem arcF_turn {n : Int} {a : ArcV} (h : arcF n a = 0) : arcF n (turnA a) = 0 := by
  unfold arcF at h ⊢
  unfold turnA
  simp only
  split at h
  · cases h
  · split at h
    · cases h
    · split at h
      · cases h
      · rw [if_neg (by omega), if_neg (by omega), if_neg (by omega)]
theorem arcsF_zero (n : Int) : ∀ ars : List ArcV, arcsF n ars = 0 ↔ ∀ a ∈ ars, arcF n a = 0
  | [] => by simp [arcsF]
  | a :: ars => by
    rw [arcsF]
    by_cases h : arcF n a = 0
    · rw [if_pos h, arcsF_zero n ars]
      simp [h]
    · rw [if_neg h]
      simp [h]
theorem checkF_zero {n : Int} {ars : List ArcV} : checkF n ars = 0 ↔ (1 ≤ n ∧ n ≤ 32) ∧ ars.length ≤ 96 ∧ ∀ a ∈ ars, arcF n a = 0 := by
  unfold checkF
  by_cases h1 : n < 1 ∨ 32 < n
  · rw [if_pos h1]; constructor
    · intro h; cases h
    · rintro ⟨h, -⟩; omega
  · rw [if_neg h1]
    by_cases h2 : 96 < ars.length
    · rw [if_pos h2]; constructor
      · intro h; cases h
      · rintro ⟨-, h, -⟩; omega
    · rw [if_neg h2, arcsF_zero]
      constructor
      · intro h; exact ⟨by omega, by omega, h⟩
      · rintro ⟨-, -, h⟩; exact h
theorem turnN_turn (ars : List ArcV) : turnN (turnN ars) = ars := by
  unfold turnN
  rw [List.map_reverse, List.reverse_reverse, List.map_map]
  exact (List.map_congr_left fun a _ => rfl).trans (List.map_id ars)
theorem check_turn {n : Int} {ars : List ArcV} (h : checkF n ars = 0) : checkF n (turnN ars) = 0 := by
  rw [checkF_zero] at h ⊢
  refine ⟨h.1, by simp [turnN]; exact h.2.1, fun a ha => ?_⟩
  unfold turnN at ha
  obtain ⟨b, hb, rfl⟩ := List.mem_map.1 (List.mem_reverse.1 ha)
  exact arcF_turn (h.2.2 b hb)
theorem bal_turn {n : Nat} {ars : List ArcV} {S : Nat → Nat} (h : Bal n ars S) : Bal n (turnN ars) S := by
  refine ⟨h.1, fun a ha => ?_⟩
  unfold turnN at ha
  obtain ⟨b, hb, rfl⟩ := List.mem_map.1 (List.mem_reverse.1 ha)
  exact evA_iff.2 (evA_iff.1 (h.2 b hb)).symm
/-- what is steady is steady turned about, with the same counts -/
theorem steady_turn {n : Nat} {ars : List ArcV} (hc : checkF n ars = 0) (h : Steady n ars) : Steady n (turnN ars) := steady_of (check_turn hc) (bal_turn (bal_cR hc h))
theorem counts_turn {n : Nat} {ars : List ArcV} (hc : checkF n ars = 0) (h : Steady n ars) {v : Nat} (hv : v < n) : cR n (turnN ars) v = cR n ars v := by
  have h1 := bal_le (check_turn hc) (bal_turn (bal_cR hc h)) hv
  have h2 := bal_turn (bal_cR (check_turn hc) (steady_turn hc h))
  rw [turnN_turn] at h2
  have h3 := bal_le hc h2 hv
  omega
end Go.Proofs.YtlpmnhllnfhkdaaDoor
