/-
  The least counts: what balances is a whole multiple of them (plain).
-/
import Derived.Test.YtlpmnhllnfhkdaaDoorYs
namespace Go.Proofs.YtlpmnhllnfhkdaaDoor

/-- counts that balance a net -/
def Bal (n : Nat) (ars : List ArcV) (S : Nat → Nat) : Prop := (∀ v, v < n → 1 ≤ S v ∧ S v ≤ 4096) ∧ ∀ a ∈ ars, evA S a = true
/-- what Solve finds steady -/
def Steady (n : Nat) (ars : List ArcV) : Prop := ¬ Big n (cR n ars) ∧ ∀ a ∈ ars, evA (cR n ars) a = true
def ext1 (n : Nat) (S : Nat → Nat) (v : Nat) : Nat := if v < n then S v else 1
theorem ext1_at {n : Nat} {S : Nat → Nat} {v : Nat} (h : v < n) : ext1 n S v = S v := if_pos h
theorem evA_iff {S : Nat → Nat} {a : ArcV} : evA S a = true ↔ a.g * (S a.f.toNat : Int) = a.k * (S a.t.toNat : Int) := decide_eq_true_iff
theorem bal_solves {n : Nat} {ars : List ArcV} {T : List Edg} {R P : Nat → Nat} (C : Ctx n ars T R P) {S : Nat → Nat} (h : Bal n ars S) : Solves (gN ars) (kN ars) T (ext1 n S) := by
  intro e he
  obtain ⟨a, ha, hf, ht, hfl, htl, -, -⟩ := C.edge he
  have hb := C.arc a (List.mem_of_getElem? ha)
  have hev := evA_iff.1 (h.2 a (List.mem_of_getElem? ha))
  rw [hf, ht, Int.toNat_natCast, Int.toNat_natCast] at hev
  rw [gN_at ha, kN_at ha, ext1_at hfl, ext1_at htl]
  have h5 : ((a.g.toNat * S e.f : Nat) : Int) = ((a.k.toNat * S e.t : Nat) : Int) := by
    rw [Int.natCast_mul, Int.natCast_mul, Int.toNat_of_nonneg (by omega), Int.toNat_of_nonneg (by omega)]
    exact hev
  exact Int.ofNat.inj h5
theorem bal_pos {n : Nat} {ars : List ArcV} {S : Nat → Nat} (h : Bal n ars S) (v : Nat) : 1 ≤ ext1 n S v := by
  unfold ext1
  split
  · exact (h.1 v (by assumption)).1
  · omega
/-- along an arc: one multiple -/
theorem bal_arc {n : Nat} {ars : List ArcV} (hc : checkF n ars = 0) {S : Nat → Nat} (h : Bal n ars S) {a : ArcV} (ha : a ∈ ars) : ∃ m, 1 ≤ m ∧ S a.f.toNat = m * cR n ars a.f.toNat ∧ S a.t.toNat = m * cR n ars a.t.toNat := by
  have C := ctx_at hc
  have hb := C.arc a ha
  obtain ⟨i, hi⟩ := List.getElem?_of_mem ha
  have hs := C.same hi
  obtain ⟨m, hm⟩ := C.ri.least _ (bal_solves C h) a.f.toNat
  have h1 := hm a.f.toNat rfl
  have h2 := hm a.t.toNat ((C.part (by omega) (by omega)).2 hs.symm)
  have hp := bal_pos h a.f.toNat
  rw [ext1_at (by omega)] at h1 h2 hp
  refine ⟨m, ?_, h1, h2⟩
  rcases Nat.eq_zero_or_pos m with h0 | h0
  · rw [h0, Nat.zero_mul] at h1; omega
  · exact h0
theorem bal_node {n : Nat} {ars : List ArcV} (hc : checkF n ars = 0) {S : Nat → Nat} (h : Bal n ars S) {v : Nat} (hv : v < n) : ∃ m, 1 ≤ m ∧ S v = m * cR n ars v := by
  have C := ctx_at hc
  obtain ⟨m, hm⟩ := C.ri.least _ (bal_solves C h) v
  have h1 := hm v rfl
  have hp := bal_pos h v
  rw [ext1_at hv] at h1 hp
  refine ⟨m, ?_, h1⟩
  rcases Nat.eq_zero_or_pos m with h0 | h0
  · rw [h0, Nat.zero_mul] at h1; omega
  · exact h0
theorem bal_le {n : Nat} {ars : List ArcV} (hc : checkF n ars = 0) {S : Nat → Nat} (h : Bal n ars S) {v : Nat} (hv : v < n) : cR n ars v ≤ S v := by
  have C := ctx_at hc
  have := counts_le C.ri (bal_solves C h) (bal_pos h) v
  rw [ext1_at hv] at this
  exact this
theorem steady_of {n : Nat} {ars : List ArcV} (hc : checkF n ars = 0) {S : Nat → Nat} (h : Bal n ars S) : Steady n ars := by
  refine ⟨fun ⟨v, hv, h4⟩ => ?_, fun a ha => ?_⟩
  · have := bal_le hc h hv
    have := (h.1 v hv).2
    omega
  · obtain ⟨m, hm, h1, h2⟩ := bal_arc hc h ha
    have hev := evA_iff.1 (h.2 a ha)
    rw [h1, h2, Int.natCast_mul, Int.natCast_mul, Int.mul_left_comm, Int.mul_left_comm a.k] at hev
    exact evA_iff.2 (Int.eq_of_mul_eq_mul_left (by omega) hev)
theorem bal_cR {n : Nat} {ars : List ArcV} (hc : checkF n ars = 0) (h : Steady n ars) : Bal n ars (cR n ars) :=
  ⟨fun v hv => ⟨(ctx_at hc).ri.pos v, not_big h.1 hv⟩, h.2⟩
/-- whether counts balance, as Holds tells it -/
theorem holdB_bal {n : Int} {ars : List ArcV} {rs : List Int} (h : holdB n ars rs = true) : checkF n ars = 0 ∧ ∃ m : Nat, n = m ∧ rs.length = m ∧ Bal m ars (fun v => (rs[v]?.getD 0).toNat) ∧ ∀ v, v < m → rs[v]? = some (((rs[v]?.getD 0).toNat : Nat) : Int) := by
  unfold holdB at h
  rw [Bool.and_eq_true, Bool.and_eq_true, decide_eq_true_eq] at h
  obtain ⟨⟨hc, hl⟩, hr, he⟩ := h
  obtain ⟨m, rfl⟩ := checkF_nat hc
  have hlm : rs.length = m := by omega
  have hat : ∀ v, v < m → rs[v]? = some (((rs[v]?.getD 0).toNat : Nat) : Int) ∧ 1 ≤ (rs[v]?.getD 0).toNat ∧ (rs[v]?.getD 0).toNat ≤ 4096 := fun v hv => by
    have hv' : v < rs.length := by omega
    have hx : rs[v]? = some rs[v] := List.getElem?_eq_getElem hv'
    have h1 := List.all_eq_true.1 hr rs[v] (List.getElem_mem hv')
    unfold repB at h1
    rw [decide_eq_true_eq] at h1
    rw [hx]
    simp only [Option.getD_some]
    refine ⟨by congr 1; omega, by omega, by omega⟩
  have C := ctx_at hc
  refine ⟨hc, m, rfl, hlm, ⟨fun v hv => ⟨(hat v hv).2.1, (hat v hv).2.2⟩, fun a ha => ?_⟩, fun v hv => (hat v hv).1⟩
  have hb := C.arc a ha
  have h1 := List.all_eq_true.1 he a ha
  unfold evenB repAt at h1
  rw [decide_eq_true_eq] at h1
  refine evA_iff.2 ?_
  have e1 := (hat a.f.toNat (by omega)).1
  have e2 := (hat a.t.toNat (by omega)).1
  rw [e1, e2] at h1
  simp only [Option.getD_some] at h1
  exact h1
theorem bal_holdB {n : Nat} {ars : List ArcV} (hc : checkF n ars = 0) {S : Nat → Nat} (h : Bal n ars S) : holdB n ars (rowN n fun v => (S v : Int)) = true := by
  unfold holdB
  rw [Bool.and_eq_true, Bool.and_eq_true, decide_eq_true_eq]
  have C := ctx_at hc
  refine ⟨⟨hc, by rw [rowN_length]⟩, ?_, ?_⟩
  · rw [List.all_eq_true]
    intro x hx
    obtain ⟨v, hv, rfl⟩ := List.mem_map.1 hx
    have := h.1 v (List.mem_range.1 hv)
    exact decide_eq_true (by omega)
  · rw [List.all_eq_true]
    intro a ha
    have hb := C.arc a ha
    have h1 := h.2 a ha
    unfold evenB repAt
    rw [rowN_at (by omega), rowN_at (by omega)]
    exact h1
/-- what Solve answers, with the least counts' law -/
theorem SolA.steady {n : Int} {ars : List ArcV} {vd k : Int} {reps : List Int} {cyc : List Stp} (h : SolA n ars vd reps cyc k) (hc : checkF n ars = 0) : k = 0 ∧ ∃ m : Nat, n = m ∧ ((vd = 1 ∧ Steady m ars ∧ reps = rowN m (fun v => (cR m ars v : Int)) ∧ cyc = []) ∨ ((vd = 2 ∨ vd = 3) ∧ ¬ Steady m ars ∧ reps = [])) := by
  rcases h with ⟨h, -⟩ | ⟨-, hk, m, hm, h⟩
  · exact absurd hc h
  · refine ⟨hk, m, hm, ?_⟩
    rcases h with ⟨hb, rfl, rfl, -⟩ | ⟨hb, rfl, rfl, i, a, p, hu, -, -⟩ | ⟨hb, he, rfl, hr, hcy⟩
    · exact .inr ⟨.inr rfl, fun hs => hs.1 hb, rfl⟩
    · refine .inr ⟨.inl rfl, fun hs => ?_, rfl⟩
      have := hs.2 a (List.mem_of_getElem? hu.1)
      rw [hu.2.1] at this
      cases this
    · exact .inl ⟨rfl, ⟨hb, he⟩, hr, hcy⟩
end Go.Proofs.YtlpmnhllnfhkdaaDoor
