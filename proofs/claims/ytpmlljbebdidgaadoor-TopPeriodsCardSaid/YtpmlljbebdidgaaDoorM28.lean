/-
  Yd, Yp, Ys, Yv: texts pasted together.
-/
import Derived.Test.YtpmlljbebdidgaaDoorM4
import Derived.Test.YtpmlljbebdidgaaDoorM7
import Derived.Test.YtpmlljbebdidgaaDoorM13
import Derived.Test.YtpmlljbebdidgaaDoorM14
import Derived.BigRegion
import Derived.Deep.RegionHeld3
/-
  pianolaref13.gcd.
-/
namespace Go.Proofs.YtpmlljbebdidgaaDoor
open Go.RowKit

end Go.Proofs.YtpmlljbebdidgaaDoor
/-
  pianolaref13.Counts.
-/
namespace Go.Proofs.YtpmlljbebdidgaaDoor
open Go.RowKit

/-- the memory of Counts: the row of counts, the row of parts -/
structure CtSt (w0 w : World) (gA gP n : Nat) (R P : Nat → Nat) : Prop where
  oa : w.ownsRow w0.heap.size 3 1 (.slice (some ⟨gA, 0, none⟩) n n) n (cellsI (rowN n fun v => (R v : Int)))
  op : w.ownsRow w0.heap.size 3 1 (.slice (some ⟨gP, 0, none⟩) n n) n (cellsI (rowN n fun v => (P v : Int)))
  bw : Below w0.heap.size w0 w
  ne : gA ≠ gP
theorem CtSt.below {w0 w w' : World} {gA gP n : Nat} {R P : Nat → Nat} (h : CtSt w0 w gA gP n R P) (hb : Below w.heap.size w w') : CtSt w0 w' gA gP n R P :=
  ⟨own_below h.oa hb, own_below h.op hb, h.bw.trans (hb.mono h.bw.size), h.ne⟩
theorem CtSt.alloc {w0 w : World} {gA gP n : Nat} {R P : Nat → Nat} (h : CtSt w0 w gA gP n R P) (o : Obj) : CtSt w0 (w.alloc o) gA gP n R P := h.below ((Below.refl _ _).alloc (Nat.le_refl _) o)
theorem CtSt.drewN {w0 w : World} {gA gP n : Nat} {R P : Nat → Nat} (h : CtSt w0 w gA gP n R P) (d : Nat) : CtSt w0 (w.drewN d) gA gP n R P := h.below (Below.drewN (Below.refl _ _) d)
theorem CtSt.gA {w0 w : World} {gA gP n : Nat} {R P : Nat → Nat} (h : CtSt w0 w gA gP n R P) : w0.heap.size ≤ gA := own_ge h.oa rfl
theorem CtSt.gP {w0 w : World} {gA gP n : Nat} {R P : Nat → Nat} (h : CtSt w0 w gA gP n R P) : w0.heap.size ≤ gP := own_ge h.op rfl
theorem rowN_set' {n : Nat} {R : Nat → Nat} {k u : Nat} : (rowN n fun v => (R v : Int)).set k (u : Int) = rowN n fun v => ((if v = k then u else R v : Nat) : Int) := by
  rw [rowN_set]
  exact rowN_ext fun v _ => by split <;> rfl
theorem CtSt.setA {w0 w : World} {gA gP n : Nat} {R P : Nat → Nat} (h : CtSt w0 w gA gP n R P) (j u : Nat) : CtSt w0 (w.setCell ⟨gA, j, none⟩ (.int .i64 (u : Nat))) gA gP n (fun v => if v = j then u else R v) P := by
  have h1 := h.gA
  have h2 := h.ne
  have o1 := (h.oa.stored j (.int .i64 (u : Nat))).1
  rw [cellsI_set, rowN_set'] at o1
  exact ⟨o1, ownsRow_setCell_other h.op (by simp [Value.ownBlock]; omega) _, h.bw.setCell (by simp; omega) _, h2⟩
theorem CtSt.setP {w0 w : World} {gA gP n : Nat} {R P : Nat → Nat} (h : CtSt w0 w gA gP n R P) (j u : Nat) : CtSt w0 (w.setCell ⟨gP, j, none⟩ (.int .i64 (u : Nat))) gA gP n R (fun v => if v = j then u else P v) := by
  have h1 := h.gP
  have h2 := h.ne
  have o1 := (h.op.stored j (.int .i64 (u : Nat))).1
  rw [cellsI_set, rowN_set'] at o1
  exact ⟨ownsRow_setCell_other h.oa (by simp [Value.ownBlock]; omega) _, o1, h.bw.setCell (by simp; omega) _, h2⟩
theorem CtSt.ext {w0 w : World} {gA gP n : Nat} {R P R' P' : Nat → Nat} (h : CtSt w0 w gA gP n R P) (hR : ∀ v, v < n → R v = R' v) (hP : ∀ v, v < n → P v = P' v) : CtSt w0 w gA gP n R' P' :=
  ⟨by rw [rowN_ext (V' := fun v => (R v : Int)) fun v hv => by rw [hR v hv]]; exact h.oa, by rw [rowN_ext (V' := fun v => (P v : Int)) fun v hv => by rw [hP v hv]]; exact h.op, h.bw, h.ne⟩
theorem CtSt.cA {w0 w : World} {gA gP n : Nat} {R P : Nat → Nat} (h : CtSt w0 w gA gP n R P) {j : Nat} (hj : j < n) : w.cell? ⟨gA, j, none⟩ = some (.int .i64 (R j : Nat)) := by
  rw [h.oa.cellAt j (by omega)]
  simp only [cellsI, List.getElem?_map, rowN_at hj]; rfl
theorem CtSt.cP {w0 w : World} {gA gP n : Nat} {R P : Nat → Nat} (h : CtSt w0 w gA gP n R P) {j : Nat} (hj : j < n) : w.cell? ⟨gP, j, none⟩ = some (.int .i64 (P j : Nat)) := by
  rw [h.op.cellAt j (by omega)]
  simp only [cellsI, List.getElem?_map, rowN_at hj]; rfl
/-- what Counts answers -/
def CtOut (n : Nat) (R : Nat → Nat) (w : World) (e : Ending) (w' : World) : Prop :=
  ∃ Ar l cr b, e = .returned (.tuple #[.slice Ar l cr, .bool b]) ∧ Below w.heap.size w w' ∧
    (b = true → l = n ∧ w'.ownsRow w.heap.size 3 1 (.slice Ar n cr) n (cellsI (rowN n fun v => (R v : Int))) ∧ ¬ Big n R) ∧ (b = false → Big n R)
/-- half a step -/
def mixF (k : Nat) (A B : Nat → Nat) (v : Nat) : Nat := if v < k then A v else B v

end Go.Proofs.YtpmlljbebdidgaaDoor
/-
  balance.Holds; the reference's Even and Holds (out of the simul seat's texts).
-/
namespace Go.Proofs.YtpmlljbebdidgaaDoor
open Go.RowKit







end Go.Proofs.YtpmlljbebdidgaaDoor
/-
  The least counts: what balances is a whole multiple of them (plain).
-/
namespace Go.Proofs.YtpmlljbebdidgaaDoor

/-- counts that balance a net -/
def Bal (n : Nat) (ars : List ArcV) (S : Nat → Nat) : Prop := (∀ v, v < n → 1 ≤ S v ∧ S v ≤ 4096) ∧ ∀ a ∈ ars, evA S a = true
/-- what Solve finds steady -/
def Steady (n : Nat) (ars : List ArcV) : Prop := ¬ Big n (cR n ars) ∧ ∀ a ∈ ars, evA (cR n ars) a = true
def ext1 (n : Nat) (S : Nat → Nat) (v : Nat) : Nat := if v < n then S v else 1
theorem ext1_at {n : Nat} {S : Nat → Nat} {v : Nat} (h : v < n) : ext1 n S v = S v := if_pos h
theorem evA_iff {S : Nat → Nat} {a : ArcV} : evA S a = true ↔ a.g * (S a.f.toNat : Int) = a.k * (S a.t.toNat : Int) := decide_eq_true_iff
theorem bal_solves {n : Nat} {ars : List ArcV} {T : List Edg} {R P : Nat → Nat} (C : Ctx n ars T R P) {S : Nat → Nat} (h : Bal n ars S) : Solves (gN ars) (kN ars) T (ext1 n S) := by
  intro e he
  obtain ⟨a, ha, hf, ht, hfl, htl, -, -⟩ := C.edge he
  have hb := C.arc a (List.mem_of_getElem? ha)
  have hev := evA_iff.1 (h.2 a (List.mem_of_getElem? ha))
  rw [hf, ht, Int.toNat_natCast, Int.toNat_natCast] at hev
  rw [gN_at ha, kN_at ha, ext1_at hfl, ext1_at htl]
  have h5 : ((a.g.toNat * S e.f : Nat) : Int) = ((a.k.toNat * S e.t : Nat) : Int) := by
    rw [Int.natCast_mul, Int.natCast_mul, Int.toNat_of_nonneg (by omega), Int.toNat_of_nonneg (by omega)]
    exact hev
  exact Int.ofNat.inj h5
theorem bal_pos {n : Nat} {ars : List ArcV} {S : Nat → Nat} (h : Bal n ars S) (v : Nat) : 1 ≤ ext1 n S v := by
  unfold ext1
  split
  · exact (h.1 v (by assumption)).1
  · omega
/-- along an arc: one multiple -/
theorem bal_arc {n : Nat} {ars : List ArcV} (hc : checkF n ars = 0) {S : Nat → Nat} (h : Bal n ars S) {a : ArcV} (ha : a ∈ ars) : ∃ m, 1 ≤ m ∧ S a.f.toNat = m * cR n ars a.f.toNat ∧ S a.t.toNat = m * cR n ars a.t.toNat := by
  have C := ctx_at hc
  have hb := C.arc a ha
  obtain ⟨i, hi⟩ := List.getElem?_of_mem ha
  have hs := C.same hi
  obtain ⟨m, hm⟩ := C.ri.least _ (bal_solves C h) a.f.toNat
  have h1 := hm a.f.toNat rfl
  have h2 := hm a.t.toNat ((C.part (by omega) (by omega)).2 hs.symm)
  have hp := bal_pos h a.f.toNat
  rw [ext1_at (by omega)] at h1 h2 hp
  refine ⟨m, ?_, h1, h2⟩
  rcases Nat.eq_zero_or_pos m with h0 | h0
  · rw [h0, Nat.zero_mul] at h1; omega
  · exact h0
theorem bal_node {n : Nat} {ars : List ArcV} (hc : checkF n ars = 0) {S : Nat → Nat} (h : Bal n ars S) {v : Nat} (hv : v < n) : ∃ m, 1 ≤ m ∧ S v = m * cR n ars v := by
  have C := ctx_at hc
  obtain ⟨m, hm⟩ := C.ri.least _ (bal_solves C h) v
  have h1 := hm v rfl
  have hp := bal_pos h v
  rw [ext1_at hv] at h1 hp
  refine ⟨m, ?_, h1⟩
  rcases Nat.eq_zero_or_pos m with h0 | h0
  · rw [h0, Nat.zero_mul] at h1; omega
  · exact h0
theorem bal_le {n : Nat} {ars : List ArcV} (hc : checkF n ars = 0) {S : Nat → Nat} (h : Bal n ars S) {v : Nat} (hv : v < n) : cR n ars v ≤ S v := by
  have C := ctx_at hc
  have := counts_le C.ri (bal_solves C h) (bal_pos h) v
  rw [ext1_at hv] at this
  exact this
theorem steady_of {n : Nat} {ars : List ArcV} (hc : checkF n ars = 0) {S : Nat → Nat} (h : Bal n ars S) : Steady n ars := by
  refine ⟨fun ⟨v, hv, h4⟩ => ?_, fun a ha => ?_⟩
  · have := bal_le hc h hv
    have := (h.1 v hv).2
    omega
  · obtain ⟨m, hm, h1, h2⟩ := bal_arc hc h ha
    have hev := evA_iff.1 (h.2 a ha)
    rw [h1, h2, Int.natCast_mul, Int.natCast_mul, Int.mul_left_comm, Int.mul_left_comm a.k] at hev
    exact evA_iff.2 (Int.eq_of_mul_eq_mul_left (by omega) hev)
theorem bal_cR {n : Nat} {ars : List ArcV} (hc : checkF n ars = 0) (h : Steady n ars) : Bal n ars (cR n ars) :=
  ⟨fun v hv => ⟨(ctx_at hc).ri.pos v, not_big h.1 hv⟩, h.2⟩
/-- whether counts balance, as Holds tells it -/
theorem holdB_bal {n : Int} {ars : List ArcV} {rs : List Int} (h : holdB n ars rs = true) : checkF n ars = 0 ∧ ∃ m : Nat, n = m ∧ rs.length = m ∧ Bal m ars (fun v => (rs[v]?.getD 0).toNat) ∧ ∀ v, v < m → rs[v]? = some (((rs[v]?.getD 0).toNat : Nat) : Int) := by
  unfold holdB at h
  rw [Bool.and_eq_true, Bool.and_eq_true, decide_eq_true_eq] at h
  obtain ⟨⟨hc, hl⟩, hr, he⟩ := h
  obtain ⟨m, rfl⟩ := checkF_nat hc
  have hlm : rs.length = m := by omega
  have hat : ∀ v, v < m → rs[v]? = some (((rs[v]?.getD 0).toNat : Nat) : Int) ∧ 1 ≤ (rs[v]?.getD 0).toNat ∧ (rs[v]?.getD 0).toNat ≤ 4096 := fun v hv => by
    have hv' : v < rs.length := by omega
    have hx : rs[v]? = some rs[v] := List.getElem?_eq_getElem hv'
    have h1 := List.all_eq_true.1 hr rs[v] (List.getElem_mem hv')
    unfold repB at h1
    rw [decide_eq_true_eq] at h1
    rw [hx]
    simp only [Option.getD_some]
    refine ⟨by congr 1; omega, by omega, by omega⟩
  have C := ctx_at hc
  refine ⟨hc, m, rfl, hlm, ⟨fun v hv => ⟨(hat v hv).2.1, (hat v hv).2.2⟩, fun a ha => ?_⟩, fun v hv => (hat v hv).1⟩
  have hb := C.arc a ha
  have h1 := List.all_eq_true.1 he a ha
  unfold evenB repAt at h1
  rw [decide_eq_true_eq] at h1
  refine evA_iff.2 ?_
  have e1 := (hat a.f.toNat (by omega)).1
  have e2 := (hat a.t.toNat (by omega)).1
  rw [e1, e2] at h1
  simp only [Option.getD_some] at h1
  exact h1
theorem bal_holdB {n : Nat} {ars : List ArcV} (hc : checkF n ars = 0) {S : Nat → Nat} (h : Bal n ars S) : holdB n ars (rowN n fun v => (S v : Int)) = true := by
  unfold holdB
  rw [Bool.and_eq_true, Bool.and_eq_true, decide_eq_true_eq]
  have C := ctx_at hc
  refine ⟨⟨hc, by rw [rowN_length]⟩, ?_, ?_⟩
  · rw [List.all_eq_true]
    intro x hx
    obtain ⟨v, hv, rfl⟩ := List.mem_map.1 hx
    have := h.1 v (List.mem_range.1 hv)
    exact decide_eq_true (by omega)
  · rw [List.all_eq_true]
    intro a ha
    have hb := C.arc a ha
    have h1 := h.2 a ha
    unfold evenB repAt
    rw [rowN_at (by omega), rowN_at (by omega)]
    exact h1
/-- what Solve answers, with the least counts' law -/
theorem SolA.steady {n : Int} {ars : List ArcV} {vd k : Int} {reps : List Int} {cyc : List Stp} (h : SolA n ars vd reps cyc k) (hc : checkF n ars = 0) : k = 0 ∧ ∃ m : Nat, n = m ∧ ((vd = 1 ∧ Steady m ars ∧ reps = rowN m (fun v => (cR m ars v : Int)) ∧ cyc = []) ∨ ((vd = 2 ∨ vd = 3) ∧ ¬ Steady m ars ∧ reps = [])) := by
  rcases h with ⟨h, -⟩ | ⟨-, hk, m, hm, h⟩
  · exact absurd hc h
  · refine ⟨hk, m, hm, ?_⟩
    rcases h with ⟨hb, rfl, rfl, -⟩ | ⟨hb, rfl, rfl, i, a, p, hu, -, -⟩ | ⟨hb, he, rfl, hr, hcy⟩
    · exact .inr ⟨.inr rfl, fun hs => hs.1 hb, rfl⟩
    · refine .inr ⟨.inl rfl, fun hs => ?_, rfl⟩
      have := hs.2 a (List.mem_of_getElem? hu.1)
      rw [hu.2.1] at this
      cases this
    · exact .inl ⟨rfl, ⟨hb, he⟩, hr, hcy⟩
end Go.Proofs.YtpmlljbebdidgaaDoor
