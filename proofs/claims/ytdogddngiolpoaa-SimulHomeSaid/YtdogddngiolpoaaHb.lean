/-
  The plain law of SimulHome: a list fires wholly and comes home, period by period; blocks hold each other.
-/
import Derived.Test.YtdogddngiolpoaaHa
import Derived.Test.YtdogddngiolpoaaAb
namespace Go.Proofs.Ytdogddngiolpoaa
open Go.RowKit

theorem fire_run {ars : List ArcV} {n : Nat} {rs : List Int} {pick : (Nat → Int) → Int} (hp : PickOk ars n rs pick) : ∀ (f : Nat) (F : Nat → Int), fireN ars n F (runF pick f F).1 = (runF pick f F).1.length ∧ fireF ars n F (runF pick f F).1 = (runF pick f F).2 := by
  intro f
  induction f with
  | zero => intro F; exact ⟨rfl, rfl⟩
  | succ f ih =>
    intro F
    simp only [runF]
    split
    · rename_i h
      obtain ⟨v, hv, _, _, hm⟩ := hp F h
      obtain ⟨h1, h2⟩ := ih (bump F (pick F).toNat)
      rw [hv] at h1 h2 ⊢
      simp only [fireN, fireF, hm, if_true, List.length_cons]
      exact ⟨by rw [h1], h2⟩
    · exact ⟨rfl, rfl⟩
/-- so many whole periods ahead -/
def shF (rs : List Int) (p : Nat) (F : Nat → Int) : Nat → Int := fun v => p * repAt rs v + F v
theorem tok_shift {ars : List ArcV} {n : Nat} {rs : List Int} (hN : NetOk n ars) (he : ars.all (evenB rs) = true) (p : Nat) (F : Nat → Int) {i : Nat} (hi : i < ars.length) : tokI ars (shF rs p F) i = tokI ars F i := by
  have ha := arcAt_mem hi
  have h1 := List.all_eq_true.1 he _ ha
  obtain ⟨g1, g2, g3, g4, -⟩ := hN.ok _ ha
  unfold tokI tokA shF
  generalize arcAt ars i = a at *
  unfold evenB at h1
  rw [decide_eq_true_eq] at h1
  have e1 : repAt rs (a.f.toNat : Int) = repAt rs a.f := by rw [Int.toNat_of_nonneg g1]
  have e2 : repAt rs (a.t.toNat : Int) = repAt rs a.t := by rw [Int.toNat_of_nonneg g3]
  rw [e1, e2, Int.mul_add, Int.mul_add]
  have e3 : a.g * ((p : Int) * repAt rs a.f) = a.k * ((p : Int) * repAt rs a.t) := by
    rw [Int.mul_left_comm, h1, Int.mul_left_comm]
  omega
theorem may_shift {ars : List ArcV} {n : Nat} {rs : List Int} (hN : NetOk n ars) (he : ars.all (evenB rs) = true) (p : Nat) (F : Nat → Int) (v : Int) : mayB ars n (shF rs p F) v = mayB ars n F v := by
  by_cases hv : 0 ≤ v ∧ v < n
  · obtain ⟨u, rfl⟩ : ∃ u : Nat, v = u := ⟨v.toNat, by omega⟩
    rw [Bool.eq_iff_iff, mayB_iff, mayB_iff]
    constructor
    · rintro ⟨h1, h2⟩
      exact ⟨h1, fun i hi ht => by rw [← tok_shift hN he p F hi]; exact h2 i hi ht⟩
    · rintro ⟨h1, h2⟩
      exact ⟨h1, fun i hi ht => by rw [tok_shift hN he p F hi]; exact h2 i hi ht⟩
  · unfold mayB
    rw [decide_eq_false hv]
    rfl
theorem bump_shift (rs : List Int) (p : Nat) (F : Nat → Int) (v : Nat) : bump (shF rs p F) v = shF rs p (bump F v) := by
  funext j
  unfold bump shF
  by_cases h : j = v
  · subst h; rw [upd_self, upd_self]; omega
  · rw [upd_other h, upd_other h]
theorem fire_shift {ars : List ArcV} {n : Nat} {rs : List Int} (hN : NetOk n ars) (he : ars.all (evenB rs) = true) (p : Nat) : ∀ (xs : List Int) (F : Nat → Int), fireN ars n (shF rs p F) xs = fireN ars n F xs ∧ fireF ars n (shF rs p F) xs = shF rs p (fireF ars n F xs) := by
  intro xs
  induction xs with
  | nil => intro F; exact ⟨rfl, rfl⟩
  | cons x xs ih =>
    intro F
    simp only [fireN, fireF, may_shift hN he, bump_shift]
    obtain ⟨h1, h2⟩ := ih (bump F x.toNat)
    split
    · exact ⟨by rw [h1], h2⟩
    · exact ⟨rfl, rfl⟩
/-- where nothing is left: the counts -/
theorem left_none {n : Nat} {ars : List ArcV} {rs : List Int} {G : Nat → Int} (hlen : rs.length = n) (hle : ∀ j, j < n → G j ≤ repAt rs j) (hfar : ∀ j, n ≤ j → G j = 0) (hb : blocksF ars n G (leftF rs G) n = []) : G = fun v : Nat => repAt rs v := by
  funext v
  by_cases hv : v < n
  · have h1 := hle v hv
    have h2 : ¬ 0 < leftF rs G v := by
      intro hl
      unfold blocksF at hb
      rw [List.map_eq_nil_iff, List.filter_eq_nil_iff] at hb
      exact hb v (List.mem_range.2 hv) (by simpa using hl)
    unfold leftF at h2
    omega
  · rw [hfar v (by omega)]
    unfold repAt
    rw [Int.toNat_natCast, List.getElem?_eq_none (by omega)]
    rfl
/-- a list: it fires wholly at whatever period, and comes home -/
theorem home_list {n : Nat} {ars : List ArcV} {rs ps : List Int} (h : wrongF n ars rs ps = 0) (hb : (ansF (pickS ars (n : Int).toNat rs ps) n ars rs ps).2 = []) :
    (∀ p : Nat, fireN ars n (shF rs p fun _ => 0) (ansF (pickS ars (n : Int).toNat rs ps) n ars rs ps).1 = (ansF (pickS ars (n : Int).toNat rs ps) n ars rs ps).1.length ∧
      fireF ars n (shF rs p fun _ => 0) (ansF (pickS ars (n : Int).toNat rs ps) n ars rs ps).1 = shF rs (p + 1) fun _ => 0) ∧
    rowF (countF (ansF (pickS ars (n : Int).toNat rs ps) n ars rs ps).1) n = rs ∧ nodesB (n : Int) (ansF (pickS ars (n : Int).toNat rs ps) n ars rs ps).1 = true ∧ 0 < (ansF (pickS ars (n : Int).toNat rs ps) n ars rs ps).1.length ∧
    (ansF (pickS ars (n : Int).toNat rs ps) n ars rs ps).1.length ≤ 2048 := by
  obtain ⟨m, hm, hck, hN, hlen, hall, heven, hsum, hno⟩ := wrongF_parts h
  obtain rfl : n = m := by omega
  rw [Int.toNat_natCast] at hb ⊢
  unfold ansF at hb ⊢
  rw [if_pos h, Int.toNat_natCast] at hb ⊢
  obtain ⟨c1, c2, c3, c4⟩ := runF_end (pickS_ok ars n rs ps) (pickS_all ars n rs ps) (leftSum n (leftF rs fun _ => 0)) (fun _ => 0) .zero (Nat.le_refl _)
  obtain ⟨f1, f2⟩ := fire_run (pickS_ok ars n rs ps) (leftSum n (leftF rs fun _ => 0)) (fun _ => 0)
  have hlx := runF_len (pick := pickS ars n rs ps) (leftSum n (leftF rs fun _ => 0)) (fun _ => 0)
  generalize runF (pickS ars n rs ps) (leftSum n (leftF rs fun _ => 0)) (fun _ => 0) = r at *
  unfold endF at hb ⊢
  by_cases hbl : blocksF ars n r.2 (leftF rs r.2) n = []
  · rw [if_pos hbl]
    have hle := c1.le_reps fun v hv => by have := repAt_lt hall (f := v) (by omega); omega
    have hr := left_none hlen hle c1.far hbl
    have hcn : rowF (countF r.1) n = rs := by
      refine List.ext_getElem? fun k => ?_
      by_cases hk : k < n
      · rw [rowF_at _ hk, c3 k, hr]
        have h3 : rs[k]? = some (repAt rs k) := by
          unfold repAt
          rw [Int.toNat_natCast, List.getElem?_eq_getElem (by omega : k < rs.length)]
          rfl
        rw [h3, Int.sub_zero]
      · rw [List.getElem?_eq_none (by rw [rowF_length]; omega), List.getElem?_eq_none (by omega)]
    refine ⟨fun p => ?_, hcn, c4, ?_, ?_⟩
    · obtain ⟨s1, s2⟩ := fire_shift hN heven p r.1 fun _ => 0
      rw [s1, s2, f1, f2, hr]
      refine ⟨rfl, ?_⟩
      funext v
      show (p : Int) * repAt rs v + repAt rs v = ((p + 1 : Nat) : Int) * repAt rs v + 0
      rw [Int.natCast_add, Int.add_mul]
      omega
    · have hp := hN.pos
      have h0 : countF r.1 0 = repAt rs ((0 : Nat) : Int) - 0 := by rw [c3 0, hr]
      have h1 := repAt_lt hall (f := 0) (by omega)
      cases hx : r.1 with
      | nil => rw [hx, show countF [] 0 = 0 from rfl] at h0; omega
      | cons x xs => simp
    · have hleft := sumF_left hall rs.length (Nat.le_refl _)
      rw [List.take_length, hlen] at hleft
      simp only
      omega
  · rw [if_neg hbl] at hb
    exact absurd hb hbl
/-- blocks: they hold each other, each below its count -/
theorem home_blocks {n : Nat} {ars : List ArcV} {rs ps : List Int} (h : wrongF n ars rs ps = 0) (hb : (ansF (pickS ars (n : Int).toNat rs ps) n ars rs ps).2 ≠ []) :
    ∃ F vs, (ansF (pickS ars (n : Int).toNat rs ps) n ars rs ps) = ([], vs.map (blkN ars F)) ∧ HeldV n ars F vs ∧ ∀ v ∈ vs, F v < repAt rs v := by
  obtain ⟨m, hm, hck, hN, hlen, hall, heven, hsum, hno⟩ := wrongF_parts h
  obtain rfl : n = m := by omega
  rw [Int.toNat_natCast] at hb ⊢
  unfold ansF at hb ⊢
  rw [if_pos h, Int.toNat_natCast] at hb ⊢
  obtain ⟨c1, c2, -, -⟩ := runF_end (pickS_ok ars n rs ps) (pickS_all ars n rs ps) (leftSum n (leftF rs fun _ => 0)) (fun _ => 0) .zero (Nat.le_refl _)
  generalize runF (pickS ars n rs ps) (leftSum n (leftF rs fun _ => 0)) (fun _ => 0) = r at *
  unfold endF at hb ⊢
  by_cases hbl : blocksF ars n r.2 (leftF rs r.2) n = []
  · rw [if_pos hbl] at hb; exact absurd rfl hb
  · rw [if_neg hbl]
    have hle := c1.le_reps fun v hv => by have := repAt_lt hall (f := v) (by omega); omega
    have hmem : ∀ v, v ∈ (List.range n).filter (fun v : Nat => decide (0 < leftF rs r.2 v)) ↔ v < n ∧ 0 < leftF rs r.2 v := fun v => by simp
    refine ⟨r.2, (List.range n).filter (fun v : Nat => decide (0 < leftF rs r.2 v)), rfl, ⟨?_, List.Pairwise.filter _ List.nodup_range, fun v hv => ((hmem v).1 hv).1, fun v hv => ?_, fun v hv => ?_⟩, fun v hv => ?_⟩
    · refine List.length_pos_iff.2 fun hc => hbl ?_
      unfold blocksF
      rw [hc]; rfl
    · have h1 := (hmem v).1 hv
      have h2 := hle v h1.1
      have h3 := repAt_lt hall (f := v) (by omega)
      have := c1.nonneg v
      omega
    · obtain ⟨hvn, hlv⟩ := (hmem v).1 hv
      have hm0 := c2 v hvn hlv
      unfold mayB at hm0
      rw [decide_eq_true (by omega : (0 : Int) ≤ v ∧ (v : Int) < n), Bool.true_and, Int.toNat_natCast] at hm0
      cases hs : shortO ars r.2 v with
      | none => rw [hs] at hm0; cases hm0
      | some i =>
        have h1 := List.find?_some hs
        have h2 := List.mem_range.1 (List.mem_of_find?_eq_some hs)
        simp only [Bool.and_eq_true, decide_eq_true_eq, lacks] at h1
        obtain ⟨ht, hl⟩ := h1
        have ha := arcAt_mem h2
        have he := List.all_eq_true.1 heven _ ha
        obtain ⟨g1, g2, g3, g4, g5, g6, g7, g8, g9, g10⟩ := hN.ok _ ha
        unfold evenB at he
        rw [decide_eq_true_eq] at he
        unfold tokA at hl
        refine ⟨i, (arcAt ars i).f.toNat, rfl, h2, ht, by omega, ?_, ?_⟩
        · rw [hmem]
          refine ⟨by omega, ?_⟩
          unfold leftF at hlv ⊢
          rw [Int.toNat_of_nonneg g1]
          rw [ht, Int.toNat_natCast] at hl
          rw [ht] at he
          refine Int.not_le.1 fun hc => ?_
          have m1 := Int.mul_le_mul_of_nonneg_left (show repAt rs (arcAt ars i).f ≤ r.2 (arcAt ars i).f.toNat by omega) (show 0 ≤ (arcAt ars i).g by omega)
          have m2 := Int.mul_le_mul_of_nonneg_left (show r.2 v + 1 ≤ repAt rs (v : Int) by omega) (show 0 ≤ (arcAt ars i).k by omega)
          rw [Int.mul_add, Int.mul_one] at m2
          omega
        · rw [ht, Int.toNat_natCast] at hl
          rw [Int.mul_add, Int.mul_one]
          omega
    · have h1 := ((hmem v).1 hv).2
      unfold leftF at h1
      omega
end Go.Proofs.Ytdogddngiolpoaa
