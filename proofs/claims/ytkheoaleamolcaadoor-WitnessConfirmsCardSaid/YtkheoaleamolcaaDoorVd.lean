/-
  witness.Confirm: do steps go round a cycle whose rates do not agree.
-/
import Derived.Test.YtkheoaleamolcaaDoorVc
namespace Go.Proofs.YtkheoaleamolcaaDoor
open Go.RowKit

theorem arcF_ok {n : Int} {a : ArcV} (h : arcF n a = 0) : 0 ≤ a.f ∧ a.f < n ∧ 0 ≤ a.t ∧ a.t < n ∧ 1 ≤ a.g ∧ a.g ≤ 64 ∧ 1 ≤ a.k ∧ a.k ≤ 64 ∧ 0 ≤ a.s ∧ a.s ≤ 256 := by
  unfold arcF at h
  split at h
  · cases h
  · split at h
    · cases h
    · split at h
      · cases h
      · omega
theorem arcsF_ok {n : Int} : ∀ {ars : List ArcV}, arcsF n ars = 0 → ∀ a ∈ ars, arcF n a = 0
  | [], _ => fun a h => (by cases h)
  | b :: ars, h => fun a ha => by
    rw [arcsF] at h
    split at h
    · rename_i h0
      rcases List.mem_cons.1 ha with rfl | ha
      · exact h0
      · exact arcsF_ok h a ha
    · rename_i h0; exact absurd h h0
theorem checkF_ok {n : Int} {ars : List ArcV} (h : checkF n ars = 0) : 1 ≤ n ∧ n ≤ 32 ∧ ars.length ≤ 96 ∧ ∀ a ∈ ars, 0 ≤ a.f ∧ a.f < n ∧ 0 ≤ a.t ∧ a.t < n ∧ 1 ≤ a.g ∧ a.g ≤ 64 ∧ 1 ≤ a.k ∧ a.k ≤ 64 ∧ 0 ≤ a.s ∧ a.s ≤ 256 := by
  unfold checkF at h
  split at h
  · cases h
  · split at h
    · cases h
    · exact ⟨by omega, by omega, by omega, fun a ha => arcF_ok (arcsF_ok h a ha)⟩
theorem checkF_two (n : Int) (ars : List ArcV) : checkF n ars ≠ 2 := by
  have h1 : ∀ ars, arcsF n ars ≠ 2 := by
    intro ars
    induction ars with
    | nil => simp [arcsF]
    | cons a ars ih =>
      rw [arcsF]
      split
      · exact ih
      · unfold arcF; split
        · decide
        · split
          · decide
          · split <;> decide
  unfold checkF
  split
  · decide
  · split
    · decide
    · exact h1 ars
/-- the rates of a sound net's steps -/
theorem rates_ok {n : Int} {ars : List ArcV} {p : List StI} (h : checkF n ars = 0) (hi : allIn ars.length p = true) : (∀ x ∈ p.map (giveS ars), 1 ≤ x ∧ x ≤ 64) ∧ (∀ x ∈ p.map (takeS ars), 1 ≤ x ∧ x ≤ 64) := by
  obtain ⟨-, -, -, ha⟩ := checkF_ok h
  have key : ∀ s ∈ p, arcOf ars s ∈ ars := by
    intro s hs
    have := List.all_eq_true.1 hi s hs
    unfold inS at this
    have := of_decide_eq_true this
    unfold arcOf
    rw [List.getD_eq_getElem?_getD, List.getElem?_eq_getElem (by omega)]
    exact List.getElem_mem _
  constructor
  · intro x hx
    obtain ⟨s, hs, rfl⟩ := List.mem_map.1 hx
    have := ha _ (key s hs)
    unfold giveS; split <;> omega
  · intro x hx
    obtain ⟨s, hs, rfl⟩ := List.mem_map.1 hx
    have := ha _ (key s hs)
    unfold takeS; split <;> omega
/-- what Confirm tells -/
def confirmF (n : Int) (ars : List ArcV) (p : List StI) : Int :=
  if checkF n ars ≠ 0 then checkF n ars else if (allIn ars.length p && closesB ars p) = true then (if prodZ (p.map (giveS ars)) = prodZ (p.map (takeS ars)) then 121 else 0) else 120
theorem low_ok {l : List Int} (h : ∀ x ∈ l, 1 ≤ x ∧ x ≤ 64) : clowB l = false ∧ AllFit l := by
  constructor
  · unfold clowB; rw [List.any_eq_false]; intro x hx; have := h x hx; simp; omega
  · intro x hx; have := h x hx; unfold fits; omega
theorem equal_rates {la lb : List Int} (h1 : ∀ x ∈ la, 1 ≤ x ∧ x ≤ 64) (h2 : ∀ x ∈ lb, 1 ≤ x ∧ x ≤ 64) (l1 : la.length ≤ 96) (l2 : lb.length ≤ 96) : cwrongF la lb = 0 ∧ equalF la lb = decide (prodZ la = prodZ lb) := by
  have e0 : cwrongF la lb = 0 := by unfold cwrongF; rw [if_neg (by omega), (low_ok h1).1, (low_ok h2).1]; rfl
  refine ⟨e0, ?_⟩
  unfold equalF
  rw [e0, decide_eq_true rfl, Bool.true_and, decide_eq_decide]
  have z1 : prodZ la = (prodN (natL la) : Int) := (congrArg prodZ (natL_cast (low_ok h1).1).symm).trans (prodZ_cast _)
  have z2 : prodZ lb = (prodN (natL lb) : Int) := (congrArg prodZ (natL_cast (low_ok h2).1).symm).trans (prodZ_cast _)
  rw [z1, z2]
  omega
theorem confirm_long {n : Int} {ars : List ArcV} {p : List StI} (h : checkF n ars = 0) (hl : 96 < p.length) : (allIn ars.length p && closesB ars p) = false := by
  cases h1 : allIn ars.length p with
  | false => rfl
  | true =>
    cases h2 : closesB ars p with
    | false => rfl
    | true =>
      have := closes_le ((closesB_iff ars p).1 h2) h1
      have := (checkF_ok h).2.2.1
      omega

set_option maxRecDepth 100000 in
set_option maxHeartbeats 4000000 in
theorem confirm_any (n : Int) (ars : List ArcV) (A : Option Addr) (l c : Nat) (p : List StI) (Ap : Option Addr) (m cp : Nat) (w : World) (hl : ars.length = l) (hx : ∀ a ∈ ars, a.fit) (hr : Rd w w.heap.size A (cellsA ars)) (hm : l ≤ maxLen)
    (hp : p.length = m) (hxp : FitT p) (hrp : Rd w w.heap.size Ap (cellsT p)) (hmp : m ≤ maxLen) (hmc : m ≤ cp) (hT : Tab w) :
    Calls Tryd.prog 16 #[.agg #[.int .i64 n, .slice A l c], .slice Ap m cp] w fun e w' => e = .returned (.int .i64 (confirmF n ars p)) ∧ Below w.heap.size w w' := by
  obtain ⟨W, hW⟩ : ∃ W, w.alloc (.cells #[.int .i64 n, .slice A l c] 24) = W := ⟨_, rfl⟩
  have bW : Below w.heap.size w W := by subst hW; exact (Below.refl _ _).alloc (Nat.le_refl _) _
  have k0 : Blk W w.heap.size 24 #[.int .i64 n, .slice A l c] := by subst hW; exact Blk.new w _ rfl _ _
  have hWs : W.heap.size = w.heap.size + 1 := by subst hW; simp
  have HC := Lib.hid (products_any n ars A l c p Ap m cp W hl hx ((hr.below bW (Nat.le_refl _)).more bW.size) hm hp hxp ((hrp.below bW (Nat.le_refl _)).more bW.size) hmp)
  have f0 := k0.cell 0
  have f1 := k0.cell 1
  simp at f0 f1
  unfold prodsF at HC
  unfold confirmF
  by_cases h1 : checkF n ars ≠ 0
  · rw [if_pos h1] at HC ⊢
    have h2 := checkF_two n ars
    obtain ⟨k, hk⟩ : ∃ k, checkF n ars = k := ⟨_, rfl⟩
    rw [hk] at HC h1 h2 ⊢
    have q : (k != 0) = true := by simpa using h1
    have q2 : (k == 2) = false := by simpa using h2
    clear h2 hk h1 hx hr hxp hrp
    go_enter Tryd.func16, Tryd.ntmps16
    go_wp2_with fail
    try rw [hW]
    refine HC.out.mono ?_
    rintro e w2 ⟨Aa, Ab, ca, cb, rfl, -, -, -, hb2⟩
    clear hW f0 f1
    go_wp2_with fail
    go_ret
    exact ⟨rfl, bW.trans (hb2.mono (by omega))⟩
  · rw [if_neg h1] at HC ⊢
    have h1 : checkF n ars = 0 := Decidable.not_not.1 h1
    by_cases h2 : 96 < p.length
    · rw [if_pos h2] at HC
      rw [confirm_long h1 h2]
      clear h2 h1 hx hr hxp hrp
      go_enter Tryd.func16, Tryd.ntmps16
      go_wp2_with fail
      try rw [hW]
      refine HC.out.mono ?_
      rintro e w2 ⟨Aa, Ab, ca, cb, rfl, -, -, -, hb2⟩
      clear hW f0 f1
      go_wp2_with fail
      go_ret
      exact ⟨rfl, bW.trans (hb2.mono (by omega))⟩
    · rw [if_neg h2] at HC
      cases h3 : allIn ars.length p with
      | false =>
        rw [h3] at HC
        clear h2 h1 hx hr hxp hrp
        go_enter Tryd.func16, Tryd.ntmps16
        go_wp2_with fail
        try rw [hW]
        refine HC.out.mono ?_
        rintro e w2 ⟨Aa, Ab, ca, cb, rfl, -, -, -, hb2⟩
        clear hW f0 f1
        go_wp2_with fail
        go_ret
        exact ⟨rfl, bW.trans (hb2.mono (by omega))⟩
      | true =>
        rw [h3] at HC
        simp only [if_true] at HC
        obtain ⟨r1, r2⟩ := rates_ok h1 h3
        have hl1 : (p.map (giveS ars)).length = m := by rw [List.length_map, hp]
        have hl2 : (p.map (takeS ars)).length = m := by rw [List.length_map, hp]
        obtain ⟨x1, x2⟩ := equal_rates r1 r2 (by rw [List.length_map]; omega) (by rw [List.length_map]; omega)
        have m96 : m ≤ 96 := by omega
        have HCL := Lib.hid fun w1 (hb : Below w.heap.size w w1) => wcloses_any n ars A l c p Ap m cp w1 hl hx ((hr.below hb (Nat.le_refl _)).more hb.size) hp hxp ((hrp.below hb (Nat.le_refl _)).more hb.size) m96 hmc h3
        obtain ⟨la, hla⟩ : ∃ la, p.map (giveS ars) = la := ⟨_, rfl⟩
        obtain ⟨lb, hlb⟩ : ∃ lb, p.map (takeS ars) = lb := ⟨_, rfl⟩
        rw [hla, hlb] at HC x1 x2 ⊢
        rw [hla] at hl1 r1
        rw [hlb] at hl2 r2
        unfold TwoPost at HC
        rw [hl1, hl2] at HC
        have HEQ := Lib.hid fun w1 (hb : Below w.heap.size w w1) Aa Ab ca cb ra rb => equal_any la lb Aa Ab m m ca cb w1.heap.size w1.heap.size w1 hl1 hl2 (low_ok r1).2 (low_ok r2).2 ra rb (by unfold maxLen; omega) (by unfold maxLen; omega) (Nat.le_refl _) (Nat.le_refl _) (hT.below hb hT.pos)
        rw [x1, x2] at HEQ
        obtain ⟨g, hg⟩ : ∃ g, closesB ars p = g := ⟨_, rfl⟩
        rw [hg] at HCL ⊢
        obtain ⟨t, ht⟩ : ∃ t, decide (prodZ la = prodZ lb) = t := ⟨_, rfl⟩
        rw [ht] at HEQ
        have HTT := Lib.hid ht
        have K0 := Lib.hid k0
        obtain ⟨res, hre⟩ : ∃ r : Int, (if (true && g) = true then (if prodZ la = prodZ lb then 121 else 0) else 120) = r := ⟨_, rfl⟩
        rw [hre]
        have HRE := Lib.hid hre
        clear hre
        clear h3 h2 h1 hx hr hxp hrp hla hlb r1 r2 x1 x2 hg hl1 hl2 hT ht k0
        go_enter Tryd.func16, Tryd.ntmps16
        go_wp2_with fail
        try rw [hW]
        refine HC.out.mono ?_
        rintro e w2 ⟨Aa, Ab, ca, cb, rfl, oa, ob, -, hb2⟩
        have b2 := bW.trans (hb2.mono (by omega))
        have k2 := K0.out.lowr hb2 (by omega)
        have RA := Lib.hid (rd_of_own oa)
        have RB := Lib.hid (rd_of_own ob)
        have f0 := k2.cell 0
        have f1 := k2.cell 1
        simp at f0 f1
        clear hW hb2 oa ob k2 K0
        go_wp2_with fail
        refine (HCL.out w2 b2).mono ?_
        rintro e w3 ⟨rfl, hb3⟩
        have b3 := b2.trans (hb3.mono b2.size)
        have RA := Lib.hid ((RA.out.below hb3 (Nat.le_refl _)).more hb3.size)
        have RB := Lib.hid ((RB.out.below hb3 (Nat.le_refl _)).more hb3.size)
        clear hb3 f0 f1 b2
        cases g with
        | false =>
          go_wp2_with fail
          go_ret
          exact ⟨ret1 (by rw [← HRE.out]; rfl), b3⟩
        | true =>
          go_wp2_with fail
          refine (HEQ.out w3 b3 Aa Ab ca cb RA.out RB.out).mono ?_
          rintro e w4 ⟨rfl, hb4⟩
          have b4 := b3.trans (hb4.mono b3.size)
          clear hb4 b3
          cases t with
          | true =>
            go_wp2_with fail
            go_ret
            exact ⟨ret1 (by rw [← HRE.out, if_pos (by rfl), if_pos (of_decide_eq_true HTT.out)]), b4⟩
          | false =>
            go_wp2_with fail
            go_ret
            exact ⟨ret1 (by rw [← HRE.out, if_pos (by rfl), if_neg (of_decide_eq_false HTT.out)]), b4⟩
end Go.Proofs.YtkheoaleamolcaaDoor
