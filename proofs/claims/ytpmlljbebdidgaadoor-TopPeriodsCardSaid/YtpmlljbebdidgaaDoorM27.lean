/-
  Vd, Zg: texts pasted together.
-/
import Derived.Test.YtpmlljbebdidgaaDoorVc
import Derived.Test.YtpmlljbebdidgaaDoorM28
/-
  witness.Confirm: do steps go round a cycle whose rates do not agree.
-/
namespace Go.Proofs.YtpmlljbebdidgaaDoor
open Go.RowKit

theorem arcF_ok {n : Int} {a : ArcV} (h : arcF n a = 0) : 0 ≤ a.f ∧ a.f < n ∧ 0 ≤ a.t ∧ a.t < n ∧ 1 ≤ a.g ∧ a.g ≤ 64 ∧ 1 ≤ a.k ∧ a.k ≤ 64 ∧ 0 ≤ a.s ∧ a.s ≤ 256 := by
  unfold arcF at h
  split at h
  · cases h
  · split at h
    · cases h
    · split at h
      · cases h
      · omega
theorem arcsF_ok {n : Int} : ∀ {ars : List ArcV}, arcsF n ars = 0 → ∀ a ∈ ars, arcF n a = 0
  | [], _ => fun a h => (by cases h)
  | b :: ars, h => fun a ha => by
    rw [arcsF] at h
    split at h
    · rename_i h0
      rcases List.mem_cons.1 ha with rfl | ha
      · exact h0
      · exact arcsF_ok h a ha
    · rename_i h0; exact absurd h h0
theorem checkF_ok_Vd {n : Int} {ars : List ArcV} (h : checkF n ars = 0) : 1 ≤ n ∧ n ≤ 32 ∧ ars.length ≤ 96 ∧ ∀ a ∈ ars, 0 ≤ a.f ∧ a.f < n ∧ 0 ≤ a.t ∧ a.t < n ∧ 1 ≤ a.g ∧ a.g ≤ 64 ∧ 1 ≤ a.k ∧ a.k ≤ 64 ∧ 0 ≤ a.s ∧ a.s ≤ 256 := by
  unfold checkF at h
  split at h
  · cases h
  · split at h
    · cases h
    · exact ⟨by omega, by omega, by omega, fun a ha => arcF_ok (arcsF_ok h a ha)⟩
theorem checkF_two (n : Int) (ars : List ArcV) : checkF n ars ≠ 2 := by
  have h1 : ∀ ars, arcsF n ars ≠ 2 := by
    intro ars
    induction ars with
    | nil => simp [arcsF]
    | cons a ars ih =>
      rw [arcsF]
      split
      · exact ih
      · unfold arcF; split
        · decide
        · split
          · decide
          · split <;> decide
  unfold checkF
  split
  · decide
  · split
    · decide
    · exact h1 ars
/-- the rates of a sound net's steps -/
theorem rates_ok_Vd {n : Int} {ars : List ArcV} {p : List StI} (h : checkF n ars = 0) (hi : allIn ars.length p = true) : (∀ x ∈ p.map (giveS ars), 1 ≤ x ∧ x ≤ 64) ∧ (∀ x ∈ p.map (takeS ars), 1 ≤ x ∧ x ≤ 64) := by
  obtain ⟨-, -, -, ha⟩ := checkF_ok_Vd h
  have key : ∀ s ∈ p, arcOf ars s ∈ ars := by
    intro s hs
    have := List.all_eq_true.1 hi s hs
    unfold inS at this
    have := of_decide_eq_true this
    unfold arcOf
    rw [List.getD_eq_getElem?_getD, List.getElem?_eq_getElem (by omega)]
    exact List.getElem_mem _
  constructor
  · intro x hx
    obtain ⟨s, hs, rfl⟩ := List.mem_map.1 hx
    have := ha _ (key s hs)
    unfold giveS; split <;> omega
  · intro x hx
    obtain ⟨s, hs, rfl⟩ := List.mem_map.1 hx
    have := ha _ (key s hs)
    unfold takeS; split <;> omega
/-- what Confirm tells -/
def confirmF (n : Int) (ars : List ArcV) (p : List StI) : Int :=
  if checkF n ars ≠ 0 then checkF n ars else if (allIn ars.length p && closesB ars p) = true then (if prodZ (p.map (giveS ars)) = prodZ (p.map (takeS ars)) then 121 else 0) else 120
theorem low_ok {l : List Int} (h : ∀ x ∈ l, 1 ≤ x ∧ x ≤ 64) : clowB l = false ∧ AllFit l := by
  constructor
  · unfold clowB; rw [List.any_eq_false]; intro x hx; have := h x hx; simp; omega
  · intro x hx; have := h x hx; unfold fits; omega
theorem equal_rates {la lb : List Int} (h1 : ∀ x ∈ la, 1 ≤ x ∧ x ≤ 64) (h2 : ∀ x ∈ lb, 1 ≤ x ∧ x ≤ 64) (l1 : la.length ≤ 96) (l2 : lb.length ≤ 96) : cwrongF la lb = 0 ∧ equalF la lb = decide (prodZ la = prodZ lb) := by
  have e0 : cwrongF la lb = 0 := by unfold cwrongF; rw [if_neg (by omega), (low_ok h1).1, (low_ok h2).1]; rfl
  refine ⟨e0, ?_⟩
  unfold equalF
  rw [e0, decide_eq_true rfl, Bool.true_and, decide_eq_decide]
  have z1 : prodZ la = (prodN (natL la) : Int) := (congrArg prodZ (natL_cast (low_ok h1).1).symm).trans (prodZ_cast _)
  have z2 : prodZ lb = (prodN (natL lb) : Int) := (congrArg prodZ (natL_cast (low_ok h2).1).symm).trans (prodZ_cast _)
  rw [z1, z2]
  omega
theorem confirm_long {n : Int} {ars : List ArcV} {p : List StI} (h : checkF n ars = 0) (hl : 96 < p.length) : (allIn ars.length p && closesB ars p) = false := by
  cases h1 : allIn ars.length p with
  | false => rfl
  | true =>
    cases h2 : closesB ars p with
    | false => rfl
    | true =>
      have := closes_le ((closesB_iff ars p).1 h2) h1
      have := (checkF_ok_Vd h).2.2.1
      omega

set_option maxRecDepth 100000 in
set_option maxHeartbeats 4000000 in
theorem confirm_any (n : Int) (ars : List ArcV) (A : Option Addr) (l c : Nat) (p : List StI) (Ap : Option Addr) (m cp : Nat) (w : World) (hl : ars.length = l) (hx : ∀ a ∈ ars, a.fit) (hr : Rd w w.heap.size A (cellsA ars)) (hm : l ≤ maxLen)
    (hp : p.length = m) (hxp : FitT p) (hrp : Rd w w.heap.size Ap (cellsT p)) (hmp : m ≤ maxLen) (hmc : m ≤ cp) (hT : Tab w) :
    Calls Tryd.prog 7 #[.agg #[.int .i64 n, .slice A l c], .slice Ap m cp] w fun e w' => e = .returned (.int .i64 (confirmF n ars p)) ∧ Below w.heap.size w w' := by
  obtain ⟨W, hW⟩ : ∃ W, w.alloc (.cells #[.int .i64 n, .slice A l c] 30) = W := ⟨_, rfl⟩
  have bW : Below w.heap.size w W := by subst hW; exact (Below.refl _ _).alloc (Nat.le_refl _) _
  have k0 : Blk W w.heap.size 30 #[.int .i64 n, .slice A l c] := by subst hW; exact Blk.new w _ rfl _ _
  have hWs : W.heap.size = w.heap.size + 1 := by subst hW; simp
  have HC := Lib.hid (products_any n ars A l c p Ap m cp W hl hx ((hr.below bW (Nat.le_refl _)).more bW.size) hm hp hxp ((hrp.below bW (Nat.le_refl _)).more bW.size) hmp)
  have f0 := k0.cell 0
  have f1 := k0.cell 1
  simp at f0 f1
  unfold prodsF at HC
  unfold confirmF
  by_cases h1 : checkF n ars ≠ 0
  · rw [if_pos h1] at HC ⊢
    have h2 := checkF_two n ars
    obtain ⟨k, hk⟩ : ∃ k, checkF n ars = k := ⟨_, rfl⟩
    rw [hk] at HC h1 h2 ⊢
    have q : (k != 0) = true := by simpa using h1
    have q2 : (k == 2) = false := by simpa using h2
    clear h2 hk h1 hx hr hxp hrp
    go_enter Tryd.func7, Tryd.ntmps7
    go_wp2_with fail
    try rw [hW]
    refine HC.out.mono ?_
    rintro e w2 ⟨Aa, Ab, ca, cb, rfl, -, -, -, hb2⟩
    clear hW f0 f1
    go_wp2_with fail
    go_ret
    exact ⟨rfl, bW.trans (hb2.mono (by omega))⟩
  · rw [if_neg h1] at HC ⊢
    have h1 : checkF n ars = 0 := Decidable.not_not.1 h1
    by_cases h2 : 96 < p.length
    · rw [if_pos h2] at HC
      rw [confirm_long h1 h2]
      clear h2 h1 hx hr hxp hrp
      go_enter Tryd.func7, Tryd.ntmps7
      go_wp2_with fail
      try rw [hW]
      refine HC.out.mono ?_
      rintro e w2 ⟨Aa, Ab, ca, cb, rfl, -, -, -, hb2⟩
      clear hW f0 f1
      go_wp2_with fail
      go_ret
      exact ⟨rfl, bW.trans (hb2.mono (by omega))⟩
    · rw [if_neg h2] at HC
      cases h3 : allIn ars.length p with
      | false =>
        rw [h3] at HC
        clear h2 h1 hx hr hxp hrp
        go_enter Tryd.func7, Tryd.ntmps7
        go_wp2_with fail
        try rw [hW]
        refine HC.out.mono ?_
        rintro e w2 ⟨Aa, Ab, ca, cb, rfl, -, -, -, hb2⟩
        clear hW f0 f1
        go_wp2_with fail
        go_ret
        exact ⟨rfl, bW.trans (hb2.mono (by omega))⟩
      | true =>
        rw [h3] at HC
        simp only [if_true] at HC
        obtain ⟨r1, r2⟩ := rates_ok_Vd h1 h3
        have hl1 : (p.map (giveS ars)).length = m := by rw [List.length_map, hp]
        have hl2 : (p.map (takeS ars)).length = m := by rw [List.length_map, hp]
        obtain ⟨x1, x2⟩ := equal_rates r1 r2 (by rw [List.length_map]; omega) (by rw [List.length_map]; omega)
        have m96 : m ≤ 96 := by omega
        have HCL := Lib.hid fun w1 (hb : Below w.heap.size w w1) => wcloses_any n ars A l c p Ap m cp w1 hl hx ((hr.below hb (Nat.le_refl _)).more hb.size) hp hxp ((hrp.below hb (Nat.le_refl _)).more hb.size) m96 hmc h3
        obtain ⟨la, hla⟩ : ∃ la, p.map (giveS ars) = la := ⟨_, rfl⟩
        obtain ⟨lb, hlb⟩ : ∃ lb, p.map (takeS ars) = lb := ⟨_, rfl⟩
        rw [hla, hlb] at HC x1 x2 ⊢
        rw [hla] at hl1 r1
        rw [hlb] at hl2 r2
        unfold TwoPost at HC
        rw [hl1, hl2] at HC
        have HEQ := Lib.hid fun w1 (hb : Below w.heap.size w w1) Aa Ab ca cb ra rb => equal_any la lb Aa Ab m m ca cb w1.heap.size w1.heap.size w1 hl1 hl2 (low_ok r1).2 (low_ok r2).2 ra rb (by unfold maxLen; omega) (by unfold maxLen; omega) (Nat.le_refl _) (Nat.le_refl _) (hT.below hb hT.pos)
        rw [x1, x2] at HEQ
        obtain ⟨g, hg⟩ : ∃ g, closesB ars p = g := ⟨_, rfl⟩
        rw [hg] at HCL ⊢
        obtain ⟨t, ht⟩ : ∃ t, decide (prodZ la = prodZ lb) = t := ⟨_, rfl⟩
        rw [ht] at HEQ
        have HTT := Lib.hid ht
        have K0 := Lib.hid k0
        obtain ⟨res, hre⟩ : ∃ r : Int, (if (true && g) = true then (if prodZ la = prodZ lb then 121 else 0) else 120) = r := ⟨_, rfl⟩
        rw [hre]
        have HRE := Lib.hid hre
        clear hre
        clear h3 h2 h1 hx hr hxp hrp hla hlb r1 r2 x1 x2 hg hl1 hl2 hT ht k0
        go_enter Tryd.func7, Tryd.ntmps7
        go_wp2_with fail
        try rw [hW]
        refine HC.out.mono ?_
        rintro e w2 ⟨Aa, Ab, ca, cb, rfl, oa, ob, -, hb2⟩
        have b2 := bW.trans (hb2.mono (by omega))
        have k2 := K0.out.lowr hb2 (by omega)
        have RA := Lib.hid (rd_of_own oa)
        have RB := Lib.hid (rd_of_own ob)
        have f0 := k2.cell 0
        have f1 := k2.cell 1
        simp at f0 f1
        clear hW hb2 oa ob k2 K0
        go_wp2_with fail
        refine (HCL.out w2 b2).mono ?_
        rintro e w3 ⟨rfl, hb3⟩
        have b3 := b2.trans (hb3.mono b2.size)
        have RA := Lib.hid ((RA.out.below hb3 (Nat.le_refl _)).more hb3.size)
        have RB := Lib.hid ((RB.out.below hb3 (Nat.le_refl _)).more hb3.size)
        clear hb3 f0 f1 b2
        cases g with
        | false =>
          go_wp2_with fail
          go_ret
          exact ⟨ret1 (by rw [← HRE.out]; rfl), b3⟩
        | true =>
          go_wp2_with fail
          refine (HEQ.out w3 b3 Aa Ab ca cb RA.out RB.out).mono ?_
          rintro e w4 ⟨rfl, hb4⟩
          have b4 := b3.trans (hb4.mono b3.size)
          clear hb4 b3
          cases t with
          | true =>
            go_wp2_with fail
            go_ret
            exact ⟨ret1 (by rw [← HRE.out, if_pos (by rfl), if_pos (of_decide_eq_true HTT.out)]), b4⟩
          | false =>
            go_wp2_with fail
            go_ret
            exact ⟨ret1 (by rw [← HRE.out, if_pos (by rfl), if_neg (of_decide_eq_false HTT.out)]), b4⟩
end Go.Proofs.YtpmlljbebdidgaaDoor
/-
  The cycle that Solve tells is confirmed: plain.
-/
namespace Go.Proofs.YtpmlljbebdidgaaDoor

/-- steps with whole numbers -/
def stI (s : Stp) : StI := ((s.1 : Int), s.2)
def stL (p : List Stp) : List StI := p.map stI
theorem cells_stL (p : List Stp) : cellsT (stL p) = cellsS p := by
  induction p with
  | nil => rfl
  | cons s p ih =>
    show stiCells (stI s) ++ cellsT (stL p) = stepCells s ++ cellsS p
    rw [ih]
    rfl
theorem stL_length (p : List Stp) : (stL p).length = p.length := by simp [stL]
theorem arcOf_at {ars : List ArcV} {s : Stp} {a : ArcV} (h : ars[s.1]? = some a) : arcOf ars (stI s) = a := by
  unfold arcOf stI
  simp only [Int.toNat_natCast]
  rw [List.getD_eq_getElem?_getD, h]
  rfl
/-- a step of the forest, in the arcs' words -/
theorem step_arc {n : Nat} {ars : List ArcV} {T : List Edg} {R P : Nat → Nat} (C : Ctx n ars T R P) {u m : Nat} {s : Stp} (h : stepOk T u m s) :
    ∃ a, ars[s.1]? = some a ∧ fromS ars (stI s) = (u : Int) ∧ toS ars (stI s) = (m : Int) ∧ giveS ars (stI s) * (R u : Int) = takeS ars (stI s) * (R m : Int) ∧ 1 ≤ giveS ars (stI s) ∧ 1 ≤ takeS ars (stI s) ∧ evA R a = true := by
  obtain ⟨e, he, hi, h2⟩ := h
  obtain ⟨a, ha, hf, ht, hfl, htl, -, hev⟩ := C.edge he
  have hb := C.arc a (List.mem_of_getElem? ha)
  rw [hi] at ha
  have hev2 : evA R a = true := by
    unfold evA
    rw [hf, ht, Int.toNat_natCast, Int.toNat_natCast]
    exact decide_eq_true hev
  refine ⟨a, ha, ?_⟩
  unfold fromS toS giveS takeS
  rw [arcOf_at ha]
  obtain ⟨i, b⟩ := s
  cases b
  · simp [stI] at h2 ⊢
    obtain ⟨rfl, rfl⟩ := h2
    exact ⟨hf, ht, hev, by omega, by omega, hev2⟩
  · simp [stI] at h2 ⊢
    obtain ⟨rfl, rfl⟩ := h2
    exact ⟨ht, hf, hev.symm, by omega, by omega, hev2⟩
theorem walk_nodes {n : Nat} {ars : List ArcV} {T : List Edg} {R P : Nat → Nat} (C : Ctx n ars T R P) : ∀ {p : List Stp} {u v : Nat}, Walk T u p v → (u : Int) :: (stL p).map (toS ars) = (stL p).map (fromS ars) ++ [(v : Int)]
  | [], u, v, h => by rw [show u = v from h]; rfl
  | s :: p, u, v, ⟨m, h1, h2⟩ => by
    obtain ⟨a, -, hf, ht, -⟩ := step_arc C h1
    show (u : Int) :: toS ars (stI s) :: (stL p).map (toS ars) = fromS ars (stI s) :: ((stL p).map (fromS ars) ++ [(v : Int)])
    rw [hf, ht, walk_nodes C h2]
/-- a node that a walk comes by splits it -/
theorem walk_at {n : Nat} {ars : List ArcV} {T : List Edg} {R P : Nat → Nat} (C : Ctx n ars T R P) {x : Nat} : ∀ {p : List Stp} {u v : Nat}, Walk T u p v → (x : Int) ∈ (stL p).map (fromS ars) ++ [(v : Int)] → ∃ p1 p2, p = p1 ++ p2 ∧ Walk T u p1 x ∧ Walk T x p2 v
  | [], u, v, h, hx => by
    simp [stL] at hx
    have : x = v := by omega
    subst this
    exact ⟨[], [], rfl, h, rfl⟩
  | s :: p, u, v, ⟨m, h1, h2⟩, hx => by
    obtain ⟨a, -, hf, -⟩ := step_arc C h1
    have hx' : (x : Int) = fromS ars (stI s) ∨ (x : Int) ∈ (stL p).map (fromS ars) ++ [(v : Int)] := by
      have e : (stL (s :: p)).map (fromS ars) ++ [(v : Int)] = fromS ars (stI s) :: ((stL p).map (fromS ars) ++ [(v : Int)]) := rfl
      rw [e] at hx
      exact List.mem_cons.1 hx
    rcases hx' with hx' | hx'
    · rw [hf] at hx'
      have : x = u := by omega
      subst this
      exact ⟨[], s :: p, rfl, rfl, m, h1, h2⟩
    · obtain ⟨p1, p2, rfl, w1, w2⟩ := walk_at C h2 hx'
      exact ⟨s :: p1, p2, rfl, ⟨m, h1, w1⟩, w2⟩
theorem red_tail {s : Stp} {p : List Stp} (h : Red (s :: p)) : Red p := by
  cases p with
  | nil => trivial
  | cons a p => exact h.2
theorem nodes_nodup {n : Nat} {ars : List ArcV} {T : List Edg} {R P : Nat → Nat} (C : Ctx n ars T R P) : ∀ {p : List Stp} {u v : Nat}, Walk T u p v → Red p → ((stL p).map (fromS ars) ++ [(v : Int)]).Nodup
  | [], u, v, _, _ => by simp [stL]
  | s :: p, u, v, ⟨m, h1, h2⟩, hr => by
    obtain ⟨a, -, hf, -⟩ := step_arc C h1
    have e : (stL (s :: p)).map (fromS ars) ++ [(v : Int)] = fromS ars (stI s) :: ((stL p).map (fromS ars) ++ [(v : Int)]) := rfl
    rw [e, List.nodup_cons]
    refine ⟨fun hx => ?_, nodes_nodup C h2 (red_tail hr)⟩
    rw [hf] at hx
    obtain ⟨p1, p2, rfl, w1, w2⟩ := walk_at C h2 hx
    have := no_twice C.fi.forest (p := s :: p1) (q := p2) (show Walk T u (s :: p1) u from ⟨m, h1, w1⟩) w2 hr rfl
    cases this
/-- where a step stands in a walk -/
theorem walk_mem {T : List Edg} {s : Stp} : ∀ {p : List Stp} {u v : Nat}, Walk T u p v → s ∈ p → ∃ p1 p2 x y, p = p1 ++ s :: p2 ∧ Walk T u p1 x ∧ stepOk T x y s ∧ Walk T y p2 v
  | [], _, _, _, h => by cases h
  | s' :: p, u, v, ⟨m, h1, h2⟩, h => by
    rcases List.mem_cons.1 h with rfl | h
    · exact ⟨[], p, u, m, rfl, rfl, h1, h2⟩
    · obtain ⟨p1, p2, x, y, rfl, w1, h3, w2⟩ := walk_mem h2 h
      exact ⟨s' :: p1, p2, x, y, rfl, ⟨m, h1, w1⟩, h3, w2⟩
theorem arcs_nodup {n : Nat} {ars : List ArcV} {T : List Edg} {R P : Nat → Nat} (C : Ctx n ars T R P) : ∀ {p : List Stp} {u v : Nat}, Walk T u p v → Red p → (p.map (·.1)).Nodup
  | [], _, _, _, _ => by simp
  | s :: p, u, v, ⟨m, h1, h2⟩, hr => by
    rw [List.map_cons, List.nodup_cons]
    refine ⟨fun hx => ?_, arcs_nodup C h2 (red_tail hr)⟩
    obtain ⟨s', hs', he⟩ := List.mem_map.1 hx
    obtain ⟨p1, p2, x, y, rfl, w1, h3, w2⟩ := walk_mem h2 hs'
    have hF := C.fi.forest
    obtain ⟨e, hem, hei, h4⟩ := h1
    obtain ⟨e', hem', hei', h5⟩ := h3
    obtain rfl : e = e' := same_edge hF hem hem' (by rw [hei, hei']; exact he.symm)
    have hxx : x = u ∨ x = m := by
      split at h4 <;> split at h5 <;> omega
    rcases hxx with rfl | rfl
    · have := no_twice hF (p := s :: p1) (q := s' :: p2) (show Walk T x (s :: p1) x from ⟨m, ⟨e, hem, hei, h4⟩, w1⟩) ⟨y, ⟨e, hem', hei', h5⟩, w2⟩ hr rfl
      cases this
    · have h0 := no_twice hF (p := p1) (q := s' :: p2) w1 ⟨y, ⟨e, hem', hei', h5⟩, w2⟩ (red_tail hr) rfl
      subst h0
      exact hr.1 he.symm
theorem walk_prod {n : Nat} {ars : List ArcV} {T : List Edg} {R P : Nat → Nat} (C : Ctx n ars T R P) : ∀ {p : List Stp} {u v : Nat}, Walk T u p v → prodZ ((stL p).map (giveS ars)) * (R u : Int) = prodZ ((stL p).map (takeS ars)) * (R v : Int) ∧ 1 ≤ prodZ ((stL p).map (takeS ars))
  | [], u, v, h => by rw [show u = v from h]; exact ⟨rfl, Int.le_refl 1⟩
  | s :: p, u, v, ⟨m, h1, h2⟩ => by
    obtain ⟨a, -, -, -, hev, hg, hk, -⟩ := step_arc C h1
    obtain ⟨ih, ip⟩ := walk_prod C h2
    show prodZ (giveS ars (stI s) :: (stL p).map (giveS ars)) * (R u : Int) = prodZ (takeS ars (stI s) :: (stL p).map (takeS ars)) * (R v : Int) ∧ 1 ≤ prodZ (takeS ars (stI s) :: (stL p).map (takeS ars))
    rw [prodZ_cons, prodZ_cons]
    constructor
    · calc giveS ars (stI s) * prodZ ((stL p).map (giveS ars)) * (R u : Int) = prodZ ((stL p).map (giveS ars)) * (giveS ars (stI s) * (R u : Int)) := by ac_rfl
        _ = prodZ ((stL p).map (giveS ars)) * (takeS ars (stI s) * (R m : Int)) := by rw [hev]
        _ = takeS ars (stI s) * (prodZ ((stL p).map (giveS ars)) * (R m : Int)) := by ac_rfl
        _ = takeS ars (stI s) * (prodZ ((stL p).map (takeS ars)) * (R v : Int)) := by rw [ih]
        _ = takeS ars (stI s) * prodZ ((stL p).map (takeS ars)) * (R v : Int) := by ac_rfl
    · exact Int.mul_pos (by omega) (by omega)
theorem walk_in {n : Nat} {ars : List ArcV} {T : List Edg} {R P : Nat → Nat} (C : Ctx n ars T R P) : ∀ {p : List Stp} {u v : Nat}, Walk T u p v → ∀ s ∈ p, ∃ a, ars[s.1]? = some a ∧ evA R a = true
  | [], _, _, _, s, hs => by cases hs
  | s' :: p, u, v, ⟨m, h1, h2⟩, s, hs => by
    rcases List.mem_cons.1 hs with rfl | hs
    · obtain ⟨a, ha, -, -, -, -, -, hev⟩ := step_arc C h1
      exact ⟨a, ha, hev⟩
    · exact walk_in C h2 s hs
/-- the cycle that Solve tells is confirmed -/
theorem cycle_confirmed {n : Nat} {ars : List ArcV} (hc : checkF n ars = 0) {i : Nat} {a : ArcV} {p : List Stp} (hu : FirstU ars (cR n ars) i a) (hp : PathAns n ars a.t a.f 0 p) : confirmF n ars (stL ((i, false) :: p)) = 0 := by
  have C := ctx_at hc
  have hb := C.arc a (List.mem_of_getElem? hu.1)
  obtain ⟨T, hT, hw, hr⟩ : ∃ T, FInv n ars ars.length (upF n ars) (treeF n ars) T ∧ Walk T a.t.toNat p a.f.toNat ∧ Red p := by
    rcases hp with ⟨h, -⟩ | ⟨-, h, -⟩ | ⟨-, m, x, y, -, -, -, -, -, -, h, -⟩ | ⟨-, m, x, y, h1, h2, h3, -, -, -, -, T, hT, hw, hr⟩
    · exact absurd hc h
    · omega
    · cases h
    · obtain rfl : n = m := by omega
      refine ⟨T, hT, ?_, hr⟩
      rw [h2, h3, Int.toNat_natCast, Int.toNat_natCast]
      exact hw
  obtain rfl := edges_of hT
  obtain ⟨f, hf⟩ : ∃ f : Nat, a.f = f := ⟨a.f.toNat, by omega⟩
  obtain ⟨t, ht⟩ : ∃ t : Nat, a.t = t := ⟨a.t.toNat, by omega⟩
  rw [hf, ht, Int.toNat_natCast, Int.toNat_natCast] at hw
  have ha : arcOf ars (stI (i, false)) = a := arcOf_at hu.1
  have hfrom : fromS ars (stI (i, false)) = (f : Int) := by unfold fromS; rw [ha]; simp [stI, hf]
  have hto : toS ars (stI (i, false)) = (t : Int) := by unfold toS; rw [ha]; simp [stI, ht]
  have hgive : giveS ars (stI (i, false)) = a.g := by unfold giveS; rw [ha]; simp [stI]
  have htake : takeS ars (stI (i, false)) = a.k := by unfold takeS; rw [ha]; simp [stI]
  have hin : allIn ars.length (stL ((i, false) :: p)) = true := by
    unfold allIn
    rw [List.all_eq_true]
    intro s hs
    obtain ⟨q, hq, rfl⟩ := List.mem_map.1 hs
    have hlt : q.1 < ars.length := by
      rcases List.mem_cons.1 hq with rfl | hq
      · exact (List.getElem?_eq_some_iff.1 hu.1).1
      · obtain ⟨b, hb, -⟩ := walk_in C hw q hq
        exact (List.getElem?_eq_some_iff.1 hb).1
    unfold inS stI
    exact decide_eq_true (by simp only; omega)
  have hcl : closesB ars (stL ((i, false) :: p)) = true := by
    rw [closesB_iff]
    have hn := walk_nodes C hw
    have hnd := nodes_nodup C hw hr
    refine ⟨by simp [stL], ?_, ?_, ?_⟩
    · show toS ars (stI (i, false)) :: (stL p).map (toS ars) = (stL p).map (fromS ars) ++ [fromS ars (stI (i, false))]
      rw [hto, hfrom]
      exact hn
    · show (fromS ars (stI (i, false)) :: (stL p).map (fromS ars)).Nodup
      rw [hfrom]
      rw [List.nodup_append] at hnd
      rw [List.nodup_cons]
      exact ⟨fun h => hnd.2.2 _ h _ (List.mem_singleton.2 rfl) rfl, hnd.1⟩
    · show ((stI (i, false)).1 :: (stL p).map (·.1)).Nodup
      have e : (stL p).map (·.1) = (p.map (·.1)).map (fun k : Nat => (k : Int)) := by simp [stL, stI]
      rw [List.nodup_cons, e]
      refine ⟨fun h => ?_, ?_⟩
      · obtain ⟨k, hk, he⟩ := List.mem_map.1 h
        obtain ⟨s, hs, rfl⟩ := List.mem_map.1 hk
        obtain ⟨b, hb, hev⟩ := walk_in C hw s hs
        have : s.1 = i := by simp [stI] at he; omega
        rw [this, hu.1] at hb
        injection hb with hb
        subst hb
        rw [hu.2.1] at hev
        cases hev
      · exact List.Pairwise.map (S := (· ≠ ·)) (fun k : Nat => (k : Int)) (fun x y hne he => hne (by omega)) (arcs_nodup C hw hr)
  have hne : ¬ prodZ ((stL ((i, false) :: p)).map (giveS ars)) = prodZ ((stL ((i, false) :: p)).map (takeS ars)) := fun h => by
    have h' : prodZ (giveS ars (stI (i, false)) :: (stL p).map (giveS ars)) = prodZ (takeS ars (stI (i, false)) :: (stL p).map (takeS ars)) := h
    rw [prodZ_cons, prodZ_cons, hgive, htake] at h'
    obtain ⟨h1, h2⟩ := walk_prod C hw
    generalize prodZ ((stL p).map (giveS ars)) = PG at *
    generalize prodZ ((stL p).map (takeS ars)) = PK at *
    have hev : a.g * (cR n ars f : Int) = a.k * (cR n ars t : Int) := by
      refine Int.eq_of_mul_eq_mul_right (show PK ≠ 0 by omega) ?_
      calc a.g * (cR n ars f : Int) * PK = a.g * (PK * (cR n ars f : Int)) := by ac_rfl
        _ = a.g * (PG * (cR n ars t : Int)) := by rw [← h1]
        _ = a.g * PG * (cR n ars t : Int) := by ac_rfl
        _ = a.k * PK * (cR n ars t : Int) := by rw [h']
        _ = a.k * (cR n ars t : Int) * PK := by ac_rfl
    have : evA (cR n ars) a = true := by
      unfold evA
      rw [hf, ht, Int.toNat_natCast, Int.toNat_natCast]
      exact decide_eq_true hev
    rw [hu.2.1] at this
    cases this
  unfold confirmF
  rw [if_neg (by simp [hc]), if_pos (by rw [hin, hcl]; rfl), if_neg hne]
theorem confirm_nil {n : Int} {ars : List ArcV} (hc : checkF n ars ≠ 0) : confirmF n ars [] = checkF n ars := by
  unfold confirmF
  rw [if_pos hc]
end Go.Proofs.YtpmlljbebdidgaaDoor
