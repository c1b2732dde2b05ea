/-
  The cycle that Solve tells is confirmed: plain.
-/
import Derived.Test.YtlpmnhllnfhkdaaDoorYv
import Derived.Test.YtlpmnhllnfhkdaaDoorM12
namespace Go.Proofs.YtlpmnhllnfhkdaaDoor

/-- steps with whole numbers -/
def stI (s : Stp) : StI := ((s.1 : Int), s.2)
def stL (p : List Stp) : List StI := p.map stI
theorem cells_stL (p : List Stp) : cellsT (stL p) = cellsS p := by
  induction p with
  | nil => rfl
  | cons s p ih =>
    show stiCells (stI s) ++ cellsT (stL p) = stepCells s ++ cellsS p
    rw [ih]
    rfl
theorem stL_length (p : List Stp) : (stL p).length = p.length := by simp [stL]
theorem arcOf_at {ars : List ArcV} {s : Stp} {a : ArcV} (h : ars[s.1]? = some a) : arcOf ars (stI s) = a := by
  unfold arcOf stI
  simp only [Int.toNat_natCast]
  rw [List.getD_eq_getElem?_getD, h]
  rfl
/-- a step of the forest, in the arcs' words -/
theorem step_arc {n : Nat} {ars : List ArcV} {T : List Edg} {R P : Nat → Nat} (C : Ctx n ars T R P) {u m : Nat} {s : Stp} (h : stepOk T u m s) :
    ∃ a, ars[s.1]? = some a ∧ fromS ars (stI s) = (u : Int) ∧ toS ars (stI s) = (m : Int) ∧ giveS ars (stI s) * (R u : Int) = takeS ars (stI s) * (R m : Int) ∧ 1 ≤ giveS ars (stI s) ∧ 1 ≤ takeS ars (stI s) ∧ evA R a = true := by
  obtain ⟨e, he, hi, h2⟩ := h
  obtain ⟨a, ha, hf, ht, hfl, htl, -, hev⟩ := C.edge he
  have hb := C.arc a (List.mem_of_getElem? ha)
  rw [hi] at ha
  have hev2 : evA R a = true := by
    unfold evA
    rw [hf, ht, Int.toNat_natCast, Int.toNat_natCast]
    exact decide_eq_true hev
  refine ⟨a, ha, ?_⟩
  unfold fromS toS giveS takeS
  rw [arcOf_at ha]
  obtain ⟨i, b⟩ := s
  cases b
  · simp [stI] at h2 ⊢
    obtain ⟨rfl, rfl⟩ := h2
    exact ⟨hf, ht, hev, by omega, by omega, hev2⟩
  · simp [stI] at h2 ⊢
    obtain ⟨rfl, rfl⟩ := h2
    exact ⟨ht, hf, hev.symm, by omega, by omega, hev2⟩
theorem walk_nodes {n : Nat} {ars : List ArcV} {T : List Edg} {R P : Nat → Nat} (C : Ctx n ars T R P) : ∀ {p : List Stp} {u v : Nat}, Walk T u p v → (u : Int) :: (stL p).map (toS ars) = (stL p).map (fromS ars) ++ [(v : Int)]
  | [], u, v, h => by rw [show u = v from h]; rfl
  | s :: p, u, v, ⟨m, h1, h2⟩ => by
    obtain ⟨a, -, hf, ht, -⟩ := step_arc C h1
    show (u : Int) :: toS ars (stI s) :: (stL p).map (toS ars) = fromS ars (stI s) :: ((stL p).map (fromS ars) ++ [(v : Int)])
    rw [hf, ht, walk_nodes C h2]
/-- a node that a walk comes by splits it -/
theorem walk_at {n : Nat} {ars : List ArcV} {T : List Edg} {R P : Nat → Nat} (C : Ctx n ars T R P) {x : Nat} : ∀ {p : List Stp} {u v : Nat}, Walk T u p v → (x : Int) ∈ (stL p).map (fromS ars) ++ [(v : Int)] → ∃ p1 p2, p = p1 ++ p2 ∧ Walk T u p1 x ∧ Walk T x p2 v
  | [], u, v, h, hx => by
    simp [stL] at hx
    have : x = v := by omega
    subst this
    exact ⟨[], [], rfl, h, rfl⟩
  | s :: p, u, v, ⟨m, h1, h2⟩, hx => by
    obtain ⟨a, -, hf, -⟩ := step_arc C h1
    have hx' : (x : Int) = fromS ars (stI s) ∨ (x : Int) ∈ (stL p).map (fromS ars) ++ [(v : Int)] := by
      have e : (stL (s :: p)).map (fromS ars) ++ [(v : Int)] = fromS ars (stI s) :: ((stL p).map (fromS ars) ++ [(v : Int)]) := rfl
      rw [e] at hx
      exact List.mem_cons.1 hx
    rcases hx' with hx' | hx'
    · rw [hf] at hx'
      have : x = u := by omega
      subst this
      exact ⟨[], s :: p, rfl, rfl, m, h1, h2⟩
    · obtain ⟨p1, p2, rfl, w1, w2⟩ := walk_at C h2 hx'
      exact ⟨s :: p1, p2, rfl, ⟨m, h1, w1⟩, w2⟩
theorem red_tail {s : Stp} {p : List Stp} (h : Red (s :: p)) : Red p := by
  cases p with
  | nil => trivial
  | cons a p => exact h.2
theorem nodes_nodup {n : Nat} {ars : List ArcV} {T : List Edg} {R P : Nat → Nat} (C : Ctx n ars T R P) : ∀ {p : List Stp} {u v : Nat}, Walk T u p v → Red p → ((stL p).map (fromS ars) ++ [(v : Int)]).Nodup
  | [], u, v, _, _ => by simp [stL]
  | s :: p, u, v, ⟨m, h1, h2⟩, hr => by
    obtain ⟨a, -, hf, -⟩ := step_arc C h1
    have e : (stL (s :: p)).map (fromS ars) ++ [(v : Int)] = fromS ars (stI s) :: ((stL p).map (fromS ars) ++ [(v : Int)]) := rfl
    rw [e, List.nodup_cons]
    refine ⟨fun hx => ?_, nodes_nodup C h2 (red_tail hr)⟩
    rw [hf] at hx
    obtain ⟨p1, p2, rfl, w1, w2⟩ := walk_at C h2 hx
    have := no_twice C.fi.forest (p := s :: p1) (q := p2) (show Walk T u (s :: p1) u from ⟨m, h1, w1⟩) w2 hr rfl
    cases this
/-- where a step stands in a walk -/
theorem walk_mem {T : List Edg} {s : Stp} : ∀ {p : List Stp} {u v : Nat}, Walk T u p v → s ∈ p → ∃ p1 p2 x y, p = p1 ++ s :: p2 ∧ Walk T u p1 x ∧ stepOk T x y s ∧ Walk T y p2 v
  | [], _, _, _, h => by cases h
  | s' :: p, u, v, ⟨m, h1, h2⟩, h => by
    rcases List.mem_cons.1 h with rfl | h
    · exact ⟨[], p, u, m, rfl, rfl, h1, h2⟩
    · obtain ⟨p1, p2, x, y, rfl, w1, h3, w2⟩ := walk_mem h2 h
      exact ⟨s' :: p1, p2, x, y, rfl, ⟨m, h1, w1⟩, h3, w2⟩
theorem arcs_nodup {n : Nat} {ars : List ArcV} {T : List Edg} {R P : Nat → Nat} (C : Ctx n ars T R P) : ∀ {p : List Stp} {u v : Nat}, Walk T u p v → Red p → (p.map (·.1)).Nodup
  | [], _, _, _, _ => by simp
  | s :: p, u, v, ⟨m, h1, h2⟩, hr => by
    rw [List.map_cons, List.nodup_cons]
    refine ⟨fun hx => ?_, arcs_nodup C h2 (red_tail hr)⟩
    obtain ⟨s', hs', he⟩ := List.mem_map.1 hx
    obtain ⟨p1, p2, x, y, rfl, w1, h3, w2⟩ := walk_mem h2 hs'
    have hF := C.fi.forest
    obtain ⟨e, hem, hei, h4⟩ := h1
    obtain ⟨e', hem', hei', h5⟩ := h3
    obtain rfl : e = e' := same_edge hF hem hem' (by rw [hei, hei']; exact he.symm)
    have hxx : x = u ∨ x = m := by
      split at h4 <;> split at h5 <;> omega
    rcases hxx with rfl | rfl
    · have := no_twice hF (p := s :: p1) (q := s' :: p2) (show Walk T x (s :: p1) x from ⟨m, ⟨e, hem, hei, h4⟩, w1⟩) ⟨y, ⟨e, hem', hei', h5⟩, w2⟩ hr rfl
      cases this
    · have h0 := no_twice hF (p := p1) (q := s' :: p2) w1 ⟨y, ⟨e, hem', hei', h5⟩, w2⟩ (red_tail hr) rfl
      subst h0
      exact hr.1 he.symm
theorem walk_prod {n : Nat} {ars : List ArcV} {T : List Edg} {R P : Nat → Nat} (C : Ctx n ars T R P) : ∀ {p : List Stp} {u v : Nat}, Walk T u p v → prodZ ((stL p).map (giveS ars)) * (R u : Int) = prodZ ((stL p).map (takeS ars)) * (R v : Int) ∧ 1 ≤ prodZ ((stL p).map (takeS ars))
  | [], u, v, h => by rw [show u = v from h]; exact ⟨rfl, Int.le_refl 1⟩
  | s :: p, u, v, ⟨m, h1, h2⟩ => by
    obtain ⟨a, -, -, -, hev, hg, hk, -⟩ := step_arc C h1
    obtain ⟨ih, ip⟩ := walk_prod C h2
    show prodZ (giveS ars (stI s) :: (stL p).map (giveS ars)) * (R u : Int) = prodZ (takeS ars (stI s) :: (stL p).map (takeS ars)) * (R v : Int) ∧ 1 ≤ prodZ (takeS ars (stI s) :: (stL p).map (takeS ars))
    rw [prodZ_cons, prodZ_cons]
    constructor
    · calc giveS ars (stI s) * prodZ ((stL p).map (giveS ars)) * (R u : Int) = prodZ ((stL p).map (giveS ars)) * (giveS ars (stI s) * (R u : Int)) := by ac_rfl
        _ = prodZ ((stL p).map (giveS ars)) * (takeS ars (stI s) * (R m : Int)) := by rw [hev]
        _ = takeS ars (stI s) * (prodZ ((stL p).map (giveS ars)) * (R m : Int)) := by ac_rfl
        _ = takeS ars (stI s) * (prodZ ((stL p).map (takeS ars)) * (R v : Int)) := by rw [ih]
        _ = takeS ars (stI s) * prodZ ((stL p).map (takeS ars)) * (R v : Int) := by ac_rfl
    · exact Int.mul_pos (by omega) (by omega)
theorem walk_in {n : Nat} {ars : List ArcV} {T : List Edg} {R P : Nat → Nat} (C : Ctx n ars T R P) : ∀ {p : List Stp} {u v : Nat}, Walk T u p v → ∀ s ∈ p, ∃ a, ars[s.1]? = some a ∧ evA R a = true
  | [], _, _, _, s, hs => by cases hs
  | s' :: p, u, v, ⟨m, h1, h2⟩, s, hs => by
    rcases List.mem_cons.1 hs with rfl | hs
    · obtain ⟨a, ha, -, -, -, -, -, hev⟩ := step_arc C h1
      exact ⟨a, ha, hev⟩
    · exact walk_in C h2 s hs
/-- the cycle that Solve tells is confirmed -/
theorem cycle_confirmed {n : Nat} {ars : List ArcV} (hc : checkF n ars = 0) {i : Nat} {a : ArcV} {p : List Stp} (hu : FirstU ars (cR n ars) i a) (hp : PathAns n ars a.t a.f 0 p) : confirmF n ars (stL ((i, false) :: p)) = 0 := by
  have C := ctx_at hc
  have hb := C.arc a (List.mem_of_getElem? hu.1)
  obtain ⟨T, hT, hw, hr⟩ : ∃ T, FInv n ars ars.length (upF n ars) (treeF n ars) T ∧ Walk T a.t.toNat p a.f.toNat ∧ Red p := by
    rcases hp with ⟨h, -⟩ | ⟨-, h, -⟩ | ⟨-, m, x, y, -, -, -, -, -, -, h, -⟩ | ⟨-, m, x, y, h1, h2, h3, -, -, -, -, T, hT, hw, hr⟩
    · exact absurd hc h
    · omega
    · cases h
    · obtain rfl : n = m := by omega
      refine ⟨T, hT, ?_, hr⟩
      rw [h2, h3, Int.toNat_natCast, Int.toNat_natCast]
      exact hw
  obtain rfl := edges_of hT
  obtain ⟨f, hf⟩ : ∃ f : Nat, a.f = f := ⟨a.f.toNat, by omega⟩
  obtain ⟨t, ht⟩ : ∃ t : Nat, a.t = t := ⟨a.t.toNat, by omega⟩
  rw [hf, ht, Int.toNat_natCast, Int.toNat_natCast] at hw
  have ha : arcOf ars (stI (i, false)) = a := arcOf_at hu.1
  have hfrom : fromS ars (stI (i, false)) = (f : Int) := by unfold fromS; rw [ha]; simp [stI, hf]
  have hto : toS ars (stI (i, false)) = (t : Int) := by unfold toS; rw [ha]; simp [stI, ht]
  have hgive : giveS ars (stI (i, false)) = a.g := by unfold giveS; rw [ha]; simp [stI]
  have htake : takeS ars (stI (i, false)) = a.k := by unfold takeS; rw [ha]; simp [stI]
  have hin : allIn ars.length (stL ((i, false) :: p)) = true := by
    unfold allIn
    rw [List.all_eq_true]
    intro s hs
    obtain ⟨q, hq, rfl⟩ := List.mem_map.1 hs
    have hlt : q.1 < ars.length := by
      rcases List.mem_cons.1 hq with rfl | hq
      · exact (List.getElem?_eq_some_iff.1 hu.1).1
      · obtain ⟨b, hb, -⟩ := walk_in C hw q hq
        exact (List.getElem?_eq_some_iff.1 hb).1
    unfold inS stI
    exact decide_eq_true (by simp only; omega)
  have hcl : closesB ars (stL ((i, false) :: p)) = true := by
    rw [closesB_iff]
    have hn := walk_nodes C hw
    have hnd := nodes_nodup C hw hr
    refine ⟨by simp [stL], ?_, ?_, ?_⟩
    · show toS ars (stI (i, false)) :: (stL p).map (toS ars) = (stL p).map (fromS ars) ++ [fromS ars (stI (i, false))]
      rw [hto, hfrom]
      exact hn
    · show (fromS ars (stI (i, false)) :: (stL p).map (fromS ars)).Nodup
      rw [hfrom]
      rw [List.nodup_append] at hnd
      rw [List.nodup_cons]
      exact ⟨fun h => hnd.2.2 _ h _ (List.mem_singleton.2 rfl) rfl, hnd.1⟩
    · show ((stI (i, false)).1 :: (stL p).map (·.1)).Nodup
      have e : (stL p).map (·.1) = (p.map (·.1)).map (fun k : Nat => (k : Int)) := by simp [stL, stI]
      rw [List.nodup_cons, e]
      refine ⟨fun h => ?_, ?_⟩
      · obtain ⟨k, hk, he⟩ := List.mem_map.1 h
        obtain ⟨s, hs, rfl⟩ := List.mem_map.1 hk
        obtain ⟨b, hb, hev⟩ := walk_in C hw s hs
        have : s.1 = i := by simp [stI] at he; omega
        rw [this, hu.1] at hb
        injection hb with hb
        subst hb
        rw [hu.2.1] at hev
        cases hev
      · exact List.Pairwise.map (S := (· ≠ ·)) (fun k : Nat => (k : Int)) (fun x y hne he => hne (by omega)) (arcs_nodup C hw hr)
  have hne : ¬ prodZ ((stL ((i, false) :: p)).map (giveS ars)) = prodZ ((stL ((i, false) :: p)).map (takeS ars)) := fun h => by
    have h' : prodZ (giveS ars (stI (i, false)) :: (stL p).map (giveS ars)) = prodZ (takeS ars (stI (i, false)) :: (stL p).map (takeS ars)) := h
    rw [prodZ_cons, prodZ_cons, hgive, htake] at h'
    obtain ⟨h1, h2⟩ := walk_prod C hw
    generalize prodZ ((stL p).map (giveS ars)) = PG at *
    generalize prodZ ((stL p).map (takeS ars)) = PK at *
    have hev : a.g * (cR n ars f : Int) = a.k * (cR n ars t : Int) := by
      refine Int.eq_of_mul_eq_mul_right (show PK ≠ 0 by omega) ?_
      calc a.g * (cR n ars f : Int) * PK = a.g * (PK * (cR n ars f : Int)) := by ac_rfl
        _ = a.g * (PG * (cR n ars t : Int)) := by rw [← h1]
        _ = a.g * PG * (cR n ars t : Int) := by ac_rfl
        _ = a.k * PK * (cR n ars t : Int) := by rw [h']
        _ = a.k * (cR n ars t : Int) * PK := by ac_rfl
    have : evA (cR n ars) a = true := by
      unfold evA
      rw [hf, ht, Int.toNat_natCast, Int.toNat_natCast]
      exact decide_eq_true hev
    rw [hu.2.1] at this
    cases this
  unfold confirmF
  rw [if_neg (by simp [hc]), if_pos (by rw [hin, hcl]; rfl), if_neg hne]
theorem confirm_nil {n : Int} {ars : List ArcV} (hc : checkF n ars ≠ 0) : confirmF n ars [] = checkF n ars := by
  unfold confirmF
  rw [if_pos hc]
end Go.Proofs.YtlpmnhllnfhkdaaDoor
