/-
  Two nets side by side: plain.
-/
import Derived.Test.YtlpmnhllnfhkdaaDoorZa
namespace Go.Proofs.YtlpmnhllnfhkdaaDoor

/-- an arc between nodes o further on -/
def shiftA (o : Nat) (a : ArcV) : ArcV := ⟨a.f + o, a.t + o, a.g, a.k, a.s⟩
def besideN (n : Nat) (ars ars' : List ArcV) : List ArcV := ars ++ ars'.map (shiftA n)
/-- a run of the forest's joins inside a greater one -/
structure Emb (o n : Nat) (up up1 : List Int) : Prop where
  l1 : up1.length = n
  l2 : o + n ≤ up.length
  rt : ∀ v, v < n → root up (o + v) = o + root up1 v
theorem root_self (up : List Int) (v : Nat) : root up (root up v) = root up v := root_root up v
theorem forestGo_emb {o n : Nat} (X : Nat → Prop) (hX : ∀ v, X v → ∀ u, u < n → v ≠ o + u) : ∀ (ars : List ArcV) (i i1 : Nat) (up up1 tr tr1 : List Int), (∀ a ∈ ars, 0 ≤ a.f ∧ a.f < n ∧ 0 ≤ a.t ∧ a.t < n) → Emb o n up up1 → (∀ v, X v → v < up.length ∧ root up v = v) →
    (∃ new : List Int, (forestGo i1 up1 tr1 ars).2 = tr1 ++ new ∧ (forestGo i up tr (ars.map (shiftA o))).2 = tr ++ new.map (fun x => x + ((i : Int) - i1))) ∧
    Emb o n (forestGo i up tr (ars.map (shiftA o))).1 (forestGo i1 up1 tr1 ars).1 ∧ (∀ v, X v → v < (forestGo i up tr (ars.map (shiftA o))).1.length ∧ root (forestGo i up tr (ars.map (shiftA o))).1 v = v)
  | [], i, i1, up, up1, tr, tr1, _, h, hx => ⟨⟨[], by simp [forestGo], by simp [forestGo]⟩, h, hx⟩
  | a :: ars, i, i1, up, up1, tr, tr1, hok, h, hx => by
    obtain ⟨h1, h2, h3, h4⟩ := hok a (List.mem_cons_self ..)
    have hok' : ∀ b ∈ ars, 0 ≤ b.f ∧ b.f < n ∧ 0 ≤ b.t ∧ b.t < n := fun b hb => hok b (List.mem_cons_of_mem _ hb)
    obtain ⟨f, hf⟩ : ∃ f : Nat, a.f = f := ⟨a.f.toNat, by omega⟩
    obtain ⟨t, ht⟩ : ∃ t : Nat, a.t = t := ⟨a.t.toNat, by omega⟩
    have ef : (shiftA o a).f.toNat = o + f := by simp only [shiftA]; omega
    have et : (shiftA o a).t.toNat = o + t := by simp only [shiftA]; omega
    have ef1 : a.f.toNat = f := by omega
    have et1 : a.t.toNat = t := by omega
    have hfl : f < n := by omega
    have htl : t < n := by omega
    rw [List.map_cons, forestGo, forestGo, ef, et, ef1, et1, h.rt f hfl, h.rt t htl]
    have rf := root_le up1 f
    have rt := root_le up1 t
    have sf := root_root up1 f
    have st := root_root up1 t
    have Rf := h.rt f hfl
    have Rt := h.rt t htl
    by_cases he : root up1 f = root up1 t
    · rw [if_pos he, if_pos (by rw [he])]
      obtain ⟨⟨new, e1, e2⟩, e3⟩ := forestGo_emb X hX ars (i + 1) (i1 + 1) up up1 tr tr1 hok' h hx
      exact ⟨⟨new, e1, by rw [e2]; congr 1; refine List.map_congr_left fun x _ => ?_; omega⟩, e3⟩
    · rw [if_neg he, if_neg (by omega)]
      obtain ⟨ra, hra⟩ : ∃ r, root up1 f = r := ⟨_, rfl⟩
      obtain ⟨rb, hrb⟩ : ∃ r, root up1 t = r := ⟨_, rfl⟩
      rw [hra] at rf sf Rf he
      rw [hrb] at rt st Rt he
      rw [hra, hrb]
      have ha0 : root up (o + ra) = o + ra := by rw [← Rf, root_root]
      have hb0 : root up (o + rb) = o + rb := by rw [← Rt, root_root]
      have hlt : min ra rb < max ra rb := by omega
      have hmx : root up1 (max ra rb) = max ra rb := by
        rcases Nat.le_total ra rb with hh | hh
        · rw [Nat.max_eq_right hh]; exact st
        · rw [Nat.max_eq_left hh]; exact sf
      have hmn : root up1 (min ra rb) = min ra rb := by
        rcases Nat.le_total ra rb with hh | hh
        · rw [Nat.min_eq_left hh]; exact sf
        · rw [Nat.min_eq_right hh]; exact st
      have emx : max (o + ra) (o + rb) = o + max ra rb := by omega
      have emn : min (o + ra) (o + rb) = o + min ra rb := by omega
      have hmx2 : root up (o + max ra rb) = o + max ra rb := by
        rcases Nat.le_total ra rb with hh | hh
        · rw [Nat.max_eq_right hh]; exact hb0
        · rw [Nat.max_eq_left hh]; exact ha0
      have hmn2 : root up (o + min ra rb) = o + min ra rb := by
        rcases Nat.le_total ra rb with hh | hh
        · rw [Nat.min_eq_left hh]; exact ha0
        · rw [Nat.min_eq_right hh]; exact hb0
      have hl1 := h.l1
      have hl2 := h.l2
      rw [emx, emn]
      have hs1 := root_set up1 (max ra rb) (min ra rb) hlt (by omega) hmx hmn
      have hs2 := root_set up (o + max ra rb) (o + min ra rb) (by omega) (by omega) hmx2 hmn2
      have hE : Emb o n (up.set (o + max ra rb) (o + min ra rb : Nat)) (up1.set (max ra rb) (min ra rb : Nat)) := ⟨by simp [hl1], by simpa using hl2, fun v hv => by
        rw [hs1 v (by omega), hs2 (o + v) (by omega), h.rt v hv]
        by_cases hh : root up1 v = max ra rb
        · rw [if_pos hh, if_pos (by rw [hh])]
        · rw [if_neg hh, if_neg (by omega)]⟩
      have hx' : ∀ v, X v → v < (up.set (o + max ra rb) (o + min ra rb : Nat)).length ∧ root (up.set (o + max ra rb) (o + min ra rb : Nat)) v = v := fun v hv => by
        obtain ⟨g1, g2⟩ := hx v hv
        refine ⟨by simpa using g1, ?_⟩
        rw [hs2 v g1, g2, if_neg (hX v hv _ (by omega))]
      obtain ⟨⟨new, e1, e2⟩, e3⟩ := forestGo_emb X hX ars (i + 1) (i1 + 1) _ _ (tr ++ [(i : Int)]) (tr1 ++ [(i1 : Int)]) hok' hE hx'
      refine ⟨⟨(i1 : Int) :: new, by rw [e1]; simp, ?_⟩, e3⟩
      rw [e2, List.map_cons, List.append_assoc]
      congr 1
      show (i : Int) :: _ = _
      congr 1
      · omega
      · refine List.map_congr_left fun x _ => ?_
        omega
theorem selfs_emb {o n N : Nat} (h : o + n ≤ N) : Emb o n (selfs N) (selfs n) := ⟨selfs_length n, by rw [selfs_length]; exact h, fun v hv => by rw [selfs_root (by omega), selfs_root hv]⟩
/-- the forest of two nets side by side -/
theorem tree_beside {n m : Nat} {ars ars' : List ArcV} (h1 : ∀ a ∈ ars, 0 ≤ a.f ∧ a.f < n ∧ 0 ≤ a.t ∧ a.t < n) (h2 : ∀ a ∈ ars', 0 ≤ a.f ∧ a.f < m ∧ 0 ≤ a.t ∧ a.t < m) :
    treeF (n + m) (besideN n ars ars') = treeF n ars ++ (treeF m ars').map (fun x => x + (ars.length : Int)) := by
  unfold treeF besideN
  rw [forestGo_app]
  have e0 : ars = ars.map (shiftA 0) := by
    refine (List.map_id ars).symm.trans (List.map_congr_left fun a _ => ?_)
    simp [shiftA]
  obtain ⟨⟨new, a1, a2⟩, a3, a4⟩ := forestGo_emb (o := 0) (n := n) (fun v => n ≤ v ∧ v < n + m) (fun v hv u hu => by omega) ars 0 0 (selfs (n + m)) (selfs n) [] [] h1 (selfs_emb (by omega)) (fun v hv => ⟨by rw [selfs_length]; omega, selfs_root (by omega)⟩)
  rw [← e0] at a2 a3 a4
  have a5 : (forestGo 0 (selfs (n + m)) [] ars).2 = (forestGo 0 (selfs n) [] ars).2 := by rw [a1, a2]; simp
  have hE : Emb n m (forestGo 0 (selfs (n + m)) [] ars).1 (selfs m) := ⟨selfs_length m, by
    by_cases hm : m = 0
    · subst hm
      have := a3.l2
      omega
    · have := (a4 (n + m - 1) (by omega)).1
      omega, fun v hv => by rw [(a4 (n + v) (by omega)).2, selfs_root hv]⟩
  obtain ⟨⟨new2, b1, b2⟩, -⟩ := forestGo_emb (o := n) (n := m) (fun _ => False) (fun v hv => hv.elim) ars' (0 + ars.length) 0 (forestGo 0 (selfs (n + m)) [] ars).1 (selfs m) (forestGo 0 (selfs (n + m)) [] ars).2 [] h2 hE (fun v hv => hv.elim)
  rw [b2, a5, b1, List.nil_append]
  congr 1
  refine List.map_congr_left fun x _ => ?_
  omega
theorem beside_left {n : Nat} {ars ars' : List ArcV} {i : Nat} {a : ArcV} (h : ars[i]? = some a) : (besideN n ars ars')[i]? = some a := by
  unfold besideN
  rw [List.getElem?_append_left (List.getElem?_eq_some_iff.1 h).1]
  exact h
theorem beside_right {n : Nat} {ars ars' : List ArcV} {i : Nat} {a : ArcV} (h : ars'[i]? = some a) : (besideN n ars ars')[ars.length + i]? = some (shiftA n a) := by
  unfold besideN
  rw [List.getElem?_append_right (by omega), Nat.add_sub_cancel_left, List.getElem?_map, h]
  rfl
theorem arcF_iff {n : Int} {a : ArcV} : arcF n a = 0 ↔ (0 ≤ a.f ∧ a.f < n ∧ 0 ≤ a.t ∧ a.t < n) ∧ (1 ≤ a.g ∧ a.g ≤ 64 ∧ 1 ≤ a.k ∧ a.k ≤ 64) ∧ 0 ≤ a.s ∧ a.s ≤ 256 := by
  unfold arcF
  constructor
  · intro h
    split at h
    · cases h
    · split at h
      · cases h
      · split at h
        · cases h
        · omega
  · intro h
    rw [if_neg (by omega), if_neg (by omega), if_neg (by omega)]
theorem check_beside {n m : Nat} {ars ars' : List ArcV} (h1 : checkF n ars = 0) (h2 : checkF m ars' = 0) (hn : n + m ≤ 32) (hl : ars.length + ars'.length ≤ 96) : checkF ((n + m : Nat) : Int) (besideN n ars ars') = 0 := by
  rw [checkF_zero] at h1 h2 ⊢
  refine ⟨by omega, by simp [besideN]; omega, fun a ha => ?_⟩
  unfold besideN at ha
  rcases List.mem_append.1 ha with ha | ha
  · have := arcF_iff.1 (h1.2.2 a ha)
    exact arcF_iff.2 (by omega)
  · obtain ⟨b, hb, rfl⟩ := List.mem_map.1 ha
    have := arcF_iff.1 (h2.2.2 b hb)
    refine arcF_iff.2 ?_
    simp only [shiftA]
    omega
/-- an edge of the forest by its number -/
theorem edge_tree {n : Nat} {ars : List ArcV} {T : List Edg} {R P : Nat → Nat} (C : Ctx n ars T R P) {e : Edg} (he : e ∈ T) : (e.i : Int) ∈ treeF n ars := by
  rw [C.fi.tree]
  exact List.mem_map.2 ⟨e, List.mem_reverse.2 he, rfl⟩
theorem counts_beside {n m : Nat} {ars ars' : List ArcV} (h1 : checkF n ars = 0) (h2 : checkF m ars' = 0) (hn : n + m ≤ 32) (hl : ars.length + ars'.length ≤ 96) :
    (∀ v, v < n → cR (n + m) (besideN n ars ars') v = cR n ars v) ∧ (∀ v, v < m → cR (n + m) (besideN n ars ars') (n + v) = cR m ars' v) := by
  have C1 := ctx_at h1
  have C2 := ctx_at h2
  have C := ctx_at (check_beside h1 h2 hn hl)
  have ht := tree_beside (n := n) (m := m) (ars := ars) (ars' := ars') (checkF_ok h1).2.2.2 (checkF_ok h2).2.2.2
  -- an edge of the first net's forest is one of the whole's
  have up1 : ∀ e ∈ edgesF n ars, ∃ e', e' ∈ edgesF (n + m) (besideN n ars ars') ∧ e'.i = e.i := fun e he => by
    have := edge_tree C1 he
    have h3 : (e.i : Int) ∈ treeF (n + m) (besideN n ars ars') := by rw [ht]; exact List.mem_append_left _ this
    obtain ⟨j, hj⟩ := List.getElem?_of_mem h3
    obtain ⟨e', he', hi⟩ := tree_edge C hj
    exact ⟨e', he', by omega⟩
  have up2 : ∀ e ∈ edgesF m ars', ∃ e', e' ∈ edgesF (n + m) (besideN n ars ars') ∧ e'.i = ars.length + e.i := fun e he => by
    have := edge_tree C2 he
    have h3 : ((e.i : Int) + (ars.length : Int)) ∈ treeF (n + m) (besideN n ars ars') := by rw [ht]; exact List.mem_append_right _ (List.mem_map.2 ⟨_, this, rfl⟩)
    obtain ⟨j, hj⟩ := List.getElem?_of_mem h3
    obtain ⟨e', he', hi⟩ := tree_edge C hj
    exact ⟨e', he', by omega⟩
  have s1 : Solves (gN ars) (kN ars) (edgesF n ars) (cR (n + m) (besideN n ars ars')) := fun e he => by
    obtain ⟨e', he', hi⟩ := up1 e he
    obtain ⟨a, ha, hf, ht', -⟩ := C1.edge he
    obtain ⟨a', ha', hf', ht'', -⟩ := C.edge he'
    have e1 := beside_left (n := n) (ars' := ars') ha
    rw [← hi, ha'] at e1
    injection e1 with e1
    subst e1
    have := C.ri.ev e' he'
    rw [gN_at ha', kN_at ha', show e'.f = e.f by omega, show e'.t = e.t by omega] at this
    rw [gN_at ha, kN_at ha]
    exact this
  have s2 : Solves (gN ars') (kN ars') (edgesF m ars') (fun v => cR (n + m) (besideN n ars ars') (n + v)) := fun e he => by
    obtain ⟨e', he', hi⟩ := up2 e he
    obtain ⟨a, ha, hf, ht', -⟩ := C2.edge he
    obtain ⟨a', ha', hf', ht'', -⟩ := C.edge he'
    have e1 := beside_right (n := n) (ars := ars) ha
    rw [← hi, ha'] at e1
    injection e1 with e1
    subst e1
    simp only [shiftA] at hf' ht''
    have := C.ri.ev e' he'
    rw [gN_at ha', kN_at ha', show e'.f = n + e.f by omega, show e'.t = n + e.t by omega] at this
    rw [gN_at ha, kN_at ha]
    exact this
  have s3 : Solves (gN (besideN n ars ars')) (kN (besideN n ars ars')) (edgesF (n + m) (besideN n ars ars')) (fun v => if v < n then cR n ars v else cR m ars' (v - n)) := fun e' he' => by
    have h3 := edge_tree C he'
    rw [ht] at h3
    obtain ⟨a', ha', hf', ht'', -⟩ := C.edge he'
    rcases List.mem_append.1 h3 with h3 | h3
    · obtain ⟨j, hj⟩ := List.getElem?_of_mem h3
      obtain ⟨e, he, hi⟩ := tree_edge C1 hj
      obtain ⟨a, ha, hf, ht', hfl, htl, -⟩ := C1.edge he
      have e1 := beside_left (n := n) (ars' := ars') ha
      rw [show e.i = e'.i by omega, ha'] at e1
      injection e1 with e1
      subst e1
      have := C1.ri.ev e he
      rw [gN_at ha, kN_at ha] at this
      rw [gN_at ha', kN_at ha', show e'.f = e.f by omega, show e'.t = e.t by omega]
      simp only
      rw [if_pos hfl, if_pos htl]
      exact this
    · obtain ⟨x, hx, hxi⟩ := List.mem_map.1 h3
      obtain ⟨j, hj⟩ := List.getElem?_of_mem hx
      obtain ⟨e, he, hi⟩ := tree_edge C2 hj
      obtain ⟨a, ha, hf, ht', hfl, htl, -⟩ := C2.edge he
      have e1 := beside_right (n := n) (ars := ars) ha
      rw [show ars.length + e.i = e'.i by omega, ha'] at e1
      injection e1 with e1
      subst e1
      simp only [shiftA] at hf' ht''
      have := C2.ri.ev e he
      rw [gN_at ha, kN_at ha] at this
      rw [gN_at ha', kN_at ha', show e'.f = n + e.f by omega, show e'.t = n + e.t by omega]
      simp only [shiftA]
      rw [if_neg (by omega), if_neg (by omega), Nat.add_sub_cancel_left, Nat.add_sub_cancel_left]
      exact this
  have l1 := counts_le C1.ri s1 C.ri.pos
  have l2 := counts_le C2.ri s2 (fun v => C.ri.pos _)
  have l3 := counts_le C.ri s3 (fun v => by
    by_cases hv : v < n
    · rw [if_pos hv]; exact C1.ri.pos v
    · rw [if_neg hv]; exact C2.ri.pos _)
  refine ⟨fun v hv => ?_, fun v hv => ?_⟩
  · have g1 := l1 v
    have g3 := l3 v
    rw [if_pos hv] at g3
    omega
  · have g2 := l2 v
    have g3 := l3 (n + v)
    rw [if_neg (by omega), Nat.add_sub_cancel_left] at g3
    omega
theorem big_beside {n m : Nat} {ars ars' : List ArcV} (h1 : checkF n ars = 0) (h2 : checkF m ars' = 0) (hn : n + m ≤ 32) (hl : ars.length + ars'.length ≤ 96) :
    Big (n + m) (cR (n + m) (besideN n ars ars')) ↔ Big n (cR n ars) ∨ Big m (cR m ars') := by
  obtain ⟨e1, e2⟩ := counts_beside h1 h2 hn hl
  constructor
  · rintro ⟨v, hv, h⟩
    by_cases hvn : v < n
    · exact .inl ⟨v, hvn, by rw [e1 v hvn] at h; exact h⟩
    · refine .inr ⟨v - n, by omega, ?_⟩
      have := e2 (v - n) (by omega)
      rw [show n + (v - n) = v by omega] at this
      rw [this] at h
      exact h
  · rintro (⟨v, hv, h⟩ | ⟨v, hv, h⟩)
    · exact ⟨v, by omega, by rw [e1 v hv]; exact h⟩
    · exact ⟨n + v, by omega, by rw [e2 v hv]; exact h⟩
theorem even_beside {n m : Nat} {ars ars' : List ArcV} (h1 : checkF n ars = 0) (h2 : checkF m ars' = 0) (hn : n + m ≤ 32) (hl : ars.length + ars'.length ≤ 96) :
    (∀ a ∈ besideN n ars ars', evA (cR (n + m) (besideN n ars ars')) a = true) ↔ (∀ a ∈ ars, evA (cR n ars) a = true) ∧ ∀ a ∈ ars', evA (cR m ars') a = true := by
  obtain ⟨e1, e2⟩ := counts_beside h1 h2 hn hl
  have C1 := ctx_at h1
  have C2 := ctx_at h2
  have l : ∀ a ∈ ars, evA (cR (n + m) (besideN n ars ars')) a = evA (cR n ars) a := fun a ha => by
    have hb := C1.arc a ha
    unfold evA
    rw [e1 a.f.toNat (by omega), e1 a.t.toNat (by omega)]
  have r : ∀ a ∈ ars', evA (cR (n + m) (besideN n ars ars')) (shiftA n a) = evA (cR m ars') a := fun a ha => by
    have hb := C2.arc a ha
    show decide (a.g * (cR (n + m) (besideN n ars ars') (a.f + (n : Int)).toNat : Int) = a.k * (cR (n + m) (besideN n ars ars') (a.t + (n : Int)).toNat : Int)) = decide (a.g * (cR m ars' a.f.toNat : Int) = a.k * (cR m ars' a.t.toNat : Int))
    rw [show (a.f + (n : Int)).toNat = n + a.f.toNat by omega, show (a.t + (n : Int)).toNat = n + a.t.toNat by omega, e2 a.f.toNat (by omega), e2 a.t.toNat (by omega)]
  unfold besideN at *
  constructor
  · intro h
    exact ⟨fun a ha => by rw [← l a ha]; exact h a (List.mem_append_left _ ha), fun a ha => by rw [← r a ha]; exact h _ (List.mem_append_right _ (List.mem_map.2 ⟨a, ha, rfl⟩))⟩
  · rintro ⟨g1, g2⟩ a ha
    rcases List.mem_append.1 ha with ha | ha
    · rw [l a ha]; exact g1 a ha
    · obtain ⟨b, hb, rfl⟩ := List.mem_map.1 ha
      rw [r b hb]; exact g2 b hb
end Go.Proofs.YtlpmnhllnfhkdaaDoor
