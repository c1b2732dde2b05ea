/-
  The plain law of forests: a walk that never turns about on the spot is the only one from its start to its end.
-/
namespace Go.Proofs.Yteokomepcgkddaa

/-- an edge: its number, its two ends -/
structure Edg where
  i : Nat
  f : Nat
  t : Nat
/-- a step: an edge's number; true: from its end to its start -/
abbrev Stp := Nat × Bool
def stepOk (T : List Edg) (u v : Nat) (s : Stp) : Prop := ∃ e ∈ T, e.i = s.1 ∧ if s.2 = true then v = e.f ∧ u = e.t else u = e.f ∧ v = e.t
def Walk (T : List Edg) : Nat → List Stp → Nat → Prop
  | u, [], v => u = v
  | u, s :: p, v => ∃ m, stepOk T u m s ∧ Walk T m p v
def Red : List Stp → Prop
  | [] => True
  | [_] => True
  | s :: s' :: p => s.1 ≠ s'.1 ∧ Red (s' :: p)
def Conn (T : List Edg) (u v : Nat) : Prop := ∃ p, Walk T u p v
/-- newest first: each edge joined what the elder ones did not, under a number of its own -/
def Forest : List Edg → Prop
  | [] => True
  | e :: T => Forest T ∧ (∀ d ∈ T, d.i ≠ e.i) ∧ ¬ Conn T e.f e.t

theorem stepOk.more {T : List Edg} {e : Edg} {u v : Nat} {s : Stp} (h : stepOk T u v s) : stepOk (e :: T) u v s := by
  obtain ⟨d, hd, h1⟩ := h
  exact ⟨d, List.mem_cons_of_mem _ hd, h1⟩
theorem stepOk.turn {T : List Edg} {u v : Nat} {s : Stp} (h : stepOk T u v s) : stepOk T v u (s.1, !s.2) := by
  obtain ⟨d, hd, h1, h2⟩ := h
  refine ⟨d, hd, h1, ?_⟩
  obtain ⟨i, b⟩ := s
  cases b
  · simp at h2 ⊢; exact ⟨h2.1, h2.2⟩
  · simp at h2 ⊢; exact ⟨h2.1, h2.2⟩
theorem Walk.app {T : List Edg} : ∀ {p q : List Stp} {u v x : Nat}, Walk T u p v → Walk T v q x → Walk T u (p ++ q) x
  | [], q, u, v, x, h, h' => by rw [show u = v from h]; exact h'
  | s :: p, q, u, v, x, ⟨m, h1, h2⟩, h' => ⟨m, h1, Walk.app h2 h'⟩
theorem Walk.split {T : List Edg} : ∀ {p q : List Stp} {u x : Nat}, Walk T u (p ++ q) x → ∃ v, Walk T u p v ∧ Walk T v q x
  | [], q, u, x, h => ⟨u, rfl, h⟩
  | s :: p, q, u, x, ⟨m, h1, h2⟩ => by
    obtain ⟨v, a, b⟩ := Walk.split h2
    exact ⟨v, ⟨m, h1, a⟩, b⟩
def turned (p : List Stp) : List Stp := (p.map fun s => (s.1, !s.2)).reverse
theorem turned_cons (s : Stp) (p : List Stp) : turned (s :: p) = turned p ++ [(s.1, !s.2)] := by simp [turned]
theorem Walk.turn {T : List Edg} : ∀ {p : List Stp} {u v : Nat}, Walk T u p v → Walk T v (turned p) u
  | [], u, v, h => (show u = v from h).symm
  | s :: p, u, v, ⟨m, h1, h2⟩ => by
    rw [turned_cons]
    exact (Walk.turn h2).app ⟨u, h1.turn, rfl⟩
theorem Walk.more {T : List Edg} {e : Edg} : ∀ {p : List Stp} {u v : Nat}, Walk T u p v → Walk (e :: T) u p v
  | [], _, _, h => h
  | _ :: _, _, _, ⟨m, h1, h2⟩ => ⟨m, h1.more, Walk.more h2⟩
theorem Conn.refl (T : List Edg) (u : Nat) : Conn T u u := ⟨[], rfl⟩
theorem Conn.symm {T : List Edg} {u v : Nat} (h : Conn T u v) : Conn T v u := by obtain ⟨p, hp⟩ := h; exact ⟨_, hp.turn⟩
theorem Conn.trans {T : List Edg} {u v x : Nat} (h : Conn T u v) (h' : Conn T v x) : Conn T u x := by
  obtain ⟨p, hp⟩ := h
  obtain ⟨q, hq⟩ := h'
  exact ⟨_, hp.app hq⟩
theorem Conn.more {T : List Edg} {e : Edg} {u v : Nat} (h : Conn T u v) : Conn (e :: T) u v := by obtain ⟨p, hp⟩ := h; exact ⟨p, hp.more⟩

/-- without the newest edge the walk is one of the elder edges -/
theorem Walk.less {T : List Edg} {e : Edg} : ∀ {p : List Stp} {u v : Nat}, Walk (e :: T) u p v → (∀ s ∈ p, s.1 ≠ e.i) → Walk T u p v
  | [], _, _, h, _ => h
  | s :: p, _, _, ⟨m, ⟨d, hd, h1, h2⟩, h3⟩, hn => by
    refine ⟨m, ⟨d, ?_, h1, h2⟩, Walk.less h3 fun s' hs' => hn s' (List.mem_cons_of_mem _ hs')⟩
    rcases List.mem_cons.1 hd with rfl | hd
    · exact absurd h1.symm (hn s List.mem_cons_self)
    · exact hd
/-- the first place of a number -/
theorem first_of {i : Nat} : ∀ {p : List Stp}, (∃ s ∈ p, s.1 = i) → ∃ p1 s p2, p = p1 ++ s :: p2 ∧ s.1 = i ∧ ∀ s' ∈ p1, s'.1 ≠ i
  | [], h => by obtain ⟨s, hs, _⟩ := h; cases hs
  | s :: p, h => by
    by_cases hs : s.1 = i
    · exact ⟨[], s, p, rfl, hs, fun _ h => by cases h⟩
    · obtain ⟨s', hs', he⟩ := h
      have : ∃ s ∈ p, s.1 = i := by
        rcases List.mem_cons.1 hs' with rfl | hs'
        · exact absurd he hs
        · exact ⟨s', hs', he⟩
      obtain ⟨p1, s2, p2, hp, h1, h2⟩ := first_of this
      refine ⟨s :: p1, s2, p2, by rw [hp]; rfl, h1, fun s' hs' => ?_⟩
      rcases List.mem_cons.1 hs' with rfl | hs'
      · exact hs
      · exact h2 s' hs'
theorem Red.tail {s : Stp} {p : List Stp} (h : Red (s :: p)) : Red p := by
  cases p with
  | nil => trivial
  | cons s' p => exact h.2
theorem Red.right {q : List Stp} : ∀ {p : List Stp}, Red (p ++ q) → Red q
  | [], h => h
  | _ :: p, h => Red.right (p := p) (Red.tail h)
theorem Red.left {q : List Stp} : ∀ {p : List Stp}, Red (p ++ q) → Red p
  | [], _ => trivial
  | [_], _ => trivial
  | _ :: s' :: p, h => ⟨h.1, Red.left (p := s' :: p) h.2⟩
theorem Red.glue {s : Stp} {q : List Stp} : ∀ {p : List Stp}, Red (p ++ [s]) → Red (s :: q) → Red (p ++ s :: q)
  | [], _, h => h
  | [_], h, h' => ⟨h.1, h'⟩
  | _ :: s' :: p, h, h' => ⟨h.1, Red.glue (p := s' :: p) h.2 h'⟩
theorem Red.snoc {s : Stp} : ∀ {p : List Stp}, Red p → (∀ q s', p = q ++ [s'] → s'.1 ≠ s.1) → Red (p ++ [s])
  | [], _, _ => trivial
  | [s'], _, h => ⟨h [] s' rfl, trivial⟩
  | a :: s' :: p, h, h' => ⟨h.1, Red.snoc (p := s' :: p) h.2 fun q s2 he => h' (a :: q) s2 (by rw [he]; rfl)⟩
theorem Red.turn : ∀ {p : List Stp}, Red p → Red (turned p)
  | [], _ => trivial
  | [_], _ => trivial
  | s :: s' :: p, h => by
    rw [turned_cons, turned_cons, List.append_assoc]
    refine Red.glue (s := (s'.1, !s'.2)) ?_ ⟨fun he => h.1 he.symm, trivial⟩
    rw [← turned_cons]
    exact Red.turn h.2

/-- an edge's two ways -/
theorem step_ends {T : List Edg} {e : Edg} (hn : ∀ d ∈ T, d.i ≠ e.i) {u v : Nat} {s : Stp} (h : stepOk (e :: T) u v s) (hs : s.1 = e.i) : if s.2 = true then v = e.f ∧ u = e.t else u = e.f ∧ v = e.t := by
  obtain ⟨d, hd, h1, h2⟩ := h
  rcases List.mem_cons.1 hd with rfl | hd
  · exact h2
  · exact absurd (h1.trans hs) (hn d hd)
/-- only the empty walk comes home; the newest edge is gone along once at most -/
theorem once {T : List Edg} {e : Edg} (hF : Forest (e :: T)) (hz : ∀ u p, Walk T u p u → Red p → p = []) {u v : Nat} {p1 p2 : List Stp} {s : Stp} (hw : Walk (e :: T) u (p1 ++ s :: p2) v) (hr : Red (p1 ++ s :: p2)) (hs : s.1 = e.i) : ∀ s' ∈ p2, s'.1 ≠ e.i := by
  obtain ⟨_, hn, hc⟩ := hF
  intro s' hs' he
  obtain ⟨q1, s2, q2, rfl, h2, h3⟩ := first_of ⟨s', hs', he⟩
  obtain ⟨x, _, y, hx, hw2⟩ := hw.split
  obtain ⟨z, hq, y2, hz2, _⟩ := hw2.split
  have hq' := hq.less h3
  have e1 := step_ends hn hx hs
  have e2 := step_ends hn hz2 h2
  have hr1 : Red (s :: (q1 ++ s2 :: q2)) := hr.right
  have hr2 : Red q1 := Red.left (Red.tail hr1)
  by_cases hyz : y = z
  · subst hyz
    have := hz y q1 hq' hr2
    subst this
    exact hr1.1 (hs.trans h2.symm)
  · have hcon : Conn T y z := ⟨q1, hq'⟩
    split at e1 <;> split at e2
    · exact hyz (by rw [e1.1]; exact absurd (show Conn T e.f e.t by rw [← e1.1, ← e2.2]; exact hcon) hc)
    · exact hyz (by rw [e1.1, e2.1])
    · exact hyz (by rw [e1.2, e2.2])
    · exact hc (by rw [← e1.2, ← e2.1]; exact hcon.symm)
theorem uniq : ∀ {T : List Edg}, Forest T → ∀ {u v : Nat} {p q : List Stp}, Walk T u p v → Walk T u q v → Red p → Red q → p = q
  | [], _, u, v, p, q, hp, hq, _, _ => by
    have no : ∀ {p : List Stp} {u v : Nat}, Walk [] u p v → p = [] := by
      intro p u v h
      cases p with
      | nil => rfl
      | cons s p => obtain ⟨m, ⟨d, hd, _⟩, _⟩ := h; cases hd
    rw [no hp, no hq]
  | e :: T, hF, u, v, p, q, hp, hq, hpr, hqr => by
    have hF' := hF
    obtain ⟨hT, hn, hc⟩ := hF'
    have ih := @uniq T hT
    have hz : ∀ u p, Walk T u p u → Red p → p = [] := fun u p h hr => ih h (show Walk T u [] u from rfl) hr trivial
    -- a walk with the newest edge, taken apart
    have apart : ∀ {p : List Stp} {u v : Nat}, Walk (e :: T) u p v → Red p → (∃ s ∈ p, s.1 = e.i) → ∃ p1 s p2 x y, p = p1 ++ s :: p2 ∧ s.1 = e.i ∧ Walk T u p1 x ∧ Walk T y p2 v ∧ Red p1 ∧ Red p2 ∧ (if s.2 = true then y = e.f ∧ x = e.t else x = e.f ∧ y = e.t) := by
      intro p u v hw hr hs
      obtain ⟨p1, s, p2, rfl, h1, h2⟩ := first_of hs
      have h3 := once hF hz hw hr h1
      obtain ⟨x, hx, y, hy, hw2⟩ := hw.split
      exact ⟨p1, s, p2, x, y, rfl, h1, hx.less h2, hw2.less h3, Red.left hr, Red.tail (Red.right hr), step_ends hn hy h1⟩
    by_cases h1 : ∃ s ∈ p, s.1 = e.i
    · by_cases h2 : ∃ s ∈ q, s.1 = e.i
      · obtain ⟨p1, s, p2, x, y, rfl, a1, a2, a3, a4, a5, a6⟩ := apart hp hpr h1
        obtain ⟨q1, s', q2, x', y', rfl, b1, b2, b3, b4, b5, b6⟩ := apart hq hqr h2
        have hxx : Conn T x x' := Conn.trans (Conn.symm ⟨p1, a2⟩) ⟨q1, b2⟩
        obtain ⟨i, b⟩ := s
        obtain ⟨i', b'⟩ := s'
        simp only at a1 b1 a6 b6
        have hb : b = b' := by
          cases b <;> cases b' <;> simp at a6 b6
          · rfl
          · rw [a6.1, b6.2] at hxx; exact absurd hxx hc
          · rw [a6.2, b6.1] at hxx; exact absurd hxx.symm hc
          · rfl
        subst hb
        have hx : x = x' ∧ y = y' := by
          cases b <;> simp at a6 b6
          · exact ⟨by rw [a6.1, b6.1], by rw [a6.2, b6.2]⟩
          · exact ⟨by rw [a6.2, b6.2], by rw [a6.1, b6.1]⟩
        obtain ⟨rfl, rfl⟩ := hx
        rw [ih a2 b2 a4 b4, ih a3 b3 a5 b5, a1, b1]
      · obtain ⟨p1, s, p2, x, y, rfl, a1, a2, a3, a4, a5, a6⟩ := apart hp hpr h1
        have hq' := hq.less (fun s hs he => h2 ⟨s, hs, he⟩)
        have hxy : Conn T x y := Conn.trans (Conn.symm ⟨p1, a2⟩) (Conn.trans ⟨q, hq'⟩ (Conn.symm ⟨p2, a3⟩))
        split at a6
        · rw [a6.1, a6.2] at hxy; exact absurd hxy.symm hc
        · rw [a6.1, a6.2] at hxy; exact absurd hxy hc
    · by_cases h2 : ∃ s ∈ q, s.1 = e.i
      · obtain ⟨p1, s, p2, x, y, rfl, a1, a2, a3, a4, a5, a6⟩ := apart hq hqr h2
        have hp' := hp.less (fun s hs he => h1 ⟨s, hs, he⟩)
        have hxy : Conn T x y := Conn.trans (Conn.symm ⟨p1, a2⟩) (Conn.trans ⟨p, hp'⟩ (Conn.symm ⟨p2, a3⟩))
        split at a6
        · rw [a6.1, a6.2] at hxy; exact absurd hxy.symm hc
        · rw [a6.1, a6.2] at hxy; exact absurd hxy hc
      · exact ih (hp.less fun s hs he => h1 ⟨s, hs, he⟩) (hq.less fun s hs he => h2 ⟨s, hs, he⟩) hpr hqr
/-- how long a walk can be that never turns about -/
theorem long : ∀ {T : List Edg}, Forest T → ∀ {u v : Nat} {p : List Stp}, Walk T u p v → Red p → p.length < 2 ^ T.length
  | [], _, u, v, p, hp, _ => by
    cases p with
    | nil => simp
    | cons s p => obtain ⟨m, ⟨d, hd, _⟩, _⟩ := hp; cases hd
  | e :: T, hF, u, v, p, hp, hpr => by
    have hF' := hF
    obtain ⟨hT, hn, hc⟩ := hF'
    have ih := @long T hT
    have hz : ∀ u p, Walk T u p u → Red p → p = [] := fun u p h hr => uniq hT h (show Walk T u [] u from rfl) hr trivial
    have e2 : 2 ^ (e :: T).length = 2 ^ T.length + 2 ^ T.length := by rw [List.length_cons, Nat.pow_succ]; omega
    rw [e2]
    by_cases h1 : ∃ s ∈ p, s.1 = e.i
    · obtain ⟨p1, s, p2, rfl, a1, a2⟩ := first_of h1
      have h3 := once hF hz hp hpr a1
      obtain ⟨x, hx, y, hy, hw2⟩ := hp.split
      have l1 := ih (hx.less a2) (Red.left hpr)
      have l2 := ih (hw2.less h3) (Red.tail (Red.right hpr))
      simp; omega
    · have := ih (hp.less fun s hs he => h1 ⟨s, hs, he⟩) hpr
      omega
/-- the other end of an edge: one for each end -/
theorem other_end : ∀ {T : List Edg}, Forest T → ∀ {u v x : Nat} {s s' : Stp}, stepOk T u v s → stepOk T v x s' → s.1 = s'.1 → x = u
  | [], _, u, v, x, s, s', h, _, _ => by obtain ⟨d, hd, _⟩ := h; cases hd
  | e :: T, hF, u, v, x, s, s', h, h', he => by
    obtain ⟨hT, hn, hc⟩ := hF
    by_cases hs : s.1 = e.i
    · have e1 := step_ends hn h hs
      have e2 := step_ends hn h' (he ▸ hs)
      have hft : e.f ≠ e.t := fun h => hc (h ▸ Conn.refl T _)
      split at e1 <;> split at e2
      · exact absurd (e1.1.symm.trans e2.2) hft
      · rw [e2.2, e1.2]
      · rw [e2.1, e1.1]
      · exact absurd (e2.1.symm.trans e1.2) hft
    · have less : ∀ {u v : Nat} {s : Stp}, stepOk (e :: T) u v s → s.1 ≠ e.i → stepOk T u v s := by
        intro u v s ⟨d, hd, h1, h2⟩ hne
        rcases List.mem_cons.1 hd with rfl | hd
        · exact absurd h1.symm hne
        · exact ⟨d, hd, h1, h2⟩
      exact other_end hT (less h hs) (less h' (he ▸ hs)) he
/-- a node that is come by twice -/
theorem no_twice {T : List Edg} (hF : Forest T) {u v x : Nat} {p q : List Stp} (h1 : Walk T u p x) (h2 : Walk T x q v) (hr : Red (p ++ q)) (he : u = x) : p = [] := by
  subst he
  exact uniq hF h1 (show Walk T u [] u from rfl) (Red.left hr) trivial
/-- connected: joined by a walk that never turns about -/
theorem red_of {T : List Edg} (hF : Forest T) : ∀ (n : Nat) {u v : Nat} {p : List Stp}, p.length ≤ n → Walk T u p v → ∃ q, Walk T u q v ∧ Red q
  | 0, u, v, p, hn, h => by
    obtain rfl : p = [] := List.eq_nil_of_length_eq_zero (by omega)
    exact ⟨[], h, trivial⟩
  | n + 1, u, v, [], _, h => ⟨[], h, trivial⟩
  | n + 1, u, v, s :: p, hn, ⟨m, h1, h2⟩ => by
    obtain ⟨q, hq, hr⟩ := red_of hF n (by simpa using hn) h2
    cases q with
    | nil => exact ⟨[s], ⟨m, h1, hq⟩, trivial⟩
    | cons s' q =>
      by_cases he : s.1 = s'.1
      · obtain ⟨m', h3, h4⟩ := hq
        have := other_end hF h1 h3 he
        subst this
        exact ⟨q, h4, Red.tail hr⟩
      · exact ⟨s :: s' :: q, ⟨m, h1, hq⟩, he, hr⟩
end Go.Proofs.Yteokomepcgkddaa
