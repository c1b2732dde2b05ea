/-
  The plain law of the search from the far end: who is known, which step leads nearer, who is still to be looked at.
-/
import Derived.Test.YtpmlljbebdidgaaDoorM2
namespace Go.Proofs.YtpmlljbebdidgaaDoor

def unknown (kn : List Bool) : Nat := kn.countP (fun b => !b)
theorem unknown_set : ∀ {kn : List Bool} {x : Nat}, kn[x]? = some false → unknown (kn.set x true) + 1 = unknown kn
  | [], x, h => by simp at h
  | b :: kn, 0, h => by simp at h; subst h; simp [unknown]
  | b :: kn, x + 1, h => by
    have := unknown_set (kn := kn) (x := x) (by simpa using h)
    unfold unknown at this ⊢
    rw [List.set_cons_succ, List.countP_cons, List.countP_cons]
    omega
theorem unknown_start {n t : Nat} (ht : t < n) : unknown ((List.replicate n false).set t true) + 1 = n := by
  rw [unknown_set (by simp [ht])]
  unfold unknown
  rw [List.countP_replicate]
  simp
/-- what the steps that were learned tell of a node: the way to the far end -/
def Leads (T : List Edg) (to_ : Nat) (kn : List Bool) (nx : List Stp) (tw : List Int) : Nat → List Stp → Prop
  | v, [] => v = to_ ∧ kn[v]? = some true
  | v, s :: p => v ≠ to_ ∧ kn[v]? = some true ∧ nx[v]? = some s ∧ ∃ m : Nat, tw[v]? = some (m : Int) ∧ stepOk T v m s ∧ Leads T to_ kn nx tw m p
/-- X: the steps that have not been looked at -/
structure BInv (T : List Edg) (n to_ : Nat) (kn : List Bool) (nx : List Stp) (tw q : List Int) (X : Nat → Stp → Prop) : Prop where
  lk : kn.length = n
  ln : nx.length = n
  lt : tw.length = n
  home : kn[to_]? = some true
  leads : ∀ v : Nat, kn[v]? = some true → ∃ p, Leads T to_ kn nx tw v p ∧ Red p ∧ p.length + unknown kn < n
  queue : ∀ x ∈ q, ∃ u : Nat, x = (u : Int) ∧ kn[u]? = some true
  closed : ∀ (u v : Nat) (s : Stp), kn[u]? = some true → (u : Int) ∉ q → stepOk T u v s → ¬ X u s → kn[v]? = some true

theorem Leads.walk {T : List Edg} {to_ : Nat} {kn : List Bool} {nx : List Stp} {tw : List Int} : ∀ {p : List Stp} {v : Nat}, Leads T to_ kn nx tw v p → Walk T v p to_
  | [], _, h => h.1
  | _ :: _, _, ⟨_, _, _, m, _, h, h'⟩ => ⟨m, h, Leads.walk h'⟩
theorem Leads.known {T : List Edg} {to_ : Nat} {kn : List Bool} {nx : List Stp} {tw : List Int} : ∀ {p : List Stp} {v : Nat}, Leads T to_ kn nx tw v p → kn[v]? = some true
  | [], _, h => h.2
  | _ :: _, _, h => h.2.1
theorem Leads.set {T : List Edg} {to_ : Nat} {kn : List Bool} {nx : List Stp} {tw : List Int} {x : Nat} (hx : kn[x]? ≠ some true) (s : Stp) (m : Int) : ∀ {p : List Stp} {v : Nat}, Leads T to_ kn nx tw v p →
    Leads T to_ (kn.set x true) (nx.set x s) (tw.set x m) v p
  | [], v, h => by
    have hne : x ≠ v := fun he => hx (he ▸ h.2)
    exact ⟨h.1, by rw [List.getElem?_set_ne hne]; exact h.2⟩
  | s' :: p, v, ⟨h1, h2, h3, k, h4, h5, h6⟩ => by
    have hne : x ≠ v := fun he => hx (he ▸ h2)
    refine ⟨h1, ?_, ?_, k, ?_, h5, Leads.set hx s m h6⟩
    · rw [List.getElem?_set_ne hne]; exact h2
    · rw [List.getElem?_set_ne hne]; exact h3
    · rw [List.getElem?_set_ne hne]; exact h4
theorem known_set {kn : List Bool} {x v : Nat} (h : kn[v]? = some true) : (kn.set x true)[v]? = some true := by
  by_cases he : x = v
  · subst he
    rw [List.getElem?_set_self (List.getElem?_eq_some_iff.1 h).1]
  · rw [List.getElem?_set_ne he]; exact h
theorem known_of_set {kn : List Bool} {x v : Nat} (h : (kn.set x true)[v]? = some true) : v = x ∨ kn[v]? = some true := by
  by_cases he : x = v
  · exact .inl he.symm
  · rw [List.getElem?_set_ne he] at h; exact .inr h
/-- a node learns its step -/
theorem BInv.learn {T : List Edg} (hF : Forest T) {n to_ : Nat} {kn : List Bool} {nx : List Stp} {tw q : List Int} {X : Nat → Stp → Prop} (h : BInv T n to_ kn nx tw q X) {x v : Nat} {s : Stp} (hx : kn[x]? ≠ some true) (hxn : x < n) (hv : kn[v]? = some true)
    (hs : stepOk T x v s) : BInv T n to_ (kn.set x true) (nx.set x s) (tw.set x (v : Int)) (q ++ [(x : Int)]) X := by
  have hxto : x ≠ to_ := fun he => hx (he ▸ h.home)
  have hun : unknown (kn.set x true) + 1 = unknown kn := by
    refine unknown_set ?_
    obtain ⟨b, hb⟩ : ∃ b, kn[x]? = some b := ⟨_, List.getElem?_eq_getElem (by rw [h.lk]; exact hxn)⟩
    cases b
    · exact hb
    · exact absurd hb hx
  refine ⟨by simp [h.lk], by simp [h.ln], by simp [h.lt], known_set h.home, ?_, ?_, ?_⟩
  · intro u hu
    by_cases he : u = x
    · subst he
      obtain ⟨p, hp, hr, hl⟩ := h.leads v hv
      refine ⟨s :: p, ⟨hxto, hu, by rw [List.getElem?_set_self (by rw [h.ln]; exact hxn)], v, by rw [List.getElem?_set_self (by rw [h.lt]; exact hxn)], hs, Leads.set hx s v hp⟩, ?_, by rw [List.length_cons]; omega⟩
      cases p with
      | nil => trivial
      | cons s' p =>
        refine ⟨fun hss => ?_, hr⟩
        obtain ⟨_, _, _, m, h4, h5, h6⟩ := hp
        have := other_end hF hs h5 hss
        subst this
        exact hx h6.known
    · rcases known_of_set hu with rfl | hu
      · exact absurd rfl he
      · obtain ⟨p, hp, hr, hl⟩ := h.leads u hu
        exact ⟨p, Leads.set hx s v hp, hr, by omega⟩
  · intro y hy
    rcases List.mem_append.1 hy with hy | hy
    · obtain ⟨u, rfl, hu⟩ := h.queue y hy
      exact ⟨u, rfl, known_set hu⟩
    · simp at hy
      subst hy
      exact ⟨x, rfl, by rw [List.getElem?_set_self (by rw [h.lk]; exact hxn)]⟩
  · intro u y s' hu hq hst hX
    rcases known_of_set hu with rfl | hu
    · exact absurd (List.mem_append_right _ List.mem_cons_self) hq
    · exact known_set (h.closed u y s' hu (fun hm => hq (List.mem_append_left _ hm)) hst hX)
/-- at the start: the far end alone -/
theorem BInv.start (T : List Edg) {n to_ : Nat} (hto : to_ < n) (nx : List Stp) (tw : List Int) (hn : nx.length = n) (ht : tw.length = n) :
    BInv T n to_ ((List.replicate n false).set to_ true) nx tw [(to_ : Int)] (fun _ _ => False) := by
  have only : ∀ v : Nat, ((List.replicate n false).set to_ true)[v]? = some true → v = to_ := by
    intro v hv
    rcases known_of_set hv with h | h
    · exact h
    · rw [List.getElem?_replicate] at h
      split at h <;> cases h
  have hk : ((List.replicate n false).set to_ true)[to_]? = some true := by rw [List.getElem?_set_self (by simpa using hto)]
  refine ⟨by simp, hn, ht, hk, ?_, ?_, ?_⟩
  · intro v hv
    obtain rfl := only v hv
    exact ⟨[], ⟨rfl, hk⟩, trivial, by have := unknown_start hto; simp only [List.length_nil]; omega⟩
  · intro x hx
    simp at hx
    exact ⟨to_, hx, hk⟩
  · intro u v s hu hq _ _
    obtain rfl := only u hu
    simp at hq
/-- the next one is taken off the queue -/
theorem BInv.pop {T : List Edg} {n to_ : Nat} {kn : List Bool} {nx : List Stp} {tw q : List Int} {v : Nat} (h : BInv T n to_ kn nx tw ((v : Int) :: q) (fun _ _ => False)) :
    kn[v]? = some true ∧ BInv T n to_ kn nx tw q (fun u _ => u = v) := by
  have hv : kn[v]? = some true := by
    obtain ⟨u, h1, h2⟩ := h.queue (v : Int) List.mem_cons_self
    obtain rfl : v = u := by omega
    exact h2
  refine ⟨hv, h.lk, h.ln, h.lt, h.home, h.leads, fun x hx => h.queue x (List.mem_cons_of_mem _ hx), ?_⟩
  intro u y s hu hq hs hX
  refine h.closed u y s hu ?_ hs (fun h => h)
  intro hm
  rcases List.mem_cons.1 hm with hm | hm
  · exact hX (by omega)
  · exact hq hm
theorem BInv.less {T : List Edg} {n to_ : Nat} {kn : List Bool} {nx : List Stp} {tw q : List Int} {X Y : Nat → Stp → Prop} (h : BInv T n to_ kn nx tw q X) (hXY : ∀ (u v : Nat) (s : Stp), kn[u]? = some true → stepOk T u v s → ¬ Y u s → ¬ X u s ∨ kn[v]? = some true) : BInv T n to_ kn nx tw q Y := by
  refine ⟨h.lk, h.ln, h.lt, h.home, h.leads, h.queue, fun u v s hu hq hs hY => ?_⟩
  rcases hXY u v s hu hs hY with hX | hv
  · exact h.closed u v s hu hq hs hX
  · exact hv
/-- when nobody is left all that are joined are known -/
theorem BInv.all {T : List Edg} {n to_ : Nat} {kn : List Bool} {nx : List Stp} {tw : List Int} (h : BInv T n to_ kn nx tw [] (fun _ _ => False)) : ∀ {p : List Stp} {u v : Nat}, kn[u]? = some true → Walk T u p v → kn[v]? = some true
  | [], u, v, hu, hp => by rw [← show u = v from hp]; exact hu
  | _ :: _, u, v, hu, ⟨m, h1, h2⟩ => h.all (h.closed u m _ hu (by simp) h1 (fun h => h)) h2
/-- one more of the forest's arcs has been looked at from v -/
theorem BInv.next {T : List Edg} {n to_ : Nat} {kn : List Bool} {nx : List Stp} {tw q : List Int} {v k : Nat} {tree : List Int} {x : Int} (h : BInv T n to_ kn nx tw q (fun u s => u = v ∧ (s.1 : Int) ∉ tree.take k)) (hx : tree[k]? = some x)
    (hs : ∀ (y : Nat) (s : Stp), stepOk T v y s → (s.1 : Int) = x → kn[y]? = some true) : BInv T n to_ kn nx tw q (fun u s => u = v ∧ (s.1 : Int) ∉ tree.take (k + 1)) := by
  refine h.less fun u y s _ hst hY => ?_
  by_cases hu : u = v
  · subst hu
    by_cases hm : (s.1 : Int) ∈ tree.take k
    · exact .inl fun hX => hX.2 hm
    · right
      refine hs y s hst ?_
      have h1 : (s.1 : Int) ∈ tree.take (k + 1) := Classical.byContradiction fun hc => hY ⟨rfl, hc⟩
      rw [List.take_add_one, hx] at h1
      rcases List.mem_append.1 h1 with h1 | h1
      · exact absurd h1 hm
      · simpa using h1
  · exact .inl fun hX => hu hX.1
end Go.Proofs.YtpmlljbebdidgaaDoor
