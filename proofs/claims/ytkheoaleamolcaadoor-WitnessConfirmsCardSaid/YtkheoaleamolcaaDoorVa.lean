/-
  Steps that go round a cycle: plain lists, no program in sight.
-/
import Derived.Test.YtkheoaleamolcaaDoorFa
import Derived.Test.YtkheoaleamolcaaDoorNa
namespace Go.Proofs.YtkheoaleamolcaaDoor

/-- a step, of any number: an arc's number; true: from its end to its start -/
abbrev StI := Int × Bool
def sd : StI := (0, false)
def arcOf (ars : List ArcV) (s : StI) : ArcV := ars.getD s.1.toNat ⟨0, 0, 0, 0, 0⟩
def fromS (ars : List ArcV) (s : StI) : Int := if s.2 = true then (arcOf ars s).t else (arcOf ars s).f
def toS (ars : List ArcV) (s : StI) : Int := if s.2 = true then (arcOf ars s).f else (arcOf ars s).t
def giveS (ars : List ArcV) (s : StI) : Int := if s.2 = true then (arcOf ars s).k else (arcOf ars s).g
def takeS (ars : List ArcV) (s : StI) : Int := if s.2 = true then (arcOf ars s).g else (arcOf ars s).k
def inS (L : Nat) (s : StI) : Bool := decide (0 ≤ s.1 ∧ s.1 < (L : Int))
def allIn (L : Nat) (p : List StI) : Bool := p.all (inS L)
/-- a list's first one at its end -/
def rot1 {α : Type} : List α → List α
  | [] => []
  | a :: l => l ++ [a]
/-- steps go round a cycle -/
def Closes (ars : List ArcV) (p : List StI) : Prop := p ≠ [] ∧ p.map (toS ars) = rot1 (p.map (fromS ars)) ∧ (p.map (fromS ars)).Nodup ∧ (p.map (·.1)).Nodup

theorem rot1_length {α : Type} (l : List α) : (rot1 l).length = l.length := by cases l <;> simp [rot1]
theorem rot1_perm {α : Type} (l : List α) : (rot1 l).Perm l := by
  cases l with
  | nil => exact List.Perm.refl _
  | cons a l => exact (List.perm_append_comm : (l ++ [a]).Perm ([a] ++ l))
theorem rot1_map {α β : Type} (f : α → β) (l : List α) : (rot1 l).map f = rot1 (l.map f) := by cases l <;> simp [rot1]
theorem rot1_inj {α : Type} {l m : List α} (h : rot1 l = rot1 m) : l = m := by
  cases l with
  | nil => cases m with
    | nil => rfl
    | cons b m => simp [rot1] at h
  | cons a l => cases m with
    | nil => simp [rot1] at h
    | cons b m =>
      simp only [rot1] at h
      obtain ⟨h1, h2⟩ := List.append_inj' h rfl
      simp at h2
      rw [h1, h2]
theorem rot1_get {α : Type} (l : List α) (i : Nat) (hi : i < l.length) : (rot1 l)[i]? = l[(i + 1) % l.length]? := by
  cases l with
  | nil => simp at hi
  | cons a l =>
    simp only [rot1, List.length_cons] at hi ⊢
    by_cases h : i < l.length
    · rw [List.getElem?_append_left h, Nat.mod_eq_of_lt (by omega), List.getElem?_cons_succ]
    · obtain rfl : i = l.length := by omega
      rw [Nat.mod_self, List.getElem?_append_right (Nat.le_refl _), Nat.sub_self]; rfl
theorem rot1_rev {α : Type} (l : List α) : rot1 (rot1 l).reverse = l.reverse := by cases l <;> simp [rot1]

/-- the step at a place, as the code looks at it -/
def at' (p : List StI) (i : Nat) : StI := p.getD i sd
theorem at'_some {p : List StI} {i : Nat} {s : StI} (h : p[i]? = some s) : at' p i = s := by unfold at'; rw [List.getD_eq_getElem?_getD, h]; rfl
def apartAt (ars : List ArcV) (p : List StI) (i j : Nat) : Bool := !(decide (fromS ars (at' p j) = fromS ars (at' p i)) || decide ((at' p j).1 = (at' p i).1))
def okAt (ars : List ArcV) (p : List StI) (i : Nat) : Bool := decide (toS ars (at' p i) = fromS ars (at' p ((i + 1) % p.length))) && (List.range i).all (apartAt ars p i)
def closesB (ars : List ArcV) (p : List StI) : Bool := decide (0 < p.length) && (List.range p.length).all (okAt ars p)

theorem nodup_at {α : Type} (p : List StI) (f : StI → α) : (p.map f).Nodup ↔ ∀ i j, j < i → i < p.length → f (at' p j) ≠ f (at' p i) := by
  unfold List.Nodup
  rw [List.pairwise_iff_getElem]
  constructor
  · intro h i j hji hi
    have := h j i (by simpa using (by omega : j < p.length)) (by simpa using hi) hji
    simp only [List.getElem_map] at this
    rw [at'_some (List.getElem?_eq_getElem (by omega : j < p.length)), at'_some (List.getElem?_eq_getElem hi)]
    exact this
  · intro h i j hi hj hij
    simp only [List.length_map] at hi hj
    have := h j i hij hj
    rw [at'_some (List.getElem?_eq_getElem hi), at'_some (List.getElem?_eq_getElem hj)] at this
    simpa using this
theorem chain_at (ars : List ArcV) (p : List StI) : p.map (toS ars) = rot1 (p.map (fromS ars)) ↔ ∀ i, i < p.length → toS ars (at' p i) = fromS ars (at' p ((i + 1) % p.length)) := by
  have key : ∀ i, i < p.length → (p.map (toS ars))[i]? = some (toS ars (at' p i)) ∧ (rot1 (p.map (fromS ars)))[i]? = some (fromS ars (at' p ((i + 1) % p.length))) := by
    intro i hi
    have hm : (i + 1) % p.length < p.length := Nat.mod_lt _ (by omega)
    refine ⟨?_, ?_⟩
    · rw [List.getElem?_map, List.getElem?_eq_getElem hi, at'_some (List.getElem?_eq_getElem hi)]; rfl
    · rw [rot1_get _ _ (by simpa using hi), List.length_map, List.getElem?_map, List.getElem?_eq_getElem hm, at'_some (List.getElem?_eq_getElem hm)]; rfl
  constructor
  · intro h i hi
    obtain ⟨h1, h2⟩ := key i hi
    rw [h, h2] at h1
    exact (Option.some.inj h1).symm
  · intro h
    apply List.ext_getElem?
    intro i
    by_cases hi : i < p.length
    · obtain ⟨h1, h2⟩ := key i hi
      rw [h1, h2, h i hi]
    · rw [List.getElem?_eq_none (by simpa using hi), List.getElem?_eq_none (by rw [rot1_length]; simpa using hi)]
theorem closesB_iff (ars : List ArcV) (p : List StI) : closesB ars p = true ↔ Closes ars p := by
  unfold closesB Closes
  rw [Bool.and_eq_true, decide_eq_true_iff, List.all_eq_true, chain_at, nodup_at, nodup_at]
  constructor
  · rintro ⟨h0, h⟩
    have h' : ∀ i, i < p.length → okAt ars p i = true := fun i hi => h i (List.mem_range.2 hi)
    refine ⟨fun he => (by rw [he] at h0; simp at h0), fun i hi => ?_, fun i j hji hi => ?_, fun i j hji hi => ?_⟩
    · have := h' i hi
      unfold okAt at this
      rw [Bool.and_eq_true, decide_eq_true_iff] at this
      exact this.1
    all_goals
      have := h' i hi
      unfold okAt at this
      rw [Bool.and_eq_true, List.all_eq_true] at this
      have := this.2 j (List.mem_range.2 hji)
      unfold apartAt at this
      simp at this
    · exact this.1
    · exact this.2
  · rintro ⟨h0, h1, h2, h3⟩
    refine ⟨List.length_pos_iff.2 h0, fun i hi => ?_⟩
    have hi := List.mem_range.1 hi
    unfold okAt
    rw [Bool.and_eq_true, decide_eq_true_iff, List.all_eq_true]
    refine ⟨h1 i hi, fun j hj => ?_⟩
    have hj := List.mem_range.1 hj
    unfold apartAt
    simp [h2 i j hj hi, h3 i j hj hi]
theorem nodup_same {l : List Int} {a : Int} (hn : l.Nodup) (h : ∀ x ∈ l, x = a) : l.length ≤ 1 := by
  match l, hn, h with
  | [], _, _ => simp
  | [_], _, _ => simp
  | x :: y :: l, hn, h =>
    exfalso
    have h1 := h x (by simp)
    have h2 := h y (by simp)
    rw [List.nodup_cons] at hn
    exact hn.1 (by rw [h1, ← h2]; simp)
/-- distinct numbers below L are no more than L -/
theorem nodup_le : ∀ (L : Nat) (l : List Int), l.Nodup → (∀ x ∈ l, 0 ≤ x ∧ x < (L : Int)) → l.length ≤ L
  | 0, l, _, h => by
    cases l with
    | nil => simp
    | cons x l => have := h x (List.mem_cons_self ..); omega
  | L + 1, l, hn, h => by
    have h1 := nodup_le L (l.filter (fun x => x != (L : Int))) (hn.filter _) (fun x hx => by
      obtain ⟨hx1, hx2⟩ := List.mem_filter.1 hx
      have := h x hx1
      have : x ≠ (L : Int) := by simpa using hx2
      omega)
    have h2 : l.length ≤ (l.filter (fun x => x != (L : Int))).length + 1 := by
      have e := List.length_eq_countP_add_countP (fun x => x != (L : Int)) (l := l)
      rw [List.countP_eq_length_filter] at e
      have h3 : l.countP (fun a => !(a != (L : Int))) ≤ 1 := by
        rw [List.countP_eq_length_filter]
        exact nodup_same (hn.filter _) (fun x hx => by have := (List.mem_filter.1 hx).2; simpa using this)
      have h4 : l.countP (fun a => decide ¬(a != (L : Int)) = true) = l.countP (fun a => !(a != (L : Int))) := by congr 1; funext a; by_cases ha : a = (L : Int) <;> simp [ha]
      omega
    omega
theorem closes_le {ars : List ArcV} {p : List StI} (h : Closes ars p) (hi : allIn ars.length p = true) : p.length ≤ ars.length := by
  have := nodup_le ars.length (p.map (·.1)) h.2.2.2 (fun x hx => by
    obtain ⟨s, hs, rfl⟩ := List.mem_map.1 hx
    have := List.all_eq_true.1 hi s hs
    unfold inS at this
    exact of_decide_eq_true this)
  simpa using this
end Go.Proofs.YtkheoaleamolcaaDoor
