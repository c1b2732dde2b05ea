/-
  Na, Va, Nb: texts pasted together.
-/
import Derived.Lib.Hide
import Derived.Test.YtpmlljbebdidgaaDoorM2
import Derived.Test.YtpmlljbebdidgaaDoorM1
import Derived.Laws.CopyOwn
import Derived.Laws.OwnMore
import Derived.StillTailTactics
import Derived.Deep.LoopGhost
/-
  Lists whose pairs' common divisors are taken out: plain numbers, no program in sight.
-/
namespace Go.Proofs.YtpmlljbebdidgaaDoor

/-- a list's product -/
def prodN : List Nat → Nat
  | [] => 1
  | x :: xs => x * prodN xs
/-- one number against a list: what is left of both -/
def redRow (x : Nat) : List Nat → Nat × List Nat
  | [] => (x, [])
  | b :: bs => ((redRow (x / Nat.gcd x b) bs).1, b / Nat.gcd x b :: (redRow (x / Nat.gcd x b) bs).2)
/-- two lists: what is left of both -/
def redGo : List Nat → List Nat → List Nat × List Nat
  | [], bs => ([], bs)
  | x :: xs, bs => ((redRow x bs).1 :: (redGo xs (redRow x bs).2).1, (redGo xs (redRow x bs).2).2)
def Pos (l : List Nat) : Prop := ∀ x ∈ l, 1 ≤ x
/-- entry by entry a divisor of another list's -/
def DivL : List Nat → List Nat → Prop
  | [], [] => True
  | x :: xs, y :: ys => x ∣ y ∧ DivL xs ys
  | _, _ => False
/-- nothing in common with any of a list -/
def Cop (x : Nat) (l : List Nat) : Prop := ∀ b ∈ l, Nat.gcd x b = 1

theorem prodN_append (l m : List Nat) : prodN (l ++ m) = prodN l * prodN m := by
  induction l with
  | nil => simp [prodN]
  | cons x xs ih => rw [List.cons_append, prodN, prodN, ih, Nat.mul_assoc]
theorem prodN_pos {l : List Nat} (h : Pos l) : 1 ≤ prodN l := by
  induction l with
  | nil => simp [prodN]
  | cons x xs ih =>
    have h1 := h x (List.mem_cons_self ..)
    have h2 := ih fun y hy => h y (List.mem_cons_of_mem _ hy)
    rw [prodN]
    exact Nat.mul_pos h1 h2
theorem DivL.refl : ∀ l : List Nat, DivL l l
  | [] => trivial
  | _ :: xs => ⟨Nat.dvd_refl _, DivL.refl xs⟩
theorem DivL.trans : ∀ {l m n : List Nat}, DivL l m → DivL m n → DivL l n
  | [], [], [], _, _ => trivial
  | _ :: _, _ :: _, _ :: _, h, h' => ⟨Nat.dvd_trans h.1 h'.1, DivL.trans h.2 h'.2⟩
  | [], _ :: _, _, h, _ => h.elim
  | _ :: _, [], _, h, _ => h.elim
  | [], [], _ :: _, _, h => h.elim
  | _ :: _, _ :: _, [], _, h => h.elim
theorem DivL.length : ∀ {l m : List Nat}, DivL l m → l.length = m.length
  | [], [], _ => rfl
  | _ :: _, _ :: _, h => by rw [List.length_cons, List.length_cons, DivL.length h.2]
  | [], _ :: _, h => h.elim
  | _ :: _, [], h => h.elim
theorem DivL.get : ∀ {l m : List Nat} (k x y : Nat), DivL l m → l[k]? = some x → m[k]? = some y → x ∣ y
  | a :: l, b :: m, 0, x, y, h, hx, hy => by
    simp only [List.getElem?_cons_zero, Option.some.injEq] at hx hy
    subst hx hy; exact h.1
  | a :: l, b :: m, k + 1, x, y, h, hx, hy => by
    simp only [List.getElem?_cons_succ] at hx hy
    exact DivL.get k x y h.2 hx hy
  | [], _, k, x, y, _, hx, _ => by simp at hx
  | _ :: _, [], k, x, y, h, _, _ => h.elim
theorem dvd_pos {x y : Nat} (h : x ∣ y) (hy : 1 ≤ y) : 1 ≤ x := Nat.pos_of_dvd_of_pos h hy
theorem DivL.pos : ∀ {l m : List Nat}, DivL l m → Pos m → Pos l
  | [], [], _, _ => fun _ h => (by cases h)
  | x :: xs, y :: ys, h, hp => fun z hz => by
    rcases List.mem_cons.1 hz with rfl | hz
    · exact dvd_pos h.1 (hp _ (List.mem_cons_self ..))
    · exact DivL.pos h.2 (fun u hu => hp u (List.mem_cons_of_mem _ hu)) z hz
  | [], _ :: _, h, _ => h.elim
  | _ :: _, [], h, _ => h.elim
theorem cop_dvd {x y a b : Nat} (h : Nat.gcd x y = 1) (ha : a ∣ x) (hb : b ∣ y) : Nat.gcd a b = 1 :=
  Nat.eq_one_of_dvd_one (h ▸ Nat.dvd_gcd (Nat.dvd_trans (Nat.gcd_dvd_left a b) ha) (Nat.dvd_trans (Nat.gcd_dvd_right a b) hb))
theorem Cop.dvd {x : Nat} : ∀ {l m : List Nat}, Cop x m → DivL l m → Cop x l
  | [], [], _, _ => fun _ h => (by cases h)
  | a :: l, b :: m, h, hd => fun z hz => by
    rcases List.mem_cons.1 hz with rfl | hz
    · exact cop_dvd (h b (List.mem_cons_self ..)) (Nat.dvd_refl _) hd.1
    · exact Cop.dvd (fun u hu => h u (List.mem_cons_of_mem _ hu)) hd.2 z hz
  | [], _ :: _, _, h => h.elim
  | _ :: _, [], _, h => h.elim
theorem div_gcd_dvd (x b : Nat) : x / Nat.gcd x b ∣ x := Nat.div_dvd_of_dvd (Nat.gcd_dvd_left x b)
theorem div_gcd_dvd' (x b : Nat) : b / Nat.gcd x b ∣ b := Nat.div_dvd_of_dvd (Nat.gcd_dvd_right x b)
theorem div_gcd_cop {x b : Nat} (hx : 1 ≤ x) : Nat.gcd (x / Nat.gcd x b) (b / Nat.gcd x b) = 1 := Nat.gcd_div_gcd_div_gcd_of_pos_left hx

theorem redRow_all (bs : List Nat) : ∀ x, 1 ≤ x → Pos bs →
    (redRow x bs).1 ∣ x ∧ DivL (redRow x bs).2 bs ∧ Cop (redRow x bs).1 (redRow x bs).2 ∧ x * prodN (redRow x bs).2 = (redRow x bs).1 * prodN bs := by
  induction bs with
  | nil => intro x _ _; exact ⟨Nat.dvd_refl _, trivial, fun _ h => (by cases h), rfl⟩
  | cons b bs ih =>
    intro x hx hp
    have hb := hp b (List.mem_cons_self ..)
    have hg : 0 < Nat.gcd x b := Nat.gcd_pos_of_pos_left _ hx
    obtain ⟨h1, h2, h3, h4⟩ := ih (x / Nat.gcd x b) (dvd_pos (div_gcd_dvd x b) hx) fun y hy => hp y (List.mem_cons_of_mem _ hy)
    simp only [redRow]
    refine ⟨Nat.dvd_trans h1 (div_gcd_dvd x b), ⟨div_gcd_dvd' x b, h2⟩, ?_, ?_⟩
    · intro z hz
      rcases List.mem_cons.1 hz with rfl | hz
      · exact cop_dvd (div_gcd_cop hx) h1 (Nat.dvd_refl _)
      · exact h3 z hz
    · rw [prodN, prodN]
      obtain ⟨g, hgg⟩ : ∃ g, Nat.gcd x b = g := ⟨_, rfl⟩
      have e1 : x / Nat.gcd x b * Nat.gcd x b = x := Nat.div_mul_cancel (Nat.gcd_dvd_left x b)
      have e2 : b / Nat.gcd x b * Nat.gcd x b = b := Nat.div_mul_cancel (Nat.gcd_dvd_right x b)
      rw [hgg] at h4 e1 e2 ⊢
      generalize x / g = y at *
      generalize b / g = c at *
      generalize (redRow y bs).1 = r at *
      generalize prodN (redRow y bs).2 = s at *
      rw [← e1, ← e2]
      calc y * g * (c * s) = y * s * (c * g) := by ac_rfl
        _ = r * prodN bs * (c * g) := by rw [h4]
        _ = r * (c * g * prodN bs) := by ac_rfl
theorem redGo_all (as_ : List Nat) : ∀ bs, Pos as_ → Pos bs →
    DivL (redGo as_ bs).1 as_ ∧ DivL (redGo as_ bs).2 bs ∧ (∀ a ∈ (redGo as_ bs).1, Cop a (redGo as_ bs).2) ∧ prodN as_ * prodN (redGo as_ bs).2 = prodN (redGo as_ bs).1 * prodN bs := by
  induction as_ with
  | nil => intro bs _ _; exact ⟨trivial, DivL.refl _, fun _ h => (by cases h), rfl⟩
  | cons x xs ih =>
    intro bs hx hb
    obtain ⟨r1, r2, r3, r4⟩ := redRow_all bs x (hx x (List.mem_cons_self ..)) hb
    obtain ⟨h1, h2, h3, h4⟩ := ih (redRow x bs).2 (fun y hy => hx y (List.mem_cons_of_mem _ hy)) (r2.pos hb)
    simp only [redGo]
    refine ⟨⟨r1, h1⟩, h2.trans r2, ?_, ?_⟩
    · intro a ha
      rcases List.mem_cons.1 ha with rfl | ha
      · exact r3.dvd h2
      · exact h3 a ha
    · rw [prodN, prodN]
      generalize prodN (redGo xs (redRow x bs).2).2 = s at *
      generalize prodN (redGo xs (redRow x bs).2).1 = t at *
      generalize prodN (redRow x bs).2 = u at *
      calc x * prodN xs * s = x * (prodN xs * s) := by ac_rfl
        _ = t * (x * u) := by rw [h4]; ac_rfl
        _ = (redRow x bs).1 * t * prodN bs := by rw [r4]; ac_rfl
theorem cop_mul {x a b : Nat} (h : Nat.gcd x a = 1) (h' : Nat.gcd x b = 1) : Nat.gcd x (a * b) = 1 := Nat.Coprime.mul_right h h'
theorem cop_prod {x : Nat} {l : List Nat} (h : Cop x l) : Nat.gcd x (prodN l) = 1 := by
  induction l with
  | nil => exact Nat.gcd_one_right x
  | cons y ys ih => rw [prodN]; exact cop_mul (h y (List.mem_cons_self ..)) (ih fun z hz => h z (List.mem_cons_of_mem _ hz))
theorem cop_prods {l m : List Nat} (h : ∀ a ∈ l, Cop a m) : Nat.gcd (prodN l) (prodN m) = 1 := by
  induction l with
  | nil => exact Nat.gcd_one_left _
  | cons y ys ih =>
    rw [prodN, Nat.gcd_comm]
    refine cop_mul ?_ ?_
    · rw [Nat.gcd_comm]; exact cop_prod (h y (List.mem_cons_self ..))
    · rw [Nat.gcd_comm]; exact ih fun z hz => h z (List.mem_cons_of_mem _ hz)
def onesB (l : List Nat) : Bool := l.all (· == 1)
theorem onesB_prod {l : List Nat} (h : Pos l) : onesB l = true ↔ prodN l = 1 := by
  induction l with
  | nil => simp [onesB, prodN]
  | cons y ys ih =>
    have ih := ih fun z hz => h z (List.mem_cons_of_mem _ hz)
    unfold onesB at ih ⊢
    rw [List.all_cons, prodN, Bool.and_eq_true, ih, beq_iff_eq]
    exact ⟨fun ⟨a, b⟩ => by rw [a, b], fun e => ⟨Nat.eq_one_of_dvd_one ⟨_, e.symm⟩, Nat.eq_one_of_dvd_one ⟨_, (Nat.mul_comm _ _).trans e |>.symm⟩⟩⟩
/-- are two lists' products one: told by what is left -/
def eqR (ps qs : List Nat) : Bool := onesB (redGo ps qs).1 && onesB (redGo ps qs).2
theorem eqR_prod {ps qs : List Nat} (hp : Pos ps) (hq : Pos qs) : eqR ps qs = decide (prodN ps = prodN qs) := by
  obtain ⟨h1, h2, h3, h4⟩ := redGo_all ps qs hp hq
  have p1 := prodN_pos hp
  have c := cop_prods h3
  rw [Bool.eq_iff_iff]
  unfold eqR
  rw [Bool.and_eq_true, onesB_prod (h1.pos hp), onesB_prod (h2.pos hq), decide_eq_true_iff]
  constructor
  · rintro ⟨a, b⟩
    rw [a, b] at h4
    omega
  · intro e
    rw [e, Nat.mul_comm] at h4
    have e2 := Nat.eq_of_mul_eq_mul_right (by omega : 0 < prodN qs) h4
    rw [e2, Nat.gcd_self] at c
    exact ⟨c, e2.trans c⟩

/-- the same, the columns first -/
theorem redRow_nil (x : Nat) : redRow x [] = (x, []) := rfl
theorem redGo_nil (as_ : List Nat) : redGo as_ [] = (as_, []) := by
  induction as_ with
  | nil => rfl
  | cons x xs ih => rw [redGo, redRow_nil]; simp only [ih]
theorem redGo_col (as_ : List Nat) : ∀ b bs, redGo as_ (b :: bs) = ((redGo (redRow b as_).2 bs).1, (redRow b as_).1 :: (redGo (redRow b as_).2 bs).2) := by
  induction as_ with
  | nil => intro b bs; rfl
  | cons x xs ih =>
    intro b bs
    have e : Nat.gcd b x = Nat.gcd x b := Nat.gcd_comm b x
    simp only [redGo, redRow, ih, e]
theorem redGo_swap (bs : List Nat) : ∀ as_, redGo as_ bs = ((redGo bs as_).2, (redGo bs as_).1) := by
  induction bs with
  | nil => intro as_; rw [redGo_nil]; rfl
  | cons b bs ih => intro as_; rw [redGo_col, ih]; rfl
end Go.Proofs.YtpmlljbebdidgaaDoor
/-
  Steps that go round a cycle: plain lists, no program in sight.
-/
namespace Go.Proofs.YtpmlljbebdidgaaDoor

/-- a step, of any number: an arc's number; true: from its end to its start -/
abbrev StI := Int × Bool
def sd : StI := (0, false)
def arcOf (ars : List ArcV) (s : StI) : ArcV := ars.getD s.1.toNat ⟨0, 0, 0, 0, 0⟩
def fromS (ars : List ArcV) (s : StI) : Int := if s.2 = true then (arcOf ars s).t else (arcOf ars s).f
def toS (ars : List ArcV) (s : StI) : Int := if s.2 = true then (arcOf ars s).f else (arcOf ars s).t
def giveS (ars : List ArcV) (s : StI) : Int := if s.2 = true then (arcOf ars s).k else (arcOf ars s).g
def takeS (ars : List ArcV) (s : StI) : Int := if s.2 = true then (arcOf ars s).g else (arcOf ars s).k
def inS (L : Nat) (s : StI) : Bool := decide (0 ≤ s.1 ∧ s.1 < (L : Int))
def allIn (L : Nat) (p : List StI) : Bool := p.all (inS L)
/-- a list's first one at its end -/
def rot1 {α : Type} : List α → List α
  | [] => []
  | a :: l => l ++ [a]
/-- steps go round a cycle -/
def Closes (ars : List ArcV) (p : List StI) : Prop := p ≠ [] ∧ p.map (toS ars) = rot1 (p.map (fromS ars)) ∧ (p.map (fromS ars)).Nodup ∧ (p.map (·.1)).Nodup

theorem rot1_length {α : Type} (l : List α) : (rot1 l).length = l.length := by cases l <;> simp [rot1]
theorem rot1_perm {α : Type} (l : List α) : (rot1 l).Perm l := by
  cases l with
  | nil => exact List.Perm.refl _
  | cons a l => exact (List.perm_append_comm : (l ++ [a]).Perm ([a] ++ l))
theorem rot1_map {α β : Type} (f : α → β) (l : List α) : (rot1 l).map f = rot1 (l.map f) := by cases l <;> simp [rot1]
theorem rot1_inj {α : Type} {l m : List α} (h : rot1 l = rot1 m) : l = m := by
  cases l with
  | nil => cases m with
    | nil => rfl
    | cons b m => simp [rot1] at h
  | cons a l => cases m with
    | nil => simp [rot1] at h
    | cons b m =>
      simp only [rot1] at h
      obtain ⟨h1, h2⟩ := List.append_inj' h rfl
      simp at h2
      rw [h1, h2]
theorem rot1_get {α : Type} (l : List α) (i : Nat) (hi : i < l.length) : (rot1 l)[i]? = l[(i + 1) % l.length]? := by
  cases l with
  | nil => simp at hi
  | cons a l =>
    simp only [rot1, List.length_cons] at hi ⊢
    by_cases h : i < l.length
    · rw [List.getElem?_append_left h, Nat.mod_eq_of_lt (by omega), List.getElem?_cons_succ]
    · obtain rfl : i = l.length := by omega
      rw [Nat.mod_self, List.getElem?_append_right (Nat.le_refl _), Nat.sub_self]; rfl
theorem rot1_rev {α : Type} (l : List α) : rot1 (rot1 l).reverse = l.reverse := by cases l <;> simp [rot1]

/-- the step at a place, as the code looks at it -/
def at' (p : List StI) (i : Nat) : StI := p.getD i sd
theorem at'_some {p : List StI} {i : Nat} {s : StI} (h : p[i]? = some s) : at' p i = s := by unfold at'; rw [List.getD_eq_getElem?_getD, h]; rfl
def apartAt (ars : List ArcV) (p : List StI) (i j : Nat) : Bool := !(decide (fromS ars (at' p j) = fromS ars (at' p i)) || decide ((at' p j).1 = (at' p i).1))
def okAt (ars : List ArcV) (p : List StI) (i : Nat) : Bool := decide (toS ars (at' p i) = fromS ars (at' p ((i + 1) % p.length))) && (List.range i).all (apartAt ars p i)
def closesB (ars : List ArcV) (p : List StI) : Bool := decide (0 < p.length) && (List.range p.length).all (okAt ars p)

theorem nodup_at {α : Type} (p : List StI) (f : StI → α) : (p.map f).Nodup ↔ ∀ i j, j < i → i < p.length → f (at' p j) ≠ f (at' p i) := by
  unfold List.Nodup
  rw [List.pairwise_iff_getElem]
  constructor
  · intro h i j hji hi
    have := h j i (by simpa using (by omega : j < p.length)) (by simpa using hi) hji
    simp only [List.getElem_map] at this
    rw [at'_some (List.getElem?_eq_getElem (by omega : j < p.length)), at'_some (List.getElem?_eq_getElem hi)]
    exact this
  · intro h i j hi hj hij
    simp only [List.length_map] at hi hj
    have := h j i hij hj
    rw [at'_some (List.getElem?_eq_getElem hi), at'_some (List.getElem?_eq_getElem hj)] at this
    simpa using this
theorem chain_at (ars : List ArcV) (p : List StI) : p.map (toS ars) = rot1 (p.map (fromS ars)) ↔ ∀ i, i < p.length → toS ars (at' p i) = fromS ars (at' p ((i + 1) % p.length)) := by
  have key : ∀ i, i < p.length → (p.map (toS ars))[i]? = some (toS ars (at' p i)) ∧ (rot1 (p.map (fromS ars)))[i]? = some (fromS ars (at' p ((i + 1) % p.length))) := by
    intro i hi
    have hm : (i + 1) % p.length < p.length := Nat.mod_lt _ (by omega)
    refine ⟨?_, ?_⟩
    · rw [List.getElem?_map, List.getElem?_eq_getElem hi, at'_some (List.getElem?_eq_getElem hi)]; rfl
    · rw [rot1_get _ _ (by simpa using hi), List.length_map, List.getElem?_map, List.getElem?_eq_getElem hm, at'_some (List.getElem?_eq_getElem hm)]; rfl
  constructor
  · intro h i hi
    obtain ⟨h1, h2⟩ := key i hi
    rw [h, h2] at h1
    exact (Option.some.inj h1).symm
  · intro h
    apply List.ext_getElem?
    intro i
    by_cases hi : i < p.length
    · obtain ⟨h1, h2⟩ := key i hi
      rw [h1, h2, h i hi]
    · rw [List.getElem?_eq_none (by simpa using hi), List.getElem?_eq_none (by rw [rot1_length]; simpa using hi)]
theorem closesB_iff (ars : List ArcV) (p : List StI) : closesB ars p = true ↔ Closes ars p := by
  unfold closesB Closes
  rw [Bool.and_eq_true, decide_eq_true_iff, List.all_eq_true, chain_at, nodup_at, nodup_at]
  constructor
  · rintro ⟨h0, h⟩
    have h' : ∀ i, i < p.length → okAt ars p i = true := fun i hi => h i (List.mem_range.2 hi)
    refine ⟨fun he => (by rw [he] at h0; simp at h0), fun i hi => ?_, fun i j hji hi => ?_, fun i j hji hi => ?_⟩
    · have := h' i hi
      unfold okAt at this
      rw [Bool.and_eq_true, decide_eq_true_iff] at this
      exact this.1
    all_goals
      have := h' i hi
      unfold okAt at this
      rw [Bool.and_eq_true, List.all_eq_true] at this
      have := this.2 j (List.mem_range.2 hji)
      unfold apartAt at this
      simp at this
    · exact this.1
    · exact this.2
  · rintro ⟨h0, h1, h2, h3⟩
    refine ⟨List.length_pos_iff.2 h0, fun i hi => ?_⟩
    have hi := List.mem_range.1 hi
    unfold okAt
    rw [Bool.and_eq_true, decide_eq_true_iff, List.all_eq_true]
    refine ⟨h1 i hi, fun j hj => ?_⟩
    have hj := List.mem_range.1 hj
    unfold apartAt
    simp [h2 i j hj hi, h3 i j hj hi]
theorem nodup_same {l : List Int} {a : Int} (hn : l.Nodup) (h : ∀ x ∈ l, x = a) : l.length ≤ 1 := by
  match l, hn, h with
  | [], _, _ => simp
  | [_], _, _ => simp
  | x :: y :: l, hn, h =>
    exfalso
    have h1 := h x (by simp)
    have h2 := h y (by simp)
    rw [List.nodup_cons] at hn
    exact hn.1 (by rw [h1, ← h2]; simp)
/-- distinct numbers below L are no more than L -/
theorem nodup_le : ∀ (L : Nat) (l : List Int), l.Nodup → (∀ x ∈ l, 0 ≤ x ∧ x < (L : Int)) → l.length ≤ L
  | 0, l, _, h => by
    cases l with
    | nil => simp
    | cons x l => have := h x (List.mem_cons_self ..); omega
  | L + 1, l, hn, h => by
    have h1 := nodup_le L (l.filter (fun x => x != (L : Int))) (hn.filter _) (fun x hx => by
      obtain ⟨hx1, hx2⟩ := List.mem_filter.1 hx
      have := h x hx1
      have : x ≠ (L : Int) := by simpa using hx2
      omega)
    have h2 : l.length ≤ (l.filter (fun x => x != (L : Int))).length + 1 := by
      have e := List.length_eq_countP_add_countP (fun x => x != (L : Int)) (l := l)
      rw [List.countP_eq_length_filter] at e
      have h3 : l.countP (fun a => !(a != (L : Int))) ≤ 1 := by
        rw [List.countP_eq_length_filter]
        exact nodup_same (hn.filter _) (fun x hx => by have := (List.mem_filter.1 hx).2; simpa using this)
      have h4 : l.countP (fun a => decide ¬(a != (L : Int)) = true) = l.countP (fun a => !(a != (L : Int))) := by congr 1; funext a; by_cases ha : a = (L : Int) <;> simp [ha]
      omega
    omega
theorem closes_le {ars : List ArcV} {p : List StI} (h : Closes ars p) (hi : allIn ars.length p = true) : p.length ≤ ars.length := by
  have := nodup_le ars.length (p.map (·.1)) h.2.2.2 (fun x hx => by
    obtain ⟨s, hs, rfl⟩ := List.mem_map.1 hx
    have := List.all_eq_true.1 hi s hs
    unfold inS at this
    exact of_decide_eq_true this)
  simpa using this
end Go.Proofs.YtpmlljbebdidgaaDoor
/-
  cancel: wrong, own, Reduce: what they answer.
-/
namespace Go.Proofs.YtpmlljbebdidgaaDoor
open Go.RowKit

/-- numbers without signs as numbers -/
def castL (l : List Nat) : List Int := l.map fun n : Nat => (n : Int)
theorem castL_length (l : List Nat) : (castL l).length = l.length := by simp [castL]
theorem castL_get {l : List Nat} {k x : Nat} (h : l[k]? = some x) : (castL l)[k]? = some (x : Int) := by simp [castL, h]
theorem castL_set (l : List Nat) (k x : Nat) : (castL l).set k (x : Int) = castL (l.set k x) := by simp [castL, List.map_set]
def OkL (l : List Nat) : Prop := ∀ x ∈ l, 1 ≤ x ∧ x ≤ 9223372036854775807
theorem OkL.pos {l : List Nat} (h : OkL l) : Pos l := fun x hx => (h x hx).1
theorem OkL.fit {l : List Nat} (h : OkL l) : AllFit (castL l) := by
  intro x hx
  obtain ⟨n, hn, rfl⟩ := List.mem_map.1 hx
  have := h n hn
  unfold fits; omega
theorem OkL.set {l : List Nat} (h : OkL l) (k : Nat) {x : Nat} (h1 : 1 ≤ x) (h2 : x ≤ 9223372036854775807) : OkL (l.set k x) := by
  intro y hy
  rcases List.mem_or_eq_of_mem_set hy with hy | rfl
  · exact h y hy
  · exact ⟨h1, h2⟩

theorem retb {a b : Bool} (h : a = b) : Ending.returned (.bool a) = .returned (.bool b) := by rw [h]
/-- is any of the numbers below 1 -/
def clowB (xs : List Int) : Bool := xs.any fun x => decide (x < 1)
/-- what may not be -/
def cwrongF (ps qs : List Int) : Int := if 1024 < ps.length ∨ 1024 < qs.length then 2 else if (clowB ps || clowB qs) = true then 1 else 0

set_option maxRecDepth 100000 in
theorem clow_any (x : Int) (w : World) : Calls Tryd.prog 77 #[.int .i64 x] w fun e w' => e = .returned (.bool (decide (x < 1))) ∧ w = w' := by
  go_enter Tryd.func77, Tryd.ntmps77
  go_wp2
  all_goals (go_ret; exact ⟨by simp_all, rfl⟩)
set_option maxRecDepth 100000 in
theorem cmore_any (x : Int) (w : World) : Calls Tryd.prog 47 #[.int .i64 x] w fun e w' => e = .returned (.bool (x != 1)) ∧ w = w' := by
  go_enter Tryd.func47, Tryd.ntmps47
  go_wp2
  all_goals (go_ret; exact ⟨by simp_all, rfl⟩)

def IdxPost (b : Bool) (w : World) (e : Ending) (w' : World) : Prop := ∃ r : Int, e = .returned (.int .i64 r) ∧ decide (0 ≤ r) = b ∧ w = w'
theorem any_take_false {xs : List Int} {p : Int → Bool} {k : Nat} (h : ∀ j x, j < k → xs[j]? = some x → p x = false) (hk : k = xs.length) : xs.any p = false := by
  rw [List.any_eq_false]
  intro x hx
  obtain ⟨j, hj, rfl⟩ := List.mem_iff_getElem.1 hx
  rw [h j _ (by omega) (List.getElem?_eq_getElem hj)]
  simp
theorem any_hit {xs : List Int} {p : Int → Bool} {k : Nat} {x : Int} (h : xs[k]? = some x) (hp : p x = true) : xs.any p = true :=
  List.any_eq_true.2 ⟨x, List.mem_of_getElem? h, hp⟩

set_option maxRecDepth 100000 in
set_option maxHeartbeats 400000 in
theorem index_any (g : FuncId) (p : Int → Bool) (xs : List Int) (A : Option Addr) (n c B : Nat) (w : World) (hp : ∀ (x : Int) (w : World), Calls Tryd.prog g #[.int .i64 x] w fun e w' => e = .returned (.bool (p x)) ∧ w = w')
    (eg : ∀ args w, (callFunc g args).run Tryd.prog w = .ok (.enter g args) w) (hn : xs.length = n) (hx : AllFit xs) (hr : Rd w B A (cellsI xs)) (hl : n ≤ maxLen) :
    Calls Tryd.prog 68 #[.slice A n c, .func (.func g) #[] #[]] w (IdxPost (xs.any p) w) := by
  subst hn
  unfold maxLen at hl
  go_enter Tryd.func68, Tryd.ntmps68
  go_wp2
  go_loopg [5, 8] xs.length (fun gg _ s8 wr => ∃ k : Nat, k ≤ xs.length ∧ xs.length - k ≤ gg ∧ s8 = .int .i64 k ∧ wr = w ∧ Hid (∀ j x, j < k → xs[j]? = some x → p x = false))
  case atStart => exact ⟨0, Nat.zero_le _, by omega, rfl, rfl, fun j x hj => absurd hj (Nat.not_lt_zero _)⟩
  case round =>
    obtain ⟨k, hk, hg, rfl, rfl, H⟩ := hrel
    by_cases hlt : k < xs.length
    · obtain ⟨b, off, x, rfl, hb, hxk, hc, hd, hxx⟩ := hr.at_ hx hlt
      have hcall := hp x wr
      have HP := Lib.hid hp
      clear hp hd
      cases hq : p x with
      | true =>
        rw [hq] at hcall
        have HQ := Lib.hid hq
        clear hq
        go_wp2_with fail
        refine hcall.mono ?_
        rintro e w' ⟨rfl, rfl⟩
        go_wp2_with fail
        go_ret
        exact ⟨_, rfl, by rw [any_hit hxx.out HQ.out]; simp, rfl⟩
      | false =>
        rw [hq] at hcall
        have HQ := Lib.hid hq
        clear hq
        go_wp2_with fail
        refine hcall.mono ?_
        rintro e w' ⟨rfl, rfl⟩
        go_wp2_with fail
        go_roundg (xs.length - (k + 1))
        case measure => omega
        case rel =>
          refine ⟨k + 1, by omega, by omega, by go_num, rfl, (show Hid _ from fun j y hj hy => ?_)⟩
          by_cases e : j = k
          · subst e
            rw [hxx.out] at hy
            injection hy with hy
            subst hy
            exact HQ.out
          · exact H.out j y (by omega) hy
    · have hkk : k = xs.length := by omega
      have H2 := any_take_false H.out hkk
      have HH := Lib.hid H2
      clear H2 hp
      go_wp2
      go_ret
      exact ⟨_, rfl, by rw [HH.out]; decide, rfl⟩
set_option maxRecDepth 100000 in
set_option maxHeartbeats 400000 in
theorem contains_any (g : FuncId) (p : Int → Bool) (xs : List Int) (A : Option Addr) (n c B : Nat) (w : World) (hp : ∀ (x : Int) (w : World), Calls Tryd.prog g #[.int .i64 x] w fun e w' => e = .returned (.bool (p x)) ∧ w = w')
    (eg : ∀ args w, (callFunc g args).run Tryd.prog w = .ok (.enter g args) w) (hn : xs.length = n) (hx : AllFit xs) (hr : Rd w B A (cellsI xs)) (hl : n ≤ maxLen) :
    Calls Tryd.prog 48 #[.slice A n c, .func (.func g) #[] #[]] w fun e w' => e = .returned (.bool (xs.any p)) ∧ w = w' := by
  have h := index_any g p xs A n c B w hp eg hn hx hr hl
  clear hp eg hx hr
  go_enter Tryd.func48, Tryd.ntmps48
  go_wp2_with fail
  refine h.mono ?_
  rintro e w' ⟨r, rfl, hr, rfl⟩
  have HR := Lib.hid hr
  clear hr
  go_wp2_with fail
  go_ret
  exact ⟨retb HR.out, rfl⟩
theorem enters_fn {P : Program} {g : FuncId} {fn : Func} {c : Code} (hg : P.funcs[g]? = some fn) (hn : (fn.name == "runtime.NumGoroutine") = false) (hb : fn.body = some c) (args : Array Value) (w : World) : (callFunc g args).run P w = .ok (.enter g args) w := by
  have h1 : fn.name ≠ "runtime.NumGoroutine" := by simpa using hn
  simp [callFunc, hg, h1, hb, mark]
theorem entersLow : ∀ args w, (callFunc 77 args).run Tryd.prog w = .ok (.enter 77 args) w := enters_fn Tryd.func77 (by kernel_rfl) rfl
theorem entersMore : ∀ args w, (callFunc 47 args).run Tryd.prog w = .ok (.enter 47 args) w := enters_fn Tryd.func47 (by kernel_rfl) rfl

set_option maxRecDepth 100000 in
set_option maxHeartbeats 1000000 in
theorem cwrong_any (ps qs : List Int) (A A' : Option Addr) (n n' c c' B B' : Nat) (w : World) (hn : ps.length = n) (hn' : qs.length = n') (hx : AllFit ps) (hx' : AllFit qs) (hr : Rd w B A (cellsI ps)) (hr' : Rd w B' A' (cellsI qs)) (hl : n ≤ maxLen) (hl' : n' ≤ maxLen) :
    Calls Tryd.prog 65 #[.slice A n c, .slice A' n' c'] w fun e w' => e = .returned (.int .i64 (cwrongF ps qs)) ∧ w = w' := by
  have HP := Lib.hid (contains_any 77 (fun x => decide (x < 1)) ps A n c B w clow_any entersLow hn hx hr hl)
  have HQ := Lib.hid (contains_any 77 (fun x => decide (x < 1)) qs A' n' c' B' w clow_any entersLow hn' hx' hr' hl')
  have e1 : (ps.any fun x => decide (x < 1)) = clowB ps := rfl
  have e2 : (qs.any fun x => decide (x < 1)) = clowB qs := rfl
  rw [e1] at HP
  rw [e2] at HQ
  unfold maxLen at hl hl'
  unfold cwrongF
  rw [hn, hn']
  obtain ⟨P, hP⟩ : ∃ P, clowB ps = P := ⟨_, rfl⟩
  obtain ⟨Q, hQ⟩ : ∃ Q, clowB qs = Q := ⟨_, rfl⟩
  rw [hP] at HP ⊢
  rw [hQ] at HQ ⊢
  clear hx hx' hr hr' hn hn' hP hQ e1 e2
  by_cases h1 : 1024 < n
  · have d1 : decide ((n : Int) > 1024) = true := decide_eq_true (by omega)
    go_enter Tryd.func65, Tryd.ntmps65
    go_wp2
    go_ret
    exact ⟨rfl, rfl⟩
  · by_cases h2 : 1024 < n'
    · have d1 : decide ((n : Int) > 1024) = false := decide_eq_false (by omega)
      have d2 : decide ((n' : Int) > 1024) = true := decide_eq_true (by omega)
      go_enter Tryd.func65, Tryd.ntmps65
      go_wp2
      go_ret
      exact ⟨rfl, rfl⟩
    · have d1 : decide ((n : Int) > 1024) = false := decide_eq_false (by omega)
      have d2 : decide ((n' : Int) > 1024) = false := decide_eq_false (by omega)
      rw [if_neg (by omega)]
      go_enter Tryd.func65, Tryd.ntmps65
      go_wp2_with fail
      refine HP.out.mono ?_
      rintro e w' ⟨rfl, rfl⟩
      cases P with
      | true =>
        go_wp2_with fail
        go_ret
        exact ⟨rfl, rfl⟩
      | false =>
        go_wp2_with fail
        refine HQ.out.mono ?_
        rintro e w' ⟨rfl, rfl⟩
        cases Q with
        | true =>
          go_wp2_with fail
          go_ret
          exact ⟨rfl, rfl⟩
        | false =>
          go_wp2_with fail
          go_ret
          exact ⟨rfl, rfl⟩
set_option maxRecDepth 100000 in
set_option maxHeartbeats 1000000 in
theorem own_any (xs : List Int) (A : Option Addr) (n c B : Nat) (w : World) (hn : xs.length = n) (hr : Rd w B A (cellsI xs)) (hl : n * 8 ≤ 140737488351232) (hB : B ≤ w.heap.size) :
    Calls Tryd.prog 66 #[.slice A n c] w fun e w' => e = .returned (.slice (some ⟨w.heap.size, 0, none⟩) n n) ∧ w'.ownsRow w.heap.size 3 1 (.slice (some ⟨w.heap.size, 0, none⟩) n n) n (cellsI xs) ∧ Below w.heap.size w w' := by
  obtain ⟨i, hi, hz0, hz1, hz2⟩ := info_parts info_int
  have hcl := cellsI_length xs
  go_enter Tryd.func66, Tryd.ntmps66
  go_wp2_with (at_make; refine wpList_make_full _ rfl _ _ 27 rfl w.heap.size 3 i (.int .i64 0) 1 Tryd.underlying27 hi hz0 hz1 _ _ _ _ n rfl rfl (by omega) (by omega) (by rw [hz2]; omega) (by unfold maxLen; omega) (Nat.le_refl _) ?_)
  intro w1 hown hg
  have hb1 : Below w.heap.size w w1 := (Below.refl _ _).grown hg (Nat.le_refl _) (fun k hk => by cases hk)
  have hr1 := hr.below hb1 hB
  obtain ⟨hlen, h | ⟨g, cap, cur, hv, hge, hcur, h1, h2, h3, h4⟩⟩ := hown
  · simp at h
  · simp only [Value.slice.injEq, Option.some.injEq, Addr.mk.injEq, and_true, true_and] at hv
    obtain ⟨rfl, rfl⟩ := hv
    have hcl2 : cur.toList.length = n := by simp; omega
    have hcur' : w1.heap[w.heap.size]? = some (.cells cur.toList.toArray 3 (0, 0)) := by simpa using hcur
    have hsp : splice cur.toList 0 (cellsI xs) = cellsI xs := by
      unfold splice
      rw [List.drop_eq_nil_of_le (by rw [hcl, hcl2]; omega)]
      simp
    have HA := Lib.hid (fun (h0 : 0 < (cellsI xs).length) => (show ∃ ad, A = some ad ∧ ∀ j v, (cellsI xs)[j]? = some v → w1.cell? (ad.add j) = some v by
      rcases hr1 with hr | ⟨b, off, ha, _, hc⟩
      · rw [hr] at h0; simp at h0
      · exact ⟨_, ha, fun j v hv => by rw [Addr.add_lit]; exact hc j v hv⟩))
    clear hr hr1 hcur h4 hg
    go_wp2_with (refine wpList_copy_splice rfl (.tmp 7) (.tmp 8) 27 27 rfl 3 Tryd.underlying27 (by kernel_rfl) (some ⟨w.heap.size, 0, none⟩) A n n n c rfl rfl w.heap.size 0 cur.toList 3 hcur' (cellsI xs) (by rw [hcl, hn]; exact (Nat.min_self n).symm) (fun h0 => ⟨rfl, HA.out h0⟩) (by rw [hcl, hcl2]; omega) (cellsI_one xs) w.heap.size w hb1 (Nat.le_refl _) ?_)
    intro w2 H2 hb2
    clear hb1 hcur' hsp
    go_wp2_with fail
    go_ret
    exact ⟨rfl, ⟨by rw [hcl, hn]; omega, .inr ⟨w.heap.size, n, _, rfl, Nat.le_refl _, H2.out, Nat.le_refl _, h2, by simp [hcl, hn], by rw [List.toList_toArray, List.take_of_length_le (by rw [hcl]; omega)]⟩⟩, hb2⟩
end Go.Proofs.YtpmlljbebdidgaaDoor
