/-
  Lists whose pairs' common divisors are taken out: plain numbers, no program in sight.
-/
import Derived.Lib.Hide
namespace Go.Proofs.YtkheoaleamolcaaDoor

/-- a list's product -/
def prodN : List Nat → Nat
  | [] => 1
  | x :: xs => x * prodN xs
/-- one number against a list: what is left of both -/
def redRow (x : Nat) : List Nat → Nat × List Nat
  | [] => (x, [])
  | b :: bs => ((redRow (x / Nat.gcd x b) bs).1, b / Nat.gcd x b :: (redRow (x / Nat.gcd x b) bs).2)
/-- two lists: what is left of both -/
def redGo : List Nat → List Nat → List Nat × List Nat
  | [], bs => ([], bs)
  | x :: xs, bs => ((redRow x bs).1 :: (redGo xs (redRow x bs).2).1, (redGo xs (redRow x bs).2).2)
def Pos (l : List Nat) : Prop := ∀ x ∈ l, 1 ≤ x
/-- entry by entry a divisor of another list's -/
def DivL : List Nat → List Nat → Prop
  | [], [] => True
  | x :: xs, y :: ys => x ∣ y ∧ DivL xs ys
  | _, _ => False
/-- nothing in common with any of a list -/
def Cop (x : Nat) (l : List Nat) : Prop := ∀ b ∈ l, Nat.gcd x b = 1

theorem prodN_append (l m : List Nat) : prodN (l ++ m) = prodN l * prodN m := by
  induction l with
  | nil => simp [prodN]
  | cons x xs ih => rw [List.cons_append, prodN, prodN, ih, Nat.mul_assoc]
theorem prodN_pos {l : List Nat} (h : Pos l) : 1 ≤ prodN l := by
  induction l with
  | nil => simp [prodN]
  | cons x xs ih =>
    have h1 := h x (List.mem_cons_self ..)
    have h2 := ih fun y hy => h y (List.mem_cons_of_mem _ hy)
    rw [prodN]
    exact Nat.mul_pos h1 h2
theorem DivL.refl : ∀ l : List Nat, DivL l l
  | [] => trivial
  | _ :: xs => ⟨Nat.dvd_refl _, DivL.refl xs⟩
theorem DivL.trans : ∀ {l m n : List Nat}, DivL l m → DivL m n → DivL l n
  | [], [], [], _, _ => trivial
  | _ :: _, _ :: _, _ :: _, h, h' => ⟨Nat.dvd_trans h.1 h'.1, DivL.trans h.2 h'.2⟩
  | [], _ :: _, _, h, _ => h.elim
  | _ :: _, [], _, h, _ => h.elim
  | [], [], _ :: _, _, h => h.elim
  | _ :: _, _ :: _, [], _, h => h.elim
theorem DivL.length : ∀ {l m : List Nat}, DivL l m → l.length = m.length
  | [], [], _ => rfl
  | _ :: _, _ :: _, h => by rw [List.length_cons, List.length_cons, DivL.length h.2]
  | [], _ :: _, h => h.elim
  | _ :: _, [], h => h.elim
theorem DivL.get : ∀ {l m : List Nat} (k x y : Nat), DivL l m → l[k]? = some x → m[k]? = some y → x ∣ y
  | a :: l, b :: m, 0, x, y, h, hx, hy => by
    simp only [List.getElem?_cons_zero, Option.some.injEq] at hx hy
    subst hx hy; exact h.1
  | a :: l, b :: m, k + 1, x, y, h, hx, hy => by
    simp only [List.getElem?_cons_succ] at hx hy
    exact DivL.get k x y h.2 hx hy
  | [], _, k, x, y, _, hx, _ => by simp at hx
  | _ :: _, [], k, x, y, h, _, _ => h.elim
theorem dvd_pos {x y : Nat} (h : x ∣ y) (hy : 1 ≤ y) : 1 ≤ x := Nat.pos_of_dvd_of_pos h hy
theorem DivL.pos : ∀ {l m : List Nat}, DivL l m → Pos m → Pos l
  | [], [], _, _ => fun _ h => (by cases h)
  | x :: xs, y :: ys, h, hp => fun z hz => by
    rcases List.mem_cons.1 hz with rfl | hz
    · exact dvd_pos h.1 (hp _ (List.mem_cons_self ..))
    · exact DivL.pos h.2 (fun u hu => hp u (List.mem_cons_of_mem _ hu)) z hz
  | [], _ :: _, h, _ => h.elim
  | _ :: _, [], h, _ => h.elim
theorem cop_dvd {x y a b : Nat} (h : Nat.gcd x y = 1) (ha : a ∣ x) (hb : b ∣ y) : Nat.gcd a b = 1 :=
  Nat.eq_one_of_dvd_one (h ▸ Nat.dvd_gcd (Nat.dvd_trans (Nat.gcd_dvd_left a b) ha) (Nat.dvd_trans (Nat.gcd_dvd_right a b) hb))
theorem Cop.dvd {x : Nat} : ∀ {l m : List Nat}, Cop x m → DivL l m → Cop x l
  | [], [], _, _ => fun _ h => (by cases h)
  | a :: l, b :: m, h, hd => fun z hz => by
    rcases List.mem_cons.1 hz with rfl | hz
    · exact cop_dvd (h b (List.mem_cons_self ..)) (Nat.dvd_refl _) hd.1
    · exact Cop.dvd (fun u hu => h u (List.mem_cons_of_mem _ hu)) hd.2 z hz
  | [], _ :: _, _, h => h.elim
  | _ :: _, [], _, h => h.elim
theorem div_gcd_dvd (x b : Nat) : x / Nat.gcd x b ∣ x := Nat.div_dvd_of_dvd (Nat.gcd_dvd_left x b)
theorem div_gcd_dvd' (x b : Nat) : b / Nat.gcd x b ∣ b := Nat.div_dvd_of_dvd (Nat.gcd_dvd_right x b)
theorem div_gcd_cop {x b : Nat} (hx : 1 ≤ x) : Nat.gcd (x / Nat.gcd x b) (b / Nat.gcd x b) = 1 := Nat.gcd_div_gcd_div_gcd_of_pos_left hx

theorem redRow_all (bs : List Nat) : ∀ x, 1 ≤ x → Pos bs →
    (redRow x bs).1 ∣ x ∧ DivL (redRow x bs).2 bs ∧ Cop (redRow x bs).1 (redRow x bs).2 ∧ x * prodN (redRow x bs).2 = (redRow x bs).1 * prodN bs := by
  induction bs with
  | nil => intro x _ _; exact ⟨Nat.dvd_refl _, trivial, fun _ h => (by cases h), rfl⟩
  | cons b bs ih =>
    intro x hx hp
    have hb := hp b (List.mem_cons_self ..)
    have hg : 0 < Nat.gcd x b := Nat.gcd_pos_of_pos_left _ hx
    obtain ⟨h1, h2, h3, h4⟩ := ih (x / Nat.gcd x b) (dvd_pos (div_gcd_dvd x b) hx) fun y hy => hp y (List.mem_cons_of_mem _ hy)
    simp only [redRow]
    refine ⟨Nat.dvd_trans h1 (div_gcd_dvd x b), ⟨div_gcd_dvd' x b, h2⟩, ?_, ?_⟩
    · intro z hz
      rcases List.mem_cons.1 hz with rfl | hz
      · exact cop_dvd (div_gcd_cop hx) h1 (Nat.dvd_refl _)
      · exact h3 z hz
    · rw [prodN, prodN]
      obtain ⟨g, hgg⟩ : ∃ g, Nat.gcd x b = g := ⟨_, rfl⟩
      have e1 : x / Nat.gcd x b * Nat.gcd x b = x := Nat.div_mul_cancel (Nat.gcd_dvd_left x b)
      have e2 : b / Nat.gcd x b * Nat.gcd x b = b := Nat.div_mul_cancel (Nat.gcd_dvd_right x b)
      rw [hgg] at h4 e1 e2 ⊢
      generalize x / g = y at *
      generalize b / g = c at *
      generalize (redRow y bs).1 = r at *
      generalize prodN (redRow y bs).2 = s at *
      rw [← e1, ← e2]
      calc y * g * (c * s) = y * s * (c * g) := by ac_rfl
        _ = r * prodN bs * (c * g) := by rw [h4]
        _ = r * (c * g * prodN bs) := by ac_rfl
theorem redGo_all (as : List Nat) : ∀ bs, Pos as → Pos bs →
    DivL (redGo as bs).1 as ∧ DivL (redGo as bs).2 bs ∧ (∀ a ∈ (redGo as bs).1, Cop a (redGo as bs).2) ∧ prodN as * prodN (redGo as bs).2 = prodN (redGo as bs).1 * prodN bs := by
  induction as with
  | nil => intro bs _ _; exact ⟨trivial, DivL.refl _, fun _ h => (by cases h), rfl⟩
  | cons x xs ih =>
    intro bs hx hb
    obtain ⟨r1, r2, r3, r4⟩ := redRow_all bs x (hx x (List.mem_cons_self ..)) hb
    obtain ⟨h1, h2, h3, h4⟩ := ih (redRow x bs).2 (fun y hy => hx y (List.mem_cons_of_mem _ hy)) (r2.pos hb)
    simp only [redGo]
    refine ⟨⟨r1, h1⟩, h2.trans r2, ?_, ?_⟩
    · intro a ha
      rcases List.mem_cons.1 ha with rfl | ha
      · exact r3.dvd h2
      · exact h3 a ha
    · rw [prodN, prodN]
      generalize prodN (redGo xs (redRow x bs).2).2 = s at *
      generalize prodN (redGo xs (redRow x bs).2).1 = t at *
      generalize prodN (redRow x bs).2 = u at *
      calc x * prodN xs * s = x * (prodN xs * s) := by ac_rfl
        _ = t * (x * u) := by rw [h4]; ac_rfl
        _ = (redRow x bs).1 * t * prodN bs := by rw [r4]; ac_rfl
theorem cop_mul {x a b : Nat} (h : Nat.gcd x a = 1) (h' : Nat.gcd x b = 1) : Nat.gcd x (a * b) = 1 := Nat.Coprime.mul_right h h'
theorem cop_prod {x : Nat} {l : List Nat} (h : Cop x l) : Nat.gcd x (prodN l) = 1 := by
  induction l with
  | nil => exact Nat.gcd_one_right x
  | cons y ys ih => rw [prodN]; exact cop_mul (h y (List.mem_cons_self ..)) (ih fun z hz => h z (List.mem_cons_of_mem _ hz))
theorem cop_prods {l m : List Nat} (h : ∀ a ∈ l, Cop a m) : Nat.gcd (prodN l) (prodN m) = 1 := by
  induction l with
  | nil => exact Nat.gcd_one_left _
  | cons y ys ih =>
    rw [prodN, Nat.gcd_comm]
    refine cop_mul ?_ ?_
    · rw [Nat.gcd_comm]; exact cop_prod (h y (List.mem_cons_self ..))
    · rw [Nat.gcd_comm]; exact ih fun z hz => h z (List.mem_cons_of_mem _ hz)
def onesB (l : List Nat) : Bool := l.all (· == 1)
theorem onesB_prod {l : List Nat} (h : Pos l) : onesB l = true ↔ prodN l = 1 := by
  induction l with
  | nil => simp [onesB, prodN]
  | cons y ys ih =>
    have ih := ih fun z hz => h z (List.mem_cons_of_mem _ hz)
    unfold onesB at ih ⊢
    rw [List.all_cons, prodN, Bool.and_eq_true, ih, beq_iff_eq]
    exact ⟨fun ⟨a, b⟩ => by rw [a, b], fun e => ⟨Nat.eq_one_of_dvd_one ⟨_, e.symm⟩, Nat.eq_one_of_dvd_one ⟨_, (Nat.mul_comm _ _).trans e |>.symm⟩⟩⟩
/-- are two lists' products one: told by what is left -/
def eqR (ps qs : List Nat) : Bool := onesB (redGo ps qs).1 && onesB (redGo ps qs).2
theorem eqR_prod {ps qs : List Nat} (hp : Pos ps) (hq : Pos qs) : eqR ps qs = decide (prodN ps = prodN qs) := by
  obtain ⟨h1, h2, h3, h4⟩ := redGo_all ps qs hp hq
  have p1 := prodN_pos hp
  have c := cop_prods h3
  rw [Bool.eq_iff_iff]
  unfold eqR
  rw [Bool.and_eq_true, onesB_prod (h1.pos hp), onesB_prod (h2.pos hq), decide_eq_true_iff]
  constructor
  · rintro ⟨a, b⟩
    rw [a, b] at h4
    omega
  · intro e
    rw [e, Nat.mul_comm] at h4
    have e2 := Nat.eq_of_mul_eq_mul_right (by omega : 0 < prodN qs) h4
    rw [e2, Nat.gcd_self] at c
    exact ⟨c, e2.trans c⟩

/-- the same, the columns first -/
theorem redRow_nil (x : Nat) : redRow x [] = (x, []) := rfl
theorem redGo_nil (as : List Nat) : redGo as [] = (as, []) := by
  induction as with
  | nil => rfl
  | cons x xs ih => rw [redGo, redRow_nil]; simp only [ih]
theorem redGo_col (as : List Nat) : ∀ b bs, redGo as (b :: bs) = ((redGo (redRow b as).2 bs).1, (redRow b as).1 :: (redGo (redRow b as).2 bs).2) := by
  induction as with
  | nil => intro b bs; rfl
  | cons x xs ih =>
    intro b bs
    have e : Nat.gcd b x = Nat.gcd x b := Nat.gcd_comm b x
    simp only [redGo, redRow, ih, e]
theorem redGo_swap (bs : List Nat) : ∀ as, redGo as bs = ((redGo bs as).2, (redGo bs as).1) := by
  induction bs with
  | nil => intro as; rw [redGo_nil]; rfl
  | cons b bs ih => intro as; rw [redGo_col, ih]; rfl
end Go.Proofs.YtkheoaleamolcaaDoor
