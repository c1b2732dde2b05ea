/-
  Na, Nb, Nc, Nd, Ne: texts pasted together.
-/
import Derived.Lib.Hide
import Derived.Test.YtlpmnhllnfhkdaaDoorM1
import Derived.Laws.CopyOwn
import Derived.Laws.OwnMore
import Derived.StillTailTactics
import Derived.Deep.LoopGhost
import Derived.Test.YtlpmnhllnfhkdaaDoorM3
/-
  Lists whose pairs' common divisors are taken out: plain numbers, no program in sight.
-/
namespace Go.Proofs.YtlpmnhllnfhkdaaDoor

/-- a list's product -/
def prodN : List Nat → Nat
  | [] => 1
  | x :: xs => x * prodN xs
/-- one number against a list: what is left of both -/
def redRow (x : Nat) : List Nat → Nat × List Nat
  | [] => (x, [])
  | b :: bs => ((redRow (x / Nat.gcd x b) bs).1, b / Nat.gcd x b :: (redRow (x / Nat.gcd x b) bs).2)
/-- two lists: what is left of both -/
def redGo : List Nat → List Nat → List Nat × List Nat
  | [], bs => ([], bs)
  | x :: xs, bs => ((redRow x bs).1 :: (redGo xs (redRow x bs).2).1, (redGo xs (redRow x bs).2).2)
def Pos (l : List Nat) : Prop := ∀ x ∈ l, 1 ≤ x
/-- entry by entry a divisor of another list's -/
def DivL : List Nat → List Nat → Prop
  | [], [] => True
  | x :: xs, y :: ys => x ∣ y ∧ DivL xs ys
  | _, _ => False
/-- nothing in common with any of a list -/
def Cop (x : Nat) (l : List Nat) : Prop := ∀ b ∈ l, Nat.gcd x b = 1

theorem prodN_append (l m : List Nat) : prodN (l ++ m) = prodN l * prodN m := by
  induction l with
  | nil => simp [prodN]
  | cons x xs ih => rw [List.cons_append, prodN, prodN, ih, Nat.mul_assoc]
theorem prodN_pos {l : List Nat} (h : Pos l) : 1 ≤ prodN l := by
  induction l with
  | nil => simp [prodN]
  | cons x xs ih =>
    have h1 := h x (List.mem_cons_self ..)
    have h2 := ih fun y hy => h y (List.mem_cons_of_mem _ hy)
    rw [prodN]
    exact Nat.mul_pos h1 h2
theorem DivL.refl : ∀ l : List Nat, DivL l l
  | [] => trivial
  | _ :: xs => ⟨Nat.dvd_refl _, DivL.refl xs⟩
theorem DivL.trans : ∀ {l m n : List Nat}, DivL l m → DivL m n → DivL l n
  | [], [], [], _, _ => trivial
  | _ :: _, _ :: _, _ :: _, h, h' => ⟨Nat.dvd_trans h.1 h'.1, DivL.trans h.2 h'.2⟩
  | [], _ :: _, _, h, _ => h.elim
  | _ :: _, [], _, h, _ => h.elim
  | [], [], _ :: _, _, h => h.elim
  | _ :: _, _ :: _, [], _, h => h.elim
theorem DivL.length : ∀ {l m : List Nat}, DivL l m → l.length = m.length
  | [], [], _ => rfl
  | _ :: _, _ :: _, h => by rw [List.length_cons, List.length_cons, DivL.length h.2]
  | [], _ :: _, h => h.elim
  | _ :: _, [], h => h.elim
theorem DivL.get : ∀ {l m : List Nat} (k x y : Nat), DivL l m → l[k]? = some x → m[k]? = some y → x ∣ y
  | a :: l, b :: m, 0, x, y, h, hx, hy => by
    simp only [List.getElem?_cons_zero, Option.some.injEq] at hx hy
    subst hx hy; exact h.1
  | a :: l, b :: m, k + 1, x, y, h, hx, hy => by
    simp only [List.getElem?_cons_succ] at hx hy
    exact DivL.get k x y h.2 hx hy
  | [], _, k, x, y, _, hx, _ => by simp at hx
  | _ :: _, [], k, x, y, h, _, _ => h.elim
theorem dvd_pos {x y : Nat} (h : x ∣ y) (hy : 1 ≤ y) : 1 ≤ x := Nat.pos_of_dvd_of_pos h hy
theorem DivL.pos : ∀ {l m : List Nat}, DivL l m → Pos m → Pos l
  | [], [], _, _ => fun _ h => (by cases h)
  | x :: xs, y :: ys, h, hp => fun z hz => by
    rcases List.mem_cons.1 hz with rfl | hz
    · exact dvd_pos h.1 (hp _ (List.mem_cons_self ..))
    · exact DivL.pos h.2 (fun u hu => hp u (List.mem_cons_of_mem _ hu)) z hz
  | [], _ :: _, h, _ => h.elim
  | _ :: _, [], h, _ => h.elim
theorem cop_dvd {x y a b : Nat} (h : Nat.gcd x y = 1) (ha : a ∣ x) (hb : b ∣ y) : Nat.gcd a b = 1 :=
  Nat.eq_one_of_dvd_one (h ▸ Nat.dvd_gcd (Nat.dvd_trans (Nat.gcd_dvd_left a b) ha) (Nat.dvd_trans (Nat.gcd_dvd_right a b) hb))
theorem Cop.dvd {x : Nat} : ∀ {l m : List Nat}, Cop x m → DivL l m → Cop x l
  | [], [], _, _ => fun _ h => (by cases h)
  | a :: l, b :: m, h, hd => fun z hz => by
    rcases List.mem_cons.1 hz with rfl | hz
    · exact cop_dvd (h b (List.mem_cons_self ..)) (Nat.dvd_refl _) hd.1
    · exact Cop.dvd (fun u hu => h u (List.mem_cons_of_mem _ hu)) hd.2 z hz
  | [], _ :: _, _, h => h.elim
  | _ :: _, [], _, h => h.elim
theorem div_gcd_dvd (x b : Nat) : x / Nat.gcd x b ∣ x := Nat.div_dvd_of_dvd (Nat.gcd_dvd_left x b)
theorem div_gcd_dvd' (x b : Nat) : b / Nat.gcd x b ∣ b := Nat.div_dvd_of_dvd (Nat.gcd_dvd_right x b)
theorem div_gcd_cop {x b : Nat} (hx : 1 ≤ x) : Nat.gcd (x / Nat.gcd x b) (b / Nat.gcd x b) = 1 := Nat.gcd_div_gcd_div_gcd_of_pos_left hx

theorem redRow_all (bs : List Nat) : ∀ x, 1 ≤ x → Pos bs →
    (redRow x bs).1 ∣ x ∧ DivL (redRow x bs).2 bs ∧ Cop (redRow x bs).1 (redRow x bs).2 ∧ x * prodN (redRow x bs).2 = (redRow x bs).1 * prodN bs := by
  induction bs with
  | nil => intro x _ _; exact ⟨Nat.dvd_refl _, trivial, fun _ h => (by cases h), rfl⟩
  | cons b bs ih =>
    intro x hx hp
    have hb := hp b (List.mem_cons_self ..)
    have hg : 0 < Nat.gcd x b := Nat.gcd_pos_of_pos_left _ hx
    obtain ⟨h1, h2, h3, h4⟩ := ih (x / Nat.gcd x b) (dvd_pos (div_gcd_dvd x b) hx) fun y hy => hp y (List.mem_cons_of_mem _ hy)
    simp only [redRow]
    refine ⟨Nat.dvd_trans h1 (div_gcd_dvd x b), ⟨div_gcd_dvd' x b, h2⟩, ?_, ?_⟩
    · intro z hz
      rcases List.mem_cons.1 hz with rfl | hz
      · exact cop_dvd (div_gcd_cop hx) h1 (Nat.dvd_refl _)
      · exact h3 z hz
    · rw [prodN, prodN]
      obtain ⟨g, hgg⟩ : ∃ g, Nat.gcd x b = g := ⟨_, rfl⟩
      have e1 : x / Nat.gcd x b * Nat.gcd x b = x := Nat.div_mul_cancel (Nat.gcd_dvd_left x b)
      have e2 : b / Nat.gcd x b * Nat.gcd x b = b := Nat.div_mul_cancel (Nat.gcd_dvd_right x b)
      rw [hgg] at h4 e1 e2 ⊢
      generalize x / g = y at *
      generalize b / g = c at *
      generalize (redRow y bs).1 = r at *
      generalize prodN (redRow y bs).2 = s at *
      rw [← e1, ← e2]
      calc y * g * (c * s) = y * s * (c * g) := by ac_rfl
        _ = r * prodN bs * (c * g) := by rw [h4]
        _ = r * (c * g * prodN bs) := by ac_rfl
theorem redGo_all (as_ : List Nat) : ∀ bs, Pos as_ → Pos bs →
    DivL (redGo as_ bs).1 as_ ∧ DivL (redGo as_ bs).2 bs ∧ (∀ a ∈ (redGo as_ bs).1, Cop a (redGo as_ bs).2) ∧ prodN as_ * prodN (redGo as_ bs).2 = prodN (redGo as_ bs).1 * prodN bs := by
  induction as_ with
  | nil => intro bs _ _; exact ⟨trivial, DivL.refl _, fun _ h => (by cases h), rfl⟩
  | cons x xs ih =>
    intro bs hx hb
    obtain ⟨r1, r2, r3, r4⟩ := redRow_all bs x (hx x (List.mem_cons_self ..)) hb
    obtain ⟨h1, h2, h3, h4⟩ := ih (redRow x bs).2 (fun y hy => hx y (List.mem_cons_of_mem _ hy)) (r2.pos hb)
    simp only [redGo]
    refine ⟨⟨r1, h1⟩, h2.trans r2, ?_, ?_⟩
    · intro a ha
      rcases List.mem_cons.1 ha with rfl | ha
      · exact r3.dvd h2
      · exact h3 a ha
    · rw [prodN, prodN]
      generalize prodN (redGo xs (redRow x bs).2).2 = s at *
      generalize prodN (redGo xs (redRow x bs).2).1 = t at *
      generalize prodN (redRow x bs).2 = u at *
      calc x * prodN xs * s = x * (prodN xs * s) := by ac_rfl
        _ = t * (x * u) := by rw [h4]; ac_rfl
        _ = (redRow x bs).1 * t * prodN bs := by rw [r4]; ac_rfl
theorem cop_mul {x a b : Nat} (h : Nat.gcd x a = 1) (h' : Nat.gcd x b = 1) : Nat.gcd x (a * b) = 1 := Nat.Coprime.mul_right h h'
theorem cop_prod {x : Nat} {l : List Nat} (h : Cop x l) : Nat.gcd x (prodN l) = 1 := by
  induction l with
  | nil => exact Nat.gcd_one_right x
  | cons y ys ih => rw [prodN]; exact cop_mul (h y (List.mem_cons_self ..)) (ih fun z hz => h z (List.mem_cons_of_mem _ hz))
theorem cop_prods {l m : List Nat} (h : ∀ a ∈ l, Cop a m) : Nat.gcd (prodN l) (prodN m) = 1 := by
  induction l with
  | nil => exact Nat.gcd_one_left _
  | cons y ys ih =>
    rw [prodN, Nat.gcd_comm]
    refine cop_mul ?_ ?_
    · rw [Nat.gcd_comm]; exact cop_prod (h y (List.mem_cons_self ..))
    · rw [Nat.gcd_comm]; exact ih fun z hz => h z (List.mem_cons_of_mem _ hz)
def onesB (l : List Nat) : Bool := l.all (· == 1)
theorem onesB_prod {l : List Nat} (h : Pos l) : onesB l = true ↔ prodN l = 1 := by
  induction l with
  | nil => simp [onesB, prodN]
  | cons y ys ih =>
    have ih := ih fun z hz => h z (List.mem_cons_of_mem _ hz)
    unfold onesB at ih ⊢
    rw [List.all_cons, prodN, Bool.and_eq_true, ih, beq_iff_eq]
    exact ⟨fun ⟨a, b⟩ => by rw [a, b], fun e => ⟨Nat.eq_one_of_dvd_one ⟨_, e.symm⟩, Nat.eq_one_of_dvd_one ⟨_, (Nat.mul_comm _ _).trans e |>.symm⟩⟩⟩
/-- are two lists' products one: told by what is left -/
def eqR (ps qs : List Nat) : Bool := onesB (redGo ps qs).1 && onesB (redGo ps qs).2
theorem eqR_prod {ps qs : List Nat} (hp : Pos ps) (hq : Pos qs) : eqR ps qs = decide (prodN ps = prodN qs) := by
  obtain ⟨h1, h2, h3, h4⟩ := redGo_all ps qs hp hq
  have p1 := prodN_pos hp
  have c := cop_prods h3
  rw [Bool.eq_iff_iff]
  unfold eqR
  rw [Bool.and_eq_true, onesB_prod (h1.pos hp), onesB_prod (h2.pos hq), decide_eq_true_iff]
  constructor
  · rintro ⟨a, b⟩
    rw [a, b] at h4
    omega
  · intro e
    rw [e, Nat.mul_comm] at h4
    have e2 := Nat.eq_of_mul_eq_mul_right (by omega : 0 < prodN qs) h4
    rw [e2, Nat.gcd_self] at c
    exact ⟨c, e2.trans c⟩

/-- the same, the columns first -/
theorem redRow_nil (x : Nat) : redRow x [] = (x, []) := rfl
theorem redGo_nil (as_ : List Nat) : redGo as_ [] = (as_, []) := by
  induction as_ with
  | nil => rfl
  | cons x xs ih => rw [redGo, redRow_nil]; simp only [ih]
theorem redGo_col (as_ : List Nat) : ∀ b bs, redGo as_ (b :: bs) = ((redGo (redRow b as_).2 bs).1, (redRow b as_).1 :: (redGo (redRow b as_).2 bs).2) := by
  induction as_ with
  | nil => intro b bs; rfl
  | cons x xs ih =>
    intro b bs
    have e : Nat.gcd b x = Nat.gcd x b := Nat.gcd_comm b x
    simp only [redGo, redRow, ih, e]
theorem redGo_swap (bs : List Nat) : ∀ as_, redGo as_ bs = ((redGo bs as_).2, (redGo bs as_).1) := by
  induction bs with
  | nil => intro as_; rw [redGo_nil]; rfl
  | cons b bs ih => intro as_; rw [redGo_col, ih]; rfl
end Go.Proofs.YtlpmnhllnfhkdaaDoor
/-
  cancel: wrong, own, Reduce: what they answer.
-/
namespace Go.Proofs.YtlpmnhllnfhkdaaDoor
open Go.RowKit

/-- numbers without signs as numbers -/
def castL (l : List Nat) : List Int := l.map fun n : Nat => (n : Int)
theorem castL_length (l : List Nat) : (castL l).length = l.length := by simp [castL]
theorem castL_get {l : List Nat} {k x : Nat} (h : l[k]? = some x) : (castL l)[k]? = some (x : Int) := by simp [castL, h]
theorem castL_set (l : List Nat) (k x : Nat) : (castL l).set k (x : Int) = castL (l.set k x) := by simp [castL, List.map_set]
def OkL (l : List Nat) : Prop := ∀ x ∈ l, 1 ≤ x ∧ x ≤ 9223372036854775807
theorem OkL.pos {l : List Nat} (h : OkL l) : Pos l := fun x hx => (h x hx).1
theorem OkL.fit {l : List Nat} (h : OkL l) : AllFit (castL l) := by
  intro x hx
  obtain ⟨n, hn, rfl⟩ := List.mem_map.1 hx
  have := h n hn
  unfold fits; omega
theorem OkL.set {l : List Nat} (h : OkL l) (k : Nat) {x : Nat} (h1 : 1 ≤ x) (h2 : x ≤ 9223372036854775807) : OkL (l.set k x) := by
  intro y hy
  rcases List.mem_or_eq_of_mem_set hy with hy | rfl
  · exact h y hy
  · exact ⟨h1, h2⟩

theorem retb {a b : Bool} (h : a = b) : Ending.returned (.bool a) = .returned (.bool b) := by rw [h]
/-- is any of the numbers below 1 -/
def clowB (xs : List Int) : Bool := xs.any fun x => decide (x < 1)
/-- what may not be -/
def cwrongF (ps qs : List Int) : Int := if 1024 < ps.length ∨ 1024 < qs.length then 2 else if (clowB ps || clowB qs) = true then 1 else 0

set_option maxRecDepth 100000 in
theorem clow_any (x : Int) (w : World) : Calls Tryd.prog 72 #[.int .i64 x] w fun e w' => e = .returned (.bool (decide (x < 1))) ∧ w = w' := by
  go_enter Tryd.func72, Tryd.ntmps72
  go_wp2
  all_goals (go_ret; exact ⟨by simp_all, rfl⟩)
set_option maxRecDepth 100000 in
theorem cmore_any (x : Int) (w : World) : Calls Tryd.prog 52 #[.int .i64 x] w fun e w' => e = .returned (.bool (x != 1)) ∧ w = w' := by
  go_enter Tryd.func52, Tryd.ntmps52
  go_wp2
  all_goals (go_ret; exact ⟨by simp_all, rfl⟩)

def IdxPost (b : Bool) (w : World) (e : Ending) (w' : World) : Prop := ∃ r : Int, e = .returned (.int .i64 r) ∧ decide (0 ≤ r) = b ∧ w = w'
theorem any_take_false {xs : List Int} {p : Int → Bool} {k : Nat} (h : ∀ j x, j < k → xs[j]? = some x → p x = false) (hk : k = xs.length) : xs.any p = false := by
  rw [List.any_eq_false]
  intro x hx
  obtain ⟨j, hj, rfl⟩ := List.mem_iff_getElem.1 hx
  rw [h j _ (by omega) (List.getElem?_eq_getElem hj)]
  simp
theorem any_hit {xs : List Int} {p : Int → Bool} {k : Nat} {x : Int} (h : xs[k]? = some x) (hp : p x = true) : xs.any p = true :=
  List.any_eq_true.2 ⟨x, List.mem_of_getElem? h, hp⟩

set_option maxRecDepth 100000 in
set_option maxHeartbeats 400000 in
theorem index_any (g : FuncId) (p : Int → Bool) (xs : List Int) (A : Option Addr) (n c B : Nat) (w : World) (hp : ∀ (x : Int) (w : World), Calls Tryd.prog g #[.int .i64 x] w fun e w' => e = .returned (.bool (p x)) ∧ w = w')
    (eg : ∀ args w, (callFunc g args).run Tryd.prog w = .ok (.enter g args) w) (hn : xs.length = n) (hx : AllFit xs) (hr : Rd w B A (cellsI xs)) (hl : n ≤ maxLen) :
    Calls Tryd.prog 66 #[.slice A n c, .func (.func g) #[] #[]] w (IdxPost (xs.any p) w) := by
  subst hn
  unfold maxLen at hl
  go_enter Tryd.func66, Tryd.ntmps66
  go_wp2
  go_loopg [5, 8] xs.length (fun gg _ s8 wr => ∃ k : Nat, k ≤ xs.length ∧ xs.length - k ≤ gg ∧ s8 = .int .i64 k ∧ wr = w ∧ Hid (∀ j x, j < k → xs[j]? = some x → p x = false))
  case atStart => exact ⟨0, Nat.zero_le _, by omega, rfl, rfl, fun j x hj => absurd hj (Nat.not_lt_zero _)⟩
  case round =>
    obtain ⟨k, hk, hg, rfl, rfl, H⟩ := hrel
    by_cases hlt : k < xs.length
    · obtain ⟨b, off, x, rfl, hb, hxk, hc, hd, hxx⟩ := hr.at_ hx hlt
      have hcall := hp x wr
      have HP := Lib.hid hp
      clear hp hd
      cases hq : p x with
      | true =>
        rw [hq] at hcall
        have HQ := Lib.hid hq
        clear hq
        go_wp2_with fail
        refine hcall.mono ?_
        rintro e w' ⟨rfl, rfl⟩
        go_wp2_with fail
        go_ret
        exact ⟨_, rfl, by rw [any_hit hxx.out HQ.out]; simp, rfl⟩
      | false =>
        rw [hq] at hcall
        have HQ := Lib.hid hq
        clear hq
        go_wp2_with fail
        refine hcall.mono ?_
        rintro e w' ⟨rfl, rfl⟩
        go_wp2_with fail
        go_roundg (xs.length - (k + 1))
        case measure => omega
        case rel =>
          refine ⟨k + 1, by omega, by omega, by go_num, rfl, (show Hid _ from fun j y hj hy => ?_)⟩
          by_cases e : j = k
          · subst e
            rw [hxx.out] at hy
            injection hy with hy
            subst hy
            exact HQ.out
          · exact H.out j y (by omega) hy
    · have hkk : k = xs.length := by omega
      have H2 := any_take_false H.out hkk
      have HH := Lib.hid H2
      clear H2 hp
      go_wp2
      go_ret
      exact ⟨_, rfl, by rw [HH.out]; decide, rfl⟩
set_option maxRecDepth 100000 in
set_option maxHeartbeats 400000 in
theorem contains_any (g : FuncId) (p : Int → Bool) (xs : List Int) (A : Option Addr) (n c B : Nat) (w : World) (hp : ∀ (x : Int) (w : World), Calls Tryd.prog g #[.int .i64 x] w fun e w' => e = .returned (.bool (p x)) ∧ w = w')
    (eg : ∀ args w, (callFunc g args).run Tryd.prog w = .ok (.enter g args) w) (hn : xs.length = n) (hx : AllFit xs) (hr : Rd w B A (cellsI xs)) (hl : n ≤ maxLen) :
    Calls Tryd.prog 53 #[.slice A n c, .func (.func g) #[] #[]] w fun e w' => e = .returned (.bool (xs.any p)) ∧ w = w' := by
  have h := index_any g p xs A n c B w hp eg hn hx hr hl
  clear hp eg hx hr
  go_enter Tryd.func53, Tryd.ntmps53
  go_wp2_with fail
  refine h.mono ?_
  rintro e w' ⟨r, rfl, hr, rfl⟩
  have HR := Lib.hid hr
  clear hr
  go_wp2_with fail
  go_ret
  exact ⟨retb HR.out, rfl⟩
theorem enters_fn {P : Program} {g : FuncId} {fn : Func} {c : Code} (hg : P.funcs[g]? = some fn) (hn : (fn.name == "runtime.NumGoroutine") = false) (hb : fn.body = some c) (args : Array Value) (w : World) : (callFunc g args).run P w = .ok (.enter g args) w := by
  have h1 : fn.name ≠ "runtime.NumGoroutine" := by simpa using hn
  simp [callFunc, hg, h1, hb, mark]
theorem entersLow : ∀ args w, (callFunc 72 args).run Tryd.prog w = .ok (.enter 72 args) w := enters_fn Tryd.func72 (by kernel_rfl) rfl
theorem entersMore : ∀ args w, (callFunc 52 args).run Tryd.prog w = .ok (.enter 52 args) w := enters_fn Tryd.func52 (by kernel_rfl) rfl

set_option maxRecDepth 100000 in
set_option maxHeartbeats 1000000 in
theorem cwrong_any (ps qs : List Int) (A A' : Option Addr) (n n' c c' B B' : Nat) (w : World) (hn : ps.length = n) (hn' : qs.length = n') (hx : AllFit ps) (hx' : AllFit qs) (hr : Rd w B A (cellsI ps)) (hr' : Rd w B' A' (cellsI qs)) (hl : n ≤ maxLen) (hl' : n' ≤ maxLen) :
    Calls Tryd.prog 63 #[.slice A n c, .slice A' n' c'] w fun e w' => e = .returned (.int .i64 (cwrongF ps qs)) ∧ w = w' := by
  have HP := Lib.hid (contains_any 72 (fun x => decide (x < 1)) ps A n c B w clow_any entersLow hn hx hr hl)
  have HQ := Lib.hid (contains_any 72 (fun x => decide (x < 1)) qs A' n' c' B' w clow_any entersLow hn' hx' hr' hl')
  have e1 : (ps.any fun x => decide (x < 1)) = clowB ps := rfl
  have e2 : (qs.any fun x => decide (x < 1)) = clowB qs := rfl
  rw [e1] at HP
  rw [e2] at HQ
  unfold maxLen at hl hl'
  unfold cwrongF
  rw [hn, hn']
  obtain ⟨P, hP⟩ : ∃ P, clowB ps = P := ⟨_, rfl⟩
  obtain ⟨Q, hQ⟩ : ∃ Q, clowB qs = Q := ⟨_, rfl⟩
  rw [hP] at HP ⊢
  rw [hQ] at HQ ⊢
  clear hx hx' hr hr' hn hn' hP hQ e1 e2
  by_cases h1 : 1024 < n
  · have d1 : decide ((n : Int) > 1024) = true := decide_eq_true (by omega)
    go_enter Tryd.func63, Tryd.ntmps63
    go_wp2
    go_ret
    exact ⟨rfl, rfl⟩
  · by_cases h2 : 1024 < n'
    · have d1 : decide ((n : Int) > 1024) = false := decide_eq_false (by omega)
      have d2 : decide ((n' : Int) > 1024) = true := decide_eq_true (by omega)
      go_enter Tryd.func63, Tryd.ntmps63
      go_wp2
      go_ret
      exact ⟨rfl, rfl⟩
    · have d1 : decide ((n : Int) > 1024) = false := decide_eq_false (by omega)
      have d2 : decide ((n' : Int) > 1024) = false := decide_eq_false (by omega)
      rw [if_neg (by omega)]
      go_enter Tryd.func63, Tryd.ntmps63
      go_wp2_with fail
      refine HP.out.mono ?_
      rintro e w' ⟨rfl, rfl⟩
      cases P with
      | true =>
        go_wp2_with fail
        go_ret
        exact ⟨rfl, rfl⟩
      | false =>
        go_wp2_with fail
        refine HQ.out.mono ?_
        rintro e w' ⟨rfl, rfl⟩
        cases Q with
        | true =>
          go_wp2_with fail
          go_ret
          exact ⟨rfl, rfl⟩
        | false =>
          go_wp2_with fail
          go_ret
          exact ⟨rfl, rfl⟩
set_option maxRecDepth 100000 in
set_option maxHeartbeats 1000000 in
theorem own_any (xs : List Int) (A : Option Addr) (n c B : Nat) (w : World) (hn : xs.length = n) (hr : Rd w B A (cellsI xs)) (hl : n * 8 ≤ 140737488351232) (hB : B ≤ w.heap.size) :
    Calls Tryd.prog 64 #[.slice A n c] w fun e w' => e = .returned (.slice (some ⟨w.heap.size, 0, none⟩) n n) ∧ w'.ownsRow w.heap.size 3 1 (.slice (some ⟨w.heap.size, 0, none⟩) n n) n (cellsI xs) ∧ Below w.heap.size w w' := by
  obtain ⟨i, hi, hz0, hz1, hz2⟩ := info_parts info_int
  have hcl := cellsI_length xs
  go_enter Tryd.func64, Tryd.ntmps64
  go_wp2_with (at_make; refine wpList_make_full _ rfl _ _ 26 rfl w.heap.size 3 i (.int .i64 0) 1 Tryd.underlying26 hi hz0 hz1 _ _ _ _ n rfl rfl (by omega) (by omega) (by rw [hz2]; omega) (by unfold maxLen; omega) (Nat.le_refl _) ?_)
  intro w1 hown hg
  have hb1 : Below w.heap.size w w1 := (Below.refl _ _).grown hg (Nat.le_refl _) (fun k hk => by cases hk)
  have hr1 := hr.below hb1 hB
  obtain ⟨hlen, h | ⟨g, cap, cur, hv, hge, hcur, h1, h2, h3, h4⟩⟩ := hown
  · simp at h
  · simp only [Value.slice.injEq, Option.some.injEq, Addr.mk.injEq, and_true, true_and] at hv
    obtain ⟨rfl, rfl⟩ := hv
    have hcl2 : cur.toList.length = n := by simp; omega
    have hcur' : w1.heap[w.heap.size]? = some (.cells cur.toList.toArray 3 (0, 0)) := by simpa using hcur
    have hsp : splice cur.toList 0 (cellsI xs) = cellsI xs := by
      unfold splice
      rw [List.drop_eq_nil_of_le (by rw [hcl, hcl2]; omega)]
      simp
    have HA := Lib.hid (fun (h0 : 0 < (cellsI xs).length) => (show ∃ ad, A = some ad ∧ ∀ j v, (cellsI xs)[j]? = some v → w1.cell? (ad.add j) = some v by
      rcases hr1 with hr | ⟨b, off, ha, _, hc⟩
      · rw [hr] at h0; simp at h0
      · exact ⟨_, ha, fun j v hv => by rw [Addr.add_lit]; exact hc j v hv⟩))
    clear hr hr1 hcur h4 hg
    go_wp2_with (refine wpList_copy_splice rfl (.tmp 7) (.tmp 8) 26 26 rfl 3 Tryd.underlying26 (by kernel_rfl) (some ⟨w.heap.size, 0, none⟩) A n n n c rfl rfl w.heap.size 0 cur.toList 3 hcur' (cellsI xs) (by rw [hcl, hn]; exact (Nat.min_self n).symm) (fun h0 => ⟨rfl, HA.out h0⟩) (by rw [hcl, hcl2]; omega) (cellsI_one xs) w.heap.size w hb1 (Nat.le_refl _) ?_)
    intro w2 H2 hb2
    clear hb1 hcur' hsp
    go_wp2_with fail
    go_ret
    exact ⟨rfl, ⟨by rw [hcl, hn]; omega, .inr ⟨w.heap.size, n, _, rfl, Nat.le_refl _, H2.out, Nat.le_refl _, h2, by simp [hcl, hn], by rw [List.toList_toArray, List.take_of_length_le (by rw [hcl]; omega)]⟩⟩, hb2⟩
end Go.Proofs.YtlpmnhllnfhkdaaDoor
/-
  cancel.Reduce, cancel.Equal: what they answer.
-/
namespace Go.Proofs.YtlpmnhllnfhkdaaDoor
open Go.RowKit

theorem own_mono2 {w : World} {base base' : Nat} {e : TypeId} {size n : Nat} {v : Value} {xs : List Value} (h : w.ownsRow base e size v n xs) (hb : base' ≤ base) : w.ownsRow base' e size v n xs := by
  refine ⟨h.1, ?_⟩
  rcases h.2 with h | ⟨g, cap, cur, h1, h2, h3⟩
  · exact .inl h
  · exact .inr ⟨g, cap, cur, h1, by omega, h3⟩
theorem redRow_step {x0 x b j : Nat} {bs0 bs : List Nat} (H : redRow x0 bs0 = ((redRow x (bs.drop j)).1, bs.take j ++ (redRow x (bs.drop j)).2)) (hb : bs[j]? = some b) :
    redRow x0 bs0 = ((redRow (x / Nat.gcd x b) ((bs.set j (b / Nat.gcd x b)).drop (j + 1))).1, (bs.set j (b / Nat.gcd x b)).take (j + 1) ++ (redRow (x / Nat.gcd x b) ((bs.set j (b / Nat.gcd x b)).drop (j + 1))).2) := by
  obtain ⟨hj, rfl⟩ := List.getElem?_eq_some_iff.1 hb
  have e1 : bs.drop j = bs[j] :: bs.drop (j + 1) := List.drop_eq_getElem_cons hj
  have e2 : (bs.set j (bs[j] / Nat.gcd x bs[j])).drop (j + 1) = bs.drop (j + 1) := by
    rw [List.drop_set, if_pos (by omega)]
  have e3 : (bs.set j (bs[j] / Nat.gcd x bs[j])).take (j + 1) = bs.take j ++ [bs[j] / Nat.gcd x bs[j]] := by
    rw [List.take_succ_eq_append_getElem (by simpa using hj), List.getElem_set_self, List.take_set_of_le (Nat.le_refl _)]
  rw [e2, e3, H, e1]
  simp [redRow]
theorem redRow_one (bs : List Nat) : redRow 1 bs = (1, bs) := by
  induction bs with
  | nil => rfl
  | cons b bs ih => simp only [redRow, Nat.gcd_one_left, Nat.div_one, ih]
theorem redRow_brk {x0 j : Nat} {bs0 bs : List Nat} (H : redRow x0 bs0 = ((redRow 1 (bs.drop j)).1, bs.take j ++ (redRow 1 (bs.drop j)).2)) : redRow x0 bs0 = (1, bs) := by
  rw [H, redRow_one]; simp
theorem redRow_end {x0 x j : Nat} {bs0 bs : List Nat} (H : redRow x0 bs0 = ((redRow x (bs.drop j)).1, bs.take j ++ (redRow x (bs.drop j)).2)) (hj : bs.length ≤ j) : redRow x0 bs0 = (x, bs) := by
  rw [H, List.drop_eq_nil_of_le hj, redRow_nil, List.take_of_length_le hj]; simp
theorem redGo_step {i x x1 : Nat} {ps qs us bs bs1 : List Nat} (H : redGo ps qs = (us.take i ++ (redGo (us.drop i) bs).1, (redGo (us.drop i) bs).2)) (hx : us[i]? = some x) (hr : redRow x bs = (x1, bs1)) :
    redGo ps qs = ((us.set i x1).take (i + 1) ++ (redGo ((us.set i x1).drop (i + 1)) bs1).1, (redGo ((us.set i x1).drop (i + 1)) bs1).2) := by
  obtain ⟨hi, rfl⟩ := List.getElem?_eq_some_iff.1 hx
  have e1 : us.drop i = us[i] :: us.drop (i + 1) := List.drop_eq_getElem_cons hi
  have e2 : (us.set i x1).drop (i + 1) = us.drop (i + 1) := by rw [List.drop_set, if_pos (by omega)]
  have e3 : (us.set i x1).take (i + 1) = us.take i ++ [x1] := by
    rw [List.take_succ_eq_append_getElem (by simpa using hi), List.getElem_set_self, List.take_set_of_le (Nat.le_refl _)]
  rw [e2, e3, H, e1]
  simp [redGo, hr]
theorem redGo_end {i : Nat} {ps qs us bs : List Nat} (H : redGo ps qs = (us.take i ++ (redGo (us.drop i) bs).1, (redGo (us.drop i) bs).2)) (hi : us.length ≤ i) : redGo ps qs = (us, bs) := by
  rw [H, List.drop_eq_nil_of_le hi, List.take_of_length_le hi]; simp [redGo]

theorem gcd_two (x y : Nat) (b : Nat) (w : World) (hx1 : 1 ≤ x) (hx : x ≤ 9223372036854775807) (hy : y ≤ 9223372036854775807) (hr : Rd w (b + 1) (some ⟨b, 0, none⟩) (cellsI [(x : Int), (y : Int)])) (hT : Tab w) :
    Calls Tryd.prog 65 #[.slice (some ⟨b, 0, none⟩) 2 2] w fun e w' => e = .returned (.tuple #[.int .i64 (Nat.gcd x y : Nat), .bool true]) ∧ w = w' := by
  refine (gcd_any [(x : Int), (y : Int)] _ 2 2 (b + 1) w rfl (fun z hz => ?_) hr (by unfold maxLen; simp) hT).mono ?_
  · simp only [List.mem_cons, List.not_mem_nil, or_false] at hz
    unfold fits
    rcases hz with rfl | rfl <;> omega
  · rintro e w' ⟨rfl, rfl⟩
    have e : gcdFrom 0 [(x : Int), (y : Int)] = Nat.gcd x y := by simp [gcdFrom]
    have hg : Nat.gcd x y ≤ x := Nat.gcd_le_left _ hx1
    rw [e]
    exact ⟨tup2 (val_yes (by unfold fits; omega)).symm (b_yes (by unfold fits; omega)).symm, rfl⟩

structure RdSt (w wr : World) (ga gb n n' : Nat) (us bs : List Nat) : Prop where
  oa : wr.ownsRow w.heap.size 3 1 (.slice (some ⟨ga, 0, none⟩) n n) n (cellsI (castL us))
  ob : wr.ownsRow w.heap.size 3 1 (.slice (some ⟨gb, 0, none⟩) n' n') n' (cellsI (castL bs))
  ne : ga ≠ gb
  ga0 : w.heap.size ≤ ga
  gb0 : w.heap.size ≤ gb
  bw : Below w.heap.size w wr
  la : us.length = n
  lb : bs.length = n'
theorem RdSt.alloc {w wr : World} {ga gb n n' : Nat} {us bs : List Nat} (h : RdSt w wr ga gb n n' us bs) (o : Obj) : RdSt w (wr.alloc o) ga gb n n' us bs :=
  ⟨h.oa.alloc o, h.ob.alloc o, h.ne, h.ga0, h.gb0, h.bw.alloc h.bw.size o, h.la, h.lb⟩
theorem RdSt.drawn {w wr : World} {ga gb n n' : Nat} {us bs : List Nat} (h : RdSt w wr ga gb n n' us bs) (d : Nat) : RdSt w (wr.drewN d) ga gb n n' us bs :=
  ⟨h.oa, h.ob, h.ne, h.ga0, h.gb0, Below.drewN h.bw d, h.la, h.lb⟩
theorem RdSt.below {w wr w2 : World} {ga gb n n' : Nat} {us bs : List Nat} (h : RdSt w wr ga gb n n' us bs) (hb : Below wr.heap.size wr w2) : RdSt w w2 ga gb n n' us bs :=
  ⟨own_below h.oa hb, own_below h.ob hb, h.ne, h.ga0, h.gb0, h.bw.trans (hb.mono h.bw.size), h.la, h.lb⟩
theorem RdSt.setA {w wr : World} {ga gb n n' : Nat} {us bs : List Nat} (h : RdSt w wr ga gb n n' us bs) (k x : Nat) : RdSt w (wr.setCell ⟨ga, k, none⟩ (.int .i64 (x : Nat))) ga gb n n' (us.set k x) bs := by
  refine ⟨?_, ?_, h.ne, h.ga0, h.gb0, h.bw.setCell h.ga0 _, by simpa using h.la, h.lb⟩
  · rw [show cellsI (castL (us.set k x)) = (cellsI (castL us)).set k (.int .i64 (x : Nat)) by simp [cellsI, castL, List.map_set]]
    exact (h.oa.stored k (.int .i64 (x : Nat))).1
  · exact ownsRow_setCell_other h.ob (by show some gb ≠ some ga; intro he; exact h.ne (by injection he with he; exact he.symm)) _
theorem RdSt.setB {w wr : World} {ga gb n n' : Nat} {us bs : List Nat} (h : RdSt w wr ga gb n n' us bs) (k x : Nat) : RdSt w (wr.setCell ⟨gb, k, none⟩ (.int .i64 (x : Nat))) ga gb n n' us (bs.set k x) := by
  refine ⟨?_, ?_, h.ne, h.ga0, h.gb0, h.bw.setCell h.gb0 _, h.la, by simpa using h.lb⟩
  · exact ownsRow_setCell_other h.oa (by show some ga ≠ some gb; intro he; exact h.ne (by injection he)) _
  · rw [show cellsI (castL (bs.set k x)) = (cellsI (castL bs)).set k (.int .i64 (x : Nat)) by simp [cellsI, castL, List.map_set]]
    exact (h.ob.stored k (.int .i64 (x : Nat))).1
theorem RdSt.cellA {w wr : World} {ga gb n n' : Nat} {us bs : List Nat} (h : RdSt w wr ga gb n n' us bs) {k x : Nat} (hk : us[k]? = some x) : wr.cell? ⟨ga, k, none⟩ = some (.int .i64 (x : Nat)) := by
  have hl := (List.getElem?_eq_some_iff.1 hk).1
  rw [h.oa.cellAt k (by have := h.la; omega)]
  simp [cellsI, castL, hk]
theorem RdSt.cellB {w wr : World} {ga gb n n' : Nat} {us bs : List Nat} (h : RdSt w wr ga gb n n' us bs) {k x : Nat} (hk : bs[k]? = some x) : wr.cell? ⟨gb, k, none⟩ = some (.int .i64 (x : Nat)) := by
  have hl := (List.getElem?_eq_some_iff.1 hk).1
  rw [h.ob.cellAt k (by have := h.lb; omega)]
  simp [cellsI, castL, hk]
/-- what Reduce answers of lists that may be -/
def RedPost (w : World) (ps qs : List Nat) (e : Ending) (w' : World) : Prop :=
  ∃ ga gb, e = .returned (.tuple #[.slice (some ⟨ga, 0, none⟩) ps.length ps.length, .slice (some ⟨gb, 0, none⟩) qs.length qs.length, .int .i64 0]) ∧ RdSt w w' ga gb ps.length qs.length (redGo ps qs).1 (redGo ps qs).2

structure GcR (W0 : World) (ga gb n n' k j x b g : Nat) (L : Nat → Bool) (V : Nat → Value) (w : World) : Prop where
  p : Below W0.heap.size W0 w
  zs : L 8 = true → ∃ g9, V 48 = .slice (some ⟨g9, 0, none⟩) 2 2 ∧ Rd w (g9 + 1) (some ⟨g9, 0, none⟩) (cellsI [(x : Int), (b : Int)])
  e9 : L 9 = true → V 49 = .tuple #[.int .i64 (g : Nat), .bool true]
  e10 : L 10 = true → V 39 = .tuple #[.int .i64 (g : Nat), .bool true]
  e11 : L 11 = true → V 50 = .int .i64 (g : Nat)
  e12 : L 12 = true → V 51 = .bool true
  e13 : L 13 = true → V 12 = .int .i64 (g : Nat)
  e14 : L 14 = true → V 13 = .bool true
  e0 : L 0 = true → V 40 = .slice (some ⟨ga, 0, none⟩) n n
  e1 : L 1 = true → V 41 = .int .i64 (k : Nat)
  e2 : L 2 = true → V 42 = .pointer (some ⟨ga, k, none⟩)
  e3 : L 3 = true → V 43 = .int .i64 (x : Nat)
  e4 : L 4 = true → V 44 = .slice (some ⟨gb, 0, none⟩) n' n'
  e5 : L 5 = true → V 45 = .int .i64 (j : Nat)
  e6 : L 6 = true → V 46 = .pointer (some ⟨gb, j, none⟩)
  e7 : L 7 = true → V 47 = .int .i64 (b : Nat)
theorem nat_quo (x g : Nat) : (x : Int) / (g : Int) = ((x / g : Nat) : Int) := by rw [Int.natCast_ediv]

set_option maxRecDepth 100000 in
set_option maxHeartbeats 4000000 in
theorem reduce_ok (ps qs : List Nat) (A A' : Option Addr) (c c' B B' : Nat) (w : World) (hp : OkL ps) (hq : OkL qs) (hn : ps.length ≤ 1024) (hn' : qs.length ≤ 1024) (hr : Rd w B A (cellsI (castL ps))) (hr' : Rd w B' A' (cellsI (castL qs)))
    (hB : B ≤ w.heap.size) (hB' : B' ≤ w.heap.size) (hT : Tab w) :
    Calls Tryd.prog 51 #[.slice A ps.length c, .slice A' qs.length c'] w (RedPost w ps qs) := by
  have hlp : clowB (castL ps) = false := by
    unfold clowB; rw [List.any_eq_false]; intro x hx
    obtain ⟨n, hn, rfl⟩ := List.mem_map.1 hx
    have := (hp n hn).1
    simp; omega
  have hlq : clowB (castL qs) = false := by
    unfold clowB; rw [List.any_eq_false]; intro x hx
    obtain ⟨n, hn, rfl⟩ := List.mem_map.1 hx
    have := (hq n hn).1
    simp; omega
  have hw : cwrongF (castL ps) (castL qs) = 0 := by
    unfold cwrongF
    rw [castL_length, castL_length, if_neg (by omega), hlp, hlq]; rfl
  have HW := Lib.hid (cwrong_any (castL ps) (castL qs) A A' ps.length qs.length c c' B B' w (castL_length ps) (castL_length qs) hp.fit hq.fit hr hr' (by unfold maxLen; omega) (by unfold maxLen; omega))
  rw [hw] at HW
  have HA := Lib.hid (own_any (castL ps) A ps.length c B w (castL_length ps) hr (by omega) hB)
  have HB := Lib.hid fun w1 (hb : Below w.heap.size w w1) => own_any (castL qs) A' qs.length c' B' w1 (castL_length qs) (hr'.below hb hB') (by omega) (Nat.le_trans hB' hb.size)
  have HT := Lib.hid hT
  have HP := Lib.hid hp
  have HQ := Lib.hid hq
  have tabOf : ∀ w1, Below w.heap.size w w1 → Tab w1 := fun w1 hb => hT.below hb hT.pos
  have TO := Lib.hid tabOf
  clear hlp hlq hw hr hr' hB hB' hT tabOf hp hq
  obtain ⟨n, hpn⟩ : ∃ n, ps.length = n := ⟨_, rfl⟩
  obtain ⟨n', hqn⟩ : ∃ n, qs.length = n := ⟨_, rfl⟩
  unfold RedPost
  rw [hpn] at hn HW HA ⊢
  rw [hqn] at hn' HW HB ⊢
  have HPn := Lib.hid hpn
  have HQn := Lib.hid hqn
  clear hpn hqn
  go_enter Tryd.func51, Tryd.ntmps51
  go_wp2_with fail
  refine HW.out.mono ?_
  rintro e w' ⟨rfl, rfl⟩
  go_wp2_with fail
  refine HA.out.mono ?_
  rintro e w1 ⟨rfl, o1, b1⟩
  go_wp2_with fail
  refine (HB.out w1 b1).mono ?_
  rintro e w2 ⟨rfl, o2, b2⟩
  have hlt1 : w.heap.size < w1.heap.size := (o1.lt _ rfl).2
  obtain ⟨ga, hga⟩ : ∃ g, w.heap.size = g := ⟨_, rfl⟩
  obtain ⟨gb, hgb⟩ : ∃ g, w1.heap.size = g := ⟨_, rfl⟩
  have S0 : RdSt w w2 ga gb n n' ps qs := ⟨by rw [← hga]; exact own_below o1 b2, by rw [← hgb]; exact own_mono2 o2 (by omega), by omega, by omega, by omega, b1.trans (b2.mono (by omega)), HPn.out, HQn.out⟩
  rw [hga] at hlt1 ⊢
  rw [hgb] at hlt1 ⊢
  clear hga hgb o1 b1 o2 b2 hlt1 HPn HQn HA HB HW HT
  go_wp2_with fail
  go_loopw [26] (fun i wr => ∃ (k : Nat) (us bs : List Nat), k ≤ n ∧ i = .int .i64 k ∧ RdSt w wr ga gb n n' us bs ∧ Hid (OkL us) ∧ Hid (OkL bs) ∧ Hid (redGo ps qs = (us.take k ++ (redGo (us.drop k) bs).1, (redGo (us.drop k) bs).2))) (fun i _ => n - (intOf i).toNat)
  case atStart => exact ⟨0, ps, qs, Nat.zero_le _, rfl, S0, HP, HQ, by unfold Hid; simp⟩
  case round =>
    clear S0 HP HQ
    obtain ⟨k, us, bs, hk, rfl, S, HU, HB, HG⟩ := hrel
    by_cases hlt : k < n
    · obtain ⟨x0, hx0⟩ : ∃ x, us[k]? = some x := ⟨_, List.getElem?_eq_getElem (by rw [S.la]; exact hlt)⟩
      obtain ⟨x01, x02⟩ := HU.out x0 (List.mem_of_getElem? hx0)
      have HX0 := Lib.hid hx0
      have HUl := Lib.hid S.la
      clear hx0
      go_wp2_with fail
      obtain ⟨wo, hwo⟩ : ∃ wo : World, wo = wr := ⟨_, rfl⟩
      have S0 : RdSt w wr ga gb n n' (us.set k x0) bs := by
        rw [show us.set k x0 = us from by
          obtain ⟨h1, h2⟩ := List.getElem?_eq_some_iff.1 HX0.out
          rw [← h2, List.set_getElem_self]]
        exact S
      have HGU := Lib.hid (show ∀ x1 bs1, redRow x0 bs = (x1, bs1) → redGo ps qs = ((us.set k x1).take (k + 1) ++ (redGo ((us.set k x1).drop (k + 1)) bs1).1, (redGo ((us.set k x1).drop (k + 1)) bs1).2) from fun x1 bs1 h => redGo_step HG.out HX0.out h)
      clear S HG
      go_loopg [31] n' (fun gg s31 wx => ∃ (j x : Nat) (cs : List Nat), j ≤ n' ∧ n' - j ≤ gg ∧ s31 = .int .i64 j ∧ RdSt w wx ga gb n n' (us.set k x) cs ∧ 1 ≤ x ∧ x ≤ 9223372036854775807 ∧ Hid (OkL cs) ∧ Hid (redRow x0 bs = ((redRow x (cs.drop j)).1, cs.take j ++ (redRow x (cs.drop j)).2)))
      case atStart => exact ⟨0, x0, bs, Nat.zero_le _, by omega, rfl, S0, x01, x02, HB, by unfold Hid; simp⟩
      case round =>
        clear S0 hwo
        obtain ⟨j, x, cs, hj, hg, rfl, S, hx1, hx2, HC, HR⟩ := hrel
        have hul : (us.set k x)[k]? = some x := by rw [List.getElem?_set_self (by rw [HUl.out]; exact hlt)]
        have fa := S.cellA hul
        have za := S.oa.frozenAt k
        have HUx : Hid (OkL (us.set k x)) := Lib.hid (HU.out.set k hx1 hx2)
        clear hul
        by_cases hjl : j < n'
        · by_cases hx : x = 1
          · subst hx
            have HF := Lib.hid (HGU.out _ _ (redRow_brk HR.out))
            go_wp2_with fail
            go_roundw
            case rel => exact ⟨k + 1, _, cs, by omega, by go_num, S, HUx, HC, HF⟩
            case measure => simp [intOf]; omega
          · have hxe : ((x : Int) == 1) = false := by simp; omega
            obtain ⟨b, hb⟩ : ∃ b, cs[j]? = some b := ⟨_, List.getElem?_eq_getElem (by rw [S.lb]; exact hjl)⟩
            obtain ⟨hb1, hb2⟩ := HC.out b (List.mem_of_getElem? hb)
            have fb := S.cellB hb
            have zb := S.ob.frozenAt j
            have hba := S.bw
            have hgd : Nat.gcd x b ≤ x := Nat.gcd_le_left _ hx1
            have hg1 : 1 ≤ Nat.gcd x b := Nat.gcd_pos_of_pos_left _ hx1
            have q1 : 1 ≤ x / Nat.gcd x b := Nat.div_pos hgd hg1
            have q2 : x / Nat.gcd x b ≤ x := Nat.div_le_self _ _
            have q3 : 1 ≤ b / Nat.gcd x b := Nat.div_pos (Nat.gcd_le_right _ hb1) hg1
            have q4 : b / Nat.gcd x b ≤ b := Nat.div_le_self _ _
            have HR2 := Lib.hid (redRow_step HR.out hb)
            have HC2 := Lib.hid (HC.out.set j q3 (by omega))
            have e1 := nat_quo x (Nat.gcd x b)
            have e2 := nat_quo b (Nat.gcd x b)
            obtain ⟨g, hgg⟩ : ∃ g, Nat.gcd x b = g := ⟨_, rfl⟩
            have HGD := Lib.hid fun (bk : Nat) (w : World) (hr : Rd w (bk + 1) (some ⟨bk, 0, none⟩) (cellsI [(x : Int), (b : Int)])) (hT : Tab w) => gcd_two x b bk w hx1 hx2 hb2 hr hT
            rw [hgg] at hgd hg1 q1 q2 q3 q4 HR2 HC2 e1 e2 HGD
            obtain ⟨x', hx'⟩ : ∃ x', x / g = x' := ⟨_, rfl⟩
            obtain ⟨b', hb'⟩ : ∃ b', b / g = b' := ⟨_, rfl⟩
            rw [hx'] at q1 q2 HR2 e1
            rw [hb'] at q3 q4 HC2 HR2 e2
            have hne1 := S.ne
            have hne2 : gb ≠ ga := fun h => hne1 h.symm
            have HE1 := Lib.hid e1
            have HE2 := Lib.hid e2
            have HUl2 := Lib.hid (show (us.set k x).set k x' = us.set k x' by rw [List.set_set])
            have HBJ := Lib.hid hb
            clear hgg hx' hb' hb e1 e2 HR
            go_wp2_with fail
            have i1 : (0 : Int) ≤ (k : Int) := by omega
            have i2 : (k : Int) < (n : Int) := by omega
            have i3 : (0 : Int) ≤ (j : Int) := by omega
            have i4 : (j : Int) < (n' : Int) := by omega
            have hga : ga < wr.heap.size := (S.oa.lt _ rfl).2
            have hgb : gb < wr.heap.size := (S.ob.lt _ rfl).2
            have FA := Lib.hid fa
            have FB := Lib.hid fb
            have HB0 := Lib.hid S.bw
            clear fa fb za zb
            have hI0 : ∀ V, GcR wr ga gb n n' k j x b g (fun _ => false) V wr.drew := fun V => by
              have h0 : Below wr.heap.size wr wr.drew := Drawn.below _ ((Drawn.refl wr).drewN 1)
              constructor
              all_goals first
                | exact h0
                | (intro h; cases h)
            refine wp_region_put3 [12, 13, 39, 40, 41, 42, 43, 44, 45, 46, 47, 48, 49, 50, 51] (GcR wr ga gb n n' k j x b g) (by kernel_rfl) (by kernel_rfl) ?_ ?_ ?_
            · exact hI0 _
            · intro i o ho L V w1 hi hL hno h K hK
              rcases i with _ | _ | _ | _ | _ | _ | _ | _ | _ | _ | _ | _ | _ | _ | _ | i
              · replace ho := Option.some.inj ho
                subst ho
                simp only [putAll, List.foldl_cons, List.foldl_nil, List.setIfInBounds_toArray, List.set_cons_zero, List.set_cons_succ]
                clear hL hno
                go_simp
                refine hK (updV V 40 (.slice (some ⟨ga, 0, none⟩) n n)) _ _ (by simp [putAll, updV]) ?_
                exact { h with e0 := fun _ => rfl }
              · replace ho := Option.some.inj ho
                subst ho
                simp only [putAll, List.foldl_cons, List.foldl_nil, List.setIfInBounds_toArray, List.set_cons_zero, List.set_cons_succ]
                clear hL hno
                go_simp
                refine hK (updV V 41 (.int .i64 (k : Nat))) _ _ (by simp [putAll, updV]) ?_
                exact { h with e1 := fun _ => rfl }
              · replace ho := Option.some.inj ho
                subst ho
                simp only [putAll, List.foldl_cons, List.foldl_nil, List.setIfInBounds_toArray, List.set_cons_zero, List.set_cons_succ]
                have e0 : V 40 = _ := h.e0 (hL ⟨0, .data⟩ (by simp) rfl)
                have e1 : V 41 = _ := h.e1 (hL ⟨1, .data⟩ (by simp) rfl)
                clear hL hno
                go_simp
                refine hK (updV V 42 (.pointer (some ⟨ga, k, none⟩))) _ _ (by simp [putAll, updV, e0, e1]) ?_
                exact { h with e2 := fun _ => rfl }
              · replace ho := Option.some.inj ho
                subst ho
                simp only [putAll, List.foldl_cons, List.foldl_nil, List.setIfInBounds_toArray, List.set_cons_zero, List.set_cons_succ]
                have e2 : V 42 = _ := h.e2 (hL ⟨2, .data⟩ (by simp) rfl)
                have ct := (h.p.cell (p := ⟨ga, k, none⟩) hga).trans FA.out
                clear hL hno
                go_simp
                refine hK (updV V 43 (.int .i64 (x : Nat))) _ _ (by simp [putAll, updV, e2]) ?_
                exact { h with e3 := fun _ => rfl }
              · replace ho := Option.some.inj ho
                subst ho
                simp only [putAll, List.foldl_cons, List.foldl_nil, List.setIfInBounds_toArray, List.set_cons_zero, List.set_cons_succ]
                clear hL hno
                go_simp
                refine hK (updV V 44 (.slice (some ⟨gb, 0, none⟩) n' n')) _ _ (by simp [putAll, updV]) ?_
                exact { h with e4 := fun _ => rfl }
              · replace ho := Option.some.inj ho
                subst ho
                simp only [putAll, List.foldl_cons, List.foldl_nil, List.setIfInBounds_toArray, List.set_cons_zero, List.set_cons_succ]
                clear hL hno
                go_simp
                refine hK (updV V 45 (.int .i64 (j : Nat))) _ _ (by simp [putAll, updV]) ?_
                exact { h with e5 := fun _ => rfl }
              · replace ho := Option.some.inj ho
                subst ho
                simp only [putAll, List.foldl_cons, List.foldl_nil, List.setIfInBounds_toArray, List.set_cons_zero, List.set_cons_succ]
                have e4 : V 44 = _ := h.e4 (hL ⟨4, .data⟩ (by simp) rfl)
                have e5 : V 45 = _ := h.e5 (hL ⟨5, .data⟩ (by simp) rfl)
                clear hL hno
                go_simp
                refine hK (updV V 46 (.pointer (some ⟨gb, j, none⟩))) _ _ (by simp [putAll, updV, e4, e5]) ?_
                exact { h with e6 := fun _ => rfl }
              · replace ho := Option.some.inj ho
                subst ho
                simp only [putAll, List.foldl_cons, List.foldl_nil, List.setIfInBounds_toArray, List.set_cons_zero, List.set_cons_succ]
                have e6 : V 46 = _ := h.e6 (hL ⟨6, .data⟩ (by simp) rfl)
                have ct := (h.p.cell (p := ⟨gb, j, none⟩) hgb).trans FB.out
                clear hL hno
                go_simp
                refine hK (updV V 47 (.int .i64 (b : Nat))) _ _ (by simp [putAll, updV, e6]) ?_
                exact { h with e7 := fun _ => rfl }
              · replace ho := Option.some.inj ho
                subst ho
                have e3 : V 43 = _ := h.e3 (hL ⟨3, .data⟩ (by simp) rfl)
                have e7 : V 47 = _ := h.e7 (hL ⟨7, .data⟩ (by simp) rfl)
                have l9 : L 9 = false := hno 9 (by kernel_rfl)
                clear hL hno
                simp only [putAll, List.foldl_cons, List.foldl_nil, List.setIfInBounds_toArray, List.set_cons_zero, List.set_cons_succ]
                have hb := (Below.refl w1.heap.size w1).alloc (Nat.le_refl _) (.cells #[.int .i64 (x : Nat), .int .i64 (b : Nat)] 3)
                have hnew := rd_alloc w1 _ rfl 3 (cellsI [(x : Int), (b : Int)])
                go_simp
                refine hK (updV V 48 (.slice (some ⟨w1.heap.size, 0, none⟩) 2 2)) _ _ (by simp [putAll, updV, e3, e7]) ?_
                exact { h with
                  p := h.p.trans (hb.mono h.p.size)
                  zs := fun _ => ⟨_, rfl, hnew⟩
                  e9 := fun hn => (by cases (hn.symm.trans l9)) }
              · replace ho := Option.some.inj ho
                subst ho
                have t8 : L 8 = true := hL ⟨8, .data⟩ (by simp) rfl
                clear hL hno
                simp only [putAll, List.foldl_cons, List.foldl_nil, List.setIfInBounds_toArray, List.set_cons_zero, List.set_cons_succ]
                refine Exists.elim (h.zs t8) fun g9 hq => ?_
                have q1 := hq.1
                have q2 := hq.2
                have q3 := TO.out w1 (HB0.out.trans (h.p.mono HB0.out.size))
                clear hq
                go_simp
                refine (HGD.out g9 w1 q2 q3).mono ?_
                rintro e w3 ⟨rfl, rfl⟩
                refine hK (updV V 49 (.tuple #[.int .i64 (g : Nat), .bool true])) _ _ (by simp [putAll, updV, q1]) ?_
                exact { h with e9 := fun _ => rfl }
              · replace ho := Option.some.inj ho
                subst ho
                have e9 : V 49 = _ := h.e9 (hL ⟨9, .data⟩ (by simp) rfl)
                clear hL hno
                simp only [putAll, List.foldl_cons, List.foldl_nil, List.setIfInBounds_toArray, List.set_cons_zero, List.set_cons_succ]
                go_simp
                refine hK (updV V 39 (.tuple #[.int .i64 (g : Nat), .bool true])) _ _ (by simp [putAll, updV, e9]) ?_
                exact { h with e10 := fun _ => rfl }
              · replace ho := Option.some.inj ho
                subst ho
                have e10 : V 39 = _ := h.e10 (hL ⟨10, .data⟩ (by simp) rfl)
                clear hL hno
                simp only [putAll, List.foldl_cons, List.foldl_nil, List.setIfInBounds_toArray, List.set_cons_zero, List.set_cons_succ]
                go_simp
                refine hK (updV V 50 (.int .i64 (g : Nat))) _ _ (by simp [putAll, updV, e10]) ?_
                exact { h with e11 := fun _ => rfl }
              · replace ho := Option.some.inj ho
                subst ho
                have e10 : V 39 = _ := h.e10 (hL ⟨10, .data⟩ (by simp) rfl)
                clear hL hno
                simp only [putAll, List.foldl_cons, List.foldl_nil, List.setIfInBounds_toArray, List.set_cons_zero, List.set_cons_succ]
                go_simp
                refine hK (updV V 51 (.bool true)) _ _ (by simp [putAll, updV, e10]) ?_
                exact { h with e12 := fun _ => rfl }
              · replace ho := Option.some.inj ho
                subst ho
                have e11 : V 50 = _ := h.e11 (hL ⟨11, .data⟩ (by simp) rfl)
                clear hL hno
                simp only [putAll, List.foldl_cons, List.foldl_nil, List.setIfInBounds_toArray, List.set_cons_zero, List.set_cons_succ]
                go_simp
                refine hK (updV V 12 (.int .i64 (g : Nat))) _ _ (by simp [putAll, updV, e11]) ?_
                exact { h with e13 := fun _ => rfl }
              · replace ho := Option.some.inj ho
                subst ho
                have e12 : V 51 = _ := h.e12 (hL ⟨12, .data⟩ (by simp) rfl)
                clear hL hno
                simp only [putAll, List.foldl_cons, List.foldl_nil, List.setIfInBounds_toArray, List.set_cons_zero, List.set_cons_succ]
                go_simp
                refine hK (updV V 13 (.bool true)) _ _ (by simp [putAll, updV, e12]) ?_
                exact { h with e14 := fun _ => rfl }
              · simp at ho
            · clear hI0
              intro L V w5 hL h
              have t13 : L 13 = true := hL 13 (by simp)
              have t14 : L 14 = true := hL 14 (by simp)
              have e13 := h.e13 t13
              have e14 := h.e14 t14
              have bp := h.p
              simp only [putAll, List.foldl_cons, List.foldl_nil, List.setIfInBounds_toArray, List.set_cons_zero, List.set_cons_succ, e13, e14]
              have S5 := S.below bp
              clear h hL t13 t14 e13 e14 bp S FA FB
              have hul : (us.set k x)[k]? = some x := by rw [List.getElem?_set_self (by rw [HUl.out]; exact hlt)]
              have fa := S5.cellA hul
              have za := S5.oa.frozenAt k
              have fb := S5.cellB HBJ.out
              have zb := S5.ob.frozenAt j
              have S6 := S5.setA k x'
              rw [HUl2.out] at S6
              have S7 := S6.setB j b'
              have HE1 := HE1.out
              have HE2 := HE2.out
              clear S5 S6 hul
              go_wp2_with fail
              go_roundg (n' - (j + 1))
              case measure => omega
              case rel => exact ⟨j + 1, x', _, by omega, by omega, by go_num, S7, q1, by omega, HC2, HR2⟩
        · have HF := Lib.hid (HGU.out _ _ (redRow_end HR.out (by rw [S.lb]; omega)))
          go_wp2_with fail
          go_roundw
          case rel => exact ⟨k + 1, _, cs, by omega, by go_num, S, HUx, HC, HF⟩
          case measure => simp [intOf]; omega
    · have HF := Lib.hid (redGo_end HG.out (by rw [S.la]; omega))
      go_wp2_with fail
      go_ret3
      exact ⟨ga, gb, rfl, by rw [HF.out]; exact S⟩
end Go.Proofs.YtlpmnhllnfhkdaaDoor
/-
  cancel.Equal: what it answers of any two lists.
-/
namespace Go.Proofs.YtlpmnhllnfhkdaaDoor
open Go.RowKit

def natL (l : List Int) : List Nat := l.map Int.toNat
theorem natL_length (l : List Int) : (natL l).length = l.length := by simp [natL]
theorem clowB_ok {l : List Int} (h : clowB l = false) : ∀ x ∈ l, 1 ≤ x := by
  intro x hx
  unfold clowB at h
  rw [List.any_eq_false] at h
  have := h x hx
  simp at this
  omega
theorem natL_cast {l : List Int} (h : clowB l = false) : castL (natL l) = l := by
  have h1 := clowB_ok h
  unfold castL natL
  rw [List.map_map]
  conv => rhs; rw [← List.map_id l]
  refine List.map_congr_left fun x hx => ?_
  have := h1 x hx
  simp; omega
theorem natL_ok {l : List Int} (h : clowB l = false) (hx : AllFit l) : OkL (natL l) := by
  intro n hn
  obtain ⟨x, hx1, rfl⟩ := List.mem_map.1 hn
  have h1 := clowB_ok h x hx1
  have h2 := hx x hx1
  unfold fits at h2
  omega
theorem natL_castL (l : List Nat) : natL (castL l) = l := by
  unfold castL natL
  rw [List.map_map]
  conv => rhs; rw [← List.map_id l]
  refine List.map_congr_left fun x hx => ?_
  simp
theorem clowB_castL {l : List Nat} (h : OkL l) : clowB (castL l) = false := by
  unfold clowB; rw [List.any_eq_false]; intro x hx
  obtain ⟨n, hn, rfl⟩ := List.mem_map.1 hx
  have := (h n hn).1
  simp; omega
theorem cwrongF_ok {ps qs : List Int} (h : cwrongF ps qs = 0) : ps.length ≤ 1024 ∧ qs.length ≤ 1024 ∧ clowB ps = false ∧ clowB qs = false := by
  unfold cwrongF at h
  split at h
  · cases h
  · split at h
    · cases h
    · rename_i h1 h2
      rw [Bool.or_eq_true, not_or] at h2
      exact ⟨by omega, by omega, by simpa using h2.1, by simpa using h2.2⟩
theorem cwrongF_vals (ps qs : List Int) : cwrongF ps qs = 0 ∨ cwrongF ps qs = 1 ∨ cwrongF ps qs = 2 := by
  unfold cwrongF
  split
  · exact .inr (.inr rfl)
  · split
    · exact .inr (.inl rfl)
    · exact .inl rfl

set_option maxRecDepth 100000 in
set_option maxHeartbeats 1000000 in
theorem reduce_bad (ps qs : List Int) (A A' : Option Addr) (n n' c c' B B' : Nat) (w : World) (hn : ps.length = n) (hn' : qs.length = n') (hx : AllFit ps) (hx' : AllFit qs) (hr : Rd w B A (cellsI ps)) (hr' : Rd w B' A' (cellsI qs)) (hl : n ≤ maxLen) (hl' : n' ≤ maxLen) (hw : cwrongF ps qs ≠ 0) :
    Calls Tryd.prog 51 #[.slice A n c, .slice A' n' c'] w fun e w' => e = .returned (.tuple #[.slice none 0 0, .slice none 0 0, .int .i64 (cwrongF ps qs)]) ∧ w = w' := by
  have HW := Lib.hid (cwrong_any ps qs A A' n n' c c' B B' w hn hn' hx hx' hr hr' hl hl')
  obtain ⟨e, he⟩ : ∃ e, cwrongF ps qs = e := ⟨_, rfl⟩
  rw [he] at HW hw ⊢
  have he0 : (e != 0) = true := by simpa using hw
  clear hx hx' hr hr' hl hl' hn hn' he hw
  go_enter Tryd.func51, Tryd.ntmps51
  go_wp2_with fail
  refine HW.out.mono ?_
  rintro e w' ⟨rfl, rfl⟩
  go_wp2_with fail
  go_ret3
  exact ⟨rfl, rfl⟩
theorem any_more (l : List Nat) : ((castL l).any fun x => x != 1) = !onesB l := by
  unfold castL onesB
  induction l with
  | nil => rfl
  | cons x xs ih =>
    rw [List.map_cons, List.any_cons, List.all_cons, ih, Bool.not_and]
    congr 1
    by_cases h : x = 1
    · subst h; rfl
    · have h1 : ((x : Int) != 1) = true := by simp; omega
      have h2 : (x == 1) = false := by simpa using h
      rw [h1, h2]; rfl
set_option maxRecDepth 100000 in
set_option maxHeartbeats 1000000 in
theorem equal_ok (ps qs : List Nat) (A A' : Option Addr) (c c' B B' : Nat) (w : World) (hp : OkL ps) (hq : OkL qs) (hn : ps.length ≤ 1024) (hn' : qs.length ≤ 1024) (hr : Rd w B A (cellsI (castL ps))) (hr' : Rd w B' A' (cellsI (castL qs)))
    (hB : B ≤ w.heap.size) (hB' : B' ≤ w.heap.size) (hT : Tab w) :
    Calls Tryd.prog 41 #[.slice A ps.length c, .slice A' qs.length c'] w fun e w' => e = .returned (.tuple #[.bool (decide (prodN ps = prodN qs)), .int .i64 0]) ∧ Below w.heap.size w w' := by
  have HR := Lib.hid (reduce_ok ps qs A A' c c' B B' w hp hq hn hn' hr hr' hB hB' hT)
  rw [← eqR_prod hp.pos hq.pos]
  obtain ⟨d1, d2, -, -⟩ := redGo_all ps qs hp.pos hq.pos
  have f1 : AllFit (castL (redGo ps qs).1) := by
    intro x hx
    obtain ⟨n, hn, rfl⟩ := List.mem_map.1 hx
    obtain ⟨k, hk, rfl⟩ := List.mem_iff_getElem.1 hn
    have := (hp _ (List.getElem_mem (by rw [← d1.length]; exact hk))).2
    have := Nat.le_of_dvd (hp _ (List.getElem_mem (by rw [← d1.length]; exact hk))).1 (d1.get k _ _ (List.getElem?_eq_getElem hk) (List.getElem?_eq_getElem (by rw [← d1.length]; exact hk)))
    unfold fits; omega
  have f2 : AllFit (castL (redGo ps qs).2) := by
    intro x hx
    obtain ⟨n, hn, rfl⟩ := List.mem_map.1 hx
    obtain ⟨k, hk, rfl⟩ := List.mem_iff_getElem.1 hn
    have := (hq _ (List.getElem_mem (by rw [← d2.length]; exact hk))).2
    have := Nat.le_of_dvd (hq _ (List.getElem_mem (by rw [← d2.length]; exact hk))).1 (d2.get k _ _ (List.getElem?_eq_getElem hk) (List.getElem?_eq_getElem (by rw [← d2.length]; exact hk)))
    unfold fits; omega
  unfold eqR
  have m1 := any_more (redGo ps qs).1
  have m2 := any_more (redGo ps qs).2
  unfold RedPost at HR
  obtain ⟨us, hus⟩ : ∃ l, (redGo ps qs).1 = l := ⟨_, rfl⟩
  obtain ⟨vs, hvs⟩ : ∃ l, (redGo ps qs).2 = l := ⟨_, rfl⟩
  rw [hus] at HR f1 m1 ⊢
  rw [hvs] at HR f2 m2 ⊢
  obtain ⟨u, hu⟩ : ∃ u, onesB us = u := ⟨_, rfl⟩
  obtain ⟨v, hv⟩ : ∃ v, onesB vs = v := ⟨_, rfl⟩
  rw [hu] at m1 ⊢
  rw [hv] at m2 ⊢
  obtain ⟨n, hpn⟩ : ∃ n, ps.length = n := ⟨_, rfl⟩
  obtain ⟨n', hqn⟩ : ∃ n, qs.length = n := ⟨_, rfl⟩
  rw [hpn] at hn HR ⊢
  rw [hqn] at hn' HR ⊢
  clear hu hv d1 d2 hus hvs hr hr' hB hB' hT hp hq hpn hqn
  have M1 := Lib.hid m1
  have M2 := Lib.hid m2
  clear m1 m2
  go_enter Tryd.func41, Tryd.ntmps41
  go_wp2_with fail
  refine HR.out.mono ?_
  rintro e w1 ⟨ga, gb, rfl, S⟩
  have hb := S.bw
  have C1 := Lib.hid (contains_any 52 (fun x => x != 1) (castL us) _ n n _ w1 cmore_any entersMore ((castL_length us).trans S.la) f1 (rd_of_own S.oa) (by unfold maxLen; omega))
  have C2 := Lib.hid (contains_any 52 (fun x => x != 1) (castL vs) _ n' n' _ w1 cmore_any entersMore ((castL_length vs).trans S.lb) f2 (rd_of_own S.ob) (by unfold maxLen; omega))
  rw [M1.out] at C1
  rw [M2.out] at C2
  clear S f1 f2 M1 M2
  go_wp2_with fail
  refine C1.out.mono ?_
  rintro e w2 ⟨rfl, rfl⟩
  cases u with
  | false =>
    go_wp2_with fail
    go_ret2
    exact ⟨rfl, hb⟩
  | true =>
    go_wp2_with fail
    refine C2.out.mono ?_
    rintro e w2 ⟨rfl, rfl⟩
    go_wp2_with fail
    go_ret2
    exact ⟨by simp, hb⟩
set_option maxRecDepth 100000 in
set_option maxHeartbeats 1000000 in
theorem equal_bad (ps qs : List Int) (A A' : Option Addr) (n n' c c' B B' : Nat) (w : World) (hn : ps.length = n) (hn' : qs.length = n') (hx : AllFit ps) (hx' : AllFit qs) (hr : Rd w B A (cellsI ps)) (hr' : Rd w B' A' (cellsI qs)) (hl : n ≤ maxLen) (hl' : n' ≤ maxLen) (hw : cwrongF ps qs ≠ 0) :
    Calls Tryd.prog 41 #[.slice A n c, .slice A' n' c'] w fun e w' => e = .returned (.tuple #[.bool false, .int .i64 (cwrongF ps qs)]) ∧ w = w' := by
  have HR := Lib.hid (reduce_bad ps qs A A' n n' c c' B B' w hn hn' hx hx' hr hr' hl hl' hw)
  obtain ⟨e, he⟩ : ∃ e, cwrongF ps qs = e := ⟨_, rfl⟩
  rw [he] at HR hw ⊢
  have he0 : (e == 0) = false := by simpa using hw
  clear hx hx' hr hr' hl hl' hn hn' he hw
  go_enter Tryd.func41, Tryd.ntmps41
  go_wp2_with fail
  refine HR.out.mono ?_
  rintro e w' ⟨rfl, rfl⟩
  go_wp2_with fail
  go_ret2
  exact ⟨rfl, rfl⟩
/-- are two lists' products one, and whether the lists may be -/
def equalF (ps qs : List Int) : Bool := decide (cwrongF ps qs = 0) && decide (prodN (natL ps) = prodN (natL qs))
theorem equal_any (ps qs : List Int) (A A' : Option Addr) (n n' c c' B B' : Nat) (w : World) (hn : ps.length = n) (hn' : qs.length = n') (hx : AllFit ps) (hx' : AllFit qs) (hr : Rd w B A (cellsI ps)) (hr' : Rd w B' A' (cellsI qs)) (hl : n ≤ maxLen) (hl' : n' ≤ maxLen)
    (hB : B ≤ w.heap.size) (hB' : B' ≤ w.heap.size) (hT : Tab w) :
    Calls Tryd.prog 41 #[.slice A n c, .slice A' n' c'] w fun e w' => e = .returned (.tuple #[.bool (equalF ps qs), .int .i64 (cwrongF ps qs)]) ∧ Below w.heap.size w w' := by
  by_cases hw : cwrongF ps qs = 0
  · obtain ⟨h1, h2, h3, h4⟩ := cwrongF_ok hw
    have e1 := natL_cast h3
    have e2 := natL_cast h4
    have := equal_ok (natL ps) (natL qs) A A' c c' B B' w (natL_ok h3 hx) (natL_ok h4 hx') (by rw [natL_length]; exact h1) (by rw [natL_length]; exact h2) (by rw [e1]; exact hr) (by rw [e2]; exact hr') hB hB' hT
    rw [natL_length, natL_length, hn, hn'] at this
    unfold equalF
    rw [hw]
    simpa using this
  · refine (equal_bad ps qs A A' n n' c c' B B' w hn hn' hx hx' hr hr' hl hl' hw).mono ?_
    rintro e w' ⟨rfl, rfl⟩
    refine ⟨?_, Below.refl _ _⟩
    unfold equalF
    rw [decide_eq_false hw]; rfl
end Go.Proofs.YtlpmnhllnfhkdaaDoor
/-
  pianolaref00.Product: the product of all numbers of a list, of any length of digits.
-/
namespace Go.Proofs.YtlpmnhllnfhkdaaDoor
open Go.RowKit

theorem Blk.lowr {w w' : World} {g : Nat} {t : TypeId} {cs : Array Value} (h : Blk w g t cs) {B : Nat} (hb : Below B w w') (hB : g < B) : Blk w' g t cs := (hb.block g hB).trans h
theorem makes_elim {w : World} {z : Int} {e : Ending} {w' : World} (h : Makes w z e w') {C : Prop} (f : ∀ s A c k, e = .returned (.agg #[.bool s, .slice A k c]) → WIs w' (.agg #[.bool s, .slice A k c]) z k → (∀ ad, A = some ad → w.heap.size ≤ ad.block) → Below w.heap.size w w' → C) : C := by
  obtain ⟨v, k, he, hv, hn, hb⟩ := h
  have hv' := hv
  obtain ⟨s, A, c, ds, rfl, _⟩ := hv'
  exact f s A c k he hv hn.to hb
theorem Rd.stored {w : World} {B g : Nat} {A : Option Addr} {cs : List Value} (h : Rd w B A cs) (hn : ∀ ad, A = some ad → ad.block ≠ g) (i : Nat) (u : Value) : Rd (w.setCell ⟨g, i, none⟩ u) B A cs := by
  rcases h with h | ⟨b, off, ha, hb, hc⟩
  · exact .inl h
  · refine .inr ⟨b, off, ha, hb, fun j v hv => ?_⟩
    have := hn _ ha
    rw [World.cell?_setCell_other _ _ _ _ (by intro e; have e2 := congrArg Addr.block e; simp only at e2; exact this e2.symm)]
    exact hc j v hv
/-- behind the store of a product into its box -/
def AccDone (W0 : World) (g : Nat) (z : Int) (w : World) : Prop := ∃ w' zs zA zc zk, w = (w'.setCell ⟨g, 0, none⟩ (.bool zs)).setCell ⟨g, 1, none⟩ (.slice zA zk zc) ∧ Below W0.heap.size W0 w' ∧ WIs w' (.agg #[.bool zs, .slice zA zk zc]) z zk
theorem acc_stored {W0 w1 : World} (g : Nat) {z : Int} {zs : Bool} {zA : Option Addr} {zc zk : Nat} (hb : Below W0.heap.size W0 w1) (hw : WIs w1 (.agg #[.bool zs, .slice zA zk zc]) z zk) : AccDone W0 g z ((w1.setCell ⟨g, 0, none⟩ (.bool zs)).setCell ⟨g, 1, none⟩ (.slice zA zk zc)) := ⟨w1, zs, zA, zc, zk, rfl, hb, hw⟩
/-- a list's product -/
def prodZ (l : List Int) : Int := l.foldl (· * ·) 1
theorem prodZ_snoc (l : List Int) (x : Int) : prodZ (l ++ [x]) = prodZ l * x := by unfold prodZ; rw [List.foldl_append]; rfl
theorem foldl_mul (l : List Int) : ∀ a : Int, l.foldl (· * ·) a = a * prodZ l := by
  induction l with
  | nil => intro a; simp [prodZ]
  | cons x xs ih => intro a; rw [List.foldl_cons, ih]; unfold prodZ; rw [List.foldl_cons, ih (1 * x)]; rw [Int.one_mul, Int.mul_assoc]; rfl
theorem prodZ_cons (x : Int) (l : List Int) : prodZ (x :: l) = x * prodZ l := by unfold prodZ; rw [List.foldl_cons, foldl_mul, Int.one_mul]; rfl
theorem prodZ_cast (l : List Nat) : prodZ (castL l) = (prodN l : Int) := by
  induction l with
  | nil => rfl
  | cons x xs ih => rw [show castL (x :: xs) = (x : Int) :: castL xs from rfl, prodZ_cons, ih, prodN, Int.natCast_mul]
theorem fit_pw {x : Int} (h : fits x) : (x.natAbs : Int) ≤ pw 3 := by unfold fits at h; unfold pw; omega
theorem prod_pw {x y : Int} {k : Nat} (hx : (x.natAbs : Int) ≤ pw (3 * k)) (hy : fits y) : ((x * y).natAbs : Int) ≤ pw (3 * (k + 1)) := by
  rw [Int.natAbs_mul, show 3 * (k + 1) = 3 * k + 3 by omega, pw_add, Int.natCast_mul]
  exact Int.mul_le_mul hx (fit_pw hy) (by omega) (by have := pw_pos (3 * k); omega)
theorem pw_one : ((1 : Int).natAbs : Int) ≤ pw (3 * 0) := by unfold pw; decide
theorem pw_lt (k : Nat) : pw (3 * k) < pw (3 * k + 1) := by
  have h0 := pw_pos (3 * k)
  rw [pw_succ]
  omega

theorem prodZ_pw {xs : List Int} (h : AllFit xs) : ∀ k, k ≤ xs.length → ((prodZ (xs.take k)).natAbs : Int) ≤ pw (3 * k) := by
  intro k
  induction k with
  | zero => intro _; exact pw_one
  | succ k ih =>
    intro hk
    have h1 := ih (by omega)
    have hg : xs[k]? = some xs[k] := List.getElem?_eq_getElem (by omega)
    have e : xs.take (k + 1) = xs.take k ++ [xs[k]] := by rw [List.take_add_one, hg]; rfl
    rw [e, prodZ_snoc]
    exact prod_pw h1 (h xs[k] (List.getElem_mem _))
structure PrR (W0 : World) (g5 b off n c k : Nat) (s5 : Bool) (A5 : Option Addr) (m5 c5 : Nat) (N x : Int) (L : Nat → Bool) (V : Nat → Value) (w : World) : Prop where
  p : L 7 = false → Below W0.heap.size W0 w
  zo : L 5 = true → L 6 = false → ∃ zn, zn ≤ 3 ∧ WIs w (V 17) x zn
  zt : L 6 = true → L 7 = false → ∃ zs zA zc zk, V 18 = .agg #[.bool zs, .slice zA zk zc] ∧ WIs w (.agg #[.bool zs, .slice zA zk zc]) (N * x) zk
  zf : L 7 = true → AccDone W0 g5 (N * x) w
  e0 : L 0 = true → V 12 = .agg #[.bool s5, .slice A5 m5 c5]
  e1 : L 1 = true → V 13 = .slice (some ⟨b, off, none⟩) n c
  e2 : L 2 = true → V 14 = .int .i64 (k : Nat)
  e3 : L 3 = true → V 15 = .pointer (some ⟨b, off + k, none⟩)
  e4 : L 4 = true → V 16 = .int .i64 x
/-- what Product answers -/
def ProdPost (w : World) (z : Int) (n : Nat) (e : Ending) (w' : World) : Prop := ∃ s A c k, e = .returned (.agg #[.bool s, .slice A k c]) ∧ WIs w' (.agg #[.bool s, .slice A k c]) z k ∧ k ≤ 3 * n + 1 ∧ Below w.heap.size w w'

end Go.Proofs.YtlpmnhllnfhkdaaDoor
