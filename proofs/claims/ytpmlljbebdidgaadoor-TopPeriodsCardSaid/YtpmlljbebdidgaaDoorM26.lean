/-
  Nd, Ne: texts pasted together.
-/
import Derived.Test.YtpmlljbebdidgaaDoorNc
import Derived.Test.YtpmlljbebdidgaaDoorM1
/-
  cancel.Equal: what it answers of any two lists.
-/
namespace Go.Proofs.YtpmlljbebdidgaaDoor
open Go.RowKit

def natL (l : List Int) : List Nat := l.map Int.toNat
theorem natL_length (l : List Int) : (natL l).length = l.length := by simp [natL]
theorem clowB_ok {l : List Int} (h : clowB l = false) : ∀ x ∈ l, 1 ≤ x := by
  intro x hx
  unfold clowB at h
  rw [List.any_eq_false] at h
  have := h x hx
  simp at this
  omega
theorem natL_cast {l : List Int} (h : clowB l = false) : castL (natL l) = l := by
  have h1 := clowB_ok h
  unfold castL natL
  rw [List.map_map]
  conv => rhs; rw [← List.map_id l]
  refine List.map_congr_left fun x hx => ?_
  have := h1 x hx
  simp; omega
theorem natL_ok {l : List Int} (h : clowB l = false) (hx : AllFit l) : OkL (natL l) := by
  intro n hn
  obtain ⟨x, hx1, rfl⟩ := List.mem_map.1 hn
  have h1 := clowB_ok h x hx1
  have h2 := hx x hx1
  unfold fits at h2
  omega
theorem natL_castL (l : List Nat) : natL (castL l) = l := by
  unfold castL natL
  rw [List.map_map]
  conv => rhs; rw [← List.map_id l]
  refine List.map_congr_left fun x hx => ?_
  simp
theorem clowB_castL {l : List Nat} (h : OkL l) : clowB (castL l) = false := by
  unfold clowB; rw [List.any_eq_false]; intro x hx
  obtain ⟨n, hn, rfl⟩ := List.mem_map.1 hx
  have := (h n hn).1
  simp; omega
theorem cwrongF_ok {ps qs : List Int} (h : cwrongF ps qs = 0) : ps.length ≤ 1024 ∧ qs.length ≤ 1024 ∧ clowB ps = false ∧ clowB qs = false := by
  unfold cwrongF at h
  split at h
  · cases h
  · split at h
    · cases h
    · rename_i h1 h2
      rw [Bool.or_eq_true, not_or] at h2
      exact ⟨by omega, by omega, by simpa using h2.1, by simpa using h2.2⟩
theorem cwrongF_vals (ps qs : List Int) : cwrongF ps qs = 0 ∨ cwrongF ps qs = 1 ∨ cwrongF ps qs = 2 := by
  unfold cwrongF
  split
  · exact .inr (.inr rfl)
  · split
    · exact .inr (.inl rfl)
    · exact .inl rfl

set_option maxRecDepth 100000 in
set_option maxHeartbeats 1000000 in
theorem reduce_bad (ps qs : List Int) (A A' : Option Addr) (n n' c c' B B' : Nat) (w : World) (hn : ps.length = n) (hn' : qs.length = n') (hx : AllFit ps) (hx' : AllFit qs) (hr : Rd w B A (cellsI ps)) (hr' : Rd w B' A' (cellsI qs)) (hl : n ≤ maxLen) (hl' : n' ≤ maxLen) (hw : cwrongF ps qs ≠ 0) :
    Calls Tryd.prog 46 #[.slice A n c, .slice A' n' c'] w fun e w' => e = .returned (.tuple #[.slice none 0 0, .slice none 0 0, .int .i64 (cwrongF ps qs)]) ∧ w = w' := by
  have HW := Lib.hid (cwrong_any ps qs A A' n n' c c' B B' w hn hn' hx hx' hr hr' hl hl')
  obtain ⟨e, he⟩ : ∃ e, cwrongF ps qs = e := ⟨_, rfl⟩
  rw [he] at HW hw ⊢
  have he0 : (e != 0) = true := by simpa using hw
  clear hx hx' hr hr' hl hl' hn hn' he hw
  go_enter Tryd.func46, Tryd.ntmps46
  go_wp2_with fail
  refine HW.out.mono ?_
  rintro e w' ⟨rfl, rfl⟩
  go_wp2_with fail
  go_ret3
  exact ⟨rfl, rfl⟩
theorem any_more (l : List Nat) : ((castL l).any fun x => x != 1) = !onesB l := by
  unfold castL onesB
  induction l with
  | nil => rfl
  | cons x xs ih =>
    rw [List.map_cons, List.any_cons, List.all_cons, ih, Bool.not_and]
    congr 1
    by_cases h : x = 1
    · subst h; rfl
    · have h1 : ((x : Int) != 1) = true := by simp; omega
      have h2 : (x == 1) = false := by simpa using h
      rw [h1, h2]; rfl
set_option maxRecDepth 100000 in
set_option maxHeartbeats 1000000 in
theorem equal_ok (ps qs : List Nat) (A A' : Option Addr) (c c' B B' : Nat) (w : World) (hp : OkL ps) (hq : OkL qs) (hn : ps.length ≤ 1024) (hn' : qs.length ≤ 1024) (hr : Rd w B A (cellsI (castL ps))) (hr' : Rd w B' A' (cellsI (castL qs)))
    (hB : B ≤ w.heap.size) (hB' : B' ≤ w.heap.size) (hT : Tab w) :
    Calls Tryd.prog 25 #[.slice A ps.length c, .slice A' qs.length c'] w fun e w' => e = .returned (.tuple #[.bool (decide (prodN ps = prodN qs)), .int .i64 0]) ∧ Below w.heap.size w w' := by
  have HR := Lib.hid (reduce_ok ps qs A A' c c' B B' w hp hq hn hn' hr hr' hB hB' hT)
  rw [← eqR_prod hp.pos hq.pos]
  obtain ⟨d1, d2, -, -⟩ := redGo_all ps qs hp.pos hq.pos
  have f1 : AllFit (castL (redGo ps qs).1) := by
    intro x hx
    obtain ⟨n, hn, rfl⟩ := List.mem_map.1 hx
    obtain ⟨k, hk, rfl⟩ := List.mem_iff_getElem.1 hn
    have := (hp _ (List.getElem_mem (by rw [← d1.length]; exact hk))).2
    have := Nat.le_of_dvd (hp _ (List.getElem_mem (by rw [← d1.length]; exact hk))).1 (d1.get k _ _ (List.getElem?_eq_getElem hk) (List.getElem?_eq_getElem (by rw [← d1.length]; exact hk)))
    unfold fits; omega
  have f2 : AllFit (castL (redGo ps qs).2) := by
    intro x hx
    obtain ⟨n, hn, rfl⟩ := List.mem_map.1 hx
    obtain ⟨k, hk, rfl⟩ := List.mem_iff_getElem.1 hn
    have := (hq _ (List.getElem_mem (by rw [← d2.length]; exact hk))).2
    have := Nat.le_of_dvd (hq _ (List.getElem_mem (by rw [← d2.length]; exact hk))).1 (d2.get k _ _ (List.getElem?_eq_getElem hk) (List.getElem?_eq_getElem (by rw [← d2.length]; exact hk)))
    unfold fits; omega
  unfold eqR
  have m1 := any_more (redGo ps qs).1
  have m2 := any_more (redGo ps qs).2
  unfold RedPost at HR
  obtain ⟨us, hus⟩ : ∃ l, (redGo ps qs).1 = l := ⟨_, rfl⟩
  obtain ⟨vs, hvs⟩ : ∃ l, (redGo ps qs).2 = l := ⟨_, rfl⟩
  rw [hus] at HR f1 m1 ⊢
  rw [hvs] at HR f2 m2 ⊢
  obtain ⟨u, hu⟩ : ∃ u, onesB us = u := ⟨_, rfl⟩
  obtain ⟨v, hv⟩ : ∃ v, onesB vs = v := ⟨_, rfl⟩
  rw [hu] at m1 ⊢
  rw [hv] at m2 ⊢
  obtain ⟨n, hpn⟩ : ∃ n, ps.length = n := ⟨_, rfl⟩
  obtain ⟨n', hqn⟩ : ∃ n, qs.length = n := ⟨_, rfl⟩
  rw [hpn] at hn HR ⊢
  rw [hqn] at hn' HR ⊢
  clear hu hv d1 d2 hus hvs hr hr' hB hB' hT hp hq hpn hqn
  have M1 := Lib.hid m1
  have M2 := Lib.hid m2
  clear m1 m2
  go_enter Tryd.func25, Tryd.ntmps25
  go_wp2_with fail
  refine HR.out.mono ?_
  rintro e w1 ⟨ga, gb, rfl, S⟩
  have hb := S.bw
  have C1 := Lib.hid (contains_any 47 (fun x => x != 1) (castL us) _ n n _ w1 cmore_any entersMore ((castL_length us).trans S.la) f1 (rd_of_own S.oa) (by unfold maxLen; omega))
  have C2 := Lib.hid (contains_any 47 (fun x => x != 1) (castL vs) _ n' n' _ w1 cmore_any entersMore ((castL_length vs).trans S.lb) f2 (rd_of_own S.ob) (by unfold maxLen; omega))
  rw [M1.out] at C1
  rw [M2.out] at C2
  clear S f1 f2 M1 M2
  go_wp2_with fail
  refine C1.out.mono ?_
  rintro e w2 ⟨rfl, rfl⟩
  cases u with
  | false =>
    go_wp2_with fail
    go_ret2
    exact ⟨rfl, hb⟩
  | true =>
    go_wp2_with fail
    refine C2.out.mono ?_
    rintro e w2 ⟨rfl, rfl⟩
    go_wp2_with fail
    go_ret2
    exact ⟨by simp, hb⟩
set_option maxRecDepth 100000 in
set_option maxHeartbeats 1000000 in
theorem equal_bad (ps qs : List Int) (A A' : Option Addr) (n n' c c' B B' : Nat) (w : World) (hn : ps.length = n) (hn' : qs.length = n') (hx : AllFit ps) (hx' : AllFit qs) (hr : Rd w B A (cellsI ps)) (hr' : Rd w B' A' (cellsI qs)) (hl : n ≤ maxLen) (hl' : n' ≤ maxLen) (hw : cwrongF ps qs ≠ 0) :
    Calls Tryd.prog 25 #[.slice A n c, .slice A' n' c'] w fun e w' => e = .returned (.tuple #[.bool false, .int .i64 (cwrongF ps qs)]) ∧ w = w' := by
  have HR := Lib.hid (reduce_bad ps qs A A' n n' c c' B B' w hn hn' hx hx' hr hr' hl hl' hw)
  obtain ⟨e, he⟩ : ∃ e, cwrongF ps qs = e := ⟨_, rfl⟩
  rw [he] at HR hw ⊢
  have he0 : (e == 0) = false := by simpa using hw
  clear hx hx' hr hr' hl hl' hn hn' he hw
  go_enter Tryd.func25, Tryd.ntmps25
  go_wp2_with fail
  refine HR.out.mono ?_
  rintro e w' ⟨rfl, rfl⟩
  go_wp2_with fail
  go_ret2
  exact ⟨rfl, rfl⟩
/-- are two lists' products one, and whether the lists may be -/
def equalF (ps qs : List Int) : Bool := decide (cwrongF ps qs = 0) && decide (prodN (natL ps) = prodN (natL qs))
theorem equal_any (ps qs : List Int) (A A' : Option Addr) (n n' c c' B B' : Nat) (w : World) (hn : ps.length = n) (hn' : qs.length = n') (hx : AllFit ps) (hx' : AllFit qs) (hr : Rd w B A (cellsI ps)) (hr' : Rd w B' A' (cellsI qs)) (hl : n ≤ maxLen) (hl' : n' ≤ maxLen)
    (hB : B ≤ w.heap.size) (hB' : B' ≤ w.heap.size) (hT : Tab w) :
    Calls Tryd.prog 25 #[.slice A n c, .slice A' n' c'] w fun e w' => e = .returned (.tuple #[.bool (equalF ps qs), .int .i64 (cwrongF ps qs)]) ∧ Below w.heap.size w w' := by
  by_cases hw : cwrongF ps qs = 0
  · obtain ⟨h1, h2, h3, h4⟩ := cwrongF_ok hw
    have e1 := natL_cast h3
    have e2 := natL_cast h4
    have := equal_ok (natL ps) (natL qs) A A' c c' B B' w (natL_ok h3 hx) (natL_ok h4 hx') (by rw [natL_length]; exact h1) (by rw [natL_length]; exact h2) (by rw [e1]; exact hr) (by rw [e2]; exact hr') hB hB' hT
    rw [natL_length, natL_length, hn, hn'] at this
    unfold equalF
    rw [hw]
    simpa using this
  · refine (equal_bad ps qs A A' n n' c c' B B' w hn hn' hx hx' hr hr' hl hl' hw).mono ?_
    rintro e w' ⟨rfl, rfl⟩
    refine ⟨?_, Below.refl _ _⟩
    unfold equalF
    rw [decide_eq_false hw]; rfl
end Go.Proofs.YtpmlljbebdidgaaDoor
/-
  pianolaref00.Product: the product of all numbers of a list, of any length of digits.
-/
namespace Go.Proofs.YtpmlljbebdidgaaDoor
open Go.RowKit

theorem Blk.lowr {w w' : World} {g : Nat} {t : TypeId} {cs : Array Value} (h : Blk w g t cs) {B : Nat} (hb : Below B w w') (hB : g < B) : Blk w' g t cs := (hb.block g hB).trans h
theorem makes_elim {w : World} {z : Int} {e : Ending} {w' : World} (h : Makes w z e w') {C : Prop} (f : ∀ s A c k, e = .returned (.agg #[.bool s, .slice A k c]) → WIs w' (.agg #[.bool s, .slice A k c]) z k → (∀ ad, A = some ad → w.heap.size ≤ ad.block) → Below w.heap.size w w' → C) : C := by
  obtain ⟨v, k, he, hv, hn, hb⟩ := h
  have hv' := hv
  obtain ⟨s, A, c, ds, rfl, _⟩ := hv'
  exact f s A c k he hv hn.to hb
theorem Rd.stored {w : World} {B g : Nat} {A : Option Addr} {cs : List Value} (h : Rd w B A cs) (hn : ∀ ad, A = some ad → ad.block ≠ g) (i : Nat) (u : Value) : Rd (w.setCell ⟨g, i, none⟩ u) B A cs := by
  rcases h with h | ⟨b, off, ha, hb, hc⟩
  · exact .inl h
  · refine .inr ⟨b, off, ha, hb, fun j v hv => ?_⟩
    have := hn _ ha
    rw [World.cell?_setCell_other _ _ _ _ (by intro e; have e2 := congrArg Addr.block e; simp only at e2; exact this e2.symm)]
    exact hc j v hv
/-- behind the store of a product into its box -/
def AccDone (W0 : World) (g : Nat) (z : Int) (w : World) : Prop := ∃ w' zs zA zc zk, w = (w'.setCell ⟨g, 0, none⟩ (.bool zs)).setCell ⟨g, 1, none⟩ (.slice zA zk zc) ∧ Below W0.heap.size W0 w' ∧ WIs w' (.agg #[.bool zs, .slice zA zk zc]) z zk
theorem acc_stored {W0 w1 : World} (g : Nat) {z : Int} {zs : Bool} {zA : Option Addr} {zc zk : Nat} (hb : Below W0.heap.size W0 w1) (hw : WIs w1 (.agg #[.bool zs, .slice zA zk zc]) z zk) : AccDone W0 g z ((w1.setCell ⟨g, 0, none⟩ (.bool zs)).setCell ⟨g, 1, none⟩ (.slice zA zk zc)) := ⟨w1, zs, zA, zc, zk, rfl, hb, hw⟩
/-- a list's product -/
def prodZ (l : List Int) : Int := l.foldl (· * ·) 1
theorem prodZ_snoc (l : List Int) (x : Int) : prodZ (l ++ [x]) = prodZ l * x := by unfold prodZ; rw [List.foldl_append]; rfl
theorem foldl_mul (l : List Int) : ∀ a : Int, l.foldl (· * ·) a = a * prodZ l := by
  induction l with
  | nil => intro a; simp [prodZ]
  | cons x xs ih => intro a; rw [List.foldl_cons, ih]; unfold prodZ; rw [List.foldl_cons, ih (1 * x)]; rw [Int.one_mul, Int.mul_assoc]; rfl
theorem prodZ_cons (x : Int) (l : List Int) : prodZ (x :: l) = x * prodZ l := by unfold prodZ; rw [List.foldl_cons, foldl_mul, Int.one_mul]; rfl
theorem prodZ_cast (l : List Nat) : prodZ (castL l) = (prodN l : Int) := by
  induction l with
  | nil => rfl
  | cons x xs ih => rw [show castL (x :: xs) = (x : Int) :: castL xs from rfl, prodZ_cons, ih, prodN, Int.natCast_mul]
theorem fit_pw {x : Int} (h : fits x) : (x.natAbs : Int) ≤ pw 3 := by unfold fits at h; unfold pw; omega
theorem prod_pw {x y : Int} {k : Nat} (hx : (x.natAbs : Int) ≤ pw (3 * k)) (hy : fits y) : ((x * y).natAbs : Int) ≤ pw (3 * (k + 1)) := by
  rw [Int.natAbs_mul, show 3 * (k + 1) = 3 * k + 3 by omega, pw_add, Int.natCast_mul]
  exact Int.mul_le_mul hx (fit_pw hy) (by omega) (by have := pw_pos (3 * k); omega)
theorem pw_one : ((1 : Int).natAbs : Int) ≤ pw (3 * 0) := by unfold pw; decide
theorem pw_lt (k : Nat) : pw (3 * k) < pw (3 * k + 1) := by
  have h0 := pw_pos (3 * k)
  rw [pw_succ]
  omega

theorem prodZ_pw {xs : List Int} (h : AllFit xs) : ∀ k, k ≤ xs.length → ((prodZ (xs.take k)).natAbs : Int) ≤ pw (3 * k) := by
  intro k
  induction k with
  | zero => intro _; exact pw_one
  | succ k ih =>
    intro hk
    have h1 := ih (by omega)
    have hg : xs[k]? = some xs[k] := List.getElem?_eq_getElem (by omega)
    have e : xs.take (k + 1) = xs.take k ++ [xs[k]] := by rw [List.take_add_one, hg]; rfl
    rw [e, prodZ_snoc]
    exact prod_pw h1 (h xs[k] (List.getElem_mem _))
structure PrR (W0 : World) (g5 b off n c k : Nat) (s5 : Bool) (A5 : Option Addr) (m5 c5 : Nat) (N x : Int) (L : Nat → Bool) (V : Nat → Value) (w : World) : Prop where
  p : L 7 = false → Below W0.heap.size W0 w
  zo : L 5 = true → L 6 = false → ∃ zn, zn ≤ 3 ∧ WIs w (V 17) x zn
  zt : L 6 = true → L 7 = false → ∃ zs zA zc zk, V 18 = .agg #[.bool zs, .slice zA zk zc] ∧ WIs w (.agg #[.bool zs, .slice zA zk zc]) (N * x) zk
  zf : L 7 = true → AccDone W0 g5 (N * x) w
  e0 : L 0 = true → V 12 = .agg #[.bool s5, .slice A5 m5 c5]
  e1 : L 1 = true → V 13 = .slice (some ⟨b, off, none⟩) n c
  e2 : L 2 = true → V 14 = .int .i64 (k : Nat)
  e3 : L 3 = true → V 15 = .pointer (some ⟨b, off + k, none⟩)
  e4 : L 4 = true → V 16 = .int .i64 x
/-- what Product answers -/
def ProdPost (w : World) (z : Int) (n : Nat) (e : Ending) (w' : World) : Prop := ∃ s A c k, e = .returned (.agg #[.bool s, .slice A k c]) ∧ WIs w' (.agg #[.bool s, .slice A k c]) z k ∧ k ≤ 3 * n + 1 ∧ Below w.heap.size w w'

end Go.Proofs.YtpmlljbebdidgaaDoor
