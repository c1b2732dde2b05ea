/-
  cancel: wrong, own, Reduce: what they answer.
-/
import Derived.Test.YtkheoaleamolcaaDoorNa
import Derived.Test.YtkheoaleamolcaaDoorBa
import Derived.Laws.CopyOwn
import Derived.Laws.OwnMore
import Derived.StillTailTactics
import Derived.Deep.LoopGhost
namespace Go.Proofs.YtkheoaleamolcaaDoor
open Go.RowKit

/-- numbers without signs as numbers -/
def castL (l : List Nat) : List Int := l.map fun n : Nat => (n : Int)
theorem castL_length (l : List Nat) : (castL l).length = l.length := by simp [castL]
theorem castL_get {l : List Nat} {k x : Nat} (h : l[k]? = some x) : (castL l)[k]? = some (x : Int) := by simp [castL, h]
theorem castL_set (l : List Nat) (k x : Nat) : (castL l).set k (x : Int) = castL (l.set k x) := by simp [castL, List.map_set]
def OkL (l : List Nat) : Prop := ∀ x ∈ l, 1 ≤ x ∧ x ≤ 9223372036854775807
theorem OkL.pos {l : List Nat} (h : OkL l) : Pos l := fun x hx => (h x hx).1
theorem OkL.fit {l : List Nat} (h : OkL l) : AllFit (castL l) := by
  intro x hx
  obtain ⟨n, hn, rfl⟩ := List.mem_map.1 hx
  have := h n hn
  unfold fits; omega
theorem OkL.set {l : List Nat} (h : OkL l) (k : Nat) {x : Nat} (h1 : 1 ≤ x) (h2 : x ≤ 9223372036854775807) : OkL (l.set k x) := by
  intro y hy
  rcases List.mem_or_eq_of_mem_set hy with hy | rfl
  · exact h y hy
  · exact ⟨h1, h2⟩

theorem retb {a b : Bool} (h : a = b) : Ending.returned (.bool a) = .returned (.bool b) := by rw [h]
/-- is any of the numbers below 1 -/
def clowB (xs : List Int) : Bool := xs.any fun x => decide (x < 1)
/-- what may not be -/
def cwrongF (ps qs : List Int) : Int := if 1024 < ps.length ∨ 1024 < qs.length then 2 else if (clowB ps || clowB qs) = true then 1 else 0

theorem clow_any (x : Int) (w : World) : Calls Tryd.prog 43 #[.int .i64 x] w fun e w' => e = .returned (.bool (decide (x < 1))) ∧ w = w' := by
  go_enter Tryd.func43, Tryd.ntmps43
  go_wp2
  all_goals (go_ret; exact ⟨by simp_all, rfl⟩)
theorem cmore_any (x : Int) (w : World) : Calls Tryd.prog 34 #[.int .i64 x] w fun e w' => e = .returned (.bool (x != 1)) ∧ w = w' := by
  go_enter Tryd.func34, Tryd.ntmps34
  go_wp2
  all_goals (go_ret; exact ⟨by simp_all, rfl⟩)

def IdxPost (b : Bool) (w : World) (e : Ending) (w' : World) : Prop := ∃ r : Int, e = .returned (.int .i64 r) ∧ decide (0 ≤ r) = b ∧ w = w'
theorem any_take_false {xs : List Int} {p : Int → Bool} {k : Nat} (h : ∀ j x, j < k → xs[j]? = some x → p x = false) (hk : k = xs.length) : xs.any p = false := by
  rw [List.any_eq_false]
  intro x hx
  obtain ⟨j, hj, rfl⟩ := List.mem_iff_getElem.1 hx
  rw [h j _ (by omega) (List.getElem?_eq_getElem hj)]
  simp
theorem any_hit {xs : List Int} {p : Int → Bool} {k : Nat} {x : Int} (h : xs[k]? = some x) (hp : p x = true) : xs.any p = true :=
  List.any_eq_true.2 ⟨x, List.mem_of_getElem? h, hp⟩

set_option maxHeartbeats 400000 in
theorem index_any (g : FuncId) (p : Int → Bool) (xs : List Int) (A : Option Addr) (n c B : Nat) (w : World) (hp : ∀ (x : Int) (w : World), Calls Tryd.prog g #[.int .i64 x] w fun e w' => e = .returned (.bool (p x)) ∧ w = w')
    (eg : ∀ args w, (callFunc g args).run Tryd.prog w = .ok (.enter g args) w) (hn : xs.length = n) (hx : AllFit xs) (hr : Rd w B A (cellsI xs)) (hl : n ≤ maxLen) :
    Calls Tryd.prog 42 #[.slice A n c, .func (.func g) #[] #[]] w (IdxPost (xs.any p) w) := by
  subst hn
  unfold maxLen at hl
  go_enter Tryd.func42, Tryd.ntmps42
  go_wp2
  go_loopg [5, 8] xs.length (fun gg _ s8 wr => ∃ k : Nat, k ≤ xs.length ∧ xs.length - k ≤ gg ∧ s8 = .int .i64 k ∧ wr = w ∧ Hid (∀ j x, j < k → xs[j]? = some x → p x = false))
  case atStart => exact ⟨0, Nat.zero_le _, by omega, rfl, rfl, fun j x hj => absurd hj (Nat.not_lt_zero _)⟩
  case round =>
    obtain ⟨k, hk, hg, rfl, rfl, H⟩ := hrel
    by_cases hlt : k < xs.length
    · obtain ⟨b, off, x, rfl, hb, hxk, hc, hd, hxx⟩ := hr.at_ hx hlt
      have hcall := hp x wr
      have HP := Lib.hid hp
      clear hp hd
      cases hq : p x with
      | true =>
        rw [hq] at hcall
        have HQ := Lib.hid hq
        clear hq
        go_wp2_with fail
        refine hcall.mono ?_
        rintro e w' ⟨rfl, rfl⟩
        go_wp2_with fail
        go_ret
        exact ⟨_, rfl, by rw [any_hit hxx.out HQ.out]; simp, rfl⟩
      | false =>
        rw [hq] at hcall
        have HQ := Lib.hid hq
        clear hq
        go_wp2_with fail
        refine hcall.mono ?_
        rintro e w' ⟨rfl, rfl⟩
        go_wp2_with fail
        go_roundg (xs.length - (k + 1))
        case measure => omega
        case rel =>
          refine ⟨k + 1, by omega, by omega, by go_num, rfl, (show Hid _ from fun j y hj hy => ?_)⟩
          by_cases e : j = k
          · subst e
            rw [hxx.out] at hy
            injection hy with hy
            subst hy
            exact HQ.out
          · exact H.out j y (by omega) hy
    · have hkk : k = xs.length := by omega
      have H2 := any_take_false H.out hkk
      have HH := Lib.hid H2
      clear H2 hp
      go_wp2
      go_ret
      exact ⟨_, rfl, by rw [HH.out]; decide, rfl⟩
set_option maxHeartbeats 400000 in
theorem contains_any (g : FuncId) (p : Int → Bool) (xs : List Int) (A : Option Addr) (n c B : Nat) (w : World) (hp : ∀ (x : Int) (w : World), Calls Tryd.prog g #[.int .i64 x] w fun e w' => e = .returned (.bool (p x)) ∧ w = w')
    (eg : ∀ args w, (callFunc g args).run Tryd.prog w = .ok (.enter g args) w) (hn : xs.length = n) (hx : AllFit xs) (hr : Rd w B A (cellsI xs)) (hl : n ≤ maxLen) :
    Calls Tryd.prog 35 #[.slice A n c, .func (.func g) #[] #[]] w fun e w' => e = .returned (.bool (xs.any p)) ∧ w = w' := by
  have h := index_any g p xs A n c B w hp eg hn hx hr hl
  clear hp eg hx hr
  go_enter Tryd.func35, Tryd.ntmps35
  go_wp2_with fail
  refine h.mono ?_
  rintro e w' ⟨r, rfl, hr, rfl⟩
  have HR := Lib.hid hr
  clear hr
  go_wp2_with fail
  go_ret
  exact ⟨retb HR.out, rfl⟩
theorem enters_fn {P : Program} {g : FuncId} {fn : Func} {c : Code} (hg : P.funcs[g]? = some fn) (hn : (fn.name == "runtime.NumGoroutine") = false) (hb : fn.body = some c) (args : Array Value) (w : World) : (callFunc g args).run P w = .ok (.enter g args) w := by
  have h1 : fn.name ≠ "runtime.NumGoroutine" := by simpa using hn
  simp [callFunc, hg, h1, hb, mark]
theorem entersLow : ∀ args w, (callFunc 43 args).run Tryd.prog w = .ok (.enter 43 args) w := enters_fn Tryd.func43 (by kernel_rfl) rfl
theorem entersMore : ∀ args w, (callFunc 34 args).run Tryd.prog w = .ok (.enter 34 args) w := enters_fn Tryd.func34 (by kernel_rfl) rfl

set_option maxHeartbeats 1000000 in
theorem cwrong_any (ps qs : List Int) (A A' : Option Addr) (n n' c c' B B' : Nat) (w : World) (hn : ps.length = n) (hn' : qs.length = n') (hx : AllFit ps) (hx' : AllFit qs) (hr : Rd w B A (cellsI ps)) (hr' : Rd w B' A' (cellsI qs)) (hl : n ≤ maxLen) (hl' : n' ≤ maxLen) :
    Calls Tryd.prog 39 #[.slice A n c, .slice A' n' c'] w fun e w' => e = .returned (.int .i64 (cwrongF ps qs)) ∧ w = w' := by
  have HP := Lib.hid (contains_any 43 (fun x => decide (x < 1)) ps A n c B w clow_any entersLow hn hx hr hl)
  have HQ := Lib.hid (contains_any 43 (fun x => decide (x < 1)) qs A' n' c' B' w clow_any entersLow hn' hx' hr' hl')
  have e1 : (ps.any fun x => decide (x < 1)) = clowB ps := rfl
  have e2 : (qs.any fun x => decide (x < 1)) = clowB qs := rfl
  rw [e1] at HP
  rw [e2] at HQ
  unfold maxLen at hl hl'
  unfold cwrongF
  rw [hn, hn']
  obtain ⟨P, hP⟩ : ∃ P, clowB ps = P := ⟨_, rfl⟩
  obtain ⟨Q, hQ⟩ : ∃ Q, clowB qs = Q := ⟨_, rfl⟩
  rw [hP] at HP ⊢
  rw [hQ] at HQ ⊢
  clear hx hx' hr hr' hn hn' hP hQ e1 e2
  by_cases h1 : 1024 < n
  · have d1 : decide ((n : Int) > 1024) = true := decide_eq_true (by omega)
    go_enter Tryd.func39, Tryd.ntmps39
    go_wp2
    go_ret
    exact ⟨rfl, rfl⟩
  · by_cases h2 : 1024 < n'
    · have d1 : decide ((n : Int) > 1024) = false := decide_eq_false (by omega)
      have d2 : decide ((n' : Int) > 1024) = true := decide_eq_true (by omega)
      go_enter Tryd.func39, Tryd.ntmps39
      go_wp2
      go_ret
      exact ⟨rfl, rfl⟩
    · have d1 : decide ((n : Int) > 1024) = false := decide_eq_false (by omega)
      have d2 : decide ((n' : Int) > 1024) = false := decide_eq_false (by omega)
      rw [if_neg (by omega)]
      go_enter Tryd.func39, Tryd.ntmps39
      go_wp2_with fail
      refine HP.out.mono ?_
      rintro e w' ⟨rfl, rfl⟩
      cases P with
      | true =>
        go_wp2_with fail
        go_ret
        exact ⟨rfl, rfl⟩
      | false =>
        go_wp2_with fail
        refine HQ.out.mono ?_
        rintro e w' ⟨rfl, rfl⟩
        cases Q with
        | true =>
          go_wp2_with fail
          go_ret
          exact ⟨rfl, rfl⟩
        | false =>
          go_wp2_with fail
          go_ret
          exact ⟨rfl, rfl⟩
set_option maxHeartbeats 1000000 in
theorem own_any (xs : List Int) (A : Option Addr) (n c B : Nat) (w : World) (hn : xs.length = n) (hr : Rd w B A (cellsI xs)) (hl : n * 8 ≤ 140737488351232) (hB : B ≤ w.heap.size) :
    Calls Tryd.prog 40 #[.slice A n c] w fun e w' => e = .returned (.slice (some ⟨w.heap.size, 0, none⟩) n n) ∧ w'.ownsRow w.heap.size 3 1 (.slice (some ⟨w.heap.size, 0, none⟩) n n) n (cellsI xs) ∧ Below w.heap.size w w' := by
  obtain ⟨i, hi, hz0, hz1, hz2⟩ := info_parts info_int
  have hcl := cellsI_length xs
  go_enter Tryd.func40, Tryd.ntmps40
  go_wp2_with (at_make; refine wpList_make_full _ rfl _ _ 26 rfl w.heap.size 3 i (.int .i64 0) 1 Tryd.underlying26 hi hz0 hz1 _ _ _ _ n rfl rfl (by omega) (by omega) (by rw [hz2]; omega) (by unfold maxLen; omega) (Nat.le_refl _) ?_)
  intro w1 hown hg
  have hb1 : Below w.heap.size w w1 := (Below.refl _ _).grown hg (Nat.le_refl _) (fun k hk => by cases hk)
  have hr1 := hr.below hb1 hB
  obtain ⟨hlen, h | ⟨g, cap, cur, hv, hge, hcur, h1, h2, h3, h4⟩⟩ := hown
  · simp at h
  · simp only [Value.slice.injEq, Option.some.injEq, Addr.mk.injEq, and_true, true_and] at hv
    obtain ⟨rfl, rfl⟩ := hv
    have hcl2 : cur.toList.length = n := by simp; omega
    have hcur' : w1.heap[w.heap.size]? = some (.cells cur.toList.toArray 3 (0, 0)) := by simpa using hcur
    have hsp : splice cur.toList 0 (cellsI xs) = cellsI xs := by
      unfold splice
      rw [List.drop_eq_nil_of_le (by rw [hcl, hcl2]; omega)]
      simp
    have HA := Lib.hid (fun (h0 : 0 < (cellsI xs).length) => (show ∃ ad, A = some ad ∧ ∀ j v, (cellsI xs)[j]? = some v → w1.cell? (ad.add j) = some v by
      rcases hr1 with hr | ⟨b, off, ha, _, hc⟩
      · rw [hr] at h0; simp at h0
      · exact ⟨_, ha, fun j v hv => by rw [Addr.add_lit]; exact hc j v hv⟩))
    clear hr hr1 hcur h4 hg
    go_wp2_with (refine wpList_copy_splice rfl (.tmp 7) (.tmp 8) 26 26 rfl 3 Tryd.underlying26 (by kernel_rfl) (some ⟨w.heap.size, 0, none⟩) A n n n c rfl rfl w.heap.size 0 cur.toList 3 hcur' (cellsI xs) (by rw [hcl, hn]; exact (Nat.min_self n).symm) (fun h0 => ⟨rfl, HA.out h0⟩) (by rw [hcl, hcl2]; omega) (cellsI_one xs) w.heap.size w hb1 (Nat.le_refl _) ?_)
    intro w2 H2 hb2
    clear hb1 hcur' hsp
    go_wp2_with fail
    go_ret
    exact ⟨rfl, ⟨by rw [hcl, hn]; omega, .inr ⟨w.heap.size, n, _, rfl, Nat.le_refl _, H2.out, Nat.le_refl _, h2, by simp [hcl, hn], by rw [List.toList_toArray, List.take_of_length_le (by rw [hcl]; omega)]⟩⟩, hb2⟩
end Go.Proofs.YtkheoaleamolcaaDoor
