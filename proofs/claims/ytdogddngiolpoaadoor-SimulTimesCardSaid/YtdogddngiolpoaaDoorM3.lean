/-
  Kp, Or, Or2, Ka, Kb, Kq, Kc, Kd: texts pasted together.
-/
import Derived.Lib.Hide
import Derived.Test.YtdogddngiolpoaaDoorM1
import Derived.RegionTactic
import Derived.WalkLawsBesides
import Derived.Defers
import Derived.Recover
import Derived.Laws.Pointers
/-
  Fractions in lowest terms: plain numbers, no program in sight.
-/
namespace Go.Proofs.YtdogddngiolpoaaDoor

/-- is n over d in lowest terms -/
def validB (n d : Int) : Bool := decide (0 < d ∧ Nat.gcd n.natAbs d.natAbs = 1)
theorem validB_iff {n d : Int} : validB n d = true ↔ 0 < d ∧ Nat.gcd n.natAbs d.natAbs = 1 := by unfold validB; exact decide_eq_true_iff
/-- a size with a sign -/
def sgnI (b : Bool) (k : Nat) : Int := if b = true then -(k : Int) else k
/-- n over d: what stands above, what stands below -/
def newN (n d : Int) : Int := sgnI (decide (n < 0) != decide (d < 0)) (n.natAbs / Nat.gcd n.natAbs d.natAbs)
def newD (n d : Int) : Int := ((d.natAbs / Nat.gcd n.natAbs d.natAbs : Nat) : Int)

theorem gcd_pos {n d : Int} (h : d ≠ 0) : 0 < Nat.gcd n.natAbs d.natAbs := Nat.gcd_pos_of_pos_right _ (by omega)
theorem newD_pos {n d : Int} (h : d ≠ 0) : 0 < newD n d := by
  unfold newD
  have := Nat.div_pos (Nat.gcd_le_right n.natAbs (show 0 < d.natAbs by omega)) (gcd_pos (n := n) h)
  omega
theorem newN_abs (n d : Int) : (newN n d).natAbs = n.natAbs / Nat.gcd n.natAbs d.natAbs := by
  unfold newN sgnI; generalize n.natAbs / Nat.gcd n.natAbs d.natAbs = k; split <;> omega
theorem newD_abs (n d : Int) : (newD n d).natAbs = d.natAbs / Nat.gcd n.natAbs d.natAbs := by unfold newD; generalize d.natAbs / Nat.gcd n.natAbs d.natAbs = k; omega
theorem new_valid {n d : Int} (h : d ≠ 0) : validB (newN n d) (newD n d) = true := by
  refine validB_iff.2 ⟨newD_pos h, ?_⟩
  rw [newN_abs, newD_abs]
  exact Nat.gcd_div_gcd_div_gcd_of_pos_right (by omega)
/-- it is worth n over d -/
theorem new_worth {n d : Int} (h : d ≠ 0) : newN n d * d = n * newD n d := by
  obtain ⟨g, hg⟩ : ∃ g, Nat.gcd n.natAbs d.natAbs = g := ⟨_, rfl⟩
  have hg0 : 0 < g := hg ▸ gcd_pos h
  obtain ⟨a, ha⟩ : g ∣ n.natAbs := hg ▸ Nat.gcd_dvd_left _ _
  obtain ⟨b, hb⟩ : g ∣ d.natAbs := hg ▸ Nat.gcd_dvd_right _ _
  have hN : newN n d = sgnI (decide (n < 0) != decide (d < 0)) a := by unfold newN; rw [hg, ha, Nat.mul_div_cancel_left _ hg0]
  have hD : newD n d = b := by unfold newD; rw [hg, hb, Nat.mul_div_cancel_left _ hg0]
  have hn : n = sgnI (decide (n < 0)) (g * a) := by unfold sgnI; rw [← ha]; split <;> rename_i h1 <;> simp at h1 <;> omega
  have hd : d = sgnI (decide (d < 0)) (g * b) := by unfold sgnI; rw [← hb]; split <;> rename_i h1 <;> simp at h1 <;> omega
  rw [hN, hD]
  generalize decide (n < 0) = s at hn ⊢
  generalize decide (d < 0) = t at hd ⊢
  subst hn hd
  have e : (a : Int) * ((g : Int) * b) = (g : Int) * a * b := by rw [← Int.mul_assoc, Int.mul_comm (a : Int) g]
  cases s <;> cases t <;> simp [sgnI, Int.natCast_mul, Int.neg_mul, Int.mul_neg, e]
/-- two in lowest terms that are worth the same are the same -/
theorem valid_uniq {a b c e : Int} (h : validB a b = true) (h' : validB c e = true) (hx : a * e = c * b) : a = c ∧ b = e := by
  obtain ⟨hb, hg⟩ := validB_iff.1 h
  obtain ⟨he, hg'⟩ := validB_iff.1 h'
  have hn : a.natAbs * e.natAbs = c.natAbs * b.natAbs := by rw [← Int.natAbs_mul, ← Int.natAbs_mul, hx]
  have d1 : b.natAbs ∣ e.natAbs := by
    refine (Nat.Coprime.symm hg).dvd_of_dvd_mul_left ?_
    exact ⟨c.natAbs, by rw [hn, Nat.mul_comm]⟩
  have d2 : e.natAbs ∣ b.natAbs := by
    refine (Nat.Coprime.symm hg').dvd_of_dvd_mul_left ?_
    exact ⟨a.natAbs, by rw [← hn, Nat.mul_comm]⟩
  have hbe : b = e := by have := Nat.dvd_antisymm d1 d2; omega
  subst hbe
  exact ⟨Int.eq_of_mul_eq_mul_right (by omega) hx, rfl⟩
theorem new_same {n d : Int} (h : validB n d = true) : newN n d = n ∧ newD n d = d := by
  obtain ⟨hd, _⟩ := validB_iff.1 h
  exact valid_uniq (new_valid (by omega)) h (new_worth (by omega))
end Go.Proofs.YtdogddngiolpoaaDoor
/-
  A region that draws its order, walked by an invariant of my own: one proof for each operation, not one for each order.
-/
namespace Go.Proofs.YtdogddngiolpoaaDoor
open Go.RowKit

/-- the slots' values, one changed -/
def updV (V : Nat → Value) (d : Nat) (v : Value) : Nat → Value := fun j => if j = d then v else V j
/-- what has been done, one more -/
def alsoL (L : Nat → Bool) (i : Nat) : Nat → Bool := fun j => if j = i then true else L j
/-- each operation waits for earlier ones alone -/
def downOps (ops : Array Oper) : Bool := (List.range ops.size).all fun i => match ops[i]? with
  | some o => o.after.all fun e => !Region.binds .any e || decide (e.on < i)
  | none => true
theorem ready_left {ops : Array Oper} {listed : Array Bool} (hs : listed.size = ops.size) (hd : downOps ops = true) (hr : Region.ready .any ops listed = []) : ∀ i, i < ops.size → listed.getD i false = true := by
  intro i
  induction i using Nat.strongRecOn with
  | ind i ih =>
    intro hi
    have hl : i < listed.size := by omega
    rcases hb : listed.getD i true with _ | _
    · exfalso
      have hm : i ∈ Region.ready .any ops listed := by
        rw [mem_ready]
        refine ⟨hb, ops[i], Array.getElem?_eq_getElem hi, fun e he hbe => ?_⟩
        have h1 := List.all_eq_true.1 hd i (List.mem_range.2 hi)
        rw [Array.getElem?_eq_getElem hi] at h1
        have h3 := Array.all_eq_true_iff_forall_mem.1 h1 e he
        rw [hbe, Bool.not_true, Bool.false_or] at h3
        have h2 := of_decide_eq_true h3
        exact ih e.on h2 (by omega)
      rw [hr] at hm; cases hm
    · simpa [hl] using hb

theorem wpAny_inv {P : Program} {ops : Array Oper} {Q : Exit → Act → World → Prop} (J : Array Bool → Act → World → Prop) (hd : downOps ops = true)
    (hstep : ∀ i listed a w, listed.size = ops.size → i ∈ Region.ready .any ops listed → J listed a w → wpOp P ops Q i (J (listed.setIfInBounds i true)) a w)
    (hend : ∀ listed a w, (∀ i, i < ops.size → listed.getD i false = true) → J listed a w → Q .normal a w) :
    ∀ fuel listed a w, listed.size = ops.size → listed.toList.count false ≤ fuel → J listed a w → wpAny P .any ops Q fuel listed a w := by
  intro fuel
  induction fuel with
  | zero =>
    intro listed a w hs hc hJ
    have hall : ∀ i, i < ops.size → listed.getD i false = true := by
      intro i hi
      have hl : i < listed.size := by omega
      rcases hb : listed.getD i false with _ | _
      · exfalso
        have h0 : listed.toList.count false = 0 := by omega
        rw [List.count_eq_zero] at h0
        refine h0 ?_
        have : listed[i] = false := by simpa [hl] using hb
        rw [← this]
        simp
      · rfl
    refine ⟨?_, hend listed a w hall hJ⟩
    rcases hr : Region.ready .any ops listed with _ | ⟨i, rs⟩
    · rfl
    · exfalso
      have hm : i ∈ Region.ready .any ops listed := by rw [hr]; exact List.mem_cons_self
      obtain ⟨h1, o, ho, _⟩ := mem_ready.1 hm
      have hi := (Array.getElem?_eq_some_iff.1 ho).1
      have h2 := hall i hi
      have hl : i < listed.size := by omega
      simp [hl] at h1 h2
      rw [h2] at h1; cases h1
  | succ fuel ih =>
    intro listed a w hs hc hJ
    refine ⟨fun hr => hend listed a w (ready_left hs hd hr) hJ, fun i hm => wpOp_mono ?_ (hstep i listed a w hs hm hJ)⟩
    intro a' w' hJ'
    refine ih _ a' w' (by simpa using hs) ?_ hJ'
    obtain ⟨h1, o, ho, _⟩ := mem_ready.1 hm
    have hi := (Array.getElem?_eq_some_iff.1 ho).1
    have hl : i < listed.size := by omega
    have hg : listed[i] = false := by simpa [hl] using h1
    have hpos : 0 < listed.toList.count false := List.count_pos_iff.2 (by rw [← hg]; simp)
    rw [Array.toList_setIfInBounds, List.count_set (by simpa using hl)]
    have : listed.toList[i]'(by simpa using hl) = false := by simpa using hg
    rw [this]
    have e2 : (true == false) = false := rfl
    simp only [beq_self_eq_true, if_true, e2, Bool.false_eq_true, if_false]
    omega

/-- j waits for i -/
def reach (ops : Array Oper) : Nat → Nat → Nat → Bool
  | 0, _, _ => false
  | f + 1, j, i => match ops[j]? with
    | some o => o.after.any fun e => Region.binds .any e && (e.on == i || reach ops f e.on i)
    | none => false
theorem reach_done {ops : Array Oper} {L : Nat → Bool} (hc : ∀ j o, ops[j]? = some o → L j = true → ∀ e ∈ o.after, Region.binds .any e = true → L e.on = true) :
    ∀ f j i, L j = true → reach ops f j i = true → L i = true := by
  intro f
  induction f with
  | zero => intro j i _ h; cases h
  | succ f ih =>
    intro j i hj h
    simp only [reach] at h
    cases ho : ops[j]? with
    | none => rw [ho] at h; cases h
    | some o =>
      rw [ho] at h
      obtain ⟨e, he, h2⟩ := Array.any_eq_true'.1 h
      simp only [Bool.and_eq_true, Bool.or_eq_true, beq_iff_eq] at h2
      have h3 := hc j o ho hj e he h2.1
      rcases h2.2 with h4 | h4
      · rw [← h4]; exact h3
      · exact ih _ _ h3 h4
/-- A REGION BY AN INVARIANT: I L V w, L: the operations that are done, V: the slots' values; hno: what waits for this one has not been done -/
theorem wp_region_inv2 {P : Program} {id : Nat} {ops : Array Oper} {Q : Exit → Act → World → Prop} {a : Act} {w : World} (A : (Nat → Value) → Act) (V0 : Nat → Value) (I : (Nat → Bool) → (Nat → Value) → World → Prop)
    (hm : P.follows .mixedOrders = true) (hd : downOps ops = true) (h0 : a = A V0) (hI : I (fun _ => false) V0 w.drew)
    (hstep : ∀ i o, ops[i]? = some o → ∀ L V w, L i = false → (∀ e ∈ o.after, Region.binds .any e = true → L e.on = true) → (∀ j, reach ops ops.size j i = true → L j = false) → I L V w →
      ∀ K : Act → World → Prop, (∀ V' a' w', a' = A V' → I (alsoL L i) V' w' → K a' w') → if Region.wanted o (yielded ops (A V).tmps) = true then Oper.wp P o (A V) w K Q else K ((A V).put o.dst undef) w)
    (hend : ∀ L V w, (∀ i, i < ops.size → L i = true) → I L V w → Q .normal (A V) w) : (Code.region id ops true).wp P Q a w := by
  refine wp_region_any hm ?_
  refine wpAny_inv (fun listed a w => ∃ L V, (∀ i, i < ops.size → listed.getD i false = L i) ∧ a = A V ∧ (∀ j o, ops[j]? = some o → L j = true → ∀ e ∈ o.after, Region.binds .any e = true → L e.on = true) ∧ I L V w) hd ?_ ?_ ops.size _ _ _ (by simp) (by simp) ⟨fun _ => false, V0, fun i hi => by simp [hi], h0, fun _ _ _ h => (by cases h), hI⟩
  · rintro i listed a w hs hm ⟨L, V, hL, rfl, hc, hI⟩
    obtain ⟨h1, o, ho, h2⟩ := mem_ready.1 hm
    have hi := (Array.getElem?_eq_some_iff.1 ho).1
    have hl : i < listed.size := by omega
    have hLi : L i = false := by rw [← hL i hi]; simpa [hl] using h1
    have hdep : ∀ e ∈ o.after, Region.binds .any e = true → L e.on = true := by
      intro e he hb
      have h3 := List.all_eq_true.1 hd i (List.mem_range.2 hi)
      rw [ho] at h3
      have h5 := Array.all_eq_true_iff_forall_mem.1 h3 e he
      rw [hb, Bool.not_true, Bool.false_or] at h5
      have h4 := of_decide_eq_true h5
      rw [← hL e.on (by omega)]; exact h2 e he hb
    refine wpOp_step ho fun K hK => ?_
    refine hstep i o ho L V w hLi hdep ?_ hI K ?_
    · intro j hj
      cases hLj : L j with
      | false => rfl
      | true => rw [reach_done hc _ _ _ hLj hj] at hLi; cases hLi
    · intro V' a' w' ha hI'
      refine hK a' w' ⟨alsoL L i, V', fun j hj => ?_, ha, fun j oj hoj hLj e he hb => ?_, hI'⟩
      · unfold alsoL
        by_cases hji : j = i
        · subst hji; simp [hl]
        · have hji' : i ≠ j := fun h => hji h.symm
          rw [if_neg hji, getD_set_ne false hji', hL j hj]
      · unfold alsoL at hLj ⊢
        split
        · rfl
        · by_cases hji : j = i
          · subst hji
            rw [ho] at hoj
            cases hoj
            exact hdep e he hb
          · rw [if_neg hji] at hLj
            exact hc j oj hoj hLj e he hb
  · rintro listed a w hall ⟨L, V, hL, rfl, -, hI⟩
    exact hend L V w (fun i hi => by rw [← hL i hi]; exact hall i hi) hI
theorem wp_region_inv {P : Program} {id : Nat} {ops : Array Oper} {Q : Exit → Act → World → Prop} {a : Act} {w : World} (A : (Nat → Value) → Act) (V0 : Nat → Value) (I : (Nat → Bool) → (Nat → Value) → World → Prop)
    (hm : P.follows .mixedOrders = true) (hd : downOps ops = true) (h0 : a = A V0) (hI : I (fun _ => false) V0 w.drew)
    (hstep : ∀ i o, ops[i]? = some o → ∀ L V w, L i = false → (∀ e ∈ o.after, Region.binds .any e = true → L e.on = true) → I L V w →
      ∀ K : Act → World → Prop, (∀ V' a' w', a' = A V' → I (alsoL L i) V' w' → K a' w') → if Region.wanted o (yielded ops (A V).tmps) = true then Oper.wp P o (A V) w K Q else K ((A V).put o.dst undef) w)
    (hend : ∀ L V w, (∀ i, i < ops.size → L i = true) → I L V w → Q .normal (A V) w) : (Code.region id ops true).wp P Q a w :=
  wp_region_inv2 A V0 I hm hd h0 hI (fun i o ho L V w hi hL _ h => hstep i o ho L V w hi hL h) hend
/-- an act, some of its slots set -/
def putAll (a : Act) (D : List Nat) (V : Nat → Value) : Act := { a with tmps := D.foldl (fun t d => t.setIfInBounds d (V d)) a.tmps }
theorem putAll_same (a : Act) (D : List Nat) : putAll a D (fun d => a.tmps.getD d undef) = a := by
  have : ∀ (D : List Nat) (t : Array Value), t = a.tmps → D.foldl (fun t d => t.setIfInBounds d (a.tmps.getD d undef)) t = a.tmps := by
    intro D
    induction D with
    | nil => intro t ht; exact ht
    | cons d D ih =>
      intro t ht
      refine ih _ ?_
      subst ht
      apply Array.ext
      · simp
      · intro j h1 h2
        rw [Array.getElem_setIfInBounds]
        split
        · rename_i h; subst h; simp [h2]
        · rfl
  unfold putAll
  rw [this D _ rfl]
/-- .. with the act as it stands, and the slots that are set -/
theorem wp_region_put {P : Program} {id : Nat} {ops : Array Oper} {Q : Exit → Act → World → Prop} {a : Act} {w : World} (D : List Nat) (I : (Nat → Bool) → (Nat → Value) → World → Prop)
    (hm : P.follows .mixedOrders = true) (hd : downOps ops = true) (hI : I (fun _ => false) (fun d => a.tmps.getD d undef) w.drew)
    (hstep : ∀ i o, ops[i]? = some o → ∀ L V w, L i = false → (∀ e ∈ o.after, Region.binds .any e = true → L e.on = true) → I L V w →
      ∀ K : Act → World → Prop, (∀ V' a' w', a' = putAll a D V' → I (alsoL L i) V' w' → K a' w') → if Region.wanted o (yielded ops (putAll a D V).tmps) = true then Oper.wp P o (putAll a D V) w K Q else K ((putAll a D V).put o.dst undef) w)
    (hend : ∀ L V w, (∀ i, i < ops.size → L i = true) → I L V w → Q .normal (putAll a D V) w) : (Code.region id ops true).wp P Q a w :=
  wp_region_inv (putAll a D) _ I hm hd (putAll_same a D).symm hI hstep hend
theorem wp_region_put2 {P : Program} {id : Nat} {ops : Array Oper} {Q : Exit → Act → World → Prop} {a : Act} {w : World} (D : List Nat) (I : (Nat → Bool) → (Nat → Value) → World → Prop)
    (hm : P.follows .mixedOrders = true) (hd : downOps ops = true) (hI : I (fun _ => false) (fun d => a.tmps.getD d undef) w.drew)
    (hstep : ∀ i o, ops[i]? = some o → ∀ L V w, L i = false → (∀ e ∈ o.after, Region.binds .any e = true → L e.on = true) → (∀ j, reach ops ops.size j i = true → L j = false) → I L V w →
      ∀ K : Act → World → Prop, (∀ V' a' w', a' = putAll a D V' → I (alsoL L i) V' w' → K a' w') → if Region.wanted o (yielded ops (putAll a D V).tmps) = true then Oper.wp P o (putAll a D V) w K Q else K ((putAll a D V).put o.dst undef) w)
    (hend : ∀ L V w, (∀ i, i < ops.size → L i = true) → I L V w → Q .normal (putAll a D V) w) : (Code.region id ops true).wp P Q a w :=
  wp_region_inv2 (putAll a D) _ I hm hd (putAll_same a D).symm hI hstep hend
/-- append of what can be read, as a step of such a region -/
theorem step_append_rd {P : Program} {ops : Array Oper} {o : Oper} {a : Act} {w : World} {K : Act → World → Prop} {Q : Exit → Act → World → Prop} (hgd : o.guard = none) (s x : Operand) (t : TypeId)
    (ho : o.op = .call { callee := .builtin .append, args := #[s, x], argTypes := #[t, t] })
    (base : Nat) (e : TypeId) (i : TypeInfo) (z : Value) (size bytes : Nat) (ht : P.underlying t = some (.slice e)) (hi : P.info? e = some i) (hz : i.zero = some z)
    (hsize : i.size = size) (hby : i.bytes = bytes) (hzs : z.cells.size = size) (hsz : 0 < size)
    (v : Value) (n : Nat) (xs : List Value) (hs : a.eval s = v) (hown : w.ownsRow base e size v n xs) (B : Nat) (A : Option Addr) (m c : Nat) (news : List Value) (hx : a.eval x = .slice A m c) (hl : news.length = m * size) (hr : Rd w B A news)
    (h1 : ∀ u ∈ news, u.oneCell' = true) (h63 : n + m ≤ maxLen) (hbytes : (n + m) * bytes ≤ 140737488355328) (hbase : base ≤ w.heap.size)
    (h : ∀ v' w', w'.ownsRow base e size v' (n + m) (xs ++ news) → w.grownBy w' v.ownBlock → (v'.ownBlock = v.ownBlock ∨ v'.ownBlock = some w.heap.size) → K (a.put o.dst v') w') :
    if Region.wanted o (yielded ops a.tmps) = true then Oper.wp P o a w K Q else K (a.put o.dst undef) w := by
  rw [if_pos (by simp [Region.wanted, hgd])]
  obtain ⟨v', w', hrun, h2, h3, h4⟩ := run_append_rd (P := P) w base t o.type e i z size bytes ht hi hz hsize hby hzs hsz v n xs hown B A m c news hl hr h1 h63 hbytes hbase
  unfold Oper.wp execOp
  simp only [ho, resolve, invoke, builtin, Sem.run_bind, Sem.run_pure, Result.andThen_ok, List.map_toArray, List.map_cons, List.map_nil, hs, hx, hrun]
  exact h v' w' h2 h3 h4
end Go.Proofs.YtdogddngiolpoaaDoor
/-
  A region by an invariant, with what waits for what reckoned once, not anew for each path.
-/
namespace Go.Proofs.YtdogddngiolpoaaDoor
open Go.RowKit

/-- which of the first f operations wait for i -/
def waitsL (ops : Array Oper) (i : Nat) : Nat → List Bool
  | 0 => []
  | f + 1 =>
    let acc := waitsL ops i f
    acc ++ [match ops[f]? with
      | some o => o.after.any fun e => Region.binds .any e && (e.on == i || acc.getD e.on false)
      | none => false]
def waits (ops : Array Oper) (j i : Nat) : Bool := (waitsL ops i ops.size).getD j false
theorem waitsL_length (ops : Array Oper) (i : Nat) : ∀ f, (waitsL ops i f).length = f := by
  intro f
  induction f with
  | zero => rfl
  | succ f ih => simp only [waitsL, List.length_append, ih, List.length_singleton]
theorem waits_done {ops : Array Oper} {L : Nat → Bool} (hc : ∀ j o, ops[j]? = some o → L j = true → ∀ e ∈ o.after, Region.binds .any e = true → L e.on = true) (i : Nat) :
    ∀ f j, (waitsL ops i f).getD j false = true → L j = true → L i = true := by
  intro f
  induction f with
  | zero => intro j h; simp [waitsL] at h
  | succ f ih =>
    intro j h hj
    simp only [waitsL] at h
    rcases Nat.lt_or_ge j f with hjf | hjf
    · refine ih j ?_ hj
      rw [List.getD_eq_getElem?_getD, List.getElem?_append_left (by rw [waitsL_length]; exact hjf), ← List.getD_eq_getElem?_getD] at h
      exact h
    · rw [List.getD_eq_getElem?_getD, List.getElem?_append_right (by rw [waitsL_length]; exact hjf), waitsL_length] at h
      by_cases hjf2 : j = f
      · subst hjf2
        rw [Nat.sub_self] at h
        simp only [List.getElem?_cons_zero, Option.getD_some] at h
        cases ho : ops[j]? with
        | none => rw [ho] at h; cases h
        | some o =>
          rw [ho] at h
          obtain ⟨e, he, h2⟩ := Array.any_eq_true'.1 h
          simp only [Bool.and_eq_true, Bool.or_eq_true, beq_iff_eq] at h2
          have h3 := hc j o ho hj e he h2.1
          rcases h2.2 with h4 | h4
          · rw [← h4]; exact h3
          · exact ih _ h4 h3
      · rw [List.getElem?_eq_none (by simp; omega)] at h
        cases h
theorem wp_region_put3 {P : Program} {id : Nat} {ops : Array Oper} {Q : Exit → Act → World → Prop} {a : Act} {w : World} (D : List Nat) (I : (Nat → Bool) → (Nat → Value) → World → Prop)
    (hm : P.follows .mixedOrders = true) (hd : downOps ops = true) (hI : I (fun _ => false) (fun d => a.tmps.getD d undef) w.drew)
    (hstep : ∀ i o, ops[i]? = some o → ∀ L V w, L i = false → (∀ e ∈ o.after, Region.binds .any e = true → L e.on = true) → (∀ j, waits ops j i = true → L j = false) → I L V w →
      ∀ K : Act → World → Prop, (∀ V' a' w', a' = putAll a D V' → I (alsoL L i) V' w' → K a' w') → if Region.wanted o (yielded ops (putAll a D V).tmps) = true then Oper.wp P o (putAll a D V) w K Q else K ((putAll a D V).put o.dst undef) w)
    (hend : ∀ L V w, (∀ i, i < ops.size → L i = true) → I L V w → Q .normal (putAll a D V) w) : (Code.region id ops true).wp P Q a w := by
  refine wp_region_put2 D (fun L V w => (∀ j o, ops[j]? = some o → L j = true → ∀ e ∈ o.after, Region.binds .any e = true → L e.on = true) ∧ I L V w) hm hd ⟨fun _ _ _ h => (by cases h), hI⟩ ?_ (fun L V w hL h => hend L V w hL h.2)
  rintro i o ho L V w hi hL - ⟨hc, h⟩ K hK
  refine hstep i o ho L V w hi hL (fun j hj => ?_) h K fun V' a' w' ha hI' => hK V' a' w' ha ⟨fun j oj hoj hLj e he hb => ?_, hI'⟩
  · cases hLj : L j with
    | false => rfl
    | true => rw [waits_done hc i _ j hj hLj] at hi; cases hi
  · unfold alsoL at hLj ⊢
    split
    · rfl
    · by_cases hji : j = i
      · subst hji
        rw [ho] at hoj
        cases hoj
        exact hL e he hb
      · rw [if_neg hji] at hLj
        exact hc j oj hoj hLj e he hb
end Go.Proofs.YtdogddngiolpoaaDoor
/-
  frac: size, common, signed, lowest, times: what they answer, and where they give up.
-/
namespace Go.Proofs.YtdogddngiolpoaaDoor
open Go.RowKit

/-- the panic by which frac gives up -/
def bigP : List PanicEntry := [{ v := .iface 30 (.int .i64 4), recovered := false }]
abbrev big : Ending := .panicked bigP

set_option maxRecDepth 100000 in
theorem fsize_any (a : Int) (w : World) (ha : fits a) :
    Calls Tryd.prog 37 #[.int .i64 a] w fun e w' => e = .returned (.int .u64 (a.natAbs : Int)) ∧ w = w' := by
  unfold fits at ha
  go_enter Tryd.func37, Tryd.ntmps37
  go_wp2
  all_goals go_ret
  all_goals (refine ⟨ret1 ?_, rfl⟩)
  · rw [IntKind.wrap_u64, IntKind.wrap_u64]; omega
  · omega

set_option maxRecDepth 100000 in
set_option maxHeartbeats 400000 in
theorem fcommon_any (x y : Nat) (hx : x < 18446744073709551616) (hy : y < 18446744073709551616) (w : World) :
    Calls Tryd.prog 43 #[.int .u64 x, .int .u64 y] w fun e w' => e = .returned (.int .u64 (Nat.gcd x y : Nat)) ∧ Drawn w w' := by
  go_enter Tryd.func43, Tryd.ntmps43
  go_wp2
  go_loopw [0, 1] (fun s t wr => ∃ p q : Nat, s = .int .u64 p ∧ t = .int .u64 q ∧ p < 18446744073709551616 ∧ q < 18446744073709551616 ∧ Drawn w wr ∧ Hid (Nat.gcd p q = Nat.gcd x y)) (fun _ t _ => (intOf t).toNat)
  case atStart => exact ⟨x, y, rfl, rfl, hx, hy, Drawn.refl w, rfl⟩
  case round =>
    obtain ⟨p, q, rfl, rfl, hp, hq, hdw, Hg⟩ := hrel
    by_cases h0 : q = 0
    · subst h0
      go_wp2
      go_ret
      refine ⟨ret1 ?_, hdw⟩
      rw [← Hg.out, Nat.gcd_zero_right]
    · have e3 : ((q : Int) != 0) = true := by simp; omega
      have hm : p % q < q := Nat.mod_lt _ (by omega)
      have hq0 : (q : Int) ≠ 0 := by omega
      go_wp2
      go_quiet (fail)
      go_wp2
      go_roundw
      case rel => exact ⟨q, p % q, rfl, by rw [Int.natCast_emod], hq, by omega, hdw.drewN _, by unfold Hid; rw [← Hg.out, Nat.gcd_comm p q, Nat.gcd_rec q p, Nat.gcd_comm]⟩
      case measure => simp [intOf]; omega

/-- a size that fits, with its sign -/
def sOk (b : Bool) (n : Nat) : Prop := fits (sgnI b n)
theorem sOk_t {n : Nat} : sOk true n ↔ n ≤ 9223372036854775808 := by unfold sOk sgnI fits; simp; omega
theorem sOk_f {n : Nat} : sOk false n ↔ n ≤ 9223372036854775807 := by unfold sOk sgnI fits; simp; omega
set_option maxRecDepth 100000 in
theorem signed_yes (b : Bool) (n : Nat) (w : World) (h : sOk b n) :
    Calls Tryd.prog 44 #[.bool b, .int .u64 n] w fun e w' => e = .returned (.int .i64 (sgnI b n)) ∧ w = w' := by
  cases b
  · have h1 : (n : Int) ≤ 9223372036854775807 := by have := sOk_f.1 h; omega
    have e : sgnI false n = n := rfl
    rw [e]
    clear h e
    go_enter Tryd.func44, Tryd.ntmps44
    go_wp2
    go_ret
    exact ⟨rfl, rfl⟩
  · have h1 : (n : Int) ≤ 9223372036854775808 := by have := sOk_t.1 h; omega
    have e : sgnI true n = -(n : Int) := rfl
    rw [e]
    clear h e
    go_enter Tryd.func44, Tryd.ntmps44
    go_wp2
    go_ret
    refine ⟨ret1 ?_, rfl⟩
    unfold wrap64
    rw [IntKind.wrap_u64]; omega
set_option maxRecDepth 100000 in
theorem signed_no (b : Bool) (n : Nat) (w : World) (h : ¬ sOk b n) :
    Calls Tryd.prog 44 #[.bool b, .int .u64 n] w fun e w' => e = big ∧ w = w' := by
  cases b
  · have h1 : (9223372036854775807 : Int) < n := by rw [sOk_f] at h; omega
    clear h
    go_enter Tryd.func44, Tryd.ntmps44
    go_wp2
    exact ⟨rfl, rfl, rfl⟩
  · have h1 : (9223372036854775808 : Int) < n := by rw [sOk_t] at h; omega
    clear h
    go_enter Tryd.func44, Tryd.ntmps44
    go_wp2
    exact ⟨rfl, rfl, rfl⟩

set_option maxRecDepth 100000 in
theorem times_yes (a b : Int) (w : World) (ha : fits a) (hb : fits b) (h : fits (a * b)) :
    Calls Tryd.prog 40 #[.int .i64 a, .int .i64 b] w fun e w' => e = .returned (.int .i64 (a * b)) ∧ w = w' := by
  have hm : ∀ w, Calls Tryd.prog 46 #[.int .i64 a, .int .i64 b] w fun e w' => e = .returned (.tuple #[.int .i64 (a * b), .bool true]) ∧ w = w' := fun w => by
    have := mul_any a b w ha hb
    rwa [← val_yes h, ← b_yes h] at this
  obtain ⟨p, hp⟩ : ∃ p, a * b = p := ⟨_, rfl⟩
  rw [hp] at hm ⊢
  clear hp h
  go_enter Tryd.func40, Tryd.ntmps40
  go_wp2_with (go_at_call 46; refine (hm _).mono ?_; rintro e w' ⟨rfl, rfl⟩)
  go_ret
  exact ⟨rfl, rfl⟩
set_option maxRecDepth 100000 in
theorem times_no (a b : Int) (w : World) (ha : fits a) (hb : fits b) (h : ¬ fits (a * b)) :
    Calls Tryd.prog 40 #[.int .i64 a, .int .i64 b] w fun e w' => e = big ∧ w = w' := by
  have hm : ∀ w, Calls Tryd.prog 46 #[.int .i64 a, .int .i64 b] w fun e w' => e = .returned (.tuple #[.int .i64 0, .bool false]) ∧ w = w' := fun w => by
    have := mul_any a b w ha hb
    rwa [← val_no h, ← b_no h] at this
  clear h
  go_enter Tryd.func40, Tryd.ntmps40
  go_wp2_with (go_at_call 46; refine (hm _).mono ?_; rintro e w' ⟨rfl, rfl⟩)
  exact ⟨rfl, rfl, rfl⟩

/-- what lowest answers: q, r: what is left -/
noncomputable def lowE (b : Bool) (q r : Nat) : Ending := @ite _ (sOk b q ∧ sOk false r) (Classical.propDecidable _) (.returned (.agg #[.int .i64 (sgnI b q), .int .i64 r])) big
theorem lowE_yes {b : Bool} {q r : Nat} (h : sOk b q) (h' : sOk false r) : lowE b q r = .returned (.agg #[.int .i64 (sgnI b q), .int .i64 r]) := if_pos ⟨h, h'⟩
theorem lowE_no {b : Bool} {q r : Nat} (h : ¬ (sOk b q ∧ sOk false r)) : lowE b q r = big := if_neg h
end Go.Proofs.YtdogddngiolpoaaDoor
/-
  frac.lowest: a size over a size, without what both have in common.
-/
namespace Go.Proofs.YtdogddngiolpoaaDoor
open Go.RowKit

theorem lowB {W0 w : World} {B : Nat} {b : Bool} {K : Prop} (h0 : b = false → Drawn W0 w) (h1 : b = true → Below B W0 w ∧ K) : Below B W0 w := by
  cases b with
  | false => exact (h0 rfl).below _
  | true => exact (h1 rfl).1
structure LowF (W0 : World) (hz : Bool) (a b g q r B : Nat) (L : Nat → Bool) (V : Nat → Value) (w : World) : Prop where
  p0 : L 14 = false → Drawn W0 w
  p1 : L 14 = true → Below B W0 w ∧ Blk w B 51 #[.int .i64 (sgnI false q), .int .i64 r]
  c8 : L 8 = true → sOk false q ∧ V 19 = .int .i64 (sgnI false q)
  c12 : L 12 = true → sOk false r ∧ V 23 = .int .i64 r
  e13 : L 13 = true → V 24 = .agg #[.int .i64 (sgnI false q), .int .i64 r]
  e0 : L 0 = true → V 11 = .bool false
  e1 : L 1 = true → V 12 = .bool false
  e2 : L 2 = true → V 13 = undef
  e3 : L 3 = true → V 14 = undef
  e4 : L 4 = true → V 15 = .bool false
  e5 : L 5 = true → V 16 = .int .u64 a
  e6 : L 6 = true → V 17 = .int .u64 g
  e7 : L 7 = true → V 18 = .int .u64 q
  e9 : L 9 = true → V 20 = .int .u64 b
  e10 : L 10 = true → V 21 = .int .u64 g
  e11 : L 11 = true → V 22 = .int .u64 r

set_option maxRecDepth 100000 in
set_option maxHeartbeats 4000000 in
theorem low_false (a b g q r : Nat) (hz : Bool) (w : World) (hcom : ∀ w, Calls Tryd.prog 43 #[.int .u64 a, .int .u64 b] w fun e w' => e = .returned (.int .u64 (g : Nat)) ∧ Drawn w w')
    (_haz : ((a : Int) != 0) = !hz) (hqd : (a : Int) / (g : Int) = (q : Int)) (hrd : (b : Int) / (g : Int) = (r : Int)) (hgn : ¬ g = 0) (hwq : IntKind.u64.wrap (q : Int) = q) (hwr : IntKind.u64.wrap (r : Int) = r) :
    Calls Tryd.prog 36 #[.bool false, .int .u64 a, .int .u64 b] w fun e w' => e = lowE false q r ∧ Below w.heap.size w w' := by
  have HB : Hid (Below w.heap.size w (w.alloc (.cells #[.int .i64 0, .int .i64 0] 51))) := (Below.refl _ _).alloc (Nat.le_refl _) _
  have HK0 : Hid (Blk (w.alloc (.cells #[.int .i64 0, .int .i64 0] 51)) w.heap.size 51 #[.int .i64 0, .int .i64 0]) := Blk.new w _ rfl _ _
  go_enter Tryd.func36, Tryd.ntmps36
  go_wp2_with (go_at_call 43; refine (hcom _).mono ?_; rintro e w' ⟨rfl, d, rfl⟩)
  obtain ⟨B, hB⟩ : ∃ B, w.heap.size = B := ⟨_, rfl⟩
  rw [hB] at HB HK0 ⊢
  obtain ⟨W0, hW0⟩ : ∃ W0, (w.alloc (.cells #[.int .i64 0, .int .i64 0] 51)).drewN d = W0 := ⟨_, rfl⟩
  replace HB : Hid (Below B w W0) := by subst hW0; exact below_drewN HB.out d
  have HK : Hid (Blk W0 B 51 #[.int .i64 0, .int .i64 0]) := by subst hW0; exact HK0.out
  have HBw : Hid (∀ w1, Below B W0 w1 → Below w.heap.size w w1) := fun w1 h1 => by rw [hB]; exact HB.out.trans h1
  rw [hW0]
  clear HK0 hW0 hcom
  have hI0 : ∀ V, LowF W0 hz a b g q r B (fun _ => false) V W0.drew := fun V => by
    have h0 : Drawn W0 W0.drew := (Drawn.refl W0).drewN 1
    constructor
    all_goals first
      | exact fun _ => h0
      | (intro h; cases h)
  refine wp_region_put3 [11, 12, 13, 14, 15, 16, 17, 18, 19, 20, 21, 22, 23, 24] (LowF W0 hz a b g q r B) (by kernel_rfl) (by kernel_rfl) ?_ ?_ ?_
  · exact hI0 _
  · intro i o ho L V w1 hi hL hno h K hK
    rcases i with _ | _ | _ | _ | _ | _ | _ | _ | _ | _ | _ | _ | _ | _ | _ | i
    · replace ho := Option.some.inj ho
      subst ho
      simp only [putAll, List.foldl_cons, List.foldl_nil, List.setIfInBounds_toArray, List.set_cons_zero, List.set_cons_succ]
      clear hL hno
      go_simp
      refine hK (updV V 11 (.bool false)) _ _ (by simp [putAll, updV]) ?_
      exact { h with e0 := fun _ => rfl }
    · replace ho := Option.some.inj ho
      subst ho
      simp only [putAll, List.foldl_cons, List.foldl_nil, List.setIfInBounds_toArray, List.set_cons_zero, List.set_cons_succ]
      have e0 : V 11 = _ := h.e0 (hL ⟨0, .data⟩ (by simp) rfl)
      clear hL hno
      go_simp
      refine hK (updV V 12 (.bool false)) _ _ (by simp [putAll, updV, e0]) ?_
      exact { h with e1 := fun _ => rfl }
    · replace ho := Option.some.inj ho
      subst ho
      have e1 : V 12 = _ := h.e1 (hL ⟨1, .guard⟩ (by simp) rfl)
      clear hL hno
      simp only [putAll, List.foldl_cons, List.foldl_nil, List.setIfInBounds_toArray, List.set_cons_zero, List.set_cons_succ]
      go_simp
      refine hK (updV V 13 undef) _ _ (by simp [putAll, updV, e1]) ?_
      exact { h with e2 := fun _ => rfl }
    · replace ho := Option.some.inj ho
      subst ho
      have e1 : V 12 = _ := h.e1 (hL ⟨1, .guard⟩ (by simp) rfl)
      clear hL hno
      simp only [putAll, List.foldl_cons, List.foldl_nil, List.setIfInBounds_toArray, List.set_cons_zero, List.set_cons_succ]
      go_simp
      refine hK (updV V 14 undef) _ _ (by simp [putAll, updV, e1]) ?_
      exact { h with e3 := fun _ => rfl }
    · replace ho := Option.some.inj ho
      subst ho
      simp only [putAll, List.foldl_cons, List.foldl_nil, List.setIfInBounds_toArray, List.set_cons_zero, List.set_cons_succ]
      have e1 : V 12 = _ := h.e1 (hL ⟨1, .data⟩ (by simp) rfl)
      have e3 : V 14 = _ := h.e3 (hL ⟨3, .data⟩ (by simp) rfl)
      clear hL hno
      go_simp
      refine hK (updV V 15 (.bool false)) _ _ (by simp [putAll, updV, e1, e3]) ?_
      exact { h with e4 := fun _ => rfl }
    · replace ho := Option.some.inj ho
      subst ho
      simp only [putAll, List.foldl_cons, List.foldl_nil, List.setIfInBounds_toArray, List.set_cons_zero, List.set_cons_succ]
      clear hL hno
      go_simp
      refine hK (updV V 16 (.int .u64 a)) _ _ (by simp [putAll, updV]) ?_
      exact { h with e5 := fun _ => rfl }
    · replace ho := Option.some.inj ho
      subst ho
      simp only [putAll, List.foldl_cons, List.foldl_nil, List.setIfInBounds_toArray, List.set_cons_zero, List.set_cons_succ]
      clear hL hno
      go_simp
      refine hK (updV V 17 (.int .u64 g)) _ _ (by simp [putAll, updV]) ?_
      exact { h with e6 := fun _ => rfl }
    · replace ho := Option.some.inj ho
      subst ho
      simp only [putAll, List.foldl_cons, List.foldl_nil, List.setIfInBounds_toArray, List.set_cons_zero, List.set_cons_succ]
      have e5 : V 16 = _ := h.e5 (hL ⟨5, .data⟩ (by simp) rfl)
      have e6 : V 17 = _ := h.e6 (hL ⟨6, .data⟩ (by simp) rfl)
      clear hL hno
      go_simp
      refine hK (updV V 18 (.int .u64 q)) _ _ (by simp [putAll, updV, e5, e6]) ?_
      exact { h with e7 := fun _ => rfl }
    · replace ho := Option.some.inj ho
      subst ho
      have e4 : V 15 = _ := h.e4 (hL ⟨4, .data⟩ (by simp) rfl)
      have e7 : V 18 = _ := h.e7 (hL ⟨7, .data⟩ (by simp) rfl)
      clear hL hno
      simp only [putAll, List.foldl_cons, List.foldl_nil, List.setIfInBounds_toArray, List.set_cons_zero, List.set_cons_succ]
      go_simp
      by_cases hs : sOk false q
      · refine (signed_yes false q w1 hs).mono ?_
        rintro e w3 ⟨rfl, rfl⟩
        refine hK (updV V 19 (.int .i64 (sgnI false q))) _ _ (by simp [putAll, updV, e4, e7]) ?_
        exact { h with c8 := fun _ => ⟨hs, rfl⟩ }
      · refine (signed_no false q w1 hs).mono ?_
        rintro e w3 ⟨rfl, rfl⟩
        exact ⟨rfl, (lowE_no fun hh => hs hh.1).symm, HBw.out _ (lowB h.p0 h.p1)⟩
    · replace ho := Option.some.inj ho
      subst ho
      simp only [putAll, List.foldl_cons, List.foldl_nil, List.setIfInBounds_toArray, List.set_cons_zero, List.set_cons_succ]
      clear hL hno
      go_simp
      refine hK (updV V 20 (.int .u64 b)) _ _ (by simp [putAll, updV]) ?_
      exact { h with e9 := fun _ => rfl }
    · replace ho := Option.some.inj ho
      subst ho
      simp only [putAll, List.foldl_cons, List.foldl_nil, List.setIfInBounds_toArray, List.set_cons_zero, List.set_cons_succ]
      clear hL hno
      go_simp
      refine hK (updV V 21 (.int .u64 g)) _ _ (by simp [putAll, updV]) ?_
      exact { h with e10 := fun _ => rfl }
    · replace ho := Option.some.inj ho
      subst ho
      simp only [putAll, List.foldl_cons, List.foldl_nil, List.setIfInBounds_toArray, List.set_cons_zero, List.set_cons_succ]
      have e9 : V 20 = _ := h.e9 (hL ⟨9, .data⟩ (by simp) rfl)
      have e10 : V 21 = _ := h.e10 (hL ⟨10, .data⟩ (by simp) rfl)
      clear hL hno
      go_simp
      refine hK (updV V 22 (.int .u64 r)) _ _ (by simp [putAll, updV, e9, e10]) ?_
      exact { h with e11 := fun _ => rfl }
    · replace ho := Option.some.inj ho
      subst ho
      have e11 : V 22 = _ := h.e11 (hL ⟨11, .data⟩ (by simp) rfl)
      clear hL hno
      simp only [putAll, List.foldl_cons, List.foldl_nil, List.setIfInBounds_toArray, List.set_cons_zero, List.set_cons_succ]
      go_simp
      by_cases hs : sOk false r
      · refine (signed_yes false r w1 hs).mono ?_
        rintro e w3 ⟨rfl, rfl⟩
        refine hK (updV V 23 (.int .i64 r)) _ _ (by simp [putAll, updV, e11]; rfl) ?_
        exact { h with c12 := fun _ => ⟨hs, rfl⟩ }
      · refine (signed_no false r w1 hs).mono ?_
        rintro e w3 ⟨rfl, rfl⟩
        exact ⟨rfl, (lowE_no fun hh => hs hh.2).symm, HBw.out _ (lowB h.p0 h.p1)⟩
    · replace ho := Option.some.inj ho
      subst ho
      obtain ⟨-, e8⟩ := h.c8 (hL ⟨8, .data⟩ (by simp) rfl)
      obtain ⟨-, e12⟩ := h.c12 (hL ⟨12, .data⟩ (by simp) rfl)
      clear hL hno
      simp only [putAll, List.foldl_cons, List.foldl_nil, List.setIfInBounds_toArray, List.set_cons_zero, List.set_cons_succ]
      go_simp
      refine hK (updV V 24 (.agg #[.int .i64 (sgnI false q), .int .i64 r])) _ _ (by simp [putAll, updV, e8, e12]) ?_
      exact { h with e13 := fun _ => rfl }
    · replace ho := Option.some.inj ho
      subst ho
      have e13 : V 24 = _ := h.e13 (hL ⟨13, .data⟩ (by simp) rfl)
      clear hL hno
      simp only [putAll, List.foldl_cons, List.foldl_nil, List.setIfInBounds_toArray, List.set_cons_zero, List.set_cons_succ]
      obtain ⟨d, hd⟩ := h.p0 hi
      have kb : Blk w1 B 51 #[.int .i64 0, .int .i64 0] := by subst hd; exact HK.out
      have hbb : Below B W0 w1 := (h.p0 hi).below _
      have f0 := kb.cell 0
      have f1 := kb.cell 1
      have z0 := kb.frozen 0
      have z1 := kb.frozen 1
      simp at f0 f1
      have kb2 := (kb.set 0 (.int .i64 (sgnI false q))).set 1 (.int .i64 r)
      have bb2 := (hbb.setCell (p := ⟨B, 0, none⟩) (Nat.le_refl _) (.int .i64 (sgnI false q))).setCell (p := ⟨B, 1, none⟩) (Nat.le_refl _) (.int .i64 r)
      simp at kb2
      clear kb hbb hd
      go_simp
      refine hK V _ _ (by simp [putAll, e13]) ?_
      exact { h with p0 := fun hn => (by cases hn), p1 := fun _ => ⟨bb2, kb2⟩ }
    · simp at ho
  · clear hI0
    intro L V w6 hL h
    obtain ⟨bw, kw⟩ := h.p1 (hL 14 (by simp))
    obtain ⟨s8, -⟩ := h.c8 (hL 8 (by simp))
    obtain ⟨s12, -⟩ := h.c12 (hL 12 (by simp))
    have c0 := kw.cell 0
    have c1 := kw.cell 1
    simp at c0 c1
    simp only [putAll, List.foldl_cons, List.foldl_nil, List.setIfInBounds_toArray, List.set_cons_zero, List.set_cons_succ]
    clear h hL kw
    go_wp2_with fail
    exact bodyPost_ret (v := .agg #[.int .i64 (sgnI false q), .int .i64 r]) (by simp [results, Tryd.results36, go_sem, c0, c1]) rfl ⟨(lowE_yes s8 s12).symm, HBw.out _ bw⟩

structure LowT (W0 : World) (hz : Bool) (a b g q r B : Nat) (L : Nat → Bool) (V : Nat → Value) (w : World) : Prop where
  p0 : L 14 = false → Drawn W0 w
  p1 : L 14 = true → Below B W0 w ∧ Blk w B 51 #[.int .i64 (sgnI (!hz) q), .int .i64 r]
  c8 : L 8 = true → sOk (!hz) q ∧ V 19 = .int .i64 (sgnI (!hz) q)
  c12 : L 12 = true → sOk false r ∧ V 23 = .int .i64 r
  e13 : L 13 = true → V 24 = .agg #[.int .i64 (sgnI (!hz) q), .int .i64 r]
  e0 : L 0 = true → V 11 = .bool true
  e1 : L 1 = true → V 12 = .bool true
  e2 : L 2 = true → V 13 = .int .u64 a
  e3 : L 3 = true → V 14 = .bool (!hz)
  e4 : L 4 = true → V 15 = .bool (!hz)
  e5 : L 5 = true → V 16 = .int .u64 a
  e6 : L 6 = true → V 17 = .int .u64 g
  e7 : L 7 = true → V 18 = .int .u64 q
  e9 : L 9 = true → V 20 = .int .u64 b
  e10 : L 10 = true → V 21 = .int .u64 g
  e11 : L 11 = true → V 22 = .int .u64 r

set_option maxRecDepth 100000 in
set_option maxHeartbeats 4000000 in
theorem low_true (a b g q r : Nat) (hz : Bool) (w : World) (hcom : ∀ w, Calls Tryd.prog 43 #[.int .u64 a, .int .u64 b] w fun e w' => e = .returned (.int .u64 (g : Nat)) ∧ Drawn w w')
    (haz : ((a : Int) != 0) = !hz) (hqd : (a : Int) / (g : Int) = (q : Int)) (hrd : (b : Int) / (g : Int) = (r : Int)) (hgn : ¬ g = 0) (hwq : IntKind.u64.wrap (q : Int) = q) (hwr : IntKind.u64.wrap (r : Int) = r) :
    Calls Tryd.prog 36 #[.bool true, .int .u64 a, .int .u64 b] w fun e w' => e = lowE (!hz) q r ∧ Below w.heap.size w w' := by
  have HB : Hid (Below w.heap.size w (w.alloc (.cells #[.int .i64 0, .int .i64 0] 51))) := (Below.refl _ _).alloc (Nat.le_refl _) _
  have HK0 : Hid (Blk (w.alloc (.cells #[.int .i64 0, .int .i64 0] 51)) w.heap.size 51 #[.int .i64 0, .int .i64 0]) := Blk.new w _ rfl _ _
  go_enter Tryd.func36, Tryd.ntmps36
  go_wp2_with (go_at_call 43; refine (hcom _).mono ?_; rintro e w' ⟨rfl, d, rfl⟩)
  obtain ⟨B, hB⟩ : ∃ B, w.heap.size = B := ⟨_, rfl⟩
  rw [hB] at HB HK0 ⊢
  obtain ⟨W0, hW0⟩ : ∃ W0, (w.alloc (.cells #[.int .i64 0, .int .i64 0] 51)).drewN d = W0 := ⟨_, rfl⟩
  replace HB : Hid (Below B w W0) := by subst hW0; exact below_drewN HB.out d
  have HK : Hid (Blk W0 B 51 #[.int .i64 0, .int .i64 0]) := by subst hW0; exact HK0.out
  have HBw : Hid (∀ w1, Below B W0 w1 → Below w.heap.size w w1) := fun w1 h1 => by rw [hB]; exact HB.out.trans h1
  rw [hW0]
  clear HK0 hW0 hcom
  have hI0 : ∀ V, LowT W0 hz a b g q r B (fun _ => false) V W0.drew := fun V => by
    have h0 : Drawn W0 W0.drew := (Drawn.refl W0).drewN 1
    constructor
    all_goals first
      | exact fun _ => h0
      | (intro h; cases h)
  refine wp_region_put3 [11, 12, 13, 14, 15, 16, 17, 18, 19, 20, 21, 22, 23, 24] (LowT W0 hz a b g q r B) (by kernel_rfl) (by kernel_rfl) ?_ ?_ ?_
  · exact hI0 _
  · intro i o ho L V w1 hi hL hno h K hK
    rcases i with _ | _ | _ | _ | _ | _ | _ | _ | _ | _ | _ | _ | _ | _ | _ | i
    · replace ho := Option.some.inj ho
      subst ho
      simp only [putAll, List.foldl_cons, List.foldl_nil, List.setIfInBounds_toArray, List.set_cons_zero, List.set_cons_succ]
      clear hL hno
      go_simp
      refine hK (updV V 11 (.bool true)) _ _ (by simp [putAll, updV]) ?_
      exact { h with e0 := fun _ => rfl }
    · replace ho := Option.some.inj ho
      subst ho
      simp only [putAll, List.foldl_cons, List.foldl_nil, List.setIfInBounds_toArray, List.set_cons_zero, List.set_cons_succ]
      have e0 : V 11 = _ := h.e0 (hL ⟨0, .data⟩ (by simp) rfl)
      clear hL hno
      go_simp
      refine hK (updV V 12 (.bool true)) _ _ (by simp [putAll, updV, e0]) ?_
      exact { h with e1 := fun _ => rfl }
    · replace ho := Option.some.inj ho
      subst ho
      have e1 : V 12 = _ := h.e1 (hL ⟨1, .guard⟩ (by simp) rfl)
      clear hL hno
      simp only [putAll, List.foldl_cons, List.foldl_nil, List.setIfInBounds_toArray, List.set_cons_zero, List.set_cons_succ]
      go_simp
      refine hK (updV V 13 (.int .u64 a)) _ _ (by simp [putAll, updV, e1]) ?_
      exact { h with e2 := fun _ => rfl }
    · replace ho := Option.some.inj ho
      subst ho
      have e1 : V 12 = _ := h.e1 (hL ⟨1, .guard⟩ (by simp) rfl)
      have e2 : V 13 = _ := h.e2 (hL ⟨2, .data⟩ (by simp) rfl)
      clear hL hno
      simp only [putAll, List.foldl_cons, List.foldl_nil, List.setIfInBounds_toArray, List.set_cons_zero, List.set_cons_succ]
      go_simp
      refine hK (updV V 14 (.bool (!hz))) _ _ (by simp [putAll, updV, e1, e2]) ?_
      exact { h with e3 := fun _ => rfl }
    · replace ho := Option.some.inj ho
      subst ho
      simp only [putAll, List.foldl_cons, List.foldl_nil, List.setIfInBounds_toArray, List.set_cons_zero, List.set_cons_succ]
      have e1 : V 12 = _ := h.e1 (hL ⟨1, .data⟩ (by simp) rfl)
      have e3 : V 14 = _ := h.e3 (hL ⟨3, .data⟩ (by simp) rfl)
      clear hL hno
      go_simp
      refine hK (updV V 15 (.bool (!hz))) _ _ (by simp [putAll, updV, e1, e3]) ?_
      exact { h with e4 := fun _ => rfl }
    · replace ho := Option.some.inj ho
      subst ho
      simp only [putAll, List.foldl_cons, List.foldl_nil, List.setIfInBounds_toArray, List.set_cons_zero, List.set_cons_succ]
      clear hL hno
      go_simp
      refine hK (updV V 16 (.int .u64 a)) _ _ (by simp [putAll, updV]) ?_
      exact { h with e5 := fun _ => rfl }
    · replace ho := Option.some.inj ho
      subst ho
      simp only [putAll, List.foldl_cons, List.foldl_nil, List.setIfInBounds_toArray, List.set_cons_zero, List.set_cons_succ]
      clear hL hno
      go_simp
      refine hK (updV V 17 (.int .u64 g)) _ _ (by simp [putAll, updV]) ?_
      exact { h with e6 := fun _ => rfl }
    · replace ho := Option.some.inj ho
      subst ho
      simp only [putAll, List.foldl_cons, List.foldl_nil, List.setIfInBounds_toArray, List.set_cons_zero, List.set_cons_succ]
      have e5 : V 16 = _ := h.e5 (hL ⟨5, .data⟩ (by simp) rfl)
      have e6 : V 17 = _ := h.e6 (hL ⟨6, .data⟩ (by simp) rfl)
      clear hL hno
      go_simp
      refine hK (updV V 18 (.int .u64 q)) _ _ (by simp [putAll, updV, e5, e6]) ?_
      exact { h with e7 := fun _ => rfl }
    · replace ho := Option.some.inj ho
      subst ho
      have e4 : V 15 = _ := h.e4 (hL ⟨4, .data⟩ (by simp) rfl)
      have e7 : V 18 = _ := h.e7 (hL ⟨7, .data⟩ (by simp) rfl)
      clear hL hno
      simp only [putAll, List.foldl_cons, List.foldl_nil, List.setIfInBounds_toArray, List.set_cons_zero, List.set_cons_succ]
      go_simp
      by_cases hs : sOk (!hz) q
      · refine (signed_yes (!hz) q w1 hs).mono ?_
        rintro e w3 ⟨rfl, rfl⟩
        refine hK (updV V 19 (.int .i64 (sgnI (!hz) q))) _ _ (by simp [putAll, updV, e4, e7]) ?_
        exact { h with c8 := fun _ => ⟨hs, rfl⟩ }
      · refine (signed_no (!hz) q w1 hs).mono ?_
        rintro e w3 ⟨rfl, rfl⟩
        exact ⟨rfl, (lowE_no fun hh => hs hh.1).symm, HBw.out _ (lowB h.p0 h.p1)⟩
    · replace ho := Option.some.inj ho
      subst ho
      simp only [putAll, List.foldl_cons, List.foldl_nil, List.setIfInBounds_toArray, List.set_cons_zero, List.set_cons_succ]
      clear hL hno
      go_simp
      refine hK (updV V 20 (.int .u64 b)) _ _ (by simp [putAll, updV]) ?_
      exact { h with e9 := fun _ => rfl }
    · replace ho := Option.some.inj ho
      subst ho
      simp only [putAll, List.foldl_cons, List.foldl_nil, List.setIfInBounds_toArray, List.set_cons_zero, List.set_cons_succ]
      clear hL hno
      go_simp
      refine hK (updV V 21 (.int .u64 g)) _ _ (by simp [putAll, updV]) ?_
      exact { h with e10 := fun _ => rfl }
    · replace ho := Option.some.inj ho
      subst ho
      simp only [putAll, List.foldl_cons, List.foldl_nil, List.setIfInBounds_toArray, List.set_cons_zero, List.set_cons_succ]
      have e9 : V 20 = _ := h.e9 (hL ⟨9, .data⟩ (by simp) rfl)
      have e10 : V 21 = _ := h.e10 (hL ⟨10, .data⟩ (by simp) rfl)
      clear hL hno
      go_simp
      refine hK (updV V 22 (.int .u64 r)) _ _ (by simp [putAll, updV, e9, e10]) ?_
      exact { h with e11 := fun _ => rfl }
    · replace ho := Option.some.inj ho
      subst ho
      have e11 : V 22 = _ := h.e11 (hL ⟨11, .data⟩ (by simp) rfl)
      clear hL hno
      simp only [putAll, List.foldl_cons, List.foldl_nil, List.setIfInBounds_toArray, List.set_cons_zero, List.set_cons_succ]
      go_simp
      by_cases hs : sOk false r
      · refine (signed_yes false r w1 hs).mono ?_
        rintro e w3 ⟨rfl, rfl⟩
        refine hK (updV V 23 (.int .i64 r)) _ _ (by simp [putAll, updV, e11]; rfl) ?_
        exact { h with c12 := fun _ => ⟨hs, rfl⟩ }
      · refine (signed_no false r w1 hs).mono ?_
        rintro e w3 ⟨rfl, rfl⟩
        exact ⟨rfl, (lowE_no fun hh => hs hh.2).symm, HBw.out _ (lowB h.p0 h.p1)⟩
    · replace ho := Option.some.inj ho
      subst ho
      obtain ⟨-, e8⟩ := h.c8 (hL ⟨8, .data⟩ (by simp) rfl)
      obtain ⟨-, e12⟩ := h.c12 (hL ⟨12, .data⟩ (by simp) rfl)
      clear hL hno
      simp only [putAll, List.foldl_cons, List.foldl_nil, List.setIfInBounds_toArray, List.set_cons_zero, List.set_cons_succ]
      go_simp
      refine hK (updV V 24 (.agg #[.int .i64 (sgnI (!hz) q), .int .i64 r])) _ _ (by simp [putAll, updV, e8, e12]) ?_
      exact { h with e13 := fun _ => rfl }
    · replace ho := Option.some.inj ho
      subst ho
      have e13 : V 24 = _ := h.e13 (hL ⟨13, .data⟩ (by simp) rfl)
      clear hL hno
      simp only [putAll, List.foldl_cons, List.foldl_nil, List.setIfInBounds_toArray, List.set_cons_zero, List.set_cons_succ]
      obtain ⟨d, hd⟩ := h.p0 hi
      have kb : Blk w1 B 51 #[.int .i64 0, .int .i64 0] := by subst hd; exact HK.out
      have hbb : Below B W0 w1 := (h.p0 hi).below _
      have f0 := kb.cell 0
      have f1 := kb.cell 1
      have z0 := kb.frozen 0
      have z1 := kb.frozen 1
      simp at f0 f1
      have kb2 := (kb.set 0 (.int .i64 (sgnI (!hz) q))).set 1 (.int .i64 r)
      have bb2 := (hbb.setCell (p := ⟨B, 0, none⟩) (Nat.le_refl _) (.int .i64 (sgnI (!hz) q))).setCell (p := ⟨B, 1, none⟩) (Nat.le_refl _) (.int .i64 r)
      simp at kb2
      clear kb hbb hd
      go_simp
      refine hK V _ _ (by simp [putAll, e13]) ?_
      exact { h with p0 := fun hn => (by cases hn), p1 := fun _ => ⟨bb2, kb2⟩ }
    · simp at ho
  · clear hI0
    intro L V w6 hL h
    obtain ⟨bw, kw⟩ := h.p1 (hL 14 (by simp))
    obtain ⟨s8, -⟩ := h.c8 (hL 8 (by simp))
    obtain ⟨s12, -⟩ := h.c12 (hL 12 (by simp))
    have c0 := kw.cell 0
    have c1 := kw.cell 1
    simp at c0 c1
    simp only [putAll, List.foldl_cons, List.foldl_nil, List.setIfInBounds_toArray, List.set_cons_zero, List.set_cons_succ]
    clear h hL kw
    go_wp2_with fail
    exact bodyPost_ret (v := .agg #[.int .i64 (sgnI (!hz) q), .int .i64 r]) (by simp [results, Tryd.results36, go_sem, c0, c1]) rfl ⟨(lowE_yes s8 s12).symm, HBw.out _ bw⟩

theorem low_any (below : Bool) (a b : Nat) (w : World) (ha : a < 18446744073709551616) (hb : b < 18446744073709551616) (hb0 : 0 < b) :
    Calls Tryd.prog 36 #[.bool below, .int .u64 a, .int .u64 b] w fun e w' => e = lowE (below && decide (a ≠ 0)) (a / Nat.gcd a b) (b / Nat.gcd a b) ∧ Below w.heap.size w w' := by
  have hg : 0 < Nat.gcd a b := Nat.gcd_pos_of_pos_right _ hb0
  have haz : ((a : Int) != 0) = !(decide (a = 0)) := by
    by_cases h : a = 0
    · simp [h]
    · simp [h]
  have e : decide (a ≠ 0) = !(decide (a = 0)) := by by_cases h : a = 0 <;> simp [h]
  rw [e]
  cases below with
  | false => exact low_false a b (Nat.gcd a b) _ _ (decide (a = 0)) w (fun w => fcommon_any a b ha hb w) haz (Int.natCast_ediv _ _).symm (Int.natCast_ediv _ _).symm (by omega) (wrapN _ (Nat.lt_of_le_of_lt (Nat.div_le_self _ _) ha)) (wrapN _ (Nat.lt_of_le_of_lt (Nat.div_le_self _ _) hb))
  | true => exact low_true a b (Nat.gcd a b) _ _ (decide (a = 0)) w (fun w => fcommon_any a b ha hb w) haz (Int.natCast_ediv _ _).symm (Int.natCast_ediv _ _).symm (by omega) (wrapN _ (Nat.lt_of_le_of_lt (Nat.div_le_self _ _) ha)) (wrapN _ (Nat.lt_of_le_of_lt (Nat.div_le_self _ _) hb))
end Go.Proofs.YtdogddngiolpoaaDoor
/-
  Products, orders and wholes of fractions: plain numbers, no program in sight.
-/
namespace Go.Proofs.YtdogddngiolpoaaDoor

/-- a fraction's two numbers -/
structure Fr where
  n : Int
  d : Int
def Fr.valid (f : Fr) : Bool := validB f.n f.d
def Fr.fit (f : Fr) : Prop := fits f.n ∧ fits f.d
theorem Fr.ext_ {f g : Fr} (h : f.n = g.n) (h' : f.d = g.d) : f = g := by cases f; cases g; simp at h h'; subst h h'; rfl
/-- n over d, or an error -/
def newR (n d : Int) : Fr × Int := if d = 0 then (⟨0, 0⟩, 20) else if (okB (newN n d) && okB (newD n d)) = true then (⟨newN n d, newD n d⟩, 0) else (⟨0, 0⟩, 4)
/-- two factors -/
def mul2 (a b : Fr) : Fr := ⟨newN a.n b.d * newN b.n a.d, newD a.n b.d * newD b.n a.d⟩
/-- from the left to the right, on from a -/
def mulGo (a : Fr) : List Fr → Fr × Int
  | [] => (a, 0)
  | x :: xs => if (okB (mul2 a x).n && okB (mul2 a x).d) = true then mulGo (mul2 a x) xs else (⟨0, 0⟩, 4)
def mulR (fs : List Fr) : Fr × Int := if fs.all Fr.valid = true then mulGo ⟨1, 1⟩ fs else (⟨0, 0⟩, 1)
def invR (f : Fr) : Fr × Int := if f.valid = true then newR f.d f.n else (⟨0, 0⟩, 1)
def cmpR (a b : Fr) : Int × Int := if a.valid = true ∧ b.valid = true then (cmpI (a.n * b.d) (b.n * a.d), 0) else (0, 1)

theorem Fr.pos {f : Fr} (h : f.valid = true) : 0 < f.d := (validB_iff.1 h).1
theorem Fr.cop {f : Fr} (h : f.valid = true) : Nat.Coprime f.n.natAbs f.d.natAbs := (validB_iff.1 h).2
theorem newR_ok {n d : Int} {f : Fr} (h : newR n d = (f, 0)) : d ≠ 0 ∧ f = ⟨newN n d, newD n d⟩ ∧ f.fit := by
  unfold newR at h
  by_cases hd : d = 0
  · rw [if_pos hd] at h; simp at h
  · rw [if_neg hd] at h
    split at h
    · rename_i h2
      simp only [Prod.mk.injEq, and_true] at h
      rw [Bool.and_eq_true, okB_iff, okB_iff] at h2
      exact ⟨hd, h.symm, by rw [← h]; exact h2⟩
    · simp at h
theorem newR_err (n d : Int) : (newR n d).2 = 0 ∨ ((newR n d).2 = 20 ∧ d = 0 ∧ (newR n d).1 = ⟨0, 0⟩) ∨ ((newR n d).2 = 4 ∧ d ≠ 0 ∧ (newR n d).1 = ⟨0, 0⟩) := by
  unfold newR
  by_cases hd : d = 0
  · rw [if_pos hd]; exact .inr (.inl ⟨rfl, hd, rfl⟩)
  · rw [if_neg hd]
    split
    · exact .inl rfl
    · exact .inr (.inr ⟨rfl, hd, rfl⟩)
/-- what is valid is answered by its own numbers, and what is not is not -/
theorem newR_self {n d : Int} (hn : fits n) (hd : fits d) : validB n d = true ↔ newR n d = (⟨n, d⟩, 0) := by
  constructor
  · intro h
    obtain ⟨h0, _⟩ := validB_iff.1 h
    obtain ⟨h1, h2⟩ := new_same h
    unfold newR
    rw [if_neg (by omega), h1, h2, if_pos (by rw [okB_iff.2 hn, okB_iff.2 hd]; rfl)]
  · intro h
    obtain ⟨h0, h1, _⟩ := newR_ok h
    have h2 : n = newN n d := congrArg Fr.n h1
    have h3 : d = newD n d := congrArg Fr.d h1
    have h4 := new_valid (n := n) h0
    rw [← h2, ← h3] at h4
    exact h4

theorem mul2_worth {a b : Fr} (ha : a.valid = true) (hb : b.valid = true) : (mul2 a b).n * (a.d * b.d) = a.n * b.n * (mul2 a b).d := by
  have h1 := new_worth (n := a.n) (d := b.d) (by have := Fr.pos hb; omega)
  have h2 := new_worth (n := b.n) (d := a.d) (by have := Fr.pos ha; omega)
  show newN a.n b.d * newN b.n a.d * (a.d * b.d) = a.n * b.n * (newD a.n b.d * newD b.n a.d)
  calc newN a.n b.d * newN b.n a.d * (a.d * b.d) = newN a.n b.d * b.d * (newN b.n a.d * a.d) := by
        rw [Int.mul_comm a.d b.d, ← Int.mul_assoc, Int.mul_assoc (newN a.n b.d), Int.mul_comm (newN b.n a.d) b.d, ← Int.mul_assoc, Int.mul_assoc]
    _ = a.n * newD a.n b.d * (b.n * newD b.n a.d) := by rw [h1, h2]
    _ = a.n * b.n * (newD a.n b.d * newD b.n a.d) := by
        rw [Int.mul_assoc, ← Int.mul_assoc (newD a.n b.d), Int.mul_comm (newD a.n b.d) b.n, Int.mul_assoc b.n, ← Int.mul_assoc]
theorem mul2_valid {a b : Fr} (ha : a.valid = true) (hb : b.valid = true) : (mul2 a b).valid = true := by
  have pa := Fr.pos ha
  have pb := Fr.pos hb
  refine validB_iff.2 ⟨Int.mul_pos (newD_pos (by omega)) (newD_pos (by omega)), ?_⟩
  show Nat.gcd (newN a.n b.d * newN b.n a.d).natAbs (newD a.n b.d * newD b.n a.d).natAbs = 1
  rw [Int.natAbs_mul, Int.natAbs_mul]
  have c1 : Nat.Coprime (newN a.n b.d).natAbs (newD a.n b.d).natAbs := (validB_iff.1 (new_valid (by omega))).2
  have c2 : Nat.Coprime (newN b.n a.d).natAbs (newD b.n a.d).natAbs := (validB_iff.1 (new_valid (by omega))).2
  have dv : ∀ n d : Int, (newN n d).natAbs ∣ n.natAbs ∧ (newD n d).natAbs ∣ d.natAbs := fun n d => by
    rw [newN_abs, newD_abs]; exact ⟨Nat.div_dvd_of_dvd (Nat.gcd_dvd_left _ _), Nat.div_dvd_of_dvd (Nat.gcd_dvd_right _ _)⟩
  have c3 : Nat.Coprime (newN a.n b.d).natAbs (newD b.n a.d).natAbs := ((Fr.cop ha).coprime_dvd_left (dv _ _).1).coprime_dvd_right (dv _ _).2
  have c4 : Nat.Coprime (newN b.n a.d).natAbs (newD a.n b.d).natAbs := ((Fr.cop hb).coprime_dvd_left (dv _ _).1).coprime_dvd_right (dv _ _).2
  exact Nat.Coprime.mul_left (Nat.Coprime.mul_right c1 c3) (Nat.Coprime.mul_right c4 c2)
/-- a valid fraction is told by what it is worth -/
theorem Fr.uniq {f g : Fr} (hf : f.valid = true) (hg : g.valid = true) (h : f.n * g.d = g.n * f.d) : f = g := by
  obtain ⟨h1, h2⟩ := valid_uniq hf hg h
  exact Fr.ext_ h1 h2
end Go.Proofs.YtdogddngiolpoaaDoor
/-
  frac.Valid, frac.right, frac.New; the references' Valid, All, New.
-/
namespace Go.Proofs.YtdogddngiolpoaaDoor
open Go.RowKit

theorem quiet_drawn {P : Program} {f : FuncId} {args : Array Value} {w : World} {n : Nat} {v : Value}
    (h : Calls P f args (w.drewN n) fun e w' => e = .returned v ∧ Drawn (w.drewN n) w') : Calls P f args (w.drewN n) fun e w'' => e = .returned v ∧ ∃ m, w'' = w.drewN m :=
  h.mono fun _ _ ⟨he, m, hm⟩ => ⟨he, n + m, by rw [hm, World.drewN_drewN]⟩
theorem natAbs_lt {x : Int} (h : fits x) : x.natAbs < 18446744073709551616 := by unfold fits at h; omega

set_option maxRecDepth 100000 in
set_option maxHeartbeats 1000000 in
theorem valid_any (n d : Int) (w : World) (hn : fits n) (hd : fits d) :
    Calls Tryd.prog 45 #[.agg #[.int .i64 n, .int .i64 d]] w fun e w' => e = .returned (.bool (validB n d)) ∧ Below w.heap.size w w' := by
  have b0 : Below w.heap.size w (w.alloc (.cells #[.int .i64 n, .int .i64 d] 51)) := (Below.refl _ _).alloc (Nat.le_refl _) _
  have hna := natAbs_lt hn
  have hda := natAbs_lt hd
  by_cases h0 : d > 0
  · have h0d : decide (d > 0) = true := decide_eq_true h0
    obtain ⟨g, hg⟩ : ∃ g, Nat.gcd n.natAbs d.natAbs = g := ⟨_, rfl⟩
    have hv : validB n d = ((g : Int) == 1) := by
      rw [Bool.eq_iff_iff, validB_iff, hg]
      simp
      omega
    rw [hv]
    have hcom := fun w => fcommon_any n.natAbs d.natAbs hna hda w
    rw [hg] at hcom
    clear hg hv h0
    go_enter Tryd.func45, Tryd.ntmps45
    go_wp2_with fail
    go_quiet ((first | (go_at_call 37; exact quiet_left (fsize_any _ _ hn)) | (go_at_call 37; exact quiet_left (fsize_any _ _ hd)) | (go_at_call 43; exact quiet_drawn (hcom _))))
    go_wp2_with fail
    go_ret
    exact ⟨rfl, below_drewN b0 _⟩
  · have h0d : decide (d > 0) = false := decide_eq_false h0
    have hv : validB n d = false := by unfold validB; simp; omega
    rw [hv]
    clear hv h0
    go_enter Tryd.func45, Tryd.ntmps45
    go_wp2_with fail
    go_quiet (fail)
    go_wp2_with fail
    go_ret
    exact ⟨rfl, below_drewN b0 _⟩

/-- the cells of a list of fractions -/
def Fr.cells (f : Fr) : List Value := [.int .i64 f.n, .int .i64 f.d]
def cellsF (fs : List Fr) : List Value := fs.flatMap Fr.cells
theorem cellsF_cons (f : Fr) (fs : List Fr) : cellsF (f :: fs) = f.cells ++ cellsF fs := rfl
theorem cellsF_length (fs : List Fr) : (cellsF fs).length = fs.length * 2 := by
  induction fs with
  | nil => rfl
  | cons a fs ih => rw [cellsF_cons, List.length_append, ih, List.length_cons]; simp [Fr.cells]; omega
theorem cellsF_append (a b : List Fr) : cellsF (a ++ b) = cellsF a ++ cellsF b := by simp [cellsF]
theorem cellsF_one (fs : List Fr) : ∀ u ∈ cellsF fs, u.oneCell' = true := by
  intro u hu
  obtain ⟨a, _, h⟩ := List.mem_flatMap.1 hu
  simp [Fr.cells] at h
  rcases h with rfl | rfl <;> rfl
theorem cellsF_at (fs : List Fr) : ∀ (k : Nat) (a : Fr), fs[k]? = some a → ∀ j u, a.cells[j]? = some u → (cellsF fs)[k * 2 + j]? = some u := by
  induction fs with
  | nil => intro k a h; simp at h
  | cons b fs ih =>
    intro k a h j u hu
    rw [cellsF_cons]
    match k, h with
    | 0, h =>
      simp at h
      subst h
      have hj : j < b.cells.length := (List.getElem?_eq_some_iff.1 hu).1
      rw [Nat.zero_mul, Nat.zero_add, List.getElem?_append_left hj]; exact hu
    | k + 1, h =>
      rw [List.getElem?_append_right (by simp [Fr.cells]; omega)]
      have e : (k + 1) * 2 + j - b.cells.length = k * 2 + j := by simp [Fr.cells]; omega
      rw [e]
      exact ih k a (by simpa using h) j u hu
theorem Rd.fr {w : World} {B : Nat} {A : Option Addr} {fs : List Fr} {k : Nat} (h : Rd w B A (cellsF fs)) (hx : ∀ a ∈ fs, a.fit) (hk : k < fs.length) :
    ∃ b off a, A = some ⟨b, off, none⟩ ∧ b < B ∧ a.fit ∧ w.cell? ⟨b, off + k * 2, none⟩ = some (.int .i64 a.n) ∧ w.cell? ⟨b, off + k * 2 + 1, none⟩ = some (.int .i64 a.d) ∧ Hid (fs.drop k = a :: fs.drop (k + 1)) ∧ Hid (fs[k]? = some a) := by
  rcases h with h | ⟨b, off, ha, hb, hc⟩
  · have := cellsF_length fs; rw [h] at this; simp at this; omega
  · have hg : fs[k]? = some fs[k] := List.getElem?_eq_getElem hk
    have at_ : ∀ j u, fs[k].cells[j]? = some u → w.cell? ⟨b, off + (k * 2 + j), none⟩ = some u := fun j u hu' => hc (k * 2 + j) u (cellsF_at fs k fs[k] hg j u hu')
    refine ⟨b, off, fs[k], ha, hb, hx _ (List.getElem_mem _), ?_, ?_, List.drop_eq_getElem_cons hk, hg⟩
    · have := at_ 0 _ rfl; simpa [Nat.add_assoc] using this
    · have := at_ 1 _ rfl; simpa [Nat.add_assoc] using this

theorem valid_of (f : Fr) (w : World) (hf : f.fit) : Calls Tryd.prog 45 #[.agg #[.int .i64 f.n, .int .i64 f.d]] w fun e w' => e = .returned (.bool f.valid) ∧ Below w.heap.size w w' := valid_any f.n f.d w hf.1 hf.2

set_option maxRecDepth 100000 in
set_option maxHeartbeats 1000000 in
theorem right_any (fs : List Fr) (A : Option Addr) (l c : Nat) (w : World) (hl : fs.length = l) (hx : ∀ a ∈ fs, a.fit) (hr : Rd w w.heap.size A (cellsF fs)) (hm : l ≤ maxLen) :
    Calls Tryd.prog 38 #[.slice A l c] w fun e w' => e = .returned (.bool (fs.all Fr.valid)) ∧ Below w.heap.size w w' := by
  subst hl
  unfold maxLen at hm
  go_enter Tryd.func38, Tryd.ntmps38
  go_wp2_with fail
  go_loopw [7] (fun i wr => ∃ k : Nat, k ≤ fs.length ∧ i = .int .i64 k ∧ Below w.heap.size w wr ∧ Hid (fs.all Fr.valid = (fs.drop k).all Fr.valid)) (fun i _ => fs.length - (intOf i).toNat)
  case atStart => exact ⟨0, Nat.zero_le _, rfl, Below.refl _ _, rfl⟩
  case round =>
    obtain ⟨k, hk, rfl, hb, He⟩ := hrel
    by_cases hlt : k < fs.length
    · obtain ⟨b, off, a, rfl, hbl, hf, c0, c1, hd, -⟩ := (hr.below hb (Nat.le_refl _)).fr hx hlt
      have b1 := hb.alloc hb.size (.cells #[.int .i64 a.n, .int .i64 a.d] 51)
      have k1 := Blk.new wr _ rfl 51 #[.int .i64 a.n, .int .i64 a.d]
      have hz1 : (wr.alloc (.cells #[.int .i64 a.n, .int .i64 a.d] 51)).heap.size = wr.heap.size + 1 := by simp
      have hsz := hb.size
      have d0 := k1.cell 0
      have d1 := k1.cell 1
      simp only [List.getElem?_toArray, List.getElem?_cons_zero, List.getElem?_cons_succ] at d0 d1
      cases hv : a.valid with
      | false =>
        have Hn : Hid (fs.all Fr.valid = false) := by unfold Hid; rw [He.out, hd.out]; simp [hv]
        have vc := fun w => valid_of a w hf
        rw [hv] at vc
        clear hd He hv k1
        go_wp2_with (go_at_call 45; refine (vc _).mono ?_; rintro e w' ⟨rfl, hb2⟩)
        go_ret
        exact ⟨by rw [Hn.out]; rfl, b1.trans (hb2.mono (by omega))⟩
      | true =>
        have Hn : Hid (fs.all Fr.valid = (fs.drop (k + 1)).all Fr.valid) := by unfold Hid; rw [He.out, hd.out]; simp [hv]
        have vc := fun w => valid_of a w hf
        rw [hv] at vc
        clear hd He hv k1
        go_wp2_with (go_at_call 45; refine (vc _).mono ?_; rintro e w' ⟨rfl, hb2⟩)
        go_roundw
        case rel => exact ⟨k + 1, by omega, by go_num, b1.trans (hb2.mono (by omega)), Hn⟩
        case measure => simp [intOf]; omega
    · have hd : fs.drop k = [] := List.drop_eq_nil_of_le (by omega)
      have Hn : Hid (fs.all Fr.valid = true) := by unfold Hid; rw [He.out, hd]; rfl
      clear hd He
      go_wp2_with fail
      go_ret
      exact ⟨by rw [Hn.out]; rfl, hb⟩

end Go.Proofs.YtdogddngiolpoaaDoor
/-
  frac.New, and the reference's New.
-/
namespace Go.Proofs.YtdogddngiolpoaaDoor
open Go.RowKit

theorem low_eq (n d : Int) : lowE ((decide (n < 0) != decide (d < 0)) && decide (n.natAbs ≠ 0)) (n.natAbs / Nat.gcd n.natAbs d.natAbs) (d.natAbs / Nat.gcd n.natAbs d.natAbs) =
    if (okB (newN n d) && okB (newD n d)) = true then .returned (.agg #[.int .i64 (newN n d), .int .i64 (newD n d)]) else big := by
  have e : sgnI ((decide (n < 0) != decide (d < 0)) && decide (n.natAbs ≠ 0)) (n.natAbs / Nat.gcd n.natAbs d.natAbs) = newN n d := by
    by_cases h0 : n.natAbs = 0
    · unfold newN; rw [h0]; simp [sgnI]
    · unfold newN; simp [h0]
  have e2 : sgnI false (d.natAbs / Nat.gcd n.natAbs d.natAbs) = newD n d := rfl
  by_cases h : (okB (newN n d) && okB (newD n d)) = true
  · rw [if_pos h]
    rw [Bool.and_eq_true, okB_iff, okB_iff] at h
    rw [lowE_yes (by unfold sOk; rw [e]; exact h.1) (by unfold sOk; rw [e2]; exact h.2), e]; rfl
  · rw [if_neg h]
    rw [Bool.and_eq_true, okB_iff, okB_iff] at h
    exact lowE_no fun hh => h ⟨by rw [← e]; exact hh.1, by rw [← e2]; exact hh.2⟩

def bigR : List PanicEntry := [{ v := .iface 30 (.int .i64 4), recovered := true }]
theorem settle_big : settle (.panicking bigR) = .returning := rfl
/-- the world behind a closure that lays nought over nought and the error -/
def givenUp (w : World) (g h : Nat) : World := ((w.setCell ⟨g, 0, none⟩ (.int .i64 0)).setCell ⟨g, 1, none⟩ (.int .i64 0)).setCell ⟨h, 0, none⟩ (.int .i64 4)
theorem givenUp_blk {w : World} {g h : Nat} {u0 u1 u2 : Value} (k0 : Blk w g 51 #[u0, u1]) (k1 : Blk w h 30 #[u2]) (hne : g ≠ h) :
    Blk (givenUp w g h) g 51 #[.int .i64 0, .int .i64 0] ∧ Blk (givenUp w g h) h 30 #[.int .i64 4] := by
  have a0 := (k0.set 0 (.int .i64 0)).set 1 (.int .i64 0)
  have a1 := a0.far (p := ⟨h, 0, none⟩) hne (.int .i64 4)
  have b0 := ((k1.far (p := ⟨g, 0, none⟩) (fun e => hne e.symm) (.int .i64 0)).far (p := ⟨g, 1, none⟩) (fun e => hne e.symm) (.int .i64 0)).set 0 (.int .i64 4)
  unfold givenUp
  exact ⟨by simpa using a1, by simpa using b0⟩
theorem givenUp_below {w W : World} {B g h : Nat} (hb : Below B w W) (hg : B ≤ g) (hh : B ≤ h) : Below B w (givenUp W g h) :=
  ((hb.setCell (p := ⟨g, 0, none⟩) hg _).setCell (p := ⟨g, 1, none⟩) hg _).setCell (p := ⟨h, 0, none⟩) hh _
theorem blk_facts {w : World} {g h : Nat} {u0 u1 u2 : Value} (k0 : Blk w g 51 #[u0, u1]) (k1 : Blk w h 30 #[u2]) (hne : g ≠ h) :
    w.cell? ⟨g, 0, none⟩ = some u0 ∧ (w.setCell ⟨g, 0, none⟩ (.int .i64 0)).cell? ⟨g, 1, none⟩ = some u1 ∧ ((w.setCell ⟨g, 0, none⟩ (.int .i64 0)).setCell ⟨g, 1, none⟩ (.int .i64 0)).cell? ⟨h, 0, none⟩ = some u2 ∧
    w.frozen? ⟨g, 0, none⟩ = false ∧ (w.setCell ⟨g, 0, none⟩ (.int .i64 0)).frozen? ⟨g, 1, none⟩ = false ∧ ((w.setCell ⟨g, 0, none⟩ (.int .i64 0)).setCell ⟨g, 1, none⟩ (.int .i64 0)).frozen? ⟨h, 0, none⟩ = false := by
  have a0 := k0.set 0 (.int .i64 0)
  have b0 := (k1.far (p := ⟨g, 0, none⟩) (fun e => hne e.symm) (.int .i64 0)).far (p := ⟨g, 1, none⟩) (fun e => hne e.symm) (.int .i64 0)
  exact ⟨(k0.cell 0).trans (by simp), (a0.cell 1).trans (by simp), (b0.cell 0).trans (by simp), k0.frozen 0, a0.frozen 1, b0.frozen 0⟩

/-- the deferred closures of New and Mul: one text -/
def idlePost (w : World) (e : Ending) (u' : FrameMode) (w' : World) : Prop := e = .returned (.tuple #[]) ∧ u' = .returning ∧ w' = w
def bigPost (w : World) (g h : Nat) (e : Ending) (u' : FrameMode) (w' : World) : Prop := e = .returned (.tuple #[]) ∧ u' = .panicking bigR ∧ w' = givenUp w g h

set_option maxHeartbeats 1000000 in
theorem new1_idle (p q : Addr) (w : World) : CallsD Tryd.prog 35 #[.pointer (some p), .pointer (some q)] .returning w (idlePost w) := by
  refine callsD_of_wpS Tryd.func35 rfl fun c₀ cs hu => ?_
  apply wpS_seq
  apply wpS_region
  simp [wpOpsS, go_sem, recoverD, hu, Tryd.ntmps35, Exit.thenS]
  apply wpS_seq
  apply wpS_region
  simp [wpOpsS, go_sem, Exit.thenS]
  refine wpS_cond (t := false) (by simp [Act.eval, Array.replicate]) ?_
  simp only [Bool.false_eq_true, if_false]
  refine wpS_of_wp (wp_skip ?_)
  cases c₀
  simp_all [bodyPostS, results, Tryd.results35, idlePost]

set_option maxHeartbeats 1000000 in
theorem new1_big (g h : Nat) (u0 u1 u2 : Value) (w : World) (k0 : Blk w g 51 #[u0, u1]) (k1 : Blk w h 30 #[u2]) (hne : g ≠ h) :
    CallsD Tryd.prog 35 #[.pointer (some ⟨g, 0, none⟩), .pointer (some ⟨h, 0, none⟩)] (.panicking bigP) w (bigPost w g h) := by
  obtain ⟨c0, c1, c2, z0, z1, z2⟩ := blk_facts k0 k1 hne
  refine callsD_of_wpS Tryd.func35 rfl fun c₀ cs hu => ?_
  apply wpS_seq
  apply wpS_region
  simp [wpOpsS, go_sem, recoverD, hu, Tryd.ntmps35, Exit.thenS, bigP]
  apply wpS_seq
  apply wpS_region
  simp [wpOpsS, go_sem, Exit.thenS]
  refine wpS_cond (t := true) (by simp [Act.eval, Array.replicate]) ?_
  simp only [if_true]
  apply wpS_region
  simp [wpOpsS, go_sem, c0, c1, c2, z0, z1, z2, bodyPostS, results, Tryd.results35, bigPost, givenUp, bigR]

set_option maxRecDepth 100000 in
set_option maxHeartbeats 1000000 in
theorem new_any (n d : Int) (w : World) (hn : fits n) (hd : fits d) :
    Calls Tryd.prog 23 #[.int .i64 n, .int .i64 d] w fun e w' => e = .returned (.tuple #[.agg #[.int .i64 (newR n d).1.n, .int .i64 (newR n d).1.d], .int .i64 (newR n d).2]) ∧ Below w.heap.size w w' := by
  have hmf : ∀ (fn : Fn) (first cap : Array Value) (w : World), (Instr.makeFunc fn first cap).run Tryd.prog w = .ok (.func fn first cap) w := fun _ _ _ _ => rfl
  obtain ⟨W, hW⟩ : ∃ W, (w.alloc (.cells #[.int .i64 0, .int .i64 0] 51)).alloc (.cells #[.int .i64 0] 30) = W := ⟨_, rfl⟩
  have bW : Below w.heap.size w W := by subst hW; exact ((Below.refl _ _).alloc (Nat.le_refl _) _).alloc (by simp) _
  have k0 : Blk W w.heap.size 51 #[.int .i64 0, .int .i64 0] := by subst hW; exact (Blk.new w _ rfl _ _).alloc _
  have k1 : Blk W (w.heap.size + 1) 30 #[.int .i64 0] := by subst hW; exact Blk.new _ _ (by simp) _ _
  have hWs : W.heap.size = w.heap.size + 2 := by subst hW; simp
  by_cases h0 : d = 0
  · have e : newR n d = (⟨0, 0⟩, 20) := by unfold newR; rw [if_pos h0]
    rw [e]
    have hz : (d == 0) = true := by simpa using h0
    clear e h0
    have f0 := k0.cell 0
    have f1 := k0.cell 1
    have f2 := k1.cell 0
    have z0 := k0.frozen 0
    have z1 := k0.frozen 1
    have z2 := k1.frozen 0
    have k2 := (k0.set 0 (.int .i64 0)).set 1 (.int .i64 0)
    have k3 := k2.far (p := ⟨w.heap.size + 1, 0, none⟩) (by simp) (.int .i64 20)
    have k4 := ((k1.far (p := ⟨w.heap.size, 0, none⟩) (by simp) (.int .i64 0)).far (p := ⟨w.heap.size, 1, none⟩) (by simp) (.int .i64 0)).set 0 (.int .i64 20)
    have bb := ((bW.setCell (p := ⟨w.heap.size, 0, none⟩) (Nat.le_refl _) (.int .i64 0)).setCell (p := ⟨w.heap.size, 1, none⟩) (Nat.le_refl _) (.int .i64 0)).setCell (p := ⟨w.heap.size + 1, 0, none⟩) (by simp) (.int .i64 20)
    have c0 := k3.cell 0
    have c1 := k3.cell 1
    have c2 := k4.cell 0
    simp at f0 f1 f2 c0 c1 c2
    clear k0 k1 k2 k3 k4
    go_enter_defers Tryd.func23, Tryd.ntmps23
    go_wp2_with fail
    exact ⟨.tuple #[.agg #[.int .i64 0, .int .i64 0], .int .i64 20], by simp [results, Tryd.results23, go_sem, c0, c1, c2], rfl, bb⟩
  · have hz : (d == 0) = false := by simpa using h0
    have hl := fun w => low_any (decide (n < 0) != decide (d < 0)) n.natAbs d.natAbs w (natAbs_lt hn) (natAbs_lt hd) (by omega)
    rw [low_eq n d] at hl
    by_cases hok : (okB (newN n d) && okB (newD n d)) = true
    · have e : newR n d = (⟨newN n d, newD n d⟩, 0) := by unfold newR; rw [if_neg h0, if_pos hok]
      rw [e]
      rw [if_pos hok] at hl
      have Hl := Lib.hid hl
      clear e h0 hok hl
      generalize newN n d = x at *
      generalize newD n d = y at *
      go_enter_defers Tryd.func23, Tryd.ntmps23
      go_wp2_with (first | (go_at_call 37; refine (fsize_any _ _ (by assumption)).mono ?_; rintro e w' ⟨rfl, rfl⟩))
      try rw [hW]
      refine (Hl.out _).mono ?_
      rintro e w2 ⟨rfl, hb2⟩
      have a0 := k0.kept hb2
      have a1 := k1.kept hb2
      have b2 := bW.trans (hb2.mono (by omega))
      have f0 := a0.cell 0
      have f1 := a0.cell 1
      have f2 := a1.cell 0
      have z0 := a0.frozen 0
      have z1 := a0.frozen 1
      have z2 := a1.frozen 0
      simp only [List.getElem?_toArray, List.getElem?_cons_zero, List.getElem?_cons_succ] at f0 f1 f2
      have k2 := (a0.set 0 (.int .i64 x)).set 1 (.int .i64 y)
      have k3 := k2.far (p := ⟨w.heap.size + 1, 0, none⟩) (by simp) (.int .i64 0)
      have k4 := ((a1.far (p := ⟨w.heap.size, 0, none⟩) (by simp) (.int .i64 x)).far (p := ⟨w.heap.size, 1, none⟩) (by simp) (.int .i64 y)).set 0 (.int .i64 0)
      have bb := ((b2.setCell (p := ⟨w.heap.size, 0, none⟩) (Nat.le_refl _) (.int .i64 x)).setCell (p := ⟨w.heap.size, 1, none⟩) (Nat.le_refl _) (.int .i64 y)).setCell (p := ⟨w.heap.size + 1, 0, none⟩) (by simp) (.int .i64 0)
      have c0 := k3.cell 0
      have c1 := k3.cell 1
      have c2 := k4.cell 0
      simp at c0 c1 c2
      clear k0 k1 k2 k3 k4 a0 a1 b2 hW
      go_wp2_with fail
      refine leaves_cons (f := 35) (args := #[.pointer (some ⟨w.heap.size, 0, none⟩), .pointer (some ⟨w.heap.size + 1, 0, none⟩)]) (by simp) (by simp [go_sem]) ?_
      refine (new1_idle _ _ _).mono ?_
      rintro e u' w'' ⟨rfl, rfl, rfl⟩
      exact ⟨.tuple #[.agg #[.int .i64 x, .int .i64 y], .int .i64 0], by simp [results, Tryd.results23, go_sem, c0, c1, c2], rfl, bb⟩
    · have e : newR n d = (⟨0, 0⟩, 4) := by unfold newR; rw [if_neg h0, if_neg hok]
      rw [e]
      rw [if_neg hok] at hl
      have Hl := Lib.hid hl
      clear e h0 hok hl
      go_enter_defers Tryd.func23, Tryd.ntmps23
      go_wp2_with (first | (go_at_call 37; refine (fsize_any _ _ (by assumption)).mono ?_; rintro e w' ⟨rfl, rfl⟩))
      try rw [hW]
      refine (Hl.out _).mono ?_
      rintro e w2 ⟨rfl, hb2⟩
      have a0 := k0.kept hb2
      have a1 := k1.kept hb2
      have b2 := bW.trans (hb2.mono (by omega))
      obtain ⟨g0, g1⟩ := givenUp_blk a0 a1 (by simp)
      have c0 := g0.cell 0
      have c1 := g0.cell 1
      have c2 := g1.cell 0
      simp at c0 c1 c2
      refine leaves_cons (f := 35) (args := #[.pointer (some ⟨w.heap.size, 0, none⟩), .pointer (some ⟨w.heap.size + 1, 0, none⟩)]) (by simp) (by simp [go_sem]) ?_
      refine (new1_big _ _ _ _ _ _ a0 a1 (by simp)).mono ?_
      rintro e u' w'' ⟨rfl, rfl, rfl⟩
      exact ⟨.tuple #[.agg #[.int .i64 0, .int .i64 0], .int .i64 4], by simp [results, Tryd.results23, go_sem, c0, c1, c2], rfl, givenUp_below b2 (Nat.le_refl _) (by omega)⟩

end Go.Proofs.YtdogddngiolpoaaDoor
