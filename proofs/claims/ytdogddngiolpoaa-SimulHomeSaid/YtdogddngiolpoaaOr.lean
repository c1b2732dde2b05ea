/-
  A region that draws its order, walked by an invariant of my own: one proof for each operation, not one for each order.
-/
import Derived.Test.YtdogddngiolpoaaBa
import Derived.RegionTactic
namespace Go.Proofs.Ytdogddngiolpoaa
open Go.RowKit

/-- the slots' values, one changed -/
def updV (V : Nat → Value) (d : Nat) (v : Value) : Nat → Value := fun j => if j = d then v else V j
/-- what has been done, one more -/
def alsoL (L : Nat → Bool) (i : Nat) : Nat → Bool := fun j => if j = i then true else L j
/-- each operation waits for earlier ones alone -/
def downOps (ops : Array Oper) : Bool := (List.range ops.size).all fun i => match ops[i]? with
  | some o => o.after.all fun e => !Region.binds .any e || decide (e.on < i)
  | none => true
theorem ready_left {ops : Array Oper} {listed : Array Bool} (hs : listed.size = ops.size) (hd : downOps ops = true) (hr : Region.ready .any ops listed = []) : ∀ i, i < ops.size → listed.getD i false = true := by
  intro i
  induction i using Nat.strongRecOn with
  | ind i ih =>
    intro hi
    have hl : i < listed.size := by omega
    rcases hb : listed.getD i true with _ | _
    · exfalso
      have hm : i ∈ Region.ready .any ops listed := by
        rw [mem_ready]
        refine ⟨hb, ops[i], Array.getElem?_eq_getElem hi, fun e he hbe => ?_⟩
        have h1 := List.all_eq_true.1 hd i (List.mem_range.2 hi)
        rw [Array.getElem?_eq_getElem hi] at h1
        have h3 := Array.all_eq_true_iff_forall_mem.1 h1 e he
        rw [hbe, Bool.not_true, Bool.false_or] at h3
        have h2 := of_decide_eq_true h3
        exact ih e.on h2 (by omega)
      rw [hr] at hm; cases hm
    · simpa [hl] using hb

theorem wpAny_inv {P : Program} {ops : Array Oper} {Q : Exit → Act → World → Prop} (J : Array Bool → Act → World → Prop) (hd : downOps ops = true)
    (hstep : ∀ i listed a w, listed.size = ops.size → i ∈ Region.ready .any ops listed → J listed a w → wpOp P ops Q i (J (listed.setIfInBounds i true)) a w)
    (hend : ∀ listed a w, (∀ i, i < ops.size → listed.getD i false = true) → J listed a w → Q .normal a w) :
    ∀ fuel listed a w, listed.size = ops.size → listed.toList.count false ≤ fuel → J listed a w → wpAny P .any ops Q fuel listed a w := by
  intro fuel
  induction fuel with
  | zero =>
    intro listed a w hs hc hJ
    have hall : ∀ i, i < ops.size → listed.getD i false = true := by
      intro i hi
      have hl : i < listed.size := by omega
      rcases hb : listed.getD i false with _ | _
      · exfalso
        have h0 : listed.toList.count false = 0 := by omega
        rw [List.count_eq_zero] at h0
        refine h0 ?_
        have : listed[i] = false := by simpa [hl] using hb
        rw [← this]
        simp
      · rfl
    refine ⟨?_, hend listed a w hall hJ⟩
    rcases hr : Region.ready .any ops listed with _ | ⟨i, rs⟩
    · rfl
    · exfalso
      have hm : i ∈ Region.ready .any ops listed := by rw [hr]; exact List.mem_cons_self
      obtain ⟨h1, o, ho, _⟩ := mem_ready.1 hm
      have hi := (Array.getElem?_eq_some_iff.1 ho).1
      have h2 := hall i hi
      have hl : i < listed.size := by omega
      simp [hl] at h1 h2
      rw [h2] at h1; cases h1
  | succ fuel ih =>
    intro listed a w hs hc hJ
    refine ⟨fun hr => hend listed a w (ready_left hs hd hr) hJ, fun i hm => wpOp_mono ?_ (hstep i listed a w hs hm hJ)⟩
    intro a' w' hJ'
    refine ih _ a' w' (by simpa using hs) ?_ hJ'
    obtain ⟨h1, o, ho, _⟩ := mem_ready.1 hm
    have hi := (Array.getElem?_eq_some_iff.1 ho).1
    have hl : i < listed.size := by omega
    have hg : listed[i] = false := by simpa [hl] using h1
    have hpos : 0 < listed.toList.count false := List.count_pos_iff.2 (by rw [← hg]; simp)
    rw [Array.toList_setIfInBounds, List.count_set (by simpa using hl)]
    have : listed.toList[i]'(by simpa using hl) = false := by simpa using hg
    rw [this]
    have e2 : (true == false) = false := rfl
    simp only [beq_self_eq_true, if_true, e2, Bool.false_eq_true, if_false]
    omega

/-- j waits for i -/
def reach (ops : Array Oper) : Nat → Nat → Nat → Bool
  | 0, _, _ => false
  | f + 1, j, i => match ops[j]? with
    | some o => o.after.any fun e => Region.binds .any e && (e.on == i || reach ops f e.on i)
    | none => false
theorem reach_done {ops : Array Oper} {L : Nat → Bool} (hc : ∀ j o, ops[j]? = some o → L j = true → ∀ e ∈ o.after, Region.binds .any e = true → L e.on = true) :
    ∀ f j i, L j = true → reach ops f j i = true → L i = true := by
  intro f
  induction f with
  | zero => intro j i _ h; cases h
  | succ f ih =>
    intro j i hj h
    simp only [reach] at h
    cases ho : ops[j]? with
    | none => rw [ho] at h; cases h
    | some o =>
      rw [ho] at h
      obtain ⟨e, he, h2⟩ := Array.any_eq_true'.1 h
      simp only [Bool.and_eq_true, Bool.or_eq_true, beq_iff_eq] at h2
      have h3 := hc j o ho hj e he h2.1
      rcases h2.2 with h4 | h4
      · rw [← h4]; exact h3
      · exact ih _ _ h3 h4
/-- A REGION BY AN INVARIANT: I L V w, L: the operations that are done, V: the slots' values; hno: what waits for this one has not been done -/
theorem wp_region_inv2 {P : Program} {id : Nat} {ops : Array Oper} {Q : Exit → Act → World → Prop} {a : Act} {w : World} (A : (Nat → Value) → Act) (V0 : Nat → Value) (I : (Nat → Bool) → (Nat → Value) → World → Prop)
    (hm : P.follows .mixedOrders = true) (hd : downOps ops = true) (h0 : a = A V0) (hI : I (fun _ => false) V0 w.drew)
    (hstep : ∀ i o, ops[i]? = some o → ∀ L V w, L i = false → (∀ e ∈ o.after, Region.binds .any e = true → L e.on = true) → (∀ j, reach ops ops.size j i = true → L j = false) → I L V w →
      ∀ K : Act → World → Prop, (∀ V' a' w', a' = A V' → I (alsoL L i) V' w' → K a' w') → if Region.wanted o (yielded ops (A V).tmps) = true then Oper.wp P o (A V) w K Q else K ((A V).put o.dst undef) w)
    (hend : ∀ L V w, (∀ i, i < ops.size → L i = true) → I L V w → Q .normal (A V) w) : (Code.region id ops true).wp P Q a w := by
  refine wp_region_any hm ?_
  refine wpAny_inv (fun listed a w => ∃ L V, (∀ i, i < ops.size → listed.getD i false = L i) ∧ a = A V ∧ (∀ j o, ops[j]? = some o → L j = true → ∀ e ∈ o.after, Region.binds .any e = true → L e.on = true) ∧ I L V w) hd ?_ ?_ ops.size _ _ _ (by simp) (by simp) ⟨fun _ => false, V0, fun i hi => by simp [hi], h0, fun _ _ _ h => (by cases h), hI⟩
  · rintro i listed a w hs hm ⟨L, V, hL, rfl, hc, hI⟩
    obtain ⟨h1, o, ho, h2⟩ := mem_ready.1 hm
    have hi := (Array.getElem?_eq_some_iff.1 ho).1
    have hl : i < listed.size := by omega
    have hLi : L i = false := by rw [← hL i hi]; simpa [hl] using h1
    have hdep : ∀ e ∈ o.after, Region.binds .any e = true → L e.on = true := by
      intro e he hb
      have h3 := List.all_eq_true.1 hd i (List.mem_range.2 hi)
      rw [ho] at h3
      have h5 := Array.all_eq_true_iff_forall_mem.1 h3 e he
      rw [hb, Bool.not_true, Bool.false_or] at h5
      have h4 := of_decide_eq_true h5
      rw [← hL e.on (by omega)]; exact h2 e he hb
    refine wpOp_step ho fun K hK => ?_
    refine hstep i o ho L V w hLi hdep ?_ hI K ?_
    · intro j hj
      cases hLj : L j with
      | false => rfl
      | true => rw [reach_done hc _ _ _ hLj hj] at hLi; cases hLi
    · intro V' a' w' ha hI'
      refine hK a' w' ⟨alsoL L i, V', fun j hj => ?_, ha, fun j oj hoj hLj e he hb => ?_, hI'⟩
      · unfold alsoL
        by_cases hji : j = i
        · subst hji; simp [hl]
        · have hji' : i ≠ j := fun h => hji h.symm
          rw [if_neg hji, getD_set_ne false hji', hL j hj]
      · unfold alsoL at hLj ⊢
        split
        · rfl
        · by_cases hji : j = i
          · subst hji
            rw [ho] at hoj
            cases hoj
            exact hdep e he hb
          · rw [if_neg hji] at hLj
            exact hc j oj hoj hLj e he hb
  · rintro listed a w hall ⟨L, V, hL, rfl, -, hI⟩
    exact hend L V w (fun i hi => by rw [← hL i hi]; exact hall i hi) hI
theorem wp_region_inv {P : Program} {id : Nat} {ops : Array Oper} {Q : Exit → Act → World → Prop} {a : Act} {w : World} (A : (Nat → Value) → Act) (V0 : Nat → Value) (I : (Nat → Bool) → (Nat → Value) → World → Prop)
    (hm : P.follows .mixedOrders = true) (hd : downOps ops = true) (h0 : a = A V0) (hI : I (fun _ => false) V0 w.drew)
    (hstep : ∀ i o, ops[i]? = some o → ∀ L V w, L i = false → (∀ e ∈ o.after, Region.binds .any e = true → L e.on = true) → I L V w →
      ∀ K : Act → World → Prop, (∀ V' a' w', a' = A V' → I (alsoL L i) V' w' → K a' w') → if Region.wanted o (yielded ops (A V).tmps) = true then Oper.wp P o (A V) w K Q else K ((A V).put o.dst undef) w)
    (hend : ∀ L V w, (∀ i, i < ops.size → L i = true) → I L V w → Q .normal (A V) w) : (Code.region id ops true).wp P Q a w :=
  wp_region_inv2 A V0 I hm hd h0 hI (fun i o ho L V w hi hL _ h => hstep i o ho L V w hi hL h) hend
/-- an act, some of its slots set -/
def putAll (a : Act) (D : List Nat) (V : Nat → Value) : Act := { a with tmps := D.foldl (fun t d => t.setIfInBounds d (V d)) a.tmps }
theorem putAll_same (a : Act) (D : List Nat) : putAll a D (fun d => a.tmps.getD d undef) = a := by
  have : ∀ (D : List Nat) (t : Array Value), t = a.tmps → D.foldl (fun t d => t.setIfInBounds d (a.tmps.getD d undef)) t = a.tmps := by
    intro D
    induction D with
    | nil => intro t ht; exact ht
    | cons d D ih =>
      intro t ht
      refine ih _ ?_
      subst ht
      apply Array.ext
      · simp
      · intro j h1 h2
        rw [Array.getElem_setIfInBounds]
        split
        · rename_i h; subst h; simp [h2]
        · rfl
  unfold putAll
  rw [this D _ rfl]
/-- .. with the act as it stands, and the slots that are set -/
theorem wp_region_put {P : Program} {id : Nat} {ops : Array Oper} {Q : Exit → Act → World → Prop} {a : Act} {w : World} (D : List Nat) (I : (Nat → Bool) → (Nat → Value) → World → Prop)
    (hm : P.follows .mixedOrders = true) (hd : downOps ops = true) (hI : I (fun _ => false) (fun d => a.tmps.getD d undef) w.drew)
    (hstep : ∀ i o, ops[i]? = some o → ∀ L V w, L i = false → (∀ e ∈ o.after, Region.binds .any e = true → L e.on = true) → I L V w →
      ∀ K : Act → World → Prop, (∀ V' a' w', a' = putAll a D V' → I (alsoL L i) V' w' → K a' w') → if Region.wanted o (yielded ops (putAll a D V).tmps) = true then Oper.wp P o (putAll a D V) w K Q else K ((putAll a D V).put o.dst undef) w)
    (hend : ∀ L V w, (∀ i, i < ops.size → L i = true) → I L V w → Q .normal (putAll a D V) w) : (Code.region id ops true).wp P Q a w :=
  wp_region_inv (putAll a D) _ I hm hd (putAll_same a D).symm hI hstep hend
theorem wp_region_put2 {P : Program} {id : Nat} {ops : Array Oper} {Q : Exit → Act → World → Prop} {a : Act} {w : World} (D : List Nat) (I : (Nat → Bool) → (Nat → Value) → World → Prop)
    (hm : P.follows .mixedOrders = true) (hd : downOps ops = true) (hI : I (fun _ => false) (fun d => a.tmps.getD d undef) w.drew)
    (hstep : ∀ i o, ops[i]? = some o → ∀ L V w, L i = false → (∀ e ∈ o.after, Region.binds .any e = true → L e.on = true) → (∀ j, reach ops ops.size j i = true → L j = false) → I L V w →
      ∀ K : Act → World → Prop, (∀ V' a' w', a' = putAll a D V' → I (alsoL L i) V' w' → K a' w') → if Region.wanted o (yielded ops (putAll a D V).tmps) = true then Oper.wp P o (putAll a D V) w K Q else K ((putAll a D V).put o.dst undef) w)
    (hend : ∀ L V w, (∀ i, i < ops.size → L i = true) → I L V w → Q .normal (putAll a D V) w) : (Code.region id ops true).wp P Q a w :=
  wp_region_inv2 (putAll a D) _ I hm hd (putAll_same a D).symm hI hstep hend
/-- append of what can be read, as a step of such a region -/
theorem step_append_rd {P : Program} {ops : Array Oper} {o : Oper} {a : Act} {w : World} {K : Act → World → Prop} {Q : Exit → Act → World → Prop} (hgd : o.guard = none) (s x : Operand) (t : TypeId)
    (ho : o.op = .call { callee := .builtin .append, args := #[s, x], argTypes := #[t, t] })
    (base : Nat) (e : TypeId) (i : TypeInfo) (z : Value) (size bytes : Nat) (ht : P.underlying t = some (.slice e)) (hi : P.info? e = some i) (hz : i.zero = some z)
    (hsize : i.size = size) (hby : i.bytes = bytes) (hzs : z.cells.size = size) (hsz : 0 < size)
    (v : Value) (n : Nat) (xs : List Value) (hs : a.eval s = v) (hown : w.ownsRow base e size v n xs) (B : Nat) (A : Option Addr) (m c : Nat) (news : List Value) (hx : a.eval x = .slice A m c) (hl : news.length = m * size) (hr : Rd w B A news)
    (h1 : ∀ u ∈ news, u.oneCell' = true) (h63 : n + m ≤ maxLen) (hbytes : (n + m) * bytes ≤ 140737488355328) (hbase : base ≤ w.heap.size)
    (h : ∀ v' w', w'.ownsRow base e size v' (n + m) (xs ++ news) → w.grownBy w' v.ownBlock → (v'.ownBlock = v.ownBlock ∨ v'.ownBlock = some w.heap.size) → K (a.put o.dst v') w') :
    if Region.wanted o (yielded ops a.tmps) = true then Oper.wp P o a w K Q else K (a.put o.dst undef) w := by
  rw [if_pos (by simp [Region.wanted, hgd])]
  obtain ⟨v', w', hrun, h2, h3, h4⟩ := run_append_rd (P := P) w base t o.type e i z size bytes ht hi hz hsize hby hzs hsz v n xs hown B A m c news hl hr h1 h63 hbytes hbase
  unfold Oper.wp execOp
  simp only [ho, resolve, invoke, builtin, Sem.run_bind, Sem.run_pure, Result.andThen_ok, List.map_toArray, List.map_cons, List.map_nil, hs, hx, hrun]
  exact h v' w' h2 h3 h4
end Go.Proofs.Ytdogddngiolpoaa
