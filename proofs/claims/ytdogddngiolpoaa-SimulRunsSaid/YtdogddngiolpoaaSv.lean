/-
  What net.weave builds: two tables of rows, each row in a block of its own.
-/
import Derived.Test.YtdogddngiolpoaaSl
namespace Go.Proofs.Ytdogddngiolpoaa
open Go.RowKit

/-- a table of tables, one place changed -/
def up2 {α : Type} (f : Bool → Nat → α) (s : Bool) (t : Nat) (v : α) : Bool → Nat → α := fun s' j => if s' = s ∧ j = t then v else f s' j
theorem up2_self {α : Type} (f : Bool → Nat → α) (s : Bool) (t : Nat) (v : α) : up2 f s t v s t = v := by simp [up2]
theorem up2_ne {α : Type} (f : Bool → Nat → α) (s : Bool) (t : Nat) (v : α) {s' : Bool} {j : Nat} (h : ¬ (s' = s ∧ j = t)) : up2 f s t v s' j = f s' j := by simp only [up2, if_neg h]
/-- T: what the tables hold; V: the rows' values; R: the rows' numbers; bs: blocks that stay as they are -/
structure Wv (w0 w : World) (B : Nat) (gt : Bool → Nat) (n : Nat) (va : Value) (ars : List ArcV) (bs : List (Nat × TypeId × Array Value)) (T V : Bool → Nat → Value) (R : Bool → Nat → List Nat) : Prop where
  bel : Below B w0 w
  arcs : w.ownsRow B 52 5 va ars.length (cellsA ars)
  tab : ∀ s, w.ownsRow B 25 1 (.slice (some ⟨gt s, 0, none⟩) n n) n ((List.range n).map (T s))
  row : ∀ s j, j < n → w.ownsRow B 3 1 (V s j) (R s j).length (cellsI (ints (R s j)))
  dis : ∀ s j s' j', j < n → j' < n → (s, j) ≠ (s', j') → ∀ b, (V s j).ownBlock = some b → (V s' j').ownBlock ≠ some b
  gtd : gt false ≠ gt true
  bys : ∀ p ∈ bs, Blk w p.1 p.2.1 p.2.2
  bty : ∀ p ∈ bs, p.2.1 ≠ 3 ∧ p.2.1 ≠ 25
theorem own_block {w : World} {base : Nat} {e : TypeId} {size n : Nat} {v : Value} {xs : List Value} (h : w.ownsRow base e size v n xs) {b : Nat} (hb : v.ownBlock = some b) : ∃ cs, Blk w b e cs := by
  rcases h.2 with ⟨rfl, _⟩ | ⟨g, cap, cur, rfl, _, hg, _⟩
  · cases hb
  · simp only [Value.ownBlock] at hb
    injection hb with hb
    subst hb
    exact ⟨cur, hg⟩
theorem blk_ty {w : World} {g : Nat} {e t : TypeId} {cs cs' : Array Value} (h : Blk w g e cs) (h' : Blk w g t cs') : e = t := by
  have := h.symm.trans h'
  injection this with this
  injection this
theorem Wv.below {w0 w w' : World} {B : Nat} {gt : Bool → Nat} {n : Nat} {va : Value} {ars : List ArcV} {bs : List (Nat × TypeId × Array Value)} {T V : Bool → Nat → Value} {R : Bool → Nat → List Nat}
    (h : Wv w0 w B gt n va ars bs T V R) (hb : Below w.heap.size w w') : Wv w0 w' B gt n va ars bs T V R :=
  have hB : B ≤ w.heap.size := by
    have := (h.tab false).lt (gt false) rfl
    omega
  ⟨⟨hb.os.trans h.bel.os, hb.tape.trans h.bel.tape, hb.output.trans h.bel.output, Nat.le_trans h.bel.size hb.size, fun k hk => (hb.block k (by omega)).trans (h.bel.block k hk)⟩,
   own_below h.arcs hb, fun s => own_below (h.tab s) hb, fun s j hj => own_below (h.row s j hj) hb, h.dis, h.gtd, fun p hp => (h.bys p hp).below hb (h.bys p hp).lt, h.bty⟩
/-- a row has grown -/
theorem Wv.append {w0 w w' : World} {B : Nat} {gt : Bool → Nat} {n : Nat} {va : Value} {ars : List ArcV} {bs : List (Nat × TypeId × Array Value)} {T V : Bool → Nat → Value} {R : Bool → Nat → List Nat}
    (h : Wv w0 w B gt n va ars bs T V R) (hB0 : B ≤ w0.heap.size) (s : Bool) (t : Nat) (ht : t < n) (v' : Value) (i : Nat) (hg : w.grownBy w' (V s t).ownBlock)
    (hv : v'.ownBlock = (V s t).ownBlock ∨ v'.ownBlock = some w.heap.size) (ho : w'.ownsRow B 3 1 v' ((R s t).length + 1) (cellsI (ints (R s t)) ++ [.int .i64 (i : Int)])) :
    Wv w0 w' B gt n va ars bs T (up2 V s t v') (up2 R s t (R s t ++ [i])) := by
  have hrow := h.row s t ht
  have far : ∀ {e : TypeId} {size m : Nat} {v : Value} {xs : List Value}, w.ownsRow B e size v m xs → e ≠ 3 → v.ownBlock = none ∨ v.ownBlock ≠ (V s t).ownBlock := by
    intro e size m v xs hx he
    cases hv : v.ownBlock with
    | none => exact .inl rfl
    | some b =>
      refine .inr fun hc => ?_
      obtain ⟨c1, k1⟩ := own_block hx hv
      obtain ⟨c2, k2⟩ := own_block hrow hc.symm
      exact he (blk_ty k1 k2)
  have hB : B ≤ w.heap.size := Nat.le_trans hB0 h.bel.size
  refine ⟨h.bel.grown hg hB fun k hk => own_ge hrow hk, h.arcs.kept hg (far h.arcs (by decide)), fun s' => (h.tab s').kept hg (far (h.tab s') (by decide)), fun s' j hj => ?_, fun s1 j1 s2 j2 h1 h2 hne b hb => ?_, h.gtd, fun p hp => ?_, h.bty⟩
  · by_cases he : s' = s ∧ j = t
    · obtain ⟨rfl, rfl⟩ := he
      rw [up2_self, up2_self]
      have e1 : cellsI (ints (R s' j ++ [i])) = cellsI (ints (R s' j)) ++ [.int .i64 (i : Int)] := by simp [cellsI, ints]
      rw [e1, List.length_append]
      exact ho
    · rw [up2_ne _ _ _ _ he, up2_ne _ _ _ _ he]
      refine (h.row s' j hj).kept hg ?_
      cases hv : (V s' j).ownBlock with
      | none => exact .inl rfl
      | some b => exact .inr fun hc => h.dis s' j s t hj ht (fun h => he ⟨congrArg Prod.fst h, congrArg Prod.snd h⟩) b hv hc.symm
  · by_cases e1 : s1 = s ∧ j1 = t
    · obtain ⟨rfl, rfl⟩ := e1
      rw [up2_self] at hb
      rw [up2_ne _ _ _ _ (fun hc => hne (by rw [hc.1, hc.2]))]
      rcases hv with hv | hv
      · exact h.dis s1 j1 s2 j2 h1 h2 hne b (hv ▸ hb)
      · intro hc
        have h3 := (h.row s2 j2 h2).lt b hc
        rw [hv] at hb
        injection hb with hb
        omega
    · rw [up2_ne _ _ _ _ e1] at hb
      by_cases e2 : s2 = s ∧ j2 = t
      · obtain ⟨rfl, rfl⟩ := e2
        rw [up2_self]
        rcases hv with hv | hv
        · rw [hv]; exact h.dis s1 j1 s2 j2 h1 h2 hne b hb
        · intro hc
          have h3 := (h.row s1 j1 h1).lt b hb
          rw [hv] at hc
          injection hc with hc
          omega
      · rw [up2_ne _ _ _ _ e2]; exact h.dis s1 j1 s2 j2 h1 h2 hne b hb
  · refine (h.bys p hp).grown hg fun hc => ?_
    obtain ⟨c2, k2⟩ := own_block hrow hc.symm
    exact (h.bty p hp).1 (blk_ty (h.bys p hp) k2)
theorem row_set {n t : Nat} (f : Nat → Value) (v : Value) : ((List.range n).map f).set t v = (List.range n).map fun j => if j = t then v else f j := by
  apply List.ext_getElem
  · simp
  · intro j h1 h2
    simp only [List.getElem_set, List.getElem_map, List.getElem_range]
    by_cases h : t = j
    · subst h; simp
    · rw [if_neg h, if_neg (fun hc => h hc.symm)]
/-- a place of a table has been set -/
theorem Wv.store {w0 w : World} {B : Nat} {gt : Bool → Nat} {n : Nat} {va : Value} {ars : List ArcV} {bs : List (Nat × TypeId × Array Value)} {T V : Bool → Nat → Value} {R : Bool → Nat → List Nat}
    (h : Wv w0 w B gt n va ars bs T V R) (s : Bool) (t : Nat) (v' : Value) : Wv w0 (w.setCell ⟨gt s, t, none⟩ v') B gt n va ars bs (up2 T s t v') V R := by
  have htab := h.tab s
  obtain ⟨c1, k1⟩ := own_block htab rfl
  have hg1 := htab.lt (gt s) rfl
  refine ⟨h.bel.setCell hg1.1 _, own_set h.arcs k1 (by decide) _ _, fun s' => ?_, fun s' j hj => own_set (h.row s' j hj) k1 (by decide) _ _, h.dis, h.gtd, fun p hp => (h.bys p hp).far (fun hc => ?_) _, h.bty⟩
  · by_cases he : s' = s
    · subst he
      have h2 := htab.stored t v'
      rw [row_set _ _] at h2
      have e2 : (fun j => if j = t then v' else T s' j) = up2 T s' t v' s' := by funext j; simp [up2]
      rw [e2] at h2
      exact h2.1
    · have e2 : up2 T s t v' s' = T s' := by funext j; exact up2_ne _ _ _ _ (fun hc => he hc.1)
      rw [e2]
      refine (h.tab s').kept (htab.stored t v').2 (.inr fun hc => ?_)
      simp only [Value.ownBlock] at hc
      injection hc with hc
      have := h.gtd
      cases s <;> cases s' <;> simp_all
  · have hb := h.bys p hp
    rw [hc] at hb
    exact (h.bty p hp).2 (blk_ty hb k1)
/-- one block more that stays -/
theorem Wv.by_ {w0 w : World} {B : Nat} {gt : Bool → Nat} {n : Nat} {va : Value} {ars : List ArcV} {bs bs' : List (Nat × TypeId × Array Value)} {T V : Bool → Nat → Value} {R : Bool → Nat → List Nat}
    (h : Wv w0 w B gt n va ars bs T V R) (h1 : ∀ p ∈ bs', Blk w p.1 p.2.1 p.2.2) (h2 : ∀ p ∈ bs', p.2.1 ≠ 3 ∧ p.2.1 ≠ 25) : Wv w0 w B gt n va ars bs' T V R :=
  ⟨h.bel, h.arcs, h.tab, h.row, h.dis, h.gtd, h1, h2⟩
theorem own_apart {w w' : World} {B : Nat} {e : TypeId} {size n b : Nat} {v : Value} {xs : List Value} {t : TypeId} {cs : Array Value} (h : w.ownsRow B e size v n xs) (hk : Blk w b t cs) (ho : Only (fun k => k = b) w w') (he : e ≠ t) : w'.ownsRow B e size v n xs := by
  refine own_only h ho fun b' hb hc => ?_
  obtain ⟨c1, k1⟩ := own_block h hb
  subst hc
  exact he (blk_ty k1 hk)
/-- a block of another kind has changed -/
theorem Wv.only {w0 w w' : World} {B b : Nat} {gt : Bool → Nat} {n : Nat} {va : Value} {ars : List ArcV} {bs : List (Nat × TypeId × Array Value)} {T V : Bool → Nat → Value} {R : Bool → Nat → List Nat} {t : TypeId} {cs : Array Value}
    (h : Wv w0 w B gt n va ars bs T V R) (hk : Blk w b t cs) (hb : B ≤ b) (ho : Only (fun k => k = b) w w') (h1 : 3 ≠ t) (h2 : 25 ≠ t) (h3 : 52 ≠ t) : Wv w0 w' B gt n va ars [] T V R := by
  have hlt := hk.lt
  exact ⟨⟨ho.os.trans h.bel.os, ho.tape.trans h.bel.tape, ho.output.trans h.bel.output, Nat.le_trans h.bel.size ho.size, fun k hk => (ho.block k (by omega) (by omega)).trans (h.bel.block k hk)⟩,
    own_apart h.arcs hk ho h3, fun s => own_apart (h.tab s) hk ho h2, fun s j hj => own_apart (h.row s j hj) hk ho h1, h.dis, h.gtd, (by intros; contradiction), (by intros; contradiction)⟩
theorem Wv.cons {w0 w : World} {B : Nat} {gt : Bool → Nat} {n : Nat} {va : Value} {ars : List ArcV} {bs : List (Nat × TypeId × Array Value)} {T V : Bool → Nat → Value} {R : Bool → Nat → List Nat}
    (h : Wv w0 w B gt n va ars bs T V R) {g : Nat} {t : TypeId} {cs : Array Value} (hk : Blk w g t cs) (h1 : t ≠ 3) (h2 : t ≠ 25) : Wv w0 w B gt n va ars ((g, t, cs) :: bs) T V R := by
  refine h.by_ (fun p hp => ?_) (fun p hp => ?_)
  · rcases List.mem_cons.1 hp with rfl | hp
    · exact hk
    · exact h.bys p hp
  · rcases List.mem_cons.1 hp with rfl | hp
    · exact ⟨h1, h2⟩
    · exact h.bty p hp
theorem Wv.tail {w0 w : World} {B : Nat} {gt : Bool → Nat} {n : Nat} {va : Value} {ars : List ArcV} {b : Nat × TypeId × Array Value} {bs : List (Nat × TypeId × Array Value)} {T V : Bool → Nat → Value} {R : Bool → Nat → List Nat}
    (h : Wv w0 w B gt n va ars (b :: bs) T V R) : Wv w0 w B gt n va ars bs T V R :=
  h.by_ (fun p hp => h.bys p (List.mem_cons_of_mem _ hp)) (fun p hp => h.bty p (List.mem_cons_of_mem _ hp))
end Go.Proofs.Ytdogddngiolpoaa
