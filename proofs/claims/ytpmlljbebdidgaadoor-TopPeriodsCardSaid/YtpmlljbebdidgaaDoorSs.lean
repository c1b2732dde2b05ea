/-
  simul.Run: what it computes; its memory while it fires.
-/
import Derived.Test.YtpmlljbebdidgaaDoorSr
import Derived.Test.YtpmlljbebdidgaaDoorM16
namespace Go.Proofs.YtpmlljbebdidgaaDoor
open Go.RowKit

def leftF (rs : List Int) (F : Nat → Int) : Nat → Int := fun v => repAt rs v - F v
def leftSum (n : Nat) (L : Nat → Int) : Nat := ((List.range n).map fun v => (L v).toNat).sum
/-- firing, by a rule that picks who fires next -/
def runF (pick : (Nat → Int) → Int) : Nat → (Nat → Int) → List Int × (Nat → Int)
  | 0, F => ([], F)
  | f + 1, F => if 0 ≤ pick F then (pick F :: (runF pick f (bump F (pick F).toNat)).1, (runF pick f (bump F (pick F).toNat)).2) else ([], F)
/-- what is answered where nothing is wrong: the list, or the blocks -/
def endF (ars : List ArcV) (n : Nat) (rs : List Int) (r : List Int × (Nat → Int)) : List Int × List BlkV :=
  if blocksF ars n r.2 (leftF rs r.2) n = [] then (r.1, []) else ([], blocksF ars n r.2 (leftF rs r.2) n)
def pickS (ars : List ArcV) (n : Nat) (rs ps : List Int) (F : Nat → Int) : Int := bestF ars n F (leftF rs F) (rankF n ps 0) n
def ansF (pick : (Nat → Int) → Int) (n : Int) (ars : List ArcV) (rs ps : List Int) : List Int × List BlkV :=
  if wrongF n ars rs ps = 0 then endF ars n.toNat rs (runF pick (leftSum n.toNat (leftF rs fun _ => 0)) fun _ => 0) else ([], [])
theorem left_bump (rs : List Int) (F : Nat → Int) (v : Nat) : leftF rs (bump F v) = upd (leftF rs F) v (leftF rs F v - 1) := by
  funext j
  unfold leftF bump
  by_cases h : j = v
  · subst h; rw [upd_self, upd_self]; omega
  · rw [upd_other h, upd_other h]
theorem leftSum_upd (L : Nat → Int) (v : Nat) : ∀ n, v < n → 0 < L v → leftSum n L = leftSum n (upd L v (L v - 1)) + 1 := by
  intro n
  induction n with
  | zero => intro h; omega
  | succ n ih =>
    intro h hl
    unfold leftSum at *
    rw [List.range_succ, List.map_append, List.map_append, List.sum_append, List.sum_append]
    simp only [List.map_cons, List.map_nil, List.sum_cons, List.sum_nil]
    by_cases hv : v = n
    · subst hv
      have e : (List.range v).map (fun j => (upd L v (L v - 1) j).toNat) = (List.range v).map fun j => (L j).toNat :=
        List.map_congr_left fun j hj => by rw [upd_other (by have := List.mem_range.1 hj; omega)]
      rw [e, upd_self]
      omega
    · have := ih (by omega) hl
      rw [upd_other (show n ≠ v by omega)]
      omega
/-- what a rule may pick: a node that may fire and has firings left -/
def PickOk (ars : List ArcV) (n : Nat) (rs : List Int) (pick : (Nat → Int) → Int) : Prop := ∀ F, 0 ≤ pick F → ∃ v : Nat, pick F = v ∧ v < n ∧ 0 < leftF rs F v ∧ mayB ars n F v = true
theorem bestF_ok (ars : List ArcV) (n : Nat) (F Lf K : Nat → Int) (k : Nat) (h : 0 ≤ bestF ars n F Lf K k) : ∃ v : Nat, bestF ars n F Lf K k = v ∧ v < k ∧ 0 < Lf v ∧ mayB ars n F v = true := by
  induction k with
  | zero => simp [bestF] at h
  | succ k ih =>
    rw [bestF_succ] at h ⊢
    unfold bestStep at h ⊢
    split
    · rename_i h1
      exact ⟨k, rfl, by omega, h1.1, h1.2.1⟩
    · rename_i h1
      rw [if_neg h1] at h
      obtain ⟨v, e, h2, h3⟩ := ih h
      exact ⟨v, e, by omega, h3⟩
theorem pickS_ok (ars : List ArcV) (n : Nat) (rs ps : List Int) : PickOk ars n rs (pickS ars n rs ps) := fun _ h => bestF_ok _ _ _ _ _ _ h
theorem runF_go {ars : List ArcV} {n : Nat} {rs : List Int} {pick : (Nat → Int) → Int} (hp : PickOk ars n rs pick) {F : Nat → Int} (h : 0 ≤ pick F) :
    runF pick (leftSum n (leftF rs F)) F = (pick F :: (runF pick (leftSum n (leftF rs (bump F (pick F).toNat))) (bump F (pick F).toNat)).1, (runF pick (leftSum n (leftF rs (bump F (pick F).toNat))) (bump F (pick F).toNat)).2) := by
  obtain ⟨v, e, h1, h2, h3⟩ := hp F h
  have hs := leftSum_upd (leftF rs F) v n h1 h2
  rw [← left_bump] at hs
  rw [hs, e, Int.toNat_natCast]
  simp only [runF]
  rw [if_pos h, e, Int.toNat_natCast]
theorem runF_stop {pick : (Nat → Int) → Int} {F : Nat → Int} (h : ¬ 0 ≤ pick F) : ∀ f, runF pick f F = ([], F)
  | 0 => rfl
  | f + 1 => by simp only [runF]; rw [if_neg h]
/-- a period's memory while it is built; wZ: the world when it began -/
structure RunX (wZ w : World) (B Z : Nat) (r : RM) (s : SM) (n : Nat) (ars : List ArcV) (F Lf K : Nat → Int) (lv : Value) (ls : List Int) : Prop where
  only : Only (fun k => k = s.gt ∨ k = s.gf ∨ Z ≤ k) wZ w
  blk : Blk w r.gr 93 #[.pointer (some ⟨s.gs, 0, none⟩), .slice (some ⟨r.gl, 0, none⟩) n r.cl, .slice (some ⟨r.gk, 0, none⟩) n n, lv]
  tok : w.ownsRow B 3 1 (.slice (some ⟨s.gt, 0, none⟩) ars.length ars.length) ars.length (cellsI (rowF (tokI ars F) ars.length))
  fir : w.ownsRow B 3 1 (.slice (some ⟨s.gf, 0, none⟩) n n) n (cellsI (rowF F n))
  lef : w.ownsRow Z 3 1 (.slice (some ⟨r.gl, 0, none⟩) n r.cl) n (cellsI (rowF Lf n))
  rnk : w.ownsRow Z 3 1 (.slice (some ⟨r.gk, 0, none⟩) n n) n (cellsI (rowF K n))
  lst : w.ownsRow Z 3 1 lv ls.length (cellsI ls)
  grz : Z ≤ r.gr
  gkl : r.gl ≠ r.gk
  nl : ∀ b, lv.ownBlock = some b → b ≠ r.gl ∧ b ≠ r.gk
theorem RunX.st {wZ w : World} {B Z : Nat} {r : RM} {s : SM} {n : Nat} {ars : List ArcV} {F F0 Lf K : Nat → Int} {lv : Value} {ls : List Int} (h : RunX wZ w B Z r s n ars F Lf K lv ls) (hS : St wZ B s n ars F0) (hZ : Z = wZ.heap.size) : St w B s n ars F :=
  hS.only h.only (fun k h1 h2 h3 hx => by rcases hx with hx | hx | hx <;> omega) h.tok h.fir
theorem RunX.run {wZ w : World} {B Z : Nat} {r : RM} {s : SM} {n : Nat} {ars : List ArcV} {F F0 Lf K : Nat → Int} {lv : Value} {ls : List Int} (h : RunX wZ w B Z r s n ars F Lf K lv ls) (hS : St wZ B s n ars F0) (hZ : Z = wZ.heap.size) (hB : B ≤ Z) : RunT w B r s n ars F Lf K lv :=
  ⟨h.blk, h.st hS hZ, h.lef.mono hB, h.rnk.mono hB⟩
theorem RunX.below {wZ w w' : World} {B Z : Nat} {r : RM} {s : SM} {n : Nat} {ars : List ArcV} {F Lf K : Nat → Int} {lv : Value} {ls : List Int} (h : RunX wZ w B Z r s n ars F Lf K lv ls) (hb : Below w.heap.size w w') : RunX wZ w' B Z r s n ars F Lf K lv ls :=
  ⟨h.only.below hb, h.blk.below hb h.blk.lt, own_below h.tok hb, own_below h.fir hb, own_below h.lef hb, own_below h.rnk hb, own_below h.lst hb, h.grz, h.gkl, h.nl⟩
/-- a node has fired -/
theorem RunX.fire {wZ w w' : World} {B Z : Nat} {r : RM} {s : SM} {n : Nat} {ars : List ArcV} {F F' Lf K : Nat → Int} {lv : Value} {ls : List Int} (h : RunX wZ w B Z r s n ars F Lf K lv ls) (ho : Only (fun k => k = s.gt ∨ k = s.gf) w w') (hS : St w' B s n ars F') (h1 : s.gt < Z) (h2 : s.gf < Z) : RunX wZ w' B Z r s n ars F' Lf K lv ls := by
  have row : ∀ {v : Value} {m : Nat} {xs : List Value}, w.ownsRow Z 3 1 v m xs → w'.ownsRow Z 3 1 v m xs := by
    intro v m xs hr
    refine own_only hr ho fun b hb hx => ?_
    have := own_ge hr hb
    rcases hx with hx | hx <;> omega
  exact ⟨h.only.trans (ho.mono fun k _ hx => by rcases hx with hx | hx; exact .inl hx; exact .inr (.inl hx)), (ho.block _ h.blk.lt (fun hx => by have := h.grz; rcases hx with hx | hx <;> omega)).trans h.blk, hS.tok, hS.fir, row h.lef, row h.rnk, row h.lst, h.grz, h.gkl, h.nl⟩
/-- what is left of a node has been set -/
theorem RunX.setLeft {wZ w : World} {B Z : Nat} {r : RM} {s : SM} {n : Nat} {ars : List ArcV} {F Lf K : Nat → Int} {lv : Value} {ls : List Int} (h : RunX wZ w B Z r s n ars F Lf K lv ls) (v : Nat) (x : Int) (h1 : s.gt < Z) (h2 : s.gf < Z) :
    RunX wZ (w.setCell ⟨r.gl, v, none⟩ (.int .i64 x)) B Z r s n ars F (upd Lf v x) K lv ls := by
  have st := (h.lef.stored v (.int .i64 x)).1
  rw [cellsI_put, rowF_set] at st
  have hgl := (h.lef.lt r.gl rfl).1
  have ho := onlySet w ⟨r.gl, v, none⟩ (.int .i64 x)
  obtain ⟨cl, kl⟩ := own_block h.lef rfl
  refine ⟨h.only.trans (ho.mono fun k _ hx => .inr (.inr (by have : k = r.gl := hx; omega))), h.blk.far (fun hx => absurd (blk_ty (hx ▸ h.blk) kl) (by decide)) _, own_only h.tok ho (fun b hb hx => ?_), own_only h.fir ho (fun b hb hx => ?_), st, own_only h.rnk ho (fun b hb hx => ?_), own_only h.lst ho (fun b hb hx => ?_), h.grz, h.gkl, h.nl⟩
  · have : s.gt = b := by simpa [Value.ownBlock] using hb
    have : b = r.gl := hx
    omega
  · have : s.gf = b := by simpa [Value.ownBlock] using hb
    have : b = r.gl := hx
    omega
  · have h3 : r.gk = b := by simpa [Value.ownBlock] using hb
    have h4 : b = r.gl := hx
    exact h.gkl (by omega)
  · exact (h.nl b hb).1 hx
/-- the list has grown -/
theorem RunX.push {wZ w w' : World} {B Z : Nat} {r : RM} {s : SM} {n : Nat} {ars : List ArcV} {F Lf K : Nat → Int} {lv v' : Value} {ls : List Int} (h : RunX wZ w B Z r s n ars F Lf K lv ls) (x : Int) (h1 : s.gt < Z) (h2 : s.gf < Z)
    (hg : w.grownBy w' lv.ownBlock) (hv : v'.ownBlock = lv.ownBlock ∨ v'.ownBlock = some w.heap.size) (ho : w'.ownsRow Z 3 1 v' (ls.length + 1) (cellsI ls ++ [.int .i64 x])) : RunX wZ (w'.setCell ⟨r.gr, 3, none⟩ v') B Z r s n ars F Lf K v' (ls ++ [x]) := by
  have kb : Blk w' r.gr 93 #[.pointer (some ⟨s.gs, 0, none⟩), .slice (some ⟨r.gl, 0, none⟩) n r.cl, .slice (some ⟨r.gk, 0, none⟩) n n, lv] := h.blk.grown hg fun hc => by
    obtain ⟨c, k⟩ := own_block h.lst hc.symm
    exact absurd (blk_ty h.blk k) (by decide)
  have kb2 := kb.set 3 v'
  simp only [List.setIfInBounds_toArray, List.set_cons_zero, List.set_cons_succ] at kb2
  have row : ∀ {v : Value} {m C : Nat} {xs : List Value}, w.ownsRow C 3 1 v m xs → (∀ b, v.ownBlock = some b → lv.ownBlock ≠ some b) → (w'.setCell ⟨r.gr, 3, none⟩ v').ownsRow C 3 1 v m xs := by
    intro v m C xs hr hb
    refine own_set (hr.kept hg ?_) kb (by decide) _ _
    cases hv : v.ownBlock with
    | none => exact .inl rfl
    | some b => exact .inr fun hc => hb b hv hc.symm
  have hgl := (h.lef.lt r.gl rfl)
  have hgk := (h.rnk.lt r.gk rfl)
  have e1 : cellsI (ls ++ [x]) = cellsI ls ++ [.int .i64 x] := by simp [cellsI]
  refine ⟨?_, kb2, row h.tok (fun b hb hc => ?_), row h.fir (fun b hb hc => ?_), row h.lef (fun b hb hc => ?_), row h.rnk (fun b hb hc => ?_), ?_, h.grz, h.gkl, fun b hb => ?_⟩
  · refine ⟨hg.os.trans h.only.os, hg.tape.trans h.only.tape, hg.output.trans h.only.output, by have := h.only.size; have := hg.size; simp; omega, fun k hk hx => ?_⟩
    have hks := h.only.size
    rw [Below.heap_setCell _ _ _ _ (fun hc => hx (.inr (.inr (by have := h.grz; have : k = r.gr := hc; omega))))]
    rw [hg.block k (by omega) (fun hc => hx (.inr (.inr (own_ge h.lst hc.symm))))]
    exact h.only.block k hk hx
  · have e : s.gt = b := by simpa [Value.ownBlock] using hb
    have := own_ge h.lst hc
    omega
  · have e : s.gf = b := by simpa [Value.ownBlock] using hb
    have := own_ge h.lst hc
    omega
  · have e : r.gl = b := by simpa [Value.ownBlock] using hb
    exact (h.nl b hc).1 e.symm
  · have e : r.gk = b := by simpa [Value.ownBlock] using hb
    exact (h.nl b hc).2 e.symm
  · rw [e1, List.length_append]
    exact own_set ho kb (by decide) _ _
  · rcases hv with hv | hv
    · exact h.nl b (hv ▸ hb)
    · rw [hv] at hb
      injection hb with hb
      omega
theorem rowF_reps {n : Nat} {rs : List Int} (h : rs.length = n) : rowF (leftF rs fun _ => 0) n = rs := by
  apply List.ext_getElem
  · simp [rowF, h]
  · intro j h1 h2
    simp [rowF, leftF, repAt, h2]
theorem fire_one {ars : List ArcV} {n v : Nat} {F : Nat → Int} (h : mayB ars n F v = true) : fireN ars n F [(v : Int)] = 1 ∧ fireF ars n F [(v : Int)] = bump F v := by
  simp [fireN, fireF, h]
theorem leftSum_le {n m : Nat} {L : Nat → Int} (h : ∀ v, v < n → L v ≤ m) : leftSum n L ≤ n * m := by
  induction n with
  | zero => simp [leftSum]
  | succ n ih =>
    have h1 := ih fun v hv => h v (by omega)
    have h2 := h n (by omega)
    unfold leftSum at *
    rw [List.range_succ, List.map_append, List.sum_append]
    simp only [List.map_cons, List.map_nil, List.sum_cons, List.sum_nil]
    rw [Nat.succ_mul]
    omega
end Go.Proofs.YtpmlljbebdidgaaDoor
