/-
  frac.New, and the reference's New.
-/
import Derived.Test.YtblkcdenmgkddaaDoorKc
namespace Go.Proofs.YtblkcdenmgkddaaDoor
open Go.RowKit

theorem low_eq (n d : Int) : lowE ((decide (n < 0) != decide (d < 0)) && decide (n.natAbs ≠ 0)) (n.natAbs / Nat.gcd n.natAbs d.natAbs) (d.natAbs / Nat.gcd n.natAbs d.natAbs) =
    if (okB (newN n d) && okB (newD n d)) = true then .returned (.agg #[.int .i64 (newN n d), .int .i64 (newD n d)]) else big := by
  have e : sgnI ((decide (n < 0) != decide (d < 0)) && decide (n.natAbs ≠ 0)) (n.natAbs / Nat.gcd n.natAbs d.natAbs) = newN n d := by
    by_cases h0 : n.natAbs = 0
    · unfold newN; rw [h0]; simp [sgnI]
    · unfold newN; simp [h0]
  have e2 : sgnI false (d.natAbs / Nat.gcd n.natAbs d.natAbs) = newD n d := rfl
  by_cases h : (okB (newN n d) && okB (newD n d)) = true
  · rw [if_pos h]
    rw [Bool.and_eq_true, okB_iff, okB_iff] at h
    rw [lowE_yes (by unfold sOk; rw [e]; exact h.1) (by unfold sOk; rw [e2]; exact h.2), e]; rfl
  · rw [if_neg h]
    rw [Bool.and_eq_true, okB_iff, okB_iff] at h
    exact lowE_no fun hh => h ⟨by rw [← e]; exact hh.1, by rw [← e2]; exact hh.2⟩

def bigR : List PanicEntry := [{ v := .iface 24 (.int .i64 4), recovered := true }]
theorem settle_big : settle (.panicking bigR) = .returning := rfl
/-- the world behind a closure that lays nought over nought and the error -/
def givenUp (w : World) (g h : Nat) : World := ((w.setCell ⟨g, 0, none⟩ (.int .i64 0)).setCell ⟨g, 1, none⟩ (.int .i64 0)).setCell ⟨h, 0, none⟩ (.int .i64 4)
theorem givenUp_blk {w : World} {g h : Nat} {u0 u1 u2 : Value} (k0 : Blk w g 34 #[u0, u1]) (k1 : Blk w h 24 #[u2]) (hne : g ≠ h) :
    Blk (givenUp w g h) g 34 #[.int .i64 0, .int .i64 0] ∧ Blk (givenUp w g h) h 24 #[.int .i64 4] := by
  have a0 := (k0.set 0 (.int .i64 0)).set 1 (.int .i64 0)
  have a1 := a0.far (p := ⟨h, 0, none⟩) hne (.int .i64 4)
  have b0 := ((k1.far (p := ⟨g, 0, none⟩) (fun e => hne e.symm) (.int .i64 0)).far (p := ⟨g, 1, none⟩) (fun e => hne e.symm) (.int .i64 0)).set 0 (.int .i64 4)
  unfold givenUp
  exact ⟨by simpa using a1, by simpa using b0⟩
theorem givenUp_below {w W : World} {B g h : Nat} (hb : Below B w W) (hg : B ≤ g) (hh : B ≤ h) : Below B w (givenUp W g h) :=
  ((hb.setCell (p := ⟨g, 0, none⟩) hg _).setCell (p := ⟨g, 1, none⟩) hg _).setCell (p := ⟨h, 0, none⟩) hh _
theorem blk_facts {w : World} {g h : Nat} {u0 u1 u2 : Value} (k0 : Blk w g 34 #[u0, u1]) (k1 : Blk w h 24 #[u2]) (hne : g ≠ h) :
    w.cell? ⟨g, 0, none⟩ = some u0 ∧ (w.setCell ⟨g, 0, none⟩ (.int .i64 0)).cell? ⟨g, 1, none⟩ = some u1 ∧ ((w.setCell ⟨g, 0, none⟩ (.int .i64 0)).setCell ⟨g, 1, none⟩ (.int .i64 0)).cell? ⟨h, 0, none⟩ = some u2 ∧
    w.frozen? ⟨g, 0, none⟩ = false ∧ (w.setCell ⟨g, 0, none⟩ (.int .i64 0)).frozen? ⟨g, 1, none⟩ = false ∧ ((w.setCell ⟨g, 0, none⟩ (.int .i64 0)).setCell ⟨g, 1, none⟩ (.int .i64 0)).frozen? ⟨h, 0, none⟩ = false := by
  have a0 := k0.set 0 (.int .i64 0)
  have b0 := (k1.far (p := ⟨g, 0, none⟩) (fun e => hne e.symm) (.int .i64 0)).far (p := ⟨g, 1, none⟩) (fun e => hne e.symm) (.int .i64 0)
  exact ⟨(k0.cell 0).trans (by simp), (a0.cell 1).trans (by simp), (b0.cell 0).trans (by simp), k0.frozen 0, a0.frozen 1, b0.frozen 0⟩

/-- the deferred closures of New and Mul: one text -/
def idlePost (w : World) (e : Ending) (u' : FrameMode) (w' : World) : Prop := e = .returned (.tuple #[]) ∧ u' = .returning ∧ w' = w
def bigPost (w : World) (g h : Nat) (e : Ending) (u' : FrameMode) (w' : World) : Prop := e = .returned (.tuple #[]) ∧ u' = .panicking bigR ∧ w' = givenUp w g h

set_option maxHeartbeats 1000000 in
theorem new1_idle (p q : Addr) (w : World) : CallsD Tryd.prog 45 #[.pointer (some p), .pointer (some q)] .returning w (idlePost w) := by
  refine callsD_of_wpS Tryd.func45 rfl fun c₀ cs hu => ?_
  apply wpS_seq
  apply wpS_region
  simp [wpOpsS, go_sem, recoverD, hu, Tryd.ntmps45, Exit.thenS]
  apply wpS_seq
  apply wpS_region
  simp [wpOpsS, go_sem, Exit.thenS]
  refine wpS_cond (t := false) (by simp [Act.eval, Array.replicate]) ?_
  simp only [Bool.false_eq_true, if_false]
  refine wpS_of_wp (wp_skip ?_)
  cases c₀
  simp_all [bodyPostS, results, Tryd.results45, idlePost]

set_option maxHeartbeats 1000000 in
theorem new1_big (g h : Nat) (u0 u1 u2 : Value) (w : World) (k0 : Blk w g 34 #[u0, u1]) (k1 : Blk w h 24 #[u2]) (hne : g ≠ h) :
    CallsD Tryd.prog 45 #[.pointer (some ⟨g, 0, none⟩), .pointer (some ⟨h, 0, none⟩)] (.panicking bigP) w (bigPost w g h) := by
  obtain ⟨c0, c1, c2, z0, z1, z2⟩ := blk_facts k0 k1 hne
  refine callsD_of_wpS Tryd.func45 rfl fun c₀ cs hu => ?_
  apply wpS_seq
  apply wpS_region
  simp [wpOpsS, go_sem, recoverD, hu, Tryd.ntmps45, Exit.thenS, bigP]
  apply wpS_seq
  apply wpS_region
  simp [wpOpsS, go_sem, Exit.thenS]
  refine wpS_cond (t := true) (by simp [Act.eval, Array.replicate]) ?_
  simp only [if_true]
  apply wpS_region
  simp [wpOpsS, go_sem, c0, c1, c2, z0, z1, z2, bodyPostS, results, Tryd.results45, bigPost, givenUp, bigR]

set_option maxHeartbeats 1000000 in
theorem new_any (n d : Int) (w : World) (hn : fits n) (hd : fits d) :
    Calls Tryd.prog 36 #[.int .i64 n, .int .i64 d] w fun e w' => e = .returned (.tuple #[.agg #[.int .i64 (newR n d).1.n, .int .i64 (newR n d).1.d], .int .i64 (newR n d).2]) ∧ Below w.heap.size w w' := by
  have hmf : ∀ (fn : Fn) (first cap : Array Value) (w : World), (Instr.makeFunc fn first cap).run Tryd.prog w = .ok (.func fn first cap) w := fun _ _ _ _ => rfl
  obtain ⟨W, hW⟩ : ∃ W, (w.alloc (.cells #[.int .i64 0, .int .i64 0] 34)).alloc (.cells #[.int .i64 0] 24) = W := ⟨_, rfl⟩
  have bW : Below w.heap.size w W := by subst hW; exact ((Below.refl _ _).alloc (Nat.le_refl _) _).alloc (by simp) _
  have k0 : Blk W w.heap.size 34 #[.int .i64 0, .int .i64 0] := by subst hW; exact (Blk.new w _ rfl _ _).alloc _
  have k1 : Blk W (w.heap.size + 1) 24 #[.int .i64 0] := by subst hW; exact Blk.new _ _ (by simp) _ _
  have hWs : W.heap.size = w.heap.size + 2 := by subst hW; simp
  by_cases h0 : d = 0
  · have e : newR n d = (⟨0, 0⟩, 20) := by unfold newR; rw [if_pos h0]
    rw [e]
    have hz : (d == 0) = true := by simpa using h0
    clear e h0
    have f0 := k0.cell 0
    have f1 := k0.cell 1
    have f2 := k1.cell 0
    have z0 := k0.frozen 0
    have z1 := k0.frozen 1
    have z2 := k1.frozen 0
    have k2 := (k0.set 0 (.int .i64 0)).set 1 (.int .i64 0)
    have k3 := k2.far (p := ⟨w.heap.size + 1, 0, none⟩) (by simp) (.int .i64 20)
    have k4 := ((k1.far (p := ⟨w.heap.size, 0, none⟩) (by simp) (.int .i64 0)).far (p := ⟨w.heap.size, 1, none⟩) (by simp) (.int .i64 0)).set 0 (.int .i64 20)
    have bb := ((bW.setCell (p := ⟨w.heap.size, 0, none⟩) (Nat.le_refl _) (.int .i64 0)).setCell (p := ⟨w.heap.size, 1, none⟩) (Nat.le_refl _) (.int .i64 0)).setCell (p := ⟨w.heap.size + 1, 0, none⟩) (by simp) (.int .i64 20)
    have c0 := k3.cell 0
    have c1 := k3.cell 1
    have c2 := k4.cell 0
    simp at f0 f1 f2 c0 c1 c2
    clear k0 k1 k2 k3 k4
    go_enter_defers Tryd.func36, Tryd.ntmps36
    go_wp2_with fail
    exact ⟨.tuple #[.agg #[.int .i64 0, .int .i64 0], .int .i64 20], by simp [results, Tryd.results36, go_sem, c0, c1, c2], rfl, bb⟩
  · have hz : (d == 0) = false := by simpa using h0
    have hl := fun w => low_any (decide (n < 0) != decide (d < 0)) n.natAbs d.natAbs w (natAbs_lt hn) (natAbs_lt hd) (by omega)
    rw [low_eq n d] at hl
    by_cases hok : (okB (newN n d) && okB (newD n d)) = true
    · have e : newR n d = (⟨newN n d, newD n d⟩, 0) := by unfold newR; rw [if_neg h0, if_pos hok]
      rw [e]
      rw [if_pos hok] at hl
      have Hl := Lib.hid hl
      clear e h0 hok hl
      generalize newN n d = x at *
      generalize newD n d = y at *
      go_enter_defers Tryd.func36, Tryd.ntmps36
      go_wp2_with (first | (go_at_call 47; refine (fsize_any _ _ (by assumption)).mono ?_; rintro e w' ⟨rfl, rfl⟩))
      try rw [hW]
      refine (Hl.out _).mono ?_
      rintro e w2 ⟨rfl, hb2⟩
      have a0 := k0.kept hb2
      have a1 := k1.kept hb2
      have b2 := bW.trans (hb2.mono (by omega))
      have f0 := a0.cell 0
      have f1 := a0.cell 1
      have f2 := a1.cell 0
      have z0 := a0.frozen 0
      have z1 := a0.frozen 1
      have z2 := a1.frozen 0
      simp only [List.getElem?_toArray, List.getElem?_cons_zero, List.getElem?_cons_succ] at f0 f1 f2
      have k2 := (a0.set 0 (.int .i64 x)).set 1 (.int .i64 y)
      have k3 := k2.far (p := ⟨w.heap.size + 1, 0, none⟩) (by simp) (.int .i64 0)
      have k4 := ((a1.far (p := ⟨w.heap.size, 0, none⟩) (by simp) (.int .i64 x)).far (p := ⟨w.heap.size, 1, none⟩) (by simp) (.int .i64 y)).set 0 (.int .i64 0)
      have bb := ((b2.setCell (p := ⟨w.heap.size, 0, none⟩) (Nat.le_refl _) (.int .i64 x)).setCell (p := ⟨w.heap.size, 1, none⟩) (Nat.le_refl _) (.int .i64 y)).setCell (p := ⟨w.heap.size + 1, 0, none⟩) (by simp) (.int .i64 0)
      have c0 := k3.cell 0
      have c1 := k3.cell 1
      have c2 := k4.cell 0
      simp at c0 c1 c2
      clear k0 k1 k2 k3 k4 a0 a1 b2 hW
      go_wp2_with fail
      refine leaves_cons (f := 45) (args := #[.pointer (some ⟨w.heap.size, 0, none⟩), .pointer (some ⟨w.heap.size + 1, 0, none⟩)]) (by simp) (by simp [go_sem]) ?_
      refine (new1_idle _ _ _).mono ?_
      rintro e u' w'' ⟨rfl, rfl, rfl⟩
      exact ⟨.tuple #[.agg #[.int .i64 x, .int .i64 y], .int .i64 0], by simp [results, Tryd.results36, go_sem, c0, c1, c2], rfl, bb⟩
    · have e : newR n d = (⟨0, 0⟩, 4) := by unfold newR; rw [if_neg h0, if_neg hok]
      rw [e]
      rw [if_neg hok] at hl
      have Hl := Lib.hid hl
      clear e h0 hok hl
      go_enter_defers Tryd.func36, Tryd.ntmps36
      go_wp2_with (first | (go_at_call 47; refine (fsize_any _ _ (by assumption)).mono ?_; rintro e w' ⟨rfl, rfl⟩))
      try rw [hW]
      refine (Hl.out _).mono ?_
      rintro e w2 ⟨rfl, hb2⟩
      have a0 := k0.kept hb2
      have a1 := k1.kept hb2
      have b2 := bW.trans (hb2.mono (by omega))
      obtain ⟨g0, g1⟩ := givenUp_blk a0 a1 (by simp)
      have c0 := g0.cell 0
      have c1 := g0.cell 1
      have c2 := g1.cell 0
      simp at c0 c1 c2
      refine leaves_cons (f := 45) (args := #[.pointer (some ⟨w.heap.size, 0, none⟩), .pointer (some ⟨w.heap.size + 1, 0, none⟩)]) (by simp) (by simp [go_sem]) ?_
      refine (new1_big _ _ _ _ _ _ a0 a1 (by simp)).mono ?_
      rintro e u' w'' ⟨rfl, rfl, rfl⟩
      exact ⟨.tuple #[.agg #[.int .i64 0, .int .i64 0], .int .i64 4], by simp [results, Tryd.results36, go_sem, c0, c1, c2], rfl, givenUp_below b2 (Nat.le_refl _) (by omega)⟩

end Go.Proofs.YtblkcdenmgkddaaDoor
