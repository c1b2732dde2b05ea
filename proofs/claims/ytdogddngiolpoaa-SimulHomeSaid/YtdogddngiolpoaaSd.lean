/-
  net.State: Fired, Counts.
-/
import Derived.Test.YtdogddngiolpoaaSc
namespace Go.Proofs.Ytdogddngiolpoaa
open Go.RowKit

/-- a new empty slice -/
theorem own_empty (w : World) (b : Nat) (hb : b = w.heap.size) (e : TypeId) (size : Nat) : (w.alloc (.cells #[] e)).ownsRow b e size (.slice (some ⟨b, 0, none⟩) 0 0) 0 [] := by
  subst hb
  exact ⟨by simp, .inr ⟨w.heap.size, 0, #[], rfl, Nat.le_refl _, heap_alloc_new w _, Nat.le_refl _, by unfold maxLen; omega, by simp, by simp⟩⟩
theorem rowF_length (F : Nat → Int) (n : Nat) : (rowF F n).length = n := by simp [rowF]

set_option maxHeartbeats 400000 in
theorem fired_any (n : Nat) (ars : List ArcV) (F : Nat → Int) (B : Nat) (s : SM) (w : World) (hN : NetOk n ars) (hS : St w B s n ars F) :
    Calls Try.prog 21 #[.pointer (some ⟨s.gs, 0, none⟩)] w fun e w' => ∃ A c, e = .returned (.slice A n c) ∧ w'.ownsRow w.heap.size 3 1 (.slice A n c) n (cellsI (rowF F n)) ∧ Below w.heap.size w w' := by
  obtain ⟨i, hi, hz0, hz1, hz2⟩ := info_parts info_int
  have n32 := hN.n32
  have l96 := hN.l96
  have c4 := (hS.blk.alloc (.cells #[] 3)).cell 4
  simp at c4
  have hr := rd_of_own hS.fir
  have b1 := (Below.refl w.heap.size w).alloc (Nat.le_refl _) (.cells #[] 3)
  have o1 := own_empty w _ rfl 3 1
  have hcl : (cellsI (rowF F n)).length = n * 1 := by rw [cellsI_length, rowF_length, Nat.mul_one]
  have r1 := hr.below b1 (Nat.le_refl _)
  go_enter Try.func21, Try.ntmps21
  go_wp2_with (at_builtin; refine wpList_append_rd _ rfl _ _ 25 rfl w.heap.size 3 i (.int .i64 0) 1 8 Try.underlying25 hi hz0 hz1 hz2 rfl (by decide) _ 0 [] rfl o1 w.heap.size (some ⟨s.gf, 0, none⟩) n n (cellsI (rowF F n)) rfl hcl r1 (cellsI_one _) (by unfold maxLen; omega) (by omega) (by simp) ?_)
  intro v' w2 o2 g2 h2
  obtain ⟨A', c', rfl, hc'⟩ := own_slice o2
  have hb : Below w.heap.size w w2 := b1.grown g2 b1.size (fun k hk => by simp only [Value.ownBlock] at hk; injection hk with hk; omega)
  clear b1 o1 r1 hr c4 g2 h2
  go_wp2
  go_ret
  exact ⟨A', c', rfl, o2, hb⟩

set_option maxHeartbeats 400000 in
theorem counts_any (n : Nat) (ars : List ArcV) (F : Nat → Int) (B : Nat) (s : SM) (w : World) (hN : NetOk n ars) (hS : St w B s n ars F) :
    Calls Try.prog 26 #[.pointer (some ⟨s.gs, 0, none⟩)] w fun e w' => ∃ A c, e = .returned (.slice A ars.length c) ∧ w'.ownsRow w.heap.size 3 1 (.slice A ars.length c) ars.length (cellsI (rowF (tokI ars F) ars.length)) ∧ Below w.heap.size w w' := by
  obtain ⟨i, hi, hz0, hz1, hz2⟩ := info_parts info_int
  have n32 := hN.n32
  have l96 := hN.l96
  have c4 := (hS.blk.alloc (.cells #[] 3)).cell 3
  simp at c4
  have hr := rd_of_own hS.tok
  have b1 := (Below.refl w.heap.size w).alloc (Nat.le_refl _) (.cells #[] 3)
  have o1 := own_empty w _ rfl 3 1
  have hcl : (cellsI (rowF (tokI ars F) ars.length)).length = ars.length * 1 := by rw [cellsI_length, rowF_length, Nat.mul_one]
  have r1 := hr.below b1 (Nat.le_refl _)
  go_enter Try.func26, Try.ntmps26
  go_wp2_with (at_builtin; refine wpList_append_rd _ rfl _ _ 25 rfl w.heap.size 3 i (.int .i64 0) 1 8 Try.underlying25 hi hz0 hz1 hz2 rfl (by decide) _ 0 [] rfl o1 w.heap.size (some ⟨s.gt, 0, none⟩) ars.length ars.length (cellsI (rowF (tokI ars F) ars.length)) rfl hcl r1 (cellsI_one _) (by unfold maxLen; omega) (by omega) (by simp) ?_)
  intro v' w2 o2 g2 h2
  obtain ⟨A', c', rfl, hc'⟩ := own_slice o2
  have hb : Below w.heap.size w w2 := b1.grown g2 b1.size (fun k hk => by simp only [Value.ownBlock] at hk; injection hk with hk; omega)
  clear b1 o1 r1 hr c4 g2 h2
  go_wp2
  go_ret
  exact ⟨A', c', rfl, o2, hb⟩
end Go.Proofs.Ytdogddngiolpoaa
