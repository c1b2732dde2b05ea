/-
  pianolaref15.order.
-/
import Derived.Test.YtdogddngiolpoaaSn
namespace Go.Proofs.Ytdogddngiolpoaa
open Go.RowKit

/-- the nodes from the greatest down to j -/
def downF (n j : Nat) : List Int := ((List.range (n - j)).map fun i => ((n - 1 - i : Nat) : Int))
theorem downF_step {n j : Nat} (h : j < n) : downF n j = downF n (j + 1) ++ [(j : Int)] := by
  unfold downF
  rw [show n - j = n - (j + 1) + 1 by omega, List.range_succ, List.map_append]
  congr 1
  simp; omega

set_option maxHeartbeats 1000000 in
theorem order_any (n : Nat) (u : Value) (ps : List Int) (A : Option Addr) (l c : Nat) (w : World) (n32 : n ≤ 32) (hl : ps.length = l) (hr : Rd w w.heap.size A (cellsI ps)) (hm : l * 8 ≤ 140737488351232) :
    Calls Try.prog 28 #[.agg #[.int .i64 n, u], .slice A l c] w fun e w' => ∃ A' c', e = .returned (.slice A' (l + n) c') ∧ w'.ownsRow w.heap.size 3 1 (.slice A' (l + n) c') (l + n) (cellsI (ps ++ downF n 0)) ∧ Below w.heap.size w w' := by
  subst hl
  obtain ⟨i0, hi, hz0, hz1, hz2⟩ := info_parts info_int
  have b1 := (Below.refl w.heap.size w).alloc (Nat.le_refl _) (.cells #[.int .i64 n, u] 24)
  have k1 := Blk.new w _ rfl 24 #[.int .i64 n, u]
  have r1 := hr.below b1 (Nat.le_refl _)
  have hcl := cellsI_length ps
  go_enter Try.func28, Try.ntmps28
  go_wp2_with (at_builtin; refine wpList_append_rd _ rfl _ _ 25 rfl w.heap.size 3 i0 (.int .i64 0) 1 8 Try.underlying25 hi hz0 hz1 hz2 rfl (by decide) _ 0 [] rfl (World.ownsRow_nil _ _ _ _) w.heap.size A ps.length c (cellsI ps) rfl (by rw [hcl, Nat.mul_one]) r1 (cellsI_one _) (by unfold maxLen; omega) (by omega) (by simp) ?_)
  intro v' w2 o2 g2 h2
  obtain ⟨A2, c2, rfl, -⟩ := own_slice o2
  have hb2 := b1.grown g2 b1.size (fun k hk => by simp [Value.ownBlock] at hk)
  have k2 := k1.grown g2 (by simp [Value.ownBlock])
  have s0 := k2.cell 0
  simp at s0
  have o3 : w2.ownsRow w.heap.size 3 1 (.slice A2 (ps.length + (n - n)) c2) (ps.length + (n - n)) (cellsI (ps ++ downF n n)) := by
    have : downF n n = [] := by simp [downF]
    rw [this, List.append_nil, Nat.sub_self, Nat.add_zero]
    simpa using o2
  clear b1 k1 r1 g2 h2 k2 o2
  go_wp2
  go_loopw [5, 6] (fun s i wr => ∃ (j : Nat) (A' : Option Addr) (c' : Nat), j ≤ n ∧ i = .int .i64 ((j : Int) - 1) ∧ s = .slice A' (ps.length + (n - j)) c' ∧ wr.ownsRow w.heap.size 3 1 (.slice A' (ps.length + (n - j)) c') (ps.length + (n - j)) (cellsI (ps ++ downF n j)) ∧ Below w.heap.size w wr) (fun _ i _ => (intOf i + 1).toNat)
  case atStart => exact ⟨n, A2, c2, by omega, by go_num, by simp, o3, hb2⟩
  case round =>
    clear hb2 o3 s0
    obtain ⟨j, A', c', hj, rfl, rfl, ho, hb⟩ := hrel
    match j, hj, ho with
    | 0, hj, ho =>
      rw [Nat.sub_zero] at *
      go_wp2
      go_ret
      exact ⟨A', c', rfl, ho, hb⟩
    | j + 1, hj, ho =>
      rw [show (((j + 1 : Nat) : Int) - 1) = (j : Int) by omega]
      go_wp2_with (at_builtin; refine wpList_append_rd _ rfl _ _ 25 rfl w.heap.size 3 i0 (.int .i64 0) 1 8 Try.underlying25 hi hz0 hz1 hz2 rfl (by decide) _ (ps.length + (n - (j + 1))) (cellsI (ps ++ downF n (j + 1))) rfl (ho.alloc _) (wr.heap.size + 1) (some ⟨wr.heap.size, 0, none⟩) 1 1 (cellsI [(j : Int)]) rfl rfl (rd_alloc wr wr.heap.size rfl 3 (cellsI [(j : Int)])) (cellsI_one [(j : Int)]) (by unfold maxLen; omega) (by omega) (by have := hb.size; simp; omega) ?_)
      intro v' w3 o3 g3 h3
      obtain ⟨A3, c3, rfl, -⟩ := own_slice o3
      have hb3 := (hb.alloc hb.size _).grown g3 (by have := hb.size; simp; omega) (fun k hk => (ho.lt k hk).1)
      have o4 : w3.ownsRow w.heap.size 3 1 (.slice A3 (ps.length + (n - j)) c3) (ps.length + (n - j)) (cellsI (ps ++ downF n j)) := by
        rw [downF_step (show j < n by omega), ← List.append_assoc, show ps.length + (n - j) = ps.length + (n - (j + 1)) + 1 by omega]
        simpa [cellsI] using o3
      have el : ps.length + (n - (j + 1)) + 1 = ps.length + (n - j) := by omega
      rw [el]
      clear o3 g3 h3 ho hb el
      go_wp2
      go_roundw
      case rel => exact ⟨j, A3, c3, by omega, by go_num, rfl, o4, hb3⟩
      case measure => simp [intOf]
end Go.Proofs.Ytdogddngiolpoaa
