/-
  Fn, Fo2: texts pasted together.
-/
import Derived.Test.YtlpmnhllnfhkdaaDoorFp3
import Derived.Test.YtlpmnhllnfhkdaaDoorM6
import Derived.Deep.Onto
/-
  A net as new memory; two nets that are one; forest.Of with what it owns.
-/
namespace Go.Proofs.YtlpmnhllnfhkdaaDoor
open Go.RowKit

theorem info_arc : (Tryd.prog.info? 44).map (fun i => (i.zero, i.size, i.bytes)) = some (some (.agg #[.int .i64 0, .int .i64 0, .int .i64 0, .int .i64 0, .int .i64 0]), 5, 40) := by kernel_rfl
theorem cellsA_one (ars : List ArcV) : ∀ u ∈ cellsA ars, u.oneCell' = true := by
  intro u hu
  obtain ⟨a, _, h⟩ := List.mem_flatMap.1 hu
  simp [ArcV.cells] at h
  rcases h with rfl | rfl | rfl | rfl | rfl <;> rfl

set_option maxRecDepth 100000 in
set_option maxHeartbeats 1000000 in
theorem netCopy_any (n : Int) (ars : List ArcV) (A : Option Addr) (l c : Nat) (w : World) (hl : ars.length = l) (hr : Rd w w.heap.size A (cellsA ars)) (hm : l ≤ maxLen) (hz : l * 40 ≤ 140737488351232) :
    Calls Tryd.prog 12 #[.agg #[.int .i64 n, .slice A l c]] w fun e w' => ∃ A' c', e = .returned (.agg #[.int .i64 n, .slice A' l c']) ∧ w'.ownsRow w.heap.size 44 5 (.slice A' l c') l (cellsA ars) ∧ Below w.heap.size w w' := by
  obtain ⟨i1, hj, hy0, hy1, hy2⟩ := info_parts info_arc
  have hcl : (cellsA ars).length = l * 5 := by rw [cellsA_length, hl]
  have hb0 : ∀ o o', Below w.heap.size w ((w.alloc o).alloc o') := fun o o' => ((Below.refl _ _).alloc (Nat.le_refl _) o).alloc (by simp) o'
  have hr2 := (hr.below (hb0 (.cells #[.int .i64 n, .slice A l c] 24) (.cells #[.int .i64 0, .slice none 0 0] 24)) (Nat.le_refl _))
  have k1 := (Blk.new w _ rfl 24 #[.int .i64 n, .slice A l c]).alloc (.cells #[.int .i64 0, .slice none 0 0] 24)
  have k2 := Blk.new (w.alloc (.cells #[.int .i64 n, .slice A l c] 24)) (w.heap.size + 1) (by simp) 24 #[.int .i64 0, .slice none 0 0]
  have hb2 := hb0 (.cells #[.int .i64 n, .slice A l c] 24) (.cells #[.int .i64 0, .slice none 0 0] 24)
  have bz : ((w.alloc (.cells #[.int .i64 n, .slice A l c] 24)).alloc (.cells #[.int .i64 0, .slice none 0 0] 24)).heap.size = w.heap.size + 1 + 1 := by simp
  go_enter Tryd.func12, Tryd.ntmps12
  go_wp2_with (at_builtin; refine wpList_append_rd _ rfl _ _ 22 rfl (w.heap.size + 1 + 1) 44 i1 (.agg #[.int .i64 0, .int .i64 0, .int .i64 0, .int .i64 0, .int .i64 0]) 5 40 Tryd.underlying22 hj hy0 hy1 hy2 rfl (by decide) _ 0 [] rfl (World.ownsRow_nil _ _ _ _) w.heap.size A l c (cellsA ars) rfl hcl hr2 (cellsA_one ars) (by omega) (by omega) (by rw [bz]; exact Nat.le_refl _) ?_)
  intro v' w3 o3 g3 hb3
  obtain ⟨A3, c3, rfl, -⟩ := own_slice o3
  have h1 := k1.grown g3 (by simp [Value.ownBlock])
  have h2 := k2.grown g3 (by simp [Value.ownBlock])
  have hb3' := hb2.grown g3 (by rw [bz]; omega) (fun k hk => by simp [Value.ownBlock] at hk)
  have hl2 := h2.lt
  have n0 := h1.cell 0
  have z0 := h2.frozen 0
  have z1 := h2.frozen 1
  have s0 := h2.cell 0
  have s1 := h2.cell 1
  have t0 := ((h2.set 0 (.int .i64 n)).set 1 (.slice A3 l c3)).cell 0
  have t1 := ((h2.set 0 (.int .i64 n)).set 1 (.slice A3 l c3)).cell 1
  have bw := (hb3'.setCell (p := ⟨w.heap.size + 1, 0, none⟩) (by simp) (.int .i64 n)).setCell (p := ⟨w.heap.size + 1, 1, none⟩) (by simp) (.slice A3 l c3)
  have o4 := own_set (own_set o3 h2 (by decide) 0 (.int .i64 n)) (h2.set 0 (.int .i64 n)) (by decide) 1 (.slice A3 l c3)
  simp at n0 s0 s1 t0 t1
  clear k1 k2 hr2 hb2 bz g3 hb3 hb0 hb3' o3 h1 h2
  go_wp2
  exact bodyPost_ret (v := .agg #[.int .i64 n, .slice A3 l c3]) (by simp [results, Tryd.results12, go_sem, t0, t1]) rfl ⟨A3, c3, rfl, World.ownsRow.mono o4 (by omega), bw⟩

set_option maxRecDepth 100000 in
set_option maxHeartbeats 1000000 in
theorem sameNet_yes (n : Int) (ars : List ArcV) (A A' : Option Addr) (l c c' : Nat) (w : World) (hl : ars.length = l) (hx : ∀ a ∈ ars, a.fit) (hr : Rd w w.heap.size A (cellsA ars)) (hr' : Rd w w.heap.size A' (cellsA ars)) (hm : l ≤ maxLen) :
    Calls Tryd.prog 15 #[.agg #[.int .i64 n, .slice A l c], .agg #[.int .i64 n, .slice A' l c']] w fun e w' => e = .returned (.bool true) ∧ Below w.heap.size w w' := by
  subst hl
  unfold maxLen at hm
  have hb0 : ∀ o o', Below w.heap.size w ((w.alloc o).alloc o') := fun o o' => ((Below.refl _ _).alloc (Nat.le_refl _) o).alloc (by simp) o'
  have k1 := (Blk.new w _ rfl 24 #[.int .i64 n, .slice A ars.length c]).alloc (.cells #[.int .i64 n, .slice A' ars.length c'] 24)
  have k2 := Blk.new (w.alloc (.cells #[.int .i64 n, .slice A ars.length c] 24)) (w.heap.size + 1) (by simp) 24 #[.int .i64 n, .slice A' ars.length c']
  have hb2 := hb0 (.cells #[.int .i64 n, .slice A ars.length c] 24) (.cells #[.int .i64 n, .slice A' ars.length c'] 24)
  have hq : (n != n) = false := by simp
  have hq2 : ((ars.length : Int) != (ars.length : Int)) = false := by simp
  go_enter Tryd.func15, Tryd.ntmps15
  go_wp2
  go_loopw [5] (fun i wr => ∃ k : Nat, k ≤ ars.length ∧ i = .int .i64 k ∧ Below w.heap.size w wr ∧ Blk wr w.heap.size 24 #[.int .i64 n, .slice A ars.length c] ∧ Blk wr (w.heap.size + 1) 24 #[.int .i64 n, .slice A' ars.length c']) (fun i _ => ars.length - (intOf i).toNat)
  case atStart => exact ⟨0, by omega, rfl, hb2, k1, k2⟩
  case round =>
    clear k1 k2 hb2 hb0
    obtain ⟨k, hk, rfl, hb, kb, kb'⟩ := hrel
    have c0 := kb.cell 1
    have c1 := kb'.cell 1
    simp at c0 c1
    by_cases hlt : k < ars.length
    · obtain ⟨b, off, a, rfl, hbl, hf, c00, c01, c02, c03, c04, hd, hxx⟩ := (hr.below hb (Nat.le_refl _)).arc hx hlt
      obtain ⟨b', off', a', rfl, hbl', hf', c10, c11, c12, c13, c14, hd', hxx'⟩ := (hr'.below hb (Nat.le_refl _)).arc hx hlt
      obtain rfl : a' = a := by have h := hxx.out; rw [hxx'.out] at h; exact Option.some.inj h
      have h1 : (0 : Int) ≤ (k : Int) := by omega
      have h2 : (k : Int) < (ars.length : Int) := by omega
      go_wp2
      go_quiet (fail)
      go_wp2
      go_roundw
      case rel => exact ⟨k + 1, by omega, by go_num, Below.drewN hb _, kb, kb'⟩
      case measure => simp [intOf]; omega
    · go_wp2
      go_ret
      exact ⟨rfl, hb⟩

/-- forest.Of of any net, with what it owns -/
theorem ofOwn_any (n : Int) (ars : List ArcV) (A : Option Addr) (l c : Nat) (w : World) (hl : ars.length = l) (hx : ∀ a ∈ ars, a.fit) (hr : Rd w w.heap.size A (cellsA ars)) (hm : l ≤ maxLen) :
    Calls Tryd.prog 30 #[.agg #[.int .i64 n, .slice A l c]] w fun e w' => ∃ At ct Ah ch k tree home, e = .returned (.tuple #[.agg #[.slice At tree.length ct, .slice Ah home.length ch], .int .i64 k]) ∧ OfAns n ars k tree home ∧
      w'.ownsRow w.heap.size 3 1 (.slice At tree.length ct) tree.length (cellsI tree) ∧ w'.ownsRow w.heap.size 3 1 (.slice Ah home.length ch) home.length (cellsI home) ∧ (∀ b, blkOf At = some b → blkOf Ah ≠ some b) ∧ Below w.heap.size w w' := by
  by_cases hc : checkF n ars = 0
  · obtain ⟨m, rfl⟩ := checkF_nat hc
    refine (of_walk m ars A l c w hl hx hr hm hc).mono ?_
    rintro e w' ⟨At, ct, gh, rfl, hgh, ot, oh, hb⟩
    refine ⟨At, ct, some ⟨gh, 0, none⟩, m, 0, treeF m ars, homeF m ars, by rw [homeF_length], .inr ⟨hc, rfl, m, rfl, rfl, rfl⟩, World.ownsRow.mono ot (by omega), by rw [homeF_length]; exact World.ownsRow.mono oh hgh, ?_, hb⟩
    intro b hb hbe
    have := (ot.lt b (by rw [ownBlock_slice]; exact hb)).1
    simp only [blkOf] at hbe
    injection hbe with hbe
    omega
  · refine (of_bad n ars A l c w hl hx hr hm hc).mono ?_
    rintro e w' ⟨rfl, hb⟩
    exact ⟨none, 0, none, 0, checkF n ars, [], [], rfl, .inl ⟨hc, rfl, rfl, rfl⟩, World.ownsRow_nil _ _ _ _, World.ownsRow_nil _ _ _ _, (fun b h => by cases h), hb⟩
end Go.Proofs.YtlpmnhllnfhkdaaDoor
/-
  The law ForestOf.
-/
namespace Go.Proofs.YtlpmnhllnfhkdaaDoor
open Go.RowKit

theorem OfAns.one {n : Int} {ars : List ArcV} {k k' : Int} {tree tree' home home' : List Int} (h : OfAns n ars k tree home) (h' : OfAns n ars k' tree' home') : k' = k ∧ tree' = tree ∧ home' = home := by
  rcases h with ⟨hc, rfl, rfl, rfl⟩ | ⟨hc, rfl, m, rfl, rfl, rfl⟩ <;> rcases h' with ⟨hc', rfl, rfl, rfl⟩ | ⟨hc', rfl, m', hm, rfl, rfl⟩
  · exact ⟨rfl, rfl, rfl⟩
  · exact absurd hc' hc
  · exact absurd hc hc'
  · obtain rfl : m' = m := by omega
    exact ⟨rfl, rfl, rfl⟩
def two {α : Type} (a b : α) : Nat → α := fun j => if j = 0 then a else b

/-- Apart of two lists -/
theorem apart_two (A A' : Option Addr) (c c' : Nat) (xs xs' : List Int) (bo B : Nat) (w : World) (hn : xs.length ≤ 100000) (hn' : xs'.length ≤ 100000)
    (ho : w.ownsRow B 3 1 (.slice A xs.length c) xs.length (cellsI xs)) (ho' : w.ownsRow B 3 1 (.slice A' xs'.length c') xs'.length (cellsI xs')) (hd : ∀ b, blkOf A = some b → blkOf A' ≠ some b)
    (h0 : w.cell? ⟨bo, 0, none⟩ = some (.slice A xs.length c)) (h1 : w.cell? ⟨bo, 1, none⟩ = some (.slice A' xs'.length c')) (hb : blkOf A ≠ some bo) (hb' : blkOf A' ≠ some bo) (hbo : bo < w.heap.size) (hB : B ≤ w.heap.size) :
    Calls Tryd.prog 16 #[.slice (some ⟨bo, 0, none⟩) 2 2] w fun e w' => e = .returned (.bool true) ∧ Below B w w' := by
  have cas : ∀ j, j < 2 → j = 0 ∨ j = 1 := fun j hj => by omega
  refine apart_any 2 (two A A') (two xs.length xs'.length) (two c c') (two xs xs') bo 0 2 B w (by omega) ?_ ?_ ?_ ?_ ?_ hbo hB
  · intro j hj; rcases cas j hj with rfl | rfl
    · exact Nat.le_trans hn (by decide)
    · exact Nat.le_trans hn' (by decide)
  · intro j hj; rcases cas j hj with rfl | rfl
    · exact ho
    · exact ho'
  · intro j k hj hk hne b hbj
    rcases cas j hj with rfl | rfl <;> rcases cas k hk with rfl | rfl
    · omega
    · exact hd b hbj
    · intro he; exact hd b he hbj
    · omega
  · intro j hj; rcases cas j hj with rfl | rfl
    · exact h0
    · exact h1
  · intro j hj; rcases cas j hj with rfl | rfl
    · exact hb
    · exact hb'

end Go.Proofs.YtlpmnhllnfhkdaaDoor
