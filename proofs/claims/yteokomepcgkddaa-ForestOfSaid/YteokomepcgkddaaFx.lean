/-
  Steps: are two rows the same; a row turned about.
-/
import Derived.Test.YteokomepcgkddaaFw
import Derived.Deep.RegionHeld3
namespace Go.Proofs.Yteokomepcgkddaa
open Go.RowKit

theorem Rd.step {w : World} {B : Nat} {A : Option Addr} {p : List Stp} {k : Nat} (h : Rd w B A (cellsS p)) (hk : k < p.length) :
    ∃ b off s, A = some ⟨b, off, none⟩ ∧ b < B ∧ w.cell? ⟨b, off + k * 2, none⟩ = some (.int .i64 (s.1 : Nat)) ∧ w.cell? ⟨b, off + k * 2 + 1, none⟩ = some (.bool s.2) ∧ Hid (p.drop k = s :: p.drop (k + 1)) ∧ Hid (p[k]? = some s) := by
  rcases h with h | ⟨b, off, ha, hb, hc⟩
  · have := cellsS_length p; rw [h] at this; simp at this; omega
  · have hg : p[k]? = some p[k] := List.getElem?_eq_getElem hk
    obtain ⟨h1, h2⟩ := cellsS_at p k p[k] hg
    exact ⟨b, off, p[k], ha, hb, hc _ _ h1, by rw [Nat.add_assoc]; exact hc _ _ h2, List.drop_eq_getElem_cons hk, hg⟩

set_option maxHeartbeats 400000 in
theorem sameSteps_yes (xs : List Stp) (A A' : Option Addr) (n c c' B B' : Nat) (w : World) (hn : xs.length = n) (hr : Rd w B A (cellsS xs)) (hr' : Rd w B' A' (cellsS xs)) (hl : n ≤ maxLen) :
    Calls Try.prog 18 #[.slice A n c, .slice A' n c'] w fun e w' => e = .returned (.bool true) ∧ Drawn w w' := by
  subst hn
  unfold maxLen at hl
  go_enter Try.func18, Try.ntmps18
  go_wp2
  go_loopw [5] (fun i wr => ∃ k : Nat, k ≤ xs.length ∧ i = .int .i64 k ∧ Drawn w wr) (fun i _ => xs.length - (intOf i).toNat)
  case atStart => exact ⟨0, by omega, rfl, Drawn.refl w⟩
  case round =>
    obtain ⟨k, hk, rfl, hdw⟩ := hrel
    by_cases hlt : k < xs.length
    · obtain ⟨b, off, s, rfl, hb, hc1, hc2, hd, hxx⟩ := (hdw.rd hr).step hlt
      obtain ⟨b', off', s', rfl, hb', hc1', hc2', hd', hxx'⟩ := (hdw.rd hr').step hlt
      obtain rfl : s' = s := by have h := hxx.out; rw [hxx'.out] at h; exact Option.some.inj h
      have h1 : (0 : Int) ≤ (k : Int) := by omega
      have h2 : (k : Int) < (xs.length : Int) := by omega
      go_wp2
      go_quiet (fail)
      go_wp2
      go_roundw
      case rel => exact ⟨k + 1, by omega, by go_num, hdw.drewN _⟩
      case measure => simp [intOf]; omega
    · go_wp2
      go_ret
      exact ⟨rfl, hdw⟩

theorem turned_drop {p : List Stp} {j : Nat} {s : Stp} (h : p.drop j = s :: p.drop (j + 1)) : turned (p.drop j) = turned (p.drop (j + 1)) ++ [(s.1, !s.2)] := by rw [h, turned_cons]
theorem turned_length (p : List Stp) : (turned p).length = p.length := by simp [turned]

set_option maxHeartbeats 1000000 in
theorem turned_any (p : List Stp) (A : Option Addr) (n c : Nat) (w : World) (hn : p.length = n) (hr : Rd w w.heap.size A (cellsS p)) (hl : n ≤ 100000) :
    Calls Try.prog 21 #[.slice A n c] w fun e w' => ∃ A' c', e = .returned (.slice A' n c') ∧ w'.ownsRow w.heap.size 48 2 (.slice A' n c') n (cellsS (turned p)) ∧ Below w.heap.size w w' := by
  obtain ⟨i1, hj, hy0, hy1, hy2⟩ := info_parts info_step
  subst hn
  go_enter Try.func21, Try.ntmps21
  go_wp2
  go_loopw [3, 4] (fun v i wr => ∃ (j : Nat) (A' : Option Addr) (c' : Nat), j ≤ p.length ∧ i = .int .i64 ((j : Int) - 1) ∧ v = .slice A' (p.length - j) c' ∧ wr.ownsRow w.heap.size 48 2 (.slice A' (p.length - j) c') (p.length - j) (cellsS (turned (p.drop j))) ∧ Below w.heap.size w wr) (fun _ i _ => (intOf i + 1).toNat)
  case atStart => exact ⟨p.length, none, 0, Nat.le_refl _, rfl, by simp, by rw [List.drop_length, Nat.sub_self]; exact World.ownsRow_nil _ _ _ _, Below.refl _ _⟩
  case round =>
    obtain ⟨j, A', c', hjl, rfl, rfl, ho, hb⟩ := hrel
    match j, hjl, ho with
    | 0, hjl, ho =>
      rw [Nat.sub_zero] at *
      go_wp2
      go_ret
      exact ⟨A', c', rfl, ho, hb⟩
    | j + 1, hjl, ho =>
      rw [show (((j + 1 : Nat) : Int) - 1) = (j : Int) by omega]
      obtain ⟨b, off, s, rfl, hbl, hc1, hc2, hd, hxx⟩ := (hr.below hb (Nat.le_refl _)).step (k := j) (by omega)
      have hlt := ho.lt
      have hne : (Value.slice A' (p.length - (j + 1)) c').ownBlock ≠ some b := fun he => by have := (hlt b he).1; omega
      have h1 : (0 : Int) ≤ (j : Int) := by omega
      have h2 : (j : Int) < (p.length : Int) := by omega
      have hsz := hb.size
      go_wp2
      go_region_held3 (fun w' => w'.cell? ⟨b, off + j * 2, none⟩ = some (.int .i64 (s.1 : Nat)) ∧ w'.cell? ⟨b, off + j * 2 + 1, none⟩ = some (.bool s.2))
        (first
          | go_keep
          | (go_split_ands
             refine ⟨?_, ?_⟩
             · (rw [hgrow.cell_far _ (by simp; omega) (Ne.symm hne)]; assumption)
             · (rw [hgrow.cell_far _ (by simp; omega) (Ne.symm hne)]; assumption)))
        ((refine step_append_lies _ (by rfl) _ _ _ (by rfl) w.heap.size 48 i1 _ 2 16 Try.underlying38 hj hy0 hy1 hy2 rfl (by omega) (.slice A' (p.length - (j + 1)) c') (p.length - (j + 1)) (cellsS (turned (p.drop (j + 1)))) (by rfl) ((ho.alloc _).drew)
            ⟨wr.heap.size, 0, none⟩ 1 1 [.int .i64 (s.1 : Nat), .bool (!s.2)] (by rfl) (by rfl) (World.news_of_block (cs := #[.int .i64 (s.1 : Nat), .bool (!s.2)]) (t := 48) (fr := (0, 0)) (heap_alloc_new wr _)) (by simp [Value.oneCell'])
            (by omega) (by unfold maxLen; omega) (by omega) (by simp; omega) (wr.heap.size + 1) (by simp) ?_; intro gg cap w1 hown1 hgrow hat hlt'))
      have hb2 : Below w.heap.size w ((wr.alloc (.cells #[.int .i64 (s.1 : Nat), .bool (!s.2)] 48)).drew) := Below.drewN (hb.alloc hb.size _) 1
      have hb3 := hb2.grown hgrow hb2.size (fun k hk => (hlt k hk).1)
      have ho3 : w1.ownsRow w.heap.size 48 2 (.slice (some ⟨gg, 0, none⟩) (p.length - j) cap) (p.length - j) (cellsS (turned (p.drop j))) := by
        rw [turned_drop hd.out, show cellsS (turned (p.drop (j + 1)) ++ [(s.1, !s.2)]) = cellsS (turned (p.drop (j + 1))) ++ [.int .i64 (s.1 : Nat), .bool (!s.2)] by simp [cellsS, stepCells]]
        rw [show p.length - (j + 1) + 1 = p.length - j by omega] at hown1
        exact hown1
      have e0 : p.length - (j + 1) + 1 = p.length - j := by omega
      rw [e0]
      clear hown1 hgrow hat hlt' hc1 hc2 hb2 hne hlt e0 hd hxx
      go_wp2
      go_roundw
      case rel => exact ⟨j, _, cap, by omega, by go_num, rfl, ho3, hb3⟩
      case measure => simp [intOf]
end Go.Proofs.Yteokomepcgkddaa
