/-
  Kept answers true of a list that was lent and is as it was; awake answers true.
-/
import Derived.Test.YtblkcdenmgkddaaDoorIe
namespace Go.Proofs.YtblkcdenmgkddaaDoor
open Go.RowKit

theorem AllFit.lent (xs : List Int) (h : AllFit xs) : AllFit (xs ++ marks) := by
  intro x hx
  rcases List.mem_append.1 hx with hx | hx
  · exact h x hx
  · simp [marks] at hx; subst hx; unfold fits; omega

/-- what a list that is lent owns, as cells -/
theorem lent_cells {w : World} {base g n : Nat} {xs : List Int} (h : w.ownsRow base 3 1 (.slice (some ⟨g, 0, none⟩) (n + 4) (n + 4)) (n + 4) (cellsI (xs ++ marks))) (hn : xs.length = n) :
    Rd w w.heap.size (some ⟨g, 0, none⟩) (cellsI xs) ∧ ∀ j, n ≤ j → j < n + 4 → w.cell? ⟨g, j, none⟩ = some (.int .i64 (-7770777)) := by
  have hr := rd_of_own h
  rcases hr with hr | ⟨b, off, ha, hb, hc⟩
  · have := h.1; rw [hr] at this; simp at this
  · injection ha with ha
    injection ha with ha1 ha2
    subst ha1 ha2
    refine ⟨.inr ⟨g, 0, rfl, hb, fun j u hu => hc j u ?_⟩, fun j h1 h2 => ?_⟩
    · have hj := (List.getElem?_eq_some_iff.1 hu).1
      unfold cellsI at hu hj ⊢
      rw [List.map_append, List.getElem?_append_left hj]; exact hu
    · have hcj := hc j (.int .i64 (-7770777)) (by
        rw [cellsI, List.map_append, List.getElem?_append_right (by simpa [hn] using h1)]
        obtain ⟨d, rfl⟩ : ∃ d, j = n + d := ⟨j - n, by omega⟩
        have e : n + d - (List.map (Value.int .i64) xs).length = d := by simp [hn]
        rw [e]
        match d, h2 with
        | 0, _ => rfl
        | 1, _ => rfl
        | 2, _ => rfl
        | 3, _ => rfl
        | d + 4, h2 => exact absurd h2 (by omega))
      rwa [Nat.zero_add] at hcj

set_option maxHeartbeats 1000000 in
theorem kept_yes (xs : List Int) (A : Option Addr) (n c g B base : Nat) (w : World) (hn : xs.length = n) (hx : AllFit xs) (hr : Rd w B A (cellsI xs)) (hl : n * 8 ≤ 140737488351232)
    (hown : w.ownsRow base 3 1 (.slice (some ⟨g, 0, none⟩) (n + 4) (n + 4)) (n + 4) (cellsI (xs ++ marks))) :
    Calls Tryd.prog 15 #[.slice (some ⟨g, 0, none⟩) n (n + 4), .slice A n c] w fun e w' => e = .returned (.bool true) ∧ Drawn w w' := by
  obtain ⟨hr', hm⟩ := lent_cells hown hn
  clear hown
  go_enter Tryd.func15, Tryd.ntmps15
  go_wp2_with (go_at_call 14; refine (sameInts_yes xs _ _ _ _ _ _ _ _ hn hx hr' hr (by unfold maxLen; omega)).mono ?_; rintro e w' ⟨rfl, hd1⟩)
  go_loopw [6] (fun i wr => ∃ k : Nat, n ≤ k ∧ k ≤ n + 4 ∧ i = .int .i64 k ∧ Drawn w wr) (fun i _ => n + 4 - (intOf i).toNat)
  case atStart => exact ⟨n, by omega, by omega, rfl, by assumption⟩
  case round =>
    obtain ⟨k, hk1, hk2, rfl, hdw⟩ := hrel
    by_cases hlt : k < n + 4
    · have hck : wr.cell? ⟨g, k, none⟩ = some (.int .i64 (-7770777)) := (hdw.cell _).trans (hm k hk1 hlt)
      go_wp2
      go_roundw
      case rel => exact ⟨k + 1, by omega, by omega, by go_num, hdw⟩
      case measure => simp [intOf]; omega
    · go_wp2
      go_ret
      exact ⟨rfl, hdw⟩

theorem Below.drewN {B : Nat} {a w : World} (h : Below B a w) (n : Nat) : Below B a (w.drewN n) := ⟨h.os, h.tape, h.output, h.size, h.block⟩
theorem Tab.alloc {w : World} (h : Tab w) (o : Obj) : Tab (w.alloc o) := h.below ((Below.refl _ _).alloc (Nat.le_refl _) o) h.pos
theorem Tab.drewN {w : World} (h : Tab w) (n : Nat) : Tab (w.drewN n) := h
theorem rd_alloc (w : World) (b : Nat) (hb : b = w.heap.size) (T : TypeId) (cs : List Value) : Rd (w.alloc (.cells cs.toArray T)) (b + 1) (some ⟨b, 0, none⟩) cs := by
  subst hb
  refine .inr ⟨w.heap.size, 0, rfl, by omega, fun j u hu => ?_⟩
  rw [Nat.zero_add, cell_of_row _ _ _ cs.toArray T (0, 0) (heap_alloc_new w _)]
  simpa using hu

theorem mul_23 (w : World) : Calls Tryd.prog 44 #[.int .i64 (-2), .int .i64 3] w fun e w' => e = .returned (.tuple #[.int .i64 (-6), .bool true]) ∧ w = w' :=
  (mul_any (-2) 3 w (by unfold fits; omega) (by unfold fits; omega)).mono fun _ _ ⟨h, h'⟩ => ⟨h.trans (tup2 (by decide) (by decide)), h'⟩
theorem allFit_lit {xs : List Int} (h : ∀ x ∈ xs, -9223372036854775808 ≤ x ∧ x ≤ 9223372036854775807) : AllFit xs := fun x hx => h x hx
theorem gcd_lit (w : World) (b : Nat) (hb : b = w.heap.size) (hT : Tab w) : Calls Tryd.prog 31 #[.slice (some ⟨b, 0, none⟩) 2 2] (w.alloc (.cells #[.int .i64 12, .int .i64 (-18)] 3)) fun e w' => e = .returned (.tuple #[.int .i64 6, .bool true]) ∧ (w.alloc (.cells #[.int .i64 12, .int .i64 (-18)] 3)) = w' :=
  (gcd_any [12, -18] _ 2 2 (b + 1) _ rfl (allFit_lit (by simp)) (rd_alloc w b hb 3 (cellsI [12, -18])) (by unfold maxLen; decide) (hT.alloc _)).mono fun _ _ ⟨h, h'⟩ => ⟨h.trans (tup2 (by decide) (by decide)), h'⟩

end Go.Proofs.YtblkcdenmgkddaaDoor
