/-
  pianolakeep.Lent, pianolakeep.Kept, pianolaref00.SameInts (of the ints seat's texts, for a seat that has no ints).
-/
import Derived.Test.YtdogddngiolpoaaBa
namespace Go.Proofs.Ytdogddngiolpoaa
open Go.RowKit

set_option maxHeartbeats 400000 in
theorem sameInts_yes (xs : List Int) (A A' : Option Addr) (n c c' B B' : Nat) (w : World) (hn : xs.length = n) (hx : AllFit xs) (hr : Rd w B A (cellsI xs)) (hr' : Rd w B' A' (cellsI xs)) (hl : n ≤ maxLen) :
    Calls Try.prog 18 #[.slice A n c, .slice A' n c'] w fun e w' => e = .returned (.bool true) ∧ Drawn w w' := by
  subst hn
  unfold maxLen at hl
  have hq : ((xs.length : Int) != (xs.length : Int)) = false := by simp
  go_enter Try.func18, Try.ntmps18
  go_wp2
  go_loopw [5] (fun i wr => ∃ k : Nat, k ≤ xs.length ∧ i = .int .i64 k ∧ Drawn w wr) (fun i _ => xs.length - (intOf i).toNat)
  case atStart => exact ⟨0, by omega, rfl, Drawn.refl w⟩
  case round =>
    obtain ⟨k, hk, rfl, hdw⟩ := hrel
    by_cases hlt : k < xs.length
    · obtain ⟨b, off, x, rfl, hb, hxk, hc, hd, hxx⟩ := (hdw.rd hr).at_ hx hlt
      obtain ⟨b', off', x', rfl, hb', hxk', hc', hd', hxx'⟩ := (hdw.rd hr').at_ hx hlt
      obtain rfl : x' = x := by have h := hxx.out; rw [hxx'.out] at h; exact Option.some.inj h
      have h1 : (0 : Int) ≤ (k : Int) := by omega
      have h2 : (k : Int) < (xs.length : Int) := by omega
      have h3 : (x' != x') = false := by simp
      go_wp2
      go_quiet (fail)
      go_wp2
      go_roundw
      case rel => exact ⟨k + 1, by omega, by go_num, hdw.drewN _⟩
      case measure => simp [intOf]; omega
    · go_wp2
      go_ret
      exact ⟨rfl, hdw⟩

/-- the marks behind a list that is lent -/
def marks : List Int := [-7770777, -7770777, -7770777, -7770777]

set_option maxHeartbeats 1000000 in
theorem lent_any (xs : List Int) (A : Option Addr) (n c B : Nat) (w : World) (hn : xs.length = n) (hr : Rd w B A (cellsI xs)) (hl : n * 8 ≤ 140737488351232) (hB : B ≤ w.heap.size) :
    Calls Try.prog 9 #[.slice A n c] w fun e w' => ∃ g, e = .returned (.slice (some ⟨g, 0, none⟩) n (n + 4)) ∧ w.heap.size ≤ g ∧
      w'.ownsRow w.heap.size 3 1 (.slice (some ⟨g, 0, none⟩) (n + 4) (n + 4)) (n + 4) (cellsI (xs ++ marks)) ∧ Below w.heap.size w w' := by
  obtain ⟨i, hi, hz0, hz1, hz2⟩ := info_parts info_int
  have hcl := cellsI_length xs
  go_enter Try.func9, Try.ntmps9
  go_wp2_with (at_make; refine wpList_make_own _ rfl _ _ 25 rfl w.heap.size 3 i (.int .i64 0) 1 Try.underlying25 hi hz0 hz1 _ _ _ (n + 4) rfl rfl (by omega) (by rw [hz2]; omega) (by unfold maxLen; omega) (Nat.le_refl _) ?_)
  intro w1 hown hg
  have hb1 : Below w.heap.size w w1 := (Below.refl _ _).grown hg (Nat.le_refl _) (fun k hk => by cases hk)
  have hr1 := hr.below hb1 hB
  go_wp2_with (at_builtin; refine wpList_append_fits_rd _ rfl _ _ 25 rfl w.heap.size 3 i 1 Try.underlying25 hi hz1 (by decide) w.heap.size 0 (n + 4) [] rfl hown B A n c (cellsI xs) rfl (by rw [hcl, hn]; omega) hr1 (cellsI_one xs) (by omega) ?_)
  intro w2 hown2 hg2
  have hb2 : Below w.heap.size w w2 := hb1.grown hg2 hb1.size (fun k hk => by injection hk with hk; omega)
  clear hr1 hb1 hown hg hg2 hr
  go_wp2
  go_loopw [3, 4] (fun v i wr => ∃ k : Nat, k ≤ 4 ∧ i = .int .i64 k ∧ v = .slice (some ⟨w.heap.size, 0, none⟩) (n + k) (n + 4) ∧ wr.ownsRow w.heap.size 3 1 (.slice (some ⟨w.heap.size, 0, none⟩) (n + k) (n + 4)) (n + k) (cellsI (xs ++ marks.take k)) ∧ Below w.heap.size w wr) (fun _ i _ => 4 - (intOf i).toNat)
  case atStart => exact ⟨0, by omega, rfl, rfl, by simpa [cellsI] using hown2, hb2⟩
  case round =>
    obtain ⟨k, hk, rfl, rfl, hown, hb⟩ := hrel
    by_cases hlt : k < 4
    · go_wp2_with (at_builtin; refine wpList_append_fits _ rfl _ _ 25 rfl w.heap.size 3 i 1 Try.underlying25 hi hz1 w.heap.size (n + k) (n + 4) (cellsI (xs ++ marks.take k)) rfl (hown.alloc _) ⟨wr.heap.size, 0, none⟩ 1 1 [.int .i64 (-7770777)] rfl rfl (cell_one_new _ _ _) (by simp [Value.oneCell']) (by omega) ?_)
      intro w3 hown3 hg3
      have hown' : w3.ownsRow w.heap.size 3 1 (.slice (some ⟨w.heap.size, 0, none⟩) (n + (k + 1)) (n + 4)) (n + (k + 1)) (cellsI (xs ++ marks.take (k + 1))) := by
        have e : cellsI (xs ++ marks.take k) ++ [Value.int .i64 (-7770777)] = cellsI (xs ++ marks.take (k + 1)) := by
          rw [List.take_succ_eq_append_getElem (by simp [marks]; omega)]
          match k, hlt with
          | 0, _ => simp [cellsI, marks]
          | 1, _ => simp [cellsI, marks]
          | 2, _ => simp [cellsI, marks]
          | 3, _ => simp [cellsI, marks]
        rw [← e]; exact hown3
      have hb3 : Below w.heap.size w w3 := (hb.alloc hb.size _).grown hg3 (by have := hb.size; simp; omega) (fun j hj => by injection hj with hj; omega)
      clear hown hown3 hg3 hb
      go_wp2
      go_roundw
      case rel => exact ⟨k + 1, by omega, by go_num, rfl, hown', hb3⟩
      case measure => simp [intOf]; omega
    · obtain rfl : k = 4 := by omega
      go_wp2
      go_ret
      exact ⟨w.heap.size, rfl, Nat.le_refl _, hown, hb⟩

theorem AllFit.lent (xs : List Int) (h : AllFit xs) : AllFit (xs ++ marks) := by
  intro x hx
  rcases List.mem_append.1 hx with hx | hx
  · exact h x hx
  · simp [marks] at hx; subst hx; unfold fits; omega

/-- what a list that is lent owns, as cells -/
theorem lent_cells {w : World} {base g n : Nat} {xs : List Int} (h : w.ownsRow base 3 1 (.slice (some ⟨g, 0, none⟩) (n + 4) (n + 4)) (n + 4) (cellsI (xs ++ marks))) (hn : xs.length = n) :
    Rd w w.heap.size (some ⟨g, 0, none⟩) (cellsI xs) ∧ ∀ j, n ≤ j → j < n + 4 → w.cell? ⟨g, j, none⟩ = some (.int .i64 (-7770777)) := by
  have hr := rd_of_own h
  rcases hr with hr | ⟨b, off, ha, hb, hc⟩
  · have := h.1; rw [hr] at this; simp at this
  · injection ha with ha
    injection ha with ha1 ha2
    subst ha1 ha2
    refine ⟨.inr ⟨g, 0, rfl, hb, fun j u hu => hc j u ?_⟩, fun j h1 h2 => ?_⟩
    · have hj := (List.getElem?_eq_some_iff.1 hu).1
      unfold cellsI at hu hj ⊢
      rw [List.map_append, List.getElem?_append_left hj]; exact hu
    · have hcj := hc j (.int .i64 (-7770777)) (by
        rw [cellsI, List.map_append, List.getElem?_append_right (by simpa [hn] using h1)]
        obtain ⟨d, rfl⟩ : ∃ d, j = n + d := ⟨j - n, by omega⟩
        have e : n + d - (List.map (Value.int .i64) xs).length = d := by simp [hn]
        rw [e]
        match d, h2 with
        | 0, _ => rfl
        | 1, _ => rfl
        | 2, _ => rfl
        | 3, _ => rfl
        | d + 4, h2 => exact absurd h2 (by omega))
      rwa [Nat.zero_add] at hcj

set_option maxHeartbeats 1000000 in
theorem kept_yes (xs : List Int) (A : Option Addr) (n c g B base : Nat) (w : World) (hn : xs.length = n) (hx : AllFit xs) (hr : Rd w B A (cellsI xs)) (hl : n * 8 ≤ 140737488351232)
    (hown : w.ownsRow base 3 1 (.slice (some ⟨g, 0, none⟩) (n + 4) (n + 4)) (n + 4) (cellsI (xs ++ marks))) :
    Calls Try.prog 12 #[.slice (some ⟨g, 0, none⟩) n (n + 4), .slice A n c] w fun e w' => e = .returned (.bool true) ∧ Drawn w w' := by
  obtain ⟨hr', hm⟩ := lent_cells hown hn
  clear hown
  go_enter Try.func12, Try.ntmps12
  go_wp2_with (go_at_call 18; refine (sameInts_yes xs _ _ _ _ _ _ _ _ hn hx hr' hr (by unfold maxLen; omega)).mono ?_; rintro e w' ⟨rfl, hd1⟩)
  go_loopw [6] (fun i wr => ∃ k : Nat, n ≤ k ∧ k ≤ n + 4 ∧ i = .int .i64 k ∧ Drawn w wr) (fun i _ => n + 4 - (intOf i).toNat)
  case atStart => exact ⟨n, by omega, by omega, rfl, by assumption⟩
  case round =>
    obtain ⟨k, hk1, hk2, rfl, hdw⟩ := hrel
    by_cases hlt : k < n + 4
    · have hck : wr.cell? ⟨g, k, none⟩ = some (.int .i64 (-7770777)) := (hdw.cell _).trans (hm k hk1 hlt)
      go_wp2
      go_roundw
      case rel => exact ⟨k + 1, by omega, by omega, by go_num, hdw⟩
      case measure => simp [intOf]; omega
    · go_wp2
      go_ret
      exact ⟨rfl, hdw⟩

end Go.Proofs.Ytdogddngiolpoaa
