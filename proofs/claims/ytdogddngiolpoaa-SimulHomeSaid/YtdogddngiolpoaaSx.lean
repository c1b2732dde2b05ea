/-
  tally; SameInts and pianolaref14.Same with either answer.
-/
import Derived.Test.YtdogddngiolpoaaSu
namespace Go.Proofs.Ytdogddngiolpoaa
open Go.RowKit

theorem take_eq_step {α : Type} {xs ys : List α} {k : Nat} {x y : α} (h : xs.take k = ys.take k) (hx : xs[k]? = some x) (hy : ys[k]? = some y) : xs.take (k + 1) = ys.take (k + 1) ↔ x = y := by
  rw [List.take_add_one, List.take_add_one, hx, hy, h]
  simp
set_option maxHeartbeats 1000000 in
theorem sameInts_any (xs ys : List Int) (A A' : Option Addr) (n n' c c' B B' : Nat) (w : World) (hn : xs.length = n) (hn' : ys.length = n') (hx : AllFit xs) (hy : AllFit ys) (hr : Rd w B A (cellsI xs)) (hr' : Rd w B' A' (cellsI ys)) (hl : n ≤ maxLen) :
    Calls Try.prog 18 #[.slice A n c, .slice A' n' c'] w fun e w' => e = .returned (.bool (decide (xs = ys))) ∧ Drawn w w' := by
  subst hn hn'
  unfold maxLen at hl
  by_cases hlen : xs.length = ys.length
  · obtain ⟨res, hres⟩ : ∃ r, decide (xs = ys) = r := ⟨_, rfl⟩
    rw [hres]
    have Hres := Lib.hid hres
    clear hres
    have hq : ((xs.length : Int) != (xs.length : Int)) = false := by simp
    rw [← hlen]
    go_enter Try.func18, Try.ntmps18
    go_wp2
    go_loopw [5] (fun i wr => ∃ k : Nat, k ≤ xs.length ∧ i = .int .i64 k ∧ Drawn w wr ∧ Hid (xs.take k = ys.take k)) (fun i _ => xs.length - (intOf i).toNat)
    case atStart => exact ⟨0, by omega, rfl, Drawn.refl w, by unfold Hid; simp⟩
    case round =>
      obtain ⟨k, hk, rfl, hdw, He⟩ := hrel
      by_cases hlt : k < xs.length
      · have hlt' : k < ys.length := by omega
        obtain ⟨b, off, x, rfl, hb, hxk, hc, hd, hxx⟩ := (hdw.rd hr).at_ hx hlt
        obtain ⟨b', off', x', rfl, hb', hxk', hc', hd', hxx'⟩ := (hdw.rd hr').at_ hy hlt'
        have hst := take_eq_step He.out hxx.out hxx'.out
        have h1 : (0 : Int) ≤ (k : Int) := by omega
        have h2 : (k : Int) < (xs.length : Int) := by omega
        by_cases hxe : x = x'
        · subst hxe
          have He2 : Hid (xs.take (k + 1) = ys.take (k + 1)) := hst.2 rfl
          have h3 : (x != x) = false := by simp
          clear hd hd' hst
          go_wp2
          go_quiet (fail)
          go_wp2
          go_roundw
          case rel => exact ⟨k + 1, by omega, by go_num, hdw.drewN _, He2⟩
          case measure => simp [intOf]; omega
        · have e : res = false := by
            rw [← Hres.out]
            exact decide_eq_false fun hc => hxe (hst.1 (by rw [hc]))
          subst e
          have h3 : (x != x') = true := by simpa using hxe
          clear hd hd' hst
          go_wp2
          go_quiet (fail)
          go_wp2
          go_ret
          exact ⟨rfl, hdw.drewN _⟩
      · have e : res = true := by
          rw [← Hres.out]
          have := He.out
          rw [List.take_of_length_le (by omega), List.take_of_length_le (by omega)] at this
          exact decide_eq_true this
        subst e
        go_wp2
        go_ret
        exact ⟨rfl, hdw⟩
  · have hq : ((xs.length : Int) != (ys.length : Int)) = true := by simp; omega
    rw [decide_eq_false (p := xs = ys) (fun h => hlen (by rw [h]))]
    go_enter Try.func18, Try.ntmps18
    go_wp2
    go_ret
    exact ⟨rfl, Drawn.refl w⟩
theorem cellsB_at (bs : List BlkV) : ∀ (k : Nat) (b : BlkV), bs[k]? = some b → ∀ j u, b.cells[j]? = some u → (cellsB bs)[k * 3 + j]? = some u := by
  induction bs with
  | nil => intro k b h; simp at h
  | cons b0 bs ih =>
    intro k b h j u hu
    have e : cellsB (b0 :: bs) = b0.cells ++ cellsB bs := rfl
    cases k with
    | zero =>
      cases h
      have hj : j < b0.cells.length := (List.getElem?_eq_some_iff.1 hu).1
      rw [e, Nat.zero_mul, Nat.zero_add, List.getElem?_append_left hj]; exact hu
    | succ k =>
      have h' : bs[k]? = some b := by simpa using h
      rw [e, List.getElem?_append_right (by simp [BlkV.cells]; omega)]
      have : (k + 1) * 3 + j - b0.cells.length = k * 3 + j := by simp [BlkV.cells]; omega
      rw [this]
      exact ih k b h' j u hu
theorem Rd.blkAt {w : World} {B : Nat} {A : Option Addr} {bs : List BlkV} {k : Nat} (h : Rd w B A (cellsB bs)) (hk : k < bs.length) :
    ∃ b off v, A = some ⟨b, off, none⟩ ∧ w.cell? ⟨b, off + k * 3, none⟩ = some (.int .i64 v.v) ∧ w.cell? ⟨b, off + k * 3 + 1, none⟩ = some (.int .i64 v.f) ∧ w.cell? ⟨b, off + k * 3 + 2, none⟩ = some (.int .i64 v.a) ∧ Hid (bs[k]? = some v) := by
  have hg : bs[k]? = some bs[k] := List.getElem?_eq_getElem hk
  rcases h with h | ⟨b, off, hA, _, hc⟩
  · have := cellsB_length bs; rw [h] at this; simp at this; omega
  · refine ⟨b, off, bs[k], hA, ?_, ?_, ?_, hg⟩
    · exact hc _ _ (cellsB_at bs k _ hg 0 _ rfl)
    · rw [Nat.add_assoc]; exact hc _ _ (cellsB_at bs k _ hg 1 _ rfl)
    · rw [Nat.add_assoc]; exact hc _ _ (cellsB_at bs k _ hg 2 _ rfl)
set_option maxHeartbeats 1000000 in
theorem same14_yes (bs : List BlkV) (A A' : Option Addr) (n c c' B B' : Nat) (w : World) (hn : bs.length = n) (hr : Rd w B A (cellsB bs)) (hr' : Rd w B' A' (cellsB bs)) (hl : n ≤ 1000000) :
    Calls Try.prog 19 #[.slice A n c, .slice A' n c'] w fun e w' => e = .returned (.bool true) ∧ Drawn w w' := by
  subst hn
  have hq : ((bs.length : Int) != (bs.length : Int)) = false := by simp
  go_enter Try.func19, Try.ntmps19
  go_wp2
  go_loopw [5] (fun i wr => ∃ k : Nat, k ≤ bs.length ∧ i = .int .i64 k ∧ Drawn w wr) (fun i _ => bs.length - (intOf i).toNat)
  case atStart => exact ⟨0, by omega, rfl, Drawn.refl w⟩
  case round =>
    obtain ⟨k, hk, rfl, hdw⟩ := hrel
    by_cases hlt : k < bs.length
    · obtain ⟨b, off, v, rfl, c0, c1, c2, hxx⟩ := (hdw.rd hr).blkAt hlt
      obtain ⟨b', off', v', rfl, c0', c1', c2', hxx'⟩ := (hdw.rd hr').blkAt hlt
      obtain rfl : v' = v := by have h := hxx.out; rw [hxx'.out] at h; exact Option.some.inj h
      have h1 : (0 : Int) ≤ (k : Int) := by omega
      have h2 : (k : Int) < (bs.length : Int) := by omega
      go_wp2
      go_quiet (fail)
      go_wp2
      go_roundw
      case rel => exact ⟨k + 1, by omega, by go_num, hdw.drewN _⟩
      case measure => simp [intOf]; omega
    · go_wp2
      go_ret
      exact ⟨rfl, hdw⟩
end Go.Proofs.Ytdogddngiolpoaa
