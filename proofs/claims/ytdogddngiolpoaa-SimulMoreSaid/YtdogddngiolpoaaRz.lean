/-
  SimulRuns.
-/
import Derived.Test.YtdogddngiolpoaaRb
namespace Go.Proofs.Ytdogddngiolpoaa
open Go.RowKit

def three {α : Type} (a b c : α) : Nat → α := fun j => if j = 0 then a else if j = 1 then b else c
/-- Apart of three lists -/
theorem apart_three (A A' A'' : Option Addr) (c c' c'' : Nat) (xs xs' xs'' : List Int) (n n' n'' : Nat) (bo B : Nat) (w : World) (e : xs.length = n) (e' : xs'.length = n') (e'' : xs''.length = n'') (hn : n ≤ 17592186044400) (hn' : n' ≤ 17592186044400) (hn'' : n'' ≤ 17592186044400)
    (ho : w.ownsRow B 3 1 (.slice A n c) n (cellsI xs)) (ho' : w.ownsRow B 3 1 (.slice A' n' c') n' (cellsI xs')) (ho'' : w.ownsRow B 3 1 (.slice A'' n'' c'') n'' (cellsI xs''))
    (h01 : ∀ b, blkOf A = some b → blkOf A' ≠ some b) (h02 : ∀ b, blkOf A = some b → blkOf A'' ≠ some b) (h12 : ∀ b, blkOf A' = some b → blkOf A'' ≠ some b)
    (h0 : w.cell? ⟨bo, 0, none⟩ = some (.slice A n c)) (h1 : w.cell? ⟨bo, 1, none⟩ = some (.slice A' n' c')) (h2 : w.cell? ⟨bo, 2, none⟩ = some (.slice A'' n'' c'')) (hb : blkOf A ≠ some bo) (hb' : blkOf A' ≠ some bo) (hb'' : blkOf A'' ≠ some bo) (hbo : bo < w.heap.size) (hB : B ≤ w.heap.size) :
    Calls Try.prog 14 #[.slice (some ⟨bo, 0, none⟩) 3 3] w fun e w' => e = .returned (.bool true) ∧ Below B w w' := by
  subst e e' e''
  have cas : ∀ j, j < 3 → j = 0 ∨ j = 1 ∨ j = 2 := fun j hj => by omega
  refine apart_any 3 (three A A' A'') (three xs.length xs'.length xs''.length) (three c c' c'') (three xs xs' xs'') bo 0 3 B w (by omega) ?_ ?_ ?_ ?_ ?_ hbo hB
  · intro j hj; rcases cas j hj with rfl | rfl | rfl
    · exact hn
    · exact hn'
    · exact hn''
  · intro j hj; rcases cas j hj with rfl | rfl | rfl
    · exact ho
    · exact ho'
    · exact ho''
  · intro j k hj hk hne b hbj
    rcases cas j hj with rfl | rfl | rfl <;> rcases cas k hk with rfl | rfl | rfl
    · omega
    · exact h01 b hbj
    · exact h02 b hbj
    · intro he; exact h01 b he hbj
    · omega
    · exact h12 b hbj
    · intro he; exact h02 b he hbj
    · intro he; exact h12 b he hbj
    · omega
  · intro j hj; rcases cas j hj with rfl | rfl | rfl
    · exact h0
    · exact h1
    · exact h2
  · intro j hj; rcases cas j hj with rfl | rfl | rfl
    · exact hb
    · exact hb'
    · exact hb''
/-- a part of what is owned -/
theorem own_shrink {w : World} {base g n m cap : Nat} {e : TypeId} {xs ys : List Value} (h : w.ownsRow base e 1 (.slice (some ⟨g, 0, none⟩) (n + m) cap) (n + m) (xs ++ ys)) (hx : xs.length = n) : w.ownsRow base e 1 (.slice (some ⟨g, 0, none⟩) n cap) n xs := by
  obtain ⟨h1, h2⟩ := h
  rcases h2 with ⟨h2, _⟩ | ⟨g', cap', cur, hv, hb, hg, hn, hm, hs, ht⟩
  · cases h2
  · injection hv with hv h3 h4
    injection hv with hv
    injection hv with hv
    subst hv h4
    refine ⟨by omega, .inr ⟨g, cap, cur, rfl, hb, hg, by omega, hm, hs, ?_⟩⟩
    have : (cur.toList.take ((n + m) * 1)).take (n * 1) = (xs ++ ys).take (n * 1) := by rw [ht]
    rw [List.take_take, Nat.min_eq_left (by omega)] at this
    rw [this, Nat.mul_one, ← hx, List.take_left]
theorem ans_ref {n : Int} {ars : List ArcV} {rs ps : List Int} : ansF (pickR ars n.toNat rs ps) n ars rs ps = ansF (pickS ars n.toNat rs ps) n ars rs ps := by
  by_cases h : wrongF n ars rs ps = 0
  · obtain ⟨m, rfl, -, -, -, -, -, -, hno⟩ := wrongF_parts h
    rw [Int.toNat_natCast, show pickR ars m rs ps = pickS ars m rs ps from funext (pick_same hno)]
  · rw [ans_wrong h, ans_wrong h]

set_option maxRecDepth 100000 in
set_option maxHeartbeats 1000000 in
theorem refSame_yes (ls : List Int) (bs : List BlkV) (A A' : Option Addr) (n c c' : Nat) (D D' : Option Addr) (m d d' : Nat) (w : World) (hn : ls.length = n) (hm : bs.length = m) (hf : AllFit ls) (hr : Rd w w.heap.size A (cellsI ls)) (hr' : Rd w w.heap.size A' (cellsI ls))
    (hs : Rd w w.heap.size D (cellsB bs)) (hs' : Rd w w.heap.size D' (cellsB bs)) (hl : n ≤ 1000000) (hl' : m ≤ 1000000) :
    Calls Try.prog 13 #[.agg #[.slice A n c, .slice D m d], .agg #[.slice A' n c', .slice D' m d']] w fun e w' => e = .returned (.bool true) ∧ Below w.heap.size w w' := by
  have b1 := (Below.refl w.heap.size w).alloc (Nat.le_refl _) (.cells #[.slice A n c, .slice D m d] 29)
  have k1 := Blk.new w _ rfl 29 #[.slice A n c, .slice D m d]
  have b2 := b1.alloc (by simp) (.cells #[.slice A' n c', .slice D' m d'] 29)
  have k2 := k1.alloc (.cells #[.slice A' n c', .slice D' m d'] 29)
  have j2 := Blk.new (w.alloc (.cells #[.slice A n c, .slice D m d] 29)) (w.heap.size + 1) (by simp) 29 #[.slice A' n c', .slice D' m d']
  have e0 := k2.cell 0
  have e1 := k2.cell 1
  have f0 := j2.cell 0
  have f1 := j2.cell 1
  simp only [List.getElem?_toArray, List.getElem?_cons_zero, List.getElem?_cons_succ] at e0 e1 f0 f1
  go_enter Try.func13, Try.ntmps13
  go_wp2_with fail
  refine (sameInts_yes ls A A' n c c' _ _ _ hn hf (hr.below b2 (Nat.le_refl _)) (hr'.below b2 (Nat.le_refl _)) (by unfold maxLen; omega)).mono ?_
  rintro e w3 ⟨rfl, hd⟩
  have b3 := b2.trans (hd.below _)
  have e1' := (hd.cell _).trans e1
  have f1' := (hd.cell _).trans f1
  clear e0 f0 e1 f1
  go_wp2_with fail
  refine (same14_yes bs D D' m d d' _ _ _ hm (hs.below b3 (Nat.le_refl _)) (hs'.below b3 (Nat.le_refl _)) hl').mono ?_
  rintro e w4 ⟨rfl, hd4⟩
  have b4 := b3.trans (hd4.below _)
  clear e1' f1' b3 b2 b1
  go_wp2_with fail
  go_ret
  exact ⟨rfl, b4⟩
end Go.Proofs.Ytdogddngiolpoaa
