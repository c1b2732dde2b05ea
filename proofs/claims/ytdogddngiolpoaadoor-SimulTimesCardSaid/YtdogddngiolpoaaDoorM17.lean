/-
  La, Su, Sx, Sy: texts pasted together.
-/
import Derived.Test.YtdogddngiolpoaaDoorM1
import Derived.Test.YtdogddngiolpoaaDoorSt
/-
  pianolakeep.Lent, pianolakeep.Kept, pianolaref00.SameInts (of the ints seat's texts, for a seat that has no ints).
-/
namespace Go.Proofs.YtdogddngiolpoaaDoor
open Go.RowKit







end Go.Proofs.YtdogddngiolpoaaDoor
/-
  pianolalaw15.awake.
-/
namespace Go.Proofs.YtdogddngiolpoaaDoor
open Go.RowKit

def aw1 : List ArcV := [⟨0, 1, 2, 3, 0⟩]
def aw2 : List ArcV := [⟨0, 0, 1, 1, 0⟩]
theorem aw1_ok : wrongF 2 aw1 [3, 2] [] = 0 := by kernel_rfl
theorem aw2_ok : wrongF 1 aw2 [1] [] = 0 := by kernel_rfl
theorem aw1_ans : ansF (pickS aw1 2 [3, 2] []) 2 aw1 [3, 2] [] = ([0, 0, 1, 0, 1], []) := by kernel_rfl
theorem aw2_ans : ansF (pickS aw2 1 [1] []) 1 aw2 [1] [] = ([], [⟨0, 0, 0⟩]) := by kernel_rfl
theorem fit_few {xs : List Int} (h : xs.all (fun x => decide (0 ≤ x ∧ x ≤ 9)) = true) : AllFit xs := by
  intro x hx
  have := List.all_eq_true.1 h x hx
  simp only [decide_eq_true_eq] at this
  unfold fits; omega
theorem aw_fit_Su {a : ArcV} (h : 0 ≤ a.f ∧ a.f ≤ 9 ∧ 0 ≤ a.t ∧ a.t ≤ 9 ∧ 0 ≤ a.g ∧ a.g ≤ 9 ∧ 0 ≤ a.k ∧ a.k ≤ 9 ∧ 0 ≤ a.s ∧ a.s ≤ 9) : ∀ b ∈ [a], b.fit := by
  intro b hb
  simp only [List.mem_singleton] at hb
  subst hb
  unfold ArcV.fit fits; omega

set_option maxRecDepth 100000 in
set_option maxHeartbeats 2000000 in
theorem awake_any (w : World) : Calls Tryd.prog 5 #[] w fun e w' => e = .returned (.bool true) ∧ Below w.heap.size w w' := by
  obtain ⟨B, hB⟩ : ∃ B, w.heap.size = B := ⟨_, rfl⟩
  rw [hB]
  have b1 := (Below.refl B w).alloc (by omega) (.cells #[.int .i64 0, .int .i64 1, .int .i64 2, .int .i64 3, .int .i64 0] 49)
  have r1 : Rd (w.alloc (.cells #[.int .i64 0, .int .i64 1, .int .i64 2, .int .i64 3, .int .i64 0] 49)) (B + 1) (some ⟨B, 0, none⟩) (cellsA aw1) := rd_alloc w B hB.symm 49 (cellsA aw1)
  have hz1 : (w.alloc (.cells #[.int .i64 0, .int .i64 1, .int .i64 2, .int .i64 3, .int .i64 0] 49)).heap.size = B + 1 := by simp; omega
  have b2 := b1.alloc (by omega) (.cells #[.int .i64 3, .int .i64 2] 3)
  have r2 := r1.below ((Below.refl (B + 1) _).alloc (by omega) (.cells #[.int .i64 3, .int .i64 2] 3)) (Nat.le_refl _)
  have s2 := rd_alloc (w.alloc (.cells #[.int .i64 0, .int .i64 1, .int .i64 2, .int .i64 3, .int .i64 0] 49)) (B + 1) hz1.symm 3 (cellsI [3, 2])
  go_enter Tryd.func5, Tryd.ntmps5
  go_wp2_with fail
  refine (simRun_any 2 aw1 (some ⟨B, 0, none⟩) 1 1 [3, 2] (some ⟨B + 1, 0, none⟩) 2 2 [] none 0 0 _ rfl (aw_fit_Su (by decide)) (r2.more (by simp; omega)) (by decide) rfl (fit_few (by decide)) (s2.more (by simp; omega)) (by decide) rfl (fit_few (by decide)) (.inl rfl) (by decide)).mono ?_
  rintro e w3 ⟨lv, sv, rfl, ol, os, b3⟩
  rw [show ((2 : Int).toNat) = 2 from rfl, aw1_ans] at ol os
  rw [aw1_ok]
  obtain ⟨Al, cl, rfl, _⟩ := own_slice ol
  obtain ⟨As, cs, rfl, _⟩ := own_slice os
  simp only [List.length_cons, List.length_nil, Nat.reduceAdd] at ol os ⊢
  have b4 := b2.trans (b3.mono (by simp; omega))
  have rl := rd_of_own ol
  have hz3 := b3.size
  clear os ol b1 r1 hz1 b2 r2 s2 b3
  have hz3' : B + 2 ≤ w3.heap.size := by simp at hz3; omega
  clear hz3
  have b5 := b4.alloc (by omega) (.cells #[.slice Al 5 cl, .slice As 0 cs] 36)
  have k5 := Blk.new w3 _ rfl 36 #[.slice Al 5 cl, .slice As 0 cs]
  have l5 := rl.below ((Below.refl w3.heap.size w3).alloc (Nat.le_refl _) (.cells #[.slice Al 5 cl, .slice As 0 cs] 36)) (Nat.le_refl _)
  have b6 := b5.alloc (by simp; omega) (.cells #[.int .i64 0, .int .i64 0, .int .i64 1, .int .i64 1, .int .i64 0] 49)
  have k6 := k5.alloc (.cells #[.int .i64 0, .int .i64 0, .int .i64 1, .int .i64 1, .int .i64 0] 49)
  have l6 := l5.below ((Below.refl w3.heap.size _).alloc (by simp) (.cells #[.int .i64 0, .int .i64 0, .int .i64 1, .int .i64 1, .int .i64 0] 49)) (Nat.le_refl _)
  have r6 : Rd ((w3.alloc (.cells #[.slice Al 5 cl, .slice As 0 cs] 36)).alloc (.cells #[.int .i64 0, .int .i64 0, .int .i64 1, .int .i64 1, .int .i64 0] 49)) (w3.heap.size + 1 + 1) (some ⟨w3.heap.size + 1, 0, none⟩) (cellsA aw2) := rd_alloc _ _ (by simp) 49 (cellsA aw2)
  have b7 := b6.alloc (by simp; omega) (.cells #[.int .i64 1] 3)
  have k7 := k6.alloc (.cells #[.int .i64 1] 3)
  have l7 := l6.below ((Below.refl w3.heap.size _).alloc (by simp; omega) (.cells #[.int .i64 1] 3)) (Nat.le_refl _)
  have r7 := r6.below ((Below.refl (w3.heap.size + 1 + 1) _).alloc (by simp) (.cells #[.int .i64 1] 3)) (Nat.le_refl _)
  have s7 : Rd (((w3.alloc (.cells #[.slice Al 5 cl, .slice As 0 cs] 36)).alloc (.cells #[.int .i64 0, .int .i64 0, .int .i64 1, .int .i64 1, .int .i64 0] 49)).alloc (.cells #[.int .i64 1] 3)) (w3.heap.size + 1 + 1 + 1) (some ⟨w3.heap.size + 1 + 1, 0, none⟩) (cellsI [1]) := rd_alloc _ _ (by simp) 3 (cellsI [1])
  have hz7 : (((w3.alloc (.cells #[.slice Al 5 cl, .slice As 0 cs] 36)).alloc (.cells #[.int .i64 0, .int .i64 0, .int .i64 1, .int .i64 1, .int .i64 0] 49)).alloc (.cells #[.int .i64 1] 3)).heap.size = w3.heap.size + 1 + 1 + 1 := by simp
  clear b4 b5 k5 l5 b6 k6 l6 r6 rl
  go_wp2_with fail
  generalize (((w3.alloc (.cells #[.slice Al 5 cl, .slice As 0 cs] 36)).alloc (.cells #[.int .i64 0, .int .i64 0, .int .i64 1, .int .i64 1, .int .i64 0] 49)).alloc (.cells #[.int .i64 1] 3)) = W7 at *
  generalize w3.heap.size = z3 at *
  refine (simRun_any 1 aw2 (some ⟨z3 + 1, 0, none⟩) 1 1 [1] (some ⟨z3 + 1 + 1, 0, none⟩) 1 1 [] none 0 0 W7 rfl (aw_fit_Su (by decide)) (r7.more (by omega)) (by decide) rfl (fit_few (by decide)) (s7.more (by omega)) (by decide) rfl (fit_few (by decide)) (.inl rfl) (by decide)).mono ?_
  rintro e w8 ⟨lv, sv, rfl, ol, os, b8⟩
  rw [show ((1 : Int).toNat) = 1 from rfl, aw2_ans] at ol os
  rw [aw2_ok]
  obtain ⟨A2, c2, rfl, _⟩ := own_slice ol
  obtain ⟨As2, cs2, rfl, _⟩ := own_slice os
  simp only [List.length_cons, List.length_nil, Nat.reduceAdd] at ol os ⊢
  obtain ⟨g2, rfl⟩ := own_addr os (by omega)
  have b9 := b7.trans (b8.mono (by omega))
  have k9 := k7.below b8 (by omega)
  have l9 := l7.below b8 (by omega)
  have hz8 := b8.size
  have q0 : w8.cell? ⟨g2, 0, none⟩ = some (.int .i64 0) := os.cellAt 0 (by omega)
  have q1 : w8.cell? ⟨g2, 1, none⟩ = some (.int .i64 0) := os.cellAt 1 (by omega)
  have q2 : w8.cell? ⟨g2, 2, none⟩ = some (.int .i64 0) := os.cellAt 2 (by omega)
  have hg2 := (os.lt g2 rfl).2
  clear ol os b7 k7 l7 r7 s7 b8
  have ba := (Below.refl w8.heap.size w8).alloc (Nat.le_refl _) (.cells #[.slice A2 0 c2, .slice (some ⟨g2, 0, none⟩) 1 cs2] 36)
  have ka := Blk.new w8 _ rfl 36 #[.slice A2 0 c2, .slice (some ⟨g2, 0, none⟩) 1 cs2]
  have k10 := k9.below ba k9.lt
  have l10 := l9.below ba (by omega)
  have b10 := b9.alloc (by omega) (.cells #[.slice A2 0 c2, .slice (some ⟨g2, 0, none⟩) 1 cs2] 36)
  have q0' := (ba.cell (p := ⟨g2, 0, none⟩) hg2).trans q0
  have q1' := (ba.cell (p := ⟨g2, 1, none⟩) hg2).trans q1
  have q2' := (ba.cell (p := ⟨g2, 2, none⟩) hg2).trans q2
  generalize hW : w8.alloc (.cells #[.slice A2 0 c2, .slice (some ⟨g2, 0, none⟩) 1 cs2] 36) = W10 at *
  have hz10 : W10.heap.size = w8.heap.size + 1 := by rw [← hW]; simp
  have y0 := k10.cell 0
  simp only [List.getElem?_toArray, List.getElem?_cons_zero] at y0
  have hzl : z3 < w8.heap.size := by omega
  have m10 := rd_alloc W10 W10.heap.size rfl 3 (cellsI [0, 0, 1, 0, 1])
  have bb := (Below.refl W10.heap.size W10).alloc (Nat.le_refl _) (.cells (cellsI [0, 0, 1, 0, 1]).toArray 3)
  have k11 := k10.below bb (by omega)
  have ka11 := ka.below bb (by omega)
  have l11 := l10.below bb (by omega)
  have b11 := b10.alloc (by omega) (.cells (cellsI [0, 0, 1, 0, 1]).toArray 3)
  have q0 := (bb.cell (p := ⟨g2, 0, none⟩) (by simp; omega)).trans q0'
  have q1 := (bb.cell (p := ⟨g2, 1, none⟩) (by simp; omega)).trans q1'
  have q2 := (bb.cell (p := ⟨g2, 2, none⟩) (by simp; omega)).trans q2'
  simp only [cellsI, List.map_cons, List.map_nil] at m10 bb k11 ka11 l11 b11 q0 q1 q2
  rw [hz10] at m10
  clear q0' q1' q2' k10 l10 b10 ba bb k9 l9 b9
  go_wp2_with fail
  refine (sameInts_yes [0, 0, 1, 0, 1] Al (some ⟨w8.heap.size + 1, 0, none⟩) 5 cl 5 _ _ _ rfl (fit_few (by decide)) l11 m10 (by decide)).mono ?_
  rintro e w12 ⟨rfl, hd⟩
  have k12 := k11.below (hd.below _) k11.lt
  have ka12 := ka11.below (hd.below _) ka11.lt
  have b12 := b11.trans (hd.below _)
  have q0 := (hd.cell _).trans q0
  have q1 := (hd.cell _).trans q1
  have q2 := (hd.cell _).trans q2
  have y1 := k12.cell 1
  have a0 := ka12.cell 0
  have a1 := ka12.cell 1
  simp only [List.getElem?_toArray, List.getElem?_cons_zero, List.getElem?_cons_succ] at y1 a0 a1
  clear k12 ka12 hd k11 ka11 l11 m10 b11
  go_wp2_with fail
  go_ret
  exact ⟨rfl, b12⟩
end Go.Proofs.YtdogddngiolpoaaDoor
/-
  tally; SameInts and pianolaref14.Same with either answer.
-/
namespace Go.Proofs.YtdogddngiolpoaaDoor
open Go.RowKit

theorem take_eq_step {α : Type} {xs ys : List α} {k : Nat} {x y : α} (h : xs.take k = ys.take k) (hx : xs[k]? = some x) (hy : ys[k]? = some y) : xs.take (k + 1) = ys.take (k + 1) ↔ x = y := by
  rw [List.take_add_one, List.take_add_one, hx, hy, h]
  simp
set_option maxRecDepth 100000 in
set_option maxHeartbeats 1000000 in
theorem sameInts_any (xs ys : List Int) (A A' : Option Addr) (n n' c c' B B' : Nat) (w : World) (hn : xs.length = n) (hn' : ys.length = n') (hx : AllFit xs) (hy : AllFit ys) (hr : Rd w B A (cellsI xs)) (hr' : Rd w B' A' (cellsI ys)) (hl : n ≤ maxLen) :
    Calls Tryd.prog 12 #[.slice A n c, .slice A' n' c'] w fun e w' => e = .returned (.bool (decide (xs = ys))) ∧ Drawn w w' := by
  subst hn hn'
  unfold maxLen at hl
  by_cases hlen : xs.length = ys.length
  · obtain ⟨res, hres⟩ : ∃ r, decide (xs = ys) = r := ⟨_, rfl⟩
    rw [hres]
    have Hres := Lib.hid hres
    clear hres
    have hq : ((xs.length : Int) != (xs.length : Int)) = false := by simp
    rw [← hlen]
    go_enter Tryd.func12, Tryd.ntmps12
    go_wp2
    go_loopw [5] (fun i wr => ∃ k : Nat, k ≤ xs.length ∧ i = .int .i64 k ∧ Drawn w wr ∧ Hid (xs.take k = ys.take k)) (fun i _ => xs.length - (intOf i).toNat)
    case atStart => exact ⟨0, by omega, rfl, Drawn.refl w, by unfold Hid; simp⟩
    case round =>
      obtain ⟨k, hk, rfl, hdw, He⟩ := hrel
      by_cases hlt : k < xs.length
      · have hlt' : k < ys.length := by omega
        obtain ⟨b, off, x, rfl, hb, hxk, hc, hd, hxx⟩ := (hdw.rd hr).at_ hx hlt
        obtain ⟨b', off', x', rfl, hb', hxk', hc', hd', hxx'⟩ := (hdw.rd hr').at_ hy hlt'
        have hst := take_eq_step He.out hxx.out hxx'.out
        have h1 : (0 : Int) ≤ (k : Int) := by omega
        have h2 : (k : Int) < (xs.length : Int) := by omega
        by_cases hxe : x = x'
        · subst hxe
          have He2 : Hid (xs.take (k + 1) = ys.take (k + 1)) := hst.2 rfl
          have h3 : (x != x) = false := by simp
          clear hd hd' hst
          go_wp2
          go_quiet (fail)
          go_wp2
          go_roundw
          case rel => exact ⟨k + 1, by omega, by go_num, hdw.drewN _, He2⟩
          case measure => simp [intOf]; omega
        · have e : res = false := by
            rw [← Hres.out]
            exact decide_eq_false fun hc => hxe (hst.1 (by rw [hc]))
          subst e
          have h3 : (x != x') = true := by simpa using hxe
          clear hd hd' hst
          go_wp2
          go_quiet (fail)
          go_wp2
          go_ret
          exact ⟨rfl, hdw.drewN _⟩
      · have e : res = true := by
          rw [← Hres.out]
          have := He.out
          rw [List.take_of_length_le (by omega), List.take_of_length_le (by omega)] at this
          exact decide_eq_true this
        subst e
        go_wp2
        go_ret
        exact ⟨rfl, hdw⟩
  · have hq : ((xs.length : Int) != (ys.length : Int)) = true := by simp; omega
    rw [decide_eq_false (p := xs = ys) (fun h => hlen (by rw [h]))]
    go_enter Tryd.func12, Tryd.ntmps12
    go_wp2
    go_ret
    exact ⟨rfl, Drawn.refl w⟩
theorem cellsB_at (bs : List BlkV) : ∀ (k : Nat) (b : BlkV), bs[k]? = some b → ∀ j u, b.cells[j]? = some u → (cellsB_Sr bs)[k * 3 + j]? = some u := by
  induction bs with
  | nil => intro k b h; simp at h
  | cons b0 bs ih =>
    intro k b h j u hu
    have e : cellsB_Sr (b0 :: bs) = b0.cells ++ cellsB_Sr bs := rfl
    cases k with
    | zero =>
      cases h
      have hj : j < b0.cells.length := (List.getElem?_eq_some_iff.1 hu).1
      rw [e, Nat.zero_mul, Nat.zero_add, List.getElem?_append_left hj]; exact hu
    | succ k =>
      have h' : bs[k]? = some b := by simpa using h
      rw [e, List.getElem?_append_right (by simp [BlkV.cells]; omega)]
      have : (k + 1) * 3 + j - b0.cells.length = k * 3 + j := by simp [BlkV.cells]; omega
      rw [this]
      exact ih k b h' j u hu
theorem Rd.blkAt {w : World} {B : Nat} {A : Option Addr} {bs : List BlkV} {k : Nat} (h : Rd w B A (cellsB_Sr bs)) (hk : k < bs.length) :
    ∃ b off v, A = some ⟨b, off, none⟩ ∧ w.cell? ⟨b, off + k * 3, none⟩ = some (.int .i64 v.v) ∧ w.cell? ⟨b, off + k * 3 + 1, none⟩ = some (.int .i64 v.f) ∧ w.cell? ⟨b, off + k * 3 + 2, none⟩ = some (.int .i64 v.a) ∧ Hid (bs[k]? = some v) := by
  have hg : bs[k]? = some bs[k] := List.getElem?_eq_getElem hk
  rcases h with h | ⟨b, off, hA, _, hc⟩
  · have := cellsB_length bs; rw [h] at this; simp at this; omega
  · refine ⟨b, off, bs[k], hA, ?_, ?_, ?_, hg⟩
    · exact hc _ _ (cellsB_at bs k _ hg 0 _ rfl)
    · rw [Nat.add_assoc]; exact hc _ _ (cellsB_at bs k _ hg 1 _ rfl)
    · rw [Nat.add_assoc]; exact hc _ _ (cellsB_at bs k _ hg 2 _ rfl)
end Go.Proofs.YtdogddngiolpoaaDoor
/-
  pianolalaw15.tally.
-/
namespace Go.Proofs.YtdogddngiolpoaaDoor
open Go.RowKit

def countF (xs : List Int) (v : Nat) : Int := (xs.count (v : Int) : Nat)
/-- the nodes of a list ahead of the first number that is no node -/
def goodP (n : Nat) (xs : List Int) : List Int := xs.takeWhile fun x => decide (0 ≤ x ∧ x < n)
theorem goodP_all {n : Nat} {xs : List Int} (h : nodesB (n : Int) xs = true) : goodP n xs = xs := by
  unfold goodP
  induction xs with
  | nil => rfl
  | cons x xs ih =>
    unfold nodesB at h ih
    rw [List.all_cons, Bool.and_eq_true] at h
    rw [List.takeWhile_cons_of_pos (p := fun x => decide (0 ≤ x ∧ x < (n : Int))) h.1, ih h.2]
theorem goodP_stop {n : Nat} {xs : List Int} {k : Nat} {x : Int} (hk : xs[k]? = some x) (h : nodesB (n : Int) (xs.take k) = true) (hx : ¬ (0 ≤ x ∧ x < (n : Int))) : goodP n xs = xs.take k ∧ nodesB (n : Int) xs = false := by
  induction xs generalizing k with
  | nil => simp at hk
  | cons y ys ih =>
    cases k with
    | zero =>
      have : y = x := by simpa using hk
      subst this
      unfold goodP nodesB
      rw [List.takeWhile_cons_of_neg (p := fun x => decide (0 ≤ x ∧ x < (n : Int))) (by simpa using hx), List.all_cons, decide_eq_false hx]
      exact ⟨rfl, rfl⟩
    | succ k =>
      have hk' : ys[k]? = some x := by simpa using hk
      rw [List.take_succ_cons] at h ⊢
      unfold nodesB at h
      rw [List.all_cons, Bool.and_eq_true] at h
      obtain ⟨h1, h2⟩ := ih hk' h.2
      unfold goodP nodesB at *
      rw [List.takeWhile_cons_of_pos (p := fun x => decide (0 ≤ x ∧ x < (n : Int))) h.1, h1, List.all_cons, h2, Bool.and_false]
      exact ⟨rfl, rfl⟩
theorem countF_step {xs : List Int} {k v : Nat} (hk : xs[k]? = some (v : Int)) : countF (xs.take (k + 1)) = upd (countF (xs.take k)) v (countF (xs.take k) v + 1) := by
  funext j
  unfold countF
  rw [List.take_add_one, hk, List.count_append]
  by_cases h : j = v
  · subst h; rw [upd_self]; simp
  · rw [upd_other h]
    have : ((v : Int) == (j : Int)) = false := by simp; omega
    simp [List.count_cons, this]
theorem countF_le (xs : List Int) (v : Nat) : 0 ≤ countF xs v ∧ countF xs v ≤ xs.length := by
  unfold countF
  have := List.count_le_length (a := (v : Int)) (l := xs)
  omega
theorem nodesB_take {n : Int} {xs : List Int} {k : Nat} {x : Int} (hk : xs[k]? = some x) (h : nodesB n (xs.take k) = true) (hx : 0 ≤ x ∧ x < n) : nodesB n (xs.take (k + 1)) = true := by
  unfold nodesB at *
  rw [List.take_add_one, hk, List.all_append, h]
  simp [hx]

end Go.Proofs.YtdogddngiolpoaaDoor
