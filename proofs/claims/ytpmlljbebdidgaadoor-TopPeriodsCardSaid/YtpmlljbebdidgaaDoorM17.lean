/-
  La, Su, Sx, Sy: texts pasted together.
-/
import Derived.Test.YtpmlljbebdidgaaDoorM1
import Derived.Test.YtpmlljbebdidgaaDoorSt
/-
  pianolakeep.Lent, pianolakeep.Kept, pianolaref00.SameInts (of the ints seat's texts, for a seat that has no ints).
-/
namespace Go.Proofs.YtpmlljbebdidgaaDoor
open Go.RowKit







end Go.Proofs.YtpmlljbebdidgaaDoor
/-
  pianolalaw15.awake.
-/
namespace Go.Proofs.YtpmlljbebdidgaaDoor
open Go.RowKit

def aw1 : List ArcV := [⟨0, 1, 2, 3, 0⟩]
def aw2 : List ArcV := [⟨0, 0, 1, 1, 0⟩]
theorem aw1_ok : wrongF 2 aw1 [3, 2] [] = 0 := by kernel_rfl
theorem aw2_ok : wrongF 1 aw2 [1] [] = 0 := by kernel_rfl
theorem aw1_ans : ansF (pickS aw1 2 [3, 2] []) 2 aw1 [3, 2] [] = ([0, 0, 1, 0, 1], []) := by kernel_rfl
theorem aw2_ans : ansF (pickS aw2 1 [1] []) 1 aw2 [1] [] = ([], [⟨0, 0, 0⟩]) := by kernel_rfl
theorem fit_few {xs : List Int} (h : xs.all (fun x => decide (0 ≤ x ∧ x ≤ 9)) = true) : AllFit xs := by
  intro x hx
  have := List.all_eq_true.1 h x hx
  simp only [decide_eq_true_eq] at this
  unfold fits; omega
theorem aw_fit_Su {a : ArcV} (h : 0 ≤ a.f ∧ a.f ≤ 9 ∧ 0 ≤ a.t ∧ a.t ≤ 9 ∧ 0 ≤ a.g ∧ a.g ≤ 9 ∧ 0 ≤ a.k ∧ a.k ≤ 9 ∧ 0 ≤ a.s ∧ a.s ≤ 9) : ∀ b ∈ [a], b.fit := by
  intro b hb
  simp only [List.mem_singleton] at hb
  subst hb
  unfold ArcV.fit fits; omega

end Go.Proofs.YtpmlljbebdidgaaDoor
/-
  tally; SameInts and pianolaref14.Same with either answer.
-/
namespace Go.Proofs.YtpmlljbebdidgaaDoor
open Go.RowKit

theorem take_eq_step {α : Type} {xs ys : List α} {k : Nat} {x y : α} (h : xs.take k = ys.take k) (hx : xs[k]? = some x) (hy : ys[k]? = some y) : xs.take (k + 1) = ys.take (k + 1) ↔ x = y := by
  rw [List.take_add_one, List.take_add_one, hx, hy, h]
  simp
set_option maxRecDepth 100000 in
set_option maxHeartbeats 1000000 in
theorem sameInts_any (xs ys : List Int) (A A' : Option Addr) (n n' c c' B B' : Nat) (w : World) (hn : xs.length = n) (hn' : ys.length = n') (hx : AllFit xs) (hy : AllFit ys) (hr : Rd w B A (cellsI xs)) (hr' : Rd w B' A' (cellsI ys)) (hl : n ≤ maxLen) :
    Calls Tryd.prog 12 #[.slice A n c, .slice A' n' c'] w fun e w' => e = .returned (.bool (decide (xs = ys))) ∧ Drawn w w' := by
  subst hn hn'
  unfold maxLen at hl
  by_cases hlen : xs.length = ys.length
  · obtain ⟨res, hres⟩ : ∃ r, decide (xs = ys) = r := ⟨_, rfl⟩
    rw [hres]
    have Hres := Lib.hid hres
    clear hres
    have hq : ((xs.length : Int) != (xs.length : Int)) = false := by simp
    rw [← hlen]
    go_enter Tryd.func12, Tryd.ntmps12
    go_wp2
    go_loopw [5] (fun i wr => ∃ k : Nat, k ≤ xs.length ∧ i = .int .i64 k ∧ Drawn w wr ∧ Hid (xs.take k = ys.take k)) (fun i _ => xs.length - (intOf i).toNat)
    case atStart => exact ⟨0, by omega, rfl, Drawn.refl w, by unfold Hid; simp⟩
    case round =>
      obtain ⟨k, hk, rfl, hdw, He⟩ := hrel
      by_cases hlt : k < xs.length
      · have hlt' : k < ys.length := by omega
        obtain ⟨b, off, x, rfl, hb, hxk, hc, hd, hxx⟩ := (hdw.rd hr).at_ hx hlt
        obtain ⟨b', off', x', rfl, hb', hxk', hc', hd', hxx'⟩ := (hdw.rd hr').at_ hy hlt'
        have hst := take_eq_step He.out hxx.out hxx'.out
        have h1 : (0 : Int) ≤ (k : Int) := by omega
        have h2 : (k : Int) < (xs.length : Int) := by omega
        by_cases hxe : x = x'
        · subst hxe
          have He2 : Hid (xs.take (k + 1) = ys.take (k + 1)) := hst.2 rfl
          have h3 : (x != x) = false := by simp
          clear hd hd' hst
          go_wp2
          go_quiet (fail)
          go_wp2
          go_roundw
          case rel => exact ⟨k + 1, by omega, by go_num, hdw.drewN _, He2⟩
          case measure => simp [intOf]; omega
        · have e : res = false := by
            rw [← Hres.out]
            exact decide_eq_false fun hc => hxe (hst.1 (by rw [hc]))
          subst e
          have h3 : (x != x') = true := by simpa using hxe
          clear hd hd' hst
          go_wp2
          go_quiet (fail)
          go_wp2
          go_ret
          exact ⟨rfl, hdw.drewN _⟩
      · have e : res = true := by
          rw [← Hres.out]
          have := He.out
          rw [List.take_of_length_le (by omega), List.take_of_length_le (by omega)] at this
          exact decide_eq_true this
        subst e
        go_wp2
        go_ret
        exact ⟨rfl, hdw⟩
  · have hq : ((xs.length : Int) != (ys.length : Int)) = true := by simp; omega
    rw [decide_eq_false (p := xs = ys) (fun h => hlen (by rw [h]))]
    go_enter Tryd.func12, Tryd.ntmps12
    go_wp2
    go_ret
    exact ⟨rfl, Drawn.refl w⟩
theorem cellsB_at (bs : List BlkV) : ∀ (k : Nat) (b : BlkV), bs[k]? = some b → ∀ j u, b.cells[j]? = some u → (cellsB_Sr bs)[k * 3 + j]? = some u := by
  induction bs with
  | nil => intro k b h; simp at h
  | cons b0 bs ih =>
    intro k b h j u hu
    have e : cellsB_Sr (b0 :: bs) = b0.cells ++ cellsB_Sr bs := rfl
    cases k with
    | zero =>
      cases h
      have hj : j < b0.cells.length := (List.getElem?_eq_some_iff.1 hu).1
      rw [e, Nat.zero_mul, Nat.zero_add, List.getElem?_append_left hj]; exact hu
    | succ k =>
      have h' : bs[k]? = some b := by simpa using h
      rw [e, List.getElem?_append_right (by simp [BlkV.cells]; omega)]
      have : (k + 1) * 3 + j - b0.cells.length = k * 3 + j := by simp [BlkV.cells]; omega
      rw [this]
      exact ih k b h' j u hu
theorem Rd.blkAt {w : World} {B : Nat} {A : Option Addr} {bs : List BlkV} {k : Nat} (h : Rd w B A (cellsB_Sr bs)) (hk : k < bs.length) :
    ∃ b off v, A = some ⟨b, off, none⟩ ∧ w.cell? ⟨b, off + k * 3, none⟩ = some (.int .i64 v.v) ∧ w.cell? ⟨b, off + k * 3 + 1, none⟩ = some (.int .i64 v.f) ∧ w.cell? ⟨b, off + k * 3 + 2, none⟩ = some (.int .i64 v.a) ∧ Hid (bs[k]? = some v) := by
  have hg : bs[k]? = some bs[k] := List.getElem?_eq_getElem hk
  rcases h with h | ⟨b, off, hA, _, hc⟩
  · have := cellsB_length bs; rw [h] at this; simp at this; omega
  · refine ⟨b, off, bs[k], hA, ?_, ?_, ?_, hg⟩
    · exact hc _ _ (cellsB_at bs k _ hg 0 _ rfl)
    · rw [Nat.add_assoc]; exact hc _ _ (cellsB_at bs k _ hg 1 _ rfl)
    · rw [Nat.add_assoc]; exact hc _ _ (cellsB_at bs k _ hg 2 _ rfl)
end Go.Proofs.YtpmlljbebdidgaaDoor
/-
  pianolatop.tally.
-/
namespace Go.Proofs.YtpmlljbebdidgaaDoor
open Go.RowKit

def countF (xs : List Int) (v : Nat) : Int := (xs.count (v : Int) : Nat)
/-- the nodes of a list ahead of the first number that is no node -/
def goodP (n : Nat) (xs : List Int) : List Int := xs.takeWhile fun x => decide (0 ≤ x ∧ x < n)
theorem goodP_all {n : Nat} {xs : List Int} (h : nodesB (n : Int) xs = true) : goodP n xs = xs := by
  unfold goodP
  induction xs with
  | nil => rfl
  | cons x xs ih =>
    unfold nodesB at h ih
    rw [List.all_cons, Bool.and_eq_true] at h
    rw [List.takeWhile_cons_of_pos (p := fun x => decide (0 ≤ x ∧ x < (n : Int))) h.1, ih h.2]
theorem goodP_stop {n : Nat} {xs : List Int} {k : Nat} {x : Int} (hk : xs[k]? = some x) (h : nodesB (n : Int) (xs.take k) = true) (hx : ¬ (0 ≤ x ∧ x < (n : Int))) : goodP n xs = xs.take k ∧ nodesB (n : Int) xs = false := by
  induction xs generalizing k with
  | nil => simp at hk
  | cons y ys ih =>
    cases k with
    | zero =>
      have : y = x := by simpa using hk
      subst this
      unfold goodP nodesB
      rw [List.takeWhile_cons_of_neg (p := fun x => decide (0 ≤ x ∧ x < (n : Int))) (by simpa using hx), List.all_cons, decide_eq_false hx]
      exact ⟨rfl, rfl⟩
    | succ k =>
      have hk' : ys[k]? = some x := by simpa using hk
      rw [List.take_succ_cons] at h ⊢
      unfold nodesB at h
      rw [List.all_cons, Bool.and_eq_true] at h
      obtain ⟨h1, h2⟩ := ih hk' h.2
      unfold goodP nodesB at *
      rw [List.takeWhile_cons_of_pos (p := fun x => decide (0 ≤ x ∧ x < (n : Int))) h.1, h1, List.all_cons, h2, Bool.and_false]
      exact ⟨rfl, rfl⟩
theorem countF_step {xs : List Int} {k v : Nat} (hk : xs[k]? = some (v : Int)) : countF (xs.take (k + 1)) = upd (countF (xs.take k)) v (countF (xs.take k) v + 1) := by
  funext j
  unfold countF
  rw [List.take_add_one, hk, List.count_append]
  by_cases h : j = v
  · subst h; rw [upd_self]; simp
  · rw [upd_other h]
    have : ((v : Int) == (j : Int)) = false := by simp; omega
    simp [List.count_cons, this]
theorem countF_le (xs : List Int) (v : Nat) : 0 ≤ countF xs v ∧ countF xs v ≤ xs.length := by
  unfold countF
  have := List.count_le_length (a := (v : Int)) (l := xs)
  omega
theorem nodesB_take {n : Int} {xs : List Int} {k : Nat} {x : Int} (hk : xs[k]? = some x) (h : nodesB n (xs.take k) = true) (hx : 0 ≤ x ∧ x < n) : nodesB n (xs.take (k + 1)) = true := by
  unfold nodesB at *
  rw [List.take_add_one, hk, List.all_append, h]
  simp [hx]

set_option maxRecDepth 100000 in
set_option maxHeartbeats 2000000 in
theorem tally_any (n : Nat) (xs : List Int) (A : Option Addr) (l c : Nat) (w : World) (n32 : n ≤ 32) (hl : xs.length = l) (hf : AllFit xs) (hr : Rd w w.heap.size A (cellsI xs)) (hm : l ≤ 17592186044400) :
    Calls Tryd.prog 14 #[.int .i64 n, .slice A l c] w fun e w' => ∃ g, e = .returned (.tuple #[.slice (some ⟨g, 0, none⟩) n n, .bool (nodesB (n : Int) xs)]) ∧ w.heap.size ≤ g ∧
      w'.ownsRow w.heap.size 3 1 (.slice (some ⟨g, 0, none⟩) n n) n (cellsI (rowF (countF (goodP n xs)) n)) ∧ Below w.heap.size w w' := by
  subst hl
  obtain ⟨res, hres⟩ : ∃ r, nodesB (n : Int) xs = r := ⟨_, rfl⟩
  obtain ⟨row, hrow⟩ : ∃ r, rowF (countF (goodP n xs)) n = r := ⟨_, rfl⟩
  rw [hres, hrow]
  have Hres := Lib.hid hres
  have Hrow := Lib.hid hrow
  clear hres hrow
  have hmk := run_make_row' (P := Tryd.prog) 27 3 (.int .i64 0) 8 Tryd.underlying27 info_int rfl .i64 .i64 n (by omega) (by omega)
  rw [made_ints] at hmk
  have b0 := (Below.refl w.heap.size w).alloc (Nat.le_refl _) (.cells (cellsI (rowF (fun _ => 0) n)).toArray 3)
  have o0 := own_new_Sl w _ rfl 3 (cellsI (rowF (fun _ => 0) n)) n (by rw [cellsI_length, rowF_length]) (by unfold maxLen; omega)
  go_enter Tryd.func14, Tryd.ntmps14
  go_wp2_with fail
  go_loopw [7] (fun i wr => ∃ k : Nat, k ≤ xs.length ∧ i = .int .i64 k ∧ Below w.heap.size w wr ∧ wr.ownsRow w.heap.size 3 1 (.slice (some ⟨w.heap.size, 0, none⟩) n n) n (cellsI (rowF (countF (xs.take k)) n)) ∧ Hid (nodesB (n : Int) (xs.take k) = true)) (fun i _ => xs.length - (intOf i).toNat)
  case atStart => exact ⟨0, by omega, rfl, b0, by rw [show countF (xs.take 0) = fun _ => 0 by funext j; simp [countF]]; exact o0, rfl⟩
  case round =>
    clear b0 o0 hmk
    obtain ⟨k, hk, rfl, hb, ho, He⟩ := hrel
    by_cases hlt : k < xs.length
    · obtain ⟨b, off, x, rfl, hbl, hxf, hc, hd, hxx⟩ := (hr.below hb (Nat.le_refl _)).at_ hf hlt
      have h1 : (0 : Int) ≤ (k : Int) := by omega
      have h2 : (k : Int) < (xs.length : Int) := by omega
      by_cases hx0 : x < 0
      · obtain ⟨e1, e2⟩ := goodP_stop hxx.out He.out (by omega)
        have e3 : res = false := by rw [← Hres.out]; exact e2
        have e4 : row = rowF (countF (xs.take k)) n := by rw [← Hrow.out, e1]
        subst e3
        clear hd
        go_wp2_with fail
        go_ret2
        exact ⟨w.heap.size, rfl, Nat.le_refl _, by first | exact ho | (rw [e4]; exact ho), hb⟩
      · by_cases hxn : (n : Int) ≤ x
        · obtain ⟨e1, e2⟩ := goodP_stop hxx.out He.out (by omega)
          have e3 : res = false := by rw [← Hres.out]; exact e2
          have e4 : row = rowF (countF (xs.take k)) n := by rw [← Hrow.out, e1]
          subst e3
          clear hd
          go_wp2_with fail
          go_ret2
          exact ⟨w.heap.size, rfl, Nat.le_refl _, by first | exact ho | (rw [e4]; exact ho), hb⟩
        · obtain ⟨v, rfl⟩ : ∃ v : Nat, x = v := ⟨x.toNat, by omega⟩
          have hv : v < n := by omega
          have He2 : Hid (nodesB (n : Int) (xs.take (k + 1)) = true) := nodesB_take hxx.out He.out (by omega)
          have hstep := countF_step hxx.out
          have hcv := own_firCell ho hv
          have fro := ho.frozenAt v
          have hle := countF_le (xs.take k) v
          have hlt' : (xs.take k).length ≤ xs.length := by simp; omega
          obtain ⟨y, hy⟩ : ∃ y, countF (xs.take k) v = y := ⟨_, rfl⟩
          rw [hy] at hcv hstep hle
          have st := (ho.stored v (.int .i64 (y + 1))).1
          rw [cellsI_put, rowF_set, ← hstep] at st
          have b2 := hb.setCell (p := ⟨w.heap.size, v, none⟩) (Nat.le_refl _) (.int .i64 (y + 1))
          have h3 : (0 : Int) ≤ (v : Int) := by omega
          have h4 : (v : Int) < (n : Int) := by omega
          clear hd hstep ho hb He hy
          go_wp2_with fail
          go_region
          go_wp2
          go_roundw
          case rel => exact ⟨k + 1, by omega, by go_num, Below.drewN b2 1, own_below st (Drawn.below _ ((Drawn.refl _).drewN 1)), He2⟩
          case measure => simp [intOf]; omega
    · have hfull : xs.take k = xs := List.take_of_length_le (by omega)
      rw [hfull] at ho He
      have e3 : res = true := by rw [← Hres.out]; exact He.out
      have e4 : row = rowF (countF xs) n := by rw [← Hrow.out, goodP_all He.out]
      subst e3
      go_wp2_with fail
      go_ret2
      exact ⟨w.heap.size, rfl, Nat.le_refl _, by first | exact ho | (rw [e4]; exact ho), hb⟩
end Go.Proofs.YtpmlljbebdidgaaDoor
