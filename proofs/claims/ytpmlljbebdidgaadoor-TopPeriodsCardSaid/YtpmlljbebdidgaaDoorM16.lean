/-
  Sm, Sn, So, Sp: texts pasted together.
-/
import Derived.Test.YtpmlljbebdidgaaDoorM14
/-
  simul.ranks.
-/
namespace Go.Proofs.YtpmlljbebdidgaaDoor
open Go.RowKit

/-- the rank of a node, when the places from k on have been written -/
def rankF (n : Nat) (ps : List Int) (k : Nat) (v : Nat) : Int := match ((List.range ps.length).drop k).find? fun i : Nat => decide ((ps[i]?).getD 0 = (v : Int)) with
  | some i => i
  | none => (ps.length : Int) + n - v
theorem rankF_end (n : Nat) (ps : List Int) (v : Nat) : rankF n ps ps.length v = (ps.length : Int) + n - v := by
  unfold rankF
  rw [List.drop_eq_nil_of_le (by simp)]; rfl
theorem rankF_step {n : Nat} {ps : List Int} {k x : Nat} (hk : ps[k]? = some (x : Int)) : upd (rankF n ps (k + 1)) x (k : Int) = rankF n ps k := by
  have hlt := (List.getElem?_eq_some_iff.1 hk).1
  have hd : (List.range ps.length).drop k = k :: (List.range ps.length).drop (k + 1) := by
    rw [List.drop_eq_getElem_cons (by simpa using hlt)]; simp
  funext v
  unfold rankF
  rw [hd]
  by_cases hv : v = x
  · subst hv
    rw [upd_self, List.find?_cons_of_pos (by rw [hk]; simp)]
  · rw [upd_other hv, List.find?_cons_of_neg (by rw [hk]; simp; omega)]

set_option maxRecDepth 100000 in
set_option maxHeartbeats 2000000 in
theorem ranks_any (n : Nat) (ps : List Int) (A : Option Addr) (l c : Nat) (w : World) (n32 : n ≤ 32) (hl : ps.length = l) (hf : AllFit ps) (hr : Rd w w.heap.size A (cellsI ps)) (hm : l * 8 ≤ 140737488351232) (hin : ∀ x ∈ ps, 0 ≤ x ∧ x < n) :
    Calls Tryd.prog 27 #[.int .i64 n, .slice A l c] w fun e w' => ∃ g, e = .returned (.slice (some ⟨g, 0, none⟩) n n) ∧ w.heap.size ≤ g ∧ w'.ownsRow w.heap.size 3 1 (.slice (some ⟨g, 0, none⟩) n n) n (cellsI (rowF (rankF n ps 0) n)) ∧ Below w.heap.size w w' := by
  subst hl
  have hmk := run_make_row' (P := Tryd.prog) 27 3 (.int .i64 0) 8 Tryd.underlying27 info_int rfl .i64 .i64 n (by omega) (by omega)
  rw [made_ints] at hmk
  go_enter Tryd.func27, Tryd.ntmps27
  have b0 := (Below.refl w.heap.size w).alloc (Nat.le_refl _) (.cells (cellsI (rowF (fun _ => 0) n)).toArray 3)
  have o0 := own_new_Sl w _ rfl 3 (cellsI (rowF (fun _ => 0) n)) n (by rw [cellsI_length, rowF_length]) (by unfold maxLen; omega)
  have hm2 : ps.length ≤ 17592186044000 := by omega
  go_wp2
  go_loopw [12] (fun i wr => ∃ k : Nat, k ≤ n ∧ i = .int .i64 k ∧ Below w.heap.size w wr ∧ wr.ownsRow w.heap.size 3 1 (.slice (some ⟨w.heap.size, 0, none⟩) n n) n (cellsI (rowF (fun v => if v < k then (ps.length : Int) + n - v else 0) n))) (fun i _ => n - (intOf i).toNat)
  case atStart => exact ⟨0, by omega, rfl, b0, by simpa using o0⟩
  case round =>
    clear b0 o0 hmk
    obtain ⟨k, hk, rfl, hb, ho⟩ := hrel
    by_cases hlt : k < n
    · have st := (ho.stored k (.int .i64 ((ps.length : Int) + n - k))).1
      rw [cellsI_put, rowF_set] at st
      have e : upd (fun v : Nat => if v < k then (ps.length : Int) + n - v else 0) k ((ps.length : Int) + n - k) = fun v : Nat => if v < k + 1 then (ps.length : Int) + n - v else 0 := by
        funext v
        by_cases hv : v = k
        · subst hv; rw [upd_self, if_pos (by omega)]
        · rw [upd_other hv]
          by_cases h : v < k
          · rw [if_pos h, if_pos (by omega)]
          · rw [if_neg h, if_neg (by omega)]
      rw [e] at st
      have hc := own_firCell ho hlt
      have fro := ho.frozenAt k
      have b2 := hb.setCell (p := ⟨w.heap.size, k, none⟩) (Nat.le_refl _) (.int .i64 ((ps.length : Int) + n - k))
      have h1 : (0 : Int) ≤ (k : Int) := by omega
      have h2 : (k : Int) < (n : Int) := by omega
      clear e ho hb
      go_wp2
      go_roundw
      case rel => exact ⟨k + 1, by omega, by go_num, b2, st⟩
      case measure => simp [intOf]; omega
    · obtain rfl : k = n := by omega
      have ho2 : wr.ownsRow w.heap.size 3 1 (.slice (some ⟨w.heap.size, 0, none⟩) k k) k (cellsI (rowF (rankF k ps ps.length) k)) := by
        have e : rowF (rankF k ps ps.length) k = rowF (fun v : Nat => if v < k then (ps.length : Int) + k - v else 0) k := List.map_congr_left fun v hv => by rw [rankF_end, if_pos (List.mem_range.1 hv)]
        rw [e]; exact ho
      clear ho
      go_wp2
      go_loopw [7] (fun i wx => ∃ j : Nat, j ≤ ps.length ∧ i = .int .i64 ((j : Int) - 1) ∧ Below w.heap.size w wx ∧ wx.ownsRow w.heap.size 3 1 (.slice (some ⟨w.heap.size, 0, none⟩) k k) k (cellsI (rowF (rankF k ps j) k))) (fun i _ => (intOf i + 1).toNat)
      case atStart => exact ⟨ps.length, by omega, by go_num, hb, ho2⟩
      case round =>
        clear hb ho2
        obtain ⟨j, hj, rfl, hb, ho⟩ := hrel
        match j, hj, ho with
        | 0, hj, ho =>
          go_wp2
          go_ret
          exact ⟨w.heap.size, rfl, Nat.le_refl _, ho, hb⟩
        | j + 1, hj, ho =>
          rw [show (((j + 1 : Nat) : Int) - 1) = (j : Int) by omega]
          obtain ⟨b, off, x, rfl, hbl, hxf, hc, hd, hxx⟩ := (hr.below hb (Nat.le_refl _)).at_ hf (k := j) (by omega)
          obtain ⟨hx0, hxk⟩ := hin x (List.mem_of_getElem? hxx.out)
          obtain ⟨y, rfl⟩ : ∃ y : Nat, x = y := ⟨x.toNat, by omega⟩
          have st := (ho.stored y (.int .i64 j)).1
          rw [cellsI_put, rowF_set, rankF_step hxx.out] at st
          have hcy := own_firCell ho (show y < k by omega)
          have fro := ho.frozenAt y
          have b2 := hb.setCell (p := ⟨w.heap.size, y, none⟩) (Nat.le_refl _) (.int .i64 j)
          have h1 : (0 : Int) ≤ (j : Int) := by omega
          have h2 : (j : Int) < (ps.length : Int) := by omega
          clear ho hb
          go_wp2
          go_roundw
          case rel => exact ⟨j, by omega, by go_num, b2, st⟩
          case measure => simp [intOf]
end Go.Proofs.YtpmlljbebdidgaaDoor
/-
  pianolaref15.next.
-/
namespace Go.Proofs.YtpmlljbebdidgaaDoor
open Go.RowKit

def wantB (ars : List ArcV) (n : Nat) (F : Nat → Int) (rs : List Int) (x : Int) : Bool := decide (F x.toNat < repAt rs x) && mayB ars n F x
/-- the node of a line that fires next -/
def nextF (ars : List ArcV) (n : Nat) (F : Nat → Int) (rs : List Int) (line : List Int) : Int := (line.find? (wantB ars n F rs)).getD (-1)

end Go.Proofs.YtpmlljbebdidgaaDoor
/-
  pianolaref15.order.
-/
namespace Go.Proofs.YtpmlljbebdidgaaDoor
open Go.RowKit

/-- the nodes from the greatest down to j -/
def downF (n j : Nat) : List Int := ((List.range (n - j)).map fun i => ((n - 1 - i : Nat) : Int))
theorem downF_step {n j : Nat} (h : j < n) : downF n j = downF n (j + 1) ++ [(j : Int)] := by
  unfold downF
  rw [show n - j = n - (j + 1) + 1 by omega, List.range_succ, List.map_append]
  congr 1
  simp; omega

end Go.Proofs.YtpmlljbebdidgaaDoor
/-
  pianolaref15.wrong.
-/
namespace Go.Proofs.YtpmlljbebdidgaaDoor
open Go.RowKit

def sumF (rs : List Int) : Int := rs.foldl (· + ·) 0
def nodesB (n : Int) (ps : List Int) : Bool := ps.all fun x => decide (0 ≤ x ∧ x < n)
/-- what is wrong with what is asked -/
def wrongF (n : Int) (ars : List ArcV) (rs ps : List Int) : Int :=
  if holdE n ars rs = 0 then (if holdB n ars rs = true then (if 2048 < sumF rs then 5 else if nodesB n ps = true then 0 else 100) else 130) else holdE n ars rs
theorem sumF_take {rs : List Int} {k : Nat} {x : Int} (h : rs[k]? = some x) : sumF (rs.take (k + 1)) = sumF (rs.take k) + x := by
  unfold sumF
  rw [List.take_add_one, h, List.foldl_append]; rfl
theorem sumF_bound {rs : List Int} (h : rs.all repB = true) : ∀ k, 0 ≤ sumF (rs.take k) ∧ sumF (rs.take k) ≤ 4096 * (k : Int) := by
  intro k
  induction k with
  | zero => simp [sumF]
  | succ k ih =>
    by_cases hk : k < rs.length
    · rw [sumF_take (List.getElem?_eq_getElem hk)]
      have h1 := List.all_eq_true.1 h _ (List.getElem_mem hk)
      simp only [repB, decide_eq_true_eq] at h1
      omega
    · rw [List.take_of_length_le (by omega)]
      rw [List.take_of_length_le (by omega)] at ih
      omega
theorem holdB_parts {n : Int} {ars : List ArcV} {rs : List Int} (h : holdB n ars rs = true) : checkF n ars = 0 ∧ (rs.length : Int) = n ∧ rs.all repB = true ∧ ars.all (evenB rs) = true := by
  unfold holdB at h
  rw [Bool.and_eq_true, Bool.and_eq_true, decide_eq_true_eq] at h
  exact ⟨h.1.1, h.1.2, h.2.1, h.2.2⟩

end Go.Proofs.YtpmlljbebdidgaaDoor
