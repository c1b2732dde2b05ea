/-
  FracMuls, FracScales: what the law computes is true.
-/
import Derived.Test.YtfielhbepnkekaaKn
import Derived.Test.YtfielhbepnkekaaAp4
namespace Go.Proofs.Ytfielhbepnkekaa
open Go.RowKit

theorem keptF_bl (fs : List Fr) (A : Option Addr) (n c g c' B B' : Nat) (w : World) (hn : fs.length = n) (hx : ∀ a ∈ fs, a.fit) (hr : Rd w B A (cellsF fs)) (hr' : Rd w B' (some ⟨g, 0, none⟩) (cellsF (fs ++ [markF]))) (hc : n + 1 ≤ c') (hm : n * 16 ≤ 140737488351232) :
    Calls Try.prog 23 #[.slice (some ⟨g, 0, none⟩) n c', .slice A n c] w fun e w' => e = .returned (.bool true) ∧ Below w.heap.size w w' :=
  (keptF_yes fs A n c g c' B B' w hn hx hr hr' hc hm).mono fun _ _ ⟨h, h'⟩ => ⟨h, h'.below _⟩
theorem sameInts_bl (xs : List Int) (A A' : Option Addr) (n c c' B B' : Nat) (w : World) (hn : xs.length = n) (hx : AllFit xs) (hr : Rd w B A (cellsI xs)) (hr' : Rd w B' A' (cellsI xs)) (hl : n ≤ maxLen) :
    Calls Try.prog 30 #[.slice A n c, .slice A' n c'] w fun e w' => e = .returned (.bool true) ∧ Below w.heap.size w w' :=
  (sameInts_yes xs A A' n c c' B B' w hn hx hr hr' hl).mono fun _ _ ⟨h, h'⟩ => ⟨h, h'.below _⟩
set_option maxRecDepth 100000 in
set_option maxHeartbeats 2000000 in
theorem mulsLaw_any (fs : List Fr) (A : Option Addr) (l c : Nat) (w : World) (hl : fs.length = l) (lc : l ≤ c) (hx : ∀ a ∈ fs, a.fit) (hr : Rd w w.heap.size A (cellsF fs)) (hz : c * 16 ≤ 140737488351232) : Calls Try.prog 4 #[.slice A l c] w fun e w' => e = .returned (.bool true) ∧ Below w.heap.size w w' := by
  have hml : l ≤ maxLen := by unfold maxLen; omega
  obtain ⟨x, hxx⟩ : ∃ x, (mulR fs).1.n = x := ⟨_, rfl⟩
  obtain ⟨y, hyy⟩ : ∃ y, (mulR fs).1.d = y := ⟨_, rfl⟩
  obtain ⟨z, hzz⟩ : ∃ z, (mulR fs).2 = z := ⟨_, rfl⟩
  have F1 := Lib.hid fun (A : Option Addr) (c : Nat) (w : World) (hr : Rd w w.heap.size A (cellsF fs)) => fmul_any fs A l c w hl hx hr hml
  have F2 := Lib.hid fun (A : Option Addr) (c : Nat) (w : World) (hr : Rd w w.heap.size A (cellsF fs)) => refMulF_any fs A l c w hl hx hr hml
  rw [hxx, hyy, hzz] at F1 F2
  clear hxx hyy hzz
  go_enter Try.func4, Try.ntmps4
  go_wp2_with fail
  refine (lentF_any fs A l c _ _ hl hr (by omega)).mono ?_
  rintro e w1 ⟨g, c2, rfl, hwL⟩
  have bb := hwL.2.2.2
  have hc2 := hwL.2.1
  have hrL := hwL.rd
  have hrf := hwL.rdf
  have bl := Below.refl w1.heap.size w1
  clear hwL
  go_wp2_with fail
  refine (F1.out _ _ _ ((hrf.below bl (Nat.le_refl _)).more bl.size)).mono ?_
  rintro e w2 ⟨rfl, hb2⟩
  have bl := bl.trans (hb2.mono bl.size)
  have bb := bb.trans (hb2.mono bb.size)
  clear hb2
  have bl := bl.alloc bl.size (.cells #[.int .i64 x, .int .i64 y] 23)
  have kf := Blk.new w2 (w2.heap.size) (by simp) 23 #[.int .i64 x, .int .i64 y]
  have bb := bb.alloc bb.size (.cells #[.int .i64 x, .int .i64 y] 23)
  have cf0 := kf.cell 0
  have cf1 := kf.cell 1
  simp only [List.getElem?_toArray, List.getElem?_cons_zero, List.getElem?_cons_succ] at cf0 cf1
  go_wp2_with fail
  refine (F2.out _ _ _ ((hr.below bb (Nat.le_refl _)).more bb.size)).mono ?_
  rintro e w3 ⟨rfl, hb3⟩
  have bl := bl.trans (hb3.mono bl.size)
  clear cf0 cf1
  have kf := kf.low hb3 kf.lt
  have bb := bb.trans (hb3.mono bb.size)
  clear hb3
  have bl := bl.alloc bl.size (.cells #[.int .i64 x, .int .i64 y] 23)
  have kf := kf.alloc (.cells #[.int .i64 x, .int .i64 y] 23)
  have kx := Blk.new w3 (w3.heap.size) (by simp) 23 #[.int .i64 x, .int .i64 y]
  have bb := bb.alloc bb.size (.cells #[.int .i64 x, .int .i64 y] 23)
  have cf0 := kf.cell 0
  have cf1 := kf.cell 1
  have cx0 := kx.cell 0
  have cx1 := kx.cell 1
  simp only [List.getElem?_toArray, List.getElem?_cons_zero, List.getElem?_cons_succ] at cf0 cf1 cx0 cx1
  go_wp2_with fail
  refine (awake_any _).mono ?_
  rintro e w4 ⟨rfl, hb4⟩
  have bl := bl.trans (hb4.mono bl.size)
  clear cf0 cf1 cx0 cx1
  have kf := kf.low hb4 kf.lt
  have kx := kx.low hb4 kx.lt
  have bb := bb.trans (hb4.mono bb.size)
  clear hb4
  have cf0 := kf.cell 0
  have cf1 := kf.cell 1
  have cx0 := kx.cell 0
  have cx1 := kx.cell 1
  simp only [List.getElem?_toArray, List.getElem?_cons_zero, List.getElem?_cons_succ] at cf0 cf1 cx0 cx1
  go_wp2_with fail
  refine (keptF_bl fs A l c g c2 _ _ _ hl hx (hr.below bb (Nat.le_refl _)) (hrL.below bl (Nat.le_refl _)) hc2 (by omega)).mono ?_
  rintro e w5 ⟨rfl, hb5⟩
  have bl := bl.trans (hb5.mono bl.size)
  clear cf0 cf1 cx0 cx1
  have kf := kf.low hb5 kf.lt
  have kx := kx.low hb5 kx.lt
  have bb := bb.trans (hb5.mono bb.size)
  clear hb5
  go_wp2_with fail
  go_ret
  exact ⟨by simp, bb⟩

theorem scaleR_list (fs : List Fr) : AllFit (scaleR fs).2.1 ∧ (scaleR fs).2.1.length ≤ fs.length := by
  cases hv : fs.all Fr.valid with
  | false => rw [scaleR_bad hv]; exact ⟨fun _ h => (by cases h), Nat.zero_le _⟩
  | true =>
    cases h2 : ((lcmF fs).2 && scAll (lcmF fs).1 fs) with
    | false => rw [scaleR_big hv h2]; exact ⟨fun _ h => (by cases h), Nat.zero_le _⟩
    | true =>
      rw [scaleR_ok hv h2]
      rw [Bool.and_eq_true] at h2
      refine ⟨fun x hx => ?_, by simp⟩
      obtain ⟨f, hf, rfl⟩ := List.mem_map.1 hx
      exact okB_iff.1 (List.all_eq_true.1 h2.2 f hf)
def pairF {α : Type} (a b : α) (j : Nat) : α := if j = 0 then a else b
theorem apart_pair (A A' : Option Addr) (c c' n : Nat) (xs xs' : List Int) (bo B : Nat) (w : World) (hn : n ≤ 17592186044400)
    (ho : w.ownsRow B 3 1 (.slice A n c) n (cellsI xs)) (ho' : w.ownsRow B 3 1 (.slice A' n c') n (cellsI xs')) (hd : ∀ b, blkOf A = some b → blkOf A' ≠ some b)
    (h0 : w.cell? ⟨bo, 0, none⟩ = some (.slice A n c)) (h1 : w.cell? ⟨bo, 1, none⟩ = some (.slice A' n c')) (hb : blkOf A ≠ some bo) (hb' : blkOf A' ≠ some bo) (hbo : bo < w.heap.size) (hB : B ≤ w.heap.size) :
    Calls Try.prog 31 #[.slice (some ⟨bo, 0, none⟩) 2 2] w fun e w' => e = .returned (.bool true) ∧ Below B w w' := by
  have cas : ∀ j, j < 2 → j = 0 ∨ j = 1 := fun j hj => by omega
  refine apart_any 2 (pairF A A') (fun _ => n) (pairF c c') (pairF xs xs') bo 0 2 B w (by omega) ?_ ?_ ?_ ?_ ?_ hbo hB
  · intro j hj; exact hn
  · intro j hj; rcases cas j hj with rfl | rfl
    · exact ho
    · exact ho'
  · intro j k hj hk hne b hbj
    rcases cas j hj with rfl | rfl <;> rcases cas k hk with rfl | rfl
    · omega
    · exact hd b hbj
    · intro he; exact hd b he hbj
    · omega
  · intro j hj; rcases cas j hj with rfl | rfl
    · exact h0
    · exact h1
  · intro j hj; rcases cas j hj with rfl | rfl
    · exact hb
    · exact hb'
theorem own_blk {w : World} {base : Nat} {e : TypeId} {size n c : Nat} {A : Option Addr} {xs : List Value} (h : w.ownsRow base e size (.slice A n c) n xs) : ∀ b, blkOf A = some b → base ≤ b ∧ b < w.heap.size := by
  intro b hb
  refine h.lt b ?_
  cases A with
  | none => simp [blkOf] at hb
  | some a => simpa [blkOf, Value.ownBlock] using hb
set_option maxRecDepth 100000 in
set_option maxHeartbeats 2000000 in
theorem scalesLaw_any (fs : List Fr) (A : Option Addr) (l c : Nat) (w : World) (hl : fs.length = l) (lc : l ≤ c) (hx : ∀ a ∈ fs, a.fit) (hr : Rd w w.heap.size A (cellsF fs)) (hz : c * 16 ≤ 140737488351232) : Calls Try.prog 7 #[.slice A l c] w fun e w' => e = .returned (.bool true) ∧ Below w.heap.size w w' := by
  obtain ⟨hfl, hll⟩ := scaleR_list fs
  have S1 := Lib.hid fun (A : Option Addr) (c : Nat) (w : World) (hr : Rd w w.heap.size A (cellsF fs)) => fscale_any fs A l c w hl hx hr (by omega)
  have S2 := Lib.hid fun (A : Option Addr) (c : Nat) (w : World) (hr : Rd w w.heap.size A (cellsF fs)) => refScale_any fs A l c w hl hx hr (by omega)
  unfold ScalePost at S1 S2
  obtain ⟨x, hxx⟩ : ∃ x, (scaleR fs).1 = x := ⟨_, rfl⟩
  obtain ⟨xs, hyy⟩ : ∃ y, (scaleR fs).2.1 = y := ⟨_, rfl⟩
  obtain ⟨z, hzz⟩ : ∃ z, (scaleR fs).2.2 = z := ⟨_, rfl⟩
  rw [hxx, hyy, hzz] at S1 S2
  rw [hyy] at hfl hll
  obtain ⟨n, hn⟩ : ∃ n, xs.length = n := ⟨_, rfl⟩
  rw [hn] at S1 S2 hll
  have Hn := Lib.hid hn
  clear hxx hyy hzz hn
  have hnl : n ≤ 8796093022208 := by omega
  have hnm : n ≤ maxLen := by unfold maxLen; omega
  go_enter Try.func7, Try.ntmps7
  go_wp2_with fail
  refine (lentF_any fs A l c _ _ hl hr (by omega)).mono ?_
  rintro e w1 ⟨g, c2, rfl, hwL⟩
  have bb := hwL.2.2.2
  have hc2 := hwL.2.1
  have hs1 := bb.size
  have hrL := hwL.rd
  have hrf := hwL.rdf
  have bl := Below.refl w1.heap.size w1
  clear hwL
  go_wp2_with fail
  refine (S1.out _ _ _ ((hrf.below bl (Nat.le_refl _)).more bl.size)).mono ?_
  rintro e w2 ⟨lva, rfl, hoa, hb2⟩
  have hs2 := hb2.size
  obtain ⟨Aa, ca, rfl, hcca⟩ := own_slice hoa
  have hBa := own_blk hoa
  have bl := bl.trans (hb2.mono bl.size)
  have bb := bb.trans (hb2.mono bb.size)
  clear hb2
  go_wp2_with fail
  refine (S1.out _ _ _ ((hrf.below bl (Nat.le_refl _)).more bl.size)).mono ?_
  rintro e w3 ⟨lvb, rfl, hob, hb3⟩
  obtain ⟨Ab, cb, rfl, hccb⟩ := own_slice hob
  have hBb := own_blk hob
  have hoa := own_below hoa hb3
  have bl := bl.trans (hb3.mono bl.size)
  have bb := bb.trans (hb3.mono bb.size)
  clear hb3
  go_wp2_with fail
  refine (S2.out _ _ _ ((hr.below bb (Nat.le_refl _)).more bb.size)).mono ?_
  rintro e w4 ⟨lvd, rfl, hod, hb4⟩
  obtain ⟨Ad, cd, rfl, hccd⟩ := own_slice hod
  have hBd := own_blk hod
  have hoa := own_below hoa hb4
  have hob := own_below hob hb4
  have bl := bl.trans (hb4.mono bl.size)
  have bb := bb.trans (hb4.mono bb.size)
  clear hb4
  go_wp2_with fail
  refine (sameInts_bl xs _ _ n _ _ _ _ _ Hn.out hfl (rd_of_own hoa) (rd_of_own hod) hnm).mono ?_
  rintro e w5 ⟨rfl, hb5⟩
  have hoa := own_below hoa hb5
  have hob := own_below hob hb5
  have hod := own_below hod hb5
  have bl := bl.trans (hb5.mono bl.size)
  have bb := bb.trans (hb5.mono bb.size)
  clear hb5
  go_wp2_with fail
  refine (sameInts_bl xs _ _ n _ _ _ _ _ Hn.out hfl (rd_of_own hob) (rd_of_own hod) hnm).mono ?_
  rintro e w6 ⟨rfl, hb6⟩
  have hoa := own_below hoa hb6
  have hob := own_below hob hb6
  have hod := own_below hod hb6
  have bl := bl.trans (hb6.mono bl.size)
  have bb := bb.trans (hb6.mono bb.size)
  clear hb6
  go_wp2_with fail
  refine (keptF_bl fs A l c g c2 _ _ _ hl hx (hr.below bb (Nat.le_refl _)) (hrL.below bl (Nat.le_refl _)) hc2 (by omega)).mono ?_
  rintro e w7 ⟨rfl, hb7⟩
  have hoa := own_below hoa hb7
  have hob := own_below hob hb7
  have hod := own_below hod hb7
  have bl := bl.trans (hb7.mono bl.size)
  have bb := bb.trans (hb7.mono bb.size)
  clear hb7
  go_wp2_with fail
  refine (awake_any _).mono ?_
  rintro e w8 ⟨rfl, hb8⟩
  have hoa := own_below hoa hb8
  have hob := own_below hob hb8
  have hod := own_below hod hb8
  have bl := bl.trans (hb8.mono bl.size)
  have bb := bb.trans (hb8.mono bb.size)
  clear hb8
  have hdis : ∀ b, blkOf Aa = some b → blkOf Ab ≠ some b := fun b h h2 => by
    have := (hBa b h).2
    have := (hBb b h2).1
    omega
  have hza : ∀ b, blkOf Aa = some b → b < w8.heap.size := fun b h => (own_blk hoa b h).2
  have hzb : ∀ b, blkOf Ab = some b → b < w8.heap.size := fun b h => (own_blk hob b h).2
  have bl := bl.alloc bl.size (.cells #[.slice Aa n ca, .slice Ab n cb] 40)
  have hoa := own_below hoa ((Below.refl _ _).alloc (Nat.le_refl _) (.cells #[.slice Aa n ca, .slice Ab n cb] 40))
  have hob := own_below hob ((Below.refl _ _).alloc (Nat.le_refl _) (.cells #[.slice Aa n ca, .slice Ab n cb] 40))
  have hod := own_below hod ((Below.refl _ _).alloc (Nat.le_refl _) (.cells #[.slice Aa n ca, .slice Ab n cb] 40))
  have kS := Blk.new w8 (w8.heap.size) (by simp) 40 #[.slice Aa n ca, .slice Ab n cb]
  have bb := bb.alloc bb.size (.cells #[.slice Aa n ca, .slice Ab n cb] 40)
  go_wp2_with fail
  refine (apart_pair Aa Ab ca cb n xs xs w8.heap.size w1.heap.size _ (by omega) hoa (own_lower hob hs2) hdis (kS.cell 0) (kS.cell 1) (fun h => by have := hza _ h; omega) (fun h => by have := hzb _ h; omega) (by simp) bl.size).mono ?_
  rintro e w9 ⟨rfl, hb9⟩
  have bl := bl.trans hb9
  have bb := bb.trans (hb9.mono hs1)
  clear hoa hob hod kS
  go_wp2_with fail
  refine (keptF_bl fs A l c g c2 _ _ _ hl hx (hr.below bb (Nat.le_refl _)) (hrL.below bl (Nat.le_refl _)) hc2 (by omega)).mono ?_
  rintro e w10 ⟨rfl, hb10⟩
  have bl := bl.trans (hb10.mono bl.size)
  have bb := bb.trans (hb10.mono bb.size)
  clear hb10
  go_wp2_with fail
  go_ret
  exact ⟨by simp, bb⟩
end Go.Proofs.Ytfielhbepnkekaa
