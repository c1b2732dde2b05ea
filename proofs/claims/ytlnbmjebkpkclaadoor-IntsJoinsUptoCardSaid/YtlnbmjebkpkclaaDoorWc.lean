/-
  The references' magnitudes: less takes the lesser one from the greater one, in new memory.
-/
import Derived.Test.YtlnbmjebkpkclaaDoorWb
namespace Go.Proofs.YtlnbmjebkpkclaaDoor
open Go.RowKit

theorem padDiff_at (a : List Int) : ∀ (b : List Int) (k : Nat), k < a.length → (padDiff a b).drop k = (a.getD k 0 - b.getD k 0) :: (padDiff a b).drop (k + 1) := by
  induction a with
  | nil => intro b k h; simp at h
  | cons x a ih =>
    intro b k h
    cases b with
    | nil =>
      simp only [padDiff]
      rw [List.drop_eq_getElem_cons h]
      simp [List.getElem?_eq_getElem h]
    | cons y b =>
      cases k with
      | zero => simp [padDiff]
      | succ k =>
        have := ih b k (by simpa using h)
        simpa [padDiff] using this

set_option maxRecDepth 100000 in
set_option maxHeartbeats 2000000 in
theorem less_digits (a b : List Int) (A A' : Option Addr) (n m c c' B : Nat) (w : World) (hn : a.length = n) (hm : b.length = m) (ha : Dig a) (hb : Dig b) (hr : Rd w B A (cellsI a)) (hr' : Rd w B A' (cellsI b)) (hl : n ≤ 1099511627776) (hB : B ≤ w.heap.size)
    (hlen : m ≤ n) (hle : val b ≤ val a) :
    Calls Tryd.prog 47 #[.slice A n c, .slice A' m c'] w fun e w' => ∃ A₁ k c₁ ds, e = .returned (.slice A₁ k c₁) ∧ List.length ds = k ∧ k ≤ c₁ ∧ c₁ ≤ maxLen ∧ Norm ds ∧ val ds = val a - val b ∧ Rd w' w'.heap.size A₁ (cellsI ds) ∧ (∀ ad, A₁ = some ad → w.heap.size ≤ ad.block) ∧ Below w.heap.size w w' := by
  subst hn hm
  obtain ⟨i, hi, hz0, hz1, hz2⟩ := info_parts info_int
  obtain ⟨S, hS⟩ : ∃ S, S = padDiff a b := ⟨_, rfl⟩
  have hSl : S.length = a.length := by rw [hS]; exact padDiff_length a b
  have HSl := Lib.hid hSl
  have hSat := Lib.hid (fun k (h : k < a.length) => hS ▸ padDiff_at a b k h)
  have hSd := Lib.hid (hS ▸ borrowOn_dig (padDiff a b) 0 (by omega) (by omega) (padDiff_bound a b ha hb))
  have hSv := Lib.hid (hS ▸ less_val ha hb hlen hle)
  clear hS hSl hle
  go_enter Tryd.func47, Tryd.ntmps47
  go_wp2
  go_loopw [5, 6, 7] (fun v cr i wr => ∃ (k : Nat) (c0 : Int) (out : List Int), k ≤ a.length ∧ i = .int .i64 k ∧ cr = .int .i64 c0 ∧ 0 ≤ c0 ∧ c0 ≤ 1 ∧ out.length = k ∧ wr.ownsRow w.heap.size 3 1 v k (cellsI out) ∧ Hid (borrowOn 0 S = out ++ borrowOn c0 (S.drop k)) ∧ Below w.heap.size w wr) (fun _ _ i _ => a.length - (intOf i).toNat)
  case atStart => exact ⟨0, 0, [], by omega, rfl, rfl, by omega, by omega, rfl, World.ownsRow_nil _ _ _ _, rfl, Below.refl _ _⟩
  case round =>
    obtain ⟨k, c0, out, hk, rfl, rfl, hc0, hc1, hol, hown, Ho, hbw⟩ := hrel
    by_cases hka : k < a.length
    · have hdS := Lib.hid (hSat.out k hka)
      obtain ⟨bk, off, x, rfl, hbl, hxk, hck, hdk, hxx⟩ := (hr.below hbw hB).at_ ha.fits hka
      have hxa : Hid (a.getD k 0 = x) := by unfold Hid; rw [List.getD_eq_getElem?_getD, hxx.out]; rfl
      have hxd := ha x (List.mem_of_getElem? hxx.out)
      clear hdk hxx
      by_cases hkb : k < b.length
      · obtain ⟨bk', off', y, rfl, hbl', hyk, hck', hdk', hyy⟩ := (hr'.below hbw hB).at_ hb.fits hkb
        have hyb : Hid (b.getD k 0 = y) := by unfold Hid; rw [List.getD_eq_getElem?_getD, hyy.out]; rfl
        have hyd := hb y (List.mem_of_getElem? hyy.out)
        clear hdk' hyy
        by_cases hneg : x - c0 - y < 0
        · have Hst : Hid (borrowOn 0 S = (out ++ [x - c0 - y + 1073741824]) ++ borrowOn 1 (S.drop (k + 1))) := by
            unfold Hid; rw [Ho.out, hdS.out, hxa.out, hyb.out, borrowOn, if_pos (by omega), List.append_assoc, show x - y - c0 = x - c0 - y from by omega]; rfl
          clear Ho hdS
          go_wp2_with (at_builtin; refine wpList_append_own _ rfl _ _ 26 rfl w.heap.size 3 i (.int .i64 0) 1 8 Tryd.underlying26 hi hz0 hz1 hz2 rfl (by decide) _ k (cellsI out) rfl (hown.alloc _) ⟨wr.heap.size, 0, none⟩ 1 1 [.int .i64 (x - c0 - y + 1073741824)] rfl rfl (cell_one_new _ _ _) (by simp [Value.oneCell']) (by unfold maxLen; omega) (by omega) (by have := hbw.size; simp; omega) ?_)
          intro v' w2 hown2 hg2 _
          have hown3 : w2.ownsRow w.heap.size 3 1 v' (k + 1) (cellsI (out ++ [x - c0 - y + 1073741824])) := by simpa [cellsI] using hown2
          have hbw2 : Below w.heap.size w w2 := (hbw.alloc hbw.size _).grown hg2 (by have := hbw.size; simp; omega) (fun j hj => (hown.lt j hj).1)
          clear hown2 hg2 hown hbw
          go_wp2
          go_roundw
          case rel => exact ⟨k + 1, 1, out ++ [x - c0 - y + 1073741824], by omega, by go_num, by go_num, by omega, by omega, by simp [hol], hown3, Hst, hbw2⟩
          case measure => simp [intOf]; omega
        · have Hst : Hid (borrowOn 0 S = (out ++ [x - c0 - y]) ++ borrowOn 0 (S.drop (k + 1))) := by
            unfold Hid; rw [Ho.out, hdS.out, hxa.out, hyb.out, borrowOn, if_neg (by omega), List.append_assoc, show x - y - c0 = x - c0 - y from by omega]; rfl
          clear Ho hdS
          go_wp2_with (at_builtin; refine wpList_append_own _ rfl _ _ 26 rfl w.heap.size 3 i (.int .i64 0) 1 8 Tryd.underlying26 hi hz0 hz1 hz2 rfl (by decide) _ k (cellsI out) rfl (hown.alloc _) ⟨wr.heap.size, 0, none⟩ 1 1 [.int .i64 (x - c0 - y)] rfl rfl (cell_one_new _ _ _) (by simp [Value.oneCell']) (by unfold maxLen; omega) (by omega) (by have := hbw.size; simp; omega) ?_)
          intro v' w2 hown2 hg2 _
          have hown3 : w2.ownsRow w.heap.size 3 1 v' (k + 1) (cellsI (out ++ [x - c0 - y])) := by simpa [cellsI] using hown2
          have hbw2 : Below w.heap.size w w2 := (hbw.alloc hbw.size _).grown hg2 (by have := hbw.size; simp; omega) (fun j hj => (hown.lt j hj).1)
          clear hown2 hg2 hown hbw
          go_wp2
          go_roundw
          case rel => exact ⟨k + 1, 0, out ++ [x - c0 - y], by omega, by go_num, by go_num, by omega, by omega, by simp [hol], hown3, Hst, hbw2⟩
          case measure => simp [intOf]; omega
      · have hyb : Hid (b.getD k 0 = 0) := getD_zero_of_le (by omega)
        by_cases hneg : x - c0 < 0
        · have Hst : Hid (borrowOn 0 S = (out ++ [x - c0 + 1073741824]) ++ borrowOn 1 (S.drop (k + 1))) := by
            unfold Hid; rw [Ho.out, hdS.out, hxa.out, hyb.out, Int.sub_zero, borrowOn, if_pos (by omega), List.append_assoc]; rfl
          clear Ho hdS
          go_wp2_with (at_builtin; refine wpList_append_own _ rfl _ _ 26 rfl w.heap.size 3 i (.int .i64 0) 1 8 Tryd.underlying26 hi hz0 hz1 hz2 rfl (by decide) _ k (cellsI out) rfl (hown.alloc _) ⟨wr.heap.size, 0, none⟩ 1 1 [.int .i64 (x - c0 + 1073741824)] rfl rfl (cell_one_new _ _ _) (by simp [Value.oneCell']) (by unfold maxLen; omega) (by omega) (by have := hbw.size; simp; omega) ?_)
          intro v' w2 hown2 hg2 _
          have hown3 : w2.ownsRow w.heap.size 3 1 v' (k + 1) (cellsI (out ++ [x - c0 + 1073741824])) := by simpa [cellsI] using hown2
          have hbw2 : Below w.heap.size w w2 := (hbw.alloc hbw.size _).grown hg2 (by have := hbw.size; simp; omega) (fun j hj => (hown.lt j hj).1)
          clear hown2 hg2 hown hbw
          go_wp2
          go_roundw
          case rel => exact ⟨k + 1, 1, out ++ [x - c0 + 1073741824], by omega, by go_num, by go_num, by omega, by omega, by simp [hol], hown3, Hst, hbw2⟩
          case measure => simp [intOf]; omega
        · have Hst : Hid (borrowOn 0 S = (out ++ [x - c0]) ++ borrowOn 0 (S.drop (k + 1))) := by
            unfold Hid; rw [Ho.out, hdS.out, hxa.out, hyb.out, Int.sub_zero, borrowOn, if_neg (by omega), List.append_assoc]; rfl
          clear Ho hdS
          go_wp2_with (at_builtin; refine wpList_append_own _ rfl _ _ 26 rfl w.heap.size 3 i (.int .i64 0) 1 8 Tryd.underlying26 hi hz0 hz1 hz2 rfl (by decide) _ k (cellsI out) rfl (hown.alloc _) ⟨wr.heap.size, 0, none⟩ 1 1 [.int .i64 (x - c0)] rfl rfl (cell_one_new _ _ _) (by simp [Value.oneCell']) (by unfold maxLen; omega) (by omega) (by have := hbw.size; simp; omega) ?_)
          intro v' w2 hown2 hg2 _
          have hown3 : w2.ownsRow w.heap.size 3 1 v' (k + 1) (cellsI (out ++ [x - c0])) := by simpa [cellsI] using hown2
          have hbw2 : Below w.heap.size w w2 := (hbw.alloc hbw.size _).grown hg2 (by have := hbw.size; simp; omega) (fun j hj => (hown.lt j hj).1)
          clear hown2 hg2 hown hbw
          go_wp2
          go_roundw
          case rel => exact ⟨k + 1, 0, out ++ [x - c0], by omega, by go_num, by go_num, by omega, by omega, by simp [hol], hown3, Hst, hbw2⟩
          case measure => simp [intOf]; omega
    · have hdS : S.drop k = [] := List.drop_eq_nil_of_le (by rw [HSl.out]; omega)
      have hout : borrowOn 0 S = out := by rw [Ho.out, hdS]; simp [borrowOn]
      have hod : Dig out := hout ▸ hSd.out
      have Hov : Hid (val out = val a - val b) := by unfold Hid; rw [← hout]; exact hSv.out
      clear hout hdS Ho
      obtain ⟨A₁, c₁, rfl, hc₁, hcm⟩ := own_slice_max hown
      have hro := rd_of_own hown
      have hnew := own_new hown
      go_wp2_with (go_at_call 44; refine (trim_any out A₁ k c₁ _ _ hol hc₁ hod hro hcm).mono ?_; rintro e w' ⟨k', hk', rfl, hnorm, hval, rfl⟩)
      go_ret
      exact ⟨A₁, k', c₁, out.take k', rfl, by rw [List.length_take]; omega, by omega, hcm, by assumption, by rw [← Hov.out]; assumption, hro.take k', hnew, hbw⟩
end Go.Proofs.YtlnbmjebkpkclaaDoor
