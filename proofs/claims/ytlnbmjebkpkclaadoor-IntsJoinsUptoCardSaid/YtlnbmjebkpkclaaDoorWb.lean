/-
  The references' magnitudes added: add returns the digits of the sum, in new memory.
-/
import Derived.Test.YtlnbmjebkpkclaaDoorWa
namespace Go.Proofs.YtlnbmjebkpkclaaDoor
open Go.RowKit

theorem own_slice_max {w : World} {base : Nat} {e : TypeId} {size : Nat} {v : Value} {n : Nat} {xs : List Value} (h : w.ownsRow base e size v n xs) : ∃ A c, v = .slice A n c ∧ n ≤ c ∧ c ≤ maxLen := by
  rcases h.2 with ⟨h', h0⟩ | ⟨g, cap, cur, hv, hb, hg, h1, h2, h3, h4⟩
  · exact ⟨none, 0, by rw [h', h0], by omega, by simp⟩
  · exact ⟨_, cap, hv, h1, h2⟩
theorem own_new {w : World} {base : Nat} {e : TypeId} {size : Nat} {A : Option Addr} {n c : Nat} {xs : List Value} (h : w.ownsRow base e size (.slice A n c) n xs) : ∀ ad, A = some ad → base ≤ ad.block := by
  intro ad ha
  subst ha
  exact (h.lt ad.block rfl).1
theorem getD_zero_of_le {a : List Int} {k : Nat} (h : a.length ≤ k) : a.getD k 0 = 0 := by
  rw [List.getD_eq_getElem?_getD, List.getElem?_eq_none h]; rfl
theorem padSum_at (a : List Int) : ∀ (b : List Int) (k : Nat), k < (padSum a b).length → (padSum a b).drop k = (a.getD k 0 + b.getD k 0) :: (padSum a b).drop (k + 1) := by
  induction a with
  | nil =>
    intro b k h
    simp only [padSum] at h ⊢
    rw [List.drop_eq_getElem_cons h]
    simp [List.getElem?_eq_getElem h]
  | cons x a ih =>
    intro b k h
    cases b with
    | nil =>
      simp only [padSum] at h ⊢
      rw [List.drop_eq_getElem_cons h]
      simp [List.getElem?_eq_getElem h]
    | cons y b =>
      cases k with
      | zero => simp [padSum]
      | succ k =>
        have := ih b k (by simpa [padSum] using h)
        simpa [padSum] using this

set_option maxRecDepth 100000 in
set_option maxHeartbeats 2000000 in
theorem add_digits (a b : List Int) (A A' : Option Addr) (n m c c' B : Nat) (w : World) (hn : a.length = n) (hm : b.length = m) (ha : Dig a) (hb : Dig b) (hr : Rd w B A (cellsI a)) (hr' : Rd w B A' (cellsI b)) (hl : n ≤ 1099511627776) (hl' : m ≤ 1099511627776) (hB : B ≤ w.heap.size) :
    Calls Tryd.prog 46 #[.slice A n c, .slice A' m c'] w fun e w' => ∃ A₁ k c₁ ds, e = .returned (.slice A₁ k c₁) ∧ List.length ds = k ∧ k ≤ c₁ ∧ c₁ ≤ maxLen ∧ Norm ds ∧ val ds = val a + val b ∧ Rd w' w'.heap.size A₁ (cellsI ds) ∧ (∀ ad, A₁ = some ad → w.heap.size ≤ ad.block) ∧ Below w.heap.size w w' := by
  subst hn hm
  obtain ⟨i, hi, hz0, hz1, hz2⟩ := info_parts info_int
  obtain ⟨S, hS⟩ : ∃ S, S = padSum a b := ⟨_, rfl⟩
  have hSl : S.length = max a.length b.length := by rw [hS]; exact padSum_length a b
  have hSat := Lib.hid (fun k (h : k < S.length) => hS ▸ padSum_at a b k (hS ▸ h))
  have hSb := Lib.hid (hS ▸ padSum_bound a b ha hb)
  have hSv := Lib.hid (hS ▸ padSum_val a b)
  clear hS
  go_enter Tryd.func46, Tryd.ntmps46
  go_wp2
  go_loopw [5, 6, 7] (fun v cr i wr => ∃ (k : Nat) (c0 : Int) (out : List Int), k ≤ S.length + 1 ∧ i = .int .i64 k ∧ cr = .int .i64 c0 ∧ 0 ≤ c0 ∧ c0 ≤ 1 ∧ out.length = k ∧ wr.ownsRow w.heap.size 3 1 v k (cellsI out) ∧ Hid (carryOn 0 S = out ++ carryOn c0 (S.drop k)) ∧ (k = S.length + 1 → c0 = 0) ∧ Below w.heap.size w wr) (fun _ _ i _ => S.length + 1 - (intOf i).toNat)
  case atStart => exact ⟨0, 0, [], by omega, rfl, rfl, by omega, by omega, rfl, World.ownsRow_nil _ _ _ _, rfl, fun _ => rfl, Below.refl _ _⟩
  case round =>
    obtain ⟨k, c0, out, hk, rfl, rfl, hc0, hc1, hol, hown, Ho, hlast, hbw⟩ := hrel
    by_cases hk1 : k < S.length
    · have hdS := Lib.hid (hSat.out k hk1)
      by_cases hka : k < a.length
      · obtain ⟨bk, off, x, rfl, hbl, hxk, hck, hdk, hxx⟩ := (hr.below hbw hB).at_ ha.fits hka
        have hxa : a.getD k 0 = x := by rw [List.getD_eq_getElem?_getD, hxx.out]; rfl
        have hxd := ha x (List.mem_of_getElem? hxx.out)
        by_cases hkb : k < b.length
        · obtain ⟨bk', off', y, rfl, hbl', hyk, hck', hdk', hyy⟩ := (hr'.below hbw hB).at_ hb.fits hkb
          have hyb : b.getD k 0 = y := by rw [List.getD_eq_getElem?_getD, hyy.out]; rfl
          have hyd := hb y (List.mem_of_getElem? hyy.out)
          have Hst : Hid (carryOn 0 S = (out ++ [(c0 + x + y) % 1073741824]) ++ carryOn ((c0 + x + y) / 1073741824) (S.drop (k + 1))) := by
            unfold Hid; rw [Ho.out, hdS.out, hxa, hyb, carryOn, List.append_assoc, Int.add_assoc]; rfl
          clear hxa hyb hdS Ho hdk hxx hdk' hyy
          go_wp2_with (at_builtin; refine wpList_append_own _ rfl _ _ 26 rfl w.heap.size 3 i (.int .i64 0) 1 8 Tryd.underlying26 hi hz0 hz1 hz2 rfl (by decide) _ k (cellsI out) rfl (hown.alloc _) ⟨wr.heap.size, 0, none⟩ 1 1 [.int .i64 ((c0 + x + y) % 1073741824)] rfl rfl (cell_one_new _ _ _) (by simp [Value.oneCell']) (by unfold maxLen; omega) (by omega) (by have := hbw.size; simp; omega) ?_)
          intro v' w2 hown2 hg2 _
          have hown3 : w2.ownsRow w.heap.size 3 1 v' (k + 1) (cellsI (out ++ [(c0 + x + y) % 1073741824])) := by simpa [cellsI] using hown2
          have hbw2 : Below w.heap.size w w2 := (hbw.alloc hbw.size _).grown hg2 (by have := hbw.size; simp; omega) (fun j hj => (hown.lt j hj).1)
          clear hown2 hg2 hown hbw
          go_wp2
          go_roundw
          case rel => exact ⟨k + 1, (c0 + x + y) / 1073741824, out ++ [(c0 + x + y) % 1073741824], by omega, by go_num, by go_num, by omega, by omega, by simp [hol], hown3, Hst, fun h => by omega, hbw2⟩
          case measure => simp [intOf]; omega
        · have hyb : b.getD k 0 = 0 := getD_zero_of_le (by omega)
          have Hst : Hid (carryOn 0 S = (out ++ [(c0 + x) % 1073741824]) ++ carryOn ((c0 + x) / 1073741824) (S.drop (k + 1))) := by
            unfold Hid; rw [Ho.out, hdS.out, hxa, hyb, carryOn, List.append_assoc, Int.add_zero]; rfl
          clear hxa hyb hdS Ho hdk hxx
          go_wp2_with (at_builtin; refine wpList_append_own _ rfl _ _ 26 rfl w.heap.size 3 i (.int .i64 0) 1 8 Tryd.underlying26 hi hz0 hz1 hz2 rfl (by decide) _ k (cellsI out) rfl (hown.alloc _) ⟨wr.heap.size, 0, none⟩ 1 1 [.int .i64 ((c0 + x) % 1073741824)] rfl rfl (cell_one_new _ _ _) (by simp [Value.oneCell']) (by unfold maxLen; omega) (by omega) (by have := hbw.size; simp; omega) ?_)
          intro v' w2 hown2 hg2 _
          have hown3 : w2.ownsRow w.heap.size 3 1 v' (k + 1) (cellsI (out ++ [(c0 + x) % 1073741824])) := by simpa [cellsI] using hown2
          have hbw2 : Below w.heap.size w w2 := (hbw.alloc hbw.size _).grown hg2 (by have := hbw.size; simp; omega) (fun j hj => (hown.lt j hj).1)
          clear hown2 hg2 hown hbw
          go_wp2
          go_roundw
          case rel => exact ⟨k + 1, (c0 + x) / 1073741824, out ++ [(c0 + x) % 1073741824], by omega, by go_num, by go_num, by omega, by omega, by simp [hol], hown3, Hst, fun h => by omega, hbw2⟩
          case measure => simp [intOf]; omega
      · have hkb : k < b.length := by omega
        have hxa : a.getD k 0 = 0 := getD_zero_of_le (by omega)
        obtain ⟨bk', off', y, rfl, hbl', hyk, hck', hdk', hyy⟩ := (hr'.below hbw hB).at_ hb.fits hkb
        have hyb : b.getD k 0 = y := by rw [List.getD_eq_getElem?_getD, hyy.out]; rfl
        have hyd := hb y (List.mem_of_getElem? hyy.out)
        have Hst : Hid (carryOn 0 S = (out ++ [(c0 + y) % 1073741824]) ++ carryOn ((c0 + y) / 1073741824) (S.drop (k + 1))) := by
          unfold Hid; rw [Ho.out, hdS.out, hxa, hyb, carryOn, List.append_assoc, Int.zero_add]; rfl
        clear hxa hyb hdS Ho hdk' hyy
        go_wp2_with (at_builtin; refine wpList_append_own _ rfl _ _ 26 rfl w.heap.size 3 i (.int .i64 0) 1 8 Tryd.underlying26 hi hz0 hz1 hz2 rfl (by decide) _ k (cellsI out) rfl (hown.alloc _) ⟨wr.heap.size, 0, none⟩ 1 1 [.int .i64 ((c0 + y) % 1073741824)] rfl rfl (cell_one_new _ _ _) (by simp [Value.oneCell']) (by unfold maxLen; omega) (by omega) (by have := hbw.size; simp; omega) ?_)
        intro v' w2 hown2 hg2 _
        have hown3 : w2.ownsRow w.heap.size 3 1 v' (k + 1) (cellsI (out ++ [(c0 + y) % 1073741824])) := by simpa [cellsI] using hown2
        have hbw2 : Below w.heap.size w w2 := (hbw.alloc hbw.size _).grown hg2 (by have := hbw.size; simp; omega) (fun j hj => (hown.lt j hj).1)
        clear hown2 hg2 hown hbw
        go_wp2
        go_roundw
        case rel => exact ⟨k + 1, (c0 + y) / 1073741824, out ++ [(c0 + y) % 1073741824], by omega, by go_num, by go_num, by omega, by omega, by simp [hol], hown3, Hst, fun h => by omega, hbw2⟩
        case measure => simp [intOf]; omega
    · have hdS : S.drop k = [] := List.drop_eq_nil_of_le (by omega)
      by_cases hcp : 0 < c0
      · obtain rfl : c0 = 1 := by omega
        have hkS : k ≤ S.length := by
          rcases Nat.lt_or_ge S.length k with h | h
          · have := hlast (by omega); omega
          · exact h
        have Hst : Hid (carryOn 0 S = (out ++ [1]) ++ carryOn 0 (S.drop (k + 1))) := by
          unfold Hid; rw [Ho.out, hdS, List.drop_eq_nil_of_le (by omega)]; simp [carryOn]
        clear hdS Ho hlast
        go_wp2_with (at_builtin; refine wpList_append_own _ rfl _ _ 26 rfl w.heap.size 3 i (.int .i64 0) 1 8 Tryd.underlying26 hi hz0 hz1 hz2 rfl (by decide) _ k (cellsI out) rfl (hown.alloc _) ⟨wr.heap.size, 0, none⟩ 1 1 [.int .i64 (1)] rfl rfl (cell_one_new _ _ _) (by simp [Value.oneCell']) (by unfold maxLen; omega) (by omega) (by have := hbw.size; simp; omega) ?_)
        intro v' w2 hown2 hg2 _
        have hown3 : w2.ownsRow w.heap.size 3 1 v' (k + 1) (cellsI (out ++ [1])) := by simpa [cellsI] using hown2
        have hbw2 : Below w.heap.size w w2 := (hbw.alloc hbw.size _).grown hg2 (by have := hbw.size; simp; omega) (fun j hj => (hown.lt j hj).1)
        clear hown2 hg2 hown hbw
        go_wp2
        go_roundw
        case rel => exact ⟨k + 1, 0, out ++ [1], by omega, by go_num, by go_num, by omega, by omega, by simp [hol], hown3, Hst, fun h => by omega, hbw2⟩
        case measure => simp [intOf]; omega
      · obtain rfl : c0 = 0 := by omega
        have hout : carryOn 0 S = out := by rw [Ho.out, hdS]; simp [carryOn]
        have hod : Dig out := hout ▸ carryOn_dig S 0 (by omega) (by omega) hSb.out
        have hov : val out = val a + val b := by
          rw [← hout, carryOn_val S 0 (by omega) (fun s hs => (hSb.out s hs).1), hSv.out]; omega
        have Hov := Lib.hid hov
        clear hout hov hdS Ho hlast
        obtain ⟨A₁, c₁, rfl, hc₁, hcm⟩ := own_slice_max hown
        have hro := rd_of_own hown
        have hnew := own_new hown
        go_wp2_with (go_at_call 44; refine (trim_any out A₁ k c₁ _ _ hol hc₁ hod hro hcm).mono ?_; rintro e w' ⟨k', hk', rfl, hnorm, hval, rfl⟩)
        have hnorm : Norm (out.take k') := by assumption
        go_ret
        exact ⟨A₁, k', c₁, out.take k', rfl, by rw [List.length_take]; omega, by omega, hcm, by assumption, by rw [← Hov.out]; assumption, hro.take k', hnew, hbw⟩
end Go.Proofs.YtlnbmjebkpkclaaDoor
