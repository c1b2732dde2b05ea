/-
  The references' magnitudes: trim, size, add and less, over slices that read as digits.
-/
import Derived.Test.YtkheoaleamolcaaDoorIe
import Derived.Test.YtkheoaleamolcaaDoorWp
import Derived.Deep.DeepCutAuto
namespace Go.Proofs.YtkheoaleamolcaaDoor
open Go.RowKit

theorem Rd.take {w : World} {B : Nat} {A : Option Addr} {xs : List Int} (h : Rd w B A (cellsI xs)) (k : Nat) : Rd w B A (cellsI (xs.take k)) := by
  rcases h with h | ⟨b, off, ha, hb, hc⟩
  · left
    have : xs = [] := by simpa [cellsI] using h
    subst this; simp [cellsI]
  · refine .inr ⟨b, off, ha, hb, fun j u hu => hc j u ?_⟩
    have hj := (List.getElem?_eq_some_iff.1 hu).1
    simp only [cellsI_length, List.length_take] at hj
    rw [← hu]
    simp [cellsI, show j < k by omega]
theorem Dig.fits {ds : List Int} (h : Dig ds) : AllFit ds := fun x hx => by have := h x hx; unfold Go.Proofs.YtkheoaleamolcaaDoor.fits; omega

set_option maxHeartbeats 400000 in
theorem trim_any (ds : List Int) (A : Option Addr) (n c B : Nat) (w : World) (hn : ds.length = n) (hc : n ≤ c) (hd : Dig ds) (hr : Rd w B A (cellsI ds)) (hl : c ≤ maxLen) :
    Calls Tryd.prog 38 #[.slice A n c] w fun e w' => ∃ k, k ≤ n ∧ e = .returned (.slice A k c) ∧ Norm (ds.take k) ∧ val (ds.take k) = val ds ∧ w = w' := by
  subst hn
  unfold maxLen at hl
  go_enter Tryd.func38, Tryd.ntmps38
  go_wp2
  go_loop [3] (fun i => ∃ k : Nat, k ≤ ds.length ∧ i = .int .i64 k ∧ Hid (∀ d ∈ ds.drop k, d = 0)) (fun i => (intOf i).toNat)
  case atStart => exact ⟨ds.length, Nat.le_refl _, rfl, fun d hd => by simp at hd⟩
  case round =>
    obtain ⟨k, hk, rfl, Hz⟩ := hrel
    by_cases h0 : k = 0
    · subst h0
      go_wp2
      go_ret
      exact ⟨0, by omega, rfl, by simp [Norm.nil], val_trim Hz.out, rfl⟩
    · obtain ⟨j, rfl⟩ : ∃ j, k = j + 1 := ⟨k - 1, by omega⟩
      obtain ⟨b, off, x, rfl, hb, hxk, hck, hdk, hxx⟩ := hr.at_ hd.fits (show j < ds.length by omega)
      by_cases hx0 : x = 0
      · subst hx0
        have Hz' : Hid (∀ d ∈ ds.drop j, d = 0) := by
          intro d hd
          rw [hdk.out] at hd
          rcases List.mem_cons.1 hd with rfl | hd
          · rfl
          · exact Hz.out d hd
        go_wp2
        go_round
        case rel => exact ⟨j, by omega, rfl, Hz'⟩
        case measure => simp [intOf]
      · have z1 : (x == 0) = false := by simpa using hx0
        go_wp2
        go_ret
        refine ⟨j + 1, by omega, rfl, ⟨hd.take _, ?_⟩, val_trim Hz.out, rfl⟩
        rw [List.getLast?_eq_getElem?, List.length_take, Nat.min_eq_left (by omega), List.getElem?_take]
        simp [hxx.out, hx0]

/-- how two numbers compare -/
def cmpI (x y : Int) : Int := if x < y then -1 else if y < x then 1 else 0
theorem cmpI_lt {x y : Int} (h : x < y) : cmpI x y = -1 := if_pos h
theorem cmpI_gt {x y : Int} (h : y < x) : cmpI x y = 1 := by unfold cmpI; rw [if_neg (by omega), if_pos h]
theorem cmpI_eq {x y : Int} (h : x = y) : cmpI x y = 0 := by unfold cmpI; rw [if_neg (by omega), if_neg (by omega)]

set_option maxHeartbeats 1000000 in
theorem size_len (a b : List Int) (A A' : Option Addr) (n n' c c' : Nat) (w : World) (hn : a.length = n) (hn' : b.length = n') (ha : Norm a) (hb : Norm b) (hl : n ≤ maxLen) (hl' : n' ≤ maxLen) (hne : n ≠ n') :
    Calls Tryd.prog 37 #[.slice A n c, .slice A' n' c'] w fun e w' => e = .returned (.int .i64 (cmpI (val a) (val b))) ∧ Drawn w w' := by
  subst hn hn'
  unfold maxLen at hl hl'
  have hq : ((a.length : Int) != (b.length : Int)) = true := by simp; omega
  by_cases h : a.length < b.length
  · have hc := cmpI_lt (val_shorter ha.1 hb h)
    rw [hc]
    clear hc
    go_enter Tryd.func37, Tryd.ntmps37
    go_wp2
    go_ret
    exact ⟨rfl, Drawn.refl w⟩
  · have hc := cmpI_gt (val_shorter hb.1 ha (by omega : b.length < a.length))
    rw [hc]
    clear hc
    go_enter Tryd.func37, Tryd.ntmps37
    go_wp2
    go_ret
    exact ⟨rfl, Drawn.refl w⟩

set_option maxHeartbeats 1000000 in
theorem size_same (a b : List Int) (A A' : Option Addr) (n c c' B B' : Nat) (w : World) (hn : a.length = n) (hn' : b.length = n) (ha : Norm a) (hb : Norm b) (hr : Rd w B A (cellsI a)) (hr' : Rd w B' A' (cellsI b)) (hl : n ≤ maxLen) :
    Calls Tryd.prog 37 #[.slice A n c, .slice A' n c'] w fun e w' => e = .returned (.int .i64 (cmpI (val a) (val b))) ∧ Drawn w w' := by
  subst hn
  unfold maxLen at hl
  have Hn := Lib.hid hn'
  clear hn'
  go_enter Tryd.func37, Tryd.ntmps37
  go_wp2
  go_loopw [5] (fun i wr => ∃ k : Nat, k ≤ a.length ∧ ((k = 0 ∧ i = .int .i64 (-1)) ∨ ∃ j : Nat, k = j + 1 ∧ i = .int .i64 j) ∧ Hid (a.drop k = b.drop k) ∧ Drawn w wr) (fun i _ => (intOf i + 1).toNat)
  case atStart =>
    refine ⟨a.length, Nat.le_refl _, ?_, ?_, Drawn.refl w⟩
    · by_cases h0 : a.length = 0
      · exact .inl ⟨h0, by rw [h0]; rfl⟩
      · exact .inr ⟨a.length - 1, by omega, by go_num⟩
    · unfold Hid; rw [List.drop_eq_nil_of_le (Nat.le_refl _), List.drop_eq_nil_of_le (by rw [Hn.out]; exact Nat.le_refl _)]
  case round =>
    obtain ⟨k, hk, hi, He, hdw⟩ := hrel
    rcases hi with ⟨rfl, rfl⟩ | ⟨j, rfl, rfl⟩
    · have hab : a = b := by simpa using He.out
      go_wp2
      go_ret
      exact ⟨ret1 (cmpI_eq (by rw [hab])).symm, hdw⟩
    · obtain ⟨bk, off, x, rfl, _, hxk, hck, hdk, hxx⟩ := (hdw.rd hr).at_ ha.1.fits (show j < a.length by omega)
      obtain ⟨bk', off', y, rfl, _, hyk, hck', hdk', hyy⟩ := (hdw.rd hr').at_ hb.1.fits (show j < b.length by rw [Hn.out]; omega)
      have h1 : (0 : Int) ≤ (j : Int) := by omega
      have h2 : (j : Int) < (a.length : Int) := by omega
      by_cases hlt : x < y
      · have hc := Lib.hid (cmpI_lt (val_decides ha.1 hb.1 hxx.out hyy.out He.out hlt))
        have hd1 : decide (x < y) = true := by simpa using hlt
        go_wp2
        go_quiet (fail)
        go_wp2
        go_ret
        exact ⟨ret1 hc.out.symm, hdw.drewN _⟩
      · by_cases hgt : y < x
        · have hc := Lib.hid (cmpI_gt (val_decides hb.1 ha.1 hyy.out hxx.out He.out.symm hgt))
          have hd1 : decide (x < y) = false := by simpa using hlt
          have hd2 : decide (x > y) = true := by simpa using hgt
          go_wp2
          go_quiet (fail)
          go_wp2
          go_quiet (fail)
          go_wp2
          go_ret
          exact ⟨ret1 hc.out.symm, (hdw.drewN _).drewN _⟩
        · obtain rfl : x = y := by omega
          have He' : Hid (a.drop j = b.drop j) := by unfold Hid; rw [hdk.out, hdk'.out, He.out]
          go_wp2
          go_quiet (fail)
          go_wp2
          go_quiet (fail)
          go_wp2
          go_roundw
          case rel =>
            refine ⟨j, by omega, ?_, He', hdw.drewN _⟩
            by_cases h0 : j = 0
            · exact .inl ⟨h0, by subst h0; rfl⟩
            · exact .inr ⟨j - 1, by omega, by go_num⟩
          case measure => simp [intOf]

theorem size_cmp (a b : List Int) (A A' : Option Addr) (n n' c c' B B' : Nat) (w : World) (hn : a.length = n) (hn' : b.length = n') (ha : Norm a) (hb : Norm b) (hr : Rd w B A (cellsI a)) (hr' : Rd w B' A' (cellsI b)) (hl : n ≤ maxLen) (hl' : n' ≤ maxLen) :
    Calls Tryd.prog 37 #[.slice A n c, .slice A' n' c'] w fun e w' => e = .returned (.int .i64 (cmpI (val a) (val b))) ∧ Drawn w w' := by
  by_cases h : n = n'
  · subst h
    exact size_same a b A A' n c c' B B' w hn hn' ha hb hr hr' hl
  · exact size_len a b A A' n n' c c' w hn hn' ha hb hl hl' h
end Go.Proofs.YtkheoaleamolcaaDoor
