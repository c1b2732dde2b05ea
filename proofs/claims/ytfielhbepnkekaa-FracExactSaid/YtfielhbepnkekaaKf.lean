/-
  frac.Inv, frac.Cmp, and the references' Inv and Cmp.
-/
import Derived.Test.YtfielhbepnkekaaKd
namespace Go.Proofs.Ytfielhbepnkekaa
open Go.RowKit

theorem Blk.low {w w' : World} {g : Nat} {t : TypeId} {cs : Array Value} (h : Blk w g t cs) {B : Nat} (hb : Below B w w') (hB : g < B) : Blk w' g t cs := (hb.block g hB).trans h

set_option maxHeartbeats 1000000 in
theorem inv_any (f : Fr) (w : World) (hf : f.fit) :
    Calls Try.prog 24 #[.agg #[.int .i64 f.n, .int .i64 f.d]] w fun e w' => e = .returned (.tuple #[.agg #[.int .i64 (invR f).1.n, .int .i64 (invR f).1.d], .int .i64 (invR f).2]) ∧ Below w.heap.size w w' := by
  obtain ⟨W, hW⟩ : ∃ W, (w.alloc (.cells #[.int .i64 f.n, .int .i64 f.d] 23)).alloc (.cells #[.int .i64 0, .int .i64 0] 23) = W := ⟨_, rfl⟩
  have bW : Below w.heap.size w W := by subst hW; exact ((Below.refl _ _).alloc (Nat.le_refl _) _).alloc (by simp) _
  have k0 : Blk W w.heap.size 23 #[.int .i64 f.n, .int .i64 f.d] := by subst hW; exact (Blk.new w _ rfl _ _).alloc _
  have k1 : Blk W (w.heap.size + 1) 23 #[.int .i64 0, .int .i64 0] := by subst hW; exact Blk.new _ _ (by simp) _ _
  have hWs : W.heap.size = w.heap.size + 2 := by subst hW; simp
  have f0 := k0.cell 0
  have f1 := k0.cell 1
  simp only [List.getElem?_toArray, List.getElem?_cons_zero, List.getElem?_cons_succ] at f0 f1
  have vc := valid_of f W hf
  cases hv : f.valid with
  | false =>
    have e : invR f = (⟨0, 0⟩, 1) := by unfold invR; rw [hv]; rfl
    rw [e]
    rw [hv] at vc
    have Vc := Lib.hid vc
    clear vc hv e
    go_enter Try.func24, Try.ntmps24
    go_wp2_with fail
    try rw [hW]
    refine Vc.out.mono ?_
    rintro e w2 ⟨rfl, hb2⟩
    have a1 := k1.low hb2 (by omega)
    have b2 := bW.trans (hb2.mono (by omega))
    have g0 := a1.cell 0
    have g1 := a1.cell 1
    have z0 := a1.frozen 0
    have z1 := a1.frozen 1
    have k2 := (a1.set 0 (.int .i64 0)).set 1 (.int .i64 0)
    have c0 := k2.cell 0
    have c1 := k2.cell 1
    have bb := (b2.setCell (p := ⟨w.heap.size + 1, 0, none⟩) (by simp) (.int .i64 0)).setCell (p := ⟨w.heap.size + 1, 1, none⟩) (by simp) (.int .i64 0)
    simp at g0 g1 c0 c1
    clear k0 k1 k2 a1 hW f0 f1
    go_wp2_with fail
    exact bodyPost_ret (v := .tuple #[.agg #[.int .i64 0, .int .i64 0], .int .i64 1]) (by simp [results, Try.results24, go_sem, c0, c1]) rfl ⟨rfl, bb⟩
  | true =>
    have e : invR f = newR f.d f.n := by unfold invR; rw [hv]; rfl
    rw [e]
    rw [hv] at vc
    have Vc := Lib.hid vc
    clear vc hv e
    have Nc := Lib.hid (fun w => new_any f.d f.n w hf.2 hf.1)
    obtain ⟨x, hx⟩ : ∃ x, (newR f.d f.n).1.n = x := ⟨_, rfl⟩
    obtain ⟨y, hy⟩ : ∃ y, (newR f.d f.n).1.d = y := ⟨_, rfl⟩
    obtain ⟨z, hz⟩ : ∃ z, (newR f.d f.n).2 = z := ⟨_, rfl⟩
    rw [hx, hy, hz] at Nc ⊢
    clear hx hy hz
    go_enter Try.func24, Try.ntmps24
    go_wp2_with fail
    try rw [hW]
    refine Vc.out.mono ?_
    rintro e w2 ⟨rfl, hb2⟩
    have a0 := k0.low hb2 (by omega)
    have a1 := k1.low hb2 (by omega)
    have b2 := bW.trans (hb2.mono (by omega))
    have d0 := a0.cell 0
    have d1 := a0.cell 1
    simp only [List.getElem?_toArray, List.getElem?_cons_zero, List.getElem?_cons_succ] at d0 d1
    have hz2 := hb2.size
    clear k0 k1 f0 f1 hW bW hb2
    go_wp2_with fail
    refine (Nc.out _).mono ?_
    rintro e w3 ⟨rfl, hb3⟩
    have a3 := a1.low hb3 (by omega)
    have b3 := b2.trans (hb3.mono (by omega))
    have g0 := a3.cell 0
    have g1 := a3.cell 1
    have z0 := a3.frozen 0
    have z1 := a3.frozen 1
    have k2 := (a3.set 0 (.int .i64 x)).set 1 (.int .i64 y)
    have c0 := k2.cell 0
    have c1 := k2.cell 1
    have bb := (b3.setCell (p := ⟨w.heap.size + 1, 0, none⟩) (by simp) (.int .i64 x)).setCell (p := ⟨w.heap.size + 1, 1, none⟩) (by simp) (.int .i64 y)
    simp at g0 g1 c0 c1
    clear a0 a1 a3 k2 b2 hb3 d0 d1
    go_wp2_with fail
    exact bodyPost_ret (v := .tuple #[.agg #[.int .i64 x, .int .i64 y], .int .i64 z]) (by simp [results, Try.results24, go_sem, c0, c1]) rfl ⟨rfl, bb⟩

theorem isnan_any (x : Nat) (w : World) : Calls Try.prog 56 #[.int .u64 x] w fun e w' => e = .returned (.bool false) ∧ w = w' := by
  have h : ((x : Int) != (x : Int)) = false := by simp
  go_enter Try.func56, Try.ntmps56
  go_wp2
  go_ret
  exact ⟨by first | rfl | rw [h], rfl⟩
theorem compare_any (x y : Nat) (w : World) : Calls Try.prog 48 #[.int .u64 x, .int .u64 y] w fun e w' => e = .returned (.int .i64 (cmpI x y)) ∧ w = w' := by
  by_cases h1 : (x : Int) < y
  · have e := cmpI_lt h1
    rw [e]
    clear e
    go_enter Try.func48, Try.ntmps48
    go_wp2_with (go_at_call 56; refine (isnan_any _ _).mono ?_; rintro e w' ⟨rfl, rfl⟩)
    go_ret
    exact ⟨rfl, rfl⟩
  · by_cases h2 : (y : Int) < x
    · have e := cmpI_gt h2
      rw [e]
      clear e
      go_enter Try.func48, Try.ntmps48
      go_wp2_with (go_at_call 56; refine (isnan_any _ _).mono ?_; rintro e w' ⟨rfl, rfl⟩)
      go_ret
      exact ⟨rfl, rfl⟩
    · obtain rfl : x = y := by omega
      rw [cmpI_eq rfl]
      clear h2
      go_enter Try.func48, Try.ntmps48
      go_wp2_with (go_at_call 56; refine (isnan_any _ _).mono ?_; rintro e w' ⟨rfl, rfl⟩)
      go_ret
      exact ⟨rfl, rfl⟩

/-- the first that is not nought -/
def orF : List Int → Int
  | [] => 0
  | x :: xs => if x = 0 then orF xs else x
set_option maxHeartbeats 400000 in
theorem or_any (xs : List Int) (A : Option Addr) (n c B : Nat) (w : World) (hn : xs.length = n) (hx : AllFit xs) (hr : Rd w B A (cellsI xs)) (hl : n ≤ maxLen) :
    Calls Try.prog 47 #[.slice A n c] w fun e w' => e = .returned (.int .i64 (orF xs)) ∧ w = w' := by
  subst hn
  unfold maxLen at hl
  go_enter Try.func47, Try.ntmps47
  go_wp2
  go_loop [8] (fun i => ∃ k : Nat, k ≤ xs.length ∧ i = .int .i64 k ∧ Hid (orF xs = orF (xs.drop k))) (fun i => xs.length - (intOf i).toNat)
  case atStart => exact ⟨0, Nat.zero_le _, rfl, rfl⟩
  case round =>
    obtain ⟨k, hk, rfl, He⟩ := hrel
    by_cases hlt : k < xs.length
    · obtain ⟨b, off, x, rfl, hb, hxk, hc, hd, -⟩ := hr.at_ hx hlt
      by_cases hx0 : x = 0
      · subst hx0
        have Hn : Hid (orF xs = orF (xs.drop (k + 1))) := by unfold Hid; rw [He.out, hd.out, orF, if_pos rfl]
        clear He hd
        go_wp2
        go_round
        case rel => exact ⟨k + 1, by omega, by go_num, Hn⟩
        case measure => simp [intOf]; omega
      · have Hn : Hid (orF xs = x) := by unfold Hid; rw [He.out, hd.out, orF, if_neg hx0]
        have hz : (x != 0) = true := by simpa using hx0
        clear He hd hx0
        go_wp2
        go_ret
        exact ⟨ret1 (by rw [Hn.out]), rfl⟩
    · have hd : xs.drop k = [] := List.drop_eq_nil_of_le (by omega)
      have Hn : Hid (orF xs = 0) := by unfold Hid; rw [He.out, hd]; rfl
      clear hd He
      go_wp2
      go_ret
      exact ⟨ret1 (by rw [Hn.out]), rfl⟩

/-- two sizes of 128 bits compare by their halves -/
theorem cmp_halves (p q : Nat) : orF [cmpI ((p / 18446744073709551616 : Nat) : Int) ((q / 18446744073709551616 : Nat) : Int), cmpI ((p % 18446744073709551616 : Nat) : Int) ((q % 18446744073709551616 : Nat) : Int)] = cmpI p q := by
  simp only [orF]
  unfold cmpI
  split <;> split <;> split <;> (try split) <;> (try split) <;> (try split) <;> first | rfl | omega | (simp at *; omega)
theorem cmpI_bd (x y : Int) : -1 ≤ cmpI x y ∧ cmpI x y ≤ 1 := by
  unfold cmpI; split
  · omega
  · split <;> omega
theorem cmpI_neg (x y : Int) : cmpI (-x) (-y) = - cmpI x y := by
  unfold cmpI; split <;> split <;> (try split) <;> (try split) <;> first | rfl | omega
end Go.Proofs.Ytfielhbepnkekaa
