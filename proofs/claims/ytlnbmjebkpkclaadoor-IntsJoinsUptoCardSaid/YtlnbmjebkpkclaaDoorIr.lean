/-
  IntsProduct: the greatest common divisor of two numbers times their least common multiple is their product without its sign.
-/
import Derived.Test.YtlnbmjebkpkclaaDoorIo
namespace Go.Proofs.YtlnbmjebkpkclaaDoor
open Go.RowKit

theorem okOf_yes {z : Int} (h : fits z) : okOf z = z := if_pos h
theorem allFit_two {a b : Int} (ha : fits a) (hb : fits b) : AllFit [a, b] := fun x hx => by
  rcases List.mem_cons.1 hx with rfl | hx
  · exact ha
  · rcases List.mem_cons.1 hx with rfl | hx
    · exact hb
    · cases hx
theorem gcd_two (a b : Int) (ha : fits a) (hb : fits b) (w : World) (g : Nat) (hg : g = w.heap.size) (hT : Tab w) : Calls Tryd.prog 25 #[.slice (some ⟨g, 0, none⟩) 2 2] (w.alloc (.cells #[.int .i64 a, .int .i64 b] 3)) fun e w' => e = .returned (.tuple #[.int .i64 (okOf (Nat.gcd a.natAbs b.natAbs : Nat)), .bool (okB (Nat.gcd a.natAbs b.natAbs : Nat))]) ∧ (w.alloc (.cells #[.int .i64 a, .int .i64 b] 3)) = w' := by
  have e : gcdFrom 0 [a, b] = Nat.gcd a.natAbs b.natAbs := by simp [gcdFrom]
  rw [← e]
  exact gcd_any [a, b] _ 2 2 (g + 1) _ rfl (allFit_two ha hb) (rd_alloc w g hg 3 (cellsI [a, b])) (by unfold maxLen; simp) (hT.alloc _)
theorem lcm_two_eq (a b : Int) : lcmGo 1 true [a, b] = (okOf (Nat.lcm a.natAbs b.natAbs : Nat), okB (Nat.lcm a.natAbs b.natAbs : Nat)) := by
  rw [lcm_answer]
  by_cases hz : zeroF [a, b] = true
  · rw [if_pos hz]
    have h0 : Nat.lcm a.natAbs b.natAbs = 0 := by
      rw [zeroF_cons, zeroF_cons] at hz
      simp [zeroF] at hz
      rcases hz with rfl | rfl
      · simp
      · simp
    rw [h0]; rfl
  · rw [if_neg hz]
    simp [lcmFold]
theorem lcm_two (a b : Int) (ha : fits a) (hb : fits b) (w : World) (g : Nat) (hg : g = w.heap.size) (hT : Tab w) : Calls Tryd.prog 27 #[.slice (some ⟨g, 0, none⟩) 2 2] (w.alloc (.cells #[.int .i64 a, .int .i64 b] 3)) fun e w' => e = .returned (.tuple #[.int .i64 (okOf (Nat.lcm a.natAbs b.natAbs : Nat)), .bool (okB (Nat.lcm a.natAbs b.natAbs : Nat))]) ∧ Drawn (w.alloc (.cells #[.int .i64 a, .int .i64 b] 3)) w' := by
  have h := lcm_any [a, b] _ 2 2 (g + 1) _ rfl (allFit_two ha hb) (rd_alloc w g hg 3 (cellsI [a, b])) (by unfold maxLen; simp) (hT.alloc _)
  rw [lcm_two_eq] at h
  exact h
theorem WIs.abs {w : World} {s : Bool} {A : Option Addr} {n c : Nat} {z : Int} (h : WIs w (.agg #[.bool s, .slice A n c]) z n) : WIs w (.agg #[.bool false, .slice A n c]) (z.natAbs : Int) n := by
  obtain ⟨s', A', c', ds, h1, h2, h3, h4, h5, h6, h7, h8⟩ := h
  injection h1 with h1
  simp at h1
  obtain ⟨rfl, rfl, rfl⟩ := h1
  refine ⟨false, A, c, ds, rfl, h2, h3, h4, h5, h6, ?_, fun h => by cases h⟩
  have hv := val_nonneg h5.1
  rw [h7]
  cases s <;> simp <;> omega

set_option maxHeartbeats 2000000 in
theorem product_any (a b : Int) (w : World) (ha : fits a) (hb : fits b) (hT : Tab w) :
    Calls Tryd.prog 12 #[.int .i64 a, .int .i64 b] w fun e w' => e = .returned (.bool true) ∧ Below w.heap.size w w' := by
  have hgl : (Nat.gcd a.natAbs b.natAbs : Int) * (Nat.lcm a.natAbs b.natAbs : Int) = ((a * b).natAbs : Int) := by
    rw [← Int.natCast_mul, Nat.gcd_mul_lcm, Int.natAbs_mul]
  have h1 := fun w g hg hT => gcd_two a b ha hb w g hg hT
  have h2 := fun w g hg hT => lcm_two a b ha hb w g hg hT
  obtain ⟨g, hg⟩ : ∃ g, Nat.gcd a.natAbs b.natAbs = g := ⟨_, rfl⟩
  obtain ⟨l, hl⟩ : ∃ l, Nat.lcm a.natAbs b.natAbs = l := ⟨_, rfl⟩
  simp only [hg] at h1
  simp only [hl] at h2
  rw [hg, hl] at hgl
  have Hgl := Lib.hid hgl
  clear hgl hg hl
  go_enter Tryd.func12, Tryd.ntmps12
  cases hbg : okB (g : Int)
  · rw [hbg] at h1
    obtain ⟨bl, hbl⟩ : ∃ x, okB (l : Int) = x := ⟨_, rfl⟩
    rw [hbl] at h2
    go_wp2_with fail
    refine (h1 _ _ (by simp) hT).mono ?_; rintro e w' ⟨rfl, rfl⟩
    go_wp2_with fail
    refine (h2 _ _ (by simp) (hT.alloc _)).mono ?_; rintro e wd ⟨rfl, hdd⟩
    have hb0 : Below w.heap.size w wd := (((Below.refl _ _).alloc (Nat.le_refl _) _).alloc (by simp) _).trans (hdd.below _)
    have hTd := hdd.tab ((hT.alloc _).alloc _)
    clear h1 h2 hdd
    go_wp2_with fail
    refine (awake_any _ hTd).mono ?_; rintro e w2 ⟨rfl, hb2⟩
    go_wp2
    go_ret
    exact ⟨rfl, hb0.trans (hb2.mono hb0.size)⟩
  · have hgf := okB_iff.1 hbg
    rw [hbg] at h1
    cases hbl : okB (l : Int)
    · rw [hbl] at h2
      go_wp2_with fail
      refine (h1 _ _ (by simp) hT).mono ?_; rintro e w' ⟨rfl, rfl⟩
      go_wp2_with fail
      refine (h2 _ _ (by simp) (hT.alloc _)).mono ?_; rintro e wd ⟨rfl, hdd⟩
      have hb0 : Below w.heap.size w wd := (((Below.refl _ _).alloc (Nat.le_refl _) _).alloc (by simp) _).trans (hdd.below _)
      have hTd := hdd.tab ((hT.alloc _).alloc _)
      clear h1 h2 hdd
      go_wp2_with fail
      refine (awake_any _ hTd).mono ?_; rintro e w2 ⟨rfl, hb2⟩
      go_wp2
      go_ret
      exact ⟨rfl, hb0.trans (hb2.mono hb0.size)⟩
    · have hlf := okB_iff.1 hbl
      rw [hbl] at h2
      rw [show okOf (g : Int) = g from okOf_yes hgf] at h1
      rw [show okOf (l : Int) = l from okOf_yes hlf] at h2
      go_wp2_with fail
      refine (h1 _ _ (by simp) hT).mono ?_; rintro e w' ⟨rfl, rfl⟩
      go_wp2_with fail
      refine (h2 _ _ (by simp) (hT.alloc _)).mono ?_; rintro e wd ⟨rfl, hdd⟩
      have hb0 : Below w.heap.size w wd := (((Below.refl _ _).alloc (Nat.le_refl _) _).alloc (by simp) _).trans (hdd.below _)
      clear h1 h2 hdd
      go_wp2_with fail
      refine (of_any g _ hgf).mono ?_; rintro e w1 ⟨v1, n1, rfl, hw1, hn1, hb1⟩
      go_wp2_with fail
      refine (of_any l _ hlf).mono ?_; rintro e w2 ⟨v2, n2, rfl, hw2, hn2, hb2⟩
      go_wp2_with fail
      refine (times_any v1 v2 _ _ n1 n2 _ (hw1.below hb2) hw2 (by omega) (by omega)).mono ?_; rintro e w3 ⟨v3, n3, rfl, hw3, hnew3, hb3⟩
      obtain ⟨s, A, c, ds, rfl, -⟩ := id hw3
      have e3 := hb0.trans (((hb1.mono hb0.size).trans (hb2.mono (Nat.le_trans hb0.size hb1.size))).trans (hb3.mono (Nat.le_trans hb0.size (Nat.le_trans hb1.size hb2.size))))
      rw [Hgl.out] at hw3
      clear hw1 hw2 hnew3 hb1 hb2 hb3
      have hw3' := hw3.below ((Below.refl w3.heap.size w3).alloc (Nat.le_refl _) (.cells #[.bool s, .slice A n3 c] 36))
      have k3 := Blk.new w3 w3.heap.size rfl 36 #[.bool s, .slice A n3 c]
      have hT3 := hT.below e3 hT.pos
      go_wp2_with fail
      have e3' := e3.alloc e3.size (.cells #[.bool s, .slice A n3 c] 36)
      have hT4 := hT3.alloc (.cells #[.bool s, .slice A n3 c] 36)
      obtain ⟨w4, hw4⟩ : ∃ w4, w3.alloc (.cells #[.bool s, .slice A n3 c] 36) = w4 := ⟨_, rfl⟩
      obtain ⟨b9, hb9⟩ : ∃ b9, w3.heap.size = b9 := ⟨_, rfl⟩
      rw [hw4] at hw3' k3 e3' hT4 ⊢
      rw [hb9] at k3 ⊢
      clear hw3 e3 hT3 hw4 hb9
      refine (of_any a _ ha).mono ?_; rintro e w5 ⟨v5, n5, rfl, hw5, hn5, hb5⟩
      go_wp2_with fail
      refine (of_any b _ hb).mono ?_; rintro e w6 ⟨v6, n6, rfl, hw6, hn6, hb6⟩
      go_wp2_with fail
      refine (times_any v5 v6 _ _ n5 n6 _ (hw5.below hb6) hw6 (by omega) (by omega)).mono ?_; rintro e w7 ⟨v7, n7, rfl, hw7, hnew7, hb7⟩
      obtain ⟨s7, A7, c7, ds7, rfl, -⟩ := id hw7
      have e47 : Below w4.heap.size w4 w7 := hb5.trans ((hb6.mono hb5.size).trans (hb7.mono (Nat.le_trans hb5.size hb6.size)))
      have e7 := e3'.trans (e47.mono e3'.size)
      have k7 : Blk w7 b9 _ _ := (e47.block _ k3.lt).trans k3
      have hT7 := hT4.below e47 hT4.pos
      have hx7 := hw3'.below e47
      have h9lt := k7.lt
      clear hw3' e3' k3 hT4 hw5 hw6 hb5 hb6 hb7 e47 hnew7
      have hy7 := hw7.abs
      have oa : Below w7.heap.size w7 (w7.alloc (.cells #[.bool false, .slice A7 n7 c7] 36)) := (Below.refl w7.heap.size w7).alloc (Nat.le_refl _) _
      have k10 := Blk.new w7 w7.heap.size rfl 36 #[.bool false, .slice A7 n7 c7]
      have k9 := k7.alloc (.cells #[.bool false, .slice A7 n7 c7] 36)
      have hT8 := hT7.alloc (.cells #[.bool false, .slice A7 n7 c7] 36)
      have hx8 := hx7.below oa
      have hy8 := hy7.below oa
      have e8 := e7.trans (oa.mono e7.size)
      clear hw7 hy7 hx7 k7 hT7
      go_wp2_with fail
      refine (awake_any _ hT8).mono ?_; rintro e w9 ⟨rfl, hb9⟩
      have kk9 : Blk w9 b9 _ _ := (hb9.block _ k9.lt).trans k9
      have kk10 : Blk w9 w7.heap.size _ _ := (hb9.block _ k10.lt).trans k10
      have hx9 := hx8.below hb9
      have hy9 := hy8.below hb9
      have e9 := e8.trans (hb9.mono e8.size)
      have c00 := kk9.cell 0
      have c01 := kk9.cell 1
      have c10 := kk10.cell 0
      have c11 := kk10.cell 1
      simp at c00 c01 c10 c11
      have hcm := cmpI_eq (rfl : ((a * b).natAbs : Int) = ((a * b).natAbs : Int))
      clear hx8 hy8 k9 k10 hT8 e8 kk9 kk10 oa
      go_wp2_with fail
      refine (cmp_any _ _ _ _ _ _ _ hx9 hy9).mono ?_; rintro e w10 ⟨rfl, hb10⟩
      rw [hcm]
      go_wp2
      go_ret
      exact ⟨rfl, e9.trans (hb10.mono e9.size)⟩
end Go.Proofs.YtlnbmjebkpkclaaDoor
