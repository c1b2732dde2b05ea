/-
  The law ForestWalks where there is no path.
-/
import Derived.Test.YteokomepcgkddaaFw2
namespace Go.Proofs.Yteokomepcgkddaa
open Go.RowKit

set_option maxRecDepth 100000 in
set_option maxHeartbeats 4000000 in
theorem walksLaw_none (n : Int) (ars : List ArcV) (A : Option Addr) (l c : Nat) (s t : Int) (w : World) (hl : ars.length = l) (hx : ∀ a ∈ ars, a.fit) (hr : Rd w w.heap.size A (cellsA ars)) (hm : l ≤ maxLen) (hs : fits s) (ht : fits t)
    (hno : checkF n ars ≠ 0 ∨ s < 0 ∨ t < 0 ∨ n ≤ s ∨ n ≤ t ∨ ∃ m a b : Nat, n = m ∧ s = a ∧ t = b ∧ root (upF m ars) a ≠ root (upF m ars) b) :
    Calls Try.prog 6 #[.agg #[.int .i64 n, .slice A l c], .int .i64 s, .int .i64 t] w fun e w' => e = .returned (.bool true) ∧ Below w.heap.size w w' := by
  have b1 := (Below.refl w.heap.size w).alloc (Nat.le_refl _) (.cells #[.int .i64 n, .slice A l c] 24)
  have kb := Blk.new w _ rfl 24 #[.int .i64 n, .slice A l c]
  go_enter Try.func6, Try.ntmps6
  go_wp2_with fail
  refine (of_any n ars A l c _ hl hx ((hr.below b1 (Nat.le_refl _)).more b1.size) hm).mono ?_; rintro e w2 ⟨At, ct, Ah, ch, k1, tree, home, rfl, ha1, rt, rh, hb2⟩
  have b2 := b1.trans (hb2.mono b1.size)
  have k2 := (kb.below hb2 (by simp)).alloc (.cells #[.slice At tree.length ct, .slice Ah home.length ch] 27)
  have f2 := Blk.new w2 _ rfl 27 #[.slice At tree.length ct, .slice Ah home.length ch]
  have b3 := b2.alloc b2.size (.cells #[.slice At tree.length ct, .slice Ah home.length ch] 27)
  have rh3 : Rd (w2.alloc (.cells #[.slice At tree.length ct, .slice Ah home.length ch] 27)) w2.heap.size Ah (cellsI home) := rh.below ((Below.refl w2.heap.size w2).alloc (Nat.le_refl _) _) (Nat.le_refl _)
  obtain ⟨W, hW⟩ : ∃ W, w2.alloc (.cells #[.slice At tree.length ct, .slice Ah home.length ch] 27) = W := ⟨_, rfl⟩
  obtain ⟨bF, hbF⟩ : ∃ bF, w2.heap.size = bF := ⟨_, rfl⟩
  rw [hW] at k2 f2 b3 rh3
  rw [hbF] at f2 rh3
  have rW := (hr.below b3 (Nat.le_refl _)).more b3.size
  have hfl := f2.lt
  have n0 := k2.cell 0
  have n1 := k2.cell 1
  simp at n0 n1
  clear kb b1 hb2 b2 rt rh
  go_upto_region 2 with fail
  try rw [hW]
  clear hW hbF
  go_wp2_with fail
  refine (path_any n ars A l c s t _ hl hx rW hm hs ht).mono ?_; rintro e w3 ⟨A3, c3, k, p, rfl, ha3, r3, hl3, hb3⟩
  have b4 := b3.trans (hb3.mono b3.size)
  have f4 := f2.below hb3 hfl
  have k4 := k2.below hb3 k2.lt
  have f0 := f4.cell 0
  have f1 := f4.cell 1
  have n0 := k4.cell 0
  simp at f0 f1 n0
  have rh4 := rh3.below hb3 (by omega)
  clear f2 k2 b3 rh3 rW r3 hr
  by_cases hc : checkF n ars = 0
  · have hk1 : k1 = 0 ∧ ∃ m : Nat, n = m ∧ home = homeF m ars := by
      rcases ha1 with ⟨h1, _⟩ | ⟨_, h2, m, h3, _, h4⟩
      · exact absurd hc h1
      · exact ⟨h2, m, h3, h4⟩
    obtain ⟨rfl, m, rfl, rfl⟩ := hk1
    obtain ⟨h1, h2, h3, hok⟩ := checkF_ok hc
    rw [homeF_length] at f1 f4 ⊢
    by_cases hr4 : s < 0 ∨ t < 0 ∨ (m : Int) ≤ s ∨ (m : Int) ≤ t
    · have hk : k = 100 ∧ p = [] := by
        rcases ha3 with ⟨g1, _⟩ | ⟨_, _, g1, g2⟩ | ⟨_, m', a, b, e1, e2, e3, e4, e5, _⟩ | ⟨_, m', a, b, e1, e2, e3, e4, e5, _⟩
        · exact absurd hc g1
        · exact ⟨g1, g2⟩
        · exfalso; omega
        · exfalso; omega
      obtain ⟨rfl, rfl⟩ := hk
      unfold fits at hs ht
      clear ha1 ha3 hno hc hok
      go_upto_region 5 with fail
      go_cut [60] (fun s60 wx => wx = w3 ∧ s60 = .bool true)
      case first =>
        go_wp2_with fail
        all_goals go_meet
        all_goals (refine ⟨rfl, ?_⟩; first | rfl | (congr 1; simp; done) | (congr 1; simp; omega))
      case rest =>
        obtain ⟨rfl, rfl⟩ := hcut
        go_wp2_with fail
        refine (awake_any _).mono ?_; rintro e w7 ⟨rfl, hb7⟩
        have b7 := b4.trans (hb7.mono b4.size)
        go_wp2_with fail
        go_ret
        exact ⟨rfl, b7⟩
    · obtain ⟨a, rfl⟩ : ∃ a : Nat, s = a := ⟨s.toNat, by omega⟩
      obtain ⟨b, rfl⟩ : ∃ b : Nat, t = b := ⟨t.toNat, by omega⟩
      have hne : root (upF m ars) a ≠ root (upF m ars) b := by
        rcases hno with h | h | h | h | h | ⟨m', a', b', e1, e2, e3, e4⟩
        · exact absurd hc h
        · omega
        · omega
        · omega
        · omega
        · obtain rfl : m = m' := by omega
          obtain rfl : a = a' := by omega
          obtain rfl : b = b' := by omega
          exact e4
      have hk : k = 110 ∧ p = [] := by
        rcases ha3 with ⟨g1, _⟩ | ⟨_, g0, _⟩ | ⟨_, m', a', b', e1, e2, e3, e4, e5, e6, e7, e8⟩ | ⟨_, m', a', b', e1, e2, e3, e4, e5, e6, _⟩
        · exact absurd hc g1
        · exfalso; omega
        · exact ⟨e7, e8⟩
        · obtain rfl : m = m' := by omega
          obtain rfl : a = a' := by omega
          obtain rfl : b = b' := by omega
          exact absurd e6 hne
      obtain ⟨rfl, rfl⟩ := hk
      have hhf := home_fit hc
      have hhl := homeF_length m ars
      obtain ⟨bh, off, x, rfl, hbh, hfx, cx, _, hxx⟩ := rh4.at_ hhf (k := a) (by omega)
      obtain ⟨bh', off', y, hA, hbh', hfy, cy, _, hyy⟩ := rh4.at_ hhf (k := b) (by omega)
      cases hA
      have hxv : x = (root (upF m ars) a : Nat) := by have := hxx.out; rw [homeF_at (by omega)] at this; exact (Option.some.inj this).symm
      have hyv : y = (root (upF m ars) b : Nat) := by have := hyy.out; rw [homeF_at (by omega)] at this; exact (Option.some.inj this).symm
      have hxy : (x != y) = true := by rw [hxv, hyv]; simp; omega
      have g1 : (0 : Int) ≤ (a : Int) := by omega
      have g2 : (a : Int) < (m : Int) := by omega
      have g3 : (0 : Int) ≤ (b : Int) := by omega
      have g4 : (b : Int) < (m : Int) := by omega
      clear ha1 ha3 hno hc hok hne hxx hyy hxv hyv hhl hhf hs ht
      go_upto_region 5 with fail
      go_cut [60] (fun s60 wx => wx = w3 ∧ s60 = .bool false)
      case first =>
        go_wp2_with fail
        all_goals go_meet
        all_goals (refine ⟨rfl, ?_⟩; first | rfl | (congr 1; simp; done) | (congr 1; simp; omega))
      case rest =>
        obtain ⟨rfl, rfl⟩ := hcut
        go_wp2_with fail
        go_quiet (fail)
        go_wp2_with fail
        refine (awake_any _).mono ?_; rintro e w7 ⟨rfl, hb7⟩
        have b7 := (Below.drewN b4 nq).trans (hb7.mono (Below.drewN b4 nq).size)
        go_wp2_with fail
        go_ret
        exact ⟨rfl, b7⟩
  · have hk1 : k1 = checkF n ars := by
      rcases ha1 with ⟨_, h1, _⟩ | ⟨h1, _⟩
      · exact h1
      · exact absurd h1 hc
    have hk : k = checkF n ars ∧ p = [] := by
      rcases ha3 with ⟨_, g1, g2⟩ | ⟨g1, _⟩ | ⟨g1, _⟩ | ⟨g1, _⟩
      · exact ⟨g1, g2⟩
      · exact absurd g1 hc
      · exact absurd g1 hc
      · exact absurd g1 hc
    obtain ⟨hk, rfl⟩ := hk
    have hk2 : k1 = k := by rw [hk1, hk]
    subst hk2
    have hne : (k1 != 0) = true := by rw [hk1]; simpa using hc
    clear ha1 ha3 hk hk1 hc hno
    go_wp2_with fail
    refine (awake_any _).mono ?_; rintro e w7 ⟨rfl, hb7⟩
    have b7 := b4.trans (hb7.mono b4.size)
    go_wp2_with fail
    go_ret
    exact ⟨rfl, b7⟩
end Go.Proofs.Yteokomepcgkddaa
