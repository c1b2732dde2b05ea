/-
  The document's Check of a net tells the same.
-/
import Derived.Test.YtdogddngiolpoaaFa
namespace Go.Proofs.Ytdogddngiolpoaa
open Go.RowKit

theorem Blk.below {w w' : World} {g : Nat} {t : TypeId} {cs : Array Value} (h : Blk w g t cs) {B : Nat} (hb : Below B w w') (hB : g < B) : Blk w' g t cs := (hb.block g hB).trans h

def nodeB (n v : Int) : Bool := decide (0 ≤ v ∧ v < n)
def rateB (v : Int) : Bool := decide (1 ≤ v ∧ v ≤ 64)

theorem node_any (n v : Int) (u : Value) (w : World) : Calls Try.prog 48 #[.agg #[.int .i64 n, u], .int .i64 v] w fun e w' => e = .returned (.bool (nodeB n v)) ∧ Below w.heap.size w w' := by
  have hb : Below w.heap.size w (w.alloc (.cells #[.int .i64 n, u] 24)) := (Below.refl _ _).alloc (Nat.le_refl _) _
  by_cases h : 0 ≤ v ∧ v < n
  · have e : nodeB n v = true := decide_eq_true h
    rw [e]
    obtain ⟨h1, h2⟩ := h
    go_enter Try.func48, Try.ntmps48
    go_wp2
    go_ret
    exact ⟨rfl, hb⟩
  · have e : nodeB n v = false := decide_eq_false h
    rw [e]
    by_cases h1 : 0 ≤ v
    · have h2 : n ≤ v := by omega
      go_enter Try.func48, Try.ntmps48
      go_wp2
      go_ret
      exact ⟨by rw [show false = decide (v < n) from (decide_eq_false (by omega)).symm]; rfl, hb⟩
    · clear h
      go_enter Try.func48, Try.ntmps48
      go_wp2
      go_ret
      exact ⟨rfl, hb⟩
theorem rate_any (v : Int) (w : World) : Calls Try.prog 49 #[.int .i64 v] w fun e w' => e = .returned (.bool (rateB v)) ∧ w = w' := by
  by_cases h : 1 ≤ v ∧ v ≤ 64
  · have e : rateB v = true := decide_eq_true h
    rw [e]
    obtain ⟨h1, h2⟩ := h
    go_enter Try.func49, Try.ntmps49
    go_wp2
    go_ret
    exact ⟨rfl, rfl⟩
  · have e : rateB v = false := decide_eq_false h
    rw [e]
    by_cases h1 : 1 ≤ v
    · have h2 : 64 < v := by omega
      go_enter Try.func49, Try.ntmps49
      go_wp2
      go_ret
      exact ⟨by rw [show false = decide (v ≤ 64) from (decide_eq_false (by omega)).symm]; rfl, rfl⟩
    · clear h
      go_enter Try.func49, Try.ntmps49
      go_wp2
      go_ret
      exact ⟨rfl, rfl⟩
set_option maxHeartbeats 1000000 in
theorem refCheck_any (n : Int) (ars : List ArcV) (A : Option Addr) (l c : Nat) (w : World) (hl : ars.length = l) (hx : ∀ a ∈ ars, a.fit) (hr : Rd w w.heap.size A (cellsA ars)) (hm : l ≤ maxLen) :
    Calls Try.prog 46 #[.agg #[.int .i64 n, .slice A l c]] w fun e w' => e = .returned (.int .i64 (checkF n ars)) ∧ Below w.heap.size w w' := by
  subst hl
  unfold maxLen at hm
  have b0 : ∀ o, Below w.heap.size w (w.alloc o) := fun o => (Below.refl _ _).alloc (Nat.le_refl _) o
  by_cases h1 : n < 1
  · have e : checkF n ars = 100 := if_pos (.inl h1)
    rw [e]
    go_enter Try.func46, Try.ntmps46
    go_wp2
    go_ret
    exact ⟨rfl, b0 _⟩
  by_cases h2 : 32 < n
  · have e : checkF n ars = 100 := if_pos (.inr h2)
    rw [e]
    go_enter Try.func46, Try.ntmps46
    go_wp2
    go_ret
    exact ⟨rfl, b0 _⟩
  by_cases h3 : 96 < ars.length
  · have e : checkF n ars = 81 := by unfold checkF; rw [if_neg (by omega), if_pos h3]
    rw [e]
    go_enter Try.func46, Try.ntmps46
    go_wp2
    go_ret
    exact ⟨rfl, b0 _⟩
  have e : checkF n ars = arcsF n ars := by unfold checkF; rw [if_neg (by omega), if_neg h3]
  rw [e]
  clear e
  go_enter Try.func46, Try.ntmps46
  go_wp2
  go_loopw [3] (fun i wr => ∃ k : Nat, k ≤ ars.length ∧ i = .int .i64 k ∧ Below w.heap.size w wr ∧ Blk wr w.heap.size 24 #[.int .i64 n, .slice A ars.length c] ∧ Hid (arcsF n ars = arcsF n (ars.drop k))) (fun i _ => ars.length - (intOf i).toNat)
  case atStart => exact ⟨0, Nat.zero_le _, rfl, b0 _, Blk.new w _ rfl _ _, rfl⟩
  case round =>
    obtain ⟨k, hk, rfl, hb, kb, He⟩ := hrel
    have k0 := kb.cell 0
    have k1 := kb.cell 1
    simp at k0 k1
    by_cases hlt : k < ars.length
    · obtain ⟨b, off, a, rfl, hbl, hf, c0, c1, c2, c3, c4, hd, -⟩ := (hr.below hb (Nat.le_refl _)).arc hx hlt
      have hlt0 := kb.lt
      obtain ⟨W1, hW1⟩ : ∃ W1, wr.alloc (.cells #[.int .i64 a.f, .int .i64 a.t, .int .i64 a.g, .int .i64 a.k, .int .i64 a.s] 52) = W1 := ⟨_, rfl⟩
      have bn : Below w.heap.size w W1 := hW1 ▸ hb.alloc hb.size _
      have kn : Blk W1 w.heap.size 24 #[.int .i64 n, .slice (some ⟨b, off, none⟩) ars.length c] := hW1 ▸ kb.alloc _
      have ka : Blk W1 wr.heap.size 52 #[.int .i64 a.f, .int .i64 a.t, .int .i64 a.g, .int .i64 a.k, .int .i64 a.s] := hW1 ▸ Blk.new wr _ rfl _ _
      have n0 := kn.cell 0
      have d0 := ka.cell 0
      have d1 := ka.cell 1
      have d2 := ka.cell 2
      have d3 := ka.cell 3
      have d4 := ka.cell 4
      simp at n0 d0 d1 d2 d3 d4
      obtain ⟨p1, hp1⟩ : ∃ p, decide (a.f < 0 ∨ a.t < 0 ∨ n ≤ a.f ∨ n ≤ a.t) = p := ⟨_, rfl⟩
      obtain ⟨p2, hp2⟩ : ∃ p, decide (a.g < 1 ∨ a.k < 1 ∨ 64 < a.g ∨ 64 < a.k) = p := ⟨_, rfl⟩
      obtain ⟨p3, hp3⟩ : ∃ p, decide (a.s < 0 ∨ 256 < a.s) = p := ⟨_, rfl⟩
      have Hst : Hid (arcsF n ars = if p1 = true then 100 else if p2 = true then 101 else if p3 = true then 88 else arcsF n (ars.drop (k + 1))) := by
        unfold Hid
        rw [He.out, hd.out, arcsF, arcF, ← hp1, ← hp2, ← hp3]
        simp only [decide_eq_true_eq]
        split
        · rfl
        · split
          · rfl
          · split
            · rfl
            · rfl
      have Hn : Hid (p1 = (!nodeB n a.f || !nodeB n a.t)) := by
        unfold Hid nodeB
        rw [← hp1, Bool.eq_iff_iff]
        simp only [decide_eq_true_eq, Bool.or_eq_true, Bool.not_eq_true', decide_eq_false_iff_not]
        omega
      have Hr : Hid (p2 = (!rateB a.g || !rateB a.k)) := by
        unfold Hid rateB
        rw [← hp2, Bool.eq_iff_iff]
        simp only [decide_eq_true_eq, Bool.or_eq_true, Bool.not_eq_true', decide_eq_false_iff_not]
        omega
      have Hp3 := Lib.hid hp3
      clear He hd kb hp1 hp2 hp3
      have i1 := node_any n a.f (.slice (some ⟨b, off, none⟩) ars.length c)
      have i2 := node_any n a.t (.slice (some ⟨b, off, none⟩) ars.length c)
      have i3 := rate_any a.g
      have i4 := rate_any a.k
      have n1 := kn.cell 1
      simp at n1
      obtain ⟨bf, hbf⟩ : ∃ x, nodeB n a.f = x := ⟨_, rfl⟩
      obtain ⟨bt, hbt⟩ : ∃ x, nodeB n a.t = x := ⟨_, rfl⟩
      obtain ⟨bg, hbg⟩ : ∃ x, rateB a.g = x := ⟨_, rfl⟩
      obtain ⟨bk, hbk⟩ : ∃ x, rateB a.k = x := ⟨_, rfl⟩
      rw [hbf] at i1 Hn
      rw [hbt] at i2 Hn
      rw [hbg] at i3 Hr
      rw [hbk] at i4 Hr
      clear hbf hbt hbg hbk
      go_upto_region 9 with fail
      try rw [hW1]
      clear hW1 c0 c1 c2 c3 c4 k0 k1
      go_cut [40] (fun s wx => Below W1.heap.size W1 wx ∧ s = .bool p1)
      case first =>
        go_wp2_with fail
        refine (i1 _).mono ?_; rintro e w2 ⟨rfl, b2⟩
        have kn2 := kn.below b2 kn.lt
        have ka2 := ka.below b2 ka.lt
        have m0 := kn2.cell 0
        have m1 := kn2.cell 1
        have l1 := ka2.cell 1
        simp at m0 m1 l1
        cases bf
        · go_wp2_with fail
          go_meet
          exact ⟨b2, by rw [Hn.out]; rfl⟩
        · go_wp2_with fail
          refine (i2 _).mono ?_; rintro e w3 ⟨rfl, b3⟩
          go_wp2_with fail
          go_meet
          exact ⟨b2.trans (b3.mono b2.size), by rw [Hn.out]; rfl⟩
      case rest =>
        obtain ⟨bc, rfl⟩ := hcut
        have knc := kn.below bc kn.lt
        have kac := ka.below bc ka.lt
        have bnc := bn.trans (bc.mono bn.size)
        clear kn ka bc bn n0 n1 d0 d1 d2 d3 d4
        have d2 := kac.cell 2
        have d3 := kac.cell 3
        have d4 := kac.cell 4
        simp at d2 d3 d4
        cases p1
        · go_upto_region 11 with fail
          go_cut [50] (fun s wx => wx = wc ∧ s = .bool p2)
          case first =>
            go_wp2_with fail
            refine (i3 _).mono ?_; rintro e w' ⟨rfl, rfl⟩
            cases bg
            · go_wp2_with fail
              go_meet
              exact ⟨rfl, by rw [Hr.out]; rfl⟩
            · go_wp2_with fail
              refine (i4 _).mono ?_; rintro e w' ⟨rfl, rfl⟩
              go_wp2_with fail
              go_meet
              exact ⟨rfl, by rw [Hr.out]; rfl⟩
          case rest =>
            obtain ⟨rfl, rfl⟩ := hcut
            cases p2
            · go_upto_region 13 with fail
              go_cut [58] (fun s wx => wx = wc ∧ s = .bool p3)
              case first =>
                go_wp2_with fail
                all_goals go_meet
                all_goals (refine ⟨rfl, ?_⟩; rw [← Hp3.out]; first | (rw [decide_eq_true (by omega)]; done) | (rw [decide_eq_false (by omega)]; done) | (congr 1; rw [Bool.eq_iff_iff]; simp only [Bool.or_eq_true, decide_eq_true_eq] <;> omega))
              case rest =>
                obtain ⟨rfl, rfl⟩ := hcut
                clear Hp3
                cases p3
                · go_wp2
                  go_roundw
                  case rel => exact ⟨k + 1, by omega, by go_num, bnc, knc, Hst⟩
                  case measure => simp [intOf]; omega
                · go_wp2
                  go_ret
                  exact ⟨by rw [Hst.out]; rfl, bnc⟩
            · go_wp2
              go_ret
              exact ⟨by rw [Hst.out]; rfl, bnc⟩
        · go_wp2
          go_ret
          exact ⟨by rw [Hst.out]; rfl, bnc⟩
    · have hd : ars.drop k = [] := List.drop_eq_nil_of_le (by omega)
      have hst : arcsF n ars = 0 := by rw [He.out, hd]; rfl
      have Hst := Lib.hid hst
      clear hst hd He
      go_wp2
      go_ret
      exact ⟨by rw [Hst.out]; rfl, hb⟩

end Go.Proofs.Ytdogddngiolpoaa
