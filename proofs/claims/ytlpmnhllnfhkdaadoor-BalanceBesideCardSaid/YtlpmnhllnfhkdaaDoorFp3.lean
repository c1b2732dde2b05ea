/-
  The document's path; the law ForestPath.
-/
import Derived.Test.YtlpmnhllnfhkdaaDoorFp2
namespace Go.Proofs.YtlpmnhllnfhkdaaDoor
open Go.RowKit

set_option maxRecDepth 100000 in
theorem refOf_bad (n : Int) (ars : List ArcV) (A : Option Addr) (l c : Nat) (w : World) (hl : ars.length = l) (hx : ∀ a ∈ ars, a.fit) (hr : Rd w w.heap.size A (cellsA ars)) (hm : l ≤ maxLen) (hc : checkF n ars ≠ 0) :
    Calls Tryd.prog 26 #[.agg #[.int .i64 n, .slice A l c]] w fun e w' => e = .returned (.tuple #[.agg #[.slice none 0 0, .slice none 0 0], .int .i64 (checkF n ars)]) ∧ Below w.heap.size w w' := by
  have hb0 : ∀ o o', Below w.heap.size w ((w.alloc o).alloc o') := fun o o' => ((Below.refl _ _).alloc (Nat.le_refl _) o).alloc (by simp) o'
  obtain ⟨q, hq⟩ : ∃ q, checkF n ars = q := ⟨_, rfl⟩
  rw [hq] at hc
  have hne : (q != 0) = true := by simpa using hc
  have Hq := Lib.hid hq
  clear hq
  rw [Hq.out]
  go_enter Tryd.func26, Tryd.ntmps26
  go_wp2_with fail
  refine (refCheck_any n ars A l c _ hl hx ((hr.below (hb0 _ _) (Nat.le_refl _)).more (by simp; omega)) hm).mono ?_; rintro e w1 ⟨rfl, hb1⟩
  rw [Hq.out]
  have bz : ((w.alloc (.cells #[.int .i64 n, .slice A l c] 24)).alloc (.cells #[.slice none 0 0, .slice none 0 0] 54)).heap.size = w.heap.size + 1 + 1 := by simp
  have bw1 : Below w.heap.size w w1 := (hb0 _ _).trans (hb1.mono (by rw [bz]; omega))
  have kr1 : Blk w1 (w.heap.size + 1) 54 #[.slice none 0 0, .slice none 0 0] := (Blk.new (w.alloc (.cells #[.int .i64 n, .slice A l c] 24)) _ (by simp) _ _).below hb1 (by rw [bz]; omega)
  have bw2 := (bw1.setCell (p := ⟨w.heap.size + 1, 0, none⟩) (by simp) (.slice none 0 0)).setCell (p := ⟨w.heap.size + 1, 1, none⟩) (by simp) (.slice none 0 0)
  have r0 := kr1.cell 0
  have r1 := kr1.cell 1
  have z0 := kr1.frozen 0
  have z1 := kr1.frozen 1
  have t0 := ((kr1.set 0 (.slice none 0 0)).set 1 (.slice none 0 0)).cell 0
  have t1 := ((kr1.set 0 (.slice none 0 0)).set 1 (.slice none 0 0)).cell 1
  simp at r0 r1 t0 t1
  clear hb1 bz hb0 kr1
  go_wp2
  exact bodyPost_ret (v := .tuple #[.agg #[.slice none 0 0, .slice none 0 0], .int .i64 q]) (by simp [results, Tryd.results26, go_sem, t0, t1]) rfl ⟨rfl, bw2⟩
theorem refOf_any (n : Int) (ars : List ArcV) (A : Option Addr) (l c : Nat) (w : World) (hl : ars.length = l) (hx : ∀ a ∈ ars, a.fit) (hr : Rd w w.heap.size A (cellsA ars)) (hm : l ≤ maxLen) :
    Calls Tryd.prog 26 #[.agg #[.int .i64 n, .slice A l c]] w fun e w' => ∃ At ct Ah ch k tree home, e = .returned (.tuple #[.agg #[.slice At tree.length ct, .slice Ah home.length ch], .int .i64 k]) ∧ OfAns n ars k tree home ∧
      Rd w' w'.heap.size At (cellsI tree) ∧ Rd w' w'.heap.size Ah (cellsI home) ∧ Below w.heap.size w w' := by
  by_cases hc : checkF n ars = 0
  · obtain ⟨m, rfl⟩ := checkF_nat hc
    refine (refOf_walk m ars A l c w hl hx hr hm hc).mono ?_
    rintro e w' ⟨At, ct, gh, rfl, ot, oh, hb⟩
    exact ⟨At, ct, some ⟨gh, 0, none⟩, m, 0, treeF m ars, homeF m ars, by rw [homeF_length], .inr ⟨hc, rfl, m, rfl, rfl, rfl⟩, rd_of_own ot, rd_of_own oh, hb⟩
  · refine (refOf_bad n ars A l c w hl hx hr hm hc).mono ?_
    rintro e w' ⟨rfl, hb⟩
    exact ⟨none, 0, none, 0, checkF n ars, [], [], rfl, .inl ⟨hc, rfl, rfl, rfl⟩, .inl rfl, .inl rfl, hb⟩

set_option maxRecDepth 100000 in
set_option maxHeartbeats 4000000 in
theorem refPath_any (n : Int) (ars : List ArcV) (A : Option Addr) (l c : Nat) (s t : Int) (w : World) (hl : ars.length = l) (hx : ∀ a ∈ ars, a.fit) (hr : Rd w w.heap.size A (cellsA ars)) (hm : l ≤ maxLen) (hs : fits s) (ht : fits t) :
    Calls Tryd.prog 29 #[.agg #[.int .i64 n, .slice A l c], .int .i64 s, .int .i64 t] w fun e w' => ∃ A' c' k p, e = .returned (.tuple #[.slice A' p.length c', .int .i64 k]) ∧ PathAns n ars s t k p ∧ Rd w' w'.heap.size A' (cellsS p) ∧ Below w.heap.size w w' := by
  have b1 := (Below.refl w.heap.size w).alloc (Nat.le_refl _) (.cells #[.int .i64 n, .slice A l c] 24)
  have kb := Blk.new w _ rfl 24 #[.int .i64 n, .slice A l c]
  go_enter Tryd.func29, Tryd.ntmps29
  go_wp2_with fail
  refine (refOf_any n ars A l c _ hl hx ((hr.below b1 (Nat.le_refl _)).more b1.size) hm).mono ?_; rintro e w2 ⟨At, ct, Ah, ch, k1, tree, home, rfl, ha1, rt, _, hb2⟩
  have b2 := b1.trans (hb2.mono b1.size)
  have k2 := (kb.below hb2 (by simp)).alloc (.cells #[.slice At tree.length ct, .slice Ah home.length ch] 54)
  have f2 := Blk.new w2 _ rfl 54 #[.slice At tree.length ct, .slice Ah home.length ch]
  have b3 := b2.alloc b2.size (.cells #[.slice At tree.length ct, .slice Ah home.length ch] 54)
  have rt3 : Rd (w2.alloc (.cells #[.slice At tree.length ct, .slice Ah home.length ch] 54)) (w2.alloc (.cells #[.slice At tree.length ct, .slice Ah home.length ch] 54)).heap.size At (cellsI tree) := (rt.below ((Below.refl w2.heap.size w2).alloc (Nat.le_refl _) _) (Nat.le_refl _)).more (by simp)
  obtain ⟨W, hW⟩ : ∃ W, w2.alloc (.cells #[.slice At tree.length ct, .slice Ah home.length ch] 54) = W := ⟨_, rfl⟩
  obtain ⟨bF, hbF⟩ : ∃ bF, w2.heap.size = bF := ⟨_, rfl⟩
  rw [hW] at k2 f2 b3 rt3
  rw [hbF] at f2
  have rW := (hr.below b3 (Nat.le_refl _)).more b3.size
  have n0 := k2.cell 0
  have n1 := k2.cell 1
  have f0 := f2.cell 0
  simp at n0 n1 f0
  clear kb b1 hb2 b2 rt k2 f2
  go_upto_region 2 with fail
  try rw [hW]
  clear hW hbF
  rcases ha1 with ⟨hc, hk, rfl, rfl⟩ | ⟨hc, rfl, m, rfl, rfl, rfl⟩
  · have hne : (k1 != 0) = true := by rw [hk]; simpa using hc
    have Hc := Lib.hid hc
    have Hk := Lib.hid hk
    clear hc hk
    go_wp2_with fail
    go_ret2
    exact ⟨none, 0, k1, [], rfl, .inl ⟨Hc.out, Hk.out, rfl⟩, .inl rfl, b3⟩
  · obtain ⟨h1, h2, h3, hok⟩ := checkF_ok hc
    obtain ⟨T, hT⟩ := finv_end hok
    have htn : (treeF m ars).length ≤ m := by have := spans hok; omega
    have HT := Lib.hid hT
    have Hc := Lib.hid hc
    unfold fits at hs ht
    clear hc hok hT
    by_cases hst : s < 0 ∨ t < 0 ∨ (m : Int) ≤ s ∨ (m : Int) ≤ t
    · go_upto_region 4 with fail
      go_cut [37] (fun s37 wx => wx = W ∧ s37 = .bool true)
      case first =>
        go_wp2_with fail
        all_goals go_meet
        all_goals (refine ⟨rfl, ?_⟩; first | rfl | (congr 1; simp; done) | (congr 1; simp; omega))
      case rest =>
        obtain ⟨rfl, rfl⟩ := hcut
        go_wp2_with fail
        go_ret2
        exact ⟨none, 0, 100, [], rfl, .inr (.inl ⟨Hc.out, hst, rfl, rfl⟩), .inl rfl, b3⟩
    · obtain ⟨a, rfl⟩ : ∃ a : Nat, s = a := ⟨s.toNat, by omega⟩
      obtain ⟨b, rfl⟩ : ∃ b : Nat, t = b := ⟨t.toNat, by omega⟩
      have ha : a < m := by omega
      have hb : b < m := by omega
      go_upto_region 4 with fail
      go_cut [37] (fun s37 wx => wx = W ∧ s37 = .bool false)
      case first =>
        go_wp2_with fail
        all_goals go_meet
        all_goals (refine ⟨rfl, ?_⟩; first | rfl | (congr 1; simp; done) | (congr 1; simp; omega))
      case rest =>
        obtain ⟨rfl, rfl⟩ := hcut
        go_wp2_with fail
        refine (search_any m ars T HT.out A l c hl hx h2 (by omega) htn At ct b hb (2 ^ T.length) a (-1) [] _ ha (by unfold fits; omega) ⟨⟨a, rfl⟩, trivial, fun q' s' h => by simp at h⟩ (by simp) rW rt3).mono ?_; rintro e w4 ⟨A4, c4, p4, fnd, rfl, ha4, r4, hb4⟩
        have b4 := b3.trans (hb4.mono b3.size)
        cases fnd
        · have hno : root (upF m ars) a ≠ root (upF m ars) b := by
            rcases ha4 with ⟨h5, _⟩ | ⟨_, _, h5⟩
            · cases h5
            · intro he
              obtain ⟨q, hq⟩ := (HT.out.conn a b ha hb).1 he
              obtain ⟨q2, hq2, hr2⟩ := red_of HT.out.forest q.length (Nat.le_refl _) hq
              refine h5 q2 hq2 hr2 ?_
              cases q2 with
              | nil => trivial
              | cons s' q2 => show (s'.1 : Int) ≠ -1; omega
          have Hno := Lib.hid hno
          clear hno ha4 r4
          go_wp2_with fail
          go_ret2
          exact ⟨none, 0, 110, [], rfl, .inr (.inr (.inl ⟨Hc.out, m, a, b, rfl, rfl, rfl, ha, hb, Hno.out, rfl, rfl⟩)), .inl rfl, b4⟩
        · have hyes : Walk T a p4 b ∧ Red p4 := by
            rcases ha4 with ⟨_, h1, h2, _⟩ | ⟨h5, _⟩
            · exact ⟨h1, h2⟩
            · cases h5
          have Hyes := Lib.hid hyes
          clear hyes ha4
          go_wp2_with fail
          go_ret2
          exact ⟨A4, c4, 0, p4, rfl, .inr (.inr (.inr ⟨Hc.out, m, a, b, rfl, rfl, rfl, ha, hb, (HT.out.conn a b ha hb).2 ⟨p4, Hyes.out.1⟩, rfl, T, HT.out, Hyes.out.1, Hyes.out.2⟩)), r4, b4⟩

end Go.Proofs.YtlpmnhllnfhkdaaDoor
