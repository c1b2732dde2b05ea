/-
  pianolaref13.Holds.
-/
import Derived.Test.YtdogddngiolpoaaSj
namespace Go.Proofs.Ytdogddngiolpoaa
open Go.RowKit

set_option maxHeartbeats 1000000 in
theorem even_any (a : ArcV) (rs : List Int) (R : Option Addr) (cr : Nat) (w : World) (hok : a.ok rs.length) (hall : rs.all repB = true) (hfr : AllFit rs) (hrr : Rd w w.heap.size R (cellsI rs)) :
    Calls Try.prog 47 #[.agg #[.int .i64 a.f, .int .i64 a.t, .int .i64 a.g, .int .i64 a.k, .int .i64 a.s], .slice R rs.length cr] w fun e w' => e = .returned (.bool (evenB rs a)) ∧ Below w.heap.size w w' := by
  obtain ⟨f, t, ag, ak, az, rfl, hf, ht, hg1, hg2, hk1, hk2, hs1, hs2⟩ := arc_nat hok
  have F1 := repAt_lt hall hf
  have F2 := repAt_lt hall ht
  obtain ⟨b', off', x0, rfl, hb', _, _, _, _⟩ := hrr.at_ hfr hf
  obtain ⟨W1, hW1⟩ : ∃ W1, w.alloc (.cells #[.int .i64 f, .int .i64 t, .int .i64 ag, .int .i64 ak, .int .i64 az] 52) = W1 := ⟨_, rfl⟩
  have b3 : Below w.heap.size w W1 := hW1 ▸ (Below.refl _ _).alloc (Nat.le_refl _) _
  have a2 : Blk W1 w.heap.size 52 #[.int .i64 f, .int .i64 t, .int .i64 ag, .int .i64 ak, .int .i64 az] := hW1 ▸ Blk.new w _ rfl _ _
  have q1 := rd_repAt (hrr.below b3 (Nat.le_refl _)) hf
  have q2 := rd_repAt (hrr.below b3 (Nat.le_refl _)) ht
  have hev : evenB rs ⟨f, t, ag, ak, az⟩ = decide (ag * repAt rs f = ak * repAt rs t) := rfl
  rw [hev]
  generalize repAt rs f = x at *
  generalize repAt rs t = y at *
  have m1 : 0 ≤ ag * x := Int.mul_nonneg (by omega) (by omega)
  have m2 : ag * x ≤ 64 * 4096 := Int.mul_le_mul hg2 (by omega) (by omega) (by omega)
  have m3 : 0 ≤ ak * y := Int.mul_nonneg (by omega) (by omega)
  have m4 : ak * y ≤ 64 * 4096 := Int.mul_le_mul hk2 (by omega) (by omega) (by omega)
  have v1 : IntKind.i64.wrap (ag * x) = ag * x := IntWalk.i64_in _ (by omega)
  have v2 : IntKind.i64.wrap (ak * y) = ak * y := IntWalk.i64_in _ (by omega)
  have g1 : (0 : Int) ≤ (f : Int) := by omega
  have g2 : (f : Int) < (rs.length : Int) := by omega
  have g3 : (0 : Int) ≤ (t : Int) := by omega
  have g4 : (t : Int) < (rs.length : Int) := by omega
  have e0 := a2.cell 0
  have e1 := a2.cell 1
  have e2 := a2.cell 2
  have e3 := a2.cell 3
  simp at e0 e1 e2 e3
  obtain ⟨p, hp⟩ : ∃ p, decide (ag * x = ak * y) = p := ⟨_, rfl⟩
  have z1 : (ag * x == ak * y) = p := by rw [← hp]; rfl
  rw [hp]
  clear hp hev
  go_enter Try.func47, Try.ntmps47
  go_upto_region 1 with fail
  try rw [hW1]
  go_quiet (fail)
  go_wp2
  go_ret
  exact ⟨rfl, Below.drewN b3 _⟩

set_option maxRecDepth 100000 in
set_option maxHeartbeats 4000000 in
theorem refHolds_any (n : Int) (ars : List ArcV) (A : Option Addr) (l c : Nat) (rs : List Int) (R : Option Addr) (m cr : Nat) (w : World) (hl : ars.length = l) (hx : ∀ a ∈ ars, a.fit) (hr : Rd w w.heap.size A (cellsA ars)) (hm : l ≤ maxLen)
    (hrs : rs.length = m) (hfr : AllFit rs) (hrr : Rd w w.heap.size R (cellsI rs)) (hmm : m ≤ maxLen) :
    Calls Try.prog 41 #[.agg #[.int .i64 n, .slice A l c], .slice R m cr] w fun e w' => e = .returned (.tuple #[.bool (holdB n ars rs), .int .i64 (holdE n ars rs)]) ∧ Below w.heap.size w w' := by
  subst hl hrs
  unfold maxLen at hmm
  have b1 := (Below.refl w.heap.size w).alloc (Nat.le_refl _) (.cells #[.int .i64 n, .slice A ars.length c] 24)
  have k1 := Blk.new w _ rfl 24 #[.int .i64 n, .slice A ars.length c]
  obtain ⟨q, hq⟩ : ∃ q, checkF n ars = q := ⟨_, rfl⟩
  obtain ⟨hB, hhB⟩ : ∃ x, holdB n ars rs = x := ⟨_, rfl⟩
  obtain ⟨hE, hhE⟩ : ∃ x, holdE n ars rs = x := ⟨_, rfl⟩
  rw [hhB, hhE]
  have Hq := Lib.hid hq
  have HB := Lib.hid hhB
  have HE := Lib.hid hhE
  clear hq hhB hhE
  go_enter Try.func41, Try.ntmps41
  go_wp2_with fail
  refine (refCheck_any n ars A ars.length c _ rfl hx ((hr.below b1 (Nat.le_refl _)).more b1.size) hm).mono ?_; rintro e w2 ⟨rfl, hb2⟩
  rw [Hq.out]
  have b2 := b1.trans (hb2.mono b1.size)
  have k2 := k1.below hb2 (by simp)
  have s0 := k2.cell 0
  have s1 := k2.cell 1
  simp at s0 s1
  have hlw := k2.lt
  clear b1 k1 hb2
  by_cases hq0 : q = 0
  · subst hq0
    obtain ⟨nn, rfl, hN⟩ := netOk_of Hq.out
    have n32 := hN.n32
    have l96 := hN.l96
    by_cases hln : rs.length = nn
    · subst hln
      have e1 : hE = 0 := by rw [← HE.out]; unfold holdE; rw [if_pos Hq.out, if_pos rfl]
      have e2 : hB = (rs.all repB && ars.all (evenB rs)) := by rw [← HB.out]; unfold holdB; rw [decide_eq_true (p := checkF (rs.length : Int) ars = 0 ∧ (rs.length : Int) = (rs.length : Int)) ⟨Hq.out, rfl⟩, Bool.true_and]
      subst e1
      have E2 := Lib.hid e2
      have HN := Lib.hid hN
      clear e2 hN HE
      have hqq : ((rs.length : Int) != (rs.length : Int)) = false := by simp
      go_wp2_with fail
      go_loopw [7] (fun i wr => ∃ k : Nat, k ≤ rs.length ∧ i = .int .i64 k ∧ wr = w2 ∧ Hid (rs.all repB = (rs.drop k).all repB)) (fun i _ => rs.length - (intOf i).toNat)
      case atStart => exact ⟨0, by omega, rfl, rfl, rfl⟩
      case round =>
        obtain ⟨k, hk, rfl, rfl, He⟩ := hrel
        by_cases hlt : k < rs.length
        · obtain ⟨b, off, x, rfl, hb, hxf, hc, hd, hxx⟩ := (hrr.below b2 (Nat.le_refl _)).at_ hfr hlt
          by_cases h1 : x < 1
          · have e3 : hB = false := by rw [E2.out, He.out, hd.out]; simp [repB]; omega
            subst e3
            go_wp2
            go_ret2
            exact ⟨rfl, b2⟩
          · by_cases h2 : 4096 < x
            · have e3 : hB = false := by rw [E2.out, He.out, hd.out]; simp [repB]; omega
              subst e3
              go_wp2
              go_ret2
              exact ⟨rfl, b2⟩
            · have He' : Hid (rs.all repB = (rs.drop (k + 1)).all repB) := by
                unfold Hid; rw [He.out, hd.out, List.all_cons, show repB x = true from decide_eq_true ⟨by omega, by omega⟩, Bool.true_and]
              clear He hd hxx
              go_wp2
              go_roundw
              case rel => exact ⟨k + 1, by omega, by go_num, trivial, He'⟩
              case measure => simp [intOf]; omega
        · have hall : rs.all repB = true := by rw [He.out, List.drop_eq_nil_of_le (by omega)]; rfl
          have e3 : hB = ars.all (evenB rs) := by rw [E2.out, hall, Bool.true_and]
          have E3 := Lib.hid e3
          have Hall := Lib.hid hall
          clear e3 E2 hall He
          go_wp2
          clear hlt hk
          go_loopw [8] (fun i wx => ∃ j : Nat, j ≤ ars.length ∧ i = .int .i64 j ∧ Below w.heap.size w wx ∧ Blk wx w.heap.size 24 #[.int .i64 (rs.length : Nat), .slice A ars.length c] ∧ Hid (ars.all (evenB rs) = (ars.drop j).all (evenB rs))) (fun i _ => ars.length - (intOf i).toNat)
          case atStart => exact ⟨0, by omega, rfl, b2, k2, rfl⟩
          case round =>
            clear b2 k2 s0 s1
            obtain ⟨j, hj, rfl, hb, kb, He⟩ := hrel
            have s1 := kb.cell 1
            simp at s1
            by_cases hlt : j < ars.length
            · obtain ⟨b, off, a, rfl, hbl, -, c0, c1, c2, c3, c4, hd, hx'⟩ := (hr.below hb (Nat.le_refl _)).arc hx hlt
              have hok := HN.out.ok a (List.mem_of_getElem? hx'.out)
              go_wp2_with fail
              refine (even_any a rs R cr wr hok Hall.out hfr ((hrr.below hb (Nat.le_refl _)).more hb.size)).mono ?_; rintro e w3 ⟨rfl, hb3⟩
              have b3 := hb.trans (hb3.mono hb.size)
              have kb3 := kb.below hb3 kb.lt
              by_cases hxy : evenB rs a = true
              · rw [hxy]
                have He' : Hid (ars.all (evenB rs) = (ars.drop (j + 1)).all (evenB rs)) := by
                  unfold Hid; rw [He.out, hd.out, List.all_cons, hxy, Bool.true_and]
                clear He hd hxy hx' hok
                go_wp2
                go_roundw
                case rel => exact ⟨j + 1, by omega, by go_num, b3, kb3, He'⟩
                case measure => simp [intOf]; omega
              · have hxf : evenB rs a = false := by simpa using hxy
                rw [hxf]
                have e5 : hB = false := by rw [E3.out, He.out, hd.out, List.all_cons, hxf, Bool.false_and]
                subst e5
                go_wp2
                go_ret2
                exact ⟨rfl, b3⟩
            · have e5 : hB = true := by rw [E3.out, He.out, List.drop_eq_nil_of_le (by omega)]; rfl
              subst e5
              go_wp2
              go_ret2
              exact ⟨rfl, hb⟩
    · have e1 : hE = 1 := by rw [← HE.out]; unfold holdE; rw [if_pos Hq.out, if_neg (by omega)]
      have e2 : hB = false := by rw [← HB.out]; unfold holdB; rw [decide_eq_false (p := checkF (nn : Int) ars = 0 ∧ (rs.length : Int) = (nn : Int)) (by omega), Bool.false_and]
      subst e1 e2
      have hqq : ((rs.length : Int) != (nn : Int)) = true := by simp; omega
      go_wp2
      go_ret2
      exact ⟨rfl, b2⟩
  · have e1 : hE = q := by rw [← HE.out]; unfold holdE; rw [Hq.out, if_neg hq0]
    have e2 : hB = false := by rw [← HB.out]; unfold holdB; rw [decide_eq_false (p := checkF n ars = 0 ∧ (rs.length : Int) = n) (by rw [Hq.out]; exact fun h => hq0 h.1), Bool.false_and]
    subst e1 e2
    have hqq : (hE != 0) = true := by simpa using hq0
    go_wp2
    go_ret2
    exact ⟨rfl, b2⟩
end Go.Proofs.Ytdogddngiolpoaa
