/-
  witness.ends, witness.closes: where a step starts and ends; do steps go round a cycle.
-/
import Derived.Test.YtpmlljbebdidgaaDoorVb
namespace Go.Proofs.YtpmlljbebdidgaaDoor
open Go.RowKit

set_option maxRecDepth 100000 in
set_option maxHeartbeats 400000 in
theorem wends_any (a : ArcV) (t : Bool) (w : World) : Calls Tryd.prog 45 #[.agg #[.int .i64 a.f, .int .i64 a.t, .int .i64 a.g, .int .i64 a.k, .int .i64 a.s], .bool t] w
    fun e w' => e = .returned (.tuple #[.int .i64 (if t = true then a.t else a.f), .int .i64 (if t = true then a.f else a.t)]) ∧ Below w.heap.size w w' := by
  have hb := (Below.refl w.heap.size w).alloc (Nat.le_refl _) (.cells #[.int .i64 a.f, .int .i64 a.t, .int .i64 a.g, .int .i64 a.k, .int .i64 a.s] 66)
  cases t with
  | true =>
    go_enter Tryd.func45, Tryd.ntmps45
    go_wp2_with fail
    go_quiet (fail)
    go_wp2_with fail
    go_ret2
    exact ⟨rfl, Below.drewN hb _⟩
  | false =>
    go_enter Tryd.func45, Tryd.ntmps45
    go_wp2_with fail
    go_quiet (fail)
    go_wp2_with fail
    go_ret2
    exact ⟨rfl, Below.drewN hb _⟩
theorem closes_not {ars : List ArcV} {p : List StI} {k : Nat} (hk : k < p.length) (h : okAt ars p k = false) : closesB ars p = false := by
  unfold closesB
  rw [show (List.range p.length).all (okAt ars p) = false by rw [List.all_eq_false]; exact ⟨k, List.mem_range.2 hk, by simp [h]⟩, Bool.and_false]
theorem closes_yes {ars : List ArcV} {p : List StI} (h0 : 0 < p.length) (h : ∀ i, i < p.length → okAt ars p i = true) : closesB ars p = true := by
  unfold closesB
  rw [decide_eq_true h0, Bool.true_and, List.all_eq_true]
  exact fun i hi => h i (List.mem_range.1 hi)
theorem okAt_far {ars : List ArcV} {p : List StI} {k : Nat} (h : toS ars (at' p k) ≠ fromS ars (at' p ((k + 1) % p.length))) : okAt ars p k = false := by unfold okAt; rw [decide_eq_false h]; rfl
theorem okAt_twice {ars : List ArcV} {p : List StI} {k j : Nat} (hj : j < k) (h : apartAt ars p k j = false) : okAt ars p k = false := by
  unfold okAt
  rw [show (List.range k).all (apartAt ars p k) = false by rw [List.all_eq_false]; exact ⟨j, List.mem_range.2 hj, by simp [h]⟩, Bool.and_false]
theorem okAt_yes {ars : List ArcV} {p : List StI} {k : Nat} (h : toS ars (at' p k) = fromS ars (at' p ((k + 1) % p.length))) (h2 : ∀ j, j < k → apartAt ars p k j = true) : okAt ars p k = true := by
  unfold okAt
  rw [decide_eq_true h, Bool.true_and, List.all_eq_true]
  exact fun j hj => h2 j (List.mem_range.1 hj)
theorem allIn_get {L k : Nat} {p : List StI} {x : Int} {t : Bool} (h : allIn L p = true) (hk : p[k]? = some (x, t)) : ∃ j : Nat, x = (j : Int) ∧ j < L := by
  have := List.all_eq_true.1 h _ (List.mem_of_getElem? hk)
  unfold inS at this
  have := of_decide_eq_true this
  exact ⟨x.toNat, by have := this.1; simp at this; omega, by have h1 := this.1; have h2 := this.2; simp at h1 h2; omega⟩
theorem at_fields {ars : List ArcV} {p : List StI} {k j : Nat} {t : Bool} {a : ArcV} (hk : p[k]? = some ((j : Int), t)) (ha : ars[j]? = some a) :
    fromS ars (at' p k) = (if t = true then a.t else a.f) ∧ toS ars (at' p k) = (if t = true then a.f else a.t) ∧ (at' p k).1 = (j : Int) := by
  rw [at'_some hk]
  unfold fromS toS
  rw [arc_at ha]
  exact ⟨rfl, rfl, rfl⟩

set_option maxRecDepth 100000 in
set_option maxHeartbeats 8000000 in
theorem wcloses_any (n : Int) (ars : List ArcV) (A : Option Addr) (l c : Nat) (p : List StI) (Ap : Option Addr) (m cp : Nat) (w : World) (hl : ars.length = l) (hx : ∀ a ∈ ars, a.fit) (hr : Rd w w.heap.size A (cellsA ars))
    (hp : p.length = m) (hxp : FitT p) (hrp : Rd w w.heap.size Ap (cellsT p)) (hmp : m ≤ 96) (hmc : m ≤ cp) (hin : allIn ars.length p = true) :
    Calls Tryd.prog 24 #[.agg #[.int .i64 n, .slice A l c], .slice Ap m cp] w fun e w' => e = .returned (.bool (closesB ars p)) ∧ Below w.heap.size w w' := by
  obtain ⟨W, hW⟩ : ∃ W, w.alloc (.cells #[.int .i64 n, .slice A l c] 30) = W := ⟨_, rfl⟩
  have bW : Below w.heap.size w W := by subst hW; exact (Below.refl _ _).alloc (Nat.le_refl _) _
  have k0 : Blk W w.heap.size 30 #[.int .i64 n, .slice A l c] := by subst hW; exact Blk.new w _ rfl _ _
  obtain ⟨g0, hg0⟩ : ∃ g0, decide (0 < m) = g0 := ⟨_, rfl⟩
  have HG0 := Lib.hid hg0.symm
  have HX := Lib.hid hx
  have HXP := Lib.hid hxp
  have HL := Lib.hid hl
  have HP := Lib.hid hp
  have HR := Lib.hid hr
  have HRP := Lib.hid hrp
  have HIN := Lib.hid hin
  clear hx hr hxp hrp hin hl hp
  obtain ⟨res, hres⟩ : ∃ res, closesB ars p = res := ⟨_, rfl⟩
  have HRES := Lib.hid hres
  rw [hres]
  clear hres
  go_enter Tryd.func24, Tryd.ntmps24
  go_wp2_with fail
  go_step3
  go_wp2_with fail
  go_step3
  go_wp2_with fail
  try rw [hW]
  clear hW hg0
  go_loopg [5, 22] m (fun gg s5 s22 wr => ∃ k : Nat, k ≤ m ∧ m - k ≤ gg ∧ s5 = .bool g0 ∧ s22 = .int .i64 k ∧ Below w.heap.size w wr ∧ Blk wr w.heap.size 30 #[.int .i64 n, .slice A l c] ∧ Hid (∀ i, i < k → okAt ars p i = true))
  case atStart => exact ⟨0, Nat.zero_le _, by omega, rfl, rfl, bW, k0, fun i hi => absurd hi (Nat.not_lt_zero _)⟩
  case round =>
    clear bW k0
    obtain ⟨k, hk, hg, rfl, rfl, hb, kn, HO⟩ := hrel
    by_cases hlt : k < m
    · obtain rfl : g0 = true := by rw [HG0.out]; exact decide_eq_true (by omega)
      have hsz := hb.size
      obtain ⟨bp, op, x, t, rfl, hbp, hxf, c0, c1, -, hxx⟩ := (HRP.out.below hb (Nat.le_refl _)).sti HXP.out (k := k) (by rw [HP.out]; exact hlt)
      obtain ⟨j, rfl, hj⟩ := allIn_get HIN.out hxx.out
      obtain ⟨ba, oa, a, rfl, hba, hfa, c4, c5, c6, c7, c8, -, haa⟩ := (HR.out.below hb (Nat.le_refl _)).arc HX.out (k := j) hj
      have hjl : j < l := by have := HL.out; omega
      obtain ⟨fa1, fa2, fa3⟩ := at_fields hxx.out haa.out
      have EA := Lib.hid (wends_any a t)
      obtain ⟨u, hu⟩ : ∃ u, (if t = true then a.t else a.f) = u := ⟨_, rfl⟩
      obtain ⟨v, hv⟩ : ∃ v, (if t = true then a.f else a.t) = v := ⟨_, rfl⟩
      rw [hu] at EA fa1
      rw [hv] at EA fa2
      have FA := Lib.hid (And.intro fa1 (And.intro fa2 fa3))
      clear hu hv
      have hbW : bp < wr.heap.size := by omega
      have hbA : ba < wr.heap.size := by omega
      have hnw := kn.lt
      have i1 : (0 : Int) ≤ (j : Int) := by omega
      have i2 : (j : Int) < (l : Int) := by omega
      obtain ⟨W1, hW1⟩ : ∃ W1, wr.alloc (.cells #[.int .i64 (j : Nat), .bool t] 84) = W1 := ⟨_, rfl⟩
      have b1 : Below wr.heap.size wr W1 := by rw [← hW1]; exact (Below.refl _ _).alloc (Nat.le_refl _) _
      have ks : Blk W1 wr.heap.size 84 #[.int .i64 (j : Nat), .bool t] := by rw [← hW1]; exact Blk.new wr _ rfl _ _
      have kn1 := kn.lowr b1 hnw
      obtain ⟨gs, hgs⟩ : ∃ gs, wr.heap.size = gs := ⟨_, rfl⟩
      have d0 := ks.cell 0
      have d1 := ks.cell 1
      have n1 := kn1.cell 1
      simp at d0 d1 n1
      have e4 := (b1.cell (p := ⟨ba, oa + j * 5, none⟩) hbA).trans c4
      have e5 := (b1.cell (p := ⟨ba, oa + j * 5 + 1, none⟩) hbA).trans c5
      have e6 := (b1.cell (p := ⟨ba, oa + j * 5 + 2, none⟩) hbA).trans c6
      have e7 := (b1.cell (p := ⟨ba, oa + j * 5 + 3, none⟩) hbA).trans c7
      have e8 := (b1.cell (p := ⟨ba, oa + j * 5 + 4, none⟩) hbA).trans c8
      have hgW : gs < W1.heap.size := by rw [← hgs]; exact ks.lt
      rw [hgs] at d0 d1
      have hbA1 : ba < W1.heap.size := by omega
      have hn1W : w.heap.size < W1.heap.size := kn1.lt
      have HW1 := Lib.hid hW1
      have HGS := Lib.hid hgs
      have KS := Lib.hid ks
      have KN1 := Lib.hid kn1
      have HB := Lib.hid hb
      have B1 := Lib.hid b1
      clear hxx haa fa1 fa2 fa3 hxf hfa ks kn kn1 hb b1 hW1 c4 c5 c6 c7 c8 hgs
      go_upto_region 5 with fail
      rw [HW1.out, HGS.out]
      clear c0 c1
      go_cut [8, 9] (fun s8 s9 wx => s8 = .int .i64 u ∧ s9 = .int .i64 v ∧ Below W1.heap.size W1 wx)
      case first =>
        go_region_held3 (fun w' => w'.cell? ⟨w.heap.size, 1, none⟩ = some (.slice (some ⟨ba, oa, none⟩) l c) ∧ w'.cell? ⟨gs, 0, none⟩ = some (.int .i64 (j : Nat)) ∧ w'.cell? ⟨gs, 1, none⟩ = some (.bool t) ∧ w'.cell? ⟨ba, oa + j * 5, none⟩ = some (.int .i64 a.f) ∧ w'.cell? ⟨ba, oa + j * 5 + 1, none⟩ = some (.int .i64 a.t) ∧ w'.cell? ⟨ba, oa + j * 5 + 2, none⟩ = some (.int .i64 a.g) ∧ w'.cell? ⟨ba, oa + j * 5 + 3, none⟩ = some (.int .i64 a.k) ∧ w'.cell? ⟨ba, oa + j * 5 + 4, none⟩ = some (.int .i64 a.s))
          (go_keep)
          (first
            | (go_at_call 45; refine (EA.out _).mono ?_; rintro e' w4 ⟨rfl, hb4⟩; have q0 : w4.cell? ⟨w.heap.size, 1, none⟩ = some (.slice (some ⟨ba, oa, none⟩) l c) := (hb4.cell (p := ⟨w.heap.size, 1, none⟩) (by simp; omega)).trans (by simp [*]); have q1 : w4.cell? ⟨gs, 0, none⟩ = some (.int .i64 (j : Nat)) := (hb4.cell (p := ⟨gs, 0, none⟩) (by simp; omega)).trans (by simp [*]); have q2 : w4.cell? ⟨gs, 1, none⟩ = some (.bool t) := (hb4.cell (p := ⟨gs, 1, none⟩) (by simp; omega)).trans (by simp [*]); have q3 : w4.cell? ⟨ba, oa + j * 5, none⟩ = some (.int .i64 a.f) := (hb4.cell (p := ⟨ba, oa + j * 5, none⟩) (by simp; omega)).trans (by simp [*]); have q4 : w4.cell? ⟨ba, oa + j * 5 + 1, none⟩ = some (.int .i64 a.t) := (hb4.cell (p := ⟨ba, oa + j * 5 + 1, none⟩) (by simp; omega)).trans (by simp [*]); have q5 : w4.cell? ⟨ba, oa + j * 5 + 2, none⟩ = some (.int .i64 a.g) := (hb4.cell (p := ⟨ba, oa + j * 5 + 2, none⟩) (by simp; omega)).trans (by simp [*]); have q6 : w4.cell? ⟨ba, oa + j * 5 + 3, none⟩ = some (.int .i64 a.k) := (hb4.cell (p := ⟨ba, oa + j * 5 + 3, none⟩) (by simp; omega)).trans (by simp [*]); have q7 : w4.cell? ⟨ba, oa + j * 5 + 4, none⟩ = some (.int .i64 a.s) := (hb4.cell (p := ⟨ba, oa + j * 5 + 4, none⟩) (by simp; omega)).trans (by simp [*])))
        go_wp2
        go_meet
        have hbx : Below W1.heap.size W1 w4 := (Below.drewN (Below.refl _ W1) 1).trans hb4
        exact ⟨rfl, rfl, hbx⟩
      case rest =>
        obtain ⟨rfl, rfl, hb2⟩ := hcut
        obtain ⟨w5, rfl⟩ : ∃ w5 : World, w5 = wc := ⟨_, rfl⟩
        have b5 := B1.out.trans (hb2.mono B1.out.size)
        have B5 := Lib.hid b5
        have KS5 := Lib.hid (KS.out.lowr (B := W1.heap.size) hb2 (by rw [HGS.out]; exact hgW))
        have hs5 := hb2.size
        have HB2 := Lib.hid hb2
        have BB5 := Lib.hid (HB.out.trans (b5.mono hsz))
        have hq : (k + 1) % m < m := Nat.mod_lt _ (by omega)
        have hqi : ((k : Int) + 1) % (m : Int) = (((k + 1) % m : Nat) : Int) := by rw [Int.natCast_emod]; rfl
        obtain ⟨q, hqe⟩ : ∃ q, (k + 1) % m = q := ⟨_, rfl⟩
        rw [hqe] at hq hqi
        obtain ⟨bp', op', x', t', hAp, hbp', -, c0', c1', -, hxx'⟩ := (HRP.out.below BB5.out (Nat.le_refl _)).sti HXP.out (k := q) (by rw [HP.out]; exact hq)
        injection hAp with hAp
        injection hAp with hAp1 hAp2
        subst hAp1 hAp2
        obtain ⟨j', rfl, hj'⟩ := allIn_get HIN.out hxx'.out
        have hjl' : j' < l := by have := HL.out; omega
        obtain ⟨ba', oa', a', hAa, hba', -, f4, f5, f6, f7, f8, -, haa'⟩ := (HR.out.below BB5.out (Nat.le_refl _)).arc HX.out (k := j') hj'
        injection hAa with hAa
        injection hAa with hAa1 hAa2
        subst hAa1 hAa2
        obtain ⟨fb1, fb2, fb3⟩ := at_fields hxx'.out haa'.out
        have EB := Lib.hid (wends_any a' t')
        obtain ⟨u', hu'⟩ : ∃ u, (if t' = true then a'.t else a'.f) = u := ⟨_, rfl⟩
        obtain ⟨v', hv'⟩ : ∃ v, (if t' = true then a'.f else a'.t) = v := ⟨_, rfl⟩
        rw [hu'] at EB fb1
        rw [hv'] at EB
        have FB := Lib.hid fb1
        have i3 : (0 : Int) ≤ (j' : Int) := by omega
        have i4 : (j' : Int) < (l : Int) := by omega
        have hbA5 : ba < w5.heap.size := by omega
        obtain ⟨W2, hW2⟩ : ∃ W2, w5.alloc (.cells #[.int .i64 (j' : Nat), .bool t'] 84) = W2 := ⟨_, rfl⟩
        have b6 : Below w5.heap.size w5 W2 := by rw [← hW2]; exact (Below.refl _ _).alloc (Nat.le_refl _) _
        have ks2 : Blk W2 w5.heap.size 84 #[.int .i64 (j' : Nat), .bool t'] := by rw [← hW2]; exact Blk.new w5 _ rfl _ _
        have kn2 := (KN1.out.lowr hb2 hn1W).lowr b6 (by omega)
        obtain ⟨gs2, hgs2⟩ : ∃ gs, w5.heap.size = gs := ⟨_, rfl⟩
        have d0 := ks2.cell 0
        have d1 := ks2.cell 1
        have n1 := kn2.cell 1
        simp at d0 d1 n1
        have e4 := (b6.cell (p := ⟨ba, oa + j' * 5, none⟩) hbA5).trans f4
        have e5 := (b6.cell (p := ⟨ba, oa + j' * 5 + 1, none⟩) hbA5).trans f5
        have e6 := (b6.cell (p := ⟨ba, oa + j' * 5 + 2, none⟩) hbA5).trans f6
        have e7 := (b6.cell (p := ⟨ba, oa + j' * 5 + 3, none⟩) hbA5).trans f7
        have e8 := (b6.cell (p := ⟨ba, oa + j' * 5 + 4, none⟩) hbA5).trans f8
        have hgW2 : gs2 < W2.heap.size := by rw [← hgs2]; exact ks2.lt
        rw [hgs2] at d0 d1
        have hbA6 : ba < W2.heap.size := by omega
        have hn2W : w.heap.size < W2.heap.size := kn2.lt
        have HW2 := Lib.hid hW2
        have HGS2 := Lib.hid hgs2
        have B6 := Lib.hid b6
        have HQE := Lib.hid hqe
        clear hxx' haa' fb1 fb2 fb3 hu' hv' ks2 kn2 hb2 b5 b6 hW2 f4 f5 f6 f7 f8 hgs2 hqe
        go_upto_region 7 with fail
        rw [HW2.out, HGS2.out]
        clear c0' c1' hqi
        go_cut [11, 12] (fun s11 s12 wx => s11 = .int .i64 u' ∧ s12 = .int .i64 v' ∧ Below W2.heap.size W2 wx)
        case first =>
          go_region_held3 (fun w' => w'.cell? ⟨w.heap.size, 1, none⟩ = some (.slice (some ⟨ba, oa, none⟩) l c) ∧ w'.cell? ⟨gs2, 0, none⟩ = some (.int .i64 (j' : Nat)) ∧ w'.cell? ⟨gs2, 1, none⟩ = some (.bool t') ∧ w'.cell? ⟨ba, oa + j' * 5, none⟩ = some (.int .i64 a'.f) ∧ w'.cell? ⟨ba, oa + j' * 5 + 1, none⟩ = some (.int .i64 a'.t) ∧ w'.cell? ⟨ba, oa + j' * 5 + 2, none⟩ = some (.int .i64 a'.g) ∧ w'.cell? ⟨ba, oa + j' * 5 + 3, none⟩ = some (.int .i64 a'.k) ∧ w'.cell? ⟨ba, oa + j' * 5 + 4, none⟩ = some (.int .i64 a'.s))
            (go_keep)
            (first
              | (go_at_call 45; refine (EB.out _).mono ?_; rintro e' w4 ⟨rfl, hb4⟩; have q0 : w4.cell? ⟨w.heap.size, 1, none⟩ = some (.slice (some ⟨ba, oa, none⟩) l c) := (hb4.cell (p := ⟨w.heap.size, 1, none⟩) (by simp; omega)).trans (by simp [*]); have q1 : w4.cell? ⟨gs2, 0, none⟩ = some (.int .i64 (j' : Nat)) := (hb4.cell (p := ⟨gs2, 0, none⟩) (by simp; omega)).trans (by simp [*]); have q2 : w4.cell? ⟨gs2, 1, none⟩ = some (.bool t') := (hb4.cell (p := ⟨gs2, 1, none⟩) (by simp; omega)).trans (by simp [*]); have q3 : w4.cell? ⟨ba, oa + j' * 5, none⟩ = some (.int .i64 a'.f) := (hb4.cell (p := ⟨ba, oa + j' * 5, none⟩) (by simp; omega)).trans (by simp [*]); have q4 : w4.cell? ⟨ba, oa + j' * 5 + 1, none⟩ = some (.int .i64 a'.t) := (hb4.cell (p := ⟨ba, oa + j' * 5 + 1, none⟩) (by simp; omega)).trans (by simp [*]); have q5 : w4.cell? ⟨ba, oa + j' * 5 + 2, none⟩ = some (.int .i64 a'.g) := (hb4.cell (p := ⟨ba, oa + j' * 5 + 2, none⟩) (by simp; omega)).trans (by simp [*]); have q6 : w4.cell? ⟨ba, oa + j' * 5 + 3, none⟩ = some (.int .i64 a'.k) := (hb4.cell (p := ⟨ba, oa + j' * 5 + 3, none⟩) (by simp; omega)).trans (by simp [*]); have q7 : w4.cell? ⟨ba, oa + j' * 5 + 4, none⟩ = some (.int .i64 a'.s) := (hb4.cell (p := ⟨ba, oa + j' * 5 + 4, none⟩) (by simp; omega)).trans (by simp [*])))
          go_wp2
          go_meet
          have hbx : Below W2.heap.size W2 w4 := (Below.drewN (Below.refl _ W2) 1).trans hb4
          exact ⟨rfl, rfl, hbx⟩
        case rest =>
          obtain ⟨rfl, rfl, hb7⟩ := hcut
          obtain ⟨w7, rfl⟩ : ∃ w7 : World, w7 = wc := ⟨_, rfl⟩
          have h57 := B6.out.trans (hb7.mono B6.out.size)
          have h17 := HB2.out.trans (h57.mono HB2.out.size)
          have BB7 := Lib.hid (BB5.out.trans (h57.mono BB5.out.size))
          have ks7 := KS.out.lowr h17 (by rw [HGS.out]; exact hgW)
          have kn7 := KN1.out.lowr h17 hn1W
          rw [HGS.out] at ks7
          have KS7 := Lib.hid ks7
          have KN7 := Lib.hid kn7
          have hs7 := h17.size
          have H17 := Lib.hid h17
          clear hb7 h57 h17 ks7 kn7 e4 e5 e6 e7 e8 d0 d1 n1
          by_cases huv : u' = v
          · subst huv
            have heq : (u' != u') = false := by simp
            have HOK := Lib.hid (show toS ars (at' p k) = fromS ars (at' p ((k + 1) % p.length)) by rw [FA.out.2.1, HP.out, HQE.out, FB.out])
            have hkc : k ≤ cp := by omega
            go_wp2_with fail
            clear heq
            go_loopg [5, 66] k (fun gg s5 s66 wx => ∃ j2 : Nat, j2 ≤ k ∧ k - j2 ≤ gg ∧ s5 = .bool true ∧ s66 = .int .i64 j2 ∧ Below W1.heap.size W1 wx ∧ Hid (∀ i, i < j2 → apartAt ars p k i = true))
            case atStart => exact ⟨0, Nat.zero_le _, by omega, rfl, rfl, H17.out, fun i hi => absurd hi (Nat.not_lt_zero _)⟩
            case round =>
              obtain ⟨j2, hj2, hg2, rfl, rfl, hbx, HA⟩ := hrel
              have bx := B1.out.trans (hbx.mono B1.out.size)
              have BX := Lib.hid (HB.out.trans (bx.mono hsz))
              have ksx := KS.out.lowr hbx (by rw [HGS.out]; exact hgW)
              rw [HGS.out] at ksx
              have knx := KN1.out.lowr hbx hn1W
              have HBX := Lib.hid hbx
              have hsx := hbx.size
              by_cases hlt2 : j2 < k
              · obtain ⟨bp2, op2, x3, t3, hAp, hbp2, -, c03, c13, -, hxx3⟩ := (HRP.out.below BX.out (Nat.le_refl _)).sti HXP.out (k := j2) (by rw [HP.out]; omega)
                injection hAp with hAp
                injection hAp with hAp1 hAp2
                subst hAp1 hAp2
                obtain ⟨j3, rfl, hj3⟩ := allIn_get HIN.out hxx3.out
                have hjl3 : j3 < l := by have := HL.out; omega
                obtain ⟨ba3, oa3, a3, hAa, hba3, -, f4, f5, f6, f7, f8, -, haa3⟩ := (HR.out.below BX.out (Nat.le_refl _)).arc HX.out (k := j3) hj3
                injection hAa with hAa
                injection hAa with hAa1 hAa2
                subst hAa1 hAa2
                obtain ⟨fb1, fb2, fb3⟩ := at_fields hxx3.out haa3.out
                have EC := Lib.hid (wends_any a3 t3)
                obtain ⟨u3, hu3⟩ : ∃ u, (if t3 = true then a3.t else a3.f) = u := ⟨_, rfl⟩
                obtain ⟨v3, hv3⟩ : ∃ v, (if t3 = true then a3.f else a3.t) = v := ⟨_, rfl⟩
                rw [hu3] at EC fb1
                rw [hv3] at EC
                have FB3 := Lib.hid (And.intro fb1 fb3)
                have i5 : (0 : Int) ≤ (j3 : Int) := by omega
                have i6 : (j3 : Int) < (l : Int) := by omega
                have hbAx : ba < wr.heap.size := by omega
                obtain ⟨W3, hW3⟩ : ∃ W3, wr.alloc (.cells #[.int .i64 (j3 : Nat), .bool t3] 84) = W3 := ⟨_, rfl⟩
                have b8 : Below wr.heap.size wr W3 := by rw [← hW3]; exact (Below.refl _ _).alloc (Nat.le_refl _) _
                have ks3 : Blk W3 wr.heap.size 84 #[.int .i64 (j3 : Nat), .bool t3] := by rw [← hW3]; exact Blk.new wr _ rfl _ _
                have kn3 := knx.lowr b8 (by omega)
                have ksx3 := ksx.lowr b8 (by omega)
                obtain ⟨gs3, hgs3⟩ : ∃ gs, wr.heap.size = gs := ⟨_, rfl⟩
                have d0 := ks3.cell 0
                have d1 := ks3.cell 1
                have n1 := kn3.cell 1
                simp at d0 d1 n1
                have e4 := (b8.cell (p := ⟨ba, oa + j3 * 5, none⟩) hbAx).trans f4
                have e5 := (b8.cell (p := ⟨ba, oa + j3 * 5 + 1, none⟩) hbAx).trans f5
                have e6 := (b8.cell (p := ⟨ba, oa + j3 * 5 + 2, none⟩) hbAx).trans f6
                have e7 := (b8.cell (p := ⟨ba, oa + j3 * 5 + 3, none⟩) hbAx).trans f7
                have e8 := (b8.cell (p := ⟨ba, oa + j3 * 5 + 4, none⟩) hbAx).trans f8
                have hgW3 : gs3 < W3.heap.size := by rw [← hgs3]; exact ks3.lt
                rw [hgs3] at d0 d1
                have hbA8 : ba < W3.heap.size := by have := b8.size; omega
                have hn3W : w.heap.size < W3.heap.size := kn3.lt
                have hgs1W : gs < W3.heap.size := ksx3.lt
                have HW3 := Lib.hid hW3
                have HGS3 := Lib.hid hgs3
                have B8 := Lib.hid b8
                have KSX3 := Lib.hid ksx3
                have KS3 := Lib.hid ks3
                rw [hgs3] at KS3
                clear hxx3 haa3 fb1 fb2 fb3 hu3 hv3 ks3 kn3 ksx knx ksx3 hbx bx b8 hW3 f4 f5 f6 f7 f8 hgs3
                go_upto_region 13 with fail
                rw [HW3.out, HGS3.out]
                clear c03 c13
                go_cut [15, 16] (fun s11 s12 wx => s11 = .int .i64 u3 ∧ s12 = .int .i64 v3 ∧ Below W3.heap.size W3 wx)
                case first =>
                  go_region_held3 (fun w' => w'.cell? ⟨w.heap.size, 1, none⟩ = some (.slice (some ⟨ba, oa, none⟩) l c) ∧ w'.cell? ⟨gs3, 0, none⟩ = some (.int .i64 (j3 : Nat)) ∧ w'.cell? ⟨gs3, 1, none⟩ = some (.bool t3) ∧ w'.cell? ⟨ba, oa + j3 * 5, none⟩ = some (.int .i64 a3.f) ∧ w'.cell? ⟨ba, oa + j3 * 5 + 1, none⟩ = some (.int .i64 a3.t) ∧ w'.cell? ⟨ba, oa + j3 * 5 + 2, none⟩ = some (.int .i64 a3.g) ∧ w'.cell? ⟨ba, oa + j3 * 5 + 3, none⟩ = some (.int .i64 a3.k) ∧ w'.cell? ⟨ba, oa + j3 * 5 + 4, none⟩ = some (.int .i64 a3.s))
                    (go_keep)
                    (first
                      | (go_at_call 45; refine (EC.out _).mono ?_; rintro e' w4 ⟨rfl, hb4⟩; have q0 : w4.cell? ⟨w.heap.size, 1, none⟩ = some (.slice (some ⟨ba, oa, none⟩) l c) := (hb4.cell (p := ⟨w.heap.size, 1, none⟩) (by simp; omega)).trans (by simp [*]); have q1 : w4.cell? ⟨gs3, 0, none⟩ = some (.int .i64 (j3 : Nat)) := (hb4.cell (p := ⟨gs3, 0, none⟩) (by simp; omega)).trans (by simp [*]); have q2 : w4.cell? ⟨gs3, 1, none⟩ = some (.bool t3) := (hb4.cell (p := ⟨gs3, 1, none⟩) (by simp; omega)).trans (by simp [*]); have q3 : w4.cell? ⟨ba, oa + j3 * 5, none⟩ = some (.int .i64 a3.f) := (hb4.cell (p := ⟨ba, oa + j3 * 5, none⟩) (by simp; omega)).trans (by simp [*]); have q4 : w4.cell? ⟨ba, oa + j3 * 5 + 1, none⟩ = some (.int .i64 a3.t) := (hb4.cell (p := ⟨ba, oa + j3 * 5 + 1, none⟩) (by simp; omega)).trans (by simp [*]); have q5 : w4.cell? ⟨ba, oa + j3 * 5 + 2, none⟩ = some (.int .i64 a3.g) := (hb4.cell (p := ⟨ba, oa + j3 * 5 + 2, none⟩) (by simp; omega)).trans (by simp [*]); have q6 : w4.cell? ⟨ba, oa + j3 * 5 + 3, none⟩ = some (.int .i64 a3.k) := (hb4.cell (p := ⟨ba, oa + j3 * 5 + 3, none⟩) (by simp; omega)).trans (by simp [*]); have q7 : w4.cell? ⟨ba, oa + j3 * 5 + 4, none⟩ = some (.int .i64 a3.s) := (hb4.cell (p := ⟨ba, oa + j3 * 5 + 4, none⟩) (by simp; omega)).trans (by simp [*])))
                  go_wp2
                  go_meet
                  have hbx : Below W3.heap.size W3 w4 := (Below.drewN (Below.refl _ W3) 1).trans hb4
                  exact ⟨rfl, rfl, hbx⟩
                case rest =>
                  obtain ⟨rfl, rfl, hb9⟩ := hcut
                  have ks1 := KSX3.out.lowr hb9 hgs1W
                  have ks3 := KS3.out.lowr hb9 hgW3
                  have h89 := B8.out.trans (hb9.mono B8.out.size)
                  have HF := Lib.hid (HBX.out.trans (h89.mono hsx))
                  have BF := Lib.hid (BX.out.trans (h89.mono BX.out.size))
                  have m0 := ks1.cell 0
                  have m3 := ks3.cell 0
                  simp at m0 m3
                  clear hb9 h89 e4 e5 e6 e7 e8 d0 d1 n1 ks1 ks3
                  by_cases hu : u3 = u
                  · have HC : Hid (res = false) := by
                      unfold Hid
                      rw [← HRES.out]
                      refine closes_not (k := k) (by rw [HP.out]; exact hlt) (okAt_twice hlt2 ?_)
                      unfold apartAt
                      rw [FB3.out.1, FA.out.1, hu]; simp
                    have q1 : (u3 == u) = true := by simpa using hu
                    clear hu
                    go_wp2_with fail
                    try rw [Exit.noGoto_ret]
                    go_ret
                    exact ⟨retb HC.out.symm, BF.out⟩
                  · have q1 : (u3 == u) = false := by simpa using hu
                    by_cases hjj : j3 = j
                    · have HC : Hid (res = false) := by
                        unfold Hid
                        rw [← HRES.out]
                        refine closes_not (k := k) (by rw [HP.out]; exact hlt) (okAt_twice hlt2 ?_)
                        unfold apartAt
                        rw [FB3.out.2, FA.out.2.2, hjj]; simp
                      have q2 : ((j3 : Int) == (j : Int)) = true := by simp; omega
                      clear hu hjj
                      go_wp2_with fail
                      try rw [Exit.noGoto_ret]
                      go_ret
                      exact ⟨retb HC.out.symm, BF.out⟩
                    · have HA2 : Hid (∀ i, i < j2 + 1 → apartAt ars p k i = true) := fun i hi => by
                        by_cases e : i = j2
                        · subst e
                          unfold apartAt
                          rw [FB3.out.1, FB3.out.2, FA.out.1, FA.out.2.2, decide_eq_false hu, decide_eq_false (by omega)]; rfl
                        · exact HA.out i (by omega)
                      have q2 : ((j3 : Int) == (j : Int)) = false := by simp; omega
                      clear hu hjj
                      go_wp2_with fail
                      go_roundg (k - (j2 + 1))
                      case measure => omega
                      case rel => exact ⟨j2 + 1, by omega, by omega, rfl, by go_num, HF.out, HA2⟩
              · have HO2 : Hid (∀ i, i < k + 1 → okAt ars p i = true) := fun i hi => by
                  by_cases e : i = k
                  · subst e
                    exact okAt_yes HOK.out (fun j hj => HA.out j (by omega))
                  · exact HO.out i (by omega)
                clear ksx
                have KNX := Lib.hid knx
                clear knx bx hbx
                go_wp2_with fail
                go_roundg (m - (k + 1))
                case measure => omega
                case rel => exact ⟨k + 1, by omega, by omega, rfl, by go_num, BX.out, KNX.out, HO2⟩
          · have hc : res = false := by
              rw [← HRES.out]
              refine closes_not (k := k) (by rw [HP.out]; exact hlt) (okAt_far ?_)
              rw [FA.out.2.1, HP.out, HQE.out, FB.out]
              exact fun h => huv h.symm
            have HC := Lib.hid hc
            have hne : (u' != v) = true := by simpa using huv
            clear hc huv
            go_wp2_with fail
            try rw [Exit.noGoto_ret]
            go_ret
            exact ⟨retb HC.out.symm, BB7.out⟩
    · have hc : res = g0 := by
        rw [← HRES.out, HG0.out]
        by_cases h0 : 0 < m
        · rw [decide_eq_true h0]; exact closes_yes (by rw [HP.out]; exact h0) (fun i hi => HO.out i (by rw [HP.out] at hi; omega))
        · rw [decide_eq_false h0]; unfold closesB; rw [HP.out, decide_eq_false h0]; rfl
      have HC := Lib.hid hc
      clear hc kn
      go_wp2_with fail
      rw [Exit.noGoto_ret]
      go_ret
      exact ⟨retb HC.out.symm, hb⟩
end Go.Proofs.YtpmlljbebdidgaaDoor
