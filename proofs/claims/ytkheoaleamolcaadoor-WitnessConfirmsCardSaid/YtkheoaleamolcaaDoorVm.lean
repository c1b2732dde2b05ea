/-
  pianolaref11.Ends; pianolaref12.Cycle: are steps a cycle.
-/
import Derived.Test.YtkheoaleamolcaaDoorVl
import Derived.Test.YtkheoaleamolcaaDoorVc
import Derived.IntWalk
namespace Go.Proofs.YtkheoaleamolcaaDoor
open Go.RowKit

set_option maxHeartbeats 1000000 in
theorem wEnds_any (n : Int) (ars : List ArcV) (A : Option Addr) (l c i : Nat) (bk : Bool) (a : ArcV) (w : World) (hl : ars.length = l) (hx : ∀ a ∈ ars, a.fit) (hr : Rd w w.heap.size A (cellsA ars)) (ha : ars[i]? = some a) :
    Calls Tryd.prog 36 #[.agg #[.int .i64 n, .slice A l c], .agg #[.int .i64 (i : Nat), .bool bk]] w fun e w' => e = .returned (.tuple #[.int .i64 (if bk = true then a.t else a.f), .int .i64 (if bk = true then a.f else a.t)]) ∧ Below w.heap.size w w' := by
  have hil : i < l := by rw [← hl]; exact (List.getElem?_eq_some_iff.1 ha).1
  have b1 := (Below.refl w.heap.size w).alloc (Nat.le_refl _) (.cells #[.int .i64 n, .slice A l c] 24)
  have b2 := b1.alloc b1.size (.cells #[.int .i64 (i : Nat), .bool bk] 43)
  have k2 := (Blk.new w w.heap.size rfl 24 #[.int .i64 n, .slice A l c]).alloc (.cells #[.int .i64 (i : Nat), .bool bk] 43)
  have s2 := Blk.new (w.alloc (.cells #[.int .i64 n, .slice A l c] 24)) (w.heap.size + 1) (by simp) 43 #[.int .i64 (i : Nat), .bool bk]
  obtain ⟨b, off, a', rfl, hbl, hfa, c0, c1, c2, c3, c4, _, hae⟩ := (hr.below b2 (Nat.le_refl _)).arc (k := i) hx (by omega)
  obtain rfl : a' = a := by have := hae.out; rw [ha] at this; exact (Option.some.inj this).symm
  have h1 : (0 : Int) ≤ (i : Int) := by omega
  have h2 : (i : Int) < (l : Int) := by omega
  clear hae ha
  obtain ⟨W, hW⟩ : ∃ W, (w.alloc (.cells #[.int .i64 n, .slice (some ⟨b, off, none⟩) l c] 24)).alloc (.cells #[.int .i64 (i : Nat), .bool bk] 43) = W := ⟨_, rfl⟩
  rw [hW] at b2 k2 s2 c0 c1 c2 c3 c4
  have n1 := k2.cell 1
  have t0 := s2.cell 0
  have t1 := s2.cell 1
  simp at n1 t0 t1
  have kB := Blk.new W W.heap.size rfl 46 #[.int .i64 a'.f, .int .i64 a'.t, .int .i64 a'.g, .int .i64 a'.k, .int .i64 a'.s]
  have b3 := b2.alloc b2.size (.cells #[.int .i64 a'.f, .int .i64 a'.t, .int .i64 a'.g, .int .i64 a'.k, .int .i64 a'.s] 46)
  have t1' := (s2.alloc (.cells #[.int .i64 a'.f, .int .i64 a'.t, .int .i64 a'.g, .int .i64 a'.k, .int .i64 a'.s] 46)).cell 1
  simp at t1'
  clear b1 k2 s2 hr
  cases bk
  all_goals
    go_enter Tryd.func36, Tryd.ntmps36
    go_upto_region 1 with fail
    try rw [hW]
    clear hW
    go_wp2
    go_quiet (fail)
    go_wp2
    go_ret2
    exact ⟨rfl, Below.drewN b3 _⟩
/-- the step before -/
def prv (m k : Nat) : Nat := if k = 0 then m - 1 else k - 1
theorem prv_lt {m k : Nat} (h : k < m) : prv m k < m := by unfold prv; split <;> omega
theorem prv_next {m k : Nat} (h : k < m) : (prv m k + 1) % m = k := by
  unfold prv
  split
  · rename_i h0; subst h0; rw [show m - 1 + 1 = m by omega, Nat.mod_self]
  · rw [show k - 1 + 1 = k by omega, Nat.mod_eq_of_lt h]
theorem next_prv {m i : Nat} (h : i < m) : prv m ((i + 1) % m) = i := by
  by_cases h1 : i + 1 < m
  · rw [Nat.mod_eq_of_lt h1]; unfold prv; rw [if_neg (by omega)]; omega
  · obtain rfl : i + 1 = m := by omega
    rw [Nat.mod_self]; unfold prv; rw [if_pos rfl]; omega
theorem cyc_chain {ars : List ArcV} {p : List StI} {k : Nat} (hk : k < p.length) (h : fromS ars (at' p k) ≠ toS ars (at' p (prv p.length k))) : (allIn ars.length p && closesB ars p) = false := by
  rw [closes_not (k := prv p.length k) (prv_lt hk) (okAt_far (by rw [prv_next hk]; exact fun he => h he.symm)), Bool.and_false]
theorem cyc_twice {ars : List ArcV} {p : List StI} {k j : Nat} (hk : k < p.length) (hj : j < k) (h : apartAt ars p k j = false) : (allIn ars.length p && closesB ars p) = false := by
  rw [closes_not hk (okAt_twice hj h), Bool.and_false]
theorem cyc_yes {ars : List ArcV} {p : List StI} (h0 : 0 < p.length) (hi : allIn ars.length p = true) (h : ∀ k, k < p.length → fromS ars (at' p k) = toS ars (at' p (prv p.length k)) ∧ ∀ j, j < k → apartAt ars p k j = true) : (allIn ars.length p && closesB ars p) = true := by
  rw [hi, Bool.true_and]
  refine closes_yes h0 fun i hi => okAt_yes ?_ (h i hi).2
  have := (h ((i + 1) % p.length) (Nat.mod_lt _ h0)).1
  rw [next_prv hi] at this
  exact this.symm
theorem cyc_long {ars : List ArcV} {p : List StI} (h : ars.length < p.length) : (allIn ars.length p && closesB ars p) = false := by
  cases h1 : allIn ars.length p with
  | false => rfl
  | true =>
    cases h2 : closesB ars p with
    | false => rfl
    | true => have := closes_le ((closesB_iff ars p).1 h2) h1; omega

set_option maxRecDepth 100000 in
set_option maxHeartbeats 8000000 in
theorem cycle_any (n : Int) (ars : List ArcV) (A : Option Addr) (l c : Nat) (p : List StI) (Ap : Option Addr) (m cp : Nat) (w : World) (hl : ars.length = l) (hx : ∀ a ∈ ars, a.fit) (hr : Rd w w.heap.size A (cellsA ars))
    (hp : p.length = m) (hxp : FitT p) (hrp : Rd w w.heap.size Ap (cellsT p)) (hmp : m ≤ maxLen) :
    Calls Tryd.prog 25 #[.agg #[.int .i64 n, .slice A l c], .slice Ap m cp] w fun e w' => e = .returned (.bool (allIn ars.length p && closesB ars p)) ∧ Below w.heap.size w w' := by
  unfold maxLen at hmp
  obtain ⟨W, hW⟩ : ∃ W, w.alloc (.cells #[.int .i64 n, .slice A l c] 24) = W := ⟨_, rfl⟩
  have bW : Below w.heap.size w W := by subst hW; exact (Below.refl _ _).alloc (Nat.le_refl _) _
  have k0 : Blk W w.heap.size 24 #[.int .i64 n, .slice A l c] := by subst hW; exact Blk.new w _ rfl _ _
  obtain ⟨res, hre⟩ : ∃ r, (allIn ars.length p && closesB ars p) = r := ⟨_, rfl⟩
  rw [hre]
  have HRE := Lib.hid hre
  have f0 := k0.cell 0
  have f1 := k0.cell 1
  simp at f0 f1
  by_cases hm0 : m < 1
  · have d0 : decide ((m : Int) < 1) = true := decide_eq_true (by omega)
    have hres : res = false := by rw [← hre, List.eq_nil_of_length_eq_zero (by omega : p.length = 0)]; rfl
    rw [hres]
    clear hres hre HRE hr hrp hx hxp
    go_enter Tryd.func25, Tryd.ntmps25
    go_wp2_with fail
    try rw [hW]
    go_ret
    exact ⟨rfl, bW⟩
  by_cases hml : l < m
  · have d0 : decide ((m : Int) < 1) = false := decide_eq_false (by omega)
    have d1 : decide ((m : Int) > (l : Int)) = true := decide_eq_true (by omega)
    have hres : res = false := by rw [← hre]; exact cyc_long (by omega)
    rw [hres]
    clear hres hre HRE hr hrp hx hxp
    go_enter Tryd.func25, Tryd.ntmps25
    go_wp2_with fail
    try rw [hW]
    go_wp2_with fail
    go_ret
    exact ⟨rfl, bW⟩
  have d0 : decide ((m : Int) < 1) = false := decide_eq_false (by omega)
  have d1 : decide ((m : Int) > (l : Int)) = false := decide_eq_false (by omega)
  have HX := Lib.hid hx
  have HXP := Lib.hid hxp
  have HL := Lib.hid hl
  have HP := Lib.hid hp
  have HRP := Lib.hid hrp
  have HEN := Lib.hid (fun (q i : Nat) (bk : Bool) (hq : p[q]? = some ((i : Int), bk)) (hi : i < l) (w1 : World) (hb : Below w.heap.size w w1) => by
    obtain ⟨a, ha⟩ : ∃ a, ars[i]? = some a := ⟨_, List.getElem?_eq_getElem (by omega)⟩
    have h := wEnds_any n ars A l c i bk a w1 hl hx ((hr.below hb (Nat.le_refl _)).more hb.size) ha
    rw [← (at_fields hq ha).1, ← (at_fields hq ha).2.1] at h
    exact h)
  clear hre hr hrp hx hxp hl hp
  go_enter Tryd.func25, Tryd.ntmps25
  go_wp2_with fail
  try rw [hW]
  go_wp2_with fail
  have B0 := Lib.hid bW
  have K0 := Lib.hid k0
  clear hW d0 d1 f0 f1 bW k0
  go_loopw [5] (fun i wr => ∃ k : Nat, k ≤ m ∧ i = .int .i64 k ∧ Below w.heap.size w wr ∧ Blk wr w.heap.size 24 #[.int .i64 n, .slice A l c] ∧ Hid (allIn ars.length (p.take k) = true)) (fun i _ => m - (intOf i).toNat)
  case atStart => exact ⟨0, Nat.zero_le _, rfl, B0.out, K0.out, by unfold Hid; simp [allIn]⟩
  case round =>
    clear B0 K0
    obtain ⟨k, hk, rfl, b2, k2, HI⟩ := hrel
    have f1 := k2.cell 1
    simp at f1
    by_cases hlt : k < m
    · obtain ⟨bp, op, x, t, rfl, hbp, hxf, c0, c1, -, hxx⟩ := (HRP.out.below b2 (Nat.le_refl _)).sti HXP.out (k := k) (by rw [HP.out]; exact hlt)
      have hbwr : bp < wr.heap.size := Nat.lt_of_lt_of_le hbp b2.size
      have j1 : (0 : Int) ≤ (k : Int) := by omega
      have j2 : (k : Int) < (m : Int) := by omega
      have B2 := Lib.hid b2
      have K2 := Lib.hid k2
      clear b2 k2
      by_cases hx0 : x < 0
      · have q1 : decide (x < 0) = true := decide_eq_true hx0
        obtain rfl : res = false := by rw [← HRE.out, allIn_not (L := ars.length) hxx.out (by unfold inS; exact decide_eq_false (by show ¬ (0 ≤ x ∧ _); omega))]; rfl
        clear hxx HRE
        go_wp2_with fail
        go_quiet (fail)
        go_wp2_with fail
        go_ret
        exact ⟨rfl, Below.drewN B2.out _⟩
      by_cases hxl : x < (l : Int)
      · have hin : inS ars.length (x, t) = true := by unfold inS; rw [HL.out]; exact decide_eq_true (by show 0 ≤ x ∧ _; omega)
        have q1 : decide (x < 0) = false := decide_eq_false hx0
        have q2 : decide (x ≥ (l : Int)) = false := decide_eq_false (by omega)
        have HI2 : Hid (allIn ars.length (p.take (k + 1)) = true) := by unfold Hid; rw [allIn_take hxx.out, HI.out, hin]; rfl
        clear hin hxx HI
        go_wp2_with fail
        go_quiet (fail)
        go_wp2_with fail
        go_roundw
        case rel => exact ⟨k + 1, by omega, by go_num, Below.drewN B2.out _, K2.out, HI2⟩
        case measure => simp [intOf]; omega
      · have q1 : decide (x < 0) = false := decide_eq_false hx0
        have q2 : decide (x ≥ (l : Int)) = true := decide_eq_true (by omega)
        obtain rfl : res = false := by rw [← HRE.out, allIn_not (L := ars.length) hxx.out (by unfold inS; rw [HL.out]; exact decide_eq_false (by show ¬ (_ ∧ x < _); omega))]; rfl
        clear hxx HRE
        go_wp2_with fail
        go_quiet (fail)
        go_wp2_with fail
        go_ret
        exact ⟨rfl, Below.drewN B2.out _⟩
    · have hkp : p.take k = p := List.take_of_length_le (by rw [HP.out]; omega)
      rw [hkp] at HI
      obtain ⟨M, hMm⟩ : ∃ M, m = M + 1 := ⟨m - 1, by omega⟩
      obtain ⟨bp, op, x, t, rfl, hbp, hxf, c0, c1, -, hxx⟩ := (HRP.out.below b2 (Nat.le_refl _)).sti HXP.out (k := M) (by rw [HP.out]; omega)
      obtain ⟨j, rfl, hj⟩ := allIn_get HI.out hxx.out
      rw [HL.out] at hj
      have hbwr : bp < wr.heap.size := Nat.lt_of_lt_of_le hbp b2.size
      have HE := Lib.hid (HEN.out M j t hxx.out hj)
      obtain ⟨u, hu⟩ : ∃ u, fromS ars (at' p M) = u := ⟨_, rfl⟩
      obtain ⟨v, hv⟩ : ∃ v, toS ars (at' p M) = v := ⟨_, rfl⟩
      rw [hu, hv] at HE
      have HV := Lib.hid hv
      have f0 := k2.cell 0
      simp at f0
      have BW := Lib.hid b2
      have K2 := Lib.hid k2
      have hlw := k2.lt
      have hM0 : (m : Int) - 1 = (M : Int) := by omega
      have hM3 : IntKind.i64.wrap (M : Int) = (M : Int) := by rw [IntKind.wrap_i64]; omega
      have HMm := Lib.hid hMm
      have HPOS := Lib.hid (show 0 < m by omega)
      have j1 : (0 : Int) ≤ (M : Int) := by omega
      have j2 : (M : Int) < (m : Int) := by omega
      clear hkp hu hv hxx b2 k2 hm0 hMm
      go_upto_region 8 with fail
      go_cut [6, 7] (fun s6 s7 wx => s6 = .int .i64 u ∧ s7 = .int .i64 v ∧ Below wr.heap.size wr wx)
      case first =>
        go_region_held3 (fun w' => w'.cell? ⟨w.heap.size, 0, none⟩ = some (.int .i64 n) ∧ w'.cell? ⟨w.heap.size, 1, none⟩ = some (.slice A l c) ∧ w'.cell? ⟨bp, op + M * 2, none⟩ = some (.int .i64 (j : Nat)) ∧ w'.cell? ⟨bp, op + M * 2 + 1, none⟩ = some (.bool t))
          (go_keep)
          (first
            | (go_at_call 36; refine (HE.out _ (Below.drewN BW.out 1)).mono ?_; rintro e' w4 ⟨rfl, hb4⟩; have q0 : w4.cell? ⟨w.heap.size, 0, none⟩ = some (.int .i64 n) := (hb4.cell (p := ⟨w.heap.size, 0, none⟩) (by simp; omega)).trans (by simp [*]); have q1 : w4.cell? ⟨w.heap.size, 1, none⟩ = some (.slice A l c) := (hb4.cell (p := ⟨w.heap.size, 1, none⟩) (by simp; omega)).trans (by simp [*]); have q2 : w4.cell? ⟨bp, op + M * 2, none⟩ = some (.int .i64 (j : Nat)) := (hb4.cell (p := ⟨bp, op + M * 2, none⟩) (by simp; omega)).trans (by simp [*]); have q3 : w4.cell? ⟨bp, op + M * 2 + 1, none⟩ = some (.bool t) := (hb4.cell (p := ⟨bp, op + M * 2 + 1, none⟩) (by simp; omega)).trans (by simp [*])))
        go_wp2
        go_meet
        have hbx : Below wr.heap.size wr w4 := (Below.drewN (Below.refl _ wr) 1).trans hb4
        exact ⟨rfl, rfl, hbx⟩
      case rest =>
        obtain ⟨rfl, rfl, hb3⟩ := hcut
        have b3 := BW.out.trans (hb3.mono BW.out.size)
        have K3 := Lib.hid (K2.out.lowr hb3 hlw)
        have B3 := Lib.hid b3
        clear hM0 hM3 HE c0 c1 f0 f1 j1 j2 hb3 b3 hlw K2 BW hbwr hj hxf
        go_wp2_with fail
        go_loopw [7, 8, 9, 10, 11, 12, 13] (fun s7 i _ _ _ _ _ wx => ∃ k : Nat, k ≤ m ∧ i = .int .i64 k ∧ s7 = .int .i64 (toS ars (at' p (prv m k))) ∧ Below w.heap.size w wx ∧ Blk wx w.heap.size 24 #[.int .i64 n, .slice A l c] ∧ Hid (∀ q, q < k → fromS ars (at' p q) = toS ars (at' p (prv m q)) ∧ ∀ j, j < q → apartAt ars p q j = true)) (fun _ i _ _ _ _ _ _ => m - (intOf i).toNat)
        case atStart => exact ⟨0, Nat.zero_le _, rfl, by rw [show prv m 0 = M from by unfold prv; rw [if_pos rfl, HMm.out]; rfl, HV.out], B3.out, K3.out, fun q hq => absurd hq (Nat.not_lt_zero _)⟩
        case round =>
          clear K3 B3 HV HMm hk hlt
          obtain ⟨k2, hk2, rfl, rfl, b4, k4, HC⟩ := hrel
          have f0 := k4.cell 0
          have f1 := k4.cell 1
          simp at f0 f1
          have hlw := k4.lt
          have BW := Lib.hid b4
          have K4 := Lib.hid k4
          obtain ⟨av, hav⟩ : ∃ v, toS ars (at' p (prv m k2)) = v := ⟨_, rfl⟩
          rw [hav]
          have HAV := Lib.hid hav
          clear k4 hav
          by_cases hlt2 : k2 < m
          · obtain ⟨bp', op', x2, t2, hA, -, -, c0, c1, -, hxx⟩ := HRP.out.sti HXP.out (k := k2) (by rw [HP.out]; exact hlt2)
            obtain ⟨rfl, rfl⟩ : bp = bp' ∧ op = op' := by injection hA with h; injection h with h h'; exact ⟨h, h'⟩
            obtain ⟨j2, rfl, hj2⟩ := allIn_get HI.out hxx.out
            rw [HL.out] at hj2
            have hbwr : bp < wr.heap.size := Nat.lt_of_lt_of_le hbp b4.size
            have CK := Lib.hid (fun (w1 : World) (hb : Below w.heap.size w w1) => (hb.cell (p := ⟨bp, op + k2 * 2, none⟩) hbp).trans c0)
            have c0 := CK.out wr b4
            have c1 := (b4.cell (p := ⟨bp, op + k2 * 2 + 1, none⟩) hbp).trans c1
            have HE := Lib.hid (HEN.out k2 j2 t2 hxx.out hj2)
            have HXX := Lib.hid (at'_some hxx.out)
            obtain ⟨u2, hu⟩ : ∃ u, fromS ars (at' p k2) = u := ⟨_, rfl⟩
            obtain ⟨v2, hv⟩ : ∃ v, toS ars (at' p k2) = v := ⟨_, rfl⟩
            rw [hu, hv] at HE
            have HU := Lib.hid hu
            have HV := Lib.hid hv
            have i1 : (0 : Int) ≤ (k2 : Int) := by omega
            have i2 : (k2 : Int) < (m : Int) := by omega
            clear hA hu hv hxx b4
            go_upto_region 12 with fail
            go_cut [9, 10] (fun s9 s10 wx => s9 = .int .i64 u2 ∧ s10 = .int .i64 v2 ∧ Below wr.heap.size wr wx)
            case first =>
              go_region_held3 (fun w' => w'.cell? ⟨w.heap.size, 0, none⟩ = some (.int .i64 n) ∧ w'.cell? ⟨w.heap.size, 1, none⟩ = some (.slice A l c) ∧ w'.cell? ⟨bp, op + k2 * 2, none⟩ = some (.int .i64 (j2 : Nat)) ∧ w'.cell? ⟨bp, op + k2 * 2 + 1, none⟩ = some (.bool t2))
                (go_keep)
                (first
                  | (go_at_call 36; refine (HE.out _ (Below.drewN BW.out 1)).mono ?_; rintro e' w4 ⟨rfl, hb4⟩; have q0 : w4.cell? ⟨w.heap.size, 0, none⟩ = some (.int .i64 n) := (hb4.cell (p := ⟨w.heap.size, 0, none⟩) (by simp; omega)).trans (by simp [*]); have q1 : w4.cell? ⟨w.heap.size, 1, none⟩ = some (.slice A l c) := (hb4.cell (p := ⟨w.heap.size, 1, none⟩) (by simp; omega)).trans (by simp [*]); have q2 : w4.cell? ⟨bp, op + k2 * 2, none⟩ = some (.int .i64 (j2 : Nat)) := (hb4.cell (p := ⟨bp, op + k2 * 2, none⟩) (by simp; omega)).trans (by simp [*]); have q3 : w4.cell? ⟨bp, op + k2 * 2 + 1, none⟩ = some (.bool t2) := (hb4.cell (p := ⟨bp, op + k2 * 2 + 1, none⟩) (by simp; omega)).trans (by simp [*])))
              go_wp2
              go_meet
              have hbx : Below wr.heap.size wr w4 := (Below.drewN (Below.refl _ wr) 1).trans hb4
              exact ⟨rfl, rfl, hbx⟩
            case rest =>
              obtain ⟨rfl, rfl, hb5⟩ := hcut
              obtain ⟨w5, rfl⟩ : ∃ w1 : World, w1 = wc := ⟨_, rfl⟩
              have b5 := BW.out.trans (hb5.mono BW.out.size)
              have K5 := Lib.hid (K4.out.lowr hb5 hlw)
              have B5 := Lib.hid b5
              clear hb5 b5 f0 f1 c0 c1 HE hlw hbwr BW K4
              by_cases hua : ¬ u2 = av
              · have q1 : (u2 != av) = true := by simpa using hua
                have q2 : decide (u2 = av) = false := decide_eq_false hua
                obtain rfl : res = false := by rw [← HRE.out]; exact cyc_chain (k := k2) (by rw [HP.out]; exact hlt2) (by rw [HP.out, HU.out, HAV.out]; exact hua)
                clear HRE
                go_wp2_with fail
                go_ret
                exact ⟨rfl, B5.out⟩
              · obtain rfl : u2 = av := Decidable.not_not.1 hua
                have q1 : (u2 != u2) = false := by simp
                clear hua
                go_wp2_with fail
                go_loopw [11, 12, 13] (fun j _ _ wx => ∃ q : Nat, q ≤ k2 ∧ j = .int .i64 q ∧ Below w.heap.size w wx ∧ Blk wx w.heap.size 24 #[.int .i64 n, .slice A l c] ∧ Hid (∀ r, r < q → apartAt ars p k2 r = true)) (fun j _ _ _ => k2 - (intOf j).toNat)
                case atStart => exact ⟨0, Nat.zero_le _, rfl, B5.out, K5.out, fun r hr => absurd hr (Nat.not_lt_zero _)⟩
                case round =>
                  clear K5 B5
                  obtain ⟨q, hq, rfl, b6, k6, HD⟩ := hrel
                  have f0 := k6.cell 0
                  have f1 := k6.cell 1
                  simp at f0 f1
                  have hlw := k6.lt
                  have BW := Lib.hid b6
                  have K6 := Lib.hid k6
                  clear k6
                  by_cases hlt3 : q < k2
                  · obtain ⟨bp', op', x3, t3, hA, -, -, c0, c1, -, hxx⟩ := HRP.out.sti HXP.out (k := q) (by rw [HP.out]; omega)
                    obtain ⟨rfl, rfl⟩ : bp = bp' ∧ op = op' := by injection hA with h; injection h with h h'; exact ⟨h, h'⟩
                    obtain ⟨j3, rfl, hj3⟩ := allIn_get HI.out hxx.out
                    rw [HL.out] at hj3
                    have hbwr : bp < wr.heap.size := Nat.lt_of_lt_of_le hbp b6.size
                    have CQ := Lib.hid (fun (w1 : World) (hb : Below w.heap.size w w1) => (hb.cell (p := ⟨bp, op + q * 2, none⟩) hbp).trans c0)
                    have c0 := CQ.out wr b6
                    have c1 := (b6.cell (p := ⟨bp, op + q * 2 + 1, none⟩) hbp).trans c1
                    have HE := Lib.hid (HEN.out q j3 t3 hxx.out hj3)
                    have HXQ := Lib.hid (at'_some hxx.out)
                    obtain ⟨u3, hu⟩ : ∃ u, fromS ars (at' p q) = u := ⟨_, rfl⟩
                    obtain ⟨v3, hv⟩ : ∃ v, toS ars (at' p q) = v := ⟨_, rfl⟩
                    rw [hu, hv] at HE
                    have HU3 := Lib.hid hu
                    have i3 : (0 : Int) ≤ (q : Int) := by omega
                    have i4 : (q : Int) < (m : Int) := by omega
                    clear hA hu hv hxx b6
                    go_upto_region 19 with fail
                    go_cut [12, 13] (fun s12 s13 wx => s12 = .int .i64 u3 ∧ s13 = .int .i64 v3 ∧ Below wr.heap.size wr wx)
                    case first =>
                      go_region_held3 (fun w' => w'.cell? ⟨w.heap.size, 0, none⟩ = some (.int .i64 n) ∧ w'.cell? ⟨w.heap.size, 1, none⟩ = some (.slice A l c) ∧ w'.cell? ⟨bp, op + q * 2, none⟩ = some (.int .i64 (j3 : Nat)) ∧ w'.cell? ⟨bp, op + q * 2 + 1, none⟩ = some (.bool t3))
                        (go_keep)
                        (first
                          | (go_at_call 36; refine (HE.out _ (Below.drewN BW.out 1)).mono ?_; rintro e' w4 ⟨rfl, hb4⟩; have q0 : w4.cell? ⟨w.heap.size, 0, none⟩ = some (.int .i64 n) := (hb4.cell (p := ⟨w.heap.size, 0, none⟩) (by simp; omega)).trans (by simp [*]); have q1 : w4.cell? ⟨w.heap.size, 1, none⟩ = some (.slice A l c) := (hb4.cell (p := ⟨w.heap.size, 1, none⟩) (by simp; omega)).trans (by simp [*]); have q2 : w4.cell? ⟨bp, op + q * 2, none⟩ = some (.int .i64 (j3 : Nat)) := (hb4.cell (p := ⟨bp, op + q * 2, none⟩) (by simp; omega)).trans (by simp [*]); have q3 : w4.cell? ⟨bp, op + q * 2 + 1, none⟩ = some (.bool t3) := (hb4.cell (p := ⟨bp, op + q * 2 + 1, none⟩) (by simp; omega)).trans (by simp [*])))
                      go_wp2
                      go_meet
                      have hbx : Below wr.heap.size wr w4 := (Below.drewN (Below.refl _ wr) 1).trans hb4
                      exact ⟨rfl, rfl, hbx⟩
                    case rest =>
                      obtain ⟨rfl, rfl, hb7⟩ := hcut
                      obtain ⟨w7, rfl⟩ : ∃ w1 : World, w1 = wc := ⟨_, rfl⟩
                      have b7 := BW.out.trans (hb7.mono BW.out.size)
                      have K7 := Lib.hid (K6.out.lowr hb7 hlw)
                      have B7 := Lib.hid b7
                      have c0 := CQ.out w7 b7
                      have c1 := CK.out w7 b7
                      have hbw7 : bp < w7.heap.size := Nat.lt_of_lt_of_le hbp b7.size
                      have hap : apartAt ars p k2 q = !(decide (u3 = u2) || decide ((j3 : Int) = (j2 : Int))) := by unfold apartAt; rw [HU3.out, HU.out, HXQ.out, HXX.out]
                      clear hb7 b7 f0 f1 HE hlw hbwr BW K6
                      by_cases h1 : (j3 : Int) = (j2 : Int)
                      · have d1 : ((j3 : Int) == (j2 : Int)) = true := by simp [h1]
                        have d2 : decide ((j3 : Int) = (j2 : Int)) = true := decide_eq_true h1
                        obtain rfl : res = false := by rw [← HRE.out]; exact cyc_twice (k := k2) (by rw [HP.out]; exact hlt2) hlt3 (by rw [hap, d2, Bool.or_true]; rfl)
                        clear HRE hap h1
                        go_wp2_with fail
                        go_quiet (fail)
                        go_wp2_with fail
                        go_ret
                        exact ⟨rfl, Below.drewN B7.out _⟩
                      have d1 : ((j3 : Int) == (j2 : Int)) = false := by simpa using h1
                      have d2 : decide ((j3 : Int) = (j2 : Int)) = false := decide_eq_false h1
                      by_cases h2 : u3 = u2
                      · have d3 : (u3 == u2) = true := by simp [h2]
                        have d4 : decide (u3 = u2) = true := decide_eq_true h2
                        obtain rfl : res = false := by rw [← HRE.out]; exact cyc_twice (k := k2) (by rw [HP.out]; exact hlt2) hlt3 (by rw [hap, d4]; rfl)
                        clear HRE hap h1 h2
                        go_wp2_with fail
                        go_quiet (fail)
                        go_wp2_with fail
                        go_ret
                        exact ⟨rfl, Below.drewN B7.out _⟩
                      have d3 : (u3 == u2) = false := by simpa using h2
                      have d4 : decide (u3 = u2) = false := decide_eq_false h2
                      have HD2 : Hid (∀ r, r < q + 1 → apartAt ars p k2 r = true) := by
                        intro r hr
                        by_cases hrq : r < q
                        · exact HD.out r hrq
                        · obtain rfl : r = q := by omega
                          rw [hap, d4, d2]; rfl
                      clear hap h1 h2 HD
                      go_wp2_with fail
                      go_quiet (fail)
                      go_wp2_with fail
                      go_roundw
                      case rel => exact ⟨q + 1, by omega, by go_num, Below.drewN B7.out _, K7.out, HD2⟩
                      case measure => simp [intOf]; omega
                  · obtain rfl : q = k2 := by omega
                    have HC2 : Hid (∀ r, r < q + 1 → fromS ars (at' p r) = toS ars (at' p (prv m r)) ∧ ∀ j, j < r → apartAt ars p r j = true) := by
                      intro r hr
                      by_cases hrq : r < q
                      · exact HC.out r hrq
                      · obtain rfl : r = q := by omega
                        exact ⟨HU.out.trans HAV.out.symm, HD.out⟩
                    have hpv : prv m (q + 1) = q := by unfold prv; rw [if_neg (by omega)]; rfl
                    have HPV := Lib.hid hpv
                    clear hpv HC HD f0 f1
                    go_wp2_with fail
                    go_roundw
                    case rel => exact ⟨q + 1, by omega, by go_num, by rw [HPV.out, HV.out], BW.out, K6.out, HC2⟩
                    case measure => simp [intOf]; omega
          · obtain rfl : k2 = m := by omega
            obtain rfl : res = true := by rw [← HRE.out]; exact cyc_yes (by rw [HP.out]; exact HPOS.out) HI.out (by rw [HP.out]; exact HC.out)
            clear HRE HC f0 f1
            go_wp2_with fail
            go_ret
            exact ⟨rfl, BW.out⟩
end Go.Proofs.YtkheoaleamolcaaDoor
