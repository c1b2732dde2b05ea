/-
  BalanceLeast: the counts balance, and whatever balances is a whole multiple of them.
-/
import Derived.Test.YtlpmnhllnfhkdaaDoorYw
namespace Go.Proofs.YtlpmnhllnfhkdaaDoor
open Go.RowKit

set_option maxRecDepth 100000 in
set_option maxHeartbeats 4000000 in
theorem times13_any (n : Nat) (ars : List ArcV) (S : Nat → Nat) (xs : List Int) (A X Y : Option Addr) (l c cx cy : Nat) (w : World) (hl : ars.length = l) (hx : ∀ a ∈ ars, a.fit) (hr : Rd w w.heap.size A (cellsA ars)) (hc : checkF n ars = 0) (hS : Bal n ars S)
    (hxl : xs.length = n) (hxs : ∀ v, v < n → xs[v]? = some (S v : Int)) (hrX : Rd w w.heap.size X (cellsI xs)) (hrY : Rd w w.heap.size Y (cellsI (rowN n fun v => (cR n ars v : Int)))) :
    Calls Tryd.prog 24 #[.agg #[.int .i64 n, .slice A l c], .slice X n cx, .slice Y n cy] w fun e w' => e = .returned (.bool true) ∧ Below w.heap.size w w' := by
  obtain ⟨hn1, hn2, h96, -⟩ := checkF_ok hc
  rw [hl] at h96
  have C := ctx_at hc
  have hfx : AllFit xs := by
    intro x hxm
    obtain ⟨v, hv⟩ := List.getElem?_of_mem hxm
    have hvl := (List.getElem?_eq_some_iff.1 hv).1
    have h1 := hxs v (by omega)
    rw [hv] at h1
    injection h1 with h1
    have := hS.1 v (by omega)
    unfold fits; omega
  have hfy : AllFit (rowN n fun v => (cR n ars v : Int)) := rowN_fit (steady_of hc hS).1
  go_enter Tryd.func24, Tryd.ntmps24
  go_upto_region 1 with fail
  obtain ⟨W0, hW0⟩ : ∃ W, w.alloc (.cells #[.int .i64 n, .slice A l c] 24) = W := ⟨_, rfl⟩
  have BW := (Below.refl w.heap.size w).alloc (Nat.le_refl _) (.cells #[.int .i64 n, .slice A l c] 24)
  have kn := Blk.new w _ rfl 24 #[.int .i64 n, .slice A l c]
  rw [hW0] at BW kn ⊢
  have hrA := (hr.below BW (Nat.le_refl _)).more BW.size
  have hrX0 := (hrX.below BW (Nat.le_refl _)).more BW.size
  have hrY0 := (hrY.below BW (Nat.le_refl _)).more BW.size
  have HW := Lib.hid BW
  obtain ⟨bn, hbn⟩ : ∃ b, w.heap.size = b := ⟨_, rfl⟩
  rw [hbn] at kn ⊢
  clear hW0 BW hr hrX hrY hbn
  go_wp2_with fail
  go_loopw [7] (fun i wr => ∃ k : Nat, k ≤ n ∧ i = .int .i64 k ∧ Below W0.heap.size W0 wr) (fun i _ => n - (intOf i).toNat)
  case atStart => exact ⟨0, Nat.zero_le _, rfl, Below.refl _ _⟩
  case round =>
    obtain ⟨k, hk, rfl, B1⟩ := hrel
    have n0 := (kn.below B1 kn.lt).cell 0
    simp at n0
    by_cases hkn : k < n
    · obtain ⟨bx, ox, x, rfl, hbx, hfx', x0, -, hxat⟩ := (hrX0.below B1 (Nat.le_refl _)).at_ (k := k) hfx (by omega)
      obtain ⟨by_, oy, y, rfl, hby, hfy', y0, -, hyat⟩ := (hrY0.below B1 (Nat.le_refl _)).at_ (k := k) hfy (by rw [rowN_length]; omega)
      obtain rfl : x = (S k : Int) := by have := hxat.out; rw [hxs k hkn] at this; exact (Option.some.inj this).symm
      obtain rfl : y = (cR n ars k : Int) := by have := hyat.out; rw [rowN_at hkn] at this; exact (Option.some.inj this).symm
      obtain ⟨m, hm1, hm2⟩ := bal_node hc hS hkn
      have hp := C.ri.pos k
      have hsz := (hS.1 k hkn).2
      have q0 : ((cR n ars k : Nat) : Int).tmod 1 = 0 := by simp
      have q1 : (S k : Int).tmod (cR n ars k : Nat) = 0 := by rw [hm2, Int.natCast_mul]; exact Int.mul_tmod_left _ _
      obtain ⟨r, hr⟩ : ∃ r, cR n ars k = r := ⟨_, rfl⟩
      obtain ⟨s, hs⟩ : ∃ r, S k = r := ⟨_, rfl⟩
      rw [hr] at y0 hp q1
      rw [hs] at x0 q1
      have q2 : decide ((r : Int) < 1) = false := decide_eq_false (by omega)
      have q3 : ((r : Int) == 0) = false := by simp; omega
      have q4 : ¬ (r : Int) = 0 := by omega
      have q5 : decide (r < 1) = false := decide_eq_false (by omega)
      have i1 : (0 : Int) ≤ (k : Int) := by omega
      have i2 : (k : Int) < (n : Int) := by omega
      have BK := Lib.hid B1
      clear hxat hyat hfx' hfy' hm2 hr hs q0 B1
      go_upto_region 4 with fail
      go_cut [32] (fun s32 wx => s32 = .bool false ∧ Drawn wr wx)
      case first =>
        go_region
        go_wp2
        go_meet
        exact ⟨rfl, (Drawn.refl wr).drewN 1⟩
      case rest =>
        obtain ⟨rfl, hdr⟩ := hcut
        have B2 := BK.out.trans (hdr.below W0.heap.size)
        clear hdr x0 y0 q1 q2 q3 q4 q5 i1 i2 n0 BK
        go_wp2_with fail
        go_roundw
        case rel => exact ⟨k + 1, by omega, by go_num, B2⟩
        case measure => simp [intOf]; omega
    · obtain rfl : n = k := by omega
      have HB := Lib.hid B1
      have hrA1 := (hrA.below B1 (Nat.le_refl _)).more B1.size
      have hrX1 := (hrX0.below B1 (Nat.le_refl _)).more B1.size
      have hrY1 := (hrY0.below B1 (Nat.le_refl _)).more B1.size
      have kn1 := kn.below B1 kn.lt
      obtain ⟨W1, hW1⟩ : ∃ W, W = wr := ⟨_, rfl⟩
      rw [← hW1] at HB hrA1 hrX1 hrY1 kn1 n0 ⊢
      clear hW1 B1 kn hrA hrX0 hrY0 hkn hk
      go_wp2_with fail
      clear n0
      go_loopw [8] (fun i wr => ∃ k : Nat, k ≤ l ∧ i = .int .i64 k ∧ Below W1.heap.size W1 wr) (fun i _ => l - (intOf i).toNat)
      case atStart => exact ⟨0, Nat.zero_le _, rfl, Below.refl _ _⟩
      case round =>
        obtain ⟨k, hk, rfl, B1⟩ := hrel
        have n1 := (kn1.below B1 kn1.lt).cell 1
        simp at n1
        by_cases hkl : k < l
        · obtain ⟨b0, off, a, rfl, hbl, hfa, c0, c1, c2, c3, c4, -, hat⟩ := (hrA1.below B1 (Nat.le_refl _)).arc (k := k) hx (by omega)
          have hma := List.mem_of_getElem? hat.out
          have hab := C.arc a hma
          obtain ⟨m, hm1, hm2, hm3⟩ := bal_arc hc hS hma
          have hp1 := C.ri.pos a.f.toNat
          have hp2 := C.ri.pos a.t.toNat
          obtain ⟨f, hf⟩ : ∃ f : Nat, a.f = f := ⟨a.f.toNat, by omega⟩
          obtain ⟨t, ht⟩ : ∃ t : Nat, a.t = t := ⟨a.t.toNat, by omega⟩
          have hfl : f < n := by omega
          have htl : t < n := by omega
          rw [hf, Int.toNat_natCast] at hm2 hp1
          rw [ht, Int.toNat_natCast] at hm3 hp2
          rw [hf] at c0
          rw [ht] at c1
          have sf := hS.1 f hfl
          have st := hS.1 t htl
          obtain ⟨g, hg⟩ : ∃ g, a.g = g := ⟨_, rfl⟩
          obtain ⟨kk, hk'⟩ : ∃ g, a.k = g := ⟨_, rfl⟩
          obtain ⟨sk, hs'⟩ : ∃ g, a.s = g := ⟨_, rfl⟩
          rw [hg] at c2
          rw [hk'] at c3
          rw [hs'] at c4
          have B2 := B1.alloc B1.size (.cells #[.int .i64 f, .int .i64 t, .int .i64 g, .int .i64 kk, .int .i64 sk] 44)
          have ka := Blk.new wr _ rfl 44 #[.int .i64 f, .int .i64 t, .int .i64 g, .int .i64 kk, .int .i64 sk]
          obtain ⟨W2, hW2⟩ : ∃ W, wr.alloc (.cells #[.int .i64 f, .int .i64 t, .int .i64 g, .int .i64 kk, .int .i64 sk] 44) = W := ⟨_, rfl⟩
          obtain ⟨ga, hga⟩ : ∃ g, wr.heap.size = g := ⟨_, rfl⟩
          rw [hW2] at B2 ka
          rw [hga] at ka
          obtain ⟨bx, ox, x, rfl, hbx, hfx', x0, -, hxat⟩ := (hrX1.below B2 (Nat.le_refl _)).at_ (k := f) hfx (by omega)
          obtain ⟨by_, oy, y, rfl, hby, hfy', y0, -, hyat⟩ := (hrY1.below B2 (Nat.le_refl _)).at_ (k := f) hfy (by rw [rowN_length]; omega)
          obtain rfl : x = (S f : Int) := by have := hxat.out; rw [hxs f hfl] at this; exact (Option.some.inj this).symm
          obtain rfl : y = (cR n ars f : Int) := by have := hyat.out; rw [rowN_at hfl] at this; exact (Option.some.inj this).symm
          have x1 := rd_repAt (f := t) (hrX1.below B2 (Nat.le_refl _)) (by omega)
          have y1 := rd_repAt (f := t) (hrY1.below B2 (Nat.le_refl _)) (by rw [rowN_length]; omega)
          unfold repAt at x1 y1
          rw [Int.toNat_natCast, hxs t htl] at x1
          rw [Int.toNat_natCast, rowN_at htl] at y1
          simp only [Option.getD_some] at x1 y1
          have qf : (S f : Int).tdiv (cR n ars f : Nat) = (m : Int) := by rw [hm2, Int.natCast_mul]; exact Int.mul_tdiv_cancel _ (by omega)
          have qt : (S t : Int).tdiv (cR n ars t : Nat) = (m : Int) := by rw [hm3, Int.natCast_mul]; exact Int.mul_tdiv_cancel _ (by omega)
          have hm4 : m ≤ 4096 := by
            have h1 : m * 1 ≤ m * cR n ars f := Nat.mul_le_mul_left _ hp1
            omega
          obtain ⟨rf, hrf⟩ : ∃ r, cR n ars f = r := ⟨_, rfl⟩
          obtain ⟨rt, hrt⟩ : ∃ r, cR n ars t = r := ⟨_, rfl⟩
          obtain ⟨vf, hvf⟩ : ∃ r, S f = r := ⟨_, rfl⟩
          obtain ⟨vt, hvt⟩ : ∃ r, S t = r := ⟨_, rfl⟩
          rw [hrf] at y0 hp1 qf
          rw [hrt] at y1 hp2 qt
          rw [hvf] at x0 qf sf
          rw [hvt] at x1 qt st
          have d0 := ka.cell 0
          have d1 := ka.cell 1
          simp at d0 d1
          have q1 : ((rf : Int) == 0) = false := by simp; omega
          have q2 : ((rt : Int) == 0) = false := by simp; omega
          have q3 : ¬ (rf : Int) = 0 := by omega
          have q4 : ¬ (rt : Int) = 0 := by omega
          have i1 : (0 : Int) ≤ (k : Int) := by omega
          have i2 : (k : Int) < (l : Int) := by omega
          have i3 : (0 : Int) ≤ (f : Int) := by omega
          have i4 : (f : Int) < (n : Int) := by omega
          have i5 : (0 : Int) ≤ (t : Int) := by omega
          have i6 : (t : Int) < (n : Int) := by omega
          have B3 := Lib.hid B2
          clear hxat hyat hfx' hfy' hm2 hm3 hrf hrt hvf hvt hat hma hab hf ht hg hk' hs' hfa ka B1 B2
          go_upto_region 10 with fail
          try rw [hga]
          try rw [hW2]
          clear hga hW2 c0 c1 c2 c3 c4 n1
          go_cut [67] (fun s67 wx => s67 = .bool false ∧ Drawn W2 wx)
          case first =>
            go_quiet (fail)
            go_wp2
            go_meet
            exact ⟨rfl, (Drawn.refl W2).drewN _⟩
          case rest =>
            obtain ⟨rfl, hdr⟩ := hcut
            have B4 := B3.out.trans (hdr.below W1.heap.size)
            clear hdr x0 y0 x1 y1 q1 q2 q3 q4 i1 i2 i3 i4 i5 i6 d0 d1 B3 qf qt
            go_wp2_with fail
            go_roundw
            case rel => exact ⟨k + 1, by omega, by go_num, B4⟩
            case measure => simp [intOf]; omega
        · obtain rfl : l = k := by omega
          have HB2 := Lib.hid (HW.out.trans ((HB.out.mono HW.out.size).trans (B1.mono (Nat.le_trans HW.out.size HB.out.size))))
          clear B1
          go_wp2_with fail
          go_ret
          exact ⟨rfl, HB2.out⟩
end Go.Proofs.YtlpmnhllnfhkdaaDoor
