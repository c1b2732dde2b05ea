/-
  WitnessDenies: it answers true.
-/
import Derived.Test.YtkheoaleamolcaaDoorVi
import Derived.Test.YtkheoaleamolcaaDoorVf
import Derived.StillTailTactics
namespace Go.Proofs.YtkheoaleamolcaaDoor
open Go.RowKit

def evB (ars : List ArcV) (rs : List Int) (s : StI) : Bool := decide ((arcOf ars s).g * rs.getD (arcOf ars s).f.toNat 0 = (arcOf ars s).k * rs.getD (arcOf ars s).t.toNat 0)
theorem prodZ_mul (u v : StI → Int) : ∀ p : List StI, prodZ (p.map fun s => u s * v s) = prodZ (p.map u) * prodZ (p.map v)
  | [] => rfl
  | s :: p => by
    simp only [List.map_cons, prodZ_cons]
    rw [prodZ_mul u v p, Int.mul_assoc, Int.mul_assoc]
    congr 1
    rw [← Int.mul_assoc, Int.mul_comm (v s), Int.mul_assoc]
theorem prodZ_pos : ∀ l : List Int, (∀ x ∈ l, 1 ≤ x) → 1 ≤ prodZ l
  | [], _ => by decide
  | x :: l, h => by
    rw [prodZ_cons]
    have h1 := h x (List.mem_cons_self ..)
    have h2 := prodZ_pos l (fun y hy => h y (List.mem_cons_of_mem _ hy))
    have := Int.mul_le_mul h1 h2 (by omega) (by omega)
    omega
theorem arcOf_mem {ars : List ArcV} {p : List StI} (hi : allIn ars.length p = true) : ∀ s ∈ p, arcOf ars s ∈ ars := by
  intro s hs
  have := List.all_eq_true.1 hi s hs
  unfold inS at this
  have := of_decide_eq_true this
  unfold arcOf
  rw [List.getD_eq_getElem?_getD, List.getElem?_eq_getElem (by omega)]
  exact List.getElem_mem _
theorem denies_law {n : Int} {ars : List ArcV} {p : List StI} {rs : List Int} (hc : confirmF n ars p = 0) (hpos : ∀ x ∈ rs, 1 ≤ x) (hn : n ≤ (rs.length : Int)) : p.all (evB ars rs) = false := by
  rw [Bool.eq_false_iff]
  intro hall
  unfold confirmF at hc
  split at hc
  · rename_i h; exact h hc
  · rename_i h0
    have h0 : checkF n ars = 0 := Decidable.not_not.1 h0
    split at hc
    · rename_i h1
      rw [Bool.and_eq_true] at h1
      obtain ⟨hi, hcl⟩ := h1
      obtain ⟨-, hch, -, -⟩ := (closesB_iff ars p).1 hcl
      split at hc
      · cases hc
      · rename_i hne
        refine hne ?_
        obtain ⟨-, -, -, hb⟩ := checkF_ok h0
        have hm := arcOf_mem hi
        let R : Int → Int := fun x => rs.getD x.toNat 0
        have hR : ∀ x : Int, 0 ≤ x → x < n → 1 ≤ R x := fun x h1 h2 => by
          show 1 ≤ rs.getD x.toNat 0
          rw [List.getD_eq_getElem?_getD, List.getElem?_eq_getElem (by omega)]
          exact hpos _ (List.getElem_mem _)
        have key : p.map (fun s => giveS ars s * R (fromS ars s)) = p.map (fun s => takeS ars s * R (toS ars s)) := by
          refine List.map_congr_left fun s hs => ?_
          have he := of_decide_eq_true (List.all_eq_true.1 hall s hs)
          unfold giveS takeS fromS toS
          cases s.2 with
          | false => exact he
          | true => exact he.symm
        have e := congrArg prodZ key
        rw [prodZ_mul, prodZ_mul] at e
        have e2 : prodZ (p.map fun s => R (toS ars s)) = prodZ (p.map fun s => R (fromS ars s)) := by
          have q1 : (p.map fun s => R (toS ars s)) = (p.map (toS ars)).map R := by rw [List.map_map]; rfl
          have q2 : (p.map fun s => R (fromS ars s)) = (p.map (fromS ars)).map R := by rw [List.map_map]; rfl
          rw [q1, q2, hch, rot1_map]
          exact prodZ_perm (rot1_perm _)
        rw [e2] at e
        have hp := prodZ_pos (p.map fun s => R (fromS ars s)) (fun x hx => by
          obtain ⟨s, hs, rfl⟩ := List.mem_map.1 hx
          have := hb _ (hm s hs)
          unfold fromS
          split
          · exact hR _ (by omega) (by omega)
          · exact hR _ (by omega) (by omega))
        exact Int.eq_of_mul_eq_mul_right (by omega) e
    · cases hc
theorem conf_ok {n : Int} {ars : List ArcV} {p : List StI} (hc : confirmF n ars p = 0) : checkF n ars = 0 ∧ allIn ars.length p = true := by
  unfold confirmF at hc
  split at hc
  · rename_i h; exact absurd hc h
  · rename_i h0
    split at hc
    · rename_i h1
      rw [Bool.and_eq_true] at h1
      exact ⟨Decidable.not_not.1 h0, h1.1⟩
    · cases hc
theorem all_take {p : List StI} {k : Nat} {s : StI} (f : StI → Bool) (h : p[k]? = some s) : (p.take (k + 1)).all f = ((p.take k).all f && f s) := by
  obtain ⟨h1, h2⟩ := List.getElem?_eq_some_iff.1 h
  rw [List.take_succ_eq_append_getElem h1, List.all_append, h2]
  simp

set_option maxRecDepth 100000 in
set_option maxHeartbeats 8000000 in
theorem wdenies_any (n : Int) (ars : List ArcV) (A : Option Addr) (l c : Nat) (p : List StI) (Ap : Option Addr) (m cp : Nat) (rs : List Int) (Ar : Option Addr) (q cr : Nat) (w : World) (hl : ars.length = l) (hx : ∀ a ∈ ars, a.fit) (hr : Rd w w.heap.size A (cellsA ars)) (hm : l ≤ maxLen)
    (hp : p.length = m) (hmc : m ≤ cp) (hxp : FitT p) (hrp : Rd w w.heap.size Ap (cellsT p)) (hz : cp * 16 ≤ 140737488351232)
    (hq : rs.length = q) (_hqc : q ≤ cr) (hxr : AllFit rs) (hrr : Rd w w.heap.size Ar (cellsI rs)) (hzr : cr * 8 ≤ 140737488351232) (hT : Tab w) :
    Calls Tryd.prog 5 #[.agg #[.int .i64 n, .slice A l c], .slice Ap m cp, .slice Ar q cr] w fun e w' => e = .returned (.bool true) ∧ Below w.heap.size w w' := by
  obtain ⟨W, hW⟩ : ∃ W, w.alloc (.cells #[.int .i64 n, .slice A l c] 24) = W := ⟨_, rfl⟩
  have bW : Below w.heap.size w W := by subst hW; exact (Below.refl _ _).alloc (Nat.le_refl _) _
  have k0 : Blk W w.heap.size 24 #[.int .i64 n, .slice A l c] := by subst hW; exact Blk.new w _ rfl _ _
  have hWs : W.heap.size = w.heap.size + 1 := by subst hW; simp
  have mm : m ≤ maxLen := by unfold maxLen; omega
  have qm : q ≤ maxLen := by unfold maxLen; omega
  have TO := Lib.hid (fun w1 (hb : Below w.heap.size w w1) => hT.below hb hT.pos)
  have FA := Lib.hid (fun w1 (hb : Below w.heap.size w w1) => (hr.below hb (Nat.le_refl _)).more hb.size)
  have FP := Lib.hid (fun w1 (hb : Below w.heap.size w w1) => (hrp.below hb (Nat.le_refl _)))
  have FR := Lib.hid (fun w1 (hb : Below w.heap.size w w1) => (hrr.below hb (Nat.le_refl _)))
  have hc1 := confirm_any n ars A l c p Ap m cp W hl hx (FA.out W bW) hm hp hxp ((FP.out W bW).more bW.size) mm hmc (TO.out W bW)
  have LAW := Lib.hid (fun h1 h2 h3 => denies_law (n := n) (ars := ars) (p := p) (rs := rs) h1 h2 h3)
  have OK := Lib.hid (fun h => (checkF_ok (n := n) (ars := ars) h).2.2.2)
  obtain ⟨r, hre⟩ : ∃ r, confirmF n ars p = r := ⟨_, rfl⟩
  rw [hre] at hc1
  have HC1 := Lib.hid hc1
  have HRE := Lib.hid hre
  have HX := Lib.hid hx
  have HL := Lib.hid hl
  have HP := Lib.hid hp
  have HXP := Lib.hid hxp
  have HQ := Lib.hid hq
  have HXR := Lib.hid hxr
  have K0 := Lib.hid k0
  have f0 := k0.cell 0
  have f1 := k0.cell 1
  simp at f0 f1
  clear hT hr hrp hrr hx hxp hxr hc1 hre k0 hp hl hq
  go_enter Tryd.func5, Tryd.ntmps5
  go_wp2_with fail
  try rw [hW]
  refine HC1.out.mono ?_
  rintro e w2 ⟨rfl, hb2⟩
  have b2 := bW.trans (hb2.mono (by omega))
  have k2 := K0.out.lowr hb2 (by omega)
  have f0 := k2.cell 0
  have f1 := k2.cell 1
  simp at f0 f1
  have K2 := Lib.hid k2
  clear hW hb2 bW k2 HC1 K0
  by_cases hr0 : ¬ r = 0
  · have d0 : (r != 0) = true := by simpa using hr0
    go_wp2_with fail
    refine (awake_any w2 (TO.out w2 b2)).mono ?_
    rintro e w7 ⟨rfl, hb7⟩
    have b7 := b2.trans (hb7.mono b2.size)
    clear hb7
    go_wp2_with fail
    go_ret
    exact ⟨rfl, b7⟩
  have hr0 : r = 0 := Decidable.not_not.1 hr0
  have d0 : (r != 0) = false := by simp [hr0]
  by_cases hqn : (q : Int) < n
  · have d1 : decide ((q : Int) < n) = true := decide_eq_true hqn
    go_wp2_with fail
    refine (awake_any w2 (TO.out w2 b2)).mono ?_
    rintro e w7 ⟨rfl, hb7⟩
    have b7 := b2.trans (hb7.mono b2.size)
    clear hb7
    go_wp2_with fail
    go_ret
    exact ⟨rfl, b7⟩
  have d1 : decide ((q : Int) < n) = false := decide_eq_false hqn
  have HN := Lib.hid hqn
  have HR0 := Lib.hid hr0
  clear hqn hr0
  go_wp2_with fail
  clear d0 d1 f0 f1
  go_loopw [7] (fun i wr => ∃ k : Nat, k ≤ q ∧ i = .int .i64 k ∧ Below w.heap.size w wr ∧ Blk wr w.heap.size 24 #[.int .i64 n, .slice A l c] ∧ Hid (∀ x ∈ rs.take k, 1 ≤ x)) (fun i _ => q - (intOf i).toNat)
  case atStart => exact ⟨0, Nat.zero_le _, rfl, b2, K2.out, by unfold Hid; simp⟩
  case round =>
    clear b2 K2
    obtain ⟨k, hk, rfl, b3, k3, H3⟩ := hrel
    by_cases hlt : k < q
    · obtain ⟨b, off, x, rfl, hbl, hxf, c0, -, hxx⟩ := (FR.out wr b3).at_ HXR.out (k := k) (by rw [HQ.out]; exact hlt)
      have hbw : b < wr.heap.size := Nat.lt_of_lt_of_le hbl b3.size
      have K3 := Lib.hid k3
      have hts : rs.take (k + 1) = rs.take k ++ [x] := by rw [List.take_add_one, hxx.out]; rfl
      have HTS := Lib.hid hts
      have i1 : (0 : Int) ≤ (k : Int) := by omega
      have i2 : (k : Int) < (q : Int) := by omega
      clear hxx hts k3
      by_cases h1 : x < 1
      · have d0 : decide (x < 1) = true := decide_eq_true h1
        go_wp2_with fail
        refine (awake_any wr (TO.out wr b3)).mono ?_
        rintro e w7 ⟨rfl, hb7⟩
        have b7 := b3.trans (hb7.mono b3.size)
        clear hb7
        go_wp2_with fail
        go_ret
        exact ⟨rfl, b7⟩
      · have d0 : decide (x < 1) = false := decide_eq_false h1
        go_wp2_with fail
        go_roundw
        case rel => exact ⟨k + 1, by omega, by go_num, b3, K3.out, by unfold Hid; rw [HTS.out]; intro y hy; rcases List.mem_append.1 hy with hy | hy; exact H3.out y hy; simp at hy; omega⟩
        case measure => simp [intOf]; omega
    · have hkq : rs.take k = rs := List.take_of_length_le (by rw [HQ.out]; omega)
      rw [hkq] at H3
      have LAW2 := Lib.hid (LAW.out (HRE.out.trans HR0.out) H3.out (by rw [HQ.out]; have := HN.out; omega))
      have K3 := Lib.hid k3
      have B3 := Lib.hid b3
      clear hkq k3 b3 H3 LAW
      go_wp2_with fail
      go_loopw [8, 9, 10] (fun al i _ wr => ∃ k : Nat, k ≤ m ∧ i = .int .i64 k ∧ al = .bool ((p.take k).all (evB ars rs)) ∧ Below w.heap.size w wr ∧ Blk wr w.heap.size 24 #[.int .i64 n, .slice A l c]) (fun _ i _ _ => m - (intOf i).toNat)
      case atStart => exact ⟨0, Nat.zero_le _, rfl, rfl, B3.out, K3.out⟩
      case round =>
        clear hk K3 B3
        obtain ⟨k, hk, rfl, rfl, b4, k4⟩ := hrel
        have f0 := k4.cell 0
        have f1 := k4.cell 1
        simp at f0 f1
        by_cases hlt : k < m
        · obtain ⟨bp, op, x, t, rfl, hbp, hxf, c0, c1, -, hxx⟩ := (FP.out wr b4).sti HXP.out (k := k) (by rw [HP.out]; exact hlt)
          obtain ⟨hck, hin⟩ := conf_ok (HRE.out.trans HR0.out)
          have hxin := of_decide_eq_true (List.all_eq_true.1 hin (x, t) (List.mem_of_getElem? hxx.out))
          have hal := all_take (evB ars rs) hxx.out
          obtain ⟨j, rfl⟩ : ∃ j : Nat, x = (j : Int) := ⟨x.toNat, by have := hxin.1; simp only at this; omega⟩
          have hj : j < ars.length := by have := hxin.2; simp only at this; omega
          have hjl : j < l := by rw [← HL.out]; exact hj
          obtain ⟨b, off, a, rfl, hbl, haf, e0, e1, e2, e3, e4, -, hag⟩ := ((FA.out w (Below.refl _ _)).below b4 (Nat.le_refl _)).arc HX.out hj
          have hbw : b < wr.heap.size := Nat.lt_of_lt_of_le hbl b4.size
          have hbpw : bp < wr.heap.size := Nat.lt_of_lt_of_le hbp b4.size
          have bnd := OK.out hck a (List.mem_of_getElem? hag.out)
          have hev : evB ars rs ((j : Int), t) = decide (a.g * rs.getD a.f.toNat 0 = a.k * rs.getD a.t.toNat 0) := by unfold evB; rw [arc_at hag.out t]
          obtain ⟨af, at', g, kk, s⟩ := a
          dsimp only at e0 e1 e2 e3 e4 bnd hev haf
          obtain ⟨f, rfl⟩ : ∃ f : Nat, af = (f : Int) := ⟨af.toNat, by omega⟩
          obtain ⟨tt, rfl⟩ : ∃ f : Nat, at' = (f : Int) := ⟨at'.toNat, by omega⟩
          have hnq := HN.out
          have HEV := Lib.hid (fun w1 (hb : Below wr.heap.size wr w1) => even_any f tt g kk s rs Ar q cr w1 HQ.out HXR.out ((FR.out w1 (b4.trans (hb.mono b4.size))).more (b4.trans (hb.mono b4.size)).size) (by omega) (by omega) haf.2.2.1 haf.2.2.2.1)
          rw [show (f : Int).toNat = f from rfl, show (tt : Int).toNat = tt from rfl] at hev
          rw [← hev] at HEV
          obtain ⟨ev, hev2⟩ : ∃ ev, evB ars rs ((j : Int), t) = ev := ⟨_, rfl⟩
          rw [hev2] at HEV hal
          obtain ⟨al, hal2⟩ : ∃ al, (p.take k).all (evB ars rs) = al := ⟨_, rfl⟩
          rw [hal2] at hal ⊢
          have HAL := Lib.hid hal
          have K4 := Lib.hid k4
          have B4 := Lib.hid b4
          have d0 : decide ((j : Int) < 0) = false := decide_eq_false (by omega)
          have d1 : decide ((j : Int) ≥ (l : Int)) = false := decide_eq_false (by omega)
          have i1 : (0 : Int) ≤ (k : Int) := by omega
          have i2 : (k : Int) < (m : Int) := by omega
          have i3 : (0 : Int) ≤ (j : Int) := by omega
          have i4 : (j : Int) < (l : Int) := by omega
          clear hck hin hxin hal hev hev2 hal2 k4 b4 hag hxx hxf haf bnd hnq hj
          go_wp2_with fail
          go_quiet (fail)
          generalize hW4 : World.drewN _ _ = W4
          have h4 : Below wr.heap.size wr W4 := by rw [← hW4]; exact Below.drewN (Below.refl _ _) _
          have k5 : Blk W4 w.heap.size 24 #[.int .i64 n, .slice (some ⟨b, off, none⟩) l c] := by rw [← hW4]; exact K4.out
          have e0 : W4.cell? ⟨b, off + j * 5, none⟩ = some (.int .i64 (f : Nat)) := by rw [← hW4]; exact e0
          have e1 : W4.cell? ⟨b, off + j * 5 + 1, none⟩ = some (.int .i64 (tt : Nat)) := by rw [← hW4]; exact e1
          have e2 : W4.cell? ⟨b, off + j * 5 + 2, none⟩ = some (.int .i64 g) := by rw [← hW4]; exact e2
          have e3 : W4.cell? ⟨b, off + j * 5 + 3, none⟩ = some (.int .i64 kk) := by rw [← hW4]; exact e3
          have e4 : W4.cell? ⟨b, off + j * 5 + 4, none⟩ = some (.int .i64 s) := by rw [← hW4]; exact e4
          have c0 : W4.cell? ⟨bp, op + k * 2, none⟩ = some (.int .i64 (j : Nat)) := by rw [← hW4]; exact c0
          have f0 := k5.cell 0
          have f1 := k5.cell 1
          simp at f0 f1
          have K5 := Lib.hid k5
          have hbw : b < W4.heap.size := Nat.lt_of_lt_of_le hbw h4.size
          have hbpw : bp < W4.heap.size := Nat.lt_of_lt_of_le hbpw h4.size
          clear k5 hW4 c1
          go_wp2_with fail
          go_still_tail 10, (by kernel_rfl)
          change wpList _ _ _ _ _ W4.drew
          have h5 : Below wr.heap.size wr W4.drew := h4.drew
          have k5 : Blk W4.drew w.heap.size 24 #[.int .i64 n, .slice (some ⟨b, off, none⟩) l c] := K5.out
          clear f0 f1 e0 e1 e2 e3 e4 c0 h4 K5 hbw hbpw
          generalize World.drew W4 = W5 at h5 k5 ⊢
          have K5 := Lib.hid k5
          have hlw : w.heap.size < wr.heap.size := K4.out.lt
          clear k5
          go_wp2_with fail
          refine (HEV.out W5 h5).mono ?_
          rintro e w6 ⟨rfl, hb6⟩
          have h6 := h5.trans (hb6.mono h5.size)
          have K6 := Lib.hid (K4.out.lowr h6 hlw)
          have B6 := Lib.hid (B4.out.trans (h6.mono B4.out.size))
          clear hb6 h5 h6 K5 HEV K4 B4
          cases al
          · go_wp2_with fail
            go_roundw
            case rel => exact ⟨k + 1, by omega, by go_num, by rw [HAL.out]; rfl, B6.out, K6.out⟩
            case measure => simp [intOf]; omega
          · go_wp2_with fail
            go_roundw
            case rel => exact ⟨k + 1, by omega, by go_num, by rw [HAL.out]; simp, B6.out, K6.out⟩
            case measure => simp [intOf]; omega
        · have hkp : p.take k = p := List.take_of_length_le (by rw [HP.out]; omega)
          rw [hkp, LAW2.out]
          clear hkp
          go_wp2_with fail
          refine (awake_any wr (TO.out wr b4)).mono ?_
          rintro e w7 ⟨rfl, hb7⟩
          have b7 := b4.trans (hb7.mono b4.size)
          clear hb7
          go_wp2_with fail
          go_ret
          exact ⟨rfl, b7⟩
end Go.Proofs.YtkheoaleamolcaaDoor
