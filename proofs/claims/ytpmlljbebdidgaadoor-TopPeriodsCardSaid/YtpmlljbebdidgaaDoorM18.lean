/-
  Ha, Pa, Pz, Ab, Hb, Ta: texts pasted together.
-/
import Derived.Test.YtpmlljbebdidgaaDoorM17
import Derived.Maps.OwnSet
import Derived.Test.YtpmlljbebdidgaaDoorSs
/-
  stuck.Confirm: blocks that hold each other are confirmed.
-/
namespace Go.Proofs.YtpmlljbebdidgaaDoor
open Go.RowKit Go.Maps

def blkN (ars : List ArcV) (F : Nat → Int) (v : Nat) : BlkV := ⟨v, F v, optI (shortO ars F v)⟩
/-- nodes that hold each other back -/
structure HeldV (n : Nat) (ars : List ArcV) (F : Nat → Int) (vs : List Nat) : Prop where
  ne : 0 < vs.length
  nd : vs.Nodup
  lt : ∀ v ∈ vs, v < n
  fired : ∀ v ∈ vs, 0 ≤ F v ∧ F v ≤ 4096
  arc : ∀ v ∈ vs, ∃ i u : Nat, shortO ars F v = some i ∧ i < ars.length ∧ (arcAt ars i).t = v ∧ (arcAt ars i).f = u ∧ u ∈ vs ∧ (arcAt ars i).s + (arcAt ars i).g * F u < (arcAt ars i).k * (F v + 1)
/-- what has fired, as a map -/
def putF (F : Nat → Int) (D : DataW Unit) (v : Nat) : DataW Unit := D.put (.int .i64 (v : Int)) (.lit (.int .i64 (F v)))
def mapD (F : Nat → Int) (vs : List Nat) : DataW Unit := vs.foldl (putF F) (.map [])
theorem keyN (v : Nat) : WideAt.IsKeyLit (.int .i64 (v : Int)) := trivial
theorem fold_map (F : Nat → Int) : ∀ (vs : List Nat) (D : DataW Unit), IsMap D → (∀ v ∈ vs, v < 1000000) → ∀ u : Nat, u < 1000000 →
    IsMap (vs.foldl (putF F) D) ∧
    Maps.has (vs.foldl (putF F) D) (.int .i64 (u : Int)) = (decide (u ∈ vs) || Maps.has D (.int .i64 (u : Int))) ∧
    ∀ z, (vs.foldl (putF F) D).atKey (.int .i64 (u : Int)) z = if u ∈ vs then .lit (.int .i64 (F u)) else D.atKey (.int .i64 (u : Int)) z := by
  intro vs
  induction vs with
  | nil => intro D hD _ u _; exact ⟨hD, by simp, fun z => by simp⟩
  | cons v vs ih =>
    intro D hD hlt u hu
    obtain ⟨h1, h2, h3⟩ := ih (putF F D v) (hD.put _ _) (fun x hx => hlt x (by simp [hx])) u hu
    refine ⟨h1, ?_, fun z => ?_⟩
    · rw [List.foldl_cons, h2]
      unfold putF
      by_cases e : u = v
      · subst e
        rw [has_put_same hD (keyN _)]
        simp
      · rw [has_put_other (fun hc => by injection hc with _ hc; omega)]
        simp [e]
    · rw [List.foldl_cons, h3]
      unfold putF
      by_cases e : u = v
      · subst e
        rw [atKey_put_same hD (keyN _)]
        simp
      · rw [atKey_put_other (fun hc => by injection hc with _ hc; omega)]
        simp [e]
theorem mapD_snoc (F : Nat → Int) (vs : List Nat) (v : Nat) : mapD F (vs ++ [v]) = (mapD F vs).put (.int .i64 (v : Int)) (.lit (.int .i64 (F v))) := by simp [mapD, putF]
theorem mapD_has (F : Nat → Int) {vs : List Nat} (h : ∀ v ∈ vs, v < 1000000) {u : Nat} (hu : u < 1000000) : Maps.has (mapD F vs) (.int .i64 (u : Int)) = decide (u ∈ vs) := by
  unfold mapD
  rw [(fold_map F vs _ isMap_empty h u hu).2.1]
  have : Maps.has (.map [] : DataW Unit) (.int .i64 (u : Int)) = false := rfl
  rw [this, Bool.or_false]
theorem mapD_at (F : Nat → Int) {vs : List Nat} (h : ∀ v ∈ vs, v < 1000000) {u : Nat} (hu : u ∈ vs) (z : DataW Unit) : (mapD F vs).atKey (.int .i64 (u : Int)) z = .lit (.int .i64 (F u)) := by
  unfold mapD
  rw [(fold_map F vs _ isMap_empty h u (h u hu)).2.2 z, if_pos hu]
theorem keyedI : Keyed Tryd.prog 3 := int_keyed Tryd.underlying3
theorem zeroI (w : World) : (zeroValue 3).run Tryd.prog w = .ok (.int .i64 0) w := by kernel_rfl

set_option maxRecDepth 100000 in
set_option maxHeartbeats 4000000 in
theorem confirm_yes (n : Nat) (ars : List ArcV) (A : Option Addr) (c : Nat) (F : Nat → Int) (vs : List Nat) (S : Option Addr) (m cs : Nat) (w : World) (hm : vs.length = m) (hC : checkF n ars = 0) (hN : NetOk n ars) (hr : Rd w w.heap.size A (cellsA ars))
    (hs : Rd w w.heap.size S (cellsB_Sr (vs.map (blkN ars F)))) (hV : HeldV n ars F vs) :
    Calls Tryd.prog 13 #[.agg #[.int .i64 n, .slice A ars.length c], .slice S m cs] w fun e w' => e = .returned (.int .i64 0) ∧ Below w.heap.size w w' := by
  have n32 := hN.n32
  have l96 := hN.l96
  have hmm := @run_makeMap Tryd.prog
  obtain ⟨B, hB⟩ : ∃ B, w.heap.size = B := ⟨_, rfl⟩
  rw [hB] at hr hs ⊢
  have hvl : m ≤ 1000 := by
    have h1 := hV.nd.length_le_of_subset (l₂ := List.range n) fun v hv => List.mem_range.2 (hV.lt v hv)
    rw [List.length_range] at h1
    omega
  have hlt0 : 0 < m := hm ▸ hV.ne
  have hsmall : ∀ v ∈ vs, v < 1000000 := fun v hv => by have := hV.lt v hv; omega
  have b1 := (Below.refl B w).alloc (by omega) (.cells #[.int .i64 n, .slice A ars.length c] 30)
  have k1 := Blk.new w B hB.symm 30 #[.int .i64 n, .slice A ars.length c]
  have hz1 : (w.alloc (.cells #[.int .i64 n, .slice A ars.length c] 30)).heap.size = B + 1 := by simp; omega
  have HV := Lib.hid hV
  have HC := Lib.hid hC
  have HN := Lib.hid hN
  have Hsm := Lib.hid hsmall
  have Hm := Lib.hid hm
  clear hV hC hN hsmall hm
  go_enter Tryd.func13, Tryd.ntmps13
  go_wp2_with fail
  generalize w.alloc (.cells #[.int .i64 n, .slice A ars.length c] 30) = W1 at *
  refine (check_any n ars A ars.length c W1 rfl HN.out.fit ((hr.below b1 (Nat.le_refl _)).more (by omega)) (by unfold maxLen; omega)).mono ?_
  rintro e w2 ⟨rfl, hb2⟩
  rw [HC.out]
  have b2 := b1.trans (hb2.mono (by omega))
  have k2 := k1.below hb2 (by omega)
  have hz2 := hb2.size
  clear b1 k1 hb2
  have hz : ((m : Int) == 0) = false := beq_eq_false_iff_ne.2 (by omega)
  obtain ⟨M, hM⟩ : ∃ M, w2.heap.size = M := ⟨_, rfl⟩
  have hmk := hmm
  have o3 := World.ownsMap_made w2 Tryd.prog 3 (plainElem (H := Unit) Tryd.prog 3)
  have b3 := b2.alloc (by omega) (.map #[] 0)
  have k3 := k2.alloc (.map #[] 0)
  have z3 : (w2.alloc (.map #[] 0)).heap.size = M + 1 := by simp; omega
  rw [hM] at o3
  go_wp2_with fail
  try rw [hM]
  go_loopw [28] (fun i wr => ∃ k : Nat, k ≤ m ∧ i = .int .i64 k ∧ Below B w wr ∧ Blk wr B 30 #[.int .i64 n, .slice A ars.length c] ∧ M < wr.heap.size ∧ wr.ownsMap Tryd.prog 3 (plainElem (H := Unit) Tryd.prog 3) M k (mapD F (vs.take k))) (fun i _ => m - (intOf i).toNat)
  case atStart => exact ⟨0, by omega, rfl, b3, k3, by omega, o3⟩
  case round =>
    clear o3 b3 k3 z3 b2 k2
    obtain ⟨k, hk, rfl, hb, kb, hMw, ho⟩ := hrel
    by_cases hlt : k < m
    · have hkv : k < vs.length := by rw [Hm.out]; exact hlt
      obtain ⟨v, hv⟩ : ∃ v, vs[k]? = some v := ⟨_, List.getElem?_eq_getElem hkv⟩
      have hvm := List.mem_of_getElem? hv
      obtain ⟨sb, so, x, rfl, c0, c1, c2, hx⟩ := (hs.below hb (Nat.le_refl _)).blkAt (k := k) (by rw [List.length_map]; exact hkv)
      obtain rfl : x = blkN ars F v := by have h := hx.out; rw [List.getElem?_map, hv] at h; exact (Option.some.inj h).symm
      simp only [blkN] at c0 c1 c2
      have hvn := HV.out.lt v hvm
      have hvf := HV.out.fired v hvm
      obtain ⟨f, hf⟩ : ∃ f, F v = f := ⟨_, rfl⟩
      obtain ⟨ai, hai⟩ : ∃ a, optI (shortO ars F v) = a := ⟨_, rfl⟩
      rw [hai] at c2
      have hin : v ∉ vs.take k := not_taken HV.out.nd hv
      have hnx : mapD F (vs.take (k + 1)) = (mapD F (vs.take k)).put (.int .i64 (v : Int)) (.lit (.int .i64 (F v))) := by rw [take_step hv, mapD_snoc]
      have hhas : Maps.has (mapD F (vs.take k)) (.int .i64 (v : Int)) = false := by rw [mapD_has F (fun u hu => Hsm.out u (List.mem_of_mem_take hu)) (Hsm.out v hvm)]; exact decide_eq_false hin
      generalize mapD F (vs.take k) = D at ho hnx hhas
      rw [hf] at c1 hvf hnx
      have ba := (Below.refl wr.heap.size wr).alloc (Nat.le_refl _) (.cells #[.int .i64 v, .int .i64 f, .int .i64 ai] 107)
      have kn := kb.below ba kb.lt
      have ka := Blk.new wr _ rfl 107 #[.int .i64 v, .int .i64 f, .int .i64 ai]
      have on := ho.alloc (.cells #[.int .i64 v, .int .i64 f, .int .i64 ai] 107)
      have bn := hb.trans (ba.mono (by omega))
      have zn : (wr.alloc (.cells #[.int .i64 v, .int .i64 f, .int .i64 ai] 107)).heap.size = wr.heap.size + 1 := by simp
      have d0 := ka.cell 0
      have d1 := ka.cell 1
      have n0 := kn.cell 0
      simp at d0 d1 n0
      have hkey : keyOf Tryd.prog 3 (.int .i64 (v : Int)) = some (.int .i64 (v : Int)) := keyOf_int_mk Tryd.underlying3 (WalkArith.wf_i64 (by omega))
      have h1 : (0 : Int) ≤ (k : Int) := by omega
      have h2 : (k : Int) < (m : Int) := by omega
      have Hnx := Lib.hid hnx
      clear hb kb ho ba ka hx hin hnx hf hai
      go_wp2_with (first
        | (at_lookup; refine wpList_lookup_own_ok_int _ rfl _ _ 105 rfl 3 3 .i64 keyedI Tryd.underlying105 Tryd.underlying3 (zeroI _) M k D rfl on _ _ rfl hkey ?_; intro cv hat hwc)
        | (at_mapUpdate; refine wpList_mapUpdate_own _ rfl _ _ _ 105 rfl 3 3 keyedI Tryd.underlying105 _ M k D rfl on (by unfold maxLen; omega) _ _ _ rfl rfl hkey _ [] (plainElem_int Tryd.underlying3 (WalkArith.wf_i64 (by omega))) ?_; intro w4 hown4 hgrow4)
        | go_in)
      go_roundw
      case rel => exact ⟨k + 1, by omega, by go_num, bn.grown hgrow4 (by omega) (fun j hj => by cases hj; omega), kn.grown hgrow4 (by intro hc; cases hc; omega), by have := hgrow4.size; omega, Hnx.out ▸ hown4⟩
      case measure => simp [intOf]; omega
    · obtain rfl : k = m := by omega
      have hk2 : vs.take k = vs := List.take_of_length_le (by rw [Hm.out]; exact Nat.le_refl _)
      rw [hk2] at ho
      have HO := Lib.hid ho
      clear ho hk2
      go_wp2_with fail
      go_loopw [11, 70] (fun a i wx => ∃ q : Nat, q ≤ k ∧ i = .int .i64 q ∧ a = .bool false ∧ Below B w wx ∧ Blk wx B 30 #[.int .i64 n, .slice A ars.length c] ∧ M < wx.heap.size ∧ wx.ownsMap Tryd.prog 3 (plainElem (H := Unit) Tryd.prog 3) M k (mapD F vs)) (fun _ i _ => k - (intOf i).toNat)
      case atStart => exact ⟨0, by omega, rfl, rfl, hb, kb, hMw, HO.out⟩
      case round =>
        clear hb kb hMw HO
        obtain ⟨q, hq, rfl, rfl, hb, kb, hMw, ho⟩ := hrel
        by_cases hlt : q < k
        · have hkv : q < vs.length := by rw [Hm.out]; exact hlt
          obtain ⟨v, hv⟩ : ∃ v, vs[q]? = some v := ⟨_, List.getElem?_eq_getElem hkv⟩
          have hvm := List.mem_of_getElem? hv
          obtain ⟨sb, so, x, rfl, c0, c1, c2, hx⟩ := (hs.below hb (Nat.le_refl _)).blkAt (k := q) (by rw [List.length_map]; exact hkv)
          obtain rfl : x = blkN ars F v := by have h := hx.out; rw [List.getElem?_map, hv] at h; exact (Option.some.inj h).symm
          simp only [blkN] at c0 c1 c2
          have hvn := HV.out.lt v hvm
          have hvf := HV.out.fired v hvm
          obtain ⟨i, u, hsh, hi, hat, haf, hum, hll⟩ := HV.out.arc v hvm
          have huf := HV.out.fired u hum
          have hun := HV.out.lt u hum
          rw [hsh] at c2
          simp only [optI] at c2
          have hhas : Maps.has (mapD F vs) (.int .i64 (u : Int)) = true := by rw [mapD_has F Hsm.out (Hsm.out u hum)]; exact decide_eq_true hum
          have hD := mapD_at F Hsm.out hum (.lit (.int .i64 0))
          generalize mapD F vs = D at ho hhas hD
          obtain ⟨f, hf⟩ : ∃ f, F v = f := ⟨_, rfl⟩
          obtain ⟨fu, hfu⟩ : ∃ f, F u = f := ⟨_, rfl⟩
          rw [hf] at c1 hvf hll
          rw [hfu] at huf hll hD
          have ba := (Below.refl wr.heap.size wr).alloc (Nat.le_refl _) (.cells #[.int .i64 v, .int .i64 f, .int .i64 i] 107)
          have b4 := hb.trans (ba.mono (by omega))
          obtain ⟨ab, ao, a, rfl, -, -, e0, e1, e2, e3, e4, -, hax⟩ := (hr.below b4 (Nat.le_refl _)).arc HN.out.fit hi
          obtain rfl : a = arcAt ars i := (arcAt_some hax.out).symm
          obtain ⟨g1, g2, g3, g4, g5, g6, g7, g8, g9, g10⟩ := HN.out.ok _ (arcAt_mem hi)
          rw [haf] at e0
          rw [hat] at e1
          generalize (arcAt ars i).g = ag at *
          generalize (arcAt ars i).k = ak at *
          generalize (arcAt ars i).s = as_ at *
          clear hax g1 g2 g3 g4 hat haf hsh
          have m1 := Int.mul_nonneg (show 0 ≤ ag by omega) huf.1
          have m2 := Int.mul_le_mul g6 huf.2 huf.1 (show (0 : Int) ≤ 64 by omega)
          have m3 := Int.mul_nonneg (show 0 ≤ ak by omega) (show 0 ≤ f + 1 by omega)
          have m4 := Int.mul_le_mul g8 (show f + 1 ≤ 4097 by omega) (show 0 ≤ f + 1 by omega) (show (0 : Int) ≤ 64 by omega)
          have hall : ∀ cv : Int, D.atKey (.int .i64 (u : Int)) (.lit (.int .i64 0)) = .lit (.int .i64 cv) → IntKind.i64.wrap (ag * cv) = ag * cv ∧ IntKind.i64.wrap (as_ + ag * cv) = as_ + ag * cv ∧ IntKind.i64.wrap (f + 1) = f + 1 ∧ IntKind.i64.wrap (ak * (f + 1)) = ak * (f + 1) ∧ decide (ak * (f + 1) ≤ as_ + ag * cv) = false := by
            intro cv h
            rw [hD] at h
            injection h with h
            injection h with _ h
            subst h
            exact ⟨IntWalk.i64_in _ (by omega), IntWalk.i64_in _ (by omega), IntWalk.i64_in _ (by omega), IntWalk.i64_in _ (by omega), decide_eq_false (by omega)⟩
          have Hall := Lib.hid hall
          obtain ⟨W4, hW4⟩ : ∃ W, wr.alloc (.cells #[.int .i64 v, .int .i64 f, .int .i64 i] 107) = W := ⟨_, rfl⟩
          have kn := kb.below ba kb.lt
          have ka := Blk.new wr _ rfl 107 #[.int .i64 v, .int .i64 f, .int .i64 i]
          have on := ho.alloc (.cells #[.int .i64 v, .int .i64 f, .int .i64 i] 107)
          have zn : (wr.alloc (.cells #[.int .i64 v, .int .i64 f, .int .i64 i] 107)).heap.size = wr.heap.size + 1 := by simp
          rw [hW4] at kn ka on zn e0 e1 e2 e3 e4 b4
          have bb := (Below.refl W4.heap.size W4).alloc (Nat.le_refl _) (.cells #[.int .i64 u, .int .i64 v, .int .i64 ag, .int .i64 ak, .int .i64 as_] 66)
          have b5 := b4.trans (bb.mono (by omega))
          have kn5 := kn.below bb kn.lt
          have ka5 := ka.below bb ka.lt
          have kc := Blk.new W4 _ rfl 66 #[.int .i64 u, .int .i64 v, .int .i64 ag, .int .i64 ak, .int .i64 as_]
          have on5 := on.alloc (.cells #[.int .i64 u, .int .i64 v, .int .i64 ag, .int .i64 ak, .int .i64 as_] 66)
          have zn5 : (W4.alloc (.cells #[.int .i64 u, .int .i64 v, .int .i64 ag, .int .i64 ak, .int .i64 as_] 66)).heap.size = W4.heap.size + 1 := by simp
          have p0 := kn.cell 0
          have p1 := kn.cell 1
          have s0 := ka.cell 0
          have s1 := ka.cell 1
          have s2 := ka.cell 2
          have t0 := ka5.cell 0
          have t1 := ka5.cell 1
          have r0 := kc.cell 0
          have r1 := kc.cell 1
          have r2 := kc.cell 2
          have r3 := kc.cell 3
          have r4 := kc.cell 4
          simp only [List.getElem?_toArray, List.getElem?_cons_zero, List.getElem?_cons_succ] at p0 p1 s0 s1 s2 t0 t1 r0 r1 r2 r3 r4
          have hkey : keyOf Tryd.prog 3 (.int .i64 (u : Int)) = some (.int .i64 (u : Int)) := keyOf_int_mk Tryd.underlying3 (WalkArith.wf_i64 (by omega))
          have h1 : (0 : Int) ≤ (q : Int) := by omega
          have h2 : (q : Int) < (k : Int) := by omega
          have h3 : (0 : Int) ≤ (i : Int) := by omega
          have h4 : (i : Int) < (ars.length : Int) := by omega
          have h5 : ((v : Int) != (v : Int)) = false := by simp
          clear hb kb ho ba bb hx hall hf hfu hll hD m1 m2 m3 m4 kn ka on kc ka5
          go_wp2_with (first
            | (at_lookup; refine wpList_lookup_own_ok_int _ rfl _ _ 105 rfl 3 3 .i64 keyedI Tryd.underlying105 Tryd.underlying3 (zeroI _) M k D rfl on5 _ _ rfl hkey ?_; intro cv hat hwc; obtain ⟨q1, q2, q3, q4, q5⟩ := Hall.out cv hat; clear hat)
            | go_in)
          go_roundw
          case rel => exact ⟨q + 1, by omega, by go_num, rfl, b5, kn5, by omega, on5⟩
          case measure => simp [intOf]; omega
        · have HB := Lib.hid hb
          go_wp2_with fail
          go_ret
          exact ⟨rfl, HB.out⟩
end Go.Proofs.YtpmlljbebdidgaaDoor
/-
  PLAIN: whatever fires first, the end is the same.
-/
namespace Go.Proofs.YtpmlljbebdidgaaDoor
open Go.RowKit

theorem mayB_iff {ars : List ArcV} {n : Nat} {F : Nat → Int} {v : Nat} : mayB ars n F v = true ↔ v < n ∧ ∀ i, i < ars.length → (arcAt ars i).t = v → (arcAt ars i).k ≤ tokI ars F i := by
  unfold mayB shortO
  rw [Bool.and_eq_true, decide_eq_true_eq, Int.toNat_natCast, Option.isNone_iff_eq_none, List.find?_eq_none]
  constructor
  · rintro ⟨h1, h2⟩
    refine ⟨by omega, fun i hi ht => ?_⟩
    have := h2 i (List.mem_range.2 hi)
    simp only [ht, decide_true, Bool.true_and, lacks, decide_eq_true_eq] at this
    unfold tokI
    omega
  · rintro ⟨h1, h2⟩
    refine ⟨by omega, fun i hi => ?_⟩
    have hi' := List.mem_range.1 hi
    simp only [Bool.and_eq_true, decide_eq_true_eq, lacks, not_and]
    intro ht
    have := h2 i hi' ht
    unfold tokI at this
    omega
/-- what may fire still may when others have fired more -/
theorem may_mono {ars : List ArcV} {n : Nat} {F G : Nat → Int} {v : Nat} (hN : NetOk n ars) (h : ∀ j, j < n → F j ≤ G j) (he : F v = G v) (hm : mayB ars n F v = true) : mayB ars n G v = true := by
  rw [mayB_iff] at hm ⊢
  refine ⟨hm.1, fun i hi ht => ?_⟩
  have h1 := hm.2 i hi ht
  obtain ⟨f, t, g, k, s, ha, hf, ht', hg, _⟩ := arc_nat (hN.ok _ (arcAt_mem hi))
  unfold tokI tokA at h1 ⊢
  rw [ha] at h1 ht ⊢
  simp only [Int.toNat_natCast] at h1 ht ⊢
  have : t = v := by omega
  subst this
  have h2 := Int.mul_le_mul_of_nonneg_left (h f hf) (show (0 : Int) ≤ g by omega)
  rw [← he]
  omega
/-- the counts that can be reached, none above its own -/
inductive Reach (ars : List ArcV) (n : Nat) (rs : List Int) : (Nat → Int) → Prop
  | zero : Reach ars n rs fun _ => 0
  | step {F : Nat → Int} {v : Nat} : Reach ars n rs F → 0 < leftF rs F v → mayB ars n F v = true → Reach ars n rs (bump F v)
/-- nothing may fire that has firings left -/
def Final (ars : List ArcV) (n : Nat) (rs : List Int) (F : Nat → Int) : Prop := ∀ v, v < n → 0 < leftF rs F v → mayB ars n F v = false
theorem Reach.nonneg {ars : List ArcV} {n : Nat} {rs : List Int} {F : Nat → Int} (h : Reach ars n rs F) : ∀ j, 0 ≤ F j := by
  induction h with
  | zero => intro j; exact Int.le_refl _
  | @step F v _ _ _ ih =>
    intro j
    have := ih j
    unfold bump
    by_cases hj : j = v
    · subst hj; rw [upd_self]; omega
    · rw [upd_other hj]; exact this
theorem Reach.far {ars : List ArcV} {n : Nat} {rs : List Int} {F : Nat → Int} (h : Reach ars n rs F) : ∀ j, n ≤ j → F j = 0 := by
  induction h with
  | zero => intro j _; rfl
  | @step F v _ _ hm ih =>
    intro j hj
    have := (mayB_iff.1 hm).1
    unfold bump
    rw [upd_other (by omega)]
    exact ih j hj
theorem Reach.le_reps {ars : List ArcV} {n : Nat} {rs : List Int} {F : Nat → Int} (hr : ∀ v : Nat, v < n → 0 ≤ repAt rs v) (h : Reach ars n rs F) : ∀ j, j < n → F j ≤ repAt rs j := by
  induction h with
  | zero => intro j hj; exact hr j hj
  | @step F v _ hl hm ih =>
    intro j hj
    have := ih j hj
    unfold bump
    by_cases hjv : j = v
    · subst hjv; rw [upd_self]; unfold leftF at hl; omega
    · rw [upd_other hjv]; exact this
theorem Reach.le_final {ars : List ArcV} {n : Nat} {rs : List Int} {F G : Nat → Int} (hN : NetOk n ars) (hF : ∀ j, 0 ≤ F j) (hfin : Final ars n rs F) (h : Reach ars n rs G) : ∀ j, j < n → G j ≤ F j := by
  induction h with
  | zero => intro j _; exact hF j
  | @step G v _ hl hm ih =>
    intro j hj
    unfold bump
    by_cases hjv : j = v
    · subst hjv
      rw [upd_self]
      have h1 := ih j hj
      rcases Int.lt_or_eq_of_le h1 with h2 | h2
      · omega
      · have h3 := may_mono hN ih h2 hm
        have h4 := hfin j hj (by unfold leftF at hl ⊢; omega)
        rw [h3] at h4; cases h4
    · rw [upd_other hjv]; exact ih j hj
/-- THE END IS ONE -/
theorem end_one {ars : List ArcV} {n : Nat} {rs : List Int} {F G : Nat → Int} (hN : NetOk n ars) (h1 : Reach ars n rs F) (h2 : Final ars n rs F) (h3 : Reach ars n rs G) (h4 : Final ars n rs G) : F = G := by
  funext j
  by_cases hj : j < n
  · have a := h3.le_final hN h1.nonneg h2 j hj
    have b := h1.le_final hN h3.nonneg h4 j hj
    omega
  · rw [h1.far j (by omega), h3.far j (by omega)]
/-- a rule that picks someone while someone can fire -/
def PickAll (ars : List ArcV) (n : Nat) (rs : List Int) (pick : (Nat → Int) → Int) : Prop := ∀ F, ¬ 0 ≤ pick F → Final ars n rs F
theorem leftSum_zero {n : Nat} {L : Nat → Int} (h : leftSum n L = 0) : ∀ v, v < n → L v ≤ 0 := by
  induction n with
  | zero => intro v hv; omega
  | succ n ih =>
    unfold leftSum at *
    rw [List.range_succ, List.map_append, List.sum_append] at h
    simp only [List.map_cons, List.map_nil, List.sum_cons, List.sum_nil] at h
    intro v hv
    by_cases hvn : v = n
    · subst hvn; omega
    · exact ih (by omega) v (by omega)
theorem runF_end {ars : List ArcV} {n : Nat} {rs : List Int} {pick : (Nat → Int) → Int} (hp : PickOk ars n rs pick) (ha : PickAll ars n rs pick) : ∀ (f : Nat) (F : Nat → Int), Reach ars n rs F → leftSum n (leftF rs F) ≤ f →
    Reach ars n rs (runF pick f F).2 ∧ Final ars n rs (runF pick f F).2 ∧ (∀ v, countF (runF pick f F).1 v = (runF pick f F).2 v - F v) ∧ nodesB (n : Int) (runF pick f F).1 = true := by
  intro f
  induction f with
  | zero =>
    intro F hR hs
    refine ⟨hR, fun v hv hl => ?_, fun v => ?_, rfl⟩
    · have := leftSum_zero (show leftSum n (leftF rs F) = 0 by omega) v hv
      have hl' : 0 < leftF rs F v := hl
      omega
    · simp [runF, countF]
  | succ f ih =>
    intro F hR hs
    by_cases h : 0 ≤ pick F
    · obtain ⟨v, e, hv, hl, hm⟩ := hp F h
      have hsum := leftSum_upd (leftF rs F) v n hv hl
      rw [← left_bump] at hsum
      obtain ⟨i1, i2, i3, i4⟩ := ih (bump F v) (.step hR hl hm) (by omega)
      simp only [runF]
      rw [if_pos h, e, Int.toNat_natCast]
      refine ⟨i1, i2, fun j => ?_, ?_⟩
      · have := i3 j
        simp only
        unfold countF at this ⊢
        rw [List.count_cons]
        unfold bump at this ⊢
        by_cases hj : j = v
        · subst hj
          rw [upd_self] at this
          simp only [beq_self_eq_true, if_true]
          omega
        · rw [upd_other hj] at this
          have hb : ((v : Int) == (j : Int)) = false := by simp; omega
          rw [hb]
          simpa using this
      · unfold nodesB at i4 ⊢
        simp only [List.all_cons, i4, Bool.and_true, decide_eq_true_eq]
        omega
    · rw [runF_stop h]
      refine ⟨hR, ha F h, fun v => ?_, rfl⟩
      simp [countF]
theorem bestF_all (ars : List ArcV) (n : Nat) (F Lf K : Nat → Int) (k : Nat) (h : ¬ 0 ≤ bestF ars n F Lf K k) : ∀ v, v < k → 0 < Lf v → mayB ars n F v = false := by
  induction k with
  | zero => intro v hv; omega
  | succ k ih =>
    rw [bestF_succ] at h
    unfold bestStep at h
    split at h
    · exact absurd (show (0 : Int) ≤ (k : Int) by omega) h
    · rename_i h1
      intro v hv hl
      by_cases hvk : v = k
      · subst hvk
        cases hm : mayB ars n F v with
        | false => rfl
        | true => exact absurd ⟨hl, hm, .inl (by omega)⟩ h1
      · exact ih h v (by omega) hl
theorem pickS_all (ars : List ArcV) (n : Nat) (rs ps : List Int) : PickAll ars n rs (pickS ars n rs ps) := fun _ h v hv hl => bestF_all _ _ _ _ _ _ h v hv hl
/-- whatever is preferred: the same end -/
theorem run_same {ars : List ArcV} {n : Nat} {rs : List Int} {pick pick' : (Nat → Int) → Int} (hN : NetOk n ars) (hp : PickOk ars n rs pick) (ha : PickAll ars n rs pick) (hp' : PickOk ars n rs pick') (ha' : PickAll ars n rs pick') :
    (runF pick (leftSum n (leftF rs fun _ => 0)) fun _ => 0).2 = (runF pick' (leftSum n (leftF rs fun _ => 0)) fun _ => 0).2 := by
  obtain ⟨a1, a2, _⟩ := runF_end hp ha _ _ .zero (Nat.le_refl _)
  obtain ⟨b1, b2, _⟩ := runF_end hp' ha' _ _ .zero (Nat.le_refl _)
  exact end_one hN a1 a2 b1 b2
end Go.Proofs.YtpmlljbebdidgaaDoor
/-
  SimulPrefers.
-/
namespace Go.Proofs.YtpmlljbebdidgaaDoor
open Go.RowKit

theorem wrongF_nil {n : Int} {ars : List ArcV} {rs ps : List Int} (h : wrongF n ars rs [] ≠ 0) : wrongF n ars rs ps = wrongF n ars rs [] := by
  unfold wrongF at h ⊢
  split at h
  · rename_i h1
    rw [if_pos h1, if_pos h1]
    split at h
    · rename_i h2
      rw [if_pos h2, if_pos h2]
      split at h
      · rename_i h3
        rw [if_pos h3, if_pos h3]
      · exact absurd rfl h
    · rename_i h2
      rw [if_neg h2, if_neg h2]
  · rename_i h1
    rw [if_neg h1, if_neg h1]
/-- what holds where nothing is wrong -/
theorem wrongF_parts {n : Int} {ars : List ArcV} {rs ps : List Int} (h : wrongF n ars rs ps = 0) : ∃ m : Nat, n = m ∧ checkF m ars = 0 ∧ NetOk m ars ∧ rs.length = m ∧ rs.all repB = true ∧ ars.all (evenB rs) = true ∧ sumF rs ≤ 2048 ∧ nodesB n ps = true := by
  unfold wrongF at h
  split at h
  · split at h
    · rename_i h2
      obtain ⟨a, b, c, d⟩ := holdB_parts h2
      obtain ⟨m, rfl, hN⟩ := netOk_of a
      split at h
      · cases h
      · split at h
        · rename_i h3 h4
          exact ⟨m, rfl, a, hN, by omega, c, d, by omega, h4⟩
        · cases h
    · cases h
  · rename_i h1; exact absurd h h1
theorem wrongF_some {n : Int} {ars : List ArcV} {rs ps : List Int} (h : wrongF n ars rs [] = 0) : wrongF n ars rs ps = if nodesB n ps = true then 0 else 100 := by
  unfold wrongF at h ⊢
  split at h
  · rename_i h1
    rw [if_pos h1]
    split at h
    · rename_i h2
      rw [if_pos h2]
      split at h
      · cases h
      · rename_i h3
        rw [if_neg h3]
    · cases h
  · rename_i h1; exact absurd h h1
/-- two preferences, one end: the same blocks, the same counts -/
theorem ans_same {n : Int} {ars : List ArcV} {rs ps qs : List Int} (h : wrongF n ars rs ps = 0) (h' : wrongF n ars rs qs = 0) :
    (ansF (pickS ars n.toNat rs ps) n ars rs ps).2 = (ansF (pickS ars n.toNat rs qs) n ars rs qs).2 ∧
    (∀ v, countF (ansF (pickS ars n.toNat rs ps) n ars rs ps).1 v = countF (ansF (pickS ars n.toNat rs qs) n ars rs qs).1 v) ∧ nodesB n (ansF (pickS ars n.toNat rs ps) n ars rs ps).1 = true := by
  obtain ⟨m, rfl, hck, hN, hlen, hall, heven, hsum, hno⟩ := wrongF_parts h
  rw [Int.toNat_natCast]
  unfold ansF
  rw [if_pos h, if_pos h', Int.toNat_natCast]
  have hs := run_same hN (pickS_ok ars m rs ps) (pickS_all ars m rs ps) (pickS_ok ars m rs qs) (pickS_all ars m rs qs)
  obtain ⟨-, -, c1, d1⟩ := runF_end (pickS_ok ars m rs ps) (pickS_all ars m rs ps) _ _ .zero (Nat.le_refl _)
  obtain ⟨-, -, c2, d2⟩ := runF_end (pickS_ok ars m rs qs) (pickS_all ars m rs qs) _ _ .zero (Nat.le_refl _)
  generalize runF (pickS ars m rs ps) (leftSum m (leftF rs fun _ => 0)) (fun _ => 0) = r1 at *
  generalize runF (pickS ars m rs qs) (leftSum m (leftF rs fun _ => 0)) (fun _ => 0) = r2 at *
  unfold endF
  rw [hs]
  split
  · refine ⟨rfl, fun v => ?_, d1⟩
    have h1 := c1 v
    have h2 := c2 v
    rw [hs] at h1
    simp only
    omega
  · exact ⟨rfl, fun _ => rfl, rfl⟩
theorem ans_len {n : Int} {ars : List ArcV} {rs ps : List Int} (pick : (Nat → Int) → Int) : (ansF pick n ars rs ps).2.length ≤ n.toNat := by
  unfold ansF
  split
  · unfold endF
    split
    · simp
    · exact blocksF_length _ n.toNat _ _ _
  · simp
theorem runF_len {pick : (Nat → Int) → Int} : ∀ f F, (runF pick f F).1.length ≤ f := by
  intro f
  induction f with
  | zero => intro F; simp [runF]
  | succ f ih =>
    intro F
    simp only [runF]
    split
    · have := ih (bump F (pick F).toNat); simp only [List.length_cons]; omega
    · simp
theorem ans_list {n : Int} {ars : List ArcV} {rs ps : List Int} (pick : (Nat → Int) → Int) : (ansF pick n ars rs ps).1.length ≤ 131072 := by
  unfold ansF
  split
  · rename_i h
    obtain ⟨m, rfl, hck, hN, hlen, hall, heven, hsum, hno⟩ := wrongF_parts h
    rw [Int.toNat_natCast]
    have h1 := leftSum_le (n := m) (m := 4096) (L := leftF rs fun _ => 0) fun v hv => by have := repAt_lt hall (f := v) (by omega); show repAt rs (v : Int) - 0 ≤ _; omega
    have h2 := Nat.mul_le_mul_right 4096 hN.n32
    have h3 := runF_len (pick := pick) (leftSum m (leftF rs fun _ => 0)) fun _ => 0
    unfold endF
    split
    · simp only; omega
    · simp
  · simp
theorem fit_nodes {n : Nat} {xs : List Int} (hn : n ≤ 32) (h : nodesB (n : Int) xs = true) : AllFit xs := by
  intro x hx
  have := List.all_eq_true.1 h x hx
  simp only [decide_eq_true_eq] at this
  unfold fits; omega
theorem fit_counts {xs : List Int} (n : Nat) (h : xs.length ≤ 131072) : AllFit (rowF (countF xs) n) := by
  intro x hx
  obtain ⟨v, hv, rfl⟩ := List.mem_map.1 hx
  have := countF_le xs v
  unfold fits; omega

end Go.Proofs.YtpmlljbebdidgaaDoor
/-
  The plain law of SimulAny: what is left at the start is the counts' sum; what is reached at the end tells whether there is a list.
-/
namespace Go.Proofs.YtpmlljbebdidgaaDoor
open Go.RowKit

theorem sumF_left {rs : List Int} (h : rs.all repB = true) : ∀ k, k ≤ rs.length → (leftSum k (leftF rs fun _ => 0) : Int) = sumF (rs.take k) := by
  intro k
  induction k with
  | zero => intro _; simp [leftSum, sumF]
  | succ k ih =>
    intro hk
    have h1 := ih (by omega)
    have h2 := repAt_lt h (f := k) (by omega)
    have h3 : rs[k]? = some (repAt rs k) := by
      unfold repAt
      rw [Int.toNat_natCast, List.getElem?_eq_getElem (by omega : k < rs.length)]
      rfl
    have h4 : leftSum (k + 1) (leftF rs fun _ => 0) = leftSum k (leftF rs fun _ => 0) + (repAt rs k).toNat := by
      unfold leftSum
      rw [List.range_succ, List.map_append, List.sum_append]
      simp [leftF]
    rw [sumF_take h3, ← h1, h4]
    omega
theorem Reach.left_le {ars : List ArcV} {n : Nat} {rs : List Int} {F : Nat → Int} (h : Reach ars n rs F) : leftSum n (leftF rs F) ≤ leftSum n (leftF rs fun _ => 0) := by
  induction h with
  | zero => exact Nat.le_refl _
  | @step F v _ hl hm ih =>
    have h1 := leftSum_upd (leftF rs F) v n (mayB_iff.1 hm).1 hl
    rw [← left_bump] at h1
    omega
/-- whatever fires first: it can be ended just if there is a list -/
theorem any_end {n : Nat} {ars : List ArcV} {rs : List Int} {G : Nat → Int} (h : wrongF n ars rs [] = 0) (hR : Reach ars n rs G) (hF : Final ars n rs G) : rowF G n = rs ↔ (ansF (pickS ars (n : Int).toNat rs []) n ars rs []).2 = [] := by
  obtain ⟨m, hm, hck, hN, hlen, hall, heven, hsum, hno⟩ := wrongF_parts h
  obtain rfl : n = m := by omega
  rw [Int.toNat_natCast]
  unfold ansF
  rw [if_pos h, Int.toNat_natCast]
  obtain ⟨c1, c2, -, -⟩ := runF_end (pickS_ok ars n rs []) (pickS_all ars n rs []) _ _ .zero (Nat.le_refl _)
  generalize runF (pickS ars n rs []) (leftSum n (leftF rs fun _ => 0)) (fun _ => 0) = r at *
  have he := end_one hN c1 c2 hR hF
  unfold endF
  rw [he]
  have hle := hR.le_reps fun v hv => by have := repAt_lt hall (f := v) (by omega); omega
  have key : blocksF ars n G (leftF rs G) n = [] ↔ rowF G n = rs := by
    constructor
    · intro hb
      refine List.ext_getElem? fun k => ?_
      by_cases hk : k < n
      · rw [rowF_at G hk]
        have h3 : rs[k]? = some (repAt rs k) := by
          unfold repAt
          rw [Int.toNat_natCast, List.getElem?_eq_getElem (by omega : k < rs.length)]
          rfl
        rw [h3]
        congr 1
        have h1 := hle k hk
        have h2 : ¬ 0 < leftF rs G k := by
          intro hl
          unfold blocksF at hb
          rw [List.map_eq_nil_iff, List.filter_eq_nil_iff] at hb
          exact hb k (List.mem_range.2 hk) (by simpa using hl)
        unfold leftF at h2
        omega
      · rw [List.getElem?_eq_none (by rw [rowF_length]; omega), List.getElem?_eq_none (by omega)]
    · intro hr
      unfold blocksF
      rw [List.map_eq_nil_iff, List.filter_eq_nil_iff]
      intro v hv
      rw [List.mem_range] at hv
      have h1 := rowF_at G hv
      rw [hr] at h1
      have h2 : repAt rs v = G v := by unfold repAt; rw [Int.toNat_natCast, h1]; rfl
      unfold leftF
      simp
      omega
  split
  · rename_i hb
    exact ⟨fun _ => rfl, fun _ => key.1 hb⟩
  · rename_i hb
    exact ⟨fun hr => key.2 hr, fun hn => absurd hn hb⟩
end Go.Proofs.YtpmlljbebdidgaaDoor
/-
  The plain law of SimulHome: a list fires wholly and comes home, period by period; blocks hold each other.
-/
namespace Go.Proofs.YtpmlljbebdidgaaDoor
open Go.RowKit

theorem fire_run {ars : List ArcV} {n : Nat} {rs : List Int} {pick : (Nat → Int) → Int} (hp : PickOk ars n rs pick) : ∀ (f : Nat) (F : Nat → Int), fireN ars n F (runF pick f F).1 = (runF pick f F).1.length ∧ fireF ars n F (runF pick f F).1 = (runF pick f F).2 := by
  intro f
  induction f with
  | zero => intro F; exact ⟨rfl, rfl⟩
  | succ f ih =>
    intro F
    simp only [runF]
    split
    · rename_i h
      obtain ⟨v, hv, _, _, hm⟩ := hp F h
      obtain ⟨h1, h2⟩ := ih (bump F (pick F).toNat)
      rw [hv] at h1 h2 ⊢
      simp only [fireN, fireF, hm, if_true, List.length_cons]
      exact ⟨by rw [h1], h2⟩
    · exact ⟨rfl, rfl⟩
/-- so many whole periods ahead -/
def shF_Hb (rs : List Int) (p : Nat) (F : Nat → Int) : Nat → Int := fun v => p * repAt rs v + F v
theorem tok_shift {ars : List ArcV} {n : Nat} {rs : List Int} (hN : NetOk n ars) (he : ars.all (evenB rs) = true) (p : Nat) (F : Nat → Int) {i : Nat} (hi : i < ars.length) : tokI ars (shF_Hb rs p F) i = tokI ars F i := by
  have ha := arcAt_mem hi
  have h1 := List.all_eq_true.1 he _ ha
  obtain ⟨g1, g2, g3, g4, -⟩ := hN.ok _ ha
  unfold tokI tokA shF_Hb
  generalize arcAt ars i = a at *
  unfold evenB at h1
  rw [decide_eq_true_eq] at h1
  have e1 : repAt rs (a.f.toNat : Int) = repAt rs a.f := by rw [Int.toNat_of_nonneg g1]
  have e2 : repAt rs (a.t.toNat : Int) = repAt rs a.t := by rw [Int.toNat_of_nonneg g3]
  rw [e1, e2, Int.mul_add, Int.mul_add]
  have e3 : a.g * ((p : Int) * repAt rs a.f) = a.k * ((p : Int) * repAt rs a.t) := by
    rw [Int.mul_left_comm, h1, Int.mul_left_comm]
  omega
theorem may_shift {ars : List ArcV} {n : Nat} {rs : List Int} (hN : NetOk n ars) (he : ars.all (evenB rs) = true) (p : Nat) (F : Nat → Int) (v : Int) : mayB ars n (shF_Hb rs p F) v = mayB ars n F v := by
  by_cases hv : 0 ≤ v ∧ v < n
  · obtain ⟨u, rfl⟩ : ∃ u : Nat, v = u := ⟨v.toNat, by omega⟩
    rw [Bool.eq_iff_iff, mayB_iff, mayB_iff]
    constructor
    · rintro ⟨h1, h2⟩
      exact ⟨h1, fun i hi ht => by rw [← tok_shift hN he p F hi]; exact h2 i hi ht⟩
    · rintro ⟨h1, h2⟩
      exact ⟨h1, fun i hi ht => by rw [tok_shift hN he p F hi]; exact h2 i hi ht⟩
  · unfold mayB
    rw [decide_eq_false hv]
    rfl
theorem bump_shift (rs : List Int) (p : Nat) (F : Nat → Int) (v : Nat) : bump (shF_Hb rs p F) v = shF_Hb rs p (bump F v) := by
  funext j
  unfold bump shF_Hb
  by_cases h : j = v
  · subst h; rw [upd_self, upd_self]; omega
  · rw [upd_other h, upd_other h]
theorem fire_shift {ars : List ArcV} {n : Nat} {rs : List Int} (hN : NetOk n ars) (he : ars.all (evenB rs) = true) (p : Nat) : ∀ (xs : List Int) (F : Nat → Int), fireN ars n (shF_Hb rs p F) xs = fireN ars n F xs ∧ fireF ars n (shF_Hb rs p F) xs = shF_Hb rs p (fireF ars n F xs) := by
  intro xs
  induction xs with
  | nil => intro F; exact ⟨rfl, rfl⟩
  | cons x xs ih =>
    intro F
    simp only [fireN, fireF, may_shift hN he, bump_shift]
    obtain ⟨h1, h2⟩ := ih (bump F x.toNat)
    split
    · exact ⟨by rw [h1], h2⟩
    · exact ⟨rfl, rfl⟩
/-- where nothing is left: the counts -/
theorem left_none {n : Nat} {ars : List ArcV} {rs : List Int} {G : Nat → Int} (hlen : rs.length = n) (hle : ∀ j, j < n → G j ≤ repAt rs j) (hfar : ∀ j, n ≤ j → G j = 0) (hb : blocksF ars n G (leftF rs G) n = []) : G = fun v : Nat => repAt rs v := by
  funext v
  by_cases hv : v < n
  · have h1 := hle v hv
    have h2 : ¬ 0 < leftF rs G v := by
      intro hl
      unfold blocksF at hb
      rw [List.map_eq_nil_iff, List.filter_eq_nil_iff] at hb
      exact hb v (List.mem_range.2 hv) (by simpa using hl)
    unfold leftF at h2
    omega
  · rw [hfar v (by omega)]
    unfold repAt
    rw [Int.toNat_natCast, List.getElem?_eq_none (by omega)]
    rfl
/-- a list: it fires wholly at whatever period, and comes home -/
theorem home_list {n : Nat} {ars : List ArcV} {rs ps : List Int} (h : wrongF n ars rs ps = 0) (hb : (ansF (pickS ars (n : Int).toNat rs ps) n ars rs ps).2 = []) :
    (∀ p : Nat, fireN ars n (shF_Hb rs p fun _ => 0) (ansF (pickS ars (n : Int).toNat rs ps) n ars rs ps).1 = (ansF (pickS ars (n : Int).toNat rs ps) n ars rs ps).1.length ∧
      fireF ars n (shF_Hb rs p fun _ => 0) (ansF (pickS ars (n : Int).toNat rs ps) n ars rs ps).1 = shF_Hb rs (p + 1) fun _ => 0) ∧
    rowF (countF (ansF (pickS ars (n : Int).toNat rs ps) n ars rs ps).1) n = rs ∧ nodesB (n : Int) (ansF (pickS ars (n : Int).toNat rs ps) n ars rs ps).1 = true ∧ 0 < (ansF (pickS ars (n : Int).toNat rs ps) n ars rs ps).1.length ∧
    (ansF (pickS ars (n : Int).toNat rs ps) n ars rs ps).1.length ≤ 2048 := by
  obtain ⟨m, hm, hck, hN, hlen, hall, heven, hsum, hno⟩ := wrongF_parts h
  obtain rfl : n = m := by omega
  rw [Int.toNat_natCast] at hb ⊢
  unfold ansF at hb ⊢
  rw [if_pos h, Int.toNat_natCast] at hb ⊢
  obtain ⟨c1, c2, c3, c4⟩ := runF_end (pickS_ok ars n rs ps) (pickS_all ars n rs ps) (leftSum n (leftF rs fun _ => 0)) (fun _ => 0) .zero (Nat.le_refl _)
  obtain ⟨f1, f2⟩ := fire_run (pickS_ok ars n rs ps) (leftSum n (leftF rs fun _ => 0)) (fun _ => 0)
  have hlx := runF_len (pick := pickS ars n rs ps) (leftSum n (leftF rs fun _ => 0)) (fun _ => 0)
  generalize runF (pickS ars n rs ps) (leftSum n (leftF rs fun _ => 0)) (fun _ => 0) = r at *
  unfold endF at hb ⊢
  by_cases hbl : blocksF ars n r.2 (leftF rs r.2) n = []
  · rw [if_pos hbl]
    have hle := c1.le_reps fun v hv => by have := repAt_lt hall (f := v) (by omega); omega
    have hr := left_none hlen hle c1.far hbl
    have hcn : rowF (countF r.1) n = rs := by
      refine List.ext_getElem? fun k => ?_
      by_cases hk : k < n
      · rw [rowF_at _ hk, c3 k, hr]
        have h3 : rs[k]? = some (repAt rs k) := by
          unfold repAt
          rw [Int.toNat_natCast, List.getElem?_eq_getElem (by omega : k < rs.length)]
          rfl
        rw [h3, Int.sub_zero]
      · rw [List.getElem?_eq_none (by rw [rowF_length]; omega), List.getElem?_eq_none (by omega)]
    refine ⟨fun p => ?_, hcn, c4, ?_, ?_⟩
    · obtain ⟨s1, s2⟩ := fire_shift hN heven p r.1 fun _ => 0
      rw [s1, s2, f1, f2, hr]
      refine ⟨rfl, ?_⟩
      funext v
      show (p : Int) * repAt rs v + repAt rs v = ((p + 1 : Nat) : Int) * repAt rs v + 0
      rw [Int.natCast_add, Int.add_mul]
      omega
    · have hp := hN.pos
      have h0 : countF r.1 0 = repAt rs ((0 : Nat) : Int) - 0 := by rw [c3 0, hr]
      have h1 := repAt_lt hall (f := 0) (by omega)
      cases hx : r.1 with
      | nil => rw [hx, show countF [] 0 = 0 from rfl] at h0; omega
      | cons x xs => simp
    · have hleft := sumF_left hall rs.length (Nat.le_refl _)
      rw [List.take_length, hlen] at hleft
      simp only
      omega
  · rw [if_neg hbl] at hb
    exact absurd hb hbl
/-- blocks: they hold each other, each below its count -/
theorem home_blocks {n : Nat} {ars : List ArcV} {rs ps : List Int} (h : wrongF n ars rs ps = 0) (hb : (ansF (pickS ars (n : Int).toNat rs ps) n ars rs ps).2 ≠ []) :
    ∃ F vs, (ansF (pickS ars (n : Int).toNat rs ps) n ars rs ps) = ([], vs.map (blkN ars F)) ∧ HeldV n ars F vs ∧ ∀ v ∈ vs, F v < repAt rs v := by
  obtain ⟨m, hm, hck, hN, hlen, hall, heven, hsum, hno⟩ := wrongF_parts h
  obtain rfl : n = m := by omega
  rw [Int.toNat_natCast] at hb ⊢
  unfold ansF at hb ⊢
  rw [if_pos h, Int.toNat_natCast] at hb ⊢
  obtain ⟨c1, c2, -, -⟩ := runF_end (pickS_ok ars n rs ps) (pickS_all ars n rs ps) (leftSum n (leftF rs fun _ => 0)) (fun _ => 0) .zero (Nat.le_refl _)
  generalize runF (pickS ars n rs ps) (leftSum n (leftF rs fun _ => 0)) (fun _ => 0) = r at *
  unfold endF at hb ⊢
  by_cases hbl : blocksF ars n r.2 (leftF rs r.2) n = []
  · rw [if_pos hbl] at hb; exact absurd rfl hb
  · rw [if_neg hbl]
    have hle := c1.le_reps fun v hv => by have := repAt_lt hall (f := v) (by omega); omega
    have hmem : ∀ v, v ∈ (List.range n).filter (fun v : Nat => decide (0 < leftF rs r.2 v)) ↔ v < n ∧ 0 < leftF rs r.2 v := fun v => by simp
    refine ⟨r.2, (List.range n).filter (fun v : Nat => decide (0 < leftF rs r.2 v)), rfl, ⟨?_, List.Pairwise.filter _ List.nodup_range, fun v hv => ((hmem v).1 hv).1, fun v hv => ?_, fun v hv => ?_⟩, fun v hv => ?_⟩
    · refine List.length_pos_iff.2 fun hc => hbl ?_
      unfold blocksF
      rw [hc]; rfl
    · have h1 := (hmem v).1 hv
      have h2 := hle v h1.1
      have h3 := repAt_lt hall (f := v) (by omega)
      have := c1.nonneg v
      omega
    · obtain ⟨hvn, hlv⟩ := (hmem v).1 hv
      have hm0 := c2 v hvn hlv
      unfold mayB at hm0
      rw [decide_eq_true (by omega : (0 : Int) ≤ v ∧ (v : Int) < n), Bool.true_and, Int.toNat_natCast] at hm0
      cases hs : shortO ars r.2 v with
      | none => rw [hs] at hm0; cases hm0
      | some i =>
        have h1 := List.find?_some hs
        have h2 := List.mem_range.1 (List.mem_of_find?_eq_some hs)
        simp only [Bool.and_eq_true, decide_eq_true_eq, lacks] at h1
        obtain ⟨ht, hl⟩ := h1
        have ha := arcAt_mem h2
        have he := List.all_eq_true.1 heven _ ha
        obtain ⟨g1, g2, g3, g4, g5, g6, g7, g8, g9, g10⟩ := hN.ok _ ha
        unfold evenB at he
        rw [decide_eq_true_eq] at he
        unfold tokA at hl
        refine ⟨i, (arcAt ars i).f.toNat, rfl, h2, ht, by omega, ?_, ?_⟩
        · rw [hmem]
          refine ⟨by omega, ?_⟩
          unfold leftF at hlv ⊢
          rw [Int.toNat_of_nonneg g1]
          rw [ht, Int.toNat_natCast] at hl
          rw [ht] at he
          refine Int.not_le.1 fun hc => ?_
          have m1 := Int.mul_le_mul_of_nonneg_left (show repAt rs (arcAt ars i).f ≤ r.2 (arcAt ars i).f.toNat by omega) (show 0 ≤ (arcAt ars i).g by omega)
          have m2 := Int.mul_le_mul_of_nonneg_left (show r.2 v + 1 ≤ repAt rs (v : Int) by omega) (show 0 ≤ (arcAt ars i).k by omega)
          rw [Int.mul_add, Int.mul_one] at m2
          omega
        · rw [ht, Int.toNat_natCast] at hl
          rw [Int.mul_add, Int.mul_one]
          omega
    · have h1 := ((hmem v).1 hv).2
      unfold leftF at h1
      omega
end Go.Proofs.YtpmlljbebdidgaaDoor
/-
  The plain law of SimulTimes: the least counts k times.
-/
namespace Go.Proofs.YtpmlljbebdidgaaDoor
open Go.RowKit

/-- the counts k times -/
def timesL (k : Int) (rs : List Int) : List Int := rs.map fun x => k * x
theorem repAt_times (k : Int) (rs : List Int) (v : Int) : repAt (timesL k rs) v = k * repAt rs v := by
  unfold repAt timesL
  rw [List.getElem?_map]
  cases rs[v.toNat]? with
  | none => simp
  | some x => rfl
theorem foldl_times (k : Int) : ∀ (rs : List Int) (a : Int), (rs.map fun x => k * x).foldl (fun a x => a + x) (k * a) = k * rs.foldl (fun a x => a + x) a := by
  intro rs
  induction rs with
  | nil => intro a; rfl
  | cons x rs ih =>
    intro a
    rw [List.map_cons, List.foldl_cons, List.foldl_cons, ← ih, Int.mul_add]
theorem fire_mono {ars : List ArcV} {n : Nat} : ∀ (xs : List Int) (F : Nat → Int) (j : Nat), F j ≤ fireF ars n F xs j := by
  intro xs
  induction xs with
  | nil => intro F j; exact Int.le_refl _
  | cons x xs ih =>
    intro F j
    simp only [fireF]
    split
    · refine Int.le_trans ?_ (ih (bump F x.toNat) j)
      unfold bump
      by_cases h : j = x.toNat
      · subst h; rw [upd_self]; omega
      · rw [upd_other h]; exact Int.le_refl _
    · exact Int.le_refl _
theorem reach_fire {ars : List ArcV} {n : Nat} {ks : List Int} : ∀ (xs : List Int) (F : Nat → Int), Reach ars n ks F → fireN ars n F xs = xs.length → (∀ j : Nat, j < n → fireF ars n F xs j ≤ repAt ks j) → Reach ars n ks (fireF ars n F xs) := by
  intro xs
  induction xs with
  | nil => intro F h _ _; exact h
  | cons x xs ih =>
    intro F h hn hle
    simp only [fireN, fireF, List.length_cons] at hn hle ⊢
    by_cases hm : mayB ars n F x = true
    · rw [if_pos hm] at hn hle ⊢
      have hx : 0 ≤ x ∧ x < n := by
        unfold mayB at hm
        rw [Bool.and_eq_true, decide_eq_true_eq] at hm
        exact hm.1
      obtain ⟨v, rfl⟩ : ∃ v : Nat, x = v := ⟨x.toNat, by omega⟩
      rw [Int.toNat_natCast] at hn hle ⊢
      have h1 := hle v (by omega)
      have h2 := fire_mono (ars := ars) (n := n) xs (bump F v) v
      have h3 : bump F v v = F v + 1 := by unfold bump; rw [upd_self]
      exact ih _ (.step h (by unfold leftF; omega) hm) (by omega) hle
    · rw [if_neg hm] at hn
      omega
/-- nodes that hold each other never fire more often -/
theorem held_bound {n : Nat} {ars : List ArcV} {F G : Nat → Int} {vs : List Nat} {ks : List Int} (hN : NetOk n ars) (hV : HeldV n ars F vs) (h : Reach ars n ks G) : ∀ v ∈ vs, G v ≤ F v := by
  induction h with
  | zero => intro v hv; exact (hV.fired v hv).1
  | @step G w hG hl hm ih =>
    intro v hv
    unfold bump
    by_cases e : v = w
    · subst e
      rw [upd_self]
      have h1 := ih v hv
      refine Int.not_lt.1 fun hc => ?_
      obtain ⟨i, u, hs, hi, ht, hf, hu, hlt⟩ := hV.arc v hv
      have h2 := (mayB_iff.1 hm).2 i hi ht
      have hg := (hN.ok _ (arcAt_mem hi)).2.2.2.2.1
      unfold tokI tokA at h2
      rw [ht, hf, Int.toNat_natCast, Int.toNat_natCast] at h2
      have h3 := ih u hu
      have h4 := Int.mul_le_mul_of_nonneg_left h3 (show 0 ≤ (arcAt ars i).g by omega)
      have h5 : G v = F v := by omega
      rw [h5] at h2
      rw [Int.mul_add, Int.mul_one] at hlt
      omega
    · rw [upd_other e]
      exact ih v hv
theorem run_length {ars : List ArcV} {n : Nat} {rs : List Int} {pick : (Nat → Int) → Int} (hp : PickOk ars n rs pick) : ∀ (f : Nat) (F : Nat → Int), (runF pick f F).1.length + leftSum n (leftF rs (runF pick f F).2) = leftSum n (leftF rs F) := by
  intro f
  induction f with
  | zero => intro F; simp [runF]
  | succ f ih =>
    intro F
    simp only [runF]
    split
    · rename_i h
      obtain ⟨v, hv, hvn, hl, _⟩ := hp F h
      rw [hv, Int.toNat_natCast]
      have h1 := ih (bump F v)
      have h2 := leftSum_upd (leftF rs F) v n hvn hl
      rw [← left_bump] at h2
      simp only [List.length_cons]
      omega
    · simp
theorem left_zero {n : Nat} {rs : List Int} : leftSum n (leftF rs fun v : Nat => repAt rs v) = 0 := by
  have h := leftSum_le (n := n) (m := 0) (L := leftF rs fun v : Nat => repAt rs v) fun v _ => by show repAt rs v - repAt rs v ≤ ((0 : Nat) : Int); omega
  omega
/-- how long a list is -/
theorem ans_length {n : Nat} {ars : List ArcV} {rs ps : List Int} (h : wrongF n ars rs ps = 0) (hb : (ansF (pickS ars (n : Int).toNat rs ps) n ars rs ps).2 = []) : ((ansF (pickS ars (n : Int).toNat rs ps) n ars rs ps).1.length : Int) = sumF rs := by
  obtain ⟨m, hm, hck, hN, hlen, hall, heven, hsum, hno⟩ := wrongF_parts h
  obtain rfl : n = m := by omega
  rw [Int.toNat_natCast] at hb ⊢
  unfold ansF at hb ⊢
  rw [if_pos h, Int.toNat_natCast] at hb ⊢
  obtain ⟨c1, c2, c3, c4⟩ := runF_end (pickS_ok ars n rs ps) (pickS_all ars n rs ps) (leftSum n (leftF rs fun _ => 0)) (fun _ => 0) .zero (Nat.le_refl _)
  have hrl := run_length (pickS_ok ars n rs ps) (leftSum n (leftF rs fun _ => 0)) (fun _ => 0)
  generalize runF (pickS ars n rs ps) (leftSum n (leftF rs fun _ => 0)) (fun _ => 0) = r at *
  unfold endF at hb ⊢
  by_cases hbl : blocksF ars n r.2 (leftF rs r.2) n = []
  · rw [if_pos hbl]
    have hle := c1.le_reps fun v hv => by have := repAt_lt hall (f := v) (by omega); omega
    have hr := left_none hlen hle c1.far hbl
    have hleft := sumF_left hall rs.length (Nat.le_refl _)
    rw [List.take_length, hlen] at hleft
    rw [hr, left_zero] at hrl
    simp only
    omega
  · rw [if_neg hbl] at hb
    exact absurd hb hbl
theorem ans_none {n : Nat} {ars : List ArcV} {rs ps : List Int} (h : wrongF n ars rs ps = 0) (hb : (ansF (pickS ars (n : Int).toNat rs ps) n ars rs ps).2 ≠ []) : (ansF (pickS ars (n : Int).toNat rs ps) n ars rs ps).1 = [] := by
  obtain ⟨F, vs, hF, -⟩ := home_blocks h hb
  rw [hF]
theorem wrong_of_hold {n : Nat} {ars : List ArcV} {rs : List Int} (hc : checkF n ars = 0) (hl : rs.length = n) (he : ars.all (evenB rs) = true) : wrongF n ars rs [] = if rs.all repB = true then (if 2048 < sumF rs then 5 else 0) else 130 := by
  have h1 : holdE n ars rs = 0 := by unfold holdE; rw [if_pos hc, if_pos (by omega)]
  have h2 : holdB n ars rs = rs.all repB := by unfold holdB; rw [he, decide_eq_true ⟨hc, by omega⟩]; simp
  have h3 : nodesB (n : Int) [] = true := rfl
  unfold wrongF
  rw [if_pos h1, h2, h3, if_pos rfl]
theorem times_even {ars : List ArcV} {rs : List Int} {k : Int} (he : ars.all (evenB rs) = true) : ars.all (evenB (timesL k rs)) = true := by
  refine List.all_eq_true.2 fun a ha => ?_
  have h1 := List.all_eq_true.1 he a ha
  unfold evenB at h1 ⊢
  rw [decide_eq_true_eq] at h1 ⊢
  rw [repAt_times, repAt_times, Int.mul_left_comm, h1, Int.mul_left_comm]
/-- what is told of both -/
theorem times_err {n : Nat} {ars : List ArcV} {rs : List Int} {k : Int} (hk : 1 ≤ k) (hc : checkF n ars = 0) (hl : rs.length = n) (hr : rs.all repB = true) (he : ars.all (evenB rs) = true) :
    (wrongF n ars rs [] = 0 ∨ wrongF n ars rs [] = 5) ∧ (wrongF n ars (timesL k rs) [] = 0 ∨ wrongF n ars (timesL k rs) [] = 5 ∨ wrongF n ars (timesL k rs) [] = 130) ∧ (wrongF n ars rs [] = 5 → wrongF n ars (timesL k rs) [] ≠ 0) := by
  rw [wrong_of_hold hc hl he, wrong_of_hold hc (by unfold timesL; rw [List.length_map]; exact hl) (times_even he), if_pos hr]
  have hs : sumF (timesL k rs) = k * sumF rs := by
    have := foldl_times k rs 0
    rw [Int.mul_zero] at this
    exact this
  refine ⟨?_, ?_, ?_⟩
  · split
    · exact .inr rfl
    · exact .inl rfl
  · split
    · split
      · exact .inr (.inl rfl)
      · exact .inl rfl
    · exact .inr (.inr rfl)
  · intro h5
    have h6 : 2048 < sumF rs := by
      refine Int.not_le.1 fun hcc => ?_
      rw [if_neg (by omega)] at h5
      cases h5
    have h7 : sumF rs ≤ sumF (timesL k rs) := by
      rw [hs]
      have := Int.mul_le_mul_of_nonneg_right hk (show 0 ≤ sumF rs by omega)
      omega
    split
    · rw [if_pos (by omega)]; decide
    · decide
/-- a list with the one just if there is a list with the other, k times as long -/
theorem times_both {n : Nat} {ars : List ArcV} {rs : List Int} {k : Nat} (hk : 1 ≤ k) (h : wrongF n ars rs [] = 0) (h' : wrongF n ars (timesL k rs) [] = 0) :
    ((ansF (pickS ars (n : Int).toNat rs []) n ars rs []).2 = [] ↔ (ansF (pickS ars (n : Int).toNat (timesL k rs) []) n ars (timesL k rs) []).2 = []) ∧
    (ansF (pickS ars (n : Int).toNat (timesL k rs) []) n ars (timesL k rs) []).1.length = k * (ansF (pickS ars (n : Int).toNat rs []) n ars rs []).1.length := by
  obtain ⟨m, hm, hck, hN, hlen, hall, heven, hsum, hno⟩ := wrongF_parts h
  obtain rfl : n = m := by omega
  obtain ⟨m, hm, -, -, hlen', hall', heven', hsum', -⟩ := wrongF_parts h'
  obtain rfl : n = m := by omega
  have hiff : (ansF (pickS ars (n : Int).toNat rs []) n ars rs []).2 = [] ↔ (ansF (pickS ars (n : Int).toNat (timesL k rs) []) n ars (timesL k rs) []).2 = [] := by
    constructor
    · intro hb
      obtain ⟨hf, -⟩ := home_list h hb
      generalize (ansF (pickS ars (n : Int).toNat rs []) n ars rs []).1 = xs at hf
      have hR : ∀ p, p ≤ k → Reach ars n (timesL k rs) (shF_Hb rs p fun _ => 0) := by
        intro p
        induction p with
        | zero =>
          intro _
          have : shF_Hb rs 0 (fun _ => 0) = fun _ => 0 := by funext v; simp [shF_Hb]
          rw [this]
          exact .zero
        | succ p ih =>
          intro hp
          obtain ⟨f1, f2⟩ := hf p
          have := reach_fire (ks := timesL k rs) xs _ (ih (by omega)) f1 fun j hj => by
            rw [f2, repAt_times]
            show ((p + 1 : Nat) : Int) * repAt rs j + 0 ≤ k * repAt rs j
            have h1 := repAt_lt hall (f := j) (by omega)
            have := Int.mul_le_mul_of_nonneg_right (show ((p + 1 : Nat) : Int) ≤ k by omega) (show 0 ≤ repAt rs j by omega)
            omega
          rw [f2] at this
          exact this
      have hG : shF_Hb rs k (fun _ => 0) = fun v : Nat => repAt (timesL k rs) v := by
        funext v
        rw [repAt_times]
        show (k : Int) * repAt rs v + 0 = _
        omega
      have hRk := hR k (Nat.le_refl _)
      rw [hG] at hRk
      have hlz : ∀ v : Nat, ¬ 0 < leftF (timesL k rs) (fun v : Nat => repAt (timesL k rs) v) v := fun v => by show ¬ 0 < repAt (timesL k rs) v - repAt (timesL k rs) v; omega
      have hFk : Final ars n (timesL k rs) fun v : Nat => repAt (timesL k rs) v := fun v _ hl => absurd hl (hlz v)
      rw [Int.toNat_natCast]
      unfold ansF
      rw [if_pos h', Int.toNat_natCast]
      obtain ⟨c1, c2, -, -⟩ := runF_end (pickS_ok ars n (timesL k rs) []) (pickS_all ars n (timesL k rs) []) (leftSum n (leftF (timesL k rs) fun _ => 0)) (fun _ => 0) .zero (Nat.le_refl _)
      generalize runF (pickS ars n (timesL k rs) []) (leftSum n (leftF (timesL k rs) fun _ => 0)) (fun _ => 0) = r at *
      have e := end_one hN c1 c2 hRk hFk
      unfold endF
      rw [e, if_pos]
      unfold blocksF
      rw [List.map_eq_nil_iff, List.filter_eq_nil_iff]
      intro v _
      simpa using hlz v
    · intro hb'
      refine Decidable.byContradiction fun hb => ?_
      obtain ⟨F, vs, -, hV, hlt⟩ := home_blocks h hb
      obtain ⟨v, hv⟩ := List.exists_mem_of_length_pos hV.ne
      rw [Int.toNat_natCast] at hb'
      unfold ansF at hb'
      rw [if_pos h', Int.toNat_natCast] at hb'
      obtain ⟨c1, c2, -, -⟩ := runF_end (pickS_ok ars n (timesL k rs) []) (pickS_all ars n (timesL k rs) []) (leftSum n (leftF (timesL k rs) fun _ => 0)) (fun _ => 0) .zero (Nat.le_refl _)
      generalize runF (pickS ars n (timesL k rs) []) (leftSum n (leftF (timesL k rs) fun _ => 0)) (fun _ => 0) = r at *
      unfold endF at hb'
      by_cases hbl : blocksF ars n r.2 (leftF (timesL k rs) r.2) n = []
      · have hle := c1.le_reps fun v hv => by have := repAt_lt hall' (f := v) (by omega); omega
        have hr := left_none hlen' hle c1.far hbl
        have h1 := held_bound hN hV c1 v hv
        have h2 := hlt v hv
        have hvn := hV.lt v hv
        have h3 : r.2 v = k * repAt rs v := by rw [hr]; exact repAt_times _ _ _
        have h4 := repAt_lt hall (f := v) (by omega)
        have h5 := Int.mul_le_mul_of_nonneg_right (show (1 : Int) ≤ k by omega) (show 0 ≤ repAt rs v by omega)
        omega
      · rw [if_neg hbl] at hb'
        exact hbl hb'
  refine ⟨hiff, ?_⟩
  by_cases hb : (ansF (pickS ars (n : Int).toNat rs []) n ars rs []).2 = []
  · have h1 := ans_length h hb
    have h2 := ans_length h' (hiff.1 hb)
    have hs : sumF (timesL k rs) = k * sumF rs := by
      have := foldl_times k rs 0
      rw [Int.mul_zero] at this
      exact this
    rw [hs, ← h1] at h2
    exact Int.ofNat.inj (by rw [Int.ofNat_eq_natCast, Int.ofNat_eq_natCast, Int.natCast_mul]; exact h2)
  · rw [ans_none h hb, ans_none h' fun hc => hb (hiff.2 hc)]
    simp
end Go.Proofs.YtpmlljbebdidgaaDoor
