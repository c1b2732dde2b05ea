/-
  stuck.Confirm: blocks that hold each other are confirmed.
-/
import Derived.Test.YtdogddngiolpoaaSx
import Derived.Maps.OwnSet
namespace Go.Proofs.Ytdogddngiolpoaa
open Go.RowKit Go.Maps

def blkN (ars : List ArcV) (F : Nat → Int) (v : Nat) : BlkV := ⟨v, F v, optI (shortO ars F v)⟩
/-- nodes that hold each other back -/
structure HeldV (n : Nat) (ars : List ArcV) (F : Nat → Int) (vs : List Nat) : Prop where
  ne : 0 < vs.length
  nd : vs.Nodup
  lt : ∀ v ∈ vs, v < n
  fired : ∀ v ∈ vs, 0 ≤ F v ∧ F v ≤ 4096
  arc : ∀ v ∈ vs, ∃ i u : Nat, shortO ars F v = some i ∧ i < ars.length ∧ (arcAt ars i).t = v ∧ (arcAt ars i).f = u ∧ u ∈ vs ∧ (arcAt ars i).s + (arcAt ars i).g * F u < (arcAt ars i).k * (F v + 1)
/-- what has fired, as a map -/
def putF (F : Nat → Int) (D : DataW Unit) (v : Nat) : DataW Unit := D.put (.int .i64 (v : Int)) (.lit (.int .i64 (F v)))
def mapD (F : Nat → Int) (vs : List Nat) : DataW Unit := vs.foldl (putF F) (.map [])
theorem keyN (v : Nat) : WideAt.IsKeyLit (.int .i64 (v : Int)) := trivial
theorem fold_map (F : Nat → Int) : ∀ (vs : List Nat) (D : DataW Unit), IsMap D → (∀ v ∈ vs, v < 1000000) → ∀ u : Nat, u < 1000000 →
    IsMap (vs.foldl (putF F) D) ∧
    Maps.has (vs.foldl (putF F) D) (.int .i64 (u : Int)) = (decide (u ∈ vs) || Maps.has D (.int .i64 (u : Int))) ∧
    ∀ z, (vs.foldl (putF F) D).atKey (.int .i64 (u : Int)) z = if u ∈ vs then .lit (.int .i64 (F u)) else D.atKey (.int .i64 (u : Int)) z := by
  intro vs
  induction vs with
  | nil => intro D hD _ u _; exact ⟨hD, by simp, fun z => by simp⟩
  | cons v vs ih =>
    intro D hD hlt u hu
    obtain ⟨h1, h2, h3⟩ := ih (putF F D v) (hD.put _ _) (fun x hx => hlt x (by simp [hx])) u hu
    refine ⟨h1, ?_, fun z => ?_⟩
    · rw [List.foldl_cons, h2]
      unfold putF
      by_cases e : u = v
      · subst e
        rw [has_put_same hD (keyN _)]
        simp
      · rw [has_put_other (fun hc => by injection hc with _ hc; omega)]
        simp [e]
    · rw [List.foldl_cons, h3]
      unfold putF
      by_cases e : u = v
      · subst e
        rw [atKey_put_same hD (keyN _)]
        simp
      · rw [atKey_put_other (fun hc => by injection hc with _ hc; omega)]
        simp [e]
theorem mapD_snoc (F : Nat → Int) (vs : List Nat) (v : Nat) : mapD F (vs ++ [v]) = (mapD F vs).put (.int .i64 (v : Int)) (.lit (.int .i64 (F v))) := by simp [mapD, putF]
theorem mapD_has (F : Nat → Int) {vs : List Nat} (h : ∀ v ∈ vs, v < 1000000) {u : Nat} (hu : u < 1000000) : Maps.has (mapD F vs) (.int .i64 (u : Int)) = decide (u ∈ vs) := by
  unfold mapD
  rw [(fold_map F vs _ isMap_empty h u hu).2.1]
  have : Maps.has (.map [] : DataW Unit) (.int .i64 (u : Int)) = false := rfl
  rw [this, Bool.or_false]
theorem mapD_at (F : Nat → Int) {vs : List Nat} (h : ∀ v ∈ vs, v < 1000000) {u : Nat} (hu : u ∈ vs) (z : DataW Unit) : (mapD F vs).atKey (.int .i64 (u : Int)) z = .lit (.int .i64 (F u)) := by
  unfold mapD
  rw [(fold_map F vs _ isMap_empty h u (h u hu)).2.2 z, if_pos hu]
theorem keyedI : Keyed Try.prog 3 := int_keyed Try.underlying3
theorem zeroI (w : World) : (zeroValue 3).run Try.prog w = .ok (.int .i64 0) w := by kernel_rfl

set_option maxRecDepth 100000 in
set_option maxHeartbeats 4000000 in
theorem confirm_yes (n : Nat) (ars : List ArcV) (A : Option Addr) (c : Nat) (F : Nat → Int) (vs : List Nat) (S : Option Addr) (m cs : Nat) (w : World) (hm : vs.length = m) (hC : checkF n ars = 0) (hN : NetOk n ars) (hr : Rd w w.heap.size A (cellsA ars))
    (hs : Rd w w.heap.size S (cellsB (vs.map (blkN ars F)))) (hV : HeldV n ars F vs) :
    Calls Try.prog 25 #[.agg #[.int .i64 n, .slice A ars.length c], .slice S m cs] w fun e w' => e = .returned (.int .i64 0) ∧ Below w.heap.size w w' := by
  have n32 := hN.n32
  have l96 := hN.l96
  have hmm := @run_makeMap Try.prog
  obtain ⟨B, hB⟩ : ∃ B, w.heap.size = B := ⟨_, rfl⟩
  rw [hB] at hr hs ⊢
  have hvl : m ≤ 1000 := by
    have h1 := hV.nd.length_le_of_subset (l₂ := List.range n) fun v hv => List.mem_range.2 (hV.lt v hv)
    rw [List.length_range] at h1
    omega
  have hlt0 : 0 < m := hm ▸ hV.ne
  have hsmall : ∀ v ∈ vs, v < 1000000 := fun v hv => by have := hV.lt v hv; omega
  have b1 := (Below.refl B w).alloc (by omega) (.cells #[.int .i64 n, .slice A ars.length c] 24)
  have k1 := Blk.new w B hB.symm 24 #[.int .i64 n, .slice A ars.length c]
  have hz1 : (w.alloc (.cells #[.int .i64 n, .slice A ars.length c] 24)).heap.size = B + 1 := by simp; omega
  have HV := Lib.hid hV
  have HC := Lib.hid hC
  have HN := Lib.hid hN
  have Hsm := Lib.hid hsmall
  have Hm := Lib.hid hm
  clear hV hC hN hsmall hm
  go_enter Try.func25, Try.ntmps25
  go_wp2_with fail
  generalize w.alloc (.cells #[.int .i64 n, .slice A ars.length c] 24) = W1 at *
  refine (check_any n ars A ars.length c W1 rfl HN.out.fit ((hr.below b1 (Nat.le_refl _)).more (by omega)) (by unfold maxLen; omega)).mono ?_
  rintro e w2 ⟨rfl, hb2⟩
  rw [HC.out]
  have b2 := b1.trans (hb2.mono (by omega))
  have k2 := k1.below hb2 (by omega)
  have hz2 := hb2.size
  clear b1 k1 hb2
  have hz : ((m : Int) == 0) = false := beq_eq_false_iff_ne.2 (by omega)
  obtain ⟨M, hM⟩ : ∃ M, w2.heap.size = M := ⟨_, rfl⟩
  have hmk := hmm
  have o3 := World.ownsMap_made w2 Try.prog 3 (plainElem (H := Unit) Try.prog 3)
  have b3 := b2.alloc (by omega) (.map #[] 0)
  have k3 := k2.alloc (.map #[] 0)
  have z3 : (w2.alloc (.map #[] 0)).heap.size = M + 1 := by simp; omega
  rw [hM] at o3
  go_wp2_with fail
  try rw [hM]
  go_loopw [28] (fun i wr => ∃ k : Nat, k ≤ m ∧ i = .int .i64 k ∧ Below B w wr ∧ Blk wr B 24 #[.int .i64 n, .slice A ars.length c] ∧ M < wr.heap.size ∧ wr.ownsMap Try.prog 3 (plainElem (H := Unit) Try.prog 3) M k (mapD F (vs.take k))) (fun i _ => m - (intOf i).toNat)
  case atStart => exact ⟨0, by omega, rfl, b3, k3, by omega, o3⟩
  case round =>
    clear o3 b3 k3 z3 b2 k2
    obtain ⟨k, hk, rfl, hb, kb, hMw, ho⟩ := hrel
    by_cases hlt : k < m
    · have hkv : k < vs.length := by rw [Hm.out]; exact hlt
      obtain ⟨v, hv⟩ : ∃ v, vs[k]? = some v := ⟨_, List.getElem?_eq_getElem hkv⟩
      have hvm := List.mem_of_getElem? hv
      obtain ⟨sb, so, x, rfl, c0, c1, c2, hx⟩ := (hs.below hb (Nat.le_refl _)).blkAt (k := k) (by rw [List.length_map]; exact hkv)
      obtain rfl : x = blkN ars F v := by have h := hx.out; rw [List.getElem?_map, hv] at h; exact (Option.some.inj h).symm
      simp only [blkN] at c0 c1 c2
      have hvn := HV.out.lt v hvm
      have hvf := HV.out.fired v hvm
      obtain ⟨f, hf⟩ : ∃ f, F v = f := ⟨_, rfl⟩
      obtain ⟨ai, hai⟩ : ∃ a, optI (shortO ars F v) = a := ⟨_, rfl⟩
      rw [hai] at c2
      have hin : v ∉ vs.take k := not_taken HV.out.nd hv
      have hnx : mapD F (vs.take (k + 1)) = (mapD F (vs.take k)).put (.int .i64 (v : Int)) (.lit (.int .i64 (F v))) := by rw [take_step hv, mapD_snoc]
      have hhas : Maps.has (mapD F (vs.take k)) (.int .i64 (v : Int)) = false := by rw [mapD_has F (fun u hu => Hsm.out u (List.mem_of_mem_take hu)) (Hsm.out v hvm)]; exact decide_eq_false hin
      generalize mapD F (vs.take k) = D at ho hnx hhas
      rw [hf] at c1 hvf hnx
      have ba := (Below.refl wr.heap.size wr).alloc (Nat.le_refl _) (.cells #[.int .i64 v, .int .i64 f, .int .i64 ai] 56)
      have kn := kb.below ba kb.lt
      have ka := Blk.new wr _ rfl 56 #[.int .i64 v, .int .i64 f, .int .i64 ai]
      have on := ho.alloc (.cells #[.int .i64 v, .int .i64 f, .int .i64 ai] 56)
      have bn := hb.trans (ba.mono (by omega))
      have zn : (wr.alloc (.cells #[.int .i64 v, .int .i64 f, .int .i64 ai] 56)).heap.size = wr.heap.size + 1 := by simp
      have d0 := ka.cell 0
      have d1 := ka.cell 1
      have n0 := kn.cell 0
      simp at d0 d1 n0
      have hkey : keyOf Try.prog 3 (.int .i64 (v : Int)) = some (.int .i64 (v : Int)) := keyOf_int_mk Try.underlying3 (WalkArith.wf_i64 (by omega))
      have h1 : (0 : Int) ≤ (k : Int) := by omega
      have h2 : (k : Int) < (m : Int) := by omega
      have Hnx := Lib.hid hnx
      clear hb kb ho ba ka hx hin hnx hf hai
      go_wp2_with (first
        | (at_lookup; refine wpList_lookup_own_ok_int _ rfl _ _ 80 rfl 3 3 .i64 keyedI Try.underlying80 Try.underlying3 (zeroI _) M k D rfl on _ _ rfl hkey ?_; intro cv hat hwc)
        | (at_mapUpdate; refine wpList_mapUpdate_own _ rfl _ _ _ 80 rfl 3 3 keyedI Try.underlying80 _ M k D rfl on (by unfold maxLen; omega) _ _ _ rfl rfl hkey _ [] (plainElem_int Try.underlying3 (WalkArith.wf_i64 (by omega))) ?_; intro w4 hown4 hgrow4)
        | go_in)
      go_roundw
      case rel => exact ⟨k + 1, by omega, by go_num, bn.grown hgrow4 (by omega) (fun j hj => by cases hj; omega), kn.grown hgrow4 (by intro hc; cases hc; omega), by have := hgrow4.size; omega, Hnx.out ▸ hown4⟩
      case measure => simp [intOf]; omega
    · obtain rfl : k = m := by omega
      have hk2 : vs.take k = vs := List.take_of_length_le (by rw [Hm.out]; exact Nat.le_refl _)
      rw [hk2] at ho
      have HO := Lib.hid ho
      clear ho hk2
      go_wp2_with fail
      go_loopw [11, 70] (fun a i wx => ∃ q : Nat, q ≤ k ∧ i = .int .i64 q ∧ a = .bool false ∧ Below B w wx ∧ Blk wx B 24 #[.int .i64 n, .slice A ars.length c] ∧ M < wx.heap.size ∧ wx.ownsMap Try.prog 3 (plainElem (H := Unit) Try.prog 3) M k (mapD F vs)) (fun _ i _ => k - (intOf i).toNat)
      case atStart => exact ⟨0, by omega, rfl, rfl, hb, kb, hMw, HO.out⟩
      case round =>
        clear hb kb hMw HO
        obtain ⟨q, hq, rfl, rfl, hb, kb, hMw, ho⟩ := hrel
        by_cases hlt : q < k
        · have hkv : q < vs.length := by rw [Hm.out]; exact hlt
          obtain ⟨v, hv⟩ : ∃ v, vs[q]? = some v := ⟨_, List.getElem?_eq_getElem hkv⟩
          have hvm := List.mem_of_getElem? hv
          obtain ⟨sb, so, x, rfl, c0, c1, c2, hx⟩ := (hs.below hb (Nat.le_refl _)).blkAt (k := q) (by rw [List.length_map]; exact hkv)
          obtain rfl : x = blkN ars F v := by have h := hx.out; rw [List.getElem?_map, hv] at h; exact (Option.some.inj h).symm
          simp only [blkN] at c0 c1 c2
          have hvn := HV.out.lt v hvm
          have hvf := HV.out.fired v hvm
          obtain ⟨i, u, hsh, hi, hat, haf, hum, hll⟩ := HV.out.arc v hvm
          have huf := HV.out.fired u hum
          have hun := HV.out.lt u hum
          rw [hsh] at c2
          simp only [optI] at c2
          have hhas : Maps.has (mapD F vs) (.int .i64 (u : Int)) = true := by rw [mapD_has F Hsm.out (Hsm.out u hum)]; exact decide_eq_true hum
          have hD := mapD_at F Hsm.out hum (.lit (.int .i64 0))
          generalize mapD F vs = D at ho hhas hD
          obtain ⟨f, hf⟩ : ∃ f, F v = f := ⟨_, rfl⟩
          obtain ⟨fu, hfu⟩ : ∃ f, F u = f := ⟨_, rfl⟩
          rw [hf] at c1 hvf hll
          rw [hfu] at huf hll hD
          have ba := (Below.refl wr.heap.size wr).alloc (Nat.le_refl _) (.cells #[.int .i64 v, .int .i64 f, .int .i64 i] 56)
          have b4 := hb.trans (ba.mono (by omega))
          obtain ⟨ab, ao, a, rfl, -, -, e0, e1, e2, e3, e4, -, hax⟩ := (hr.below b4 (Nat.le_refl _)).arc HN.out.fit hi
          obtain rfl : a = arcAt ars i := (arcAt_some hax.out).symm
          obtain ⟨g1, g2, g3, g4, g5, g6, g7, g8, g9, g10⟩ := HN.out.ok _ (arcAt_mem hi)
          rw [haf] at e0
          rw [hat] at e1
          generalize (arcAt ars i).g = ag at *
          generalize (arcAt ars i).k = ak at *
          generalize (arcAt ars i).s = as_ at *
          clear hax g1 g2 g3 g4 hat haf hsh
          have m1 := Int.mul_nonneg (show 0 ≤ ag by omega) huf.1
          have m2 := Int.mul_le_mul g6 huf.2 huf.1 (show (0 : Int) ≤ 64 by omega)
          have m3 := Int.mul_nonneg (show 0 ≤ ak by omega) (show 0 ≤ f + 1 by omega)
          have m4 := Int.mul_le_mul g8 (show f + 1 ≤ 4097 by omega) (show 0 ≤ f + 1 by omega) (show (0 : Int) ≤ 64 by omega)
          have hall : ∀ cv : Int, D.atKey (.int .i64 (u : Int)) (.lit (.int .i64 0)) = .lit (.int .i64 cv) → IntKind.i64.wrap (ag * cv) = ag * cv ∧ IntKind.i64.wrap (as_ + ag * cv) = as_ + ag * cv ∧ IntKind.i64.wrap (f + 1) = f + 1 ∧ IntKind.i64.wrap (ak * (f + 1)) = ak * (f + 1) ∧ decide (ak * (f + 1) ≤ as_ + ag * cv) = false := by
            intro cv h
            rw [hD] at h
            injection h with h
            injection h with _ h
            subst h
            exact ⟨IntWalk.i64_in _ (by omega), IntWalk.i64_in _ (by omega), IntWalk.i64_in _ (by omega), IntWalk.i64_in _ (by omega), decide_eq_false (by omega)⟩
          have Hall := Lib.hid hall
          obtain ⟨W4, hW4⟩ : ∃ W, wr.alloc (.cells #[.int .i64 v, .int .i64 f, .int .i64 i] 56) = W := ⟨_, rfl⟩
          have kn := kb.below ba kb.lt
          have ka := Blk.new wr _ rfl 56 #[.int .i64 v, .int .i64 f, .int .i64 i]
          have on := ho.alloc (.cells #[.int .i64 v, .int .i64 f, .int .i64 i] 56)
          have zn : (wr.alloc (.cells #[.int .i64 v, .int .i64 f, .int .i64 i] 56)).heap.size = wr.heap.size + 1 := by simp
          rw [hW4] at kn ka on zn e0 e1 e2 e3 e4 b4
          have bb := (Below.refl W4.heap.size W4).alloc (Nat.le_refl _) (.cells #[.int .i64 u, .int .i64 v, .int .i64 ag, .int .i64 ak, .int .i64 as_] 52)
          have b5 := b4.trans (bb.mono (by omega))
          have kn5 := kn.below bb kn.lt
          have ka5 := ka.below bb ka.lt
          have kc := Blk.new W4 _ rfl 52 #[.int .i64 u, .int .i64 v, .int .i64 ag, .int .i64 ak, .int .i64 as_]
          have on5 := on.alloc (.cells #[.int .i64 u, .int .i64 v, .int .i64 ag, .int .i64 ak, .int .i64 as_] 52)
          have zn5 : (W4.alloc (.cells #[.int .i64 u, .int .i64 v, .int .i64 ag, .int .i64 ak, .int .i64 as_] 52)).heap.size = W4.heap.size + 1 := by simp
          have p0 := kn.cell 0
          have p1 := kn.cell 1
          have s0 := ka.cell 0
          have s1 := ka.cell 1
          have s2 := ka.cell 2
          have t0 := ka5.cell 0
          have t1 := ka5.cell 1
          have r0 := kc.cell 0
          have r1 := kc.cell 1
          have r2 := kc.cell 2
          have r3 := kc.cell 3
          have r4 := kc.cell 4
          simp only [List.getElem?_toArray, List.getElem?_cons_zero, List.getElem?_cons_succ] at p0 p1 s0 s1 s2 t0 t1 r0 r1 r2 r3 r4
          have hkey : keyOf Try.prog 3 (.int .i64 (u : Int)) = some (.int .i64 (u : Int)) := keyOf_int_mk Try.underlying3 (WalkArith.wf_i64 (by omega))
          have h1 : (0 : Int) ≤ (q : Int) := by omega
          have h2 : (q : Int) < (k : Int) := by omega
          have h3 : (0 : Int) ≤ (i : Int) := by omega
          have h4 : (i : Int) < (ars.length : Int) := by omega
          have h5 : ((v : Int) != (v : Int)) = false := by simp
          clear hb kb ho ba bb hx hall hf hfu hll hD m1 m2 m3 m4 kn ka on kc ka5
          go_wp2_with (first
            | (at_lookup; refine wpList_lookup_own_ok_int _ rfl _ _ 80 rfl 3 3 .i64 keyedI Try.underlying80 Try.underlying3 (zeroI _) M k D rfl on5 _ _ rfl hkey ?_; intro cv hat hwc; obtain ⟨q1, q2, q3, q4, q5⟩ := Hall.out cv hat; clear hat)
            | go_in)
          go_roundw
          case rel => exact ⟨q + 1, by omega, by go_num, rfl, b5, kn5, by omega, on5⟩
          case measure => simp [intOf]; omega
        · have HB := Lib.hid hb
          go_wp2_with fail
          go_ret
          exact ⟨rfl, HB.out⟩
end Go.Proofs.Ytdogddngiolpoaa
