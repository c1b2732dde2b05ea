/-
  Steps as new memory, compared; WitnessProducts.
-/
import Derived.Test.YtkheoaleamolcaaDoorVk
import Derived.Test.YtkheoaleamolcaaDoorVf
namespace Go.Proofs.YtkheoaleamolcaaDoor
open Go.RowKit

def two {α : Type} (a b : α) : Nat → α := fun j => if j = 0 then a else b

/-- Apart of two lists -/
theorem apart_two (A A' : Option Addr) (c c' : Nat) (xs xs' : List Int) (bo B : Nat) (w : World) (hn : xs.length ≤ 100000) (hn' : xs'.length ≤ 100000)
    (ho : w.ownsRow B 3 1 (.slice A xs.length c) xs.length (cellsI xs)) (ho' : w.ownsRow B 3 1 (.slice A' xs'.length c') xs'.length (cellsI xs')) (hd : ∀ b, blkOf A = some b → blkOf A' ≠ some b)
    (h0 : w.cell? ⟨bo, 0, none⟩ = some (.slice A xs.length c)) (h1 : w.cell? ⟨bo, 1, none⟩ = some (.slice A' xs'.length c')) (hb : blkOf A ≠ some bo) (hb' : blkOf A' ≠ some bo) (hbo : bo < w.heap.size) (hB : B ≤ w.heap.size) :
    Calls Tryd.prog 13 #[.slice (some ⟨bo, 0, none⟩) 2 2] w fun e w' => e = .returned (.bool true) ∧ Below B w w' := by
  have cas : ∀ j, j < 2 → j = 0 ∨ j = 1 := fun j hj => by omega
  refine apart_any 2 (two A A') (two xs.length xs'.length) (two c c') (two xs xs') bo 0 2 B w (by omega) ?_ ?_ ?_ ?_ ?_ hbo hB
  · intro j hj; rcases cas j hj with rfl | rfl
    · exact Nat.le_trans hn (by decide)
    · exact Nat.le_trans hn' (by decide)
  · intro j hj; rcases cas j hj with rfl | rfl
    · exact ho
    · exact ho'
  · intro j k hj hk hne b hbj
    rcases cas j hj with rfl | rfl <;> rcases cas k hk with rfl | rfl
    · omega
    · exact hd b hbj
    · intro he; exact hd b he hbj
    · omega
  · intro j hj; rcases cas j hj with rfl | rfl
    · exact h0
    · exact h1
  · intro j hj; rcases cas j hj with rfl | rfl
    · exact hb
    · exact hb'

set_option maxHeartbeats 400000 in
theorem sameT_yes (xs : List StI) (A A' : Option Addr) (n c c' B B' : Nat) (w : World) (hn : xs.length = n) (hr : Rd w B A (cellsT xs)) (hr' : Rd w B' A' (cellsT xs)) (hxs : FitT xs) (hl : n ≤ maxLen) :
    Calls Tryd.prog 12 #[.slice A n c, .slice A' n c'] w fun e w' => e = .returned (.bool true) ∧ Drawn w w' := by
  subst hn
  unfold maxLen at hl
  go_enter Tryd.func12, Tryd.ntmps12
  go_wp2
  go_loopw [5] (fun i wr => ∃ k : Nat, k ≤ xs.length ∧ i = .int .i64 k ∧ Drawn w wr) (fun i _ => xs.length - (intOf i).toNat)
  case atStart => exact ⟨0, by omega, rfl, Drawn.refl w⟩
  case round =>
    obtain ⟨k, hk, rfl, hdw⟩ := hrel
    by_cases hlt : k < xs.length
    · obtain ⟨b, off, x, y, rfl, hb, hf, hc1, hc2, hd, hxx⟩ := (hdw.rd hr).sti hxs hlt
      obtain ⟨b', off', x', y', rfl, hb', hf', hc1', hc2', hd', hxx'⟩ := (hdw.rd hr').sti hxs hlt
      obtain ⟨rfl, rfl⟩ : x' = x ∧ y' = y := by have h := hxx.out; rw [hxx'.out] at h; injection h with h; exact ⟨congrArg Prod.fst h, congrArg Prod.snd h⟩
      have h1 : (0 : Int) ≤ (k : Int) := by omega
      have h2 : (k : Int) < (xs.length : Int) := by omega
      go_wp2
      go_quiet (fail)
      go_wp2
      go_roundw
      case rel => exact ⟨k + 1, by omega, by go_num, hdw.drewN _⟩
      case measure => simp [intOf]; omega
    · go_wp2
      go_ret
      exact ⟨rfl, hdw⟩


set_option maxHeartbeats 1000000 in
theorem stepsCopy_any (p : List StI) (A : Option Addr) (n c : Nat) (w : World) (hn : p.length = n) (hr : Rd w w.heap.size A (cellsT p)) (hz : n * 16 ≤ 140737488351232) :
    Calls Tryd.prog 9 #[.slice A n c] w fun e w' => ∃ A' c', e = .returned (.slice A' n c') ∧ n ≤ c' ∧ w'.ownsRow w.heap.size 43 2 (.slice A' n c') n (cellsT p) ∧ Below w.heap.size w w' := by
  obtain ⟨i1, hj, hy0, hy1, hy2⟩ := info_parts info_step
  have hcl : (cellsT p).length = n * 2 := by rw [cellsT_length, hn]
  clear hn
  go_enter Tryd.func9, Tryd.ntmps9
  go_wp2_with (at_builtin; refine wpList_append_rd _ rfl _ _ 25 rfl w.heap.size 43 i1 (.agg #[.int .i64 0, .bool false]) 2 16 Tryd.underlying25 hj hy0 hy1 hy2 rfl (by decide) _ 0 [] rfl (World.ownsRow_nil _ _ _ _) w.heap.size A n c (cellsT p) rfl hcl hr (cellsT_one p) (by unfold maxLen; omega) (by omega) (Nat.le_refl _) ?_)
  intro v' w3 o3 g3 hb3
  obtain ⟨A3, c3, rfl, hc3⟩ := own_slice o3
  have b3 : Below w.heap.size w w3 := (Below.refl _ _).grown g3 (Nat.le_refl _) (fun k hk => by simp [Value.ownBlock] at hk)
  have H := Lib.hid (And.intro hc3 (And.intro o3 b3))
  clear o3 g3 hb3 b3 hc3
  go_wp2
  go_ret
  exact ⟨A3, c3, rfl, by have := H.out.1; omega, by simpa using H.out.2.1, H.out.2.2⟩

theorem prods_fit {n : Int} {ars : List ArcV} (hx : ∀ a ∈ ars, a.fit) (p : List StI) : AllFit (prodsF n ars p).1 ∧ AllFit (prodsF n ars p).2.1 ∧ (prodsF n ars p).1.length ≤ 96 ∧ (prodsF n ars p).2.1.length ≤ 96 := by
  have nil : AllFit [] := fun x h => (by cases h)
  unfold prodsF
  split
  · exact ⟨nil, nil, by simp, by simp⟩
  · split
    · exact ⟨nil, nil, by simp, by simp⟩
    · split
      · have key : ∀ s : StI, (arcOf ars s).fit := by
          intro s
          unfold arcOf
          rw [List.getD_eq_getElem?_getD]
          cases h : ars[s.1.toNat]? with
          | none => simp [ArcV.fit, fits]
          | some a => exact hx a (List.mem_of_getElem? h)
        refine ⟨fun x h => ?_, fun x h => ?_, by simp; omega, by simp; omega⟩
        · obtain ⟨s, _, rfl⟩ := List.mem_map.1 h
          unfold giveS; split
          · exact (key s).2.2.2.1
          · exact (key s).2.2.1
        · obtain ⟨s, _, rfl⟩ := List.mem_map.1 h
          unfold takeS; split
          · exact (key s).2.2.1
          · exact (key s).2.2.2.1
      · exact ⟨nil, nil, by simp, by simp⟩

set_option maxRecDepth 100000 in
set_option maxHeartbeats 8000000 in
theorem wproducts_any (n : Int) (ars : List ArcV) (A : Option Addr) (l c : Nat) (p : List StI) (Ap : Option Addr) (m cp : Nat) (w : World) (hl : ars.length = l) (hx : ∀ a ∈ ars, a.fit) (hr : Rd w w.heap.size A (cellsA ars)) (hm : l ≤ maxLen)
    (hp : p.length = m) (hmc : m ≤ cp) (hxp : FitT p) (hrp : Rd w w.heap.size Ap (cellsT p)) (hz : cp * 16 ≤ 140737488351232) (hT : Tab w) :
    Calls Tryd.prog 3 #[.agg #[.int .i64 n, .slice A l c], .slice Ap m cp] w fun e w' => e = .returned (.bool true) ∧ Below w.heap.size w w' := by
  obtain ⟨W, hW⟩ : ∃ W, w.alloc (.cells #[.int .i64 n, .slice A l c] 24) = W := ⟨_, rfl⟩
  have bW : Below w.heap.size w W := by subst hW; exact (Below.refl _ _).alloc (Nat.le_refl _) _
  have k0 : Blk W w.heap.size 24 #[.int .i64 n, .slice A l c] := by subst hW; exact Blk.new w _ rfl _ _
  have hWs : W.heap.size = w.heap.size + 1 := by subst hW; simp
  have mm : m ≤ maxLen := by unfold maxLen; omega
  have zz : m * 16 ≤ 140737488351232 := by omega
  have TO := Lib.hid (fun w1 (hb : Below w.heap.size w w1) => hT.below hb hT.pos)
  have FA := Lib.hid (fun w1 (hb : Below w.heap.size w w1) => (hr.below hb (Nat.le_refl _)).more hb.size)
  have FP := Lib.hid (fun w1 (hb : Below w.heap.size w w1) => (hrp.below hb (Nat.le_refl _)).more hb.size)
  have hc1 := refProducts_any n ars A l c p Ap m cp W hl hx (FA.out W bW) hm hp hxp (FP.out W bW) mm
  have HPR := Lib.hid (fun (Aq : Option Addr) (cq : Nat) (w1 : World) (hb : Below w.heap.size w w1) (hrq : Rd w1 w1.heap.size Aq (cellsT p)) => products_any n ars A l c p Aq m cq w1 hl hx (FA.out w1 hb) hm hp hxp hrq mm)
  have HCP := Lib.hid (fun (w1 : World) (hr1 : Rd w1 w1.heap.size Ap (cellsT p)) => stepsCopy_any p Ap m cp w1 hp hr1 zz)
  obtain ⟨fa, fb, la96, lb96⟩ := prods_fit (n := n) hx p
  obtain ⟨la, hla⟩ : ∃ x, (prodsF n ars p).1 = x := ⟨_, rfl⟩
  obtain ⟨lb, hlb⟩ : ∃ x, (prodsF n ars p).2.1 = x := ⟨_, rfl⟩
  obtain ⟨e0, he0⟩ : ∃ x, (prodsF n ars p).2.2 = x := ⟨_, rfl⟩
  rw [hla, hlb, he0] at hc1 HPR
  rw [hla] at fa la96
  rw [hlb] at fb lb96
  have HC1 := Lib.hid hc1
  have HP := Lib.hid hp
  have HXP := Lib.hid hxp
  have HFA := Lib.hid fa
  have HFB := Lib.hid fb
  have K0 := Lib.hid k0
  have f0 := k0.cell 0
  have f1 := k0.cell 1
  simp at f0 f1
  clear hT hr hrp hx hxp hc1 k0 hp hl hla hlb he0 fa fb
  go_enter Tryd.func3, Tryd.ntmps3
  go_wp2_with fail
  try rw [hW]
  refine HC1.out.mono ?_
  rintro e w2 ⟨Aa, Ab, ca, cb, rfl, oa, ob, -, hb2⟩
  have b2 := bW.trans (hb2.mono (by omega))
  have k2 := K0.out.lowr hb2 (by omega)
  have K2 := Lib.hid k2
  have RA := Lib.hid (rd_of_own oa)
  have RB := Lib.hid (rd_of_own ob)
  have hlw := k2.lt
  clear hW hb2 bW k2 HC1 K0 oa ob f0 f1
  go_wp2_with fail
  refine (HCP.out w2 (FP.out w2 b2)).mono ?_
  rintro e w3 ⟨A5, c5, rfl, hc5, o5, hb3⟩
  have b3 := b2.trans (hb3.mono b2.size)
  have k3 := K2.out.lowr hb3 hlw
  have f0 := k3.cell 0
  have f1 := k3.cell 1
  simp at f0 f1
  have RA := Lib.hid ((RA.out.below hb3 (Nat.le_refl _)).more hb3.size)
  have RB := Lib.hid ((RB.out.below hb3 (Nat.le_refl _)).more hb3.size)
  have R5 := Lib.hid (rd_of_own o5)
  clear hb3 b2 k3 K2 o5
  go_wp2_with fail
  refine (HPR.out A5 c5 w3 b3 R5.out).mono ?_
  rintro e w4 ⟨Ac, Ad, cc, cd, rfl, oc, od, hne, hb4⟩
  have b4 := b3.trans (hb4.mono b3.size)
  have RA := Lib.hid ((RA.out.below hb4 (Nat.le_refl _)).more hb4.size)
  have RB := Lib.hid ((RB.out.below hb4 (Nat.le_refl _)).more hb4.size)
  have R5 := Lib.hid ((R5.out.below hb4 (Nat.le_refl _)).more hb4.size)
  have OC := Lib.hid oc
  have OD := Lib.hid od
  have HNE := Lib.hid hne
  have hs3 := hb4.size
  have q0 : (e0 != e0) = false := by simp
  clear f0 f1 hb4 oc od hne hlw HPR HCP
  go_wp2_with fail
  refine (sameInts_yes la Aa Ac la.length ca cc _ _ w4 rfl HFA.out RA.out (rd_of_own OC.out) (by unfold maxLen; omega)).mono ?_
  rintro e w5 ⟨rfl, d1, rfl⟩
  go_wp2_with fail
  refine (sameInts_yes lb Ab Ad lb.length cb cd _ _ _ rfl HFB.out (Drawn.rd ⟨d1, rfl⟩ RB.out) (Drawn.rd ⟨d1, rfl⟩ (rd_of_own OD.out)) (by unfold maxLen; omega)).mono ?_
  rintro e w6 ⟨rfl, d2, rfl⟩
  go_wp2_with fail
  refine (sameT_yes p A5 Ap m c5 cp _ _ _ HP.out (Drawn.rd ⟨d1 + d2, rfl⟩ R5.out) (Drawn.rd ⟨d1 + d2, rfl⟩ (FP.out w4 b4)) HXP.out mm).mono ?_
  rintro e w7 ⟨rfl, d3, rfl⟩
  obtain ⟨W7, hW7⟩ : ∃ W, (w4.drewN (d1 + d2)).drewN d3 = W := ⟨_, rfl⟩
  have b7 : Below w.heap.size w W7 := by rw [← hW7]; exact Below.drewN (Below.drewN b4 _) _
  have oc7 : W7.ownsRow w3.heap.size 3 1 (.slice Ac la.length cc) la.length (cellsI la) := by rw [← hW7]; exact OC.out
  have od7 : W7.ownsRow w3.heap.size 3 1 (.slice Ad lb.length cd) lb.length (cellsI lb) := by rw [← hW7]; exact OD.out
  have hs7 : w3.heap.size ≤ W7.heap.size := by rw [← hW7]; exact hs3
  try rw [World.drewN_drewN] at hW7
  have k7 := Blk.new W7 _ rfl 26 #[.slice Ac la.length cc, .slice Ad lb.length cd]
  have ba := (Below.refl W7.heap.size W7).alloc (Nat.le_refl _) (.cells #[.slice Ac la.length cc, .slice Ad lb.length cd] 26)
  have g0 := k7.cell 0
  have g1 := k7.cell 1
  simp only [List.getElem?_toArray, List.getElem?_cons_zero, List.getElem?_cons_succ] at g0 g1
  have hoc := oc7.lt
  have hod := od7.lt
  have AP := Lib.hid (apart_two Ac Ad cc cd la lb W7.heap.size w3.heap.size _ (by omega) (by omega) (own_below oc7 ba) (own_below od7 ba) HNE.out g0 g1 (fun h => by have := (hoc W7.heap.size (by rw [ownBlock_slice]; exact h)).2; omega) (fun h => by have := (hod W7.heap.size (by rw [ownBlock_slice]; exact h)).2; omega) (by simp) (by simp; omega))
  have BA := Lib.hid ba
  clear oc7 od7 k7 ba g0 g1 hoc hod b4 OC OD HNE RA RB R5 HP HXP HFA HFB FP FA
  go_wp2_with fail
  try rw [hW7]
  refine AP.out.mono ?_
  rintro e w8 ⟨rfl, hb8⟩
  have b8 := (b7.trans (BA.out.mono b7.size)).trans (hb8.mono b3.size)
  clear hb8 AP BA
  go_wp2_with fail
  refine (awake_any w8 (TO.out w8 b8)).mono ?_
  rintro e w9 ⟨rfl, hb9⟩
  have b9 := b8.trans (hb9.mono b8.size)
  clear hb9
  go_wp2_with fail
  go_ret
  exact ⟨rfl, b9⟩
end Go.Proofs.YtkheoaleamolcaaDoor
