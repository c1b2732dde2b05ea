/-
  BalanceStarts: what is there at the start does not matter.
-/
import Derived.Test.YtlpmnhllnfhkdaaDoorZa
import Derived.Test.YtlpmnhllnfhkdaaDoorYw
import Derived.Test.YtlpmnhllnfhkdaaDoorM9
namespace Go.Proofs.YtlpmnhllnfhkdaaDoor
open Go.RowKit

/-- all blocks but a row's own are as they were -/
structure OnlyV (v : Value) (w w' : World) : Prop where
  os : w'.os = w.os
  tape : w'.tape = w.tape
  output : w'.output = w.output
  size : w.heap.size ≤ w'.heap.size
  block : ∀ k, k < w.heap.size → v.ownBlock ≠ some k → w'.heap[k]? = w.heap[k]?
theorem OnlyV.refl (v : Value) (w : World) : OnlyV v w w := ⟨rfl, rfl, rfl, Nat.le_refl _, fun _ _ _ => rfl⟩
theorem OnlyV.trans {v : Value} {a b c : World} (h : OnlyV v a b) (h' : OnlyV v b c) : OnlyV v a c :=
  ⟨h'.os.trans h.os, h'.tape.trans h.tape, h'.output.trans h.output, Nat.le_trans h.size h'.size, fun k hk hn => (h'.block k (Nat.lt_of_lt_of_le hk h.size) hn).trans (h.block k hk hn)⟩
theorem onlyV_below {w w' : World} (h : Below w.heap.size w w') (v : Value) : OnlyV v w w' := ⟨h.os, h.tape, h.output, h.size, fun k hk _ => h.block k hk⟩
theorem onlyV_set (w : World) (g j n c : Nat) (u : Value) : OnlyV (.slice (some ⟨g, 0, none⟩) n c) w (w.setCell ⟨g, j, none⟩ u) :=
  ⟨rfl, rfl, rfl, by simp [World.setCell], fun k _ hn => Below.heap_setCell _ _ _ _ (fun he => hn (by simp only at he; rw [he]; rfl))⟩
theorem OnlyV.blk {v : Value} {w w' : World} (h : OnlyV v w w') {k : Nat} {t : TypeId} {cs : Array Value} (hk : Blk w k t cs) (hn : v.ownBlock ≠ some k) : Blk w' k t cs := (h.block k hk.lt hn).trans hk
theorem OnlyV.rd {v : Value} {w w' : World} (h : OnlyV v w w') {B : Nat} {A : Option Addr} {cs : List Value} (hr : Rd w B A cs) (hB : B ≤ w.heap.size) (hA : ∀ b, b < B → v.ownBlock ≠ some b) : Rd w' B A cs := by
  rcases hr with hr | ⟨b, off, rfl, hb, hc⟩
  · exact .inl hr
  · refine .inr ⟨b, off, rfl, hb, fun j u hu => ?_⟩
    rw [World.cell?_of_block (w := w) (a := ⟨b, off + j, none⟩) (h.block b (by omega) (hA b hb))]
    exact hc j u hu
theorem own_heap {w : World} {base : Nat} {e : TypeId} {size n : Nat} {v : Value} {xs : List Value} (h : w.ownsRow base e size v n xs) {g : Nat} (hg : v.ownBlock = some g) : ∃ cur, w.heap[g]? = some (.cells cur e (0, 0)) := by
  rcases h.2 with ⟨rfl, _⟩ | ⟨g', cap, cur, rfl, _, hh, _⟩
  · simp [Value.ownBlock] at hg
  · simp [Value.ownBlock] at hg
    subst hg
    exact ⟨cur, hh⟩
/-- rows of different kinds lie apart -/
theorem rows_ne {w : World} {b1 b2 : Nat} {e1 e2 : TypeId} {s1 s2 n1 n2 : Nat} {v1 v2 : Value} {x1 x2 : List Value} (h1 : w.ownsRow b1 e1 s1 v1 n1 x1) (h2 : w.ownsRow b2 e2 s2 v2 n2 x2) (hne : e1 ≠ e2) {g : Nat} (hg : v1.ownBlock = some g) : v2.ownBlock ≠ some g := fun hg2 => by
  obtain ⟨c1, hc1⟩ := own_heap h1 hg
  obtain ⟨c2, hc2⟩ := own_heap h2 hg2
  rw [hc1] at hc2
  injection hc2 with hc2
  injection hc2 with _ ht
  exact hne ht
theorem OnlyV.own {v : Value} {w w' : World} (h : OnlyV v w w') {base : Nat} {e : TypeId} {size n : Nat} {u : Value} {xs : List Value} (ho : w.ownsRow base e size u n xs) (hA : ∀ g, u.ownBlock = some g → v.ownBlock ≠ some g) : w'.ownsRow base e size u n xs := by
  have hlt := ho.lt
  obtain ⟨h1, h2⟩ := ho
  refine ⟨h1, ?_⟩
  rcases h2 with h2 | ⟨k, cap, cur, rfl, hk, hh, hr⟩
  · exact .inl h2
  · exact .inr ⟨k, cap, cur, rfl, hk, by rw [h.block k (hlt k rfl).2 (hA k rfl)]; exact hh, hr⟩
theorem OnlyV.down {v : Value} {a w w' : World} (h : OnlyV v w w') (hb : Below a.heap.size a w) (hv : ∀ k, k < a.heap.size → v.ownBlock ≠ some k) : Below a.heap.size a w' :=
  hb.trans ⟨h.os, h.tape, h.output, h.size, fun k hk => h.block k (Nat.lt_of_lt_of_le hk hb.size) (hv k hk)⟩
/-- an arc with other tokens at the start -/
def withS (a : ArcV) (x : Int) : ArcV := ⟨a.f, a.t, a.g, a.k, x⟩
theorem cellsA_setS (ars : List ArcV) : ∀ (k : Nat) (a : ArcV) (x : Int), ars[k]? = some a → (cellsA ars).set (k * 5 + 4) (.int .i64 x) = cellsA (ars.set k (withS a x)) := by
  induction ars with
  | nil => intro k a x h; simp at h
  | cons b ars ih =>
    intro k a x h
    cases k with
    | zero =>
      simp at h
      subst h
      simp [cellsA_cons, ArcV.cells, withS]
    | succ k =>
      simp at h
      rw [List.set_cons_succ, cellsA_cons, cellsA_cons, ← ih k a x h, show (k + 1) * 5 + 4 = k * 5 + 4 + 5 by omega]
      simp [ArcV.cells]
theorem sim_setS {ars ars' : List ArcV} {k : Nat} {a : ArcV} {x : Int} (h : Sim ars ars') (ha : ars'[k]? = some a) : Sim ars (ars'.set k (withS a x)) := by
  refine Eq.trans h ?_
  refine List.ext_getElem? fun i => ?_
  rw [List.getElem?_map, List.getElem?_map, List.getElem?_set]
  by_cases hki : k = i
  · subst hki
    have := (List.getElem?_eq_some_iff.1 ha).1
    rw [if_pos rfl, if_pos this, ha]
    rfl
  · rw [if_neg hki]
theorem sol_fit {n : Int} {ars : List ArcV} {vd k : Int} {reps : List Int} {cyc : List Stp} (h : SolA n ars vd reps cyc k) : AllFit reps := by
  rcases h with ⟨-, -, -, rfl, -⟩ | ⟨-, -, m, rfl, h⟩
  · intro x hx; cases hx
  · rcases h with ⟨-, -, rfl, -⟩ | ⟨-, -, rfl, -⟩ | ⟨hb, -, -, rfl, -⟩
    · intro x hx; cases hx
    · intro x hx; cases hx
    · exact rowN_fit hb
theorem sol_len {n : Int} {ars : List ArcV} {vd k : Int} {reps : List Int} {cyc : List Stp} (h : SolA n ars vd reps cyc k) : reps.length ≤ maxLen ∧ cyc.length ≤ maxLen := by
  unfold maxLen
  rcases h with ⟨-, -, -, rfl, rfl⟩ | ⟨hc, -, m, rfl, h⟩
  · simp
  · rcases h with ⟨-, -, rfl, rfl⟩ | ⟨-, -, rfl, i, a, p, -, hp, rfl⟩ | ⟨hb, -, -, rfl, rfl⟩
    · simp
    · have := path_len hp
      simp only [List.length_nil, List.length_cons]
      omega
    · rw [rowN_length]
      have := (checkF_ok hc).2.1
      simp only [List.length_nil]
      omega

set_option maxRecDepth 100000 in
set_option maxHeartbeats 8000000 in
theorem startsLaw_any (n : Int) (ars : List ArcV) (A : Option Addr) (l c : Nat) (xs : List Int) (R : Option Addr) (m cr : Nat) (w : World) (hl : ars.length = l) (hx : ∀ a ∈ ars, a.fit) (hr : Rd w w.heap.size A (cellsA ars)) (hm : l ≤ maxLen) (hlc : l ≤ c) (hzn : c * 40 ≤ 140737488351232)
    (hn : xs.length = m) (hc : m ≤ cr) (hfx : AllFit xs) (hrx : Rd w w.heap.size R (cellsI xs)) (hz : cr * 8 ≤ 140737488351232) (hT : Tab w) :
    Calls Tryd.prog 5 #[.agg #[.int .i64 n, .slice A l c], .slice R m cr] w fun e w' => e = .returned (.bool true) ∧ Below w.heap.size w w' := by
  have hmm : m ≤ 140737488351232 := by omega
  have hll : l * 40 ≤ 140737488351232 := by omega
  go_enter Tryd.func5, Tryd.ntmps5
  go_upto_region 1 with fail
  obtain ⟨W0, hW0⟩ : ∃ W, w.alloc (.cells #[.int .i64 n, .slice A l c] 24) = W := ⟨_, rfl⟩
  have BW := (Below.refl w.heap.size w).alloc (Nat.le_refl _) (.cells #[.int .i64 n, .slice A l c] 24)
  have kn := Blk.new w _ rfl 24 #[.int .i64 n, .slice A l c]
  rw [hW0] at BW kn ⊢
  have hrA := (hr.below BW (Nat.le_refl _)).more BW.size
  have hrX := (hrx.below BW (Nat.le_refl _)).more BW.size
  have hT0 := hT.below BW hT.pos
  have HW := Lib.hid BW
  have hsol := Lib.hid (solve_any n ars A l c W0 hl hx hrA hm hT0)
  obtain ⟨bn, hbn⟩ : ∃ b, w.heap.size = b := ⟨_, rfl⟩
  have HBN := Lib.hid hbn
  rw [hbn] at kn ⊢
  clear hW0 BW hr hrx hbn
  have n0 := kn.cell 0
  have n1 := kn.cell 1
  simp at n0 n1
  go_wp2_with fail
  refine hsol.out.mono ?_
  rintro e w1 ⟨vd, reps, cyc, k, Ar, cr1, Ac, cc, rfl, hs, -, -, oR, oC, hb1⟩
  obtain ⟨LR, hLR⟩ : ∃ L, reps.length = L := ⟨_, rfl⟩
  obtain ⟨LC, hLC⟩ : ∃ L, cyc.length = L := ⟨_, rfl⟩
  rw [hLR] at oR ⊢
  rw [hLC] at oC ⊢
  have HLR := Lib.hid hLR
  have HLC := Lib.hid hLC
  have HS := Lib.hid hs
  clear hsol n0 n1 hLR hLC hs
  obtain ⟨W2, hW2⟩ : ∃ W, w1.alloc (.cells #[.int .u8 vd, .slice Ar LR cr1, .slice Ac LC cc] 29) = W := ⟨_, rfl⟩
  have hb2 := (Below.refl w1.heap.size w1).alloc (Nat.le_refl _) (.cells #[.int .u8 vd, .slice Ar LR cr1, .slice Ac LC cc] 29)
  have kb2 := Blk.new w1 _ rfl 29 #[.int .u8 vd, .slice Ar LR cr1, .slice Ac LC cc]
  have oR2 := oR.alloc (.cells #[.int .u8 vd, .slice Ar LR cr1, .slice Ac LC cc] 29)
  have oC2 := oC.alloc (.cells #[.int .u8 vd, .slice Ar LR cr1, .slice Ac LC cc] 29)
  obtain ⟨bb, hbb⟩ : ∃ b, w1.heap.size = b := ⟨_, rfl⟩
  rw [hW2] at hb2 kb2 oR2 oC2
  have b12 := hb1.trans (hb2.mono hb1.size)
  rw [hbb] at kb2
  have kn2 := kn.below b12 kn.lt
  have hrA2 := (hrA.below b12 (Nat.le_refl _)).more b12.size
  have hrX2 := (hrX.below b12 (Nat.le_refl _)).more b12.size
  have hT2 := hT0.below b12 hT0.pos
  have B2 := Lib.hid (HW.out.trans (b12.mono HW.out.size))
  have n0 := kn2.cell 0
  have n1 := kn2.cell 1
  simp at n0 n1
  have HN := Lib.hid (netCopy_any n ars A l c W2 hl hrA2 hm hll)
  clear kn hrA hrX hT0 hb1 hb2 b12 HW oR oC
  go_upto_region 2 with fail
  try rw [hbb]
  try rw [hW2]
  clear hW2 hbb
  go_wp2_with fail
  refine HN.out.mono ?_
  rintro e w3 ⟨A3, c3, rfl, oN, hb3⟩
  obtain ⟨W4, hW4⟩ : ∃ W, w3.alloc (.cells #[.int .i64 n, .slice A3 l c3] 24) = W := ⟨_, rfl⟩
  have hb4 := (Below.refl w3.heap.size w3).alloc (Nat.le_refl _) (.cells #[.int .i64 n, .slice A3 l c3] 24)
  have km4 := Blk.new w3 _ rfl 24 #[.int .i64 n, .slice A3 l c3]
  have oN4 := oN.alloc (.cells #[.int .i64 n, .slice A3 l c3] 24)
  have hv4 : ∀ q, q < W2.heap.size → (Value.slice A3 l c3).ownBlock ≠ some q := fun q hq he => by have := own_ge oN he; omega
  obtain ⟨bm, hbm⟩ : ∃ b, w3.heap.size = b := ⟨_, rfl⟩
  rw [hW4] at hb4 km4 oN4
  have b24 := hb3.trans (hb4.mono hb3.size)
  rw [hbm] at km4
  have kn4 := kn2.below b24 kn2.lt
  have kb4 := kb2.below b24 kb2.lt
  have hrA4 := hrA2.below b24 (Nat.le_refl _)
  have hrX4 := hrX2.below b24 (Nat.le_refl _)
  have oR4 := own_below oR2 b24
  have oC4 := own_below oC2 b24
  have hT4 := hT2.below b24 hT2.pos
  have B4 := Lib.hid (B2.out.trans (b24.mono B2.out.size))
  have B2s := Lib.hid B2.out.size
  have hs24 := b24.size
  have hnm : (Value.slice A3 l c3).ownBlock ≠ some bm := fun he => by have := (oN.lt bm he).2; omega
  have HVN := Lib.hid hv4
  have hk2 : bn < W2.heap.size := kn2.lt
  have hkb2 : bb < W2.heap.size := kb2.lt
  have hTp : 0 < W2.heap.size := hT2.pos
  clear HN hb3 hb4 b24 kn2 kb2 oR2 oC2 B2 n0 n1 oN
  go_upto_region 3 with fail
  try rw [hbm]
  try rw [hW4]
  clear hW4 hbm
  go_wp2_with fail
  go_loopw [8] (fun i wr => ∃ (q : Nat) (ars' : List ArcV), q ≤ l ∧ i = .int .i64 q ∧ wr.ownsRow W2.heap.size 44 5 (.slice A3 l c3) l (cellsA ars') ∧ OnlyV (.slice A3 l c3) W4 wr ∧ Hid (Sim ars ars') ∧ Hid (∀ a ∈ ars', a.fit)) (fun i _ => l - (intOf i).toNat)
  case atStart => exact ⟨0, ars, Nat.zero_le _, rfl, oN4, OnlyV.refl _ _, rfl, hx⟩
  case round =>
    have oN4' := oN4
    clear oN4
    obtain ⟨q, ars', hq, rfl, oN, V, HSim, HFit⟩ := hrel
    have km := V.blk km4 hnm
    have m1 := km.cell 1
    simp at m1
    have hlen : ars'.length = l := by rw [← HSim.out.length]; exact hl
    by_cases hql : q < l
    · by_cases hqm : q < m
      · obtain ⟨bx, ox, x, rfl, hbx, hfx', x0, -, hxat⟩ := (V.rd hrX4 hs24 hv4).at_ (k := q) hfx (by omega)
        have i1 : (0 : Int) ≤ (q : Int) := by omega
        have i2 : (q : Int) < (l : Int) := by omega
        have i3 : (q : Int) < (m : Int) := by omega
        obtain ⟨g, hg⟩ := own_addr oN (by omega)
        subst hg
        obtain ⟨a, ha⟩ : ∃ a, ars'[q]? = some a := ⟨_, List.getElem?_eq_getElem (by omega)⟩
        by_cases hin : 0 ≤ x ∧ x ≤ 256
        · have d1 : decide (x ≥ 0) = true := decide_eq_true (by omega)
          have d2 : decide (x ≤ 256) = true := decide_eq_true (by omega)
          have d3 : decide (0 ≤ x) = true := decide_eq_true (by omega)
          have hco := oN.cellAt (q * 5 + 4) (by omega)
          rw [cellsA_at ars' q a ha 4 (.int .i64 a.s) rfl] at hco
          have fro := oN.frozenAt (q * 5 + 4)
          have oN2 := (oN.stored (q * 5 + 4) (.int .i64 x)).1
          rw [cellsA_setS ars' q a x ha] at oN2
          have V2 := V.trans (onlyV_set wr g (q * 5 + 4) l c3 (.int .i64 x))
          have HSim2 := Lib.hid (sim_setS (x := x) HSim.out ha)
          have HFit2 := Lib.hid (show ∀ b ∈ ars'.set q (withS a x), b.fit from fun b hb => by
            rcases List.mem_or_eq_of_mem_set hb with hb | rfl
            · exact HFit.out b hb
            · obtain ⟨f1, f2, f3, f4, -⟩ := HFit.out a (List.mem_of_getElem? ha)
              exact ⟨f1, f2, f3, f4, by unfold fits; simp only [withS]; omega⟩)
          clear oN V ha hxat hfx' HSim HFit hin km
          go_upto_region 7 with fail
          go_region
          go_wp2_with fail
          go_roundw
          case rel => exact ⟨q + 1, _, by omega, by go_num, oN2, V2.trans (onlyV_below (Below.drewN (Below.refl _ _) 1) _), HSim2, HFit2⟩
          case measure => simp [intOf]; omega
        · by_cases hneg : x < 0
          · have d1 : decide (x ≥ 0) = false := decide_eq_false (by omega)
            have d3 : decide (0 ≤ x) = false := decide_eq_false (by omega)
            clear ha hxat hfx' hin km
            go_wp2_with fail
            go_roundw
            case rel => exact ⟨q + 1, ars', by omega, by go_num, oN, V, HSim, HFit⟩
            case measure => simp [intOf]; omega
          · have d1 : decide (x ≥ 0) = true := decide_eq_true (by omega)
            have d3 : decide (0 ≤ x) = true := decide_eq_true (by omega)
            have d2 : decide (x ≤ 256) = false := decide_eq_false (by omega)
            clear ha hxat hfx' hin km
            go_wp2_with fail
            go_roundw
            case rel => exact ⟨q + 1, ars', by omega, by go_num, oN, V, HSim, HFit⟩
            case measure => simp [intOf]; omega
      · have i3 : decide ((q : Int) < (m : Int)) = false := decide_eq_false (by omega)
        have kn5 := V.blk kn4 (hv4 bn hk2)
        have kb5 := V.blk kb4 (hv4 bb hkb2)
        have hT5 : Tab wr := fun j hj => by
          rw [World.cell?_of_block (w := W4) (a := ⟨0, j, none⟩) (V.block 0 (by omega) (hv4 _ hTp))]
          exact hT4 j hj
        have hrA5 := V.rd hrA4 hs24 hv4
        have oR5 := V.own oR4 (fun g hg => rows_ne oR4 oN4' (by decide) hg)
        have oC5 := V.own oC4 (fun g hg => rows_ne oC4 oN4' (by decide) hg)
        have hVs := V.size
        have B5 := Lib.hid (V.down B4.out (fun q hq => hv4 q (by have := B2s.out; omega)))
        have HSOL := Lib.hid (solve_any n ars' A3 l c3 wr hlen HFit.out (rd_of_own oN) hm hT5)
        have rN5 := rd_of_own oN
        have m0 := km.cell 0
        simp at m0
        clear oN V oN4' hrA4 hrX4 oR4 oC4 hT4 kn4 kb4 km4 B4
        go_wp2_with fail
        refine HSOL.out.mono ?_
        rintro e w5 ⟨vd', reps', cyc', k', Ar', cr', Ac', cc', rfl, hs', -, -, oR', oC', hb5⟩
        obtain ⟨LR', hLR'⟩ : ∃ L, reps'.length = L := ⟨_, rfl⟩
        obtain ⟨LC', hLC'⟩ : ∃ L, cyc'.length = L := ⟨_, rfl⟩
        rw [hLR'] at oR' ⊢
        rw [hLC'] at oC' ⊢
        have HLR' := Lib.hid hLR'
        have HLC' := Lib.hid hLC'
        obtain ⟨W6, hW6⟩ : ∃ W, w5.alloc (.cells #[.int .u8 vd', .slice Ar' LR' cr', .slice Ac' LC' cc'] 29) = W := ⟨_, rfl⟩
        have hb6 := (Below.refl w5.heap.size w5).alloc (Nat.le_refl _) (.cells #[.int .u8 vd', .slice Ar' LR' cr', .slice Ac' LC' cc'] 29)
        have kc6 := Blk.new w5 _ rfl 29 #[.int .u8 vd', .slice Ar' LR' cr', .slice Ac' LC' cc']
        have oR6' := oR'.alloc (.cells #[.int .u8 vd', .slice Ar' LR' cr', .slice Ac' LC' cc'] 29)
        have oC6' := oC'.alloc (.cells #[.int .u8 vd', .slice Ar' LR' cr', .slice Ac' LC' cc'] 29)
        obtain ⟨bc, hbc⟩ : ∃ b, w5.heap.size = b := ⟨_, rfl⟩
        rw [hW6] at hb6 kc6 oR6' oC6'
        rw [hbc] at kc6
        have b56 := hb5.trans (hb6.mono hb5.size)
        have kn6 := kn5.below b56 kn5.lt
        have kb6 := kb5.below b56 kb5.lt
        have km6 := km.below b56 km.lt
        have rA6 := (hrA5.below b56 (Nat.le_trans hs24 hVs)).more (B' := W6.heap.size) (by have := b56.size; omega)
        have rN6 := (rN5.below b56 (Nat.le_refl _)).more b56.size
        have oR6 := own_below oR5 b56
        have oC6 := own_below oC5 b56
        have hT6 := hT5.below b56 hT5.pos
        have B6 := Lib.hid (B5.out.trans (b56.mono B5.out.size))
        have n0 := kn6.cell 0
        have n1 := kn6.cell 1
        have m0 := km6.cell 0
        have m1 := km6.cell 1
        have r0 := kb6.cell 0
        have r1 := kb6.cell 1
        have r2 := kb6.cell 2
        have s0 := kc6.cell 0
        have s1 := kc6.cell 1
        have s2 := kc6.cell 2
        simp at n0 n1 m0 m1 r0 r1 r2 s0 s1 s2
        have hk := HS.out.check
        have hk' := hs'.check
        have HCN := Lib.hid (refCheck_any n ars A l c W6 hl hx rA6 hm)
        rw [← hk] at HCN
        have HCM := Lib.hid (fun (w7 : World) (hb : Below W6.heap.size W6 w7) => refCheck_any n ars' A3 l c3 w7 hlen HFit.out ((rN6.below hb (Nat.le_refl _)).more hb.size) hm)
        rw [← hk'] at HCM
        have HAW := Lib.hid (fun (w8 : World) (hb : Below W6.heap.size W6 w8) => awake_any w8 (hT6.below hb hT6.pos))
        have KM := Lib.hid km6
        have HK := Lib.hid hk
        have HK' := Lib.hid hk'
        have HS' := Lib.hid hs'
        clear hb5 hb6 b56 kn5 kb5 km hrA5 rN5 oR5 oC5 hT5 B5 oR' oC' HSOL hLR' hLC' hk hk' hs'
        go_upto_region 9 with fail
        try rw [hbc]
        try rw [hW6]
        clear hW6 hbc
        by_cases hkk : k = 0 ∧ k' = 0
        · obtain ⟨rfl, rfl⟩ := hkk
          obtain ⟨rfl, rfl, rfl, -⟩ := (SolA.sim HSim.out HK.out.symm HK'.out.symm HS.out).one HS'.out
          obtain rfl : LR = LR' := by rw [← HLR.out, HLR'.out]
          obtain rfl : LC = LC' := by rw [← HLC.out, HLC'.out]
          have hfr : AllFit reps := sol_fit HS.out
          obtain ⟨hq1, hq2⟩ := sol_len HS.out
          have HSA := Lib.hid (same13_yes vd reps cyc Ar Ar' Ac Ac' LR LC cr1 cr' cc cc' W6 HLR.out HLC.out hfr (rd_of_own oR6) (rd_of_own oR6') (rd_of_own oC6) (rd_of_own oC6') (by rw [← HLR.out]; exact hq1) (by rw [← HLC.out]; exact hq2))
          clear HCN HCM KM kn6 kb6 km6 kc6 rA6 rN6 oR6 oC6 oR6' oC6' hq1 hq2 hfr
          go_wp2_with fail
          refine HSA.out.mono ?_
          rintro e w7 ⟨rfl, hb7⟩
          have HA := Lib.hid (HAW.out w7 hb7)
          have B7 := Lib.hid (B6.out.trans (hb7.mono B6.out.size))
          clear hb7 HSA HAW
          go_wp2_with fail
          refine HA.out.mono ?_
          rintro e w8 ⟨rfl, hb8⟩
          have B8 := Lib.hid (B7.out.trans (hb8.mono B7.out.size))
          clear hb8 HA
          go_wp2_with fail
          go_ret
          exact ⟨rfl, B8.out⟩
        · clear kn6 kb6 km6 kc6 rA6 rN6 oR6 oC6 oR6' oC6'
          by_cases hk0 : k = 0
          · subst hk0
            have hk1 : ¬ k' = 0 := fun h => hkk ⟨rfl, h⟩
            have d1 : (k' != 0) = true := by simp [hk1]
            clear hkk
            go_wp2_with fail
            refine HCN.out.mono ?_
            rintro e w7 ⟨rfl, hb7⟩
            have km7 := KM.out.below hb7 KM.out.lt
            have m0 := km7.cell 0
            have m1 := km7.cell 1
            simp at m0 m1
            have B7 := Lib.hid (B6.out.trans (hb7.mono B6.out.size))
            have HC2 := Lib.hid (HCM.out w7 hb7)
            have HB7 := Lib.hid hb7
            clear hb7 km7 HCN HCM
            go_wp2_with fail
            refine HC2.out.mono ?_
            rintro e w8 ⟨rfl, hb8⟩
            have HA := Lib.hid (HAW.out w8 (HB7.out.trans (hb8.mono HB7.out.size)))
            have B8 := Lib.hid (B7.out.trans (hb8.mono B7.out.size))
            clear hb8 HC2 HAW HB7
            go_wp2_with fail
            refine HA.out.mono ?_
            rintro e w9 ⟨rfl, hb9⟩
            have B9 := Lib.hid (B8.out.trans (hb9.mono B8.out.size))
            clear hb9 HA
            go_wp2_with fail
            go_ret
            exact ⟨rfl, B9.out⟩
          · have d1 : (k != 0) = true := by simp [hk0]
            clear hkk
            go_wp2_with fail
            refine HCN.out.mono ?_
            rintro e w7 ⟨rfl, hb7⟩
            have km7 := KM.out.below hb7 KM.out.lt
            have m0 := km7.cell 0
            have m1 := km7.cell 1
            simp at m0 m1
            have B7 := Lib.hid (B6.out.trans (hb7.mono B6.out.size))
            have HC2 := Lib.hid (HCM.out w7 hb7)
            have HB7 := Lib.hid hb7
            clear hb7 km7 HCN HCM
            go_wp2_with fail
            refine HC2.out.mono ?_
            rintro e w8 ⟨rfl, hb8⟩
            have HA := Lib.hid (HAW.out w8 (HB7.out.trans (hb8.mono HB7.out.size)))
            have B8 := Lib.hid (B7.out.trans (hb8.mono B7.out.size))
            clear hb8 HC2 HAW HB7
            go_wp2_with fail
            refine HA.out.mono ?_
            rintro e w9 ⟨rfl, hb9⟩
            have B9 := Lib.hid (B8.out.trans (hb9.mono B8.out.size))
            clear hb9 HA
            go_wp2_with fail
            go_ret
            exact ⟨rfl, B9.out⟩
    · have j1 : decide ((q : Int) < (l : Int)) = false := decide_eq_false (by omega)
      have kn5 := V.blk kn4 (hv4 bn hk2)
      have kb5 := V.blk kb4 (hv4 bb hkb2)
      have hT5 : Tab wr := fun j hj => by
        rw [World.cell?_of_block (w := W4) (a := ⟨0, j, none⟩) (V.block 0 (by omega) (hv4 _ hTp))]
        exact hT4 j hj
      have hrA5 := V.rd hrA4 hs24 hv4
      have oR5 := V.own oR4 (fun g hg => rows_ne oR4 oN4' (by decide) hg)
      have oC5 := V.own oC4 (fun g hg => rows_ne oC4 oN4' (by decide) hg)
      have hVs := V.size
      have B5 := Lib.hid (V.down B4.out (fun q hq => hv4 q (by have := B2s.out; omega)))
      have HSOL := Lib.hid (solve_any n ars' A3 l c3 wr hlen HFit.out (rd_of_own oN) hm hT5)
      have rN5 := rd_of_own oN
      have m0 := km.cell 0
      simp at m0
      clear oN V oN4' hrA4 hrX4 oR4 oC4 hT4 kn4 kb4 km4 B4
      go_wp2_with fail
      refine HSOL.out.mono ?_
      rintro e w5 ⟨vd', reps', cyc', k', Ar', cr', Ac', cc', rfl, hs', -, -, oR', oC', hb5⟩
      obtain ⟨LR', hLR'⟩ : ∃ L, reps'.length = L := ⟨_, rfl⟩
      obtain ⟨LC', hLC'⟩ : ∃ L, cyc'.length = L := ⟨_, rfl⟩
      rw [hLR'] at oR' ⊢
      rw [hLC'] at oC' ⊢
      have HLR' := Lib.hid hLR'
      have HLC' := Lib.hid hLC'
      obtain ⟨W6, hW6⟩ : ∃ W, w5.alloc (.cells #[.int .u8 vd', .slice Ar' LR' cr', .slice Ac' LC' cc'] 29) = W := ⟨_, rfl⟩
      have hb6 := (Below.refl w5.heap.size w5).alloc (Nat.le_refl _) (.cells #[.int .u8 vd', .slice Ar' LR' cr', .slice Ac' LC' cc'] 29)
      have kc6 := Blk.new w5 _ rfl 29 #[.int .u8 vd', .slice Ar' LR' cr', .slice Ac' LC' cc']
      have oR6' := oR'.alloc (.cells #[.int .u8 vd', .slice Ar' LR' cr', .slice Ac' LC' cc'] 29)
      have oC6' := oC'.alloc (.cells #[.int .u8 vd', .slice Ar' LR' cr', .slice Ac' LC' cc'] 29)
      obtain ⟨bc, hbc⟩ : ∃ b, w5.heap.size = b := ⟨_, rfl⟩
      rw [hW6] at hb6 kc6 oR6' oC6'
      rw [hbc] at kc6
      have b56 := hb5.trans (hb6.mono hb5.size)
      have kn6 := kn5.below b56 kn5.lt
      have kb6 := kb5.below b56 kb5.lt
      have km6 := km.below b56 km.lt
      have rA6 := (hrA5.below b56 (Nat.le_trans hs24 hVs)).more (B' := W6.heap.size) (by have := b56.size; omega)
      have rN6 := (rN5.below b56 (Nat.le_refl _)).more b56.size
      have oR6 := own_below oR5 b56
      have oC6 := own_below oC5 b56
      have hT6 := hT5.below b56 hT5.pos
      have B6 := Lib.hid (B5.out.trans (b56.mono B5.out.size))
      have n0 := kn6.cell 0
      have n1 := kn6.cell 1
      have m0 := km6.cell 0
      have m1 := km6.cell 1
      have r0 := kb6.cell 0
      have r1 := kb6.cell 1
      have r2 := kb6.cell 2
      have s0 := kc6.cell 0
      have s1 := kc6.cell 1
      have s2 := kc6.cell 2
      simp at n0 n1 m0 m1 r0 r1 r2 s0 s1 s2
      have hk := HS.out.check
      have hk' := hs'.check
      have HCN := Lib.hid (refCheck_any n ars A l c W6 hl hx rA6 hm)
      rw [← hk] at HCN
      have HCM := Lib.hid (fun (w7 : World) (hb : Below W6.heap.size W6 w7) => refCheck_any n ars' A3 l c3 w7 hlen HFit.out ((rN6.below hb (Nat.le_refl _)).more hb.size) hm)
      rw [← hk'] at HCM
      have HAW := Lib.hid (fun (w8 : World) (hb : Below W6.heap.size W6 w8) => awake_any w8 (hT6.below hb hT6.pos))
      have KM := Lib.hid km6
      have HK := Lib.hid hk
      have HK' := Lib.hid hk'
      have HS' := Lib.hid hs'
      clear hb5 hb6 b56 kn5 kb5 km hrA5 rN5 oR5 oC5 hT5 B5 oR' oC' HSOL hLR' hLC' hk hk' hs'
      go_upto_region 9 with fail
      try rw [hbc]
      try rw [hW6]
      clear hW6 hbc
      by_cases hkk : k = 0 ∧ k' = 0
      · obtain ⟨rfl, rfl⟩ := hkk
        obtain ⟨rfl, rfl, rfl, -⟩ := (SolA.sim HSim.out HK.out.symm HK'.out.symm HS.out).one HS'.out
        obtain rfl : LR = LR' := by rw [← HLR.out, HLR'.out]
        obtain rfl : LC = LC' := by rw [← HLC.out, HLC'.out]
        have hfr : AllFit reps := sol_fit HS.out
        obtain ⟨hq1, hq2⟩ := sol_len HS.out
        have HSA := Lib.hid (same13_yes vd reps cyc Ar Ar' Ac Ac' LR LC cr1 cr' cc cc' W6 HLR.out HLC.out hfr (rd_of_own oR6) (rd_of_own oR6') (rd_of_own oC6) (rd_of_own oC6') (by rw [← HLR.out]; exact hq1) (by rw [← HLC.out]; exact hq2))
        clear HCN HCM KM kn6 kb6 km6 kc6 rA6 rN6 oR6 oC6 oR6' oC6' hq1 hq2 hfr
        go_wp2_with fail
        refine HSA.out.mono ?_
        rintro e w7 ⟨rfl, hb7⟩
        have HA := Lib.hid (HAW.out w7 hb7)
        have B7 := Lib.hid (B6.out.trans (hb7.mono B6.out.size))
        clear hb7 HSA HAW
        go_wp2_with fail
        refine HA.out.mono ?_
        rintro e w8 ⟨rfl, hb8⟩
        have B8 := Lib.hid (B7.out.trans (hb8.mono B7.out.size))
        clear hb8 HA
        go_wp2_with fail
        go_ret
        exact ⟨rfl, B8.out⟩
      · clear kn6 kb6 km6 kc6 rA6 rN6 oR6 oC6 oR6' oC6'
        by_cases hk0 : k = 0
        · subst hk0
          have hk1 : ¬ k' = 0 := fun h => hkk ⟨rfl, h⟩
          have d1 : (k' != 0) = true := by simp [hk1]
          clear hkk
          go_wp2_with fail
          refine HCN.out.mono ?_
          rintro e w7 ⟨rfl, hb7⟩
          have km7 := KM.out.below hb7 KM.out.lt
          have m0 := km7.cell 0
          have m1 := km7.cell 1
          simp at m0 m1
          have B7 := Lib.hid (B6.out.trans (hb7.mono B6.out.size))
          have HC2 := Lib.hid (HCM.out w7 hb7)
          have HB7 := Lib.hid hb7
          clear hb7 km7 HCN HCM
          go_wp2_with fail
          refine HC2.out.mono ?_
          rintro e w8 ⟨rfl, hb8⟩
          have HA := Lib.hid (HAW.out w8 (HB7.out.trans (hb8.mono HB7.out.size)))
          have B8 := Lib.hid (B7.out.trans (hb8.mono B7.out.size))
          clear hb8 HC2 HAW HB7
          go_wp2_with fail
          refine HA.out.mono ?_
          rintro e w9 ⟨rfl, hb9⟩
          have B9 := Lib.hid (B8.out.trans (hb9.mono B8.out.size))
          clear hb9 HA
          go_wp2_with fail
          go_ret
          exact ⟨rfl, B9.out⟩
        · have d1 : (k != 0) = true := by simp [hk0]
          clear hkk
          go_wp2_with fail
          refine HCN.out.mono ?_
          rintro e w7 ⟨rfl, hb7⟩
          have km7 := KM.out.below hb7 KM.out.lt
          have m0 := km7.cell 0
          have m1 := km7.cell 1
          simp at m0 m1
          have B7 := Lib.hid (B6.out.trans (hb7.mono B6.out.size))
          have HC2 := Lib.hid (HCM.out w7 hb7)
          have HB7 := Lib.hid hb7
          clear hb7 km7 HCN HCM
          go_wp2_with fail
          refine HC2.out.mono ?_
          rintro e w8 ⟨rfl, hb8⟩
          have HA := Lib.hid (HAW.out w8 (HB7.out.trans (hb8.mono HB7.out.size)))
          have B8 := Lib.hid (B7.out.trans (hb8.mono B7.out.size))
          clear hb8 HC2 HAW HB7
          go_wp2_with fail
          refine HA.out.mono ?_
          rintro e w9 ⟨rfl, hb9⟩
          have B9 := Lib.hid (B8.out.trans (hb9.mono B8.out.size))
          clear hb9 HA
          go_wp2_with fail
          go_ret
          exact ⟨rfl, B9.out⟩
end Go.Proofs.YtlpmnhllnfhkdaaDoor
