/-
  balance.scale.
-/
import Derived.Test.YtpmlljbebdidgaaDoorYj
import Derived.Test.YtpmlljbebdidgaaDoorM6
namespace Go.Proofs.YtpmlljbebdidgaaDoor
open Go.RowKit

/-- all blocks but one are as they were -/
structure But (g : Nat) (w w' : World) : Prop where
  os : w'.os = w.os
  tape : w'.tape = w.tape
  output : w'.output = w.output
  size : w.heap.size ≤ w'.heap.size
  block : ∀ k, k < w.heap.size → k ≠ g → w'.heap[k]? = w.heap[k]?
theorem Below.but {w w' : World} (h : Below w.heap.size w w') (g : Nat) : But g w w' := ⟨h.os, h.tape, h.output, h.size, fun k hk _ => h.block k hk⟩
theorem But.trans {g : Nat} {a b c : World} (h : But g a b) (h' : But g b c) : But g a c :=
  ⟨h'.os.trans h.os, h'.tape.trans h.tape, h'.output.trans h.output, Nat.le_trans h.size h'.size, fun k hk hn => (h'.block k (Nat.lt_of_lt_of_le hk h.size) hn).trans (h.block k hk hn)⟩
theorem But.down {g : Nat} {a w w' : World} (h : But g w w') (hb : Below a.heap.size a w) (hg : a.heap.size ≤ g) : Below a.heap.size a w' :=
  hb.trans ⟨h.os, h.tape, h.output, h.size, fun k hk => h.block k (Nat.lt_of_lt_of_le hk hb.size) (by omega)⟩
theorem But.blk {g : Nat} {w w' : World} (h : But g w w') {k : Nat} {t : TypeId} {cs : Array Value} (hk : Blk w k t cs) (hn : k ≠ g) : Blk w' k t cs := (h.block k hk.lt hn).trans hk
theorem But.set (w : World) (g j : Nat) (u : Value) : But g w (w.setCell ⟨g, j, none⟩ u) := ⟨rfl, rfl, rfl, by simp [World.setCell], fun _ _ hn => Below.heap_setCell _ _ _ _ hn⟩
theorem But.rd {g : Nat} {w w' : World} (h : But g w w') {B : Nat} {A : Option Addr} {cs : List Value} (hr : Rd w B A cs) (hB : B ≤ w.heap.size) (hA : ∀ b, blkOf A = some b → b ≠ g) : Rd w' B A cs := by
  rcases hr with hr | ⟨b, off, rfl, hb, hc⟩
  · exact .inl hr
  · refine .inr ⟨b, off, rfl, hb, fun j u hu => ?_⟩
    rw [World.cell?_of_block (w := w) (a := ⟨b, off + j, none⟩) (h.block b (by omega) (hA b rfl))]
    exact hc j u hu
theorem But.own {g : Nat} {w w' : World} (h : But g w w') {base : Nat} {e : TypeId} {size n : Nat} {v : Value} {xs : List Value} (ho : w.ownsRow base e size v n xs) (hA : v.ownBlock ≠ some g) : w'.ownsRow base e size v n xs := by
  obtain ⟨h1, h2⟩ := ho
  refine ⟨h1, ?_⟩
  rcases h2 with h2 | ⟨k, cap, cur, rfl, hk, hh, hr⟩
  · exact .inl h2
  · refine .inr ⟨k, cap, cur, rfl, hk, ?_, hr⟩
    have hlt : k < w.heap.size := by
      rcases Nat.lt_or_ge k w.heap.size with hlt | hge
      · exact hlt
      · rw [Array.getElem?_eq_none hge] at hh; cases hh
    rw [h.block k hlt (fun he => hA (by rw [he]; rfl))]
    exact hh
theorem Tab.but {g : Nat} {w w' : World} (h : Tab w) (hb : But g w w') (hg : 0 ≠ g) : Tab w' := fun j hj => by
  rw [World.cell?_of_block (w := w) (a := ⟨0, j, none⟩) (hb.block _ h.pos hg)]
  exact h j hj
/-- a row of numbers -/
def rowN (n : Nat) (V : Nat → Int) : List Int := (List.range n).map V
theorem rowN_length (n : Nat) (V : Nat → Int) : (rowN n V).length = n := by simp [rowN]
theorem rowN_at {n : Nat} {V : Nat → Int} {v : Nat} (hv : v < n) : (rowN n V)[v]? = some (V v) := by simp [rowN, hv]
theorem rowN_ext {n : Nat} {V V' : Nat → Int} (h : ∀ v, v < n → V v = V' v) : rowN n V = rowN n V' := by
  unfold rowN
  exact List.map_congr_left fun v hv => h v (List.mem_range.1 hv)
theorem rowN_set {n : Nat} {V : Nat → Int} {k : Nat} {u : Int} : (rowN n V).set k u = rowN n fun v => if v = k then u else V v := by
  refine List.ext_getElem? fun v => ?_
  rw [List.getElem?_set]
  by_cases hv : v < n
  · rw [rowN_at hv, rowN_at hv, rowN_length]
    by_cases hkv : k = v
    · subst hkv; simp [hv]
    · rw [if_neg hkv, if_neg (fun e => hkv e.symm)]
  · rw [List.getElem?_eq_none (by rw [rowN_length]; omega), List.getElem?_eq_none (by rw [rowN_length]; omega), rowN_length]
    by_cases hkv : k = v
    · rw [if_pos hkv, if_neg (by omega)]
    · rw [if_neg hkv]
theorem lcm_two {a b : Nat} (ha : 1 ≤ a) (ha2 : a ≤ 4096) (hb : 1 ≤ b) (hb2 : b ≤ 4096) : lcmGo 1 true [(a : Int), (b : Int)] = (((Nat.lcm a b : Nat) : Int), true) := by
  have h1 : a / Nat.gcd a b * b = Nat.lcm a b := by
    unfold Nat.lcm
    exact Nat.div_mul_right_comm (Nat.gcd_dvd_left a b) b
  have h2 : Nat.lcm a b ≤ a * b := Nat.le_of_dvd (Nat.mul_pos ha hb) (Nat.lcm_dvd (Nat.dvd_mul_right _ _) (Nat.dvd_mul_left _ _))
  have h3 : a * b ≤ 4096 * 4096 := Nat.mul_le_mul ha2 hb2
  have e1 : ((a : Int)).natAbs = a := by omega
  have e2 : ((b : Int)).natAbs = b := by omega
  have o1 : okB (((1 / Nat.gcd 1 a * a : Nat)) : Int) = true := okB_of (by simp; unfold fits; omega)
  have m1 : 1 / Nat.gcd 1 a * a % 18446744073709551616 = a := by simp; omega
  have o2 : okB ((Nat.lcm a b : Nat) : Int) = true := okB_of (by unfold fits; omega)
  have m2 : Nat.lcm a b % 18446744073709551616 = Nat.lcm a b := Nat.mod_eq_of_lt (by omega)
  rw [lcmGo, if_neg (by omega), if_neg (by simp), e1, o1, m1, lcmGo, if_neg (by omega), if_neg (by simp), e2, h1, o2, m2]
  simp [lcmGo]
theorem walk_lt {n : Nat} {T : List Edg} (hT : ∀ e ∈ T, e.f < n ∧ e.t < n) : ∀ {p : List Stp} {u v : Nat}, Walk T u p v → u < n → v < n
  | [], u, v, h, hu => by rw [← show u = v from h]; exact hu
  | s :: p, u, v, ⟨m, ⟨e, he, _, h2⟩, h3⟩, _ => by
    refine walk_lt hT h3 ?_
    have := hT e he
    split at h2 <;> omega
theorem Ctx.lt {n : Nat} {ars : List ArcV} {T : List Edg} {R P : Nat → Nat} (C : Ctx n ars T R P) {u v : Nat} (hu : u < n) (h : P v = P u) : v < n := by
  obtain ⟨p, hp⟩ := (C.ri.cls u v).1 h.symm
  exact walk_lt (fun e he => ⟨(C.fi.edge e he).2.1, (C.fi.edge e he).2.2.1⟩) hp hu
/-- what scale answers -/
def ScOut (n : Nat) (ars : List ArcV) (R : Nat → Nat) (h gR B : Nat) (V : Nat → Int) (w : World) (e : Ending) (w' : World) : Prop :=
  ∃ b V', e = .returned (.bool b) ∧ w'.ownsRow B 3 1 (.slice (some ⟨gR, 0, none⟩) n n) n (cellsI (rowN n V')) ∧ But gR w w' ∧
    (b = true → (∀ v, v < n → V' v = if hm n ars v = h then (R v : Int) else V v) ∧ ∀ v, v < n → hm n ars v = h → R v ≤ 4096) ∧ (b = false → Big n R)

set_option maxRecDepth 100000 in
set_option maxHeartbeats 4000000 in
theorem scale_any (n : Nat) (ars : List ArcV) (T : List Edg) (R P : Nat → Nat) (At Ah S : Option Addr) (lt ct ch h gR B : Nat) (V : Nat → Int) (w : World) (C : Ctx n ars T R P) (hhn : h < n) (hhh : hm n ars h = h) (hsm : ∀ v, v < n → Small (shF n ars R v))
    (hrh : Rd w w.heap.size Ah (cellsI (homeF n ars))) (hrs : Rd w w.heap.size S (cellsF ((List.range n).map (shF n ars R)))) (hT : Tab w)
    (ho : w.ownsRow B 3 1 (.slice (some ⟨gR, 0, none⟩) n n) n (cellsI (rowN n V))) (hA1 : ∀ b, blkOf Ah = some b → b ≠ gR) (hA2 : ∀ b, blkOf S = some b → b ≠ gR) :
    Calls Tryd.prog 20 #[.agg #[.slice At lt ct, .slice Ah n ch], .slice S n n, .int .i64 (h : Nat), .slice (some ⟨gR, 0, none⟩) n n] w (ScOut n ars R h gR B V w) := by
  have hn1 := C.n1
  have hn2 := C.n2
  have hgl := own_lt ho
  have hgB : B ≤ gR := own_ge ho rfl
  have hpos := C.ri.pos
  have hrate : ∀ v, v < n → hm n ars v = h → P v = P h := fun v hv hvh => (C.part hv hhn).2 (by rw [hvh, hhh])
  go_enter Tryd.func20, Tryd.ntmps20
  go_upto_region 1 with fail
  obtain ⟨W0, hW0⟩ : ∃ W, w.alloc (.cells #[.slice At lt ct, .slice Ah n ch] 70) = W := ⟨_, rfl⟩
  have BW := (Below.refl w.heap.size w).alloc (Nat.le_refl _) (.cells #[.slice At lt ct, .slice Ah n ch] 70)
  have kf := Blk.new w _ rfl 70 #[.slice At lt ct, .slice Ah n ch]
  have o0 := ho.alloc (.cells #[.slice At lt ct, .slice Ah n ch] 70)
  rw [hW0] at BW kf o0 ⊢
  have hrH := (hrh.below BW (Nat.le_refl _)).more BW.size
  have hrS := (hrs.below BW (Nat.le_refl _)).more BW.size
  have hT0 := hT.below BW hT.pos
  have HW := Lib.hid BW
  obtain ⟨bf, hbf⟩ : ∃ b, w.heap.size = b := ⟨_, rfl⟩
  rw [hbf] at kf hgl ⊢
  clear hW0 BW hrh hrs hT ho hbf
  have f1 := kf.cell 1
  simp at f1
  go_wp2_with fail
  clear f1
  go_loopw [9, 19] (fun x i wr => ∃ K k : Nat, k ≤ n ∧ i = .int .i64 k ∧ x = .int .i64 K ∧ 1 ≤ K ∧ K ≤ 4096 ∧ Hid (K ∣ R h) ∧ Hid (∀ v, v < k → hm n ars v = h → denN (R v) (R h) ∣ K) ∧ Below W0.heap.size W0 wr) (fun _ i _ => n - (intOf i).toNat)
  case atStart => exact ⟨1, 0, Nat.zero_le _, rfl, rfl, by omega, by omega, Nat.one_dvd _, fun v hv => by omega, Below.refl _ _⟩
  case round =>
    obtain ⟨K, k, hk, rfl, rfl, hK1, hK2, HKd, HKa, B1⟩ := hrel
    by_cases hkn : k < n
    · obtain ⟨b, off, x, rfl, hb, hfx, h0, hd, hat⟩ := (hrH.below B1 (Nat.le_refl _)).at_ (k := k) (home_fit_of C) (by rw [homeF_length]; exact hkn)
      obtain rfl : x = (hm n ars k : Nat) := by have := hat.out; rw [homeF_at hkn] at this; exact (Option.some.inj this).symm
      clear hd hat
      by_cases hh : hm n ars k = h
      · rw [hh] at h0
        obtain ⟨b2, off2, f, rfl, hb2, hff, c0, c1, hd, hat⟩ := (hrS.below B1 (Nat.le_refl _)).fr (k := k) (by intro a ha; obtain ⟨v, hv, rfl⟩ := List.mem_map.1 ha; exact (hsm v (List.mem_range.1 hv)).fit) (by simp [hkn])
        obtain rfl : f = shF n ars R k := by have := hat.out; simp [hkn] at this; exact this.symm
        have hsk := hsm k hkn
        unfold shF at c1 c0 hsk
        rw [hh] at c1 c0 hsk
        obtain ⟨e1, e2, e3, e4, e5, e6⟩ := den_num (hpos k) (hpos h)
        rw [← e1] at c1
        have e7 : denN (R k) (R h) ≤ 4096 := by have := hsk.d2; omega
        have HD6 := Lib.hid e6
        obtain ⟨dd, hdd⟩ : ∃ d, denN (R k) (R h) = d := ⟨_, rfl⟩
        rw [hdd] at c1 e3 e7
        have hlc := lcm_two hK1 hK2 e3 e7
        clear hd hat c0 e1 e2 e4 e5 e6 hsk hff hfx
        go_upto_region 7 with fail
        refine (lcm_any [(K : Int), (dd : Int)] _ 2 2 (wr.heap.size + 1) _ rfl (fun y hy => by simp at hy; rcases hy with rfl | rfl <;> (unfold fits; omega)) (rd_alloc wr _ rfl 3 (cellsI [(K : Int), (dd : Int)])) (by unfold maxLen; simp) ((hT0.below B1 hT0.pos).alloc _)).mono ?_
        rintro e w2 ⟨rfl, hdr⟩
        rw [hlc]
        have B2 := (B1.alloc B1.size (.cells #[.int .i64 K, .int .i64 dd] 3)).trans (hdr.below W0.heap.size)
        clear hdr hlc c1 h0 B1
        obtain ⟨L, hL⟩ : ∃ L, Nat.lcm K dd = L := ⟨_, rfl⟩
        rw [hL]
        have HL := Lib.hid hL
        have HD := Lib.hid hdd
        clear hL hdd
        by_cases hL4 : L ≤ 4096
        · have q1 : decide ((L : Int) > 4096) = false := decide_eq_false (by omega)
          have q2 : decide ((4096 : Int) < (L : Int)) = false := decide_eq_false (by omega)
          have q3 : decide (4096 < L) = false := decide_eq_false (by omega)
          go_wp2_with fail
          go_roundw
          case rel => exact ⟨L, k + 1, by omega, by go_num, rfl, by rw [← HL.out]; exact Nat.lcm_pos hK1 e3, hL4, by unfold Hid; rw [← HL.out]; exact Nat.lcm_dvd HKd.out (by have := HD6.out; rw [HD.out] at this; exact this), fun v hv hvh => by
            by_cases hvk : v = k
            · subst hvk; rw [← HL.out, HD.out]; exact Nat.dvd_lcm_right _ _
            · rw [← HL.out]; exact Nat.dvd_trans (HKa.out v (by omega) hvh) (Nat.dvd_lcm_left _ _), B2⟩
          case measure => simp [intOf]; omega
        · have q1 : decide ((L : Int) > 4096) = true := decide_eq_true (by omega)
          have q2 : decide ((4096 : Int) < (L : Int)) = true := decide_eq_true (by omega)
          have q3 : decide (4096 < L) = true := decide_eq_true (by omega)
          have HB := Lib.hid (show Big n R from ⟨h, hhn, by
            have h1 : L ∣ R h := by rw [← HL.out]; exact Nat.lcm_dvd HKd.out (by have := HD6.out; rw [HD.out] at this; exact this)
            have := Nat.le_of_dvd (hpos h) h1
            omega⟩)
          go_wp2_with fail
          go_ret
          exact ⟨false, V, rfl, own_below o0 (B2.mono (Nat.le_refl _)), ((Below.but HW.out gR).trans (Below.but B2 gR)), fun h => (by cases h), fun _ => HB.out⟩
      · have hq : ((hm n ars k : Nat) != (h : Int)) = true := by simp; omega
        have HKa' := Lib.hid (show ∀ v, v < k + 1 → hm n ars v = h → denN (R v) (R h) ∣ K from fun v hv hvh => by
          by_cases hvk : v = k
          · subst hvk; exact absurd hvh hh
          · exact HKa.out v (by omega) hvh)
        clear HKa
        go_wp2_with fail
        go_roundw
        case rel => exact ⟨K, k + 1, by omega, by go_num, rfl, hK1, hK2, HKd, HKa', B1⟩
        case measure => simp [intOf]; omega
    · obtain rfl : n = k := by omega
      obtain rfl : K = R h := scale_law C.ri (fun v hv => HKa.out v (C.lt hhn hv) (by have := (C.part (C.lt hhn hv) hhn).1 hv; rw [this, hhh])) HKd.out
      have f1 := (kf.below B1 kf.lt).cell 1
      simp at f1
      have o1 := own_below o0 B1
      have hlW := B1.size
      have B0 := HW.out.trans (B1.mono HW.out.size)
      have X0 := Lib.hid (Below.but B0 gR)
      have kf1 := kf.below B1 kf.lt
      have hrH1 := (hrH.below B1 (Nat.le_refl _)).more hlW
      have hrS1 := (hrS.below B1 (Nat.le_refl _)).more hlW
      obtain ⟨W1, hW1⟩ : ∃ W, W = wr := ⟨_, rfl⟩
      rw [← hW1] at f1 o1 kf1 hrH1 hrS1 X0 ⊢
      clear hW1 HKd HKa B1 B0 hlW hkn hk wr hrH hrS kf o0
      go_wp2_with fail
      clear f1
      go_loopw [49] (fun i wr => ∃ k : Nat, k ≤ n ∧ i = .int .i64 k ∧ wr.ownsRow B 3 1 (.slice (some ⟨gR, 0, none⟩) n n) n (cellsI (rowN n fun v => if v < k ∧ hm n ars v = h then (R v : Int) else V v)) ∧ But gR W1 wr ∧ Hid (∀ v, v < k → hm n ars v = h → R v ≤ 4096)) (fun i _ => n - (intOf i).toNat)
      case atStart => exact ⟨0, Nat.zero_le _, rfl, by rw [rowN_ext (V' := V) (fun v _ => by simp)]; exact o1, ⟨rfl, rfl, rfl, Nat.le_refl _, fun _ _ _ => rfl⟩, fun v hv => by omega⟩
      case round =>
        clear o1
        obtain ⟨k, hk, rfl, o1, B1, HR⟩ := hrel
        by_cases hkn : k < n
        · obtain ⟨b, off, x, rfl, hb, hfx, h0, hd, hat⟩ := (B1.rd hrH1 (Nat.le_refl _) hA1).at_ (k := k) (home_fit_of C) (by rw [homeF_length]; exact hkn)
          obtain rfl : x = (hm n ars k : Nat) := by have := hat.out; rw [homeF_at hkn] at this; exact (Option.some.inj this).symm
          clear hd hat
          by_cases hh : hm n ars k = h
          · rw [hh] at h0
            obtain ⟨b2, off2, f, rfl, hb2, hff, c0, c1, hd, hat⟩ := (B1.rd hrS1 (Nat.le_refl _) hA2).fr (k := k) (by intro a ha; obtain ⟨v, hv, rfl⟩ := List.mem_map.1 ha; exact (hsm v (List.mem_range.1 hv)).fit) (by simp [hkn])
            obtain rfl : f = shF n ars R k := by have := hat.out; simp [hkn] at this; exact this.symm
            have hsk := hsm k hkn
            unfold shF at c1 c0 hsk
            rw [hh] at c1 c0 hsk
            obtain ⟨e1, e2, e3, e4, e5, e6⟩ := den_num (hpos k) (hpos h)
            rw [← e1] at c1
            rw [← e2] at c0
            have e7 : denN (R k) (R h) ≤ 4096 := by have := hsk.d2; omega
            have e8 : numN (R k) (R h) ≤ 4096 := by have := hsk.n2; omega
            have e9 := scale_count (hpos k) (hpos h)
            clear e1 e2 e5 e6 hsk hd hat hff hfx
            obtain ⟨dd, hdd⟩ : ∃ d, denN (R k) (R h) = d := ⟨_, rfl⟩
            obtain ⟨nn, hnn⟩ : ∃ d, numN (R k) (R h) = d := ⟨_, rfl⟩
            rw [hdd] at c1 e3 e7 e9
            rw [hnn] at c0 e4 e8 e9
            clear hdd hnn
            have q0 : ((dd : Int) == 0) = false := by simp; omega
            have q0' : ¬ (dd : Int) = 0 := by omega
            have q1 : ((R h : Nat) : Int).tdiv (dd : Int) = ((R h / dd : Nat) : Int) := by rw [Int.tdiv_eq_ediv_of_nonneg (by omega)]; exact (Int.natCast_ediv _ _).symm
            have q2 : ((R h / dd : Nat) : Int) * (nn : Int) = (R k : Nat) := by rw [← e9]; exact (Int.natCast_mul _ _).symm
            have q3 : R h / dd ≤ 4096 := Nat.le_trans (Nat.div_le_self _ _) hK2
            have q4 : R k ≤ 4096 * 4096 := by rw [← e9]; exact Nat.mul_le_mul q3 e8
            obtain ⟨qq, hqq⟩ : ∃ d, R h / dd = d := ⟨_, rfl⟩
            rw [hqq] at q1 q2 q3
            clear e9 hqq
            have hco := o1.cellAt k (by omega)
            rw [show (cellsI (rowN n fun v => if v < k ∧ hm n ars v = h then (R v : Int) else V v))[k]? = some (.int .i64 (V k)) by simp only [cellsI, List.getElem?_map, rowN_at hkn]; simp] at hco
            have fro := o1.frozenAt k
            have o2 := (o1.stored k (.int .i64 (R k : Nat))).1
            rw [cellsI_set, rowN_set, rowN_ext (V' := fun v => if v < k + 1 ∧ hm n ars v = h then (R v : Int) else V v) (fun v hv => by
              by_cases hvk : v = k
              · subst hvk; simp [hh]
              · rw [if_neg hvk]
                by_cases hlt : v < k
                · simp [hlt, show v < k + 1 by omega]
                · simp [hlt, show ¬ v < k + 1 by omega])] at o2
            have B2 := B1.trans (But.set wr gR k (.int .i64 (R k : Nat)))
            have hc2 := o2.cellAt k (by omega)
            rw [show (cellsI (rowN n fun v => if v < k + 1 ∧ hm n ars v = h then (R v : Int) else V v))[k]? = some (.int .i64 (R k : Nat)) by simp only [cellsI, List.getElem?_map, rowN_at hkn]; simp [hh]] at hc2
            clear o1 B1
            by_cases hb4 : R k ≤ 4096
            · have q5 : decide ((R k : Int) > 4096) = false := decide_eq_false (by omega)
              have q6 : decide (4096 < R k) = false := decide_eq_false (by omega)
              have HR2 := Lib.hid (show ∀ v, v < k + 1 → hm n ars v = h → R v ≤ 4096 from fun v hv hvh => by
                by_cases hvk : v = k
                · subst hvk; exact hb4
                · exact HR.out v (by omega) hvh)
              go_upto_region 15 with fail
              go_region
              go_wp2_with fail
              go_roundw
              case rel => exact ⟨k + 1, by omega, by go_num, o2, B2.trans (Below.but (Below.drewN (Below.refl _ _) 1) gR), HR2⟩
              case measure => simp [intOf]; omega
            · have q5 : decide ((R k : Int) > 4096) = true := decide_eq_true (by omega)
              have q6 : decide (4096 < R k) = true := decide_eq_true (by omega)
              go_upto_region 15 with fail
              go_region
              go_wp2_with fail
              go_ret
              exact ⟨false, _, rfl, o2, X0.out.trans (B2.trans (Below.but (Below.drewN (Below.refl _ _) 1) gR)), fun h => (by cases h), fun _ => ⟨k, hkn, by omega⟩⟩
          · have hq : ((hm n ars k : Nat) == (h : Int)) = false := by simp; omega
            have HR2 := Lib.hid (show ∀ v, v < k + 1 → hm n ars v = h → R v ≤ 4096 from fun v hv hvh => by
              by_cases hvk : v = k
              · subst hvk; exact absurd hvh hh
              · exact HR.out v (by omega) hvh)
            rw [rowN_ext (V' := fun v => if v < k + 1 ∧ hm n ars v = h then (R v : Int) else V v) (fun v hv => by
              by_cases hvk : v = k
              · subst hvk; simp [hh]
              · by_cases hlt : v < k
                · simp [hlt, show v < k + 1 by omega]
                · simp [hlt, show ¬ v < k + 1 by omega])] at o1
            go_wp2_with fail
            go_roundw
            case rel => exact ⟨k + 1, by omega, by go_num, o1, B1, HR2⟩
            case measure => simp [intOf]; omega
        · obtain rfl : n = k := by omega
          go_wp2_with fail
          go_ret
          exact ⟨true, _, rfl, o1, X0.out.trans B1, fun _ => ⟨fun v hv => by simp [hv], fun v hv hvh => HR.out v hv hvh⟩, fun h => (by cases h)⟩
end Go.Proofs.YtpmlljbebdidgaaDoor
