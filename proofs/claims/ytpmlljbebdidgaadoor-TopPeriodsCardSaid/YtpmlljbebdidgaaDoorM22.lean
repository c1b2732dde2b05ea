/-
  Gh, Gi: texts pasted together.
-/
import Derived.Test.YtpmlljbebdidgaaDoorM21
/-
  The checker's ports, on one side.
-/
namespace Go.Proofs.YtpmlljbebdidgaaDoor
open Go.RowKit Go.Maps

def portE (ns : List (List UInt8)) (M : List (List Bool)) (x : PrtV) : Int := if nameE ns x.nm = 0 then takeE M x.a x.p else nameE ns x.nm
def portsE : List PrtV → List (List UInt8) → List (List Bool) → Int
  | [], _, _ => 0
  | x :: xs, ns, M => if portE ns M x = 0 then portsE xs (ns ++ [x.nm.data.toList]) (takeM M x.a x.p) else portE ns M x
def portsM (xs : List PrtV) (M : List (List Bool)) : List (List Bool) := xs.foldl (fun M x => takeM M x.a x.p) M
def namesP (xs : List PrtV) : List (List UInt8) := xs.map fun x => x.nm.data.toList
theorem portsM_step {xs : List PrtV} {k : Nat} {x : PrtV} (hx : xs[k]? = some x) (M : List (List Bool)) : portsM (xs.take (k + 1)) M = takeM (portsM (xs.take k) M) x.a x.p := by
  unfold portsM
  rw [List.take_add_one, hx, List.foldl_append]
  rfl
theorem portsM_length (xs : List PrtV) : ∀ (M : List (List Bool)), (portsM xs M).length = M.length := by
  induction xs with
  | nil => intro M; rfl
  | cons x xs ih =>
    intro M
    show (portsM xs (takeM M x.a x.p)).length = _
    rw [ih, takeM_length]
theorem namesP_step {xs : List PrtV} {k : Nat} {x : PrtV} (hx : xs[k]? = some x) : namesP (xs.take (k + 1)) = namesP (xs.take k) ++ [x.nm.data.toList] := by
  unfold namesP
  rw [List.take_add_one, hx, List.map_append]
  rfl

/-- every spot's block stays as it is -/
def SpK (w w' : World) : Prop := ∀ g cs, Blk w g 111 cs → Blk w' g 111 cs
theorem SpK.trans {a b c : World} (h : SpK a b) (h' : SpK b c) : SpK a c := fun g cs k => h' g cs (h g cs k)
theorem SpK.below {w w' : World} (hb : Below w.heap.size w w') : SpK w w' := fun _ _ k => k.below hb k.lt
theorem SpK.named {w w' : World} {m n : Nat} {D : DataW Unit} {K : TypeId} {E : Value → Option (DataW Unit × List MemPlace)} (h : w.ownsMap Tryd.prog K E m n D) (ho : Only (fun k => k = m) w w') : SpK w w' :=
  fun g _ k => (ho.block g k.lt (map_ne h k)).trans k
theorem SpK.taken {w0 w w' : World} {B gc m nn : Nat} {hd : GraV} {ns : List (List UInt8)} {Vc V : Bool → Value} {R : Bool → Nat → Nat} {M : Bool → List (List Bool)} (h : CkS w0 w B gc m hd ns nn Vc V R M) (s : Bool) {n : Nat} (hn : (M s).length = n) (ho : Only (rowsX (R s) n) w w') : SpK w w' :=
  fun g _ k => (ho.block g k.lt (hn ▸ h.notRow s k (by decide))).trans k
theorem SpK.aside {v w w' : World} {gs : Nat} (h : SpK v w) (hv : v.heap.size = gs) (hs : v.heap.size ≤ w.heap.size) (ho : Only (fun k => k = gs) w w') : SpK v w' :=
  fun g cs k => (ho.block g (Nat.lt_of_lt_of_le k.lt hs) (by have := k.lt; omega)).trans (h g cs k)

set_option maxRecDepth 100000 in
set_option maxHeartbeats 4000000 in
theorem ports_walk (w0 : World) (B gc m nn : Nat) (hd : GraV) (ns : List (List UInt8)) (V : Bool → Value) (R : Bool → Nat → Nat) (M : Bool → List (List Bool)) (s : Bool) (xs : List PrtV) (A : Option Addr) (nA cA : Nat) (kind en : Int) (w : World) (hrd : Rd w0 B A (cellsPr xs)) (hgx : ∀ x ∈ xs, x.good) (hnA : xs.length = nA) (hl : nA ≤ 16) (hnn : nn ≤ 500) (hM : 0 < (M s).length) (h : CkS w0 w B gc m hd ns nn V V R M) :
    Calls Tryd.prog 54 #[.pointer (some ⟨gc, 0, none⟩), .slice A nA cA, V s, .int .u8 kind, .int .i64 en] w fun e w' => ∃ a b c : Int, e = .returned (.tuple #[.int .i64 (portsE xs ns (M s)), .agg #[.int .u8 a, .int .i64 b, .int .i64 c]]) ∧ (SpK w w' ∧ ∃ ns' nn' M', CkS w0 w' B gc m hd ns' nn' V V R M') ∧
      (portsE xs ns (M s) = 0 → CkS w0 w' B gc m hd (ns ++ namesP xs) (nn + nA) V V R (updB M s (portsM xs (M s)))) := by
  obtain ⟨gs, hgs⟩ : ∃ b, w.heap.size = b := ⟨_, rfl⟩
  have hlt := h.blk.lt
  have hgc := h.gcB
  have hgsB : B ≤ gs := by omega
  obtain ⟨E, hE⟩ : ∃ E, portsE xs ns (M s) = E := ⟨_, rfl⟩
  rw [hE]
  have b1 := (Below.refl w.heap.size w).alloc (Nat.le_refl _) (.cells #[.int .u8 0, .int .i64 0, .int .i64 0] 111)
  have h1 := h.below b1
  have K1 := SpK.below b1
  have hz1 := b1.size
  have s1 := Blk.new w gs hgs.symm 111 #[.int .u8 0, .int .i64 0, .int .i64 0]
  obtain ⟨W1, hW1⟩ : ∃ W, w.alloc (.cells #[.int .u8 0, .int .i64 0, .int .i64 0] 111) = W := ⟨_, rfl⟩
  rw [hW1] at h1 s1 K1 hz1
  have HK1 := Lib.hid K1
  have Hhgs := Lib.hid hgs
  obtain ⟨Vs, hVs⟩ : ∃ v, V s = v := ⟨_, rfl⟩
  rw [hVs]
  have HVs := Lib.hid hVs
  have HE := Lib.hid hE
  have HnA := Lib.hid hnA
  have H1 := Lib.hid h1
  have HRD := Lib.hid hrd
  have HGX := Lib.hid hgx
  have hS0 := Lib.hid s1
  have HM := Lib.hid hM
  clear hE hnA h b1 h1 hrd hgx s1 hM hVs K1
  go_enter Tryd.func54, Tryd.ntmps54
  go_wp2_with fail
  try rw [hgs]
  clear hW1
  go_loopw [18] (fun i wr => ∃ k : Nat, k ≤ nA ∧ i = .int .i64 k ∧ Blk wr gs 111 #[.int .u8 0, .int .i64 0, .int .i64 0] ∧ CkS w0 wr B gc m hd (ns ++ namesP (xs.take k)) (nn + k) V V R (updB M s (portsM (xs.take k) (M s))) ∧ Hid (SpK w wr) ∧ w.heap.size ≤ wr.heap.size ∧ Hid (E = portsE (xs.drop k) (ns ++ namesP (xs.take k)) (portsM (xs.take k) (M s)))) (fun i _ => nA - (intOf i).toNat)
  case atStart =>
    refine ⟨0, by omega, rfl, hS0.out, ?_, HK1, hz1, by unfold Hid; rw [← HE.out]; simp [portsM, namesP]⟩
    have e : updB M s (portsM (xs.take 0) (M s)) = M := by
      funext y
      by_cases hy : y = s
      · subst hy; rw [updB_self]; simp [portsM]
      · rw [updB_other hy]
    rw [e]
    simpa [namesP] using H1.out
  case round =>
    clear H1 hS0
    obtain ⟨k, hk, rfl, sp, hC, HKw, hzw, He⟩ := hrel
    have hltc := hC.blk.lt
    by_cases hkA : k < nA
    · obtain ⟨ab, ao, x, hA, hab, hxk, hxc⟩ := (HRD.out.below hC.bel (Nat.le_refl _)).flat (f := PrtV.cells) (n := 3) (by omega) (fun _ => rfl) (k := k) (by rw [HnA.out]; exact hkA)
      subst hA
      have c0 := hxc 0 _ rfl
      have c1 := hxc 1 _ rfl
      have c2 := hxc 2 _ rfl
      rw [Nat.add_zero] at c0
      have gx := HGX.out x (List.mem_of_getElem? hxk)
      have ba := (Below.refl wr.heap.size wr).alloc (Nat.le_refl _) (.cells #[.string x.nm, .int .i64 x.a, .int .i64 x.p] 68)
      have kx := Blk.new wr _ rfl 68 #[.string x.nm, .int .i64 x.a, .int .i64 x.p]
      have C2 := hC.below ba
      have K2 := HKw.out.trans (SpK.below ba)
      have hz2 := Nat.le_trans hzw ba.size
      have sp2 := sp.below ba sp.lt
      obtain ⟨ga, hga⟩ : ∃ g, wr.heap.size = g := ⟨_, rfl⟩
      obtain ⟨W2, hW2⟩ : ∃ W, wr.alloc (.cells #[.string x.nm, .int .i64 x.a, .int .i64 x.p] 68) = W := ⟨_, rfl⟩
      rw [hW2] at kx C2 sp2 K2 hz2
      have HK2w := Lib.hid K2
      rw [hga] at kx
      have x0 := kx.cell 0
      have cm := C2.blk.cell 5
      simp only [List.getElem?_toArray, List.getElem?_cons_zero, List.getElem?_cons_succ] at x0 cm
      have h3 : (0 : Int) ≤ (k : Int) := by omega
      have h4 : (k : Int) < (nA : Int) := by omega
      have hdr : xs.drop k = x :: xs.drop (k + 1) := by
        rw [List.drop_eq_getElem_cons (by rw [HnA.out]; exact hkA)]
        congr 1
        have := List.getElem?_eq_getElem (l := xs) (i := k) (by rw [HnA.out]; exact hkA)
        rw [hxk] at this
        exact (Option.some.inj this).symm
      have He1 := He.out
      rw [hdr, portsE] at He1
      have hst := portsM_step hxk (M s)
      have hsn := namesP_step hxk
      obtain ⟨Mk, hMk⟩ : ∃ v, portsM (xs.take k) (M s) = v := ⟨_, rfl⟩
      have hMl : 0 < Mk.length := by rw [← hMk, portsM_length]; exact HM.out
      rw [hMk] at hst He1 C2
      have Hst := Lib.hid hst
      have Hsn := Lib.hid hsn
      have HE1 := Lib.hid He1
      have HMl := Lib.hid hMl
      have HC2 := Lib.hid C2
      have HS2 := Lib.hid sp2
      have HK2 := Lib.hid kx
      clear hC sp ba hdr He He1 hxc C2 sp2 kx hxk hst hsn hMk hMl K2 HKw hzw
      go_wp2_with fail
      try rw [hW2]
      try rw [hga]
      refine (cname_any gc m (nn + k) (ns ++ namesP (xs.take k)) x.nm W2 gx.nm (by omega) HC2.out.blk.lt cm HC2.out.map).mono ?_
      rintro e w3 ⟨rfl, hm3, ho3⟩
      have C3 := HC2.out.named ho3 hm3
      have HK3w := Lib.hid (HK2w.out.trans (SpK.named HC2.out.map ho3))
      have hz3 := Nat.le_trans hz2 ho3.size
      have sp3 : Blk w3 gs 111 #[.int .u8 0, .int .i64 0, .int .i64 0] := (ho3.block gs HS2.out.lt (map_ne HC2.out.map HS2.out)).trans HS2.out
      have kx3 : Blk w3 ga 68 #[.string x.nm, .int .i64 x.a, .int .i64 x.p] := (ho3.block ga HK2.out.lt (map_ne HC2.out.map HK2.out)).trans HK2.out
      obtain ⟨E1, hE1⟩ : ∃ e, nameE (ns ++ namesP (xs.take k)) x.nm = e := ⟨_, rfl⟩
      rw [hE1]
      have HN1 := Lib.hid hE1
      clear hE1 hm3 ho3 HC2 HS2 HK2 x0 cm hW2 c0 c1 c2 HK2w hz2
      by_cases hE0 : E1 = 0
      · have hnsN : namesN (ns ++ namesP (xs.take k)) x.nm = ns ++ namesP (xs.take (k + 1)) := by
          unfold namesN
          rw [HN1.out, if_pos hE0, Hsn.out, List.append_assoc]
        rw [hnsN] at C3
        have hpe : portE (ns ++ namesP (xs.take k)) Mk x = takeE Mk x.a x.p := by unfold portE; rw [HN1.out, if_pos hE0]
        have He2 := HE1.out
        rw [hpe, List.append_assoc, ← Hsn.out, ← Hst.out] at He2
        subst hE0
        have x1 := kx3.cell 1
        have x2 := kx3.cell 2
        simp only [List.getElem?_toArray, List.getElem?_cons_zero, List.getElem?_cons_succ] at x1 x2
        have NX3 := C3.notRow s sp3 (by decide)
        have hsl : 0 < (updB M s Mk s).length := by rw [updB_self]; exact HMl.out
        have htk := C3.take s hsl x.a x.p
        rw [HVs.out, updB_self] at htk
        have HTK := Lib.hid htk
        have HC3 := Lib.hid C3
        have HE2 := Lib.hid He2
        have HS3 := Lib.hid sp3
        clear hnsN hpe He2 C3 sp3 kx3 hsl htk HE1 HN1
        go_wp2_with fail
        refine HTK.out.mono ?_
        rintro e wz ⟨rfl, C4, O4⟩
        rw [updB_self] at NX3
        have HK4w := Lib.hid (HK3w.out.trans (SpK.taken HC3.out s (by rw [updB_self]) O4))
        have hz4 := Nat.le_trans hz3 O4.size
        have spz : Blk wz gs 111 #[.int .u8 0, .int .i64 0, .int .i64 0] := (O4.block gs HS3.out.lt NX3).trans HS3.out
        have hfin : (fun y => if y = s then takeM Mk x.a x.p else updB M s Mk y) = updB M s (portsM (xs.take (k + 1)) (M s)) := by
          rw [Hst.out]
          funext y
          by_cases hy : y = s
          · subst hy; rw [if_pos rfl, updB_self]
          · rw [if_neg hy, updB_other hy, updB_other hy]
        rw [hfin] at C4
        obtain ⟨E2, hE2⟩ : ∃ e, takeE Mk x.a x.p = e := ⟨_, rfl⟩
        rw [hE2]
        have He3 := HE2.out
        rw [hE2] at He3
        have HE3 := Lib.hid He3
        have HCz := Lib.hid C4
        clear hE2 He3 hfin C4 O4 NX3 HTK HE2 HS3 x1 x2 HC3 HK3w hz3
        by_cases hE2 : E2 = 0
        · subst hE2
          have HSz := Lib.hid spz
          clear spz
          go_wp2_with fail
          go_roundw
          case rel => exact ⟨k + 1, by omega, by go_num, HSz.out, HCz.out, HK4w, hz4, HE3.out.trans (if_pos (by trivial))⟩
          case measure => simp [intOf]; omega
        · have hne : (E2 != 0) = true := by simpa using hE2
          obtain rfl : E = E2 := by have := HE3.out; rw [if_neg hE2] at this; exact this
          have q4 := ((spz.set 0 (.int .u8 kind)).set 1 (.int .i64 k)).set 2 (.int .i64 en)
          simp only [List.setIfInBounds_toArray, List.set_cons_zero, List.set_cons_succ] at q4
          have s0 := q4.cell 0
          have s1 := q4.cell 1
          have s2 := q4.cell 2
          have f0 := spz.frozen 0
          have f1 := spz.frozen 1
          have f2 := spz.frozen 2
          have p0 := spz.cell 0
          have p1 := spz.cell 1
          have p2 := spz.cell 2
          simp only [List.getElem?_toArray, List.getElem?_cons_zero, List.getElem?_cons_succ] at s0 s1 s2 p0 p1 p2
          have hO := onlySet3 wz gs (.int .u8 kind) (.int .i64 k) (.int .i64 en)
          have Cz := HCz.out.aside spz hgsB (by decide) (by decide) (by decide) hO
          have HCz2 := Lib.hid Cz
          clear Cz hO q4 spz HCz
          go_wp2_with fail
          refine bodyPost_ret (v := .tuple #[.int .i64 E, .agg #[.int .u8 kind, .int .i64 k, .int .i64 en]]) (by simp [results, Tryd.results54, go_sem, s0, s1, s2]) rfl ?_
          exact ⟨_, _, _, rfl, ⟨HK4w.out.aside Hhgs.out hz4 (onlySet3 wz gs _ _ _), _, _, _, HCz2.out⟩, fun h => absurd h hE2⟩
      · have hne : (E1 != 0) = true := by simpa using hE0
        have hpe : portE (ns ++ namesP (xs.take k)) Mk x = E1 := by unfold portE; rw [HN1.out, if_neg hE0]
        obtain rfl : E = E1 := by have := HE1.out; rw [hpe, if_neg hE0] at this; exact this
        have HCz := Lib.hid C3
        have spz := sp3
        clear C3 sp3 kx3 hpe HE1 HN1
        have q4 := ((spz.set 0 (.int .u8 kind)).set 1 (.int .i64 k)).set 2 (.int .i64 0)
        simp only [List.setIfInBounds_toArray, List.set_cons_zero, List.set_cons_succ] at q4
        have s0 := q4.cell 0
        have s1 := q4.cell 1
        have s2 := q4.cell 2
        have f0 := spz.frozen 0
        have f1 := spz.frozen 1
        have f2 := spz.frozen 2
        have p0 := spz.cell 0
        have p1 := spz.cell 1
        have p2 := spz.cell 2
        simp only [List.getElem?_toArray, List.getElem?_cons_zero, List.getElem?_cons_succ] at s0 s1 s2 p0 p1 p2
        have hO := onlySet3 w3 gs (.int .u8 kind) (.int .i64 k) (.int .i64 0)
        have Cz := HCz.out.aside spz hgsB (by decide) (by decide) (by decide) hO
        have HCz2 := Lib.hid Cz
        clear Cz hO q4 spz HCz
        go_wp2_with fail
        refine bodyPost_ret (v := .tuple #[.int .i64 E, .agg #[.int .u8 kind, .int .i64 k, .int .i64 0]]) (by simp [results, Tryd.results54, go_sem, s0, s1, s2]) rfl ?_
        exact ⟨_, _, _, rfl, ⟨HK3w.out.aside Hhgs.out hz3 (onlySet3 w3 gs _ _ _), _, _, _, HCz2.out⟩, fun h => absurd h hE0⟩
    · obtain rfl : k = nA := by omega
      have hfull : xs.take k = xs := List.take_of_length_le (by rw [HnA.out]; exact Nat.le_refl _)
      have hnil : xs.drop k = [] := List.drop_eq_nil_of_le (by rw [HnA.out]; exact Nat.le_refl _)
      rw [hfull] at hC
      obtain rfl : E = 0 := by have := He.out; rw [hnil] at this; exact this
      have HCz := Lib.hid hC
      have spz := sp
      clear hC sp He hfull hnil
      have q4 := ((spz.set 0 (.int .u8 0)).set 1 (.int .i64 0)).set 2 (.int .i64 0)
      simp only [List.setIfInBounds_toArray, List.set_cons_zero, List.set_cons_succ] at q4
      have s0 := q4.cell 0
      have s1 := q4.cell 1
      have s2 := q4.cell 2
      have f0 := spz.frozen 0
      have f1 := spz.frozen 1
      have f2 := spz.frozen 2
      have p0 := spz.cell 0
      have p1 := spz.cell 1
      have p2 := spz.cell 2
      simp only [List.getElem?_toArray, List.getElem?_cons_zero, List.getElem?_cons_succ] at s0 s1 s2 p0 p1 p2
      have hO := onlySet3 wr gs (.int .u8 0) (.int .i64 0) (.int .i64 0)
      have Cz := HCz.out.aside spz hgsB (by decide) (by decide) (by decide) hO
      have HCz2 := Lib.hid Cz
      clear Cz hO q4 spz HCz
      go_wp2_with fail
      refine bodyPost_ret (v := .tuple #[.int .i64 0, .agg #[.int .u8 0, .int .i64 0, .int .i64 0]]) (by simp [results, Tryd.results54, go_sem, s0, s1, s2]) rfl ?_
      exact ⟨⟨_, _, _, rfl⟩, ⟨HKw.out.aside Hhgs.out hzw (onlySet3 wr gs _ _ _), _, _, _, HCz2.out⟩, HCz2.out⟩
end Go.Proofs.YtpmlljbebdidgaaDoor
/-
  The checker's open ports; find, Check.
-/
namespace Go.Proofs.YtpmlljbebdidgaaDoor
open Go.RowKit Go.Maps

def rowsOf (M : Bool → List (List Bool)) (i j : Nat) : List Bool := if j = 0 then (M false).getD i [] else (M true).getD i []
def fullB (M : Bool → List (List Bool)) (i : Nat) : Bool := (rowsOf M i 0).all id && (rowsOf M i 1).all id
def openE (n : Nat) (M : Bool → List (List Bool)) : Int := if (List.range n).all (fullB M) = true then 0 else 87
theorem open_bad {n : Nat} {M : Bool → List (List Bool)} {i j q : Nat} (hi : i < n) (hj : j < 2) (hq : (rowsOf M i j)[q]? = some false) : openE n M = 87 := by
  unfold openE
  rw [if_neg]
  intro h
  have h1 := List.all_eq_true.1 h i (List.mem_range.2 hi)
  unfold fullB at h1
  rw [Bool.and_eq_true] at h1
  have h2 : (rowsOf M i j).all id = true := by
    rcases (show j = 0 ∨ j = 1 by omega) with rfl | rfl
    · exact h1.1
    · exact h1.2
  have h3 := List.all_eq_true.1 h2 false (List.mem_of_getElem? hq)
  cases h3
theorem open_good {n : Nat} {M : Bool → List (List Bool)} (h : ∀ i, i < n → ∀ j, j < 2 → (rowsOf M i j).all id = true) : openE n M = 0 := by
  unfold openE
  rw [if_pos]
  refine List.all_eq_true.2 fun i hi => ?_
  have hi := List.mem_range.1 hi
  unfold fullB
  rw [h i hi 0 (by omega), h i hi 1 (by omega)]
  rfl
theorem all_take {r : List Bool} (h : ∀ q, q < r.length → r[q]? = some true) : r.all id = true := by
  refine List.all_eq_true.2 fun b hb => ?_
  obtain ⟨q, hq⟩ := List.getElem?_of_mem hb
  have := h q (List.getElem?_eq_some_iff.1 hq).1
  rw [hq] at this
  injection this

set_option maxRecDepth 100000 in
set_option maxHeartbeats 4000000 in
theorem open_any (w0 : World) (B gc m nn : Nat) (hd : GraV) (ns : List (List UInt8)) (V : Bool → Value) (R : Bool → Nat → Nat) (M : Bool → List (List Bool)) (w : World) (hl : hd.acts.length ≤ 32) (hM : ∀ s, (M s).length = hd.acts.length) (hp : 0 < hd.acts.length) (hr : ∀ s j, ((M s).getD j []).length ≤ 100) (h : CkS w0 w B gc m hd ns nn V V R M) :
    Calls Tryd.prog 55 #[.pointer (some ⟨gc, 0, none⟩)] w fun e w' => ∃ a b c : Int, e = .returned (.tuple #[.int .i64 (openE hd.acts.length M), .agg #[.int .u8 a, .int .i64 b, .int .i64 c]]) ∧ Below B w0 w' := by
  obtain ⟨gs, hgs⟩ : ∃ b, w.heap.size = b := ⟨_, rfl⟩
  have hlt := h.blk.lt
  have hgc := h.gcB
  have hgsB : B ≤ gs := by omega
  obtain ⟨nA, hnA⟩ : ∃ n, hd.acts.length = n := ⟨_, rfl⟩
  rw [hnA] at hl hM hp ⊢
  obtain ⟨E, hE⟩ : ∃ E, openE nA M = E := ⟨_, rfl⟩
  rw [hE]
  have b1 := (Below.refl w.heap.size w).alloc (Nat.le_refl _) (.cells #[.int .u8 0, .int .i64 0, .int .i64 0] 111)
  have h1 := h.below b1
  have s1 := Blk.new w gs hgs.symm 111 #[.int .u8 0, .int .i64 0, .int .i64 0]
  obtain ⟨W1, hW1⟩ : ∃ W, w.alloc (.cells #[.int .u8 0, .int .i64 0, .int .i64 0] 111) = W := ⟨_, rfl⟩
  rw [hW1] at h1 s1
  have c1 := h1.blk.cell 1
  simp only [List.getElem?_toArray, List.getElem?_cons_zero, List.getElem?_cons_succ] at c1
  rw [hnA] at c1
  obtain ⟨gI, cI, hVI, SI⟩ := h1.side false (by rw [hM]; exact hp)
  obtain ⟨gO, cO, hVO, SO⟩ := h1.side true (by rw [hM]; exact hp)
  have hMf := hM false
  have hMt := hM true
  rw [hMf] at hVI
  rw [hMt] at hVO
  have HE := Lib.hid hE
  have HC := Lib.hid h1
  have HSI := Lib.hid SI
  have HSO := Lib.hid SO
  have HVI := Lib.hid hVI
  have HVO := Lib.hid hVO
  have HMf := Lib.hid hMf
  have HMt := Lib.hid hMt
  have HR := Lib.hid hr
  have hS0 := Lib.hid s1
  have HltI := (SI.hdr.lt gI rfl).2
  have HltO := (SO.hdr.lt gO rfl).2
  have hltg := h1.blk.lt
  clear hE h b1 h1 s1 hM SI SO hVI hVO hMf hMt hr
  go_enter Tryd.func55, Tryd.ntmps55
  go_wp2_with fail
  try rw [hgs]
  clear c1 hW1
  go_loopw [15] (fun i wr => ∃ k : Nat, k ≤ nA ∧ i = .int .i64 k ∧ Below W1.heap.size W1 wr ∧ Hid (∀ i, i < k → ∀ j, j < 2 → (rowsOf M i j).all id = true)) (fun i _ => nA - (intOf i).toNat)
  case atStart => exact ⟨0, by omega, rfl, Below.refl _ _, fun i hi => absurd hi (Nat.not_lt_zero _)⟩
  case round =>
    obtain ⟨k, hk, rfl, hbw, Hg⟩ := hrel
    have hsz := hbw.size
    by_cases hkA : k < nA
    · have kb := HC.out.blk.below hbw hltg
      have r6 := kb.cell 6
      have r7 := kb.cell 7
      simp only [List.getElem?_toArray, List.getElem?_cons_zero, List.getElem?_cons_succ] at r6 r7
      rw [HVI.out] at r6
      rw [HVO.out] at r7
      have hi6 := (hbw.cell (p := ⟨gI, k, none⟩) HltI).trans (HSI.out.cellH (j := k) (by rw [HMf.out]; exact hkA))
      have hi7 := (hbw.cell (p := ⟨gO, k, none⟩) HltO).trans (HSO.out.cellH (j := k) (by rw [HMt.out]; exact hkA))
      have h3 : (0 : Int) ≤ (k : Int) := by omega
      have h4 : (k : Int) < (nA : Int) := by omega
      obtain ⟨rI, hrI⟩ : ∃ r, (M false).getD k [] = r := ⟨_, rfl⟩
      obtain ⟨rO, hrO⟩ : ∃ r, (M true).getD k [] = r := ⟨_, rfl⟩
      obtain ⟨lI, hlI⟩ : ∃ r, rI.length = r := ⟨_, rfl⟩
      obtain ⟨lO, hlO⟩ : ∃ r, rO.length = r := ⟨_, rfl⟩
      obtain ⟨bI, hbI⟩ : ∃ r, R false k = r := ⟨_, rfl⟩
      obtain ⟨bO, hbO⟩ : ∃ r, R true k = r := ⟨_, rfl⟩
      have rowI : ∀ w', Below W1.heap.size W1 w' → ∀ q, q < lI → w'.cell? ⟨bI, q, none⟩ = some (.bool (rI.getD q false)) := fun w' hb q hq => by
        have h5 := HSI.out.cellR (j := k) (p := q) (by rw [HMf.out]; exact hkA) (by rw [hrI, hlI]; exact hq)
        rw [hrI, hbI] at h5
        exact (hb.cell (p := ⟨bI, q, none⟩) (by rw [← hbI]; exact ((HSI.out.row k (by rw [HMf.out]; exact hkA)).lt (R false k) rfl).2)).trans h5
      have rowO : ∀ w', Below W1.heap.size W1 w' → ∀ q, q < lO → w'.cell? ⟨bO, q, none⟩ = some (.bool (rO.getD q false)) := fun w' hb q hq => by
        have h5 := HSO.out.cellR (j := k) (p := q) (by rw [HMt.out]; exact hkA) (by rw [hrO, hlO]; exact hq)
        rw [hrO, hbO] at h5
        exact (hb.cell (p := ⟨bO, q, none⟩) (by rw [← hbO]; exact ((HSO.out.row k (by rw [HMt.out]; exact hkA)).lt (R true k) rfl).2)).trans h5
      have hlI9 : lI ≤ 100 := by rw [← hlI, ← hrI]; exact HR.out false k
      have hlO9 : lO ≤ 100 := by rw [← hlO, ← hrO]; exact HR.out true k
      rw [hrI, hlI, hbI] at hi6
      rw [hrO, hlO, hbO] at hi7
      have ba := (Below.refl wr.heap.size wr).alloc (Nat.le_refl _) (.cells #[.slice (some ⟨bI, 0, none⟩) lI lI, .slice (some ⟨bO, 0, none⟩) lO lO] 123)
      have kl := Blk.new wr _ rfl 123 #[.slice (some ⟨bI, 0, none⟩) lI lI, .slice (some ⟨bO, 0, none⟩) lO lO]
      have bw2 := hbw.trans (ba.mono hsz)
      have HRI := Lib.hid rowI
      have HRO := Lib.hid rowO
      have hro1 : rowsOf M k 0 = rI := by unfold rowsOf; rw [if_pos rfl]; exact hrI
      have hro2 : rowsOf M k 1 = rO := by unfold rowsOf; rw [if_neg (by omega)]; exact hrO
      have Hr1 := Lib.hid hro1
      have Hr2 := Lib.hid hro2
      have HlI := Lib.hid hlI
      have HlO := Lib.hid hlO
      clear kb hrI hrO hlI hlO hbI hbO rowI rowO hro1 hro2 ba
      go_wp2_with fail
      go_region
      obtain ⟨gl, hgl⟩ : ∃ g, wr.heap.size = g := ⟨_, rfl⟩
      obtain ⟨W3, hW3⟩ : ∃ W, (wr.alloc (.cells #[.slice (some ⟨bI, 0, none⟩) lI lI, .slice (some ⟨bO, 0, none⟩) lO lO] 123)).drew = W := ⟨_, rfl⟩
      have kl3 : Blk W3 gl 123 #[.slice (some ⟨bI, 0, none⟩) lI lI, .slice (some ⟨bO, 0, none⟩) lO lO] := by rw [← hW3, ← hgl]; exact kl
      have b3 : Below W1.heap.size W1 W3 := by rw [← hW3]; exact Below.drewN bw2 1
      rw [hW3, hgl]
      have y0 := kl3.cell 0
      have y1 := kl3.cell 1
      simp only [List.getElem?_toArray, List.getElem?_cons_zero, List.getElem?_cons_succ] at y0 y1
      have HB3 := Lib.hid b3
      have Hg0 := Lib.hid Hg
      have HSZ := Lib.hid hsz
      clear hi6 hi7 r6 r7 kl bw2 hW3 hgl hbw kl3 b3 Hg hsz
      go_wp2_with fail
      go_loopw [34] (fun i2 wx => ∃ j : Nat, j ≤ 2 ∧ i2 = .int .i64 j ∧ wx = W3 ∧ Hid (∀ j', j' < j → (rowsOf M k j').all id = true)) (fun i _ => 2 - (intOf i).toNat)
      case atStart => exact ⟨0, by omega, rfl, rfl, fun j' hj' => absurd hj' (Nat.not_lt_zero _)⟩
      case round =>
        obtain ⟨j, hj, rfl, rfl, HJ⟩ := hrel
        by_cases hj2 : j < 2
        · obtain ⟨rb, r, L, hcell, hL, hrow, hrows, hL9⟩ : ∃ rb r L, wr.cell? ⟨gl, j, none⟩ = some (.slice (some ⟨rb, 0, none⟩) L L) ∧ r.length = L ∧ (∀ q, q < L → wr.cell? ⟨rb, q, none⟩ = some (.bool (r.getD q false))) ∧ rowsOf M k j = r ∧ L ≤ 100 := by
            rcases (show j = 0 ∨ j = 1 by omega) with rfl | rfl
            · exact ⟨bI, rI, lI, y0, HlI.out, HRI.out _ HB3.out, Hr1.out, hlI9⟩
            · exact ⟨bO, rO, lO, y1, HlO.out, HRO.out _ HB3.out, Hr2.out, hlO9⟩
          have HL := Lib.hid hL
          have Hrow := Lib.hid hrow
          have Hrows := Lib.hid hrows
          have j3 : (0 : Int) ≤ (j : Int) := by omega
          have j4 : (j : Int) < 2 := by omega
          clear hL hrow hrows
          go_wp2_with fail
          go_loopw [40] (fun i3 wy => ∃ q : Nat, q ≤ L ∧ i3 = .int .i64 q ∧ wy = wr ∧ Hid (∀ q', q' < q → r[q']? = some true)) (fun i _ => L - (intOf i).toNat)
          case atStart => exact ⟨0, by omega, rfl, rfl, fun q' hq' => absurd hq' (Nat.not_lt_zero _)⟩
          case round =>
            obtain ⟨q, hq, rfl, hwy, HQ⟩ := hrel
            subst hwy
            by_cases hqL : q < L
            · have hcq := Hrow.out q hqL
              have q3 : (0 : Int) ≤ (q : Int) := by omega
              have q4 : (q : Int) < (L : Int) := by omega
              have hrq : r[q]? = some (r.getD q false) := by
                rw [List.getD_eq_getElem?_getD, List.getElem?_eq_getElem (by rw [HL.out]; exact hqL)]; rfl
              obtain ⟨b, hb⟩ : ∃ b, r.getD q false = b := ⟨_, rfl⟩
              rw [hb] at hcq hrq
              have Hrq := Lib.hid hrq
              clear hb hrq
              cases b with
              | true =>
                go_wp2_with fail
                go_roundw
                case rel =>
                  refine ⟨q + 1, by omega, by go_num, trivial, fun q' hq' => ?_⟩
                  by_cases hqq : q' = q
                  · subst hqq; exact Hrq.out
                  · exact HQ.out q' (by omega)
                case measure => simp [intOf]; omega
              | false =>
                obtain rfl : E = 87 := by
                  rw [← HE.out]
                  exact open_bad (i := k) (j := j) (q := q) hkA hj2 (by rw [Hrows.out]; exact Hrq.out)
                have HCz := Lib.hid (HC.out.below HB3.out)
                have spz := hS0.out.below HB3.out hS0.out.lt
                clear HL Hrow Hrows HRI HRO HSI HSO
                have q4 := ((spz.set 0 (.int .u8 1)).set 1 (.int .i64 k)).set 2 (.int .i64 0)
                simp only [List.setIfInBounds_toArray, List.set_cons_zero, List.set_cons_succ] at q4
                have s0 := q4.cell 0
                have s1 := q4.cell 1
                have s2 := q4.cell 2
                have f0 := spz.frozen 0
                have f1 := spz.frozen 1
                have f2 := spz.frozen 2
                have p0 := spz.cell 0
                have p1 := spz.cell 1
                have p2 := spz.cell 2
                simp only [List.getElem?_toArray, List.getElem?_cons_zero, List.getElem?_cons_succ] at s0 s1 s2 p0 p1 p2
                have hO := onlySet3 wr gs (.int .u8 1) (.int .i64 k) (.int .i64 0)
                have Cz := HCz.out.aside spz hgsB (by decide) (by decide) (by decide) hO
                have HCz2 := Lib.hid Cz
                clear Cz hO q4 spz HCz
                go_wp2_with fail
                refine bodyPost_ret (v := .tuple #[.int .i64 87, .agg #[.int .u8 1, .int .i64 k, .int .i64 0]]) (by simp [results, Tryd.results55, go_sem, s0, s1, s2]) rfl ?_
                exact ⟨_, _, _, rfl, HCz2.out.bel⟩
            · obtain rfl : q = L := by omega
              have hall : r.all id = true := all_take fun q' hq' => HQ.out q' (by rw [← HL.out]; exact hq')
              have Hall := Lib.hid hall
              clear hall
              go_wp2_with fail
              go_roundw
              case rel =>
                refine ⟨j + 1, by omega, by go_num, trivial, fun j' hj' => ?_⟩
                by_cases hjj : j' = j
                · subst hjj; rw [Hrows.out]; exact Hall.out
                · exact HJ.out j' (by omega)
              case measure => simp [intOf]; omega
        · obtain rfl : j = 2 := by omega
          go_wp2_with fail
          go_roundw
          case rel =>
            refine ⟨k + 1, by omega, by go_num, HB3.out, fun i' hi' => ?_⟩
            by_cases hik : i' = k
            · subst hik; exact HJ.out
            · exact Hg0.out i' (by omega)
          case measure => simp [intOf]; omega
    · obtain rfl : k = nA := by omega
      obtain rfl : E = 0 := by rw [← HE.out]; exact open_good Hg.out
      have HCz := Lib.hid (HC.out.below hbw)
      have spz := hS0.out.below hbw hS0.out.lt
      clear hbw
      have q4 := ((spz.set 0 (.int .u8 0)).set 1 (.int .i64 0)).set 2 (.int .i64 0)
      simp only [List.setIfInBounds_toArray, List.set_cons_zero, List.set_cons_succ] at q4
      have s0 := q4.cell 0
      have s1 := q4.cell 1
      have s2 := q4.cell 2
      have f0 := spz.frozen 0
      have f1 := spz.frozen 1
      have f2 := spz.frozen 2
      have p0 := spz.cell 0
      have p1 := spz.cell 1
      have p2 := spz.cell 2
      simp only [List.getElem?_toArray, List.getElem?_cons_zero, List.getElem?_cons_succ] at s0 s1 s2 p0 p1 p2
      have hO := onlySet3 wr gs (.int .u8 0) (.int .i64 0) (.int .i64 0)
      have Cz := HCz.out.aside spz hgsB (by decide) (by decide) (by decide) hO
      have HCz2 := Lib.hid Cz
      clear Cz hO q4 spz HCz
      go_wp2_with fail
      refine bodyPost_ret (v := .tuple #[.int .i64 0, .agg #[.int .u8 0, .int .i64 0, .int .i64 0]]) (by simp [results, Tryd.results55, go_sem, s0, s1, s2]) rfl ?_
      exact ⟨_, _, _, rfl, HCz2.out.bel⟩
end Go.Proofs.YtpmlljbebdidgaaDoor
