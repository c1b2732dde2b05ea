/-
  Gf, Gg: texts pasted together.
-/
import Derived.Test.YtpmlljbebdidgaaDoorM20
/-
  The checker's actors.
-/
namespace Go.Proofs.YtpmlljbebdidgaaDoor
open Go.RowKit Go.Maps

def gbOf : Value → Nat
  | .slice (some a) _ _ => a.block
  | _ => 0
def sAddr : Value → Option Addr
  | .slice a _ _ => a
  | _ => none
def sCap : Value → Nat
  | .slice _ _ c => c
  | _ => 0
theorem own_shape {w : World} {base n size : Nat} {e : TypeId} {v : Value} {xs : List Value} (h : w.ownsRow base e size v n xs) : v = .slice (sAddr v) n (sCap v) := by
  obtain ⟨A, c, rfl, -⟩ := own_slice h
  rfl
def actE (ns : List (List UInt8)) (x : ActV) : Int := if nameE ns x.nm = 0 then (shapeR x.tag x.ps).2.2 else nameE ns x.nm
def actorsE : List ActV → List (List UInt8) → Int
  | [], _ => 0
  | x :: xs, ns => if actE ns x = 0 then actorsE xs (ns ++ [x.nm.data.toList]) else actE ns x
/-- an actor's ports of a side, none of them taken -/
def portsN (s : Bool) (x : ActV) : Nat := if s then (shapeR x.tag x.ps).2.1.length else (shapeR x.tag x.ps).1.length
def sideM (acts : List ActV) (s : Bool) : List (List Bool) := acts.map fun x => List.replicate (portsN s x) false
def namesA (acts : List ActV) : List (List UInt8) := acts.map fun x => x.nm.data.toList
theorem shape_small (tag : Int) (ps : List Int) : (shapeR tag ps).1.length ≤ 16 ∧ (shapeR tag ps).2.1.length ≤ 16 := by
  have hw : ∀ {n : Int}, withinB n 16 = true → n.toNat ≤ 16 := fun h => by unfold withinB at h; simp at h; omega
  have hp : ∀ {l : Nat} {n m : Int}, pairB l n m = true → n.toNat ≤ 16 := fun h => by have := pairB_parts h; omega
  unfold shapeR
  split
  · simp
  · unfold shapeB
    split
    · simp
    split
    · simp
    split
    · simp
    split
    · rename_i h; have := hp h.2; simp; omega
    split
    · rename_i h; have := hp h.2; simp; omega
    split
    · rename_i h; have := hw h.2.2; simp; omega
    split
    · simp
    split
    · rename_i h; have := hw h.2.2; simp; omega
    split
    · simp
    split
    · simp
    · simp
theorem info_boolG : (Tryd.prog.info? 4).map (fun i => (i.zero, i.size, i.bytes)) = some (some (.bool false), 1, 1) := by kernel_rfl
theorem info_bools : (Tryd.prog.info? 123).map (fun i => (i.zero, i.size, i.bytes)) = some (some (.slice none 0 0), 1, 24) := by kernel_rfl
theorem made_bools (n : Nat) : madeCells #[Value.bool false] n = (cellsO (List.replicate n false)).toArray := by
  apply Array.ext'
  apply List.ext_getElem
  · simp [madeCells, cellsO]
  · intro j h1 h2; simp [madeCells, cellsO, Nat.mod_one]
theorem newR_made {w0 w : World} {B gc m nn : Nat} {hd : GraV} {ns : List (List UInt8)} {Vc V : Bool → Value} {R : Bool → Nat → Nat} {M : Bool → List (List Bool)} (h : CkS w0 w B gc m hd ns nn Vc V R M) (n : Nat) (hn : n ≤ 1000) : NewR (w.alloc (.cells (madeCells #[.bool false] n) 4)) B n w.heap.size R M := by
  rw [made_bools]
  refine ⟨World.ownsRow.mono (own_new_Sl w _ rfl 4 (cellsO (List.replicate n false)) n (by rw [cellsO_length, List.length_replicate]) (by unfold maxLen; omega)) (by have := h.blk.lt; have := h.gcB; omega), fun s j hj => ?_⟩
  have := ((h.row s j hj).lt (R s j) rfl).2
  omega
theorem sideM_step {acts : List ActV} {k : Nat} {x : ActV} (hx : acts[k]? = some x) {li lo : Nat} (h1 : portsN false x = li) (h2 : portsN true x = lo) :
    updB (updB (sideM (acts.take k)) false (sideM (acts.take k) false ++ [List.replicate li false])) true (updB (sideM (acts.take k)) false (sideM (acts.take k) false ++ [List.replicate li false]) true ++ [List.replicate lo false]) = sideM (acts.take (k + 1)) := by
  funext s
  have e : ∀ s, sideM (acts.take (k + 1)) s = sideM (acts.take k) s ++ [List.replicate (portsN s x) false] := fun s => by
    unfold sideM
    rw [List.take_add_one, hx, List.map_append]
    rfl
  cases s with
  | false => rw [updB_other (by decide), updB_self, e, h1]
  | true => rw [updB_self, updB_other (by decide), e, h2]
theorem namesA_step {acts : List ActV} {k : Nat} {x : ActV} (hx : acts[k]? = some x) : namesA (acts.take (k + 1)) = namesA (acts.take k) ++ [x.nm.data.toList] := by
  unfold namesA
  rw [List.take_add_one, hx, List.map_append]
  rfl
theorem onlySet3 (w : World) (g : Nat) (a b c : Value) : Only (fun k => k = g) w (((w.setCell ⟨g, 0, none⟩ a).setCell ⟨g, 1, none⟩ b).setCell ⟨g, 2, none⟩ c) :=
  ((onlySet w ⟨g, 0, none⟩ a).trans (onlySet _ ⟨g, 1, none⟩ b)).trans (onlySet _ ⟨g, 2, none⟩ c)
theorem Blk.setOther {w : World} {g g' : Nat} {t t' : TypeId} {cs cs' : Array Value} (h : Blk w g t cs) (h' : Blk w g' t' cs') (ht : t ≠ t') (i : Nat) (v : Value) : Blk (w.setCell ⟨g', i, none⟩ v) g t cs :=
  ((onlySet w ⟨g', i, none⟩ v).block g h.lt (fun hc => by
    have hc : g = g' := hc
    subst hc
    exact ht (blk_ty h h'))).trans h
/-- memory while a row is laid on a side -/
structure PuI6 (w0 : World) (B gc m : Nat) (hd : GraV) (ns : List (List UInt8)) (nn : Nat) (V0 : Bool → Value) (R : Bool → Nat → Nat) (M : Bool → List (List Bool)) (gs : Nat) (spc : Array Value) (n : Nat) (src : Value) (L : Nat → Bool) (V : Nat → Value) (w : World) : Prop where
  p0 : L 9 = false → CkS w0 w B gc m hd ns nn V0 V0 R M
  sp : Blk w gs 111 spc
  r : L 7 = true → V 42 = .slice (some ⟨gbOf (V 42), 0, none⟩) n n
  rn : L 7 = true → L 9 = false → NewR w B n (gbOf (V 42)) R M
  o8 : L 8 = true → L 7 = true
  o : L 8 = true → L 9 = false → V 43 = .slice (some ⟨gbOf (V 43), 0, none⟩) 1 1 ∧ Rd w w.heap.size (some ⟨gbOf (V 43), 0, none⟩) [V 42]
  l9 : L 12 = true → L 9 = true
  a9 : L 9 = true → V 44 = .slice (sAddr (V 44)) ((M false).length + 1) (sCap (V 44))
  p1 : L 9 = true → L 12 = false → CkS w0 w B gc m hd ns nn V0 (updB V0 false (V 44)) (updB R false (upd2 (R false) (M false).length (gbOf (V 42)))) (updB M false (M false ++ [List.replicate n false]))
  p2 : L 12 = true → CkS w0 w B gc m hd ns nn (updB V0 false (V 44)) (updB V0 false (V 44)) (updB R false (upd2 (R false) (M false).length (gbOf (V 42)))) (updB M false (M false ++ [List.replicate n false]))
  e0 : L 0 = true → V 35 = .pointer (some ⟨gc, 0, none⟩)
  e1 : L 1 = true → V 36 = .pointer (some ⟨gc, 0, none⟩)
  e2 : L 2 = true → V 37 = .pointer (some ⟨gc, 0, none⟩)
  e3 : L 3 = true → V 38 = .pointer (some ⟨gc, 6, none⟩)
  e4 : L 4 = true → V 39 = V0 false
  e5 : L 5 = true → V 40 = src
  e6 : L 6 = true → V 41 = .int .i64 n
  e10 : L 10 = true → V 45 = .pointer (some ⟨gc, 0, none⟩)
  e11 : L 11 = true → V 46 = .pointer (some ⟨gc, 6, none⟩)
/-- memory while a row is laid on a side -/
structure PuI7 (w0 : World) (B gc m : Nat) (hd : GraV) (ns : List (List UInt8)) (nn : Nat) (V0 : Bool → Value) (R : Bool → Nat → Nat) (M : Bool → List (List Bool)) (gs : Nat) (spc : Array Value) (n : Nat) (src : Value) (L : Nat → Bool) (V : Nat → Value) (w : World) : Prop where
  p0 : L 9 = false → CkS w0 w B gc m hd ns nn V0 V0 R M
  sp : Blk w gs 111 spc
  r : L 7 = true → V 54 = .slice (some ⟨gbOf (V 54), 0, none⟩) n n
  rn : L 7 = true → L 9 = false → NewR w B n (gbOf (V 54)) R M
  o8 : L 8 = true → L 7 = true
  o : L 8 = true → L 9 = false → V 55 = .slice (some ⟨gbOf (V 55), 0, none⟩) 1 1 ∧ Rd w w.heap.size (some ⟨gbOf (V 55), 0, none⟩) [V 54]
  l9 : L 12 = true → L 9 = true
  a9 : L 9 = true → V 56 = .slice (sAddr (V 56)) ((M true).length + 1) (sCap (V 56))
  p1 : L 9 = true → L 12 = false → CkS w0 w B gc m hd ns nn V0 (updB V0 true (V 56)) (updB R true (upd2 (R true) (M true).length (gbOf (V 54)))) (updB M true (M true ++ [List.replicate n false]))
  p2 : L 12 = true → CkS w0 w B gc m hd ns nn (updB V0 true (V 56)) (updB V0 true (V 56)) (updB R true (upd2 (R true) (M true).length (gbOf (V 54)))) (updB M true (M true ++ [List.replicate n false]))
  e0 : L 0 = true → V 47 = .pointer (some ⟨gc, 0, none⟩)
  e1 : L 1 = true → V 48 = .pointer (some ⟨gc, 0, none⟩)
  e2 : L 2 = true → V 49 = .pointer (some ⟨gc, 0, none⟩)
  e3 : L 3 = true → V 50 = .pointer (some ⟨gc, 7, none⟩)
  e4 : L 4 = true → V 51 = V0 true
  e5 : L 5 = true → V 52 = src
  e6 : L 6 = true → V 53 = .int .i64 n
  e10 : L 10 = true → V 57 = .pointer (some ⟨gc, 0, none⟩)
  e11 : L 11 = true → V 58 = .pointer (some ⟨gc, 7, none⟩)
set_option maxRecDepth 100000 in
set_option maxHeartbeats 4000000 in
theorem actors_any (w0 : World) (B gc m nn : Nat) (hd : GraV) (ns : List (List UInt8)) (V : Bool → Value) (R : Bool → Nat → Nat) (w : World) (hg : hd.good w0 B) (hl : hd.acts.length ≤ 32) (hnn : nn ≤ 100) (h : CkS w0 w B gc m hd ns nn V V R (sideM [])) :
    Calls Tryd.prog 52 #[.pointer (some ⟨gc, 0, none⟩)] w fun e w' => ∃ a b c : Int, e = .returned (.tuple #[.int .i64 (actorsE hd.acts ns), .agg #[.int .u8 a, .int .i64 b, .int .i64 c]]) ∧ Below B w0 w' ∧
      (actorsE hd.acts ns = 0 → ∃ V' R', CkS w0 w' B gc m hd (ns ++ namesA hd.acts) (nn + hd.acts.length) V' V' R' (sideM hd.acts)) := by
  obtain ⟨i1, hi1, hx0, hx1, hx2⟩ := info_parts info_bools
  obtain ⟨gs, hgs⟩ : ∃ b, w.heap.size = b := ⟨_, rfl⟩
  have hlt := h.blk.lt
  have hgc := h.gcB
  have hgsB : B ≤ gs := by omega
  obtain ⟨E, hE⟩ : ∃ E, actorsE hd.acts ns = E := ⟨_, rfl⟩
  rw [hE]
  obtain ⟨nA, hnA⟩ : ∃ n, hd.acts.length = n := ⟨_, rfl⟩
  obtain ⟨aA, haA⟩ : ∃ a, hd.aA = a := ⟨_, rfl⟩
  rw [hnA] at hl ⊢
  have b1 := (Below.refl w.heap.size w).alloc (Nat.le_refl _) (.cells #[.int .u8 0, .int .i64 0, .int .i64 0] 111)
  have h1 := h.below b1
  have s1 := Blk.new w gs hgs.symm 111 #[.int .u8 0, .int .i64 0, .int .i64 0]
  obtain ⟨W1, hW1⟩ : ∃ W, w.alloc (.cells #[.int .u8 0, .int .i64 0, .int .i64 0] 111) = W := ⟨_, rfl⟩
  rw [hW1] at h1 s1
  have c1 := h1.blk.cell 1
  simp only [List.getElem?_toArray, List.getElem?_cons_zero, List.getElem?_cons_succ] at c1
  rw [hnA, haA] at c1
  have HE := Lib.hid hE
  have HnA := Lib.hid hnA
  have HaA := Lib.hid haA
  have H1 := Lib.hid h1
  have HG := Lib.hid hg
  have hS0 := Lib.hid s1
  clear hE hnA haA h b1 h1 hg s1
  go_enter Tryd.func52, Tryd.ntmps52
  go_wp2_with fail
  try rw [hgs]
  clear c1 hW1
  go_loopw [15] (fun i wr => ∃ (k : Nat) (V : Bool → Value) (R : Bool → Nat → Nat), k ≤ nA ∧ i = .int .i64 k ∧ Blk wr gs 111 #[.int .u8 0, .int .i64 0, .int .i64 0] ∧ CkS w0 wr B gc m hd (ns ++ namesA (hd.acts.take k)) (nn + k) V V R (sideM (hd.acts.take k)) ∧ Hid (E = actorsE (hd.acts.drop k) (ns ++ namesA (hd.acts.take k)))) (fun i _ => nA - (intOf i).toNat)
  case atStart => exact ⟨0, V, R, by omega, rfl, hS0.out, by simpa [namesA] using H1.out, by unfold Hid; rw [← HE.out]; simp [namesA]⟩
  case round =>
    clear H1 hS0
    obtain ⟨k, V, R, hk, rfl, sp, hC, He⟩ := hrel
    have hltc := hC.blk.lt
    have hmB := hC.mB
    by_cases hkA : k < nA
    · have G := HG.out.below hC.bel (Nat.le_refl _)
      obtain ⟨ab, ao, x, hA, hab, hxk, hxc⟩ := G.rA.flat (f := ActV.cells) (n := 3) (by omega) (fun _ => rfl) (k := k) (by rw [HnA.out]; exact hkA)
      rw [HaA.out] at hA
      subst hA
      have c0 := hxc 0 _ rfl
      have c1 := hxc 1 _ rfl
      have c2 := hxc 2 _ rfl
      rw [Nat.add_zero] at c0
      have gx := HG.out.gA x (List.mem_of_getElem? hxk)
      have ba := (Below.refl wr.heap.size wr).alloc (Nat.le_refl _) (.cells #[.string x.nm, .int .u8 x.tag, .slice x.P x.ps.length x.c] 62)
      have kx := Blk.new wr _ rfl 62 #[.string x.nm, .int .u8 x.tag, .slice x.P x.ps.length x.c]
      have C2 := hC.below ba
      have sp2 := sp.below ba sp.lt
      obtain ⟨ga, hga⟩ : ∃ g, wr.heap.size = g := ⟨_, rfl⟩
      obtain ⟨W2, hW2⟩ : ∃ W, wr.alloc (.cells #[.string x.nm, .int .u8 x.tag, .slice x.P x.ps.length x.c] 62) = W := ⟨_, rfl⟩
      rw [hW2] at kx C2 sp2
      rw [hga] at kx
      have x0 := kx.cell 0
      have cm := C2.blk.cell 5
      simp only [List.getElem?_toArray, List.getElem?_cons_zero, List.getElem?_cons_succ] at x0 cm
      have h3 : (0 : Int) ≤ (k : Int) := by omega
      have h4 : (k : Int) < (nA : Int) := by omega
      have hdr : hd.acts.drop k = x :: hd.acts.drop (k + 1) := by
        rw [List.drop_eq_getElem_cons (by rw [HnA.out]; exact hkA)]
        congr 1
        have := List.getElem?_eq_getElem (l := hd.acts) (i := k) (by rw [HnA.out]; exact hkA)
        rw [hxk] at this
        exact (Option.some.inj this).symm
      have He1 := He.out
      rw [hdr, actorsE] at He1
      have HX := Lib.hid hxk
      have HE1 := Lib.hid He1
      have HC2 := Lib.hid C2
      have HS2 := Lib.hid sp2
      have HK2 := Lib.hid kx
      clear hC sp ba G hdr He He1 hxc C2 sp2 kx hxk
      go_wp2_with fail
      try rw [hW2]
      try rw [hga]
      refine (cname_any gc m (nn + k) (ns ++ namesA (hd.acts.take k)) x.nm W2 gx.nm (by omega) HC2.out.blk.lt cm HC2.out.map).mono ?_
      rintro e w3 ⟨rfl, hm3, ho3⟩
      have C3 := HC2.out.named ho3 hm3
      have sp3 : Blk w3 gs 111 #[.int .u8 0, .int .i64 0, .int .i64 0] := (ho3.block gs HS2.out.lt (map_ne HC2.out.map HS2.out)).trans HS2.out
      have kx3 : Blk w3 ga 62 #[.string x.nm, .int .u8 x.tag, .slice x.P x.ps.length x.c] := (ho3.block ga HK2.out.lt (map_ne HC2.out.map HK2.out)).trans HK2.out
      obtain ⟨E1, hE1⟩ : ∃ e, nameE (ns ++ namesA (hd.acts.take k)) x.nm = e := ⟨_, rfl⟩
      rw [hE1]
      have HN1 := Lib.hid hE1
      clear hE1 hm3 ho3 HC2 HS2 HK2 x0 cm
      by_cases hE0 : E1 = 0
      · have hnsN : namesN (ns ++ namesA (hd.acts.take k)) x.nm = ns ++ namesA (hd.acts.take (k + 1)) := by
          unfold namesN
          rw [HN1.out, if_pos hE0, namesA_step HX.out, List.append_assoc]
        rw [hnsN] at C3
        have hact : actE (ns ++ namesA (hd.acts.take k)) x = (shapeR x.tag x.ps).2.2 := by unfold actE; rw [HN1.out, if_pos hE0]
        have He2 := HE1.out
        rw [hact, List.append_assoc, ← namesA_step HX.out] at He2
        subst hE0
        obtain ⟨nsN, hns2⟩ : ∃ n, ns ++ namesA (hd.acts.take (k + 1)) = n := ⟨_, rfl⟩
        rw [hns2] at C3 He2
        obtain ⟨hli, hlo⟩ := shape_small x.tag x.ps
        have gx3 := (gx.below C3.bel (Nat.le_refl _)).rd
        have hz3 : B ≤ w3.heap.size := by have := C3.blk.lt; omega
        have x1 := kx3.cell 1
        have x2 := kx3.cell 2
        simp only [List.getElem?_toArray, List.getElem?_cons_zero, List.getElem?_cons_succ] at x1 x2
        obtain ⟨E2, hE2⟩ : ∃ e, (shapeR x.tag x.ps).2.2 = e := ⟨_, rfl⟩
        rw [hE2] at He2
        have hpN1 : portsN false x = (shapeR x.tag x.ps).1.length := rfl
        have hpN2 : portsN true x = (shapeR x.tag x.ps).2.1.length := rfl
        have HEq2 := Lib.hid hE2
        have HP1 := Lib.hid hpN1
        have HP2 := Lib.hid hpN2
        have HE2 := Lib.hid He2
        have Hns2 := Lib.hid hns2
        have HC3 := Lib.hid C3
        have HS3 := Lib.hid sp3
        clear hE2 hnsN hact hns2 hpN1 hpN2 He2 C3 sp3 kx3 HE1 HN1
        go_wp2_with fail
        refine (shape_any x.tag x.ps x.P x.ps.length x.c w3 rfl gx.fit (gx3.more hz3) gx.len).mono ?_
        rintro e w4 ⟨Ai, ci, Ao, co, rfl, -, -, hb4⟩
        have C4 := HC3.out.below hb4
        have sp4 := HS3.out.below hb4 HS3.out.lt
        obtain ⟨li, hli2⟩ : ∃ n, (shapeR x.tag x.ps).1.length = n := ⟨_, rfl⟩
        obtain ⟨lo, hlo2⟩ : ∃ n, (shapeR x.tag x.ps).2.1.length = n := ⟨_, rfl⟩
        rw [hli2] at hli
        rw [hlo2] at hlo
        rw [HEq2.out, hli2, hlo2]
        have hP1 : portsN false x = li := HP1.out.trans hli2
        have hP2 : portsN true x = lo := HP2.out.trans hlo2
        have hstep := sideM_step HX.out hP1 hP2
        have hM0 : ∀ s, (sideM (hd.acts.take k) s).length ≤ 32 := fun s => by unfold sideM; rw [List.length_map, List.length_take]; have := HnA.out; omega
        obtain ⟨M0, hM0e⟩ : ∃ M, sideM (hd.acts.take k) = M := ⟨_, rfl⟩
        rw [hM0e] at C4 hstep hM0
        obtain ⟨V0, hV0⟩ : ∃ v, V = v := ⟨_, rfl⟩
        obtain ⟨R0, hR0⟩ : ∃ v, R = v := ⟨_, rfl⟩
        obtain ⟨nnN, hnnN⟩ : ∃ v, nn + k + 1 = v := ⟨_, rfl⟩
        rw [hV0, hR0, hnnN] at C4
        have HnnN := Lib.hid hnnN
        have Hst := Lib.hid hstep
        have HLn := Lib.hid (hM0 false)
        have HLt := Lib.hid (hM0 true)
        have HC4 := Lib.hid C4
        have HS4 := Lib.hid sp4
        clear hP1 hP2 hstep hM0 hM0e hV0 hR0 hnnN hli2 hlo2 C4 sp4 hb4 HC3 HS3 gx3 x1 x2 c0 c1 c2 HP1 HP2
        have HLn : Hid ((M0 false).length ≤ 32) := HLn
        go_wp2_with fail
        have hI0 : ∀ V, PuI6 w0 B gc m hd nsN nnN V0 R0 M0 gs #[.int .u8 0, .int .i64 0, .int .i64 0] li (.slice Ai li ci) (fun _ => false) V w4.drew := fun V => by
          have h0 := HC4.out.below (Drawn.below _ ((Drawn.refl w4).drewN 1))
          have h5 := HS4.out.below (Drawn.below _ ((Drawn.refl w4).drewN 1)) HS4.out.lt
          constructor
          all_goals first
            | exact h5
            | exact fun _ => h0
            | (intro h; cases h)
        obtain ⟨spc, hspc⟩ : ∃ s, (#[.int .u8 0, .int .i64 0, .int .i64 0] : Array Value) = s := ⟨_, rfl⟩
        rw [hspc] at hI0
        have Hspc := Lib.hid hspc
        clear hspc
        refine wp_region_put3 [35, 36, 37, 38, 39, 40, 41, 42, 43, 44, 45, 46] (PuI6 w0 B gc m hd nsN nnN (V0) (R0) (M0) gs spc li (.slice Ai li ci)) (by kernel_rfl) (by kernel_rfl) ?_ ?_ ?_
        · exact hI0 _
        · intro i o ho L V w1 hi hL hno h K hK
          rcases i with _ | _ | _ | _ | _ | _ | _ | _ | _ | _ | _ | _ | _ | i
          · replace ho := Option.some.inj ho
            subst ho
            simp only [putAll, List.foldl_cons, List.foldl_nil, List.setIfInBounds_toArray, List.set_cons_zero, List.set_cons_succ]
            clear hL hno
            go_simp
            refine hK (updV V 35 (.pointer (some ⟨gc, 0, none⟩))) _ _ (by simp [putAll, updV]) ?_
            exact { h with e0 := fun _ => rfl }
          · replace ho := Option.some.inj ho
            subst ho
            simp only [putAll, List.foldl_cons, List.foldl_nil, List.setIfInBounds_toArray, List.set_cons_zero, List.set_cons_succ]
            clear hL hno
            go_simp
            refine hK (updV V 36 (.pointer (some ⟨gc, 0, none⟩))) _ _ (by simp [putAll, updV]) ?_
            exact { h with e1 := fun _ => rfl }
          · replace ho := Option.some.inj ho
            subst ho
            simp only [putAll, List.foldl_cons, List.foldl_nil, List.setIfInBounds_toArray, List.set_cons_zero, List.set_cons_succ]
            have e1 : V 36 = _ := h.e1 (hL ⟨1, .data⟩ (by simp) rfl)
            clear hL hno
            go_simp
            refine hK (updV V 37 (.pointer (some ⟨gc, 0, none⟩))) _ _ (by simp [putAll, updV, e1]) ?_
            exact { h with e2 := fun _ => rfl }
          · replace ho := Option.some.inj ho
            subst ho
            simp only [putAll, List.foldl_cons, List.foldl_nil, List.setIfInBounds_toArray, List.set_cons_zero, List.set_cons_succ]
            have e2 : V 37 = _ := h.e2 (hL ⟨2, .data⟩ (by simp) rfl)
            clear hL hno
            go_simp
            refine hK (updV V 38 (.pointer (some ⟨gc, 6, none⟩))) _ _ (by simp [putAll, updV, e2]) ?_
            exact { h with e3 := fun _ => rfl }
          · replace ho := Option.some.inj ho
            subst ho
            simp only [putAll, List.foldl_cons, List.foldl_nil, List.setIfInBounds_toArray, List.set_cons_zero, List.set_cons_succ]
            have e3 : V 38 = _ := h.e3 (hL ⟨3, .data⟩ (by simp) rfl)
            have l9 : L 9 = false := hno 9 (by kernel_rfl)
            have ct := (h.p0 l9).blk.cell 6
            simp only [List.getElem?_toArray, List.getElem?_cons_zero, List.getElem?_cons_succ] at ct
            clear hL hno
            go_simp
            refine hK (updV V 39 ((V0) false)) _ _ (by simp [putAll, updV, e3]) ?_
            exact { h with e4 := fun _ => rfl }
          · replace ho := Option.some.inj ho
            subst ho
            simp only [putAll, List.foldl_cons, List.foldl_nil, List.setIfInBounds_toArray, List.set_cons_zero, List.set_cons_succ]
            clear hL hno
            go_simp
            refine hK (updV V 40 (.slice Ai li ci)) _ _ (by simp [putAll, updV]) ?_
            exact { h with e5 := fun _ => rfl }
          · replace ho := Option.some.inj ho
            subst ho
            simp only [putAll, List.foldl_cons, List.foldl_nil, List.setIfInBounds_toArray, List.set_cons_zero, List.set_cons_succ]
            have e5 : V 40 = _ := h.e5 (hL ⟨5, .data⟩ (by simp) rfl)
            clear hL hno
            go_simp
            refine hK (updV V 41 (.int .i64 li)) _ _ (by simp [putAll, updV, e5]) ?_
            exact { h with e6 := fun _ => rfl }
          · replace ho := Option.some.inj ho
            subst ho
            have e6 : V 41 = _ := h.e6 (hL ⟨6, .data⟩ (by simp) rfl)
            have l9 : L 9 = false := hno 9 (by kernel_rfl)
            have l8 : L 8 = false := hno 8 (by kernel_rfl)
            have l12 : L 12 = false := hno 12 (by kernel_rfl)
            clear hL hno
            simp only [putAll, List.foldl_cons, List.foldl_nil, List.setIfInBounds_toArray, List.set_cons_zero, List.set_cons_succ]
            have hmk := run_make_row' (P := Tryd.prog) 123 4 (.bool false) 1 Tryd.underlying123 info_boolG rfl .i64 .i64 li (by omega) (by omega)
            have P := h.p0 l9
            have hb := (Below.refl w1.heap.size w1).alloc (Nat.le_refl _) (.cells (madeCells #[.bool false] li) 4)
            have hnew := newR_made P li (by omega)
            go_simp
            refine hK (updV V 42 (.slice (some ⟨w1.heap.size, 0, none⟩) li li)) _ _ (by simp [putAll, updV, e6]) ?_
            exact { h with
              p0 := fun _ => P.below hb
              sp := h.sp.below hb h.sp.lt
              r := fun _ => rfl
              rn := fun _ _ => hnew
              o8 := fun hn => (by cases (hn.symm.trans l8))
              o := fun hn => (by cases (hn.symm.trans l8))
              p1 := fun hn => (by cases (hn.symm.trans l9))
              p2 := fun hn => (by cases (hn.symm.trans l12)) }
          · replace ho := Option.some.inj ho
            subst ho
            have e7 := h.r (hL ⟨7, .data⟩ (by simp) rfl)
            have l7 : L 7 = true := hL ⟨7, .data⟩ (by simp) rfl
            have hrn := h.rn l7 (hno 9 (by kernel_rfl))
            have l9 : L 9 = false := hno 9 (by kernel_rfl)
            have l12 : L 12 = false := hno 12 (by kernel_rfl)
            clear hL hno
            simp only [putAll, List.foldl_cons, List.foldl_nil, List.setIfInBounds_toArray, List.set_cons_zero, List.set_cons_succ]
            generalize gbOf (V 42) = rb at e7
            have hb := (Below.refl w1.heap.size w1).alloc (Nat.le_refl _) (.cells #[.slice (some ⟨rb, 0, none⟩) li li] 123)
            have hnew := rd_alloc w1 _ rfl 123 [Value.slice (some ⟨rb, 0, none⟩) li li]
            have P := h.p0 l9
            go_simp
            refine hK (updV V 43 (.slice (some ⟨w1.heap.size, 0, none⟩) 1 1)) _ _ (by simp [putAll, updV, e7]) ?_
            exact { h with
              p0 := fun _ => P.below hb
              sp := h.sp.below hb h.sp.lt
              rn := fun _ _ => hrn.below hb
              o8 := fun _ => l7
              o := fun _ _ => ⟨rfl, by show Rd _ _ _ [V 42]; rw [e7]; exact hnew.more (by simp)⟩
              p1 := fun hn => (by cases (hn.symm.trans l9))
              p2 := fun hn => (by cases (hn.symm.trans l12)) }
          · replace ho := Option.some.inj ho
            subst ho
            have e4 : V 39 = _ := h.e4 (hL ⟨4, .data⟩ (by simp) rfl)
            have ho := h.o (hL ⟨8, .data⟩ (by simp) rfl) hi
            have hr := h.r (h.o8 (hL ⟨8, .data⟩ (by simp) rfl))
            have hrn := h.rn (h.o8 (hL ⟨8, .data⟩ (by simp) rfl)) hi
            have e8 : V 43 = _ := ho.1
            have l12 : L 12 = false := hno 12 (by kernel_rfl)
            clear hL hno
            have P := h.p0 hi
            have hlen : ((M0) false).length ≤ 1000 := by have := HLn.out; omega
            refine step_append_rd rfl (.tmp 39) (.tmp 43) 132 rfl B 123 i1 (.slice none 0 0) 1 24 Tryd.underlying132 hi1 hx0 hx1 hx2 rfl (by decide) ((V0) false) ((M0) false).length _ (by simp [putAll, Act.eval, e4]) (P.hdr false) w1.heap.size (some ⟨gbOf (V 43), 0, none⟩) 1 1 [V 42] (by simp [putAll, Act.eval]; exact e8) rfl ho.2 (by intro u hu; rw [List.mem_singleton] at hu; rw [hu, hr]; rfl) (by unfold maxLen; omega) (by omega) (by have := P.blk.lt; have := P.gcB; omega) ?_
            intro v' w2 o2 g2 hv2
            rw [hr] at o2
            have ha9 := own_shape o2
            have P2 := P.push hrn false g2 o2 hv2
            refine hK (updV V 44 v') _ _ (by simp [putAll, Act.put, updV]) ?_
            exact { h with
              p0 := fun hn => (by cases hn)
              sp := h.sp.grown g2 (fun hc => by obtain ⟨cs, k⟩ := own_block (P.hdr false) hc.symm; exact absurd (blk_ty h.sp k) (by decide))
              rn := fun _ hn => (by cases hn)
              o := fun _ hn => (by cases hn)
              l9 := fun _ => rfl
              a9 := fun _ => ha9
              p1 := fun _ _ => P2
              p2 := fun hn => (by cases (hn.symm.trans l12)) }
          · replace ho := Option.some.inj ho
            subst ho
            simp only [putAll, List.foldl_cons, List.foldl_nil, List.setIfInBounds_toArray, List.set_cons_zero, List.set_cons_succ]
            have e0 : V 35 = _ := h.e0 (hL ⟨0, .data⟩ (by simp) rfl)
            clear hL hno
            go_simp
            refine hK (updV V 45 (.pointer (some ⟨gc, 0, none⟩))) _ _ (by simp [putAll, updV, e0]) ?_
            exact { h with e10 := fun _ => rfl }
          · replace ho := Option.some.inj ho
            subst ho
            simp only [putAll, List.foldl_cons, List.foldl_nil, List.setIfInBounds_toArray, List.set_cons_zero, List.set_cons_succ]
            have e10 : V 45 = _ := h.e10 (hL ⟨10, .data⟩ (by simp) rfl)
            clear hL hno
            go_simp
            refine hK (updV V 46 (.pointer (some ⟨gc, 6, none⟩))) _ _ (by simp [putAll, updV, e10]) ?_
            exact { h with e11 := fun _ => rfl }
          · replace ho := Option.some.inj ho
            subst ho
            have e11 : V 46 = _ := h.e11 (hL ⟨11, .data⟩ (by simp) rfl)
            have l9 : L 9 = true := hL ⟨9, .data⟩ (by simp) rfl
            have P := h.p1 l9 hi
            clear hL hno
            simp only [putAll, List.foldl_cons, List.foldl_nil, List.setIfInBounds_toArray, List.set_cons_zero, List.set_cons_succ]
            have ct := P.blk.cell 6
            have fr := P.blk.frozen 6
            simp only [List.getElem?_toArray, List.getElem?_cons_zero, List.getElem?_cons_succ] at ct
            have P2 := P.stored false
            have hsp := (h.sp.setOther P.blk (by decide) 6 (V 44))
            rw [updB_self] at P2
            have e9 := h.a9 l9
            generalize sAddr (V 44) = A9 at e9
            generalize sCap (V 44) = c9 at e9
            have hv : w1.setCell ⟨gc, 6, none⟩ (V 44) = w1.setCell ⟨gc, 6, none⟩ (.slice A9 (((M0) false).length + 1) c9) := by rw [e9]
            have P3 : CkS w0 (w1.setCell ⟨gc, 6, none⟩ (V 44)) B gc m hd nsN nnN (updB (V0) false (V 44)) (updB (V0) false (V 44)) _ _ := P2
            rw [hv] at P3 hsp
            clear P2 hv P
            go_simp
            refine hK V _ _ (by simp [putAll, e11, e9]) ?_
            exact { h with
              p0 := fun hn => (by cases (hn.symm.trans l9))
              l9 := fun _ => l9
              rn := fun _ hn => (by cases (hn.symm.trans l9))
              o := fun _ hn => (by cases (hn.symm.trans l9))
              sp := hsp
              p1 := fun _ hn => (by cases hn)
              p2 := fun _ => P3 }
          · simp at ho
        · clear hI0 HC4 HS4
          intro L V w6 hL h
          have P6 := h.p2 (hL 12 (by simp))
          have sp6 := h.sp
          clear h hL
          simp only [putAll, List.foldl_cons, List.foldl_nil, List.setIfInBounds_toArray, List.set_cons_zero, List.set_cons_succ]
          generalize gbOf (V 42) = rb8 at P6
          obtain ⟨V1, hV1⟩ : ∃ v, updB V0 false (V 44) = v := ⟨_, rfl⟩
          obtain ⟨R1, hR1⟩ : ∃ v, updB R0 false (upd2 (R0 false) (M0 false).length rb8) = v := ⟨_, rfl⟩
          obtain ⟨M1, hM1⟩ : ∃ v, updB M0 false (M0 false ++ [List.replicate li false]) = v := ⟨_, rfl⟩
          rw [hV1, hR1, hM1] at P6
          have hLn1 : (M1 true).length ≤ 32 := by rw [← hM1, updB_other (by decide)]; exact HLt.out
          have HM1 := Lib.hid hM1
          have HLn := Lib.hid hLn1
          have HC6 := Lib.hid P6
          have HS6 := Lib.hid sp6
          clear hV1 hR1 hM1 hLn1 P6 sp6
          go_wp2_with fail
          have hI0 : ∀ V, PuI7 w0 B gc m hd nsN nnN V1 R1 M1 gs spc lo (.slice Ao lo co) (fun _ => false) V w6.drew := fun V => by
            have h0 := HC6.out.below (Drawn.below _ ((Drawn.refl w6).drewN 1))
            have h5 := HS6.out.below (Drawn.below _ ((Drawn.refl w6).drewN 1)) HS6.out.lt
            constructor
            all_goals first
              | exact h5
              | exact fun _ => h0
              | (intro h; cases h)
          refine wp_region_put3 [47, 48, 49, 50, 51, 52, 53, 54, 55, 56, 57, 58] (PuI7 w0 B gc m hd nsN nnN (V1) (R1) (M1) gs spc lo (.slice Ao lo co)) (by kernel_rfl) (by kernel_rfl) ?_ ?_ ?_
          · exact hI0 _
          · intro i o ho L V w1 hi hL hno h K hK
            rcases i with _ | _ | _ | _ | _ | _ | _ | _ | _ | _ | _ | _ | _ | i
            · replace ho := Option.some.inj ho
              subst ho
              simp only [putAll, List.foldl_cons, List.foldl_nil, List.setIfInBounds_toArray, List.set_cons_zero, List.set_cons_succ]
              clear hL hno
              go_simp
              refine hK (updV V 47 (.pointer (some ⟨gc, 0, none⟩))) _ _ (by simp [putAll, updV]) ?_
              exact { h with e0 := fun _ => rfl }
            · replace ho := Option.some.inj ho
              subst ho
              simp only [putAll, List.foldl_cons, List.foldl_nil, List.setIfInBounds_toArray, List.set_cons_zero, List.set_cons_succ]
              clear hL hno
              go_simp
              refine hK (updV V 48 (.pointer (some ⟨gc, 0, none⟩))) _ _ (by simp [putAll, updV]) ?_
              exact { h with e1 := fun _ => rfl }
            · replace ho := Option.some.inj ho
              subst ho
              simp only [putAll, List.foldl_cons, List.foldl_nil, List.setIfInBounds_toArray, List.set_cons_zero, List.set_cons_succ]
              have e1 : V 48 = _ := h.e1 (hL ⟨1, .data⟩ (by simp) rfl)
              clear hL hno
              go_simp
              refine hK (updV V 49 (.pointer (some ⟨gc, 0, none⟩))) _ _ (by simp [putAll, updV, e1]) ?_
              exact { h with e2 := fun _ => rfl }
            · replace ho := Option.some.inj ho
              subst ho
              simp only [putAll, List.foldl_cons, List.foldl_nil, List.setIfInBounds_toArray, List.set_cons_zero, List.set_cons_succ]
              have e2 : V 49 = _ := h.e2 (hL ⟨2, .data⟩ (by simp) rfl)
              clear hL hno
              go_simp
              refine hK (updV V 50 (.pointer (some ⟨gc, 7, none⟩))) _ _ (by simp [putAll, updV, e2]) ?_
              exact { h with e3 := fun _ => rfl }
            · replace ho := Option.some.inj ho
              subst ho
              simp only [putAll, List.foldl_cons, List.foldl_nil, List.setIfInBounds_toArray, List.set_cons_zero, List.set_cons_succ]
              have e3 : V 50 = _ := h.e3 (hL ⟨3, .data⟩ (by simp) rfl)
              have l9 : L 9 = false := hno 9 (by kernel_rfl)
              have ct := (h.p0 l9).blk.cell 7
              simp only [List.getElem?_toArray, List.getElem?_cons_zero, List.getElem?_cons_succ] at ct
              clear hL hno
              go_simp
              refine hK (updV V 51 ((V1) true)) _ _ (by simp [putAll, updV, e3]) ?_
              exact { h with e4 := fun _ => rfl }
            · replace ho := Option.some.inj ho
              subst ho
              simp only [putAll, List.foldl_cons, List.foldl_nil, List.setIfInBounds_toArray, List.set_cons_zero, List.set_cons_succ]
              clear hL hno
              go_simp
              refine hK (updV V 52 (.slice Ao lo co)) _ _ (by simp [putAll, updV]) ?_
              exact { h with e5 := fun _ => rfl }
            · replace ho := Option.some.inj ho
              subst ho
              simp only [putAll, List.foldl_cons, List.foldl_nil, List.setIfInBounds_toArray, List.set_cons_zero, List.set_cons_succ]
              have e5 : V 52 = _ := h.e5 (hL ⟨5, .data⟩ (by simp) rfl)
              clear hL hno
              go_simp
              refine hK (updV V 53 (.int .i64 lo)) _ _ (by simp [putAll, updV, e5]) ?_
              exact { h with e6 := fun _ => rfl }
            · replace ho := Option.some.inj ho
              subst ho
              have e6 : V 53 = _ := h.e6 (hL ⟨6, .data⟩ (by simp) rfl)
              have l9 : L 9 = false := hno 9 (by kernel_rfl)
              have l8 : L 8 = false := hno 8 (by kernel_rfl)
              have l12 : L 12 = false := hno 12 (by kernel_rfl)
              clear hL hno
              simp only [putAll, List.foldl_cons, List.foldl_nil, List.setIfInBounds_toArray, List.set_cons_zero, List.set_cons_succ]
              have hmk := run_make_row' (P := Tryd.prog) 123 4 (.bool false) 1 Tryd.underlying123 info_boolG rfl .i64 .i64 lo (by omega) (by omega)
              have P := h.p0 l9
              have hb := (Below.refl w1.heap.size w1).alloc (Nat.le_refl _) (.cells (madeCells #[.bool false] lo) 4)
              have hnew := newR_made P lo (by omega)
              go_simp
              refine hK (updV V 54 (.slice (some ⟨w1.heap.size, 0, none⟩) lo lo)) _ _ (by simp [putAll, updV, e6]) ?_
              exact { h with
                p0 := fun _ => P.below hb
                sp := h.sp.below hb h.sp.lt
                r := fun _ => rfl
                rn := fun _ _ => hnew
                o8 := fun hn => (by cases (hn.symm.trans l8))
                o := fun hn => (by cases (hn.symm.trans l8))
                p1 := fun hn => (by cases (hn.symm.trans l9))
                p2 := fun hn => (by cases (hn.symm.trans l12)) }
            · replace ho := Option.some.inj ho
              subst ho
              have e7 := h.r (hL ⟨7, .data⟩ (by simp) rfl)
              have l7 : L 7 = true := hL ⟨7, .data⟩ (by simp) rfl
              have hrn := h.rn l7 (hno 9 (by kernel_rfl))
              have l9 : L 9 = false := hno 9 (by kernel_rfl)
              have l12 : L 12 = false := hno 12 (by kernel_rfl)
              clear hL hno
              simp only [putAll, List.foldl_cons, List.foldl_nil, List.setIfInBounds_toArray, List.set_cons_zero, List.set_cons_succ]
              generalize gbOf (V 54) = rb at e7
              have hb := (Below.refl w1.heap.size w1).alloc (Nat.le_refl _) (.cells #[.slice (some ⟨rb, 0, none⟩) lo lo] 123)
              have hnew := rd_alloc w1 _ rfl 123 [Value.slice (some ⟨rb, 0, none⟩) lo lo]
              have P := h.p0 l9
              go_simp
              refine hK (updV V 55 (.slice (some ⟨w1.heap.size, 0, none⟩) 1 1)) _ _ (by simp [putAll, updV, e7]) ?_
              exact { h with
                p0 := fun _ => P.below hb
                sp := h.sp.below hb h.sp.lt
                rn := fun _ _ => hrn.below hb
                o8 := fun _ => l7
                o := fun _ _ => ⟨rfl, by show Rd _ _ _ [V 54]; rw [e7]; exact hnew.more (by simp)⟩
                p1 := fun hn => (by cases (hn.symm.trans l9))
                p2 := fun hn => (by cases (hn.symm.trans l12)) }
            · replace ho := Option.some.inj ho
              subst ho
              have e4 : V 51 = _ := h.e4 (hL ⟨4, .data⟩ (by simp) rfl)
              have ho := h.o (hL ⟨8, .data⟩ (by simp) rfl) hi
              have hr := h.r (h.o8 (hL ⟨8, .data⟩ (by simp) rfl))
              have hrn := h.rn (h.o8 (hL ⟨8, .data⟩ (by simp) rfl)) hi
              have e8 : V 55 = _ := ho.1
              have l12 : L 12 = false := hno 12 (by kernel_rfl)
              clear hL hno
              have P := h.p0 hi
              have hlen : ((M1) true).length ≤ 1000 := by have := HLn.out; omega
              refine step_append_rd rfl (.tmp 51) (.tmp 55) 132 rfl B 123 i1 (.slice none 0 0) 1 24 Tryd.underlying132 hi1 hx0 hx1 hx2 rfl (by decide) ((V1) true) ((M1) true).length _ (by simp [putAll, Act.eval, e4]) (P.hdr true) w1.heap.size (some ⟨gbOf (V 55), 0, none⟩) 1 1 [V 54] (by simp [putAll, Act.eval]; exact e8) rfl ho.2 (by intro u hu; rw [List.mem_singleton] at hu; rw [hu, hr]; rfl) (by unfold maxLen; omega) (by omega) (by have := P.blk.lt; have := P.gcB; omega) ?_
              intro v' w2 o2 g2 hv2
              rw [hr] at o2
              have ha9 := own_shape o2
              have P2 := P.push hrn true g2 o2 hv2
              refine hK (updV V 56 v') _ _ (by simp [putAll, Act.put, updV]) ?_
              exact { h with
                p0 := fun hn => (by cases hn)
                sp := h.sp.grown g2 (fun hc => by obtain ⟨cs, k⟩ := own_block (P.hdr true) hc.symm; exact absurd (blk_ty h.sp k) (by decide))
                rn := fun _ hn => (by cases hn)
                o := fun _ hn => (by cases hn)
                l9 := fun _ => rfl
                a9 := fun _ => ha9
                p1 := fun _ _ => P2
                p2 := fun hn => (by cases (hn.symm.trans l12)) }
            · replace ho := Option.some.inj ho
              subst ho
              simp only [putAll, List.foldl_cons, List.foldl_nil, List.setIfInBounds_toArray, List.set_cons_zero, List.set_cons_succ]
              have e0 : V 47 = _ := h.e0 (hL ⟨0, .data⟩ (by simp) rfl)
              clear hL hno
              go_simp
              refine hK (updV V 57 (.pointer (some ⟨gc, 0, none⟩))) _ _ (by simp [putAll, updV, e0]) ?_
              exact { h with e10 := fun _ => rfl }
            · replace ho := Option.some.inj ho
              subst ho
              simp only [putAll, List.foldl_cons, List.foldl_nil, List.setIfInBounds_toArray, List.set_cons_zero, List.set_cons_succ]
              have e10 : V 57 = _ := h.e10 (hL ⟨10, .data⟩ (by simp) rfl)
              clear hL hno
              go_simp
              refine hK (updV V 58 (.pointer (some ⟨gc, 7, none⟩))) _ _ (by simp [putAll, updV, e10]) ?_
              exact { h with e11 := fun _ => rfl }
            · replace ho := Option.some.inj ho
              subst ho
              have e11 : V 58 = _ := h.e11 (hL ⟨11, .data⟩ (by simp) rfl)
              have l9 : L 9 = true := hL ⟨9, .data⟩ (by simp) rfl
              have P := h.p1 l9 hi
              clear hL hno
              simp only [putAll, List.foldl_cons, List.foldl_nil, List.setIfInBounds_toArray, List.set_cons_zero, List.set_cons_succ]
              have ct := P.blk.cell 7
              have fr := P.blk.frozen 7
              simp only [List.getElem?_toArray, List.getElem?_cons_zero, List.getElem?_cons_succ] at ct
              have P2 := P.stored true
              have hsp := (h.sp.setOther P.blk (by decide) 7 (V 56))
              rw [updB_self] at P2
              have e9 := h.a9 l9
              generalize sAddr (V 56) = A9 at e9
              generalize sCap (V 56) = c9 at e9
              have hv : w1.setCell ⟨gc, 7, none⟩ (V 56) = w1.setCell ⟨gc, 7, none⟩ (.slice A9 (((M1) true).length + 1) c9) := by rw [e9]
              have P3 : CkS w0 (w1.setCell ⟨gc, 7, none⟩ (V 56)) B gc m hd nsN nnN (updB (V1) true (V 56)) (updB (V1) true (V 56)) _ _ := P2
              rw [hv] at P3 hsp
              clear P2 hv P
              go_simp
              refine hK V _ _ (by simp [putAll, e11, e9]) ?_
              exact { h with
                p0 := fun hn => (by cases (hn.symm.trans l9))
                l9 := fun _ => l9
                rn := fun _ hn => (by cases (hn.symm.trans l9))
                o := fun _ hn => (by cases (hn.symm.trans l9))
                sp := hsp
                p1 := fun _ hn => (by cases hn)
                p2 := fun _ => P3 }
            · simp at ho
          · clear hI0 HC6 HS6
            intro L V' wz hL h
            have P9 := h.p2 (hL 12 (by simp))
            have spz := h.sp
            clear h hL
            simp only [putAll, List.foldl_cons, List.foldl_nil, List.setIfInBounds_toArray, List.set_cons_zero, List.set_cons_succ]
            rw [← HM1.out, Hst.out] at P9
            rw [← Hspc.out] at spz
            have HCz := Lib.hid P9
            clear P9
            by_cases hE2 : E2 = 0
            · subst hE2
              have HSz := Lib.hid spz
              clear spz
              go_wp2_with fail
              go_roundw
              case rel => exact ⟨k + 1, _, _, by omega, by go_num, HSz.out, by rw [Hns2.out, show nn + (k + 1) = nnN from HnnN.out]; exact HCz.out, by unfold Hid; rw [HE2.out, if_pos rfl, Hns2.out]⟩
              case measure => simp [intOf]; omega
            · have hne : (E2 != 0) = true := by simpa using hE2
              obtain rfl : E = E2 := by have := HE2.out; rw [if_neg hE2] at this; exact this
              have q4 := ((spz.set 0 (.int .u8 1)).set 1 (.int .i64 k)).set 2 (.int .i64 0)
              simp only [List.setIfInBounds_toArray, List.set_cons_zero, List.set_cons_succ] at q4
              have s0 := q4.cell 0
              have s1 := q4.cell 1
              have s2 := q4.cell 2
              have f0 := spz.frozen 0
              have f1 := spz.frozen 1
              have f2 := spz.frozen 2
              have p0 := spz.cell 0
              have p1 := spz.cell 1
              have p2 := spz.cell 2
              simp only [List.getElem?_toArray, List.getElem?_cons_zero, List.getElem?_cons_succ] at s0 s1 s2 p0 p1 p2
              have hO := onlySet3 wz gs (.int .u8 1) (.int .i64 k) (.int .i64 0)
              have Cz := HCz.out.aside spz hgsB (by decide) (by decide) (by decide) hO
              have HCz2 := Lib.hid Cz
              clear Cz hO q4 spz HCz
              go_wp2_with fail
              refine bodyPost_ret (v := .tuple #[.int .i64 E, .agg #[.int .u8 1, .int .i64 k, .int .i64 0]]) (by simp [results, Tryd.results52, go_sem, s0, s1, s2]) rfl ?_
              exact ⟨_, _, _, rfl, HCz2.out.bel, fun h => absurd h hE2⟩
      · have hne : (E1 != 0) = true := by simpa using hE0
        have heq : (E1 == 0) = false := by simpa using hE0
        have hact : actE (ns ++ namesA (hd.acts.take k)) x = E1 := by unfold actE; rw [HN1.out, if_neg hE0]
        obtain rfl : E = E1 := by have := HE1.out; rw [hact, if_neg hE0] at this; exact this
        have HCz := Lib.hid C3
        obtain ⟨wz, hwz⟩ : ∃ w, w3 = w := ⟨_, rfl⟩
        subst hwz
        have spz := sp3
        clear C3 sp3 kx3 hact HE1 HN1 c0 c1 c2
        have q4 := ((spz.set 0 (.int .u8 1)).set 1 (.int .i64 k)).set 2 (.int .i64 0)
        simp only [List.setIfInBounds_toArray, List.set_cons_zero, List.set_cons_succ] at q4
        have s0 := q4.cell 0
        have s1 := q4.cell 1
        have s2 := q4.cell 2
        have f0 := spz.frozen 0
        have f1 := spz.frozen 1
        have f2 := spz.frozen 2
        have p0 := spz.cell 0
        have p1 := spz.cell 1
        have p2 := spz.cell 2
        simp only [List.getElem?_toArray, List.getElem?_cons_zero, List.getElem?_cons_succ] at s0 s1 s2 p0 p1 p2
        have hO := onlySet3 w3 gs (.int .u8 1) (.int .i64 k) (.int .i64 0)
        have Cz := HCz.out.aside spz hgsB (by decide) (by decide) (by decide) hO
        have HCz2 := Lib.hid Cz
        clear Cz hO q4 spz HCz
        go_wp2_with fail
        refine bodyPost_ret (v := .tuple #[.int .i64 E, .agg #[.int .u8 1, .int .i64 k, .int .i64 0]]) (by simp [results, Tryd.results52, go_sem, s0, s1, s2]) rfl ?_
        exact ⟨_, _, _, rfl, HCz2.out.bel, fun h => absurd h hE0⟩
    · obtain rfl : k = nA := by omega
      have hfull : hd.acts.take k = hd.acts := List.take_of_length_le (by rw [HnA.out]; exact Nat.le_refl _)
      have hnil : hd.acts.drop k = [] := List.drop_eq_nil_of_le (by rw [HnA.out]; exact Nat.le_refl _)
      rw [hfull] at hC
      obtain rfl : E = 0 := by have := He.out; rw [hnil] at this; exact this
      have HCz := Lib.hid hC
      have spz := sp
      clear hC sp He hfull hnil
      have q4 := ((spz.set 0 (.int .u8 0)).set 1 (.int .i64 0)).set 2 (.int .i64 0)
      simp only [List.setIfInBounds_toArray, List.set_cons_zero, List.set_cons_succ] at q4
      have s0 := q4.cell 0
      have s1 := q4.cell 1
      have s2 := q4.cell 2
      have f0 := spz.frozen 0
      have f1 := spz.frozen 1
      have f2 := spz.frozen 2
      have p0 := spz.cell 0
      have p1 := spz.cell 1
      have p2 := spz.cell 2
      simp only [List.getElem?_toArray, List.getElem?_cons_zero, List.getElem?_cons_succ] at s0 s1 s2 p0 p1 p2
      have hO := onlySet3 wr gs (.int .u8 0) (.int .i64 0) (.int .i64 0)
      have Cz := HCz.out.aside spz hgsB (by decide) (by decide) (by decide) hO
      have HCz2 := Lib.hid Cz
      clear Cz hO q4 spz HCz
      go_wp2_with fail
      refine bodyPost_ret (v := .tuple #[.int .i64 0, .agg #[.int .u8 0, .int .i64 0, .int .i64 0]]) (by simp [results, Tryd.results52, go_sem, s0, s1, s2]) rfl ?_
      exact ⟨⟨_, _, _, rfl⟩, HCz2.out.bel, _, _, HCz2.out⟩
end Go.Proofs.YtpmlljbebdidgaaDoor
/-
  The checker's edges.
-/
namespace Go.Proofs.YtpmlljbebdidgaaDoor
open Go.RowKit Go.Maps

def edgeM (M : Bool → List (List Bool)) (x : GEdg) : Bool → List (List Bool) := fun s => if s then takeM (M true) x.f x.fp else takeM (M false) x.t x.tp
def edgeE (M : Bool → List (List Bool)) (x : GEdg) : Int := if takeE (M true) x.f x.fp = 0 then (if takeE (M false) x.t x.tp = 0 then (if 256 < x.st.length then 88 else 0) else takeE (M false) x.t x.tp) else takeE (M true) x.f x.fp
def edgesE : List GEdg → (Bool → List (List Bool)) → Int
  | [], _ => 0
  | x :: xs, M => if edgeE M x = 0 then edgesE xs (edgeM M x) else edgeE M x
def edgesM (xs : List GEdg) (M : Bool → List (List Bool)) : Bool → List (List Bool) := xs.foldl edgeM M
theorem edgesM_step {xs : List GEdg} {k : Nat} {x : GEdg} (hx : xs[k]? = some x) (M : Bool → List (List Bool)) : edgesM (xs.take (k + 1)) M = edgeM (edgesM (xs.take k) M) x := by
  unfold edgesM
  rw [List.take_add_one, hx, List.foldl_append]
  rfl
theorem edgesM_length (xs : List GEdg) : ∀ (M : Bool → List (List Bool)) (s : Bool), (edgesM xs M s).length = (M s).length := by
  induction xs with
  | nil => intro M s; rfl
  | cons x xs ih =>
    intro M s
    show (edgesM xs (edgeM M x) s).length = _
    rw [ih]
    unfold edgeM
    cases s <;> exact takeM_length _ _ _
theorem Only.cell {X : Nat → Prop} {w w' : World} (h : Only X w w') {a : Addr} (ha : a.block < w.heap.size) (hX : ¬ X a.block) : w'.cell? a = w.cell? a := by
  unfold World.cell?
  rw [h.block a.block ha hX]
theorem CkS.notRow {w0 w : World} {B gc m nn : Nat} {hd : GraV} {ns : List (List UInt8)} {Vc V : Bool → Value} {R : Bool → Nat → Nat} {M : Bool → List (List Bool)} (h : CkS w0 w B gc m hd ns nn Vc V R M) (s : Bool) {g : Nat} {t : TypeId} {cs : Array Value} (hb : Blk w g t cs) (ht : t ≠ 4) : ¬ rowsX (R s) (M s).length g := by
  rintro ⟨j, hj, rfl⟩
  obtain ⟨cs', hk⟩ := own_block (h.row s j hj) rfl
  exact ht (blk_ty hb hk)
theorem CkS.rows {w0 w : World} {B gc m nn : Nat} {hd : GraV} {ns : List (List UInt8)} {Vc V : Bool → Value} {R : Bool → Nat → Nat} {M : Bool → List (List Bool)} (h : CkS w0 w B gc m hd ns nn Vc V R M) (s : Bool) : ∀ k, rowsX (R s) (M s).length k → B ≤ k := by
  rintro k ⟨j, hj, rfl⟩
  exact own_ge (h.row s j hj) rfl
/-- a port taken of a side, by the checker's own slice -/
theorem CkS.take {w0 w : World} {B gc m nn : Nat} {hd : GraV} {ns : List (List UInt8)} {Vc V : Bool → Value} {R : Bool → Nat → Nat} {M : Bool → List (List Bool)} (h : CkS w0 w B gc m hd ns nn Vc V R M) (s : Bool) (hp : 0 < (M s).length) (a p : Int) :
    Calls Tryd.prog 71 #[V s, .int .i64 a, .int .i64 p] w fun e w' => e = .returned (.int .i64 (takeE (M s) a p)) ∧ CkS w0 w' B gc m hd ns nn Vc V R (fun x => if x = s then takeM (M s) a p else M x) ∧ Only (rowsX (R s) (M s).length) w w' := by
  obtain ⟨g, c, hV, hS⟩ := h.side s hp
  rw [hV]
  refine (take_any B g c (R s) (M s) a p w hS).mono ?_
  rintro e w' ⟨rfl, hS', hO⟩
  exact ⟨rfl, h.taken s hV hS' hO, hO⟩

set_option maxRecDepth 100000 in
set_option maxHeartbeats 4000000 in
theorem edges_any (w0 : World) (B gc m nn : Nat) (hd : GraV) (ns : List (List UInt8)) (V : Bool → Value) (R : Bool → Nat → Nat) (M : Bool → List (List Bool)) (w : World) (hg : hd.good w0 B) (hl : hd.edges.length ≤ 96) (hM : ∀ s, 0 < (M s).length) (h : CkS w0 w B gc m hd ns nn V V R M) :
    Calls Tryd.prog 53 #[.pointer (some ⟨gc, 0, none⟩)] w fun e w' => ∃ a b c : Int, e = .returned (.tuple #[.int .i64 (edgesE hd.edges M), .agg #[.int .u8 a, .int .i64 b, .int .i64 c]]) ∧ Below B w0 w' ∧
      (edgesE hd.edges M = 0 → CkS w0 w' B gc m hd ns nn V V R (edgesM hd.edges M)) := by
  obtain ⟨gs, hgs⟩ : ∃ b, w.heap.size = b := ⟨_, rfl⟩
  have hlt := h.blk.lt
  have hgc := h.gcB
  have hgsB : B ≤ gs := by omega
  obtain ⟨E, hE⟩ : ∃ E, edgesE hd.edges M = E := ⟨_, rfl⟩
  rw [hE]
  obtain ⟨nA, hnA⟩ : ∃ n, hd.edges.length = n := ⟨_, rfl⟩
  obtain ⟨aE, haE⟩ : ∃ a, hd.aE = a := ⟨_, rfl⟩
  rw [hnA] at hl
  have b1 := (Below.refl w.heap.size w).alloc (Nat.le_refl _) (.cells #[.int .u8 0, .int .i64 0, .int .i64 0] 111)
  have h1 := h.below b1
  have s1 := Blk.new w gs hgs.symm 111 #[.int .u8 0, .int .i64 0, .int .i64 0]
  obtain ⟨W1, hW1⟩ : ∃ W, w.alloc (.cells #[.int .u8 0, .int .i64 0, .int .i64 0] 111) = W := ⟨_, rfl⟩
  rw [hW1] at h1 s1
  have c1 := h1.blk.cell 2
  simp only [List.getElem?_toArray, List.getElem?_cons_zero, List.getElem?_cons_succ] at c1
  rw [hnA, haE] at c1
  have HE := Lib.hid hE
  have HnA := Lib.hid hnA
  have HaE := Lib.hid haE
  have H1 := Lib.hid h1
  have HG := Lib.hid hg
  have hS0 := Lib.hid s1
  have HM := Lib.hid hM
  clear hE hnA haE h b1 h1 hg s1 hM
  go_enter Tryd.func53, Tryd.ntmps53
  go_wp2_with fail
  try rw [hgs]
  clear c1 hW1
  go_loopw [14] (fun i wr => ∃ k : Nat, k ≤ nA ∧ i = .int .i64 k ∧ Blk wr gs 111 #[.int .u8 0, .int .i64 0, .int .i64 0] ∧ CkS w0 wr B gc m hd ns nn V V R (edgesM (hd.edges.take k) M) ∧ Hid (E = edgesE (hd.edges.drop k) (edgesM (hd.edges.take k) M))) (fun i _ => nA - (intOf i).toNat)
  case atStart => exact ⟨0, by omega, rfl, hS0.out, by simpa [edgesM] using H1.out, by unfold Hid; rw [← HE.out]; simp [edgesM]⟩
  case round =>
    clear H1 hS0
    obtain ⟨k, hk, rfl, sp, hC, He⟩ := hrel
    have hltc := hC.blk.lt
    by_cases hkA : k < nA
    · have G := HG.out.below hC.bel (Nat.le_refl _)
      obtain ⟨ab, ao, x, hA, hab, hxk, hxc⟩ := G.rE.flat (f := GEdg.cells) (n := 5) (by omega) (fun _ => rfl) (k := k) (by rw [HnA.out]; exact hkA)
      rw [HaE.out] at hA
      subst hA
      have c0 := hxc 0 _ rfl
      have c1 := hxc 1 _ rfl
      have c2 := hxc 2 _ rfl
      have c3 := hxc 3 _ rfl
      have c4 := hxc 4 _ rfl
      rw [Nat.add_zero] at c0
      have gx := HG.out.gE x (List.mem_of_getElem? hxk)
      have ba := (Below.refl wr.heap.size wr).alloc (Nat.le_refl _) (.cells #[.int .i64 x.f, .int .i64 x.fp, .int .i64 x.t, .int .i64 x.tp, .slice x.S x.st.length x.c] 59)
      have kx := Blk.new wr _ rfl 59 #[.int .i64 x.f, .int .i64 x.fp, .int .i64 x.t, .int .i64 x.tp, .slice x.S x.st.length x.c]
      have C2 := hC.below ba
      have sp2 := sp.below ba sp.lt
      obtain ⟨ga, hga⟩ : ∃ g, wr.heap.size = g := ⟨_, rfl⟩
      obtain ⟨W2, hW2⟩ : ∃ W, wr.alloc (.cells #[.int .i64 x.f, .int .i64 x.fp, .int .i64 x.t, .int .i64 x.tp, .slice x.S x.st.length x.c] 59) = W := ⟨_, rfl⟩
      rw [hW2] at kx C2 sp2
      rw [hga] at kx
      have h3 : (0 : Int) ≤ (k : Int) := by omega
      have h4 : (k : Int) < (nA : Int) := by omega
      have hdr : hd.edges.drop k = x :: hd.edges.drop (k + 1) := by
        rw [List.drop_eq_getElem_cons (by rw [HnA.out]; exact hkA)]
        congr 1
        have := List.getElem?_eq_getElem (l := hd.edges) (i := k) (by rw [HnA.out]; exact hkA)
        rw [hxk] at this
        exact (Option.some.inj this).symm
      have He1 := He.out
      rw [hdr, edgesE] at He1
      have hst := edgesM_step hxk M
      obtain ⟨Mk, hMk⟩ : ∃ v, edgesM (hd.edges.take k) M = v := ⟨_, rfl⟩
      have hMl : ∀ s, 0 < (Mk s).length := fun s => by rw [← hMk, edgesM_length]; exact HM.out s
      rw [hMk] at hst He1 C2
      have Hst := Lib.hid hst
      have HE1 := Lib.hid He1
      have HMl := Lib.hid hMl
      have r0 := C2.blk.cell 7
      have x0 := kx.cell 0
      have x1 := kx.cell 1
      simp only [List.getElem?_toArray, List.getElem?_cons_zero, List.getElem?_cons_succ] at r0 x0 x1
      have RA : ∀ w', Below W2.heap.size W2 w' → CkS w0 w' B gc m hd ns nn V V R Mk := fun w' hb => C2.below hb
      have NX1 := C2.notRow true C2.blk (by decide)
      have NX2 := C2.notRow true kx (by decide)
      have NX3 := C2.notRow true sp2 (by decide)
      have hltg := C2.blk.lt
      have hlta := kx.lt
      have HC2 := Lib.hid C2
      have HS2 := Lib.hid sp2
      have HK2 := Lib.hid kx
      have HRA := Lib.hid RA
      clear hC sp ba G hdr He He1 hxc C2 sp2 kx hxk hst hMk hMl RA
      go_upto_region 4 with fail
      try rw [hW2]
      try rw [hga]
      clear hW2 c0 c1 c2 c3 c4
      go_cut [6] (fun a wx => a = .int .i64 (takeE (Mk true) x.f x.fp) ∧ CkS w0 wx B gc m hd ns nn V V R (fun y => if y = true then takeM (Mk true) x.f x.fp else Mk y) ∧ Blk wx gs 111 #[.int .u8 0, .int .i64 0, .int .i64 0] ∧ Blk wx ga 59 #[.int .i64 x.f, .int .i64 x.fp, .int .i64 x.t, .int .i64 x.tp, .slice x.S x.st.length x.c])
      case first =>
        go_region_held3 (fun w' => w'.cell? ⟨gc, 7, none⟩ = some (V true) ∧ w'.cell? ⟨ga, 0, none⟩ = some (.int .i64 x.f) ∧ w'.cell? ⟨ga, 1, none⟩ = some (.int .i64 x.fp))
          (go_keep)
          (first
            | (go_at_call 71; refine ((HRA.out _ (Below.drewN (Below.refl _ _) 1)).take true (HMl.out true) x.f x.fp).mono ?_; rintro e w4 ⟨rfl, hC4, hO4⟩; have q0 : w4.cell? ⟨gc, 7, none⟩ = some (V true) := (hO4.cell hltg NX1).trans (by simp [*]); have q1 : w4.cell? ⟨ga, 0, none⟩ = some (.int .i64 x.f) := (hO4.cell hlta NX2).trans (by simp [*]); have q2 : w4.cell? ⟨ga, 1, none⟩ = some (.int .i64 x.fp) := (hO4.cell hlta NX2).trans (by simp [*])))
        go_wp2
        go_meet
        exact ⟨rfl, hC4, (hO4.block gs HS2.out.lt NX3).trans HS2.out, (hO4.block ga HK2.out.lt NX2).trans HK2.out⟩
      case rest =>
        obtain ⟨rfl, C4, sp4, kx4⟩ := hcut
        obtain ⟨E1, hE1⟩ : ∃ e, takeE (Mk true) x.f x.fp = e := ⟨_, rfl⟩
        rw [hE1]
        have HEq1 := Lib.hid hE1
        clear hE1 r0 x0 x1 NX1 NX2 NX3 hltg hlta HC2 HS2 HK2 HRA
        by_cases hE0 : E1 = 0
        · subst hE0
          obtain ⟨M1, hM1⟩ : ∃ v, (fun y => if y = true then takeM (Mk true) x.f x.fp else Mk y) = v := ⟨_, rfl⟩
          have hMl1 : 0 < (M1 false).length := by rw [← hM1]; exact HMl.out false
          have hM1f : M1 false = Mk false := by rw [← hM1]; rfl
          rw [hM1] at C4
          have r0 := C4.blk.cell 6
          have x0 := kx4.cell 2
          have x1 := kx4.cell 3
          simp only [List.getElem?_toArray, List.getElem?_cons_zero, List.getElem?_cons_succ] at r0 x0 x1
          have RA : ∀ w', Below wc.heap.size wc w' → CkS w0 w' B gc m hd ns nn V V R M1 := fun w' hb => C4.below hb
          have NX1 := C4.notRow false C4.blk (by decide)
          have NX2 := C4.notRow false kx4 (by decide)
          have NX3 := C4.notRow false sp4 (by decide)
          have hltg := C4.blk.lt
          have hlta := kx4.lt
          have HM1 := Lib.hid hM1
          have HM1f := Lib.hid hM1f
          have HMl1 := Lib.hid hMl1
          have HS4 := Lib.hid sp4
          have HK4 := Lib.hid kx4
          have HRA := Lib.hid RA
          clear C4 sp4 kx4 hM1 hM1f hMl1 RA
          go_upto_region 7 with fail
          go_cut [7] (fun a wx => a = .int .i64 (takeE (M1 false) x.t x.tp) ∧ CkS w0 wx B gc m hd ns nn V V R (fun y => if y = false then takeM (M1 false) x.t x.tp else M1 y) ∧ Blk wx gs 111 #[.int .u8 0, .int .i64 0, .int .i64 0] ∧ Blk wx ga 59 #[.int .i64 x.f, .int .i64 x.fp, .int .i64 x.t, .int .i64 x.tp, .slice x.S x.st.length x.c])
          case first =>
            go_region_held3 (fun w' => w'.cell? ⟨gc, 6, none⟩ = some (V false) ∧ w'.cell? ⟨ga, 2, none⟩ = some (.int .i64 x.t) ∧ w'.cell? ⟨ga, 3, none⟩ = some (.int .i64 x.tp))
              (go_keep)
              (first
                | (go_at_call 71; refine ((HRA.out _ (Below.drewN (Below.refl _ _) 1)).take false HMl1.out x.t x.tp).mono ?_; rintro e w4 ⟨rfl, hC4, hO4⟩; have q0 : w4.cell? ⟨gc, 6, none⟩ = some (V false) := (hO4.cell hltg NX1).trans (by simp [*]); have q1 : w4.cell? ⟨ga, 2, none⟩ = some (.int .i64 x.t) := (hO4.cell hlta NX2).trans (by simp [*]); have q2 : w4.cell? ⟨ga, 3, none⟩ = some (.int .i64 x.tp) := (hO4.cell hlta NX2).trans (by simp [*])))
            go_wp2
            go_meet
            exact ⟨rfl, hC4, (hO4.block gs HS4.out.lt NX3).trans HS4.out, (hO4.block ga HK4.out.lt NX2).trans HK4.out⟩
          case rest =>
            obtain ⟨rfl, C7, sp7, kx7⟩ := hcut
            rw [HM1f.out] at C7
            rw [HM1f.out]
            obtain ⟨E2, hE2⟩ : ∃ e, takeE (Mk false) x.t x.tp = e := ⟨_, rfl⟩
            rw [hE2]
            have HEq2 := Lib.hid hE2
            have hfin : (fun y => if y = false then takeM (Mk false) x.t x.tp else M1 y) = edgesM (hd.edges.take (k + 1)) M := by
              rw [Hst.out, ← HM1.out]
              funext y
              unfold edgeM
              cases y <;> rfl
            rw [hfin] at C7
            clear hE2 hfin r0 x0 x1 NX1 NX2 NX3 hltg hlta HS4 HK4 HRA
            by_cases hE2 : E2 = 0
            · subst hE2
              have x4 := kx7.cell 4
              simp only [List.getElem?_toArray, List.getElem?_cons_zero, List.getElem?_cons_succ] at x4
              have hee : edgeE Mk x = if 256 < x.st.length then 88 else 0 := by unfold edgeE; rw [HEq1.out, if_pos rfl, HEq2.out, if_pos rfl]
              have He3 := HE1.out
              rw [hee, ← Hst.out] at He3
              obtain ⟨ls, hls⟩ : ∃ n, x.st.length = n := ⟨_, rfl⟩
              rw [hls] at He3 x4
              have HE3 := Lib.hid He3
              have HCz := Lib.hid C7
              have spz := sp7
              clear hee He3 hls C7 sp7 kx7
              by_cases h256 : 256 < ls
              · have hd : decide ((256 : Int) < (ls : Int)) = true := decide_eq_true (by omega)
                obtain rfl : E = 88 := by have := HE3.out; rw [if_pos h256, if_neg (by decide)] at this; exact this
                have q4 := ((spz.set 0 (.int .u8 2)).set 1 (.int .i64 k)).set 2 (.int .i64 0)
                simp only [List.setIfInBounds_toArray, List.set_cons_zero, List.set_cons_succ] at q4
                have s0 := q4.cell 0
                have s1 := q4.cell 1
                have s2 := q4.cell 2
                have f0 := spz.frozen 0
                have f1 := spz.frozen 1
                have f2 := spz.frozen 2
                have p0 := spz.cell 0
                have p1 := spz.cell 1
                have p2 := spz.cell 2
                simp only [List.getElem?_toArray, List.getElem?_cons_zero, List.getElem?_cons_succ] at s0 s1 s2 p0 p1 p2
                have hO := onlySet3 wc gs (.int .u8 2) (.int .i64 k) (.int .i64 0)
                have Cz := HCz.out.aside spz hgsB (by decide) (by decide) (by decide) hO
                have HCz2 := Lib.hid Cz
                clear Cz hO q4 spz HCz
                go_wp2_with fail
                refine bodyPost_ret (v := .tuple #[.int .i64 88, .agg #[.int .u8 2, .int .i64 k, .int .i64 0]]) (by simp [results, Tryd.results53, go_sem, s0, s1, s2]) rfl ?_
                exact ⟨_, _, _, rfl, HCz2.out.bel, fun h => (by cases h)⟩
              · have hd : decide ((256 : Int) < (ls : Int)) = false := decide_eq_false (by omega)
                have HSz := Lib.hid spz
                clear spz
                go_wp2_with fail
                go_roundw
                case rel => exact ⟨k + 1, by omega, by go_num, HSz.out, HCz.out, by unfold Hid; rw [HE3.out, if_neg h256, if_pos rfl]⟩
                case measure => simp [intOf]; omega
            · have hne : (E2 != 0) = true := by simpa using hE2
              have hee : edgeE Mk x = E2 := by unfold edgeE; rw [HEq1.out, if_pos rfl, HEq2.out, if_neg hE2]
              obtain rfl : E = E2 := by have := HE1.out; rw [hee, if_neg hE2] at this; exact this
              have HCz := Lib.hid C7
              have spz := sp7
              clear C7 sp7 kx7 hee HE1
              have q4 := ((spz.set 0 (.int .u8 2)).set 1 (.int .i64 k)).set 2 (.int .i64 2)
              simp only [List.setIfInBounds_toArray, List.set_cons_zero, List.set_cons_succ] at q4
              have s0 := q4.cell 0
              have s1 := q4.cell 1
              have s2 := q4.cell 2
              have f0 := spz.frozen 0
              have f1 := spz.frozen 1
              have f2 := spz.frozen 2
              have p0 := spz.cell 0
              have p1 := spz.cell 1
              have p2 := spz.cell 2
              simp only [List.getElem?_toArray, List.getElem?_cons_zero, List.getElem?_cons_succ] at s0 s1 s2 p0 p1 p2
              have hO := onlySet3 wc gs (.int .u8 2) (.int .i64 k) (.int .i64 2)
              have Cz := HCz.out.aside spz hgsB (by decide) (by decide) (by decide) hO
              have HCz2 := Lib.hid Cz
              clear Cz hO q4 spz HCz
              go_wp2_with fail
              refine bodyPost_ret (v := .tuple #[.int .i64 E, .agg #[.int .u8 2, .int .i64 k, .int .i64 2]]) (by simp [results, Tryd.results53, go_sem, s0, s1, s2]) rfl ?_
              exact ⟨_, _, _, rfl, HCz2.out.bel, fun h => absurd h hE2⟩
        · have hne : (E1 != 0) = true := by simpa using hE0
          have hee : edgeE Mk x = E1 := by unfold edgeE; rw [HEq1.out, if_neg hE0]
          obtain rfl : E = E1 := by have := HE1.out; rw [hee, if_neg hE0] at this; exact this
          have HCz := Lib.hid C4
          have spz := sp4
          clear C4 sp4 kx4 hee HE1
          have q4 := ((spz.set 0 (.int .u8 2)).set 1 (.int .i64 k)).set 2 (.int .i64 1)
          simp only [List.setIfInBounds_toArray, List.set_cons_zero, List.set_cons_succ] at q4
          have s0 := q4.cell 0
          have s1 := q4.cell 1
          have s2 := q4.cell 2
          have f0 := spz.frozen 0
          have f1 := spz.frozen 1
          have f2 := spz.frozen 2
          have p0 := spz.cell 0
          have p1 := spz.cell 1
          have p2 := spz.cell 2
          simp only [List.getElem?_toArray, List.getElem?_cons_zero, List.getElem?_cons_succ] at s0 s1 s2 p0 p1 p2
          have hO := onlySet3 wc gs (.int .u8 2) (.int .i64 k) (.int .i64 1)
          have Cz := HCz.out.aside spz hgsB (by decide) (by decide) (by decide) hO
          have HCz2 := Lib.hid Cz
          clear Cz hO q4 spz HCz
          go_wp2_with fail
          refine bodyPost_ret (v := .tuple #[.int .i64 E, .agg #[.int .u8 2, .int .i64 k, .int .i64 1]]) (by simp [results, Tryd.results53, go_sem, s0, s1, s2]) rfl ?_
          exact ⟨_, _, _, rfl, HCz2.out.bel, fun h => absurd h hE0⟩
    · obtain rfl : k = nA := by omega
      have hfull : hd.edges.take k = hd.edges := List.take_of_length_le (by rw [HnA.out]; exact Nat.le_refl _)
      have hnil : hd.edges.drop k = [] := List.drop_eq_nil_of_le (by rw [HnA.out]; exact Nat.le_refl _)
      rw [hfull] at hC
      obtain rfl : E = 0 := by have := He.out; rw [hnil] at this; exact this
      have HCz := Lib.hid hC
      have spz := sp
      clear hC sp He hfull hnil
      have q4 := ((spz.set 0 (.int .u8 0)).set 1 (.int .i64 0)).set 2 (.int .i64 0)
      simp only [List.setIfInBounds_toArray, List.set_cons_zero, List.set_cons_succ] at q4
      have s0 := q4.cell 0
      have s1 := q4.cell 1
      have s2 := q4.cell 2
      have f0 := spz.frozen 0
      have f1 := spz.frozen 1
      have f2 := spz.frozen 2
      have p0 := spz.cell 0
      have p1 := spz.cell 1
      have p2 := spz.cell 2
      simp only [List.getElem?_toArray, List.getElem?_cons_zero, List.getElem?_cons_succ] at s0 s1 s2 p0 p1 p2
      have hO := onlySet3 wr gs (.int .u8 0) (.int .i64 0) (.int .i64 0)
      have Cz := HCz.out.aside spz hgsB (by decide) (by decide) (by decide) hO
      have HCz2 := Lib.hid Cz
      clear Cz hO q4 spz HCz
      go_wp2_with fail
      refine bodyPost_ret (v := .tuple #[.int .i64 0, .agg #[.int .u8 0, .int .i64 0, .int .i64 0]]) (by simp [results, Tryd.results53, go_sem, s0, s1, s2]) rfl ?_
      exact ⟨⟨_, _, _, rfl⟩, HCz2.out.bel, HCz2.out⟩
end Go.Proofs.YtpmlljbebdidgaaDoor
