/-
  Gc, Gd, Ge: texts pasted together.
-/
import Derived.Test.YtpmlljbebdidgaaDoorGb
import Derived.Test.YtpmlljbebdidgaaDoorM18
import Derived.StringKeys
import Derived.Test.YtpmlljbebdidgaaDoorM3
import Derived.Test.YtpmlljbebdidgaaDoorSe
/-
  The checker of a graph: a name, a port.
-/
namespace Go.Proofs.YtpmlljbebdidgaaDoor
open Go.RowKit Go.Maps Go.WideMaps

/-! ### names -/
def putS (D : DataW Unit) (s : List UInt8) : DataW Unit := D.put (.string s) (.lit (.int .i64 1))
/-- the names so far, as a map -/
def mapS (ns : List (List UInt8)) : DataW Unit := ns.foldl putS (.map [])
def nameE (ns : List (List UInt8)) (s : ByteArray) : Int := if nameB s = true then (if s.data.toList ∈ ns then 83 else 0) else 82
theorem fold_mapS : ∀ (ns : List (List UInt8)) (D : DataW Unit), IsMap D → ∀ u : List UInt8,
    IsMap (ns.foldl putS D) ∧ ∀ z, (ns.foldl putS D).atKey (.string u) z = if u ∈ ns then .lit (.int .i64 1) else D.atKey (.string u) z := by
  intro ns
  induction ns with
  | nil => intro D hD u; exact ⟨hD, fun z => by simp⟩
  | cons s ns ih =>
    intro D hD u
    obtain ⟨h1, h2⟩ := ih (putS D s) (hD.put _ _) u
    refine ⟨h1, fun z => ?_⟩
    rw [List.foldl_cons, h2]
    unfold putS
    by_cases e : u = s
    · subst e
      rw [atKey_put_same hD (show WideAt.IsKeyLit (.string u) from trivial)]
      simp
    · rw [atKey_put_other (fun hc => e (by injection hc))]
      simp [e]
theorem mapS_snoc (ns : List (List UInt8)) (s : List UInt8) : mapS (ns ++ [s]) = (mapS ns).put (.string s) (.lit (.int .i64 1)) := by simp [mapS, putS]
theorem mapS_at (ns : List (List UInt8)) (s : List UInt8) : (mapS ns).atKey (.string s) (.lit (.int .i64 0)) = .lit (.int .i64 (if s ∈ ns then 1 else 0)) := by
  unfold mapS
  rw [(fold_mapS ns _ isMap_empty s).2]
  split
  · rfl
  · rfl
theorem keyedS : Keyed Tryd.prog 9 := string_keyed Tryd.underlying9
def namesN (ns : List (List UInt8)) (s : ByteArray) : List (List UInt8) := if nameE ns s = 0 then ns ++ [s.data.toList] else ns
theorem onlyGrown {w w' : World} {m : Nat} (h : w.grownBy w' (some m)) : Only (fun k => k = m) w w' := ⟨h.os, h.tape, h.output, h.size, fun k hk hX => h.block k hk (fun hc => hX (by injection hc))⟩

set_option maxRecDepth 100000 in
set_option maxHeartbeats 1000000 in
theorem cname_any (gc m n : Nat) (ns : List (List UInt8)) (s : ByteArray) (w : World) (hs : s.size ≤ maxLen) (hn : n ≤ 1000) (hg : gc < w.heap.size) (hc : w.cell? ⟨gc, 5, none⟩ = some (.map (some m))) (ho : w.ownsMap Tryd.prog 9 (plainElem (H := Unit) Tryd.prog 3) m n (mapS ns)) :
    Calls Tryd.prog 70 #[.pointer (some ⟨gc, 0, none⟩), .string s] w fun e w' => e = .returned (.int .i64 (nameE ns s)) ∧
      w'.ownsMap Tryd.prog 9 (plainElem (H := Unit) Tryd.prog 3) m (n + 1) (mapS (namesN ns s)) ∧ Only (fun k => k = m) w w' := by
  have hat := mapS_at ns s.data.toList
  have hsn := mapS_snoc ns s.data.toList
  obtain ⟨r, hr⟩ : ∃ r, nameB s = r := ⟨_, rfl⟩
  have hE : nameE ns s = if r = true then (if s.data.toList ∈ ns then 83 else 0) else 82 := by unfold nameE; rw [hr]
  have hNN : namesN ns s = if r = true ∧ s.data.toList ∉ ns then ns ++ [s.data.toList] else ns := by
    unfold namesN
    rw [hE]
    cases r with
    | true => by_cases h : s.data.toList ∈ ns <;> simp [h]
    | false => simp
  rw [hE, hNN]
  have HR := Lib.hid hr
  have HAT := Lib.hid hat
  have HSN := Lib.hid hsn
  clear hr hat hsn hE hNN
  generalize hD : mapS ns = D at *
  have hkey : keyOf Tryd.prog 9 (.string s) = some (.string s.data.toList) := keyOf_string_mk Tryd.underlying9 hs
  go_enter Tryd.func70, Tryd.ntmps70
  go_wp2_with fail
  refine (name_any s w hs).mono ?_
  rintro e w1 ⟨rfl, hb1⟩
  rw [HR.out]
  have o1 : w1.ownsMap Tryd.prog 9 (plainElem (H := Unit) Tryd.prog 3) m n D := ho.kept (row := none) ⟨hb1.os, hb1.tape, hb1.output, hb1.size, fun k hk _ => hb1.block k hk⟩ (by simp)
  have c1 := (hb1.cell hg).trans hc
  have q1 : Only (fun k => k = m) w w1 := (belowOnly hb1).mono fun k hk hX => by omega
  clear hb1
  cases r with
  | false =>
    go_wp2_with fail
    go_ret
    exact ⟨rfl, by simpa [hD] using o1.mono (Nat.le_succ n), q1⟩
  | true =>
    by_cases hin : s.data.toList ∈ ns
    · have hq : D.atKey (.string s.data.toList) (.lit (.int .i64 0)) = .lit (.int .i64 1) := by rw [HAT.out, if_pos hin]
      have HQ := Lib.hid hq
      have Hin := Lib.hid hin
      clear hq hin
      go_wp2_with (first
        | (at_lookup; refine wpList_lookup_own_int _ rfl _ _ 131 rfl 9 3 .i64 keyedS Tryd.underlying131 Tryd.underlying3 (zeroI _) m n D rfl o1 _ _ rfl hkey ?_; intro c hat hwc; have hc1 : decide (0 < c) = true := by (rw [HQ.out] at hat; injection hat with hat; injection hat with _ hat; rw [← hat]; rfl))
        | go_in)
      go_ret
      exact ⟨rfl, by simpa [Hin.out, hD] using o1.mono (Nat.le_succ n), q1⟩
    · have hq : D.atKey (.string s.data.toList) (.lit (.int .i64 0)) = .lit (.int .i64 0) := by rw [HAT.out, if_neg hin]
      have HQ := Lib.hid hq
      have Hin := Lib.hid hin
      clear hq hin
      go_wp2_with (first
        | (at_lookup; refine wpList_lookup_own_int _ rfl _ _ 131 rfl 9 3 .i64 keyedS Tryd.underlying131 Tryd.underlying3 (zeroI _) m n D rfl o1 _ _ rfl hkey ?_; intro c hat hwc; have hc1 : decide (0 < c) = false := by (rw [HQ.out] at hat; injection hat with hat; injection hat with _ hat; rw [← hat]; rfl))
        | (at_mapUpdate; refine wpList_mapUpdate_own _ rfl _ _ _ 131 rfl 9 3 keyedS Tryd.underlying131 _ m n D rfl o1 (by unfold maxLen; omega) _ _ _ rfl rfl hkey _ [] (plainElem_int Tryd.underlying3 (WalkArith.wf_i64 (by omega))) ?_; intro w4 hown4 hgrow4)
        | go_in)
      go_ret
      exact ⟨rfl, by simpa [Hin.out, HSN.out] using hown4, q1.trans (onlyGrown hgrow4)⟩
/-! ### a side: which ports are taken -/
def cellsO (r : List Bool) : List Value := r.map Value.bool
theorem cellsO_length (r : List Bool) : (cellsO r).length = r.length := by simp [cellsO]
theorem cellsO_set (r : List Bool) (p : Nat) (b : Bool) : (cellsO r).set p (.bool b) = cellsO (r.set p b) := by unfold cellsO; rw [List.map_set]
/-- a side in memory: v: the slice of its rows, whose row j lies in block R j -/
structure SideM (w : World) (B g c : Nat) (R : Nat → Nat) (M : List (List Bool)) : Prop where
  hdr : w.ownsRow B 123 1 (.slice (some ⟨g, 0, none⟩) M.length c) M.length ((List.range M.length).map fun j => .slice (some ⟨R j, 0, none⟩) (M.getD j []).length (M.getD j []).length)
  row : ∀ j, j < M.length → w.ownsRow B 4 1 (.slice (some ⟨R j, 0, none⟩) (M.getD j []).length (M.getD j []).length) (M.getD j []).length (cellsO (M.getD j []))
  inj : ∀ j j', j < M.length → j' < M.length → R j = R j' → j = j'
theorem SideM.cellH {w : World} {B g c : Nat} {R : Nat → Nat} {M : List (List Bool)} (h : SideM w B g c R M) {j : Nat} (hj : j < M.length) : w.cell? ⟨g, j, none⟩ = some (.slice (some ⟨R j, 0, none⟩) (M.getD j []).length (M.getD j []).length) := by
  rw [h.hdr.cellAt j (by omega)]
  simp [hj]
theorem SideM.cellR {w : World} {B g c : Nat} {R : Nat → Nat} {M : List (List Bool)} (h : SideM w B g c R M) {j p : Nat} (hj : j < M.length) (hp : p < (M.getD j []).length) : w.cell? ⟨R j, p, none⟩ = some (.bool ((M.getD j []).getD p false)) := by
  rw [(h.row j hj).cellAt p (by omega)]
  unfold cellsO
  rw [List.getElem?_map, List.getD_eq_getElem?_getD, List.getD_eq_getElem?_getD]
  rw [List.getD_eq_getElem?_getD] at hp
  rw [List.getElem?_eq_getElem hp]
  rfl
theorem SideM.below {w w' : World} {B g c : Nat} {R : Nat → Nat} {M : List (List Bool)} (h : SideM w B g c R M) (hb : Below w.heap.size w w') : SideM w' B g c R M :=
  ⟨own_below h.hdr hb, fun j hj => own_below (h.row j hj) hb, h.inj⟩
theorem SideM.only {X : Nat → Prop} {w w' : World} {B g c : Nat} {R : Nat → Nat} {M : List (List Bool)} (h : SideM w B g c R M) (ho : Only X w w') (hg : ¬ X g) (hR : ∀ j, j < M.length → ¬ X (R j)) : SideM w' B g c R M :=
  ⟨own_only h.hdr ho fun b hb => by injection hb with hb; rw [← hb]; exact hg, fun j hj => own_only (h.row j hj) ho fun b hb => by injection hb with hb; rw [← hb]; exact hR j hj, h.inj⟩
def takeE (M : List (List Bool)) (a p : Int) : Int :=
  if a < 0 ∨ (M.length : Int) ≤ a then 84 else if p < 0 ∨ ((M.getD a.toNat []).length : Int) ≤ p then 85 else if (M.getD a.toNat []).getD p.toNat false = true then 86 else 0
def takeM (M : List (List Bool)) (a p : Int) : List (List Bool) := if takeE M a p = 0 then M.set a.toNat ((M.getD a.toNat []).set p.toNat true) else M
theorem getD_set_self {M : List (List Bool)} {a : Nat} (ha : a < M.length) (r : List Bool) : (M.set a r).getD a [] = r := by
  rw [List.getD_eq_getElem?_getD, List.getElem?_set, if_pos rfl, if_pos ha]; rfl
theorem getD_set_other {M : List (List Bool)} {a j : Nat} (h : a ≠ j) (r : List Bool) : (M.set a r).getD j [] = M.getD j [] := by
  rw [List.getD_eq_getElem?_getD, List.getElem?_set, if_neg h, ← List.getD_eq_getElem?_getD]
theorem SideM.store {w : World} {B g c : Nat} {R : Nat → Nat} {M : List (List Bool)} (h : SideM w B g c R M) {a p : Nat} (ha : a < M.length) : SideM (w.setCell ⟨R a, p, none⟩ (.bool true)) B g c R (M.set a ((M.getD a []).set p true)) := by
  have hO := onlySet w ⟨R a, p, none⟩ (.bool true)
  have hne : g ≠ R a := fun hc => by
    obtain ⟨cs, h1⟩ := own_block h.hdr (b := g) rfl
    obtain ⟨cs', h2⟩ := own_block (h.row a ha) (b := R a) rfl
    rw [← hc] at h2
    exact absurd (blk_ty h1 h2) (by decide)
  refine ⟨?_, fun j hj => ?_, fun j j' hj hj' => h.inj j j' (by simpa using hj) (by simpa using hj')⟩
  · have h1 := own_only h.hdr hO fun b hb => by injection hb with hb; rw [← hb]; exact hne
    rw [List.length_set]
    have e : (fun j => Value.slice (some ⟨R j, 0, none⟩) ((M.set a ((M.getD a []).set p true)).getD j []).length ((M.set a ((M.getD a []).set p true)).getD j []).length) = fun j => Value.slice (some ⟨R j, 0, none⟩) (M.getD j []).length (M.getD j []).length := by
      funext j
      by_cases hj : a = j
      · subst hj; rw [getD_set_self ha, List.length_set]
      · rw [getD_set_other hj]
    rw [e]
    exact h1
  · rw [List.length_set] at hj
    by_cases hja : a = j
    · subst hja
      rw [getD_set_self ha, List.length_set, ← cellsO_set]
      exact ((h.row a ha).stored p (.bool true)).1
    · rw [getD_set_other hja]
      exact own_only (h.row j hj) hO fun b hb => by injection hb with hb; rw [← hb]; exact fun hc => hja (h.inj a j ha hj hc.symm)
set_option maxRecDepth 100000 in
set_option maxHeartbeats 1000000 in
theorem take_walk (B g c : Nat) (R : Nat → Nat) (M : List (List Bool)) (a p : Int) (w : World) (hM : SideM w B g c R M) :
    Calls Tryd.prog 71 #[.slice (some ⟨g, 0, none⟩) M.length c, .int .i64 a, .int .i64 p] w fun e w' => e = .returned (.int .i64 (takeE M a p)) ∧ (w' = if takeE M a p = 0 then w.setCell ⟨R a.toNat, p.toNat, none⟩ (.bool true) else w) := by
  by_cases ha : a < 0
  · have hE : takeE M a p = 84 := by unfold takeE; rw [if_pos (.inl ha)]
    rw [hE]
    clear hE
    go_enter Tryd.func71, Tryd.ntmps71
    go_wp2_with fail
    go_ret
    exact ⟨rfl, rfl⟩
  obtain ⟨i, rfl⟩ : ∃ i : Nat, a = i := ⟨a.toNat, by omega⟩
  by_cases hi : i < M.length
  · have hch := hM.cellH hi
    have hi1 : (0 : Int) ≤ (i : Int) := by omega
    have hi2 : (i : Int) < (M.length : Int) := by omega
    by_cases hp : p < 0
    · have hE : takeE M i p = 85 := by unfold takeE; rw [if_neg (by omega), if_pos (.inl hp)]
      rw [hE]
      clear hE ha
      go_enter Tryd.func71, Tryd.ntmps71
      go_wp2_with fail
      go_ret
      exact ⟨rfl, rfl⟩
    obtain ⟨q, rfl⟩ : ∃ q : Nat, p = q := ⟨p.toNat, by omega⟩
    by_cases hq : q < (M.getD i []).length
    · have hcr := hM.cellR hi hq
      have hfr := (hM.row i hi).frozenAt q
      have hE : takeE M i q = if (M.getD i []).getD q false = true then 86 else 0 := by unfold takeE; rw [if_neg (by omega), Int.toNat_natCast, if_neg (by omega), Int.toNat_natCast]
      rw [hE, Int.toNat_natCast, Int.toNat_natCast]
      have hq1 : (0 : Int) ≤ (q : Int) := by omega
      have hq2 : (q : Int) < ((M.getD i []).length : Int) := by omega
      clear hE ha hp
      generalize (M.getD i []).getD q false = b at *
      generalize (M.getD i []).length = L at *
      generalize M.length = N at *
      cases b with
      | true =>
        go_enter Tryd.func71, Tryd.ntmps71
        go_wp2_with fail
        go_ret
        exact ⟨rfl, rfl⟩
      | false =>
        go_enter Tryd.func71, Tryd.ntmps71
        go_wp2_with fail
        go_ret
        exact ⟨rfl, rfl⟩
    · have hE : takeE M i q = 85 := by unfold takeE; rw [if_neg (by omega), Int.toNat_natCast, if_pos (.inr (by omega))]
      rw [hE]
      have hq3 : decide ((M.getD i []).length ≤ q) = true := decide_eq_true (by omega)
      clear hE ha hp hq
      generalize (M.getD i []).length = L at *
      generalize M.length = N at *
      go_enter Tryd.func71, Tryd.ntmps71
      go_wp2_with fail
      go_ret
      exact ⟨rfl, rfl⟩
  · have hE : takeE M i p = 84 := by unfold takeE; rw [if_pos (.inr (by omega))]
    rw [hE]
    have hq3 : decide (M.length ≤ i) = true := decide_eq_true (by omega)
    clear hE ha hi
    generalize M.length = N at *
    go_enter Tryd.func71, Tryd.ntmps71
    go_wp2_with fail
    go_ret
    exact ⟨rfl, rfl⟩
theorem takeM_length (M : List (List Bool)) (a p : Int) : (takeM M a p).length = M.length := by
  unfold takeM
  split
  · rw [List.length_set]
  · rfl
theorem take_ok {M : List (List Bool)} {a p : Int} (h : takeE M a p = 0) : 0 ≤ a ∧ a < M.length ∧ 0 ≤ p ∧ p < (M.getD a.toNat []).length ∧ (M.getD a.toNat []).getD p.toNat false = false := by
  unfold takeE at h
  split at h
  · cases h
  · split at h
    · cases h
    · split at h
      · cases h
      · rename_i h1 h2 h3
        refine ⟨by omega, by omega, by omega, by omega, ?_⟩
        cases hb : (M.getD a.toNat []).getD p.toNat false with
        | true => exact absurd hb h3
        | false => rfl
/-- blocks of a side's rows -/
def rowsX (R : Nat → Nat) (n : Nat) : Nat → Prop := fun k => ∃ j, j < n ∧ k = R j
theorem take_any (B g c : Nat) (R : Nat → Nat) (M : List (List Bool)) (a p : Int) (w : World) (hM : SideM w B g c R M) :
    Calls Tryd.prog 71 #[.slice (some ⟨g, 0, none⟩) M.length c, .int .i64 a, .int .i64 p] w fun e w' => e = .returned (.int .i64 (takeE M a p)) ∧ SideM w' B g c R (takeM M a p) ∧ Only (rowsX R M.length) w w' := by
  refine (take_walk B g c R M a p w hM).mono ?_
  rintro e w' ⟨rfl, rfl⟩
  refine ⟨rfl, ?_, ?_⟩
  · unfold takeM
    split
    · rename_i h
      obtain ⟨h1, h2, h3, h4, -⟩ := take_ok h
      exact hM.store (p := p.toNat) (by omega)
    · exact hM
  · split
    · rename_i h
      obtain ⟨h1, h2, h3, h4, -⟩ := take_ok h
      exact (onlySet w ⟨R a.toNat, p.toNat, none⟩ (.bool true)).mono fun k _ hk => ⟨a.toNat, by omega, hk⟩
    · exact Only.refl _ w
end Go.Proofs.YtpmlljbebdidgaaDoor
/-
  The checker's memory: a graph as it is read, names, two sides.
-/
namespace Go.Proofs.YtpmlljbebdidgaaDoor
open Go.RowKit Go.Maps

/-! ### a graph as it is read -/
structure ActV where
  nm : ByteArray
  tag : Int
  ps : List Int
  P : Option Addr
  c : Nat
structure GEdg where
  f : Int
  fp : Int
  t : Int
  tp : Int
  st : List Int
  S : Option Addr
  c : Nat
structure PrtV where
  nm : ByteArray
  a : Int
  p : Int
def ActV.cells (x : ActV) : List Value := [.string x.nm, .int .u8 x.tag, .slice x.P x.ps.length x.c]
def GEdg.cells (x : GEdg) : List Value := [.int .i64 x.f, .int .i64 x.fp, .int .i64 x.t, .int .i64 x.tp, .slice x.S x.st.length x.c]
def PrtV.cells (x : PrtV) : List Value := [.string x.nm, .int .i64 x.a, .int .i64 x.p]
def cellsAc (l : List ActV) : List Value := l.flatMap ActV.cells
def cellsEd (l : List GEdg) : List Value := l.flatMap GEdg.cells
def cellsPr (l : List PrtV) : List Value := l.flatMap PrtV.cells
structure GraV where
  nm : ByteArray
  acts : List ActV
  edges : List GEdg
  ins : List PrtV
  outs : List PrtV
  aA : Option Addr
  cA : Nat
  aE : Option Addr
  cE : Nat
  aI : Option Addr
  cI : Nat
  aO : Option Addr
  cO : Nat
def GraV.cells (g : GraV) : List Value := [.string g.nm, .slice g.aA g.acts.length g.cA, .slice g.aE g.edges.length g.cE, .slice g.aI g.ins.length g.cI, .slice g.aO g.outs.length g.cO]
def GraV.val (g : GraV) : Value := .agg #[.string g.nm, .slice g.aA g.acts.length g.cA, .slice g.aE g.edges.length g.cE, .slice g.aI g.ins.length g.cI, .slice g.aO g.outs.length g.cO]
structure ActV.good (w : World) (B : Nat) (x : ActV) : Prop where
  nm : x.nm.size ≤ maxLen
  tag : 0 ≤ x.tag ∧ x.tag ≤ 255
  fit : AllFit x.ps
  len : x.ps.length ≤ maxLen
  wide : x.ps.length * 8 ≤ 140737488351232
  rd : Rd w B x.P (cellsI x.ps)
structure GEdg.good (w : World) (B : Nat) (x : GEdg) : Prop where
  f : fits x.f
  fp : fits x.fp
  t : fits x.t
  tp : fits x.tp
  fit : AllFit x.st
  len : x.st.length ≤ maxLen
  wide : x.st.length * 8 ≤ 140737488351232
  rd : Rd w B x.S (cellsI x.st)
structure PrtV.good (x : PrtV) : Prop where
  nm : x.nm.size ≤ maxLen
  a : fits x.a
  p : fits x.p
structure GraV.good (w : World) (B : Nat) (g : GraV) : Prop where
  nm : g.nm.size ≤ maxLen
  lA : g.acts.length ≤ maxLen
  lE : g.edges.length ≤ maxLen
  lI : g.ins.length ≤ maxLen
  lO : g.outs.length ≤ maxLen
  rA : Rd w B g.aA (cellsAc g.acts)
  rE : Rd w B g.aE (cellsEd g.edges)
  rI : Rd w B g.aI (cellsPr g.ins)
  rO : Rd w B g.aO (cellsPr g.outs)
  gA : ∀ x ∈ g.acts, x.good w B
  gE : ∀ x ∈ g.edges, x.good w B
  gI : ∀ x ∈ g.ins, x.good
  gO : ∀ x ∈ g.outs, x.good
theorem ActV.good.below {w w' : World} {B B' : Nat} {x : ActV} (h : x.good w B) (hb : Below B' w w') (hB : B ≤ B') : x.good w' B := { h with rd := h.rd.below hb hB }
theorem GEdg.good.below {w w' : World} {B B' : Nat} {x : GEdg} (h : x.good w B) (hb : Below B' w w') (hB : B ≤ B') : x.good w' B := { h with rd := h.rd.below hb hB }
theorem GraV.good.below {w w' : World} {B B' : Nat} {g : GraV} (h : g.good w B) (hb : Below B' w w') (hB : B ≤ B') : g.good w' B :=
  { h with rA := h.rA.below hb hB, rE := h.rE.below hb hB, rI := h.rI.below hb hB, rO := h.rO.below hb hB, gA := fun x hx => (h.gA x hx).below hb hB, gE := fun x hx => (h.gE x hx).below hb hB }
theorem ActV.good.more {w : World} {B B' : Nat} {x : ActV} (h : x.good w B) (hB : B ≤ B') : x.good w B' := { h with rd := h.rd.more hB }
theorem GEdg.good.more {w : World} {B B' : Nat} {x : GEdg} (h : x.good w B) (hB : B ≤ B') : x.good w B' := { h with rd := h.rd.more hB }
theorem GraV.good.more {w : World} {B B' : Nat} {g : GraV} (h : g.good w B) (hB : B ≤ B') : g.good w B' :=
  { h with rA := h.rA.more hB, rE := h.rE.more hB, rI := h.rI.more hB, rO := h.rO.more hB, gA := fun x hx => (h.gA x hx).more hB, gE := fun x hx => (h.gE x hx).more hB }
theorem flat_at {α : Type} (f : α → List Value) (n : Nat) (hf : ∀ x, (f x).length = n) : ∀ (l : List α) (k : Nat) (x : α), l[k]? = some x → ∀ j u, (f x)[j]? = some u → (l.flatMap f)[k * n + j]? = some u := by
  intro l
  induction l with
  | nil => intro k x h; simp at h
  | cons y l ih =>
    intro k x h j u hu
    have e : (y :: l).flatMap f = f y ++ l.flatMap f := rfl
    cases k with
    | zero =>
      simp only [List.getElem?_cons_zero, Option.some.injEq] at h
      subst h
      rw [e, Nat.zero_mul, Nat.zero_add, List.getElem?_append_left (List.getElem?_eq_some_iff.1 hu).1]
      exact hu
    | succ k =>
      simp only [List.getElem?_cons_succ] at h
      have h1 := ih k x h j u hu
      have hk : (k + 1) * n + j = n + (k * n + j) := by rw [Nat.succ_mul]; omega
      rw [e, List.getElem?_append_right (by rw [hf, hk]; omega), hf, hk, Nat.add_sub_cancel_left]
      exact h1
theorem flat_length {α : Type} (f : α → List Value) (n : Nat) (hf : ∀ x, (f x).length = n) (l : List α) : (l.flatMap f).length = l.length * n := by
  induction l with
  | nil => simp
  | cons y l ih => rw [List.flatMap_cons, List.length_append, ih, hf, List.length_cons, Nat.succ_mul]; omega
theorem Rd.flat {α : Type} {f : α → List Value} {n : Nat} (hn : 0 < n) (hf : ∀ x, (f x).length = n) {w : World} {B : Nat} {A : Option Addr} {l : List α} (h : Rd w B A (l.flatMap f)) {k : Nat} (hk : k < l.length) :
    ∃ b off x, A = some ⟨b, off, none⟩ ∧ b < B ∧ l[k]? = some x ∧ ∀ j u, (f x)[j]? = some u → w.cell? ⟨b, off + k * n + j, none⟩ = some u := by
  rcases h with h | ⟨b, off, hA, hb, hc⟩
  · have := flat_length f n hf l
    rw [h] at this
    have : 0 < l.length * n := Nat.mul_pos (by omega) hn
    simp at *
    omega
  · exact ⟨b, off, l[k], hA, hb, List.getElem?_eq_getElem hk, fun j u hu => by rw [Nat.add_assoc]; exact hc _ _ (flat_at f n hf l k _ (List.getElem?_eq_getElem hk) j u hu)⟩

/-! ### the checker -/
def hdrs (R : Nat → Nat) (M : List (List Bool)) : List Value := (List.range M.length).map fun j => .slice (some ⟨R j, 0, none⟩) (M.getD j []).length (M.getD j []).length
def upd2 (f : Nat → Nat) (i v : Nat) : Nat → Nat := fun j => if j = i then v else f j
theorem getD_app {α : Type} {l l' : List α} {j : Nat} {d : α} (h : j < l.length) : (l ++ l').getD j d = l.getD j d := by
  rw [List.getD_eq_getElem?_getD, List.getElem?_append_left h, ← List.getD_eq_getElem?_getD]
theorem upd2_self (f : Nat → Nat) (i v : Nat) : upd2 f i v i = v := if_pos rfl
theorem upd2_other {f : Nat → Nat} {i v j : Nat} (h : j ≠ i) : upd2 f i v j = f j := if_neg h
structure CkS (w0 w : World) (B gc m : Nat) (hd : GraV) (ns : List (List UInt8)) (nn : Nat) (Vc V : Bool → Value) (R : Bool → Nat → Nat) (M : Bool → List (List Bool)) : Prop where
  bel : Below B w0 w
  gcB : B ≤ gc
  mB : B ≤ m
  blk : Blk w gc 134 #[.string hd.nm, .slice hd.aA hd.acts.length hd.cA, .slice hd.aE hd.edges.length hd.cE, .slice hd.aI hd.ins.length hd.cI, .slice hd.aO hd.outs.length hd.cO, .map (some m), Vc false, Vc true]
  map : w.ownsMap Tryd.prog 9 (plainElem (H := Unit) Tryd.prog 3) m nn (mapS ns)
  hdr : ∀ s, w.ownsRow B 123 1 (V s) (M s).length (hdrs (R s) (M s))
  row : ∀ s j, j < (M s).length → w.ownsRow B 4 1 (.slice (some ⟨R s j, 0, none⟩) ((M s).getD j []).length ((M s).getD j []).length) ((M s).getD j []).length (cellsO ((M s).getD j []))
  inj : ∀ s j s' j', j < (M s).length → j' < (M s').length → R s j = R s' j' → s = s' ∧ j = j'
  gtd : ∀ b, (V false).ownBlock = some b → (V true).ownBlock ≠ some b
theorem map_ne {w : World} {m n : Nat} {D : DataW Unit} {K : TypeId} {E : Value → Option (DataW Unit × List MemPlace)} (h : w.ownsMap Tryd.prog K E m n D) {g : Nat} {t : TypeId} {cs : Array Value} (hg : Blk w g t cs) : g ≠ m := by
  rintro rfl
  obtain ⟨es, clock, hb, -⟩ := h
  have := hb.symm.trans hg
  injection this with this
  cases this
theorem own_map_ne {w : World} {m n : Nat} {D : DataW Unit} {K : TypeId} {E : Value → Option (DataW Unit × List MemPlace)} (h : w.ownsMap Tryd.prog K E m n D) {base : Nat} {e : TypeId} {size k : Nat} {v : Value} {xs : List Value} (ho : w.ownsRow base e size v k xs) {b : Nat} (hb : v.ownBlock = some b) : b ≠ m := by
  obtain ⟨cs, hk⟩ := own_block ho hb
  exact map_ne h hk
theorem map_below {w w' : World} {m n : Nat} {D : DataW Unit} {K : TypeId} {E : Value → Option (DataW Unit × List MemPlace)} (h : w.ownsMap Tryd.prog K E m n D) (hb : Below w.heap.size w w') : w'.ownsMap Tryd.prog K E m n D :=
  h.kept (row := none) ⟨hb.os, hb.tape, hb.output, hb.size, fun k hk _ => hb.block k hk⟩ (by simp)
theorem map_only {X : Nat → Prop} {w w' : World} {m n : Nat} {D : DataW Unit} {K : TypeId} {E : Value → Option (DataW Unit × List MemPlace)} (h : w.ownsMap Tryd.prog K E m n D) (ho : Only X w w') (hm : ¬ X m) : w'.ownsMap Tryd.prog K E m n D := by
  have hl := h.lt
  obtain ⟨es, clock, hb, r⟩ := h
  exact ⟨es, clock, (ho.block m hl hm).trans hb, r⟩
theorem CkS.below {w0 w w' : World} {B gc m nn : Nat} {hd : GraV} {ns : List (List UInt8)} {Vc V : Bool → Value} {R : Bool → Nat → Nat} {M : Bool → List (List Bool)} (h : CkS w0 w B gc m hd ns nn Vc V R M) (hb : Below w.heap.size w w') : CkS w0 w' B gc m hd ns nn Vc V R M :=
  { h with
    bel := h.bel.trans ⟨hb.os, hb.tape, hb.output, hb.size, fun k hk => hb.block k (by have := h.blk.lt; have := h.gcB; omega)⟩
    blk := h.blk.below hb h.blk.lt
    map := map_below h.map hb
    hdr := fun s => own_below (h.hdr s) hb
    row := fun s j hj => own_below (h.row s j hj) hb }
/-- a name more -/
theorem CkS.named {w0 w w' : World} {B gc m nn nn' : Nat} {hd : GraV} {ns ns' : List (List UInt8)} {Vc V : Bool → Value} {R : Bool → Nat → Nat} {M : Bool → List (List Bool)} (h : CkS w0 w B gc m hd ns nn Vc V R M) (ho : Only (fun k => k = m) w w') (hm : w'.ownsMap Tryd.prog 9 (plainElem (H := Unit) Tryd.prog 3) m nn' (mapS ns')) : CkS w0 w' B gc m hd ns' nn' Vc V R M :=
  { h with
    bel := h.bel.trans ⟨ho.os, ho.tape, ho.output, ho.size, fun k hk => ho.block k (by have := h.blk.lt; have := h.gcB; omega) (by have := h.mB; omega)⟩
    blk := (ho.block gc h.blk.lt (map_ne h.map h.blk)).trans h.blk
    map := hm
    hdr := fun s => own_only (h.hdr s) ho fun b hb => own_map_ne h.map (h.hdr s) hb
    row := fun s j hj => own_only (h.row s j hj) ho fun b hb => own_map_ne h.map (h.row s j hj) hb }
theorem CkS.side {w0 w : World} {B gc m nn : Nat} {hd : GraV} {ns : List (List UInt8)} {Vc V : Bool → Value} {R : Bool → Nat → Nat} {M : Bool → List (List Bool)} (h : CkS w0 w B gc m hd ns nn Vc V R M) (s : Bool) (hp : 0 < (M s).length) :
    ∃ g c, V s = .slice (some ⟨g, 0, none⟩) (M s).length c ∧ SideM w B g c (R s) (M s) := by
  have h1 := h.hdr s
  obtain ⟨A, c, hA, -⟩ := own_slice h1
  rw [hA] at h1
  obtain ⟨g, rfl⟩ := own_addr h1 hp
  exact ⟨g, c, hA, h1, h.row s, fun j j' hj hj' e => (h.inj s j s j' hj hj' e).2⟩
/-- a port more is taken -/
theorem CkS.taken {w0 w w' : World} {B gc m nn : Nat} {hd : GraV} {ns : List (List UInt8)} {Vc V : Bool → Value} {R : Bool → Nat → Nat} {M : Bool → List (List Bool)} (h : CkS w0 w B gc m hd ns nn Vc V R M) (s : Bool) {g c : Nat} (hV : V s = .slice (some ⟨g, 0, none⟩) (M s).length c) {a p : Int} (hS : SideM w' B g c (R s) (takeM (M s) a p)) (ho : Only (rowsX (R s) (M s).length) w w') : CkS w0 w' B gc m hd ns nn Vc V R (fun x => if x = s then takeM (M s) a p else M x) := by
  have hrow : ∀ j, j < (M s).length → ∃ cs, Blk w (R s j) 4 cs := fun j hj => own_block (h.row s j hj) rfl
  have hnew : ∀ k, rowsX (R s) (M s).length k → B ≤ k := by
    rintro k ⟨j, hj, rfl⟩
    exact own_ge (h.row s j hj) rfl
  have hlen : ∀ x, (if x = s then takeM (M s) a p else M x).length = (M x).length := by
    intro x
    by_cases hx : x = s
    · subst hx; rw [if_pos rfl, takeM_length]
    · rw [if_neg hx]
  refine { h with
    bel := h.bel.trans ⟨ho.os, ho.tape, ho.output, ho.size, fun k hk => ho.block k (by have := h.blk.lt; have := h.gcB; omega) (fun hX => by have := hnew k hX; omega)⟩
    blk := (ho.block gc h.blk.lt ?_).trans h.blk
    map := map_only h.map ho ?_
    hdr := fun x => ?_
    row := fun x j hj => ?_
    inj := fun x j x' j' hj hj' e => h.inj x j x' j' (by rw [← hlen x]; exact hj) (by rw [← hlen x']; exact hj') e }
  · rintro ⟨j, hj, e⟩
    obtain ⟨cs, hk⟩ := hrow j hj
    rw [← e] at hk
    exact absurd (blk_ty h.blk hk) (by decide)
  · rintro ⟨j, hj, e⟩
    obtain ⟨cs, hk⟩ := hrow j hj
    exact map_ne h.map hk e.symm
  · by_cases hx : x = s
    · subst hx
      rw [if_pos rfl, hV, takeM_length]
      have h1 := hS.hdr
      unfold hdrs
      rw [takeM_length] at h1 ⊢
      exact h1
    · rw [if_neg hx]
      refine own_only (h.hdr x) ho fun b hb => ?_
      rintro ⟨j, hj, e⟩
      obtain ⟨cs, hk⟩ := hrow j hj
      obtain ⟨cs', hk'⟩ := own_block (h.hdr x) hb
      rw [← e] at hk
      exact absurd (blk_ty hk' hk) (by decide)
  · by_cases hx : x = s
    · subst hx
      rw [if_pos rfl] at hj ⊢
      exact hS.row j hj
    · rw [if_neg hx] at hj ⊢
      refine own_only (h.row x j hj) ho fun b hb => ?_
      injection hb with hb
      subst hb
      rintro ⟨j', hj', e⟩
      exact hx (h.inj x j s j' hj hj' e).1
def updB {α : Type} (f : Bool → α) (s : Bool) (v : α) : Bool → α := fun x => if x = s then v else f x
theorem updB_self {α : Type} (f : Bool → α) (s : Bool) (v : α) : updB f s v s = v := if_pos rfl
theorem updB_other {α : Type} {f : Bool → α} {s x : Bool} {v : α} (h : x ≠ s) : updB f s v x = f x := if_neg h
/-- a new row of no port taken, not yet on a side -/
structure NewR (w : World) (B n rb : Nat) (R : Bool → Nat → Nat) (M : Bool → List (List Bool)) : Prop where
  own : w.ownsRow B 4 1 (.slice (some ⟨rb, 0, none⟩) n n) n (cellsO (List.replicate n false))
  new : ∀ s j, j < (M s).length → R s j ≠ rb
theorem NewR.below {w w' : World} {B n rb : Nat} {R : Bool → Nat → Nat} {M : Bool → List (List Bool)} (h : NewR w B n rb R M) (hb : Below w.heap.size w w') : NewR w' B n rb R M := ⟨own_below h.own hb, h.new⟩
theorem hdrs_push (R : Nat → Nat) (M : List (List Bool)) (n rb : Nat) : hdrs (upd2 R M.length rb) (M ++ [List.replicate n false]) = hdrs R M ++ [.slice (some ⟨rb, 0, none⟩) n n] := by
  unfold hdrs
  rw [List.length_append, List.length_singleton, List.range_succ, List.map_append, List.map_singleton]
  congr 1
  · refine List.map_congr_left fun j hj => ?_
    have hj := List.mem_range.1 hj
    rw [getD_app hj, upd2_other (by omega)]
  · have e : (M ++ [List.replicate n false]).getD M.length [] = List.replicate n false := by
      rw [List.getD_eq_getElem?_getD, List.getElem?_append_right (Nat.le_refl _), Nat.sub_self]; rfl
    rw [e, List.length_replicate, upd2_self]
theorem CkS.push {w0 w w' : World} {B gc m nn n rb : Nat} {hd : GraV} {ns : List (List UInt8)} {Vc V : Bool → Value} {R : Bool → Nat → Nat} {M : Bool → List (List Bool)} (h : CkS w0 w B gc m hd ns nn Vc V R M) (hn : NewR w B n rb R M) (s : Bool) {v' : Value} (hg : w.grownBy w' (V s).ownBlock)
    (ho : w'.ownsRow B 123 1 v' ((M s).length + 1) (hdrs (R s) (M s) ++ [.slice (some ⟨rb, 0, none⟩) n n])) (hl : v'.ownBlock = (V s).ownBlock ∨ v'.ownBlock = some w.heap.size) :
    CkS w0 w' B gc m hd ns nn Vc (updB V s v') (updB R s (upd2 (R s) (M s).length rb)) (updB M s (M s ++ [List.replicate n false])) := by
  have hty : ∀ b, (V s).ownBlock = some b → ∃ cs, Blk w b 123 cs := fun b hb => own_block (h.hdr s) hb
  have hrow : ∀ {base n k : Nat} {v : Value} {xs : List Value}, w.ownsRow base 4 1 v n xs → v.ownBlock = some k → w'.ownsRow base 4 1 v n xs := fun hr hk => hr.kept hg (.inr fun hc => by
    obtain ⟨cs, h1⟩ := hty _ (hc.symm.trans hk)
    obtain ⟨cs', h2⟩ := own_block hr hk
    exact absurd (blk_ty h2 h1) (by decide))
  refine { h with
    bel := h.bel.grown hg (by have := h.blk.lt; have := h.gcB; omega) fun k hk => ?_
    blk := h.blk.grown hg fun hc => ?_
    map := h.map.kept hg fun hc => ?_
    hdr := fun x => ?_
    row := fun x j hj => ?_
    inj := fun x j x' j' hj hj' e => ?_
    gtd := fun b hb hb' => ?_ }
  · have := own_ge (h.hdr s) hk; omega
  · obtain ⟨cs, h1⟩ := hty _ hc.symm
    exact absurd (blk_ty h.blk h1) (by decide)
  · obtain ⟨cs, h1⟩ := hty _ hc.symm
    exact map_ne h.map h1 rfl
  · by_cases hx : x = s
    · subst hx
      rw [updB_self, updB_self, updB_self, hdrs_push, List.length_append]
      exact ho
    · rw [updB_other hx, updB_other hx, updB_other hx]
      refine (h.hdr x).kept hg ?_
      cases hb : (V x).ownBlock with
      | none => exact .inl rfl
      | some b =>
        refine .inr fun hc => ?_
        cases x <;> cases s <;> first | exact hx rfl | exact h.gtd b hb hc.symm | exact h.gtd b hc.symm hb
  · by_cases hx : x = s
    · subst hx
      rw [updB_self] at hj ⊢
      rw [updB_self]
      rw [List.length_append, List.length_singleton] at hj
      by_cases hjl : j < (M x).length
      · rw [getD_app hjl, upd2_other (by omega)]
        exact hrow (h.row x j hjl) rfl
      · obtain rfl : j = (M x).length := by omega
        have e : (M x ++ [List.replicate n false]).getD (M x).length [] = List.replicate n false := by
          rw [List.getD_eq_getElem?_getD, List.getElem?_append_right (Nat.le_refl _), Nat.sub_self]; rfl
        rw [e, upd2_self, List.length_replicate]
        exact hrow hn.own rfl
    · rw [updB_other hx] at hj ⊢
      rw [updB_other hx]
      exact hrow (h.row x j hj) rfl
  · have key : ∀ (y : Bool) (i : Nat), i < (updB M s (M s ++ [List.replicate n false]) y).length → (y = s ∧ i = (M s).length ∧ updB R s (upd2 (R s) (M s).length rb) y i = rb) ∨ (i < (M y).length ∧ updB R s (upd2 (R s) (M s).length rb) y i = R y i) := by
      intro y i hi
      by_cases hy : y = s
      · subst hy
        rw [updB_self, List.length_append, List.length_singleton] at hi
        rw [updB_self]
        by_cases hil : i < (M y).length
        · exact .inr ⟨hil, upd2_other (by omega)⟩
        · obtain rfl : i = (M y).length := by omega
          exact .inl ⟨rfl, rfl, upd2_self _ _ _⟩
      · rw [updB_other hy] at hi
        rw [updB_other hy]
        exact .inr ⟨hi, rfl⟩
    rcases key x j hj with ⟨h1, h2, h3⟩ | ⟨h1, h2⟩
    · rcases key x' j' hj' with ⟨h4, h5, h6⟩ | ⟨h4, h5⟩
      · exact ⟨h1.trans h4.symm, h2.trans h5.symm⟩
      · rw [h3, h5] at e; exact absurd e.symm (hn.new x' j' h4)
    · rcases key x' j' hj' with ⟨h4, h5, h6⟩ | ⟨h4, h5⟩
      · rw [h2, h6] at e; exact absurd e (hn.new x j h1)
      · rw [h2, h5] at e; exact h.inj x j x' j' h1 h4 e
  · have hlt : ∀ x b, (V x).ownBlock = some b → b < w.heap.size := fun x b hb => ((h.hdr x).lt b hb).2
    cases s with
    | false =>
      rw [updB_self] at hb
      rw [updB_other (by decide)] at hb'
      rcases hl with hl | hl
      · exact h.gtd b (hl ▸ hb) hb'
      · have := hlt _ _ hb'
        rw [hl] at hb
        injection hb with hb
        omega
    | true =>
      rw [updB_other (by decide)] at hb
      rw [updB_self] at hb'
      rcases hl with hl | hl
      · exact h.gtd b hb (hl ▸ hb')
      · have := hlt _ _ hb
        rw [hl] at hb'
        injection hb' with hb'
        omega
/-- the side's slice is stored in the checker -/
theorem CkS.stored {w0 w : World} {B gc m nn : Nat} {hd : GraV} {ns : List (List UInt8)} {Vc V : Bool → Value} {R : Bool → Nat → Nat} {M : Bool → List (List Bool)} (h : CkS w0 w B gc m hd ns nn Vc V R M) (s : Bool) : CkS w0 (w.setCell ⟨gc, if s then 7 else 6, none⟩ (V s)) B gc m hd ns nn (updB Vc s (V s)) V R M := by
  have hO := onlySet w ⟨gc, if s then 7 else 6, none⟩ (V s)
  have hne : ∀ {base n b : Nat} {e : TypeId} {v : Value} {xs : List Value}, w.ownsRow base e 1 v n xs → e ≠ 134 → v.ownBlock = some b → b ≠ gc := fun ho he hb hc => by
    obtain ⟨cs, h1⟩ := own_block ho hb
    rw [hc] at h1
    exact he (blk_ty h1 h.blk)
  refine { h with
    bel := h.bel.setCell (p := ⟨gc, if s then 7 else 6, none⟩) h.gcB (V s)
    blk := ?_
    map := map_only h.map hO (fun hc => map_ne h.map h.blk hc.symm)
    hdr := fun x => own_only (h.hdr x) hO fun b hb => hne (h.hdr x) (by decide) hb
    row := fun x j hj => own_only (h.row x j hj) hO fun b hb => hne (h.row x j hj) (by decide) hb }
  have h1 := h.blk.set (if s then 7 else 6) (V s)
  cases s <;> exact h1
end Go.Proofs.YtpmlljbebdidgaaDoor
/-
  The checker's head.
-/
namespace Go.Proofs.YtpmlljbebdidgaaDoor
open Go.RowKit Go.Maps

def headE (g : GraV) : Int :=
  if nameB g.nm = true then (if g.acts.length = 0 then 80 else if 32 < g.acts.length then 81 else if 96 < g.edges.length then 81 else if 16 < g.ins.length then 81 else if 16 < g.outs.length then 81 else 0) else 82
theorem CkS.aside {w0 w w' : World} {B gc m nn g : Nat} {t : TypeId} {cs : Array Value} {hd : GraV} {ns : List (List UInt8)} {Vc V : Bool → Value} {R : Bool → Nat → Nat} {M : Bool → List (List Bool)} (h : CkS w0 w B gc m hd ns nn Vc V R M) (hb : Blk w g t cs) (hg : B ≤ g) (h1 : t ≠ 134) (h2 : t ≠ 4) (h3 : t ≠ 123) (ho : Only (fun k => k = g) w w') : CkS w0 w' B gc m hd ns nn Vc V R M :=
  { h with
    bel := h.bel.trans ⟨ho.os, ho.tape, ho.output, ho.size, fun k hk => ho.block k (by have := h.blk.lt; have := h.gcB; omega) (by omega)⟩
    blk := (ho.block gc h.blk.lt (fun hc => by rw [← hc] at hb; exact h1 (blk_ty hb h.blk))).trans h.blk
    map := map_only h.map ho (fun hc => map_ne h.map hb hc.symm)
    hdr := fun x => own_only (h.hdr x) ho fun b hb' hc => by
      obtain ⟨cs', hk⟩ := own_block (h.hdr x) hb'
      rw [hc] at hk
      exact h3 (blk_ty hb hk)
    row := fun x j hj => own_only (h.row x j hj) ho fun b hb' hc => by
      obtain ⟨cs', hk⟩ := own_block (h.row x j hj) hb'
      rw [hc] at hk
      exact h2 (blk_ty hb hk) }

set_option maxRecDepth 100000 in
set_option maxHeartbeats 4000000 in
theorem head_any (g : GraV) (gc : Nat) (u v x : Value) (w : World) (hb : Blk w gc 134 #[.string g.nm, .slice g.aA g.acts.length g.cA, .slice g.aE g.edges.length g.cE, .slice g.aI g.ins.length g.cI, .slice g.aO g.outs.length g.cO, u, v, x]) (hs : g.nm.size ≤ maxLen) :
    Calls Tryd.prog 51 #[.pointer (some ⟨gc, 0, none⟩)] w fun e w' => ∃ a b c : Int, e = .returned (.tuple #[.int .i64 (headE g), .agg #[.int .u8 a, .int .i64 b, .int .i64 c]]) ∧ Below w.heap.size w w' := by
  obtain ⟨B, hB⟩ : ∃ B, w.heap.size = B := ⟨_, rfl⟩
  have hlt := hb.lt
  obtain ⟨r, hr⟩ : ∃ r, nameB g.nm = r := ⟨_, rfl⟩
  obtain ⟨E, hE⟩ : ∃ E, headE g = E := ⟨_, rfl⟩
  unfold headE at hE
  rw [hr] at hE
  rw [hB, show headE g = E from by unfold headE; rw [hr]; exact hE]
  have HR := Lib.hid hr
  have b1 := (Below.refl B w).alloc (by omega) (.cells #[.int .u8 0, .int .i64 0, .int .i64 0] 111)
  have k1 := hb.alloc (.cells #[.int .u8 0, .int .i64 0, .int .i64 0] 111)
  have q1 := Blk.new w B hB.symm 111 #[.int .u8 0, .int .i64 0, .int .i64 0]
  have z1 : (w.alloc (.cells #[.int .u8 0, .int .i64 0, .int .i64 0] 111)).heap.size = B + 1 := by simp; omega
  obtain ⟨W1, hW1⟩ : ∃ W, w.alloc (.cells #[.int .u8 0, .int .i64 0, .int .i64 0] 111) = W := ⟨_, rfl⟩
  rw [hW1] at b1 k1 q1 z1
  have c0 := k1.cell 0
  have c1 := k1.cell 1
  have c2 := k1.cell 2
  have c3 := k1.cell 3
  have c4 := k1.cell 4
  simp only [List.getElem?_toArray, List.getElem?_cons_zero, List.getElem?_cons_succ] at c0 c1 c2 c3 c4
  obtain ⟨nA, hnA⟩ : ∃ n, g.acts.length = n := ⟨_, rfl⟩
  obtain ⟨nE, hnE⟩ : ∃ n, g.edges.length = n := ⟨_, rfl⟩
  obtain ⟨nI, hnI⟩ : ∃ n, g.ins.length = n := ⟨_, rfl⟩
  obtain ⟨nO, hnO⟩ : ∃ n, g.outs.length = n := ⟨_, rfl⟩
  rw [hnA, hnE, hnI, hnO] at hE
  rw [hnA] at c1
  rw [hnE] at c2
  rw [hnI] at c3
  rw [hnO] at c4
  have HE := Lib.hid hE
  clear hr hE hb k1 hnA hnE hnI hnO
  have b2 := b1.alloc (by omega) (.cells #[.string g.nm, .slice g.aA nA g.cA, .slice g.aE nE g.cE, .slice g.aI nI g.cI, .slice g.aO nO g.cO] 26)
  have k2 := Blk.new W1 (B + 1) z1.symm 26 #[.string g.nm, .slice g.aA nA g.cA, .slice g.aE nE g.cE, .slice g.aI nI g.cI, .slice g.aO nO g.cO]
  have q2 := q1.alloc (.cells #[.string g.nm, .slice g.aA nA g.cA, .slice g.aE nE g.cE, .slice g.aI nI g.cI, .slice g.aO nO g.cO] 26)
  obtain ⟨W2, hW2⟩ : ∃ W, W1.alloc (.cells #[.string g.nm, .slice g.aA nA g.cA, .slice g.aE nE g.cE, .slice g.aI nI g.cI, .slice g.aO nO g.cO] 26) = W := ⟨_, rfl⟩
  rw [hW2] at b2 k2 q2
  have d0 := k2.cell 0
  simp only [List.getElem?_toArray, List.getElem?_cons_zero] at d0
  go_enter Tryd.func51, Tryd.ntmps51
  go_wp2_with fail
  try rw [hW1]
  try rw [hW2]
  refine (name_any g.nm _ hs).mono ?_
  rintro e w3 ⟨rfl, hb3⟩
  rw [HR.out]
  have z2 := b2.size
  have b3 := b2.trans (hb3.mono (by omega))
  have k3 := k2.below hb3 k2.lt
  have q3 := q2.below hb3 q2.lt
  have d1 := k3.cell 1
  have d2 := k3.cell 2
  have d3 := k3.cell 3
  have d4 := k3.cell 4
  have p0 := q3.cell 0
  have p1 := q3.cell 1
  have p2 := q3.cell 2
  have f0 := q3.frozen 0
  have f1 := q3.frozen 1
  have f2 := q3.frozen 2
  simp only [List.getElem?_toArray, List.getElem?_cons_zero, List.getElem?_cons_succ] at d1 d2 d3 d4 p0 p1 p2
  clear b1 b2 q1 k2 q2 hb3 k3 d0 c0 c1 c2 c3 c4 hW1 hW2 z1 z2
  cases r with
  | false =>
    obtain rfl : E = 82 := by rw [← HE.out]; simp
    have q4 := ((q3.set 0 (.int .u8 0)).set 1 (.int .i64 0)).set 2 (.int .i64 0)
    simp only [List.setIfInBounds_toArray, List.set_cons_zero, List.set_cons_succ] at q4
    have s0 := q4.cell 0
    have s1 := q4.cell 1
    have s2 := q4.cell 2
    simp only [List.getElem?_toArray, List.getElem?_cons_zero, List.getElem?_cons_succ] at s0 s1 s2
    have b4 := ((b3.setCell (p := ⟨B, 0, none⟩) (Nat.le_refl _) (.int .u8 0)).setCell (p := ⟨B, 1, none⟩) (Nat.le_refl _) (.int .i64 0)).setCell (p := ⟨B, 2, none⟩) (Nat.le_refl _) (.int .i64 0)
    clear q3 q4 b3
    go_wp2_with fail
    refine bodyPost_ret (v := .tuple #[.int .i64 82, .agg #[.int .u8 0, .int .i64 0, .int .i64 0]]) (by simp [results, Tryd.results51, go_sem, s0, s1, s2]) rfl ?_
    exact ⟨_, _, _, rfl, b4⟩
  | true =>
    by_cases h0 : nA = 0
    · have g0 : ((nA : Int) == 0) = true := by simp [h0]
      have H0 := Lib.hid h0
      clear h0
      obtain rfl : E = 80 := by rw [← HE.out]; simp [H0.out]
      have q4 := ((q3.set 0 (.int .u8 0)).set 1 (.int .i64 0)).set 2 (.int .i64 0)
      simp only [List.setIfInBounds_toArray, List.set_cons_zero, List.set_cons_succ] at q4
      have s0 := q4.cell 0
      have s1 := q4.cell 1
      have s2 := q4.cell 2
      simp only [List.getElem?_toArray, List.getElem?_cons_zero, List.getElem?_cons_succ] at s0 s1 s2
      have b4 := ((b3.setCell (p := ⟨B, 0, none⟩) (Nat.le_refl _) (.int .u8 0)).setCell (p := ⟨B, 1, none⟩) (Nat.le_refl _) (.int .i64 0)).setCell (p := ⟨B, 2, none⟩) (Nat.le_refl _) (.int .i64 0)
      clear q3 q4 b3
      go_wp2_with fail
      refine bodyPost_ret (v := .tuple #[.int .i64 80, .agg #[.int .u8 0, .int .i64 0, .int .i64 0]]) (by simp [results, Tryd.results51, go_sem, s0, s1, s2]) rfl ?_
      exact ⟨_, _, _, rfl, b4⟩
    · have g0 : ((nA : Int) == 0) = false := by simp [h0]
      by_cases h1 : 32 < nA
      · have g1 : decide ((32 : Int) < (nA : Int)) = true := decide_eq_true (by omega)
        obtain rfl : E = 81 := by rw [← HE.out]; simp [h0, h1]
        have q4 := ((q3.set 0 (.int .u8 1)).set 1 (.int .i64 32)).set 2 (.int .i64 0)
        simp only [List.setIfInBounds_toArray, List.set_cons_zero, List.set_cons_succ] at q4
        have s0 := q4.cell 0
        have s1 := q4.cell 1
        have s2 := q4.cell 2
        simp only [List.getElem?_toArray, List.getElem?_cons_zero, List.getElem?_cons_succ] at s0 s1 s2
        have b4 := ((b3.setCell (p := ⟨B, 0, none⟩) (Nat.le_refl _) (.int .u8 1)).setCell (p := ⟨B, 1, none⟩) (Nat.le_refl _) (.int .i64 32)).setCell (p := ⟨B, 2, none⟩) (Nat.le_refl _) (.int .i64 0)
        clear q3 q4 b3
        go_wp2_with fail
        refine bodyPost_ret (v := .tuple #[.int .i64 81, .agg #[.int .u8 1, .int .i64 32, .int .i64 0]]) (by simp [results, Tryd.results51, go_sem, s0, s1, s2]) rfl ?_
        exact ⟨_, _, _, rfl, b4⟩
      · have g1 : decide ((32 : Int) < (nA : Int)) = false := decide_eq_false (by omega)
        by_cases h2 : 96 < nE
        · have g2 : decide ((96 : Int) < (nE : Int)) = true := decide_eq_true (by omega)
          obtain rfl : E = 81 := by rw [← HE.out]; simp [h0, h1, h2]
          have q4 := ((q3.set 0 (.int .u8 2)).set 1 (.int .i64 96)).set 2 (.int .i64 0)
          simp only [List.setIfInBounds_toArray, List.set_cons_zero, List.set_cons_succ] at q4
          have s0 := q4.cell 0
          have s1 := q4.cell 1
          have s2 := q4.cell 2
          simp only [List.getElem?_toArray, List.getElem?_cons_zero, List.getElem?_cons_succ] at s0 s1 s2
          have b4 := ((b3.setCell (p := ⟨B, 0, none⟩) (Nat.le_refl _) (.int .u8 2)).setCell (p := ⟨B, 1, none⟩) (Nat.le_refl _) (.int .i64 96)).setCell (p := ⟨B, 2, none⟩) (Nat.le_refl _) (.int .i64 0)
          clear q3 q4 b3
          go_wp2_with fail
          refine bodyPost_ret (v := .tuple #[.int .i64 81, .agg #[.int .u8 2, .int .i64 96, .int .i64 0]]) (by simp [results, Tryd.results51, go_sem, s0, s1, s2]) rfl ?_
          exact ⟨_, _, _, rfl, b4⟩
        · have g2 : decide ((96 : Int) < (nE : Int)) = false := decide_eq_false (by omega)
          by_cases h3 : 16 < nI
          · have g3 : decide ((16 : Int) < (nI : Int)) = true := decide_eq_true (by omega)
            obtain rfl : E = 81 := by rw [← HE.out]; simp [h0, h1, h2, h3]
            have q4 := ((q3.set 0 (.int .u8 3)).set 1 (.int .i64 16)).set 2 (.int .i64 0)
            simp only [List.setIfInBounds_toArray, List.set_cons_zero, List.set_cons_succ] at q4
            have s0 := q4.cell 0
            have s1 := q4.cell 1
            have s2 := q4.cell 2
            simp only [List.getElem?_toArray, List.getElem?_cons_zero, List.getElem?_cons_succ] at s0 s1 s2
            have b4 := ((b3.setCell (p := ⟨B, 0, none⟩) (Nat.le_refl _) (.int .u8 3)).setCell (p := ⟨B, 1, none⟩) (Nat.le_refl _) (.int .i64 16)).setCell (p := ⟨B, 2, none⟩) (Nat.le_refl _) (.int .i64 0)
            clear q3 q4 b3
            go_wp2_with fail
            refine bodyPost_ret (v := .tuple #[.int .i64 81, .agg #[.int .u8 3, .int .i64 16, .int .i64 0]]) (by simp [results, Tryd.results51, go_sem, s0, s1, s2]) rfl ?_
            exact ⟨_, _, _, rfl, b4⟩
          · have g3 : decide ((16 : Int) < (nI : Int)) = false := decide_eq_false (by omega)
            by_cases h4 : 16 < nO
            · have g4 : decide ((16 : Int) < (nO : Int)) = true := decide_eq_true (by omega)
              obtain rfl : E = 81 := by rw [← HE.out]; simp [h0, h1, h2, h3, h4]
              have q4 := ((q3.set 0 (.int .u8 4)).set 1 (.int .i64 16)).set 2 (.int .i64 0)
              simp only [List.setIfInBounds_toArray, List.set_cons_zero, List.set_cons_succ] at q4
              have s0 := q4.cell 0
              have s1 := q4.cell 1
              have s2 := q4.cell 2
              simp only [List.getElem?_toArray, List.getElem?_cons_zero, List.getElem?_cons_succ] at s0 s1 s2
              have b4 := ((b3.setCell (p := ⟨B, 0, none⟩) (Nat.le_refl _) (.int .u8 4)).setCell (p := ⟨B, 1, none⟩) (Nat.le_refl _) (.int .i64 16)).setCell (p := ⟨B, 2, none⟩) (Nat.le_refl _) (.int .i64 0)
              clear q3 q4 b3
              go_wp2_with fail
              refine bodyPost_ret (v := .tuple #[.int .i64 81, .agg #[.int .u8 4, .int .i64 16, .int .i64 0]]) (by simp [results, Tryd.results51, go_sem, s0, s1, s2]) rfl ?_
              exact ⟨_, _, _, rfl, b4⟩
            · have g4 : decide ((16 : Int) < (nO : Int)) = false := decide_eq_false (by omega)
              obtain rfl : E = 0 := by rw [← HE.out]; simp [h0, h1, h2, h3, h4]
              have q4 := ((q3.set 0 (.int .u8 0)).set 1 (.int .i64 0)).set 2 (.int .i64 0)
              simp only [List.setIfInBounds_toArray, List.set_cons_zero, List.set_cons_succ] at q4
              have s0 := q4.cell 0
              have s1 := q4.cell 1
              have s2 := q4.cell 2
              simp only [List.getElem?_toArray, List.getElem?_cons_zero, List.getElem?_cons_succ] at s0 s1 s2
              have b4 := ((b3.setCell (p := ⟨B, 0, none⟩) (Nat.le_refl _) (.int .u8 0)).setCell (p := ⟨B, 1, none⟩) (Nat.le_refl _) (.int .i64 0)).setCell (p := ⟨B, 2, none⟩) (Nat.le_refl _) (.int .i64 0)
              clear q3 q4 b3
              go_wp2_with fail
              refine bodyPost_ret (v := .tuple #[.int .i64 0, .agg #[.int .u8 0, .int .i64 0, .int .i64 0]]) (by simp [results, Tryd.results51, go_sem, s0, s1, s2]) rfl ?_
              exact ⟨_, _, _, rfl, b4⟩
end Go.Proofs.YtpmlljbebdidgaaDoor
