/-
  witness.Products: the rates along steps, and against them.
-/
import Derived.Test.YtpmlljbebdidgaaDoorM25
import Derived.Test.YtpmlljbebdidgaaDoorM2
import Derived.Test.YtpmlljbebdidgaaDoorM26
import Derived.Test.YtpmlljbebdidgaaDoorM6
import Derived.Deep.Onto
import Derived.Deep.RegionHeld3
namespace Go.Proofs.YtpmlljbebdidgaaDoor
open Go.RowKit

def stiCells (s : StI) : List Value := [.int .i64 s.1, .bool s.2]
def cellsT (p : List StI) : List Value := p.flatMap stiCells
def FitT (p : List StI) : Prop := ∀ s ∈ p, fits s.1
theorem cellsT_length (p : List StI) : (cellsT p).length = p.length * 2 := by
  induction p with
  | nil => rfl
  | cons s p ih => simp only [cellsT, List.flatMap_cons, List.length_append] at ih ⊢; rw [ih]; simp [stiCells]; omega
theorem cellsT_at : ∀ (p : List StI) (k : Nat) (s : StI), p[k]? = some s → (cellsT p)[k * 2]? = some (.int .i64 s.1) ∧ (cellsT p)[k * 2 + 1]? = some (.bool s.2)
  | [], k, s, h => by simp at h
  | s' :: p, 0, s, h => by simp at h; subst h; exact ⟨rfl, rfl⟩
  | s' :: p, k + 1, s, h => by
    have ih := cellsT_at p k s (by simpa using h)
    have e : cellsT (s' :: p) = stiCells s' ++ cellsT p := rfl
    rw [e, List.getElem?_append_right (by simp [stiCells]; omega), List.getElem?_append_right (by simp [stiCells]; omega)]
    rw [show (k + 1) * 2 - (stiCells s').length = k * 2 by simp [stiCells]; omega, show (k + 1) * 2 + 1 - (stiCells s').length = k * 2 + 1 by simp [stiCells]; omega]
    exact ih
theorem Rd.sti {w : World} {B : Nat} {A : Option Addr} {p : List StI} {k : Nat} (h : Rd w B A (cellsT p)) (hx : FitT p) (hk : k < p.length) :
    ∃ b off x t, A = some ⟨b, off, none⟩ ∧ b < B ∧ fits x ∧ w.cell? ⟨b, off + k * 2, none⟩ = some (.int .i64 x) ∧ w.cell? ⟨b, off + k * 2 + 1, none⟩ = some (.bool t) ∧ Hid (p.drop k = (x, t) :: p.drop (k + 1)) ∧ Hid (p[k]? = some (x, t)) := by
  rcases h with h | ⟨b, off, ha, hb, hc⟩
  · have := cellsT_length p; rw [h] at this; simp at this; omega
  · have hg : p[k]? = some p[k] := List.getElem?_eq_getElem hk
    obtain ⟨h1, h2⟩ := cellsT_at p k p[k] hg
    exact ⟨b, off, p[k].1, p[k].2, ha, hb, hx _ (List.getElem_mem _), hc _ _ h1, by rw [Nat.add_assoc]; exact hc _ _ h2, List.drop_eq_getElem_cons hk, hg⟩

/-- two lists that are answered, in memory of their own -/
def TwoPost (w : World) (la lb : List Int) (k : Int) (e : Ending) (w' : World) : Prop := ∃ Aa Ab ca cb, e = .returned (.tuple #[.slice Aa la.length ca, .slice Ab lb.length cb, .int .i64 k]) ∧
  w'.ownsRow w.heap.size 3 1 (.slice Aa la.length ca) la.length (cellsI la) ∧ w'.ownsRow w.heap.size 3 1 (.slice Ab lb.length cb) lb.length (cellsI lb) ∧ (∀ k, blkOf Aa = some k → blkOf Ab ≠ some k) ∧ Below w.heap.size w w'
theorem two_none {w w' : World} {k : Int} (hb : Below w.heap.size w w') : TwoPost w [] [] k (.returned (.tuple #[.slice none 0 0, .slice none 0 0, .int .i64 k])) w' :=
  ⟨none, none, 0, 0, rfl, World.ownsRow_nil _ _ _ _, World.ownsRow_nil _ _ _ _, fun k h => (by simp [blkOf] at h), hb⟩
theorem two_of {w w' : World} {la lb : List Int} {k : Int} {n : Nat} {Aa Ab : Option Addr} {ca cb : Nat} (h1 : la.length = n) (h2 : lb.length = n) (oa : w'.ownsRow w.heap.size 3 1 (.slice Aa n ca) n (cellsI la)) (ob : w'.ownsRow w.heap.size 3 1 (.slice Ab n cb) n (cellsI lb))
    (hd : ∀ k, (Value.slice Aa n ca).ownBlock = some k → (Value.slice Ab n cb).ownBlock ≠ some k) (hb : Below w.heap.size w w') : TwoPost w la lb k (.returned (.tuple #[.slice Aa n ca, .slice Ab n cb, .int .i64 k])) w' := by
  subst h1
  refine ⟨Aa, Ab, ca, cb, ?_, oa, ?_, fun q h h' => hd q (by rw [ownBlock_slice]; exact h) (by rw [ownBlock_slice]; exact h'), hb⟩
  · rw [h2]
  · rw [h2]; exact ob
/-- the rates along steps, and against them, or an error -/
def prodsF (n : Int) (ars : List ArcV) (p : List StI) : List Int × List Int × Int :=
  if checkF n ars ≠ 0 then ([], [], checkF n ars) else if 96 < p.length then ([], [], 2) else if allIn ars.length p = true then (p.map (giveS ars), p.map (takeS ars), 0) else ([], [], 120)
theorem arc_at {ars : List ArcV} {j : Nat} {a : ArcV} (h : ars[j]? = some a) (t : Bool) : arcOf ars ((j : Int), t) = a := by
  unfold arcOf
  rw [List.getD_eq_getElem?_getD, show ((j : Int), t).1.toNat = j from rfl, h]; rfl
theorem allIn_take {L k : Nat} {p : List StI} {s : StI} (h : p[k]? = some s) : allIn L (p.take (k + 1)) = (allIn L (p.take k) && inS L s) := by
  obtain ⟨h1, h2⟩ := List.getElem?_eq_some_iff.1 h
  unfold allIn
  rw [List.take_succ_eq_append_getElem h1, List.all_append, h2]
  simp
theorem allIn_not {L k : Nat} {p : List StI} {s : StI} (h : p[k]? = some s) (hs : inS L s = false) : allIn L p = false := by
  unfold allIn
  rw [List.all_eq_false]
  exact ⟨s, List.mem_of_getElem? h, by simp [hs]⟩
theorem map_take_succ {α : Type} {p : List StI} {k : Nat} {s : StI} (f : StI → α) (h : p[k]? = some s) : (p.take (k + 1)).map f = (p.take k).map f ++ [f s] := by
  obtain ⟨h1, h2⟩ := List.getElem?_eq_some_iff.1 h
  rw [List.take_succ_eq_append_getElem h1, List.map_append, h2]; rfl

/-- Products' memory: the net's box, the two lists -/
structure PrSt (w wr : World) (n : Int) (A : Option Addr) (l c k : Nat) (va vb : Value) (la lb : List Int) : Prop where
  kn : Blk wr w.heap.size 30 #[.int .i64 n, .slice A l c]
  oa : wr.ownsRow (w.heap.size + 1) 3 1 va k (cellsI la)
  ob : wr.ownsRow (w.heap.size + 1) 3 1 vb k (cellsI lb)
  ne : ∀ k, va.ownBlock = some k → vb.ownBlock ≠ some k
  bw : Below w.heap.size w wr
theorem PrSt.alloc {w wr : World} {n : Int} {A : Option Addr} {l c k : Nat} {va vb : Value} {la lb : List Int} (h : PrSt w wr n A l c k va vb la lb) (o : Obj) : PrSt w (wr.alloc o) n A l c k va vb la lb :=
  ⟨h.kn.alloc o, h.oa.alloc o, h.ob.alloc o, h.ne, h.bw.alloc h.bw.size o⟩
theorem PrSt.drawn {w wr : World} {n : Int} {A : Option Addr} {l c k : Nat} {va vb : Value} {la lb : List Int} (h : PrSt w wr n A l c k va vb la lb) (d : Nat) : PrSt w (wr.drewN d) n A l c k va vb la lb :=
  ⟨h.kn, h.oa, h.ob, h.ne, Below.drewN h.bw d⟩

/-- one more at the first list's end -/
theorem step_two {w W4 w5 : World} {n : Int} {A : Option Addr} {l c k : Nat} {va vb v5 : Value} {la lb : List Int} {o : Obj} (S : PrSt w W4 n A l c k va vb la lb) (g5 : (W4.alloc o).grownBy w5 va.ownBlock)
    (hat : v5.ownBlock = va.ownBlock ∨ v5.ownBlock = some (W4.heap.size + 1)) : Blk w5 w.heap.size 30 #[.int .i64 n, .slice A l c] ∧ w5.ownsRow (w.heap.size + 1) 3 1 vb k (cellsI lb) ∧ (∀ q, v5.ownBlock = some q → vb.ownBlock ≠ some q) ∧ Below w.heap.size w w5 := by
  have S' := S.alloc o
  have hlt := S.kn.lt
  refine ⟨S'.kn.grown g5 (fun he => by have := (S'.oa.lt _ he.symm).1; omega), S'.ob.kept g5 ?_, fun q h h' => ?_, S'.bw.grown g5 S'.bw.size (fun j hj => by have := (S'.oa.lt j hj).1; omega)⟩
  · cases hv : vb.ownBlock with
    | none => exact .inl rfl
    | some b => exact .inr (fun he => S.ne b he.symm hv)
  · rcases hat with hat | hat
    · exact S.ne q (hat.symm.trans h) h'
    · rw [hat] at h
      injection h with h
      have := (S.ob.lt q h').2
      omega
/-- one more at the second list's end -/
theorem step_two2 {w w5 w6 : World} {n : Int} {A : Option Addr} {l c k : Nat} {v5 vb v6 : Value} {xs ys zs : List Value} {o : Obj} (kn : Blk w5 w.heap.size 30 #[.int .i64 n, .slice A l c]) (o5 : w5.ownsRow (w.heap.size + 1) 3 1 v5 (k + 1) xs) (ob : w5.ownsRow (w.heap.size + 1) 3 1 vb k ys)
    (ne : ∀ q, v5.ownBlock = some q → vb.ownBlock ≠ some q) (b5 : Below w.heap.size w w5) (o6 : w6.ownsRow (w.heap.size + 1) 3 1 v6 (k + 1) zs) (g6 : (w5.alloc o).grownBy w6 vb.ownBlock) (hat : v6.ownBlock = vb.ownBlock ∨ v6.ownBlock = some (w5.heap.size + 1)) :
    Blk w6 w.heap.size 30 #[.int .i64 n, .slice A l c] ∧ w6.ownsRow (w.heap.size + 1) 3 1 v5 (k + 1) xs ∧ w6.ownsRow (w.heap.size + 1) 3 1 v6 (k + 1) zs ∧ (∀ q, v5.ownBlock = some q → v6.ownBlock ≠ some q) ∧ Below w.heap.size w w6 := by
  have hlt := kn.lt
  have hb := (b5.alloc b5.size o)
  refine ⟨(kn.alloc o).grown g6 (fun he => by have := (ob.lt _ he.symm).1; omega), (o5.alloc o).kept g6 ?_, o6, fun q h h' => ?_, hb.grown g6 hb.size (fun j hj => by have := (ob.lt j hj).1; omega)⟩
  · cases hv : v5.ownBlock with
    | none => exact .inl rfl
    | some b => exact .inr (fun he => ne b hv he.symm)
  · rcases hat with hat | hat
    · exact ne q h (hat.symm.trans h')
    · rw [hat] at h'
      injection h' with h'
      have := (o5.lt q h).2
      omega

set_option maxRecDepth 100000 in
set_option maxHeartbeats 4000000 in
theorem products_any (n : Int) (ars : List ArcV) (A : Option Addr) (l c : Nat) (p : List StI) (Ap : Option Addr) (m cp : Nat) (w : World) (hl : ars.length = l) (hx : ∀ a ∈ ars, a.fit) (hr : Rd w w.heap.size A (cellsA ars)) (hm : l ≤ maxLen)
    (hp : p.length = m) (hxp : FitT p) (hrp : Rd w w.heap.size Ap (cellsT p)) (hmp : m ≤ maxLen) :
    Calls Tryd.prog 23 #[.agg #[.int .i64 n, .slice A l c], .slice Ap m cp] w (TwoPost w (prodsF n ars p).1 (prodsF n ars p).2.1 (prodsF n ars p).2.2) := by
  obtain ⟨i, hi, hz0, hz1, hz2⟩ := info_parts info_int
  obtain ⟨W, hW⟩ : ∃ W, w.alloc (.cells #[.int .i64 n, .slice A l c] 30) = W := ⟨_, rfl⟩
  have bW : Below w.heap.size w W := by subst hW; exact (Below.refl _ _).alloc (Nat.le_refl _) _
  have k0 : Blk W w.heap.size 30 #[.int .i64 n, .slice A l c] := by subst hW; exact Blk.new w _ rfl _ _
  have hWs : W.heap.size = w.heap.size + 1 := by subst hW; simp
  have HC := Lib.hid (check_any n ars A l c W hl hx ((hr.below bW (Nat.le_refl _)).more bW.size) hm)
  have f0 := k0.cell 0
  have f1 := k0.cell 1
  simp at f0 f1
  unfold maxLen at hm hmp
  by_cases h1 : checkF n ars ≠ 0
  · have e : prodsF n ars p = ([], [], checkF n ars) := by unfold prodsF; rw [if_pos h1]
    rw [e]
    obtain ⟨k, hk⟩ : ∃ k, checkF n ars = k := ⟨_, rfl⟩
    rw [hk] at HC h1 ⊢
    have q : (k != 0) = true := by simpa using h1
    clear e hk h1 hx hr hxp hrp
    go_enter Tryd.func23, Tryd.ntmps23
    go_wp2_with fail
    try rw [hW]
    refine HC.out.mono ?_
    rintro e w2 ⟨rfl, hb2⟩
    clear hW f0 f1
    go_wp2_with fail
    go_ret3
    exact two_none (bW.trans (hb2.mono (by omega)))
  · have h1 : checkF n ars = 0 := Decidable.not_not.1 h1
    rw [h1] at HC
    by_cases h2 : 96 < p.length
    · have e : prodsF n ars p = ([], [], 2) := by unfold prodsF; rw [if_neg (by simpa using h1), if_pos h2]
      rw [e]
      have q : decide ((m : Int) > 96) = true := decide_eq_true (by omega)
      clear e h1 hx hr hxp hrp
      go_enter Tryd.func23, Tryd.ntmps23
      go_wp2_with fail
      try rw [hW]
      refine HC.out.mono ?_
      rintro e w2 ⟨rfl, hb2⟩
      clear hW f0 f1
      go_wp2_with fail
      go_ret3
      exact two_none (bW.trans (hb2.mono (by omega)))
    · have e : prodsF n ars p = if allIn ars.length p = true then (p.map (giveS ars), p.map (takeS ars), 0) else ([], [], 120) := by unfold prodsF; rw [if_neg (by simpa using h1), if_neg h2]
      have q : decide ((m : Int) > 96) = false := decide_eq_false (by omega)
      have HE := Lib.hid e
      have HX := Lib.hid hx
      have HXP := Lib.hid hxp
      have HL := Lib.hid hl
      have HP := Lib.hid hp
      have HR := Lib.hid hr
      have HRP := Lib.hid hrp
      have K0 := Lib.hid k0
      have hm96 : m ≤ 96 := by omega
      clear e h1 hx hr hxp hrp hl hp h2 k0
      go_enter Tryd.func23, Tryd.ntmps23
      go_wp2_with fail
      try rw [hW]
      refine HC.out.mono ?_
      rintro e w2 ⟨rfl, hb2⟩
      have b2 := bW.trans (hb2.mono (by omega))
      have k2 := K0.out.lowr hb2 (by omega)
      have hs2 := hb2.size
      have oa : (w2.alloc (.cells #[] 3)).ownsRow (w.heap.size + 1) 3 1 (.slice (some ⟨w2.heap.size, 0, none⟩) 0 0) 0 (cellsI []) := World.ownsRow_lit w2 #[] 0 (by omega) (by unfold maxLen; omega) rfl
      have ob : ((w2.alloc (.cells #[] 3)).alloc (.cells #[] 3)).ownsRow (w.heap.size + 1) 3 1 (.slice (some ⟨w2.heap.size + 1, 0, none⟩) 0 0) 0 (cellsI []) := by
        have := World.ownsRow_lit (base := w.heap.size + 1) (e := 3) (size := 1) (w2.alloc (.cells #[] 3)) #[] 0 (by simp; omega) (by unfold maxLen; omega) rfl
        simpa [cellsI] using this
      have oa := oa.alloc (.cells #[] 3)
      have k2 := (k2.alloc (.cells #[] 3)).alloc (.cells #[] 3)
      have b2 := (b2.alloc b2.size (.cells #[] 3)).alloc (by have := b2.size; simp; omega) (.cells #[] 3)
      clear hb2 hW f0 f1 HC
      go_wp2_with fail
      have S0 : PrSt w ((w2.alloc (.cells #[] 3)).alloc (.cells #[] 3)) n A l c 0 (.slice (some ⟨w2.heap.size, 0, none⟩) 0 0) (.slice (some ⟨w2.heap.size + 1, 0, none⟩) 0 0) [] [] :=
        ⟨k2, oa, ob, fun k h h' => by simp [Value.ownBlock] at h h'; omega, b2⟩
      clear k2 oa ob b2 bW K0
      go_loopw [8, 9, 26] (fun va vb i wr => ∃ k : Nat, k ≤ m ∧ i = .int .i64 k ∧ PrSt w wr n A l c k va vb ((p.take k).map (giveS ars)) ((p.take k).map (takeS ars)) ∧ Hid (allIn ars.length (p.take k) = true)) (fun _ _ i _ => m - (intOf i).toNat)
      case atStart => exact ⟨0, Nat.zero_le _, rfl, by simpa using S0, by unfold Hid; simp [allIn]⟩
      case round =>
        clear S0 hs2
        obtain ⟨k, hk, rfl, S, HI⟩ := hrel
        have bw := S.bw
        by_cases hlt : k < m
        · obtain ⟨bp, op, x, t, rfl, hbp, hxf, c0, c1, hd, hxx⟩ := (HRP.out.below bw (Nat.le_refl _)).sti HXP.out (k := k) (by rw [HP.out]; exact hlt)
          have hbwr : bp < wr.heap.size := by have := bw.size; omega
          have S3 := S.alloc (.cells #[.int .i64 x, .bool t] 84)
          have k3 := Blk.new wr _ rfl 84 #[.int .i64 x, .bool t]
          have f0 := k3.cell 0
          have f1 := k3.cell 1
          have n1 := S3.kn.cell 1
          simp at f0 f1 n1
          have hnsz := S.kn.lt
          by_cases hx0 : x < 0
          · have q1 : decide (x < 0) = true := decide_eq_true hx0
            have HN := Lib.hid (show prodsF n ars p = ([], [], 120) by rw [HE.out, allIn_not (L := ars.length) hxx.out (by unfold inS; exact decide_eq_false (by show ¬ (0 ≤ x ∧ _); omega))]; rfl)
            have HB := Lib.hid S3.bw
            rw [HN.out]
            clear S S3 k3 hd hxx bw HE
            go_wp2_with fail
            go_ret3
            exact two_none HB.out
          · by_cases hxl : x < (l : Int)
            · obtain ⟨j, rfl⟩ : ∃ j : Nat, x = (j : Int) := ⟨x.toNat, by omega⟩
              obtain ⟨ba, oa, a, rfl, hba, hfa, c4, c5, c6, c7, c8, -, haa⟩ := (HR.out.below S3.bw (Nat.le_refl _)).arc HX.out (k := j) (by rw [HL.out]; omega)
              have q1 : decide ((j : Int) < 0) = false := decide_eq_false (by omega)
              have q2 : decide ((j : Int) ≥ (l : Int)) = false := decide_eq_false (by omega)
              have hin : inS ars.length ((j : Int), t) = true := by unfold inS; rw [HL.out]; exact decide_eq_true (by show 0 ≤ (j : Int) ∧ _; omega)
              have HI2 : Hid (allIn ars.length (p.take (k + 1)) = true) := by unfold Hid; rw [allIn_take hxx.out, HI.out, hin]; rfl
              have ha := arc_at haa.out t
              have HG := Lib.hid (show (p.take (k + 1)).map (giveS ars) = (p.take k).map (giveS ars) ++ [if t = true then a.k else a.g] by rw [map_take_succ _ hxx.out]; unfold giveS; rw [ha])
              have HT := Lib.hid (show (p.take (k + 1)).map (takeS ars) = (p.take k).map (takeS ars) ++ [if t = true then a.g else a.k] by rw [map_take_succ _ hxx.out]; unfold takeS; rw [ha])
              obtain ⟨la, hla⟩ : ∃ la, (p.take k).map (giveS ars) = la := ⟨_, rfl⟩
              obtain ⟨lb, hlb⟩ : ∃ lb, (p.take k).map (takeS ars) = lb := ⟨_, rfl⟩
              rw [hla] at HG S3
              rw [hlb] at HT S3
              have i1 : (0 : Int) ≤ (j : Int) := by omega
              have i2 : (j : Int) < (l : Int) := by omega
              have K3 := Lib.hid k3
              clear hla hlb ha haa hin hd hxx S bw hx0 hxl hfa hxf k3
              go_upto_region 12 with fail
              go_quiet (fail)
              generalize hW4 : World.drewN _ _ = W4
              have S4 : PrSt w W4 n (some ⟨ba, oa, none⟩) l c k u8 u9 la lb := by rw [← hW4]; exact S3.drawn _
              have g1 : W4.cell? ⟨wr.heap.size, 1, none⟩ = some (.bool t) := by rw [← hW4]; exact K3.out.cell 1
              have hsz4 := S4.bw.size
              clear S3 f0 f1 n1 c4 c5 c6 c7 c8 c0 c1 hW4
              have ALA := Lib.hid (S4.oa)
              cases t with
              | true =>
                go_wp2_with (at_builtin; refine wpList_append_rd _ rfl (.tmp 59) (.tmp 61) 27 rfl (w.heap.size + 1) 3 i (.int .i64 0) 1 8 Tryd.underlying27 hi hz0 hz1 hz2 rfl (by decide) _ k (cellsI la) rfl (ALA.out.alloc _) (W4.heap.size + 1) (some ⟨W4.heap.size, 0, none⟩) 1 1 (cellsI [a.k]) rfl rfl (rd_alloc W4 _ rfl 3 (cellsI [a.k])) (cellsI_one _) (by unfold maxLen; omega) (by omega) (by simp; omega) ?_)
                intro v5 w5 o5 g5 hat
                have h5 := step_two S4 g5 hat
                have KN5 := Lib.hid h5.1
                have OB5 := Lib.hid h5.2.1
                have NE5 := Lib.hid h5.2.2.1
                have b5 := h5.2.2.2
                have hs5 := b5.size
                have hv5 : ∀ j, v5.ownBlock = some j → w.heap.size + 1 ≤ j ∧ j < w5.heap.size := o5.lt
                have O5 := Lib.hid o5
                have HV5 := Lib.hid hv5
                clear hat h5 o5 g5 hv5 S4
                go_wp2_with (at_builtin; refine wpList_append_rd _ rfl (.tmp 63) (.tmp 65) 27 rfl (w.heap.size + 1) 3 i (.int .i64 0) 1 8 Tryd.underlying27 hi hz0 hz1 hz2 rfl (by decide) _ k (cellsI lb) rfl (OB5.out.alloc _) (w5.heap.size + 1) (some ⟨w5.heap.size, 0, none⟩) 1 1 (cellsI [a.g]) rfl rfl (rd_alloc w5 _ rfl 3 (cellsI [a.g])) (cellsI_one _) (by unfold maxLen; omega) (by omega) (by simp; omega) ?_)
                intro v6 w6 o6 g6 hat
                have S6 := step_two2 KN5.out O5.out OB5.out NE5.out b5 o6 g6 hat
                rw [show cellsI la ++ cellsI [a.k] = cellsI (la ++ [a.k]) by simp [cellsI], show cellsI lb ++ cellsI [a.g] = cellsI (lb ++ [a.g]) by simp [cellsI]] at S6
                clear hat o6 g6 KN5 O5 OB5 NE5 b5 hs5 HV5
                go_wp2_with fail
                go_roundw
                case rel => exact ⟨k + 1, by omega, by go_num, by rw [HG.out, HT.out]; exact ⟨S6.1, S6.2.1, S6.2.2.1, S6.2.2.2.1, S6.2.2.2.2⟩, HI2⟩
                case measure => simp [intOf]; omega
              | false =>
                go_wp2_with (at_builtin; refine wpList_append_rd _ rfl (.tmp 59) (.tmp 61) 27 rfl (w.heap.size + 1) 3 i (.int .i64 0) 1 8 Tryd.underlying27 hi hz0 hz1 hz2 rfl (by decide) _ k (cellsI la) rfl (ALA.out.alloc _) (W4.heap.size + 1) (some ⟨W4.heap.size, 0, none⟩) 1 1 (cellsI [a.g]) rfl rfl (rd_alloc W4 _ rfl 3 (cellsI [a.g])) (cellsI_one _) (by unfold maxLen; omega) (by omega) (by simp; omega) ?_)
                intro v5 w5 o5 g5 hat
                have h5 := step_two S4 g5 hat
                have KN5 := Lib.hid h5.1
                have OB5 := Lib.hid h5.2.1
                have NE5 := Lib.hid h5.2.2.1
                have b5 := h5.2.2.2
                have hs5 := b5.size
                have hv5 : ∀ j, v5.ownBlock = some j → w.heap.size + 1 ≤ j ∧ j < w5.heap.size := o5.lt
                have O5 := Lib.hid o5
                have HV5 := Lib.hid hv5
                clear hat h5 o5 g5 hv5 S4
                go_wp2_with (at_builtin; refine wpList_append_rd _ rfl (.tmp 63) (.tmp 65) 27 rfl (w.heap.size + 1) 3 i (.int .i64 0) 1 8 Tryd.underlying27 hi hz0 hz1 hz2 rfl (by decide) _ k (cellsI lb) rfl (OB5.out.alloc _) (w5.heap.size + 1) (some ⟨w5.heap.size, 0, none⟩) 1 1 (cellsI [a.k]) rfl rfl (rd_alloc w5 _ rfl 3 (cellsI [a.k])) (cellsI_one _) (by unfold maxLen; omega) (by omega) (by simp; omega) ?_)
                intro v6 w6 o6 g6 hat
                have S6 := step_two2 KN5.out O5.out OB5.out NE5.out b5 o6 g6 hat
                rw [show cellsI la ++ cellsI [a.g] = cellsI (la ++ [a.g]) by simp [cellsI], show cellsI lb ++ cellsI [a.k] = cellsI (lb ++ [a.k]) by simp [cellsI]] at S6
                clear hat o6 g6 KN5 O5 OB5 NE5 b5 hs5 HV5
                go_wp2_with fail
                go_roundw
                case rel => exact ⟨k + 1, by omega, by go_num, by rw [HG.out, HT.out]; exact ⟨S6.1, S6.2.1, S6.2.2.1, S6.2.2.2.1, S6.2.2.2.2⟩, HI2⟩
                case measure => simp [intOf]; omega
            · have q1 : decide (x < 0) = false := decide_eq_false hx0
              have q2 : decide (x ≥ (l : Int)) = true := decide_eq_true (by omega)
              have HN := Lib.hid (show prodsF n ars p = ([], [], 120) by rw [HE.out, allIn_not (L := ars.length) hxx.out (by unfold inS; rw [HL.out]; exact decide_eq_false (by show ¬ (_ ∧ x < _); omega))]; rfl)
              have HB := Lib.hid S3.bw
              rw [HN.out]
              clear S S3 k3 hd hxx bw HE
              go_wp2_with fail
              go_ret3
              exact two_none HB.out
        · have hkm : p.take k = p := List.take_of_length_le (by rw [HP.out]; omega)
          rw [hkm] at S HI
          have HN := Lib.hid (show prodsF n ars p = (p.map (giveS ars), p.map (takeS ars), 0) by rw [HE.out, if_pos HI.out])
          obtain rfl : k = m := by omega
          obtain ⟨Aa, ca, rfl, -⟩ := own_slice S.oa
          obtain ⟨Ab, cb, rfl, -⟩ := own_slice S.ob
          have hS := Lib.hid S
          have HL1 := Lib.hid (show (p.map (giveS ars)).length = k by rw [List.length_map, HP.out])
          have HL2 := Lib.hid (show (p.map (takeS ars)).length = k by rw [List.length_map, HP.out])
          clear S bw hkm HE HI
          go_wp2_with fail
          go_ret3
          rw [HN.out]
          exact two_of HL1.out HL2.out (World.ownsRow.mono hS.out.oa (by omega)) (World.ownsRow.mono hS.out.ob (by omega)) hS.out.ne hS.out.bw
end Go.Proofs.YtpmlljbebdidgaaDoor
