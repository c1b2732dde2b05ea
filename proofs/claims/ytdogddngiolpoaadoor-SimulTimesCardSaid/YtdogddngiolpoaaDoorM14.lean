/-
  Sg, Sh, Si, Sj, Sk, Sl, Sv: texts pasted together.
-/
import Derived.Test.YtdogddngiolpoaaDoorM13
import Derived.Deep.RegionHeld3
import Derived.Deep.OwnRows
import Derived.Deep.Onto
/-
  The document's state: Has, Short, May.
-/
namespace Go.Proofs.YtdogddngiolpoaaDoor
open Go.RowKit

/-- the document's state in memory -/
structure RSt (w : World) (n : Nat) (ars : List ArcV) (F : Nat → Int) (A : Option Addr) (g : Nat) : Prop where
  arcs : Rd w w.heap.size A (cellsA ars)
  fir : ∀ j, j < n → w.cell? ⟨g, j, none⟩ = some (.int .i64 (F j))
  lt : g < w.heap.size
theorem RSt.below {w w' : World} {n : Nat} {ars : List ArcV} {F : Nat → Int} {A : Option Addr} {g : Nat} (h : RSt w n ars F A g) (hb : Below w.heap.size w w') : RSt w' n ars F A g :=
  ⟨(h.arcs.below hb (Nat.le_refl _)).more hb.size, fun j hj => (hb.cell (p := ⟨g, j, none⟩) h.lt).trans (h.fir j hj), by have := h.lt; have := hb.size; omega⟩
theorem arc_nat {n : Nat} {a : ArcV} (h : a.ok n) : ∃ (f t : Nat) (g k s : Int), a = ⟨f, t, g, k, s⟩ ∧ f < n ∧ t < n ∧ 1 ≤ g ∧ g ≤ 64 ∧ 1 ≤ k ∧ k ≤ 64 ∧ 0 ≤ s ∧ s ≤ 256 := by
  obtain ⟨f, t, g, k, s⟩ := a
  obtain ⟨h1, h2, h3, h4, h5⟩ := h
  simp only at h1 h2 h3 h4 h5
  exact ⟨f.toNat, t.toNat, g, k, s, by rw [Int.toNat_of_nonneg h1, Int.toNat_of_nonneg h3], by omega, by omega, h5⟩

end Go.Proofs.YtdogddngiolpoaaDoor
/-
  The document's state: Short, May.
-/
namespace Go.Proofs.YtdogddngiolpoaaDoor
open Go.RowKit


end Go.Proofs.YtdogddngiolpoaaDoor
/-
  The document's state: Fire.
-/
namespace Go.Proofs.YtdogddngiolpoaaDoor
open Go.RowKit

theorem own_firCell {w : World} {B n g c : Nat} {F : Nat → Int} (h : w.ownsRow B 3 1 (.slice (some ⟨g, 0, none⟩) n c) n (cellsI (rowF F n))) {j : Nat} (hj : j < n) : w.cell? ⟨g, j, none⟩ = some (.int .i64 (F j)) := by
  rw [h.cellAt j (by omega)]
  simp only [cellsI, List.getElem?_map, rowF_at F hj]
  rfl
theorem rst_of {w w' : World} {B n g c : Nat} {ars : List ArcV} {F : Nat → Int} {A : Option Addr} (hr : Rd w w.heap.size A (cellsA ars)) (hA : cellsA ars = [] ∨ blkOf A ≠ some g) (hO : Only (fun k => k = g) w w') (h : w'.ownsRow B 3 1 (.slice (some ⟨g, 0, none⟩) n c) n (cellsI (rowF F n))) : RSt w' n ars F A g :=
  ⟨(by
    rcases hA with hA | hA
    · exact .inl hA
    · exact (hr.only hO (Nat.le_refl _) (fun b hb he => hA (by rw [hb, he]))).more hO.size), fun j hj => own_firCell h hj, (h.lt g rfl).2⟩
theorem Only.below {X : Nat → Prop} {w w' w'' : World} (h : Only X w w') (hb : Below w'.heap.size w' w'') : Only X w w'' := h.trans ((belowOnly hb).mono (fun _ hk hX => absurd hk (by omega)))

end Go.Proofs.YtdogddngiolpoaaDoor
/-
  balance.Holds.
-/
namespace Go.Proofs.YtdogddngiolpoaaDoor
open Go.RowKit

def repB (r : Int) : Bool := decide (1 ≤ r ∧ r ≤ 4096)
def repAt (rs : List Int) (v : Int) : Int := rs[v.toNat]?.getD 0
def evenB (rs : List Int) (a : ArcV) : Bool := decide (a.g * repAt rs a.f = a.k * repAt rs a.t)
/-- whether counts balance a net, and what is wrong with what is asked -/
def holdE (n : Int) (ars : List ArcV) (rs : List Int) : Int := if checkF n ars = 0 then (if (rs.length : Int) = n then 0 else 1) else checkF n ars
def holdB (n : Int) (ars : List ArcV) (rs : List Int) : Bool := decide (checkF n ars = 0 ∧ (rs.length : Int) = n) && (rs.all repB && ars.all (evenB rs))
theorem repAt_lt {rs : List Int} (h : rs.all repB = true) {f : Nat} (hf : f < rs.length) : 1 ≤ repAt rs f ∧ repAt rs f ≤ 4096 := by
  unfold repAt
  rw [Int.toNat_natCast, List.getElem?_eq_getElem hf]
  have := List.all_eq_true.1 h _ (List.getElem_mem hf)
  simpa [repB] using this
theorem rd_repAt {w : World} {B b off : Nat} {rs : List Int} (h : Rd w B (some ⟨b, off, none⟩) (cellsI rs)) {f : Nat} (hf : f < rs.length) : w.cell? ⟨b, off + f, none⟩ = some (.int .i64 (repAt rs f)) := by
  unfold repAt
  rw [Int.toNat_natCast, List.getElem?_eq_getElem hf]
  rcases h with h | ⟨b', off', hA, _, hc⟩
  · have := cellsI_length rs; rw [h] at this; simp at this; omega
  · injection hA with hA
    injection hA with h1 h2 _
    subst h1 h2
    exact hc f _ (by simp [cellsI, List.getElem?_map, List.getElem?_eq_getElem hf])

set_option maxRecDepth 100000 in
set_option maxHeartbeats 4000000 in
theorem holds_any (n : Int) (ars : List ArcV) (A : Option Addr) (l c : Nat) (rs : List Int) (R : Option Addr) (m cr : Nat) (w : World) (hl : ars.length = l) (hx : ∀ a ∈ ars, a.fit) (hr : Rd w w.heap.size A (cellsA ars)) (hm : l ≤ maxLen)
    (hrs : rs.length = m) (hfr : AllFit rs) (hrr : Rd w w.heap.size R (cellsI rs)) (hmm : m ≤ maxLen) :
    Calls Tryd.prog 13 #[.agg #[.int .i64 n, .slice A l c], .slice R m cr] w fun e w' => e = .returned (.tuple #[.bool (holdB n ars rs), .int .i64 (holdE n ars rs)]) ∧ Below w.heap.size w w' := by
  subst hl hrs
  unfold maxLen at hmm
  have b1 := (Below.refl w.heap.size w).alloc (Nat.le_refl _) (.cells #[.int .i64 n, .slice A ars.length c] 24)
  have k1 := Blk.new w _ rfl 24 #[.int .i64 n, .slice A ars.length c]
  obtain ⟨q, hq⟩ : ∃ q, checkF n ars = q := ⟨_, rfl⟩
  obtain ⟨hB, hhB⟩ : ∃ x, holdB n ars rs = x := ⟨_, rfl⟩
  obtain ⟨hE, hhE⟩ : ∃ x, holdE n ars rs = x := ⟨_, rfl⟩
  rw [hhB, hhE]
  have Hq := Lib.hid hq
  have HB := Lib.hid hhB
  have HE := Lib.hid hhE
  clear hq hhB hhE
  go_enter Tryd.func13, Tryd.ntmps13
  go_wp2_with fail
  refine (check_any n ars A ars.length c _ rfl hx ((hr.below b1 (Nat.le_refl _)).more b1.size) hm).mono ?_; rintro e w2 ⟨rfl, hb2⟩
  rw [Hq.out]
  have b2 := b1.trans (hb2.mono b1.size)
  have k2 := k1.below hb2 (by simp)
  have s0 := k2.cell 0
  have s1 := k2.cell 1
  simp at s0 s1
  have hlw := k2.lt
  clear b1 k1 hb2
  by_cases hq0 : q = 0
  · subst hq0
    obtain ⟨nn, rfl, hN⟩ := netOk_of Hq.out
    have n32 := hN.n32
    have l96 := hN.l96
    by_cases hln : rs.length = nn
    · subst hln
      have e1 : hE = 0 := by rw [← HE.out]; unfold holdE; rw [if_pos Hq.out, if_pos rfl]
      have e2 : hB = (rs.all repB && ars.all (evenB rs)) := by rw [← HB.out]; unfold holdB; rw [decide_eq_true (p := checkF (rs.length : Int) ars = 0 ∧ (rs.length : Int) = (rs.length : Int)) ⟨Hq.out, rfl⟩, Bool.true_and]
      subst e1
      have E2 := Lib.hid e2
      have HN := Lib.hid hN
      clear e2 hN HE
      have hqq : ((rs.length : Int) != (rs.length : Int)) = false := by simp
      go_wp2_with fail
      go_loopw [23] (fun i wr => ∃ k : Nat, k ≤ rs.length ∧ i = .int .i64 k ∧ wr = w2 ∧ Hid (rs.all repB = (rs.drop k).all repB)) (fun i _ => rs.length - (intOf i).toNat)
      case atStart => exact ⟨0, by omega, rfl, rfl, rfl⟩
      case round =>
        obtain ⟨k, hk, rfl, rfl, He⟩ := hrel
        by_cases hlt : k < rs.length
        · obtain ⟨b, off, x, rfl, hb, hxf, hc, hd, hxx⟩ := (hrr.below b2 (Nat.le_refl _)).at_ hfr hlt
          by_cases h1 : x < 1
          · have e3 : hB = false := by rw [E2.out, He.out, hd.out]; simp [repB]; omega
            subst e3
            go_wp2
            go_ret2
            exact ⟨rfl, b2⟩
          · by_cases h2 : 4096 < x
            · have e3 : hB = false := by rw [E2.out, He.out, hd.out]; simp [repB]; omega
              subst e3
              go_wp2
              go_ret2
              exact ⟨rfl, b2⟩
            · have He' : Hid (rs.all repB = (rs.drop (k + 1)).all repB) := by
                unfold Hid; rw [He.out, hd.out, List.all_cons, show repB x = true from decide_eq_true ⟨by omega, by omega⟩, Bool.true_and]
              clear He hd hxx
              go_wp2
              go_roundw
              case rel => exact ⟨k + 1, by omega, by go_num, trivial, He'⟩
              case measure => simp [intOf]; omega
        · have hall : rs.all repB = true := by rw [He.out, List.drop_eq_nil_of_le (by omega)]; rfl
          have e3 : hB = ars.all (evenB rs) := by rw [E2.out, hall, Bool.true_and]
          have E3 := Lib.hid e3
          have Hall := Lib.hid hall
          clear e3 E2 hall He
          go_wp2
          clear hlt hk
          go_loopw [37] (fun i wx => ∃ j : Nat, j ≤ ars.length ∧ i = .int .i64 j ∧ Below w.heap.size w wx ∧ Hid (ars.all (evenB rs) = (ars.drop j).all (evenB rs))) (fun i _ => ars.length - (intOf i).toNat)
          case atStart => exact ⟨0, by omega, rfl, b2, rfl⟩
          case round =>
            clear b2 k2 s0 s1
            obtain ⟨j, hj, rfl, hb, He⟩ := hrel
            by_cases hlt : j < ars.length
            · obtain ⟨b, off, a, rfl, hbl, -, c0, c1, c2, c3, c4, hd, hx'⟩ := (hr.below hb (Nat.le_refl _)).arc hx hlt
              have hok := HN.out.ok a (List.mem_of_getElem? hx'.out)
              obtain ⟨f, t, ag, ak, az, rfl, hf, ht, hg1, hg2, hk1, hk2, hs1, hs2⟩ := arc_nat hok
              have F1 := repAt_lt Hall.out hf
              have F2 := repAt_lt Hall.out ht
              obtain ⟨b', off', x0, rfl, hb', _, _, _, _⟩ := (hrr.below hb (Nat.le_refl _)).at_ hfr hf
              obtain ⟨W1, hW1⟩ : ∃ W1, wr.alloc (.cells #[.int .i64 f, .int .i64 t, .int .i64 ag, .int .i64 ak, .int .i64 az] 49) = W1 := ⟨_, rfl⟩
              have b3 : Below w.heap.size w W1 := hW1 ▸ hb.alloc hb.size _
              have a2 : Blk W1 wr.heap.size 49 #[.int .i64 f, .int .i64 t, .int .i64 ag, .int .i64 ak, .int .i64 az] := hW1 ▸ Blk.new wr _ rfl _ _
              have q1 := rd_repAt (hrr.below b3 (Nat.le_refl _)) hf
              have q2 := rd_repAt (hrr.below b3 (Nat.le_refl _)) ht
              have hev : Hid (evenB rs ⟨f, t, ag, ak, az⟩ = decide (ag * repAt rs f = ak * repAt rs t)) := rfl
              generalize repAt rs f = x at *
              generalize repAt rs t = y at *
              have m1 : 0 ≤ ag * x := Int.mul_nonneg (by omega) (by omega)
              have m2 : ag * x ≤ 64 * 4096 := Int.mul_le_mul hg2 (by omega) (by omega) (by omega)
              have m3 : 0 ≤ ak * y := Int.mul_nonneg (by omega) (by omega)
              have m4 : ak * y ≤ 64 * 4096 := Int.mul_le_mul hk2 (by omega) (by omega) (by omega)
              have v1 : IntKind.i64.wrap (ag * x) = ag * x := IntWalk.i64_in _ (by omega)
              have v2 : IntKind.i64.wrap (ak * y) = ak * y := IntWalk.i64_in _ (by omega)
              have g1 : (0 : Int) ≤ (f : Int) := by omega
              have g2 : (f : Int) < (rs.length : Int) := by omega
              have g3 : (0 : Int) ≤ (t : Int) := by omega
              have g4 : (t : Int) < (rs.length : Int) := by omega
              have e0 := a2.cell 0
              have e1 := a2.cell 1
              have e2 := a2.cell 2
              have e3 := a2.cell 3
              simp at e0 e1 e2 e3 c0 c1 c2 c3 c4
              by_cases hxy : ag * x = ak * y
              · have z1 : (ag * x != ak * y) = false := by simp [hxy]
                have He' : Hid (ars.all (evenB rs) = (ars.drop (j + 1)).all (evenB rs)) := by
                  unfold Hid; rw [He.out, hd.out, List.all_cons, hev.out, decide_eq_true hxy, Bool.true_and]
                clear He hd hev hxy hx' hok
                go_upto_region 15 with fail
                try rw [hW1]
                go_quiet (fail)
                go_wp2
                go_roundw
                case rel => exact ⟨j + 1, by omega, by go_num, Below.drewN b3 _, He'⟩
                case measure => simp [intOf]; omega
              · have z1 : (ag * x != ak * y) = true := by simp [hxy]
                have e5 : hB = false := by rw [E3.out, He.out, hd.out, List.all_cons, hev.out, decide_eq_false hxy, Bool.false_and]
                subst e5
                clear He hd hev hxy hx' hok
                go_upto_region 15 with fail
                try rw [hW1]
                go_quiet (fail)
                go_wp2
                go_ret2
                exact ⟨rfl, Below.drewN b3 _⟩
            · have e5 : hB = true := by rw [E3.out, He.out, List.drop_eq_nil_of_le (by omega)]; rfl
              subst e5
              go_wp2
              go_ret2
              exact ⟨rfl, hb⟩
    · have e1 : hE = 1 := by rw [← HE.out]; unfold holdE; rw [if_pos Hq.out, if_neg (by omega)]
      have e2 : hB = false := by rw [← HB.out]; unfold holdB; rw [decide_eq_false (p := checkF (nn : Int) ars = 0 ∧ (rs.length : Int) = (nn : Int)) (by omega), Bool.false_and]
      subst e1 e2
      have hqq : ((rs.length : Int) != (nn : Int)) = true := by simp; omega
      go_wp2
      go_ret2
      exact ⟨rfl, b2⟩
  · have e1 : hE = q := by rw [← HE.out]; unfold holdE; rw [Hq.out, if_neg hq0]
    have e2 : hB = false := by rw [← HB.out]; unfold holdB; rw [decide_eq_false (p := checkF n ars = 0 ∧ (rs.length : Int) = n) (by rw [Hq.out]; exact fun h => hq0 h.1), Bool.false_and]
    subst e1 e2
    have hqq : (hE != 0) = true := by simpa using hq0
    go_wp2
    go_ret2
    exact ⟨rfl, b2⟩
end Go.Proofs.YtdogddngiolpoaaDoor
/-
  pianolaref13.Holds.
-/
namespace Go.Proofs.YtdogddngiolpoaaDoor
open Go.RowKit


end Go.Proofs.YtdogddngiolpoaaDoor
/-
  The document's state at the start.
-/
namespace Go.Proofs.YtdogddngiolpoaaDoor
open Go.RowKit

theorem made_ints (n : Nat) : madeCells #[Value.int .i64 0] n = (cellsI (rowF (fun _ => 0) n)).toArray := by
  apply Array.ext'
  apply List.ext_getElem
  · simp [madeCells, cellsI, rowF]
  · intro j h1 h2; simp [madeCells, cellsI, rowF, Nat.mod_one]
theorem own_new_Sl (w : World) (b : Nat) (hb : b = w.heap.size) (e : TypeId) (cs : List Value) (n : Nat) (hn : cs.length = n) (hm : n ≤ maxLen) : (w.alloc (.cells cs.toArray e)).ownsRow b e 1 (.slice (some ⟨b, 0, none⟩) n n) n cs := by
  subst hb hn
  exact ⟨by simp, .inr ⟨w.heap.size, cs.length, cs.toArray, rfl, Nat.le_refl _, heap_alloc_new w _, Nat.le_refl _, hm, by simp, by simp⟩⟩

end Go.Proofs.YtdogddngiolpoaaDoor
/-
  What net.weave builds: two tables of rows, each row in a block of its own.
-/
namespace Go.Proofs.YtdogddngiolpoaaDoor
open Go.RowKit

/-- a table of tables, one place changed -/
def up2 {α : Type} (f : Bool → Nat → α) (s : Bool) (t : Nat) (v : α) : Bool → Nat → α := fun s' j => if s' = s ∧ j = t then v else f s' j
theorem up2_self {α : Type} (f : Bool → Nat → α) (s : Bool) (t : Nat) (v : α) : up2 f s t v s t = v := by simp [up2]
theorem up2_ne {α : Type} (f : Bool → Nat → α) (s : Bool) (t : Nat) (v : α) {s' : Bool} {j : Nat} (h : ¬ (s' = s ∧ j = t)) : up2 f s t v s' j = f s' j := by simp only [up2, if_neg h]
/-- T: what the tables hold; V: the rows' values; R: the rows' numbers; bs: blocks that stay as they are -/
structure Wv (w0 w : World) (B : Nat) (gt : Bool → Nat) (n : Nat) (va : Value) (ars : List ArcV) (bs : List (Nat × TypeId × Array Value)) (T V : Bool → Nat → Value) (R : Bool → Nat → List Nat) : Prop where
  bel : Below B w0 w
  arcs : w.ownsRow B 49 5 va ars.length (cellsA ars)
  tab : ∀ s, w.ownsRow B 26 1 (.slice (some ⟨gt s, 0, none⟩) n n) n ((List.range n).map (T s))
  row : ∀ s j, j < n → w.ownsRow B 3 1 (V s j) (R s j).length (cellsI (ints (R s j)))
  dis : ∀ s j s' j', j < n → j' < n → (s, j) ≠ (s', j') → ∀ b, (V s j).ownBlock = some b → (V s' j').ownBlock ≠ some b
  gtd : gt false ≠ gt true
  bys : ∀ p ∈ bs, Blk w p.1 p.2.1 p.2.2
  bty : ∀ p ∈ bs, p.2.1 ≠ 3 ∧ p.2.1 ≠ 26
theorem own_block {w : World} {base : Nat} {e : TypeId} {size n : Nat} {v : Value} {xs : List Value} (h : w.ownsRow base e size v n xs) {b : Nat} (hb : v.ownBlock = some b) : ∃ cs, Blk w b e cs := by
  rcases h.2 with ⟨rfl, _⟩ | ⟨g, cap, cur, rfl, _, hg, _⟩
  · cases hb
  · simp only [Value.ownBlock] at hb
    injection hb with hb
    subst hb
    exact ⟨cur, hg⟩
theorem blk_ty {w : World} {g : Nat} {e t : TypeId} {cs cs' : Array Value} (h : Blk w g e cs) (h' : Blk w g t cs') : e = t := by
  have := h.symm.trans h'
  injection this with this
  injection this
theorem Wv.below {w0 w w' : World} {B : Nat} {gt : Bool → Nat} {n : Nat} {va : Value} {ars : List ArcV} {bs : List (Nat × TypeId × Array Value)} {T V : Bool → Nat → Value} {R : Bool → Nat → List Nat}
    (h : Wv w0 w B gt n va ars bs T V R) (hb : Below w.heap.size w w') : Wv w0 w' B gt n va ars bs T V R :=
  have hB : B ≤ w.heap.size := by
    have := (h.tab false).lt (gt false) rfl
    omega
  ⟨⟨hb.os.trans h.bel.os, hb.tape.trans h.bel.tape, hb.output.trans h.bel.output, Nat.le_trans h.bel.size hb.size, fun k hk => (hb.block k (by omega)).trans (h.bel.block k hk)⟩,
   own_below h.arcs hb, fun s => own_below (h.tab s) hb, fun s j hj => own_below (h.row s j hj) hb, h.dis, h.gtd, fun p hp => (h.bys p hp).below hb (h.bys p hp).lt, h.bty⟩
/-- a row has grown -/
theorem Wv.append {w0 w w' : World} {B : Nat} {gt : Bool → Nat} {n : Nat} {va : Value} {ars : List ArcV} {bs : List (Nat × TypeId × Array Value)} {T V : Bool → Nat → Value} {R : Bool → Nat → List Nat}
    (h : Wv w0 w B gt n va ars bs T V R) (hB0 : B ≤ w0.heap.size) (s : Bool) (t : Nat) (ht : t < n) (v' : Value) (i : Nat) (hg : w.grownBy w' (V s t).ownBlock)
    (hv : v'.ownBlock = (V s t).ownBlock ∨ v'.ownBlock = some w.heap.size) (ho : w'.ownsRow B 3 1 v' ((R s t).length + 1) (cellsI (ints (R s t)) ++ [.int .i64 (i : Int)])) :
    Wv w0 w' B gt n va ars bs T (up2 V s t v') (up2 R s t (R s t ++ [i])) := by
  have hrow := h.row s t ht
  have far : ∀ {e : TypeId} {size m : Nat} {v : Value} {xs : List Value}, w.ownsRow B e size v m xs → e ≠ 3 → v.ownBlock = none ∨ v.ownBlock ≠ (V s t).ownBlock := by
    intro e size m v xs hx he
    cases hv : v.ownBlock with
    | none => exact .inl rfl
    | some b =>
      refine .inr fun hc => ?_
      obtain ⟨c1, k1⟩ := own_block hx hv
      obtain ⟨c2, k2⟩ := own_block hrow hc.symm
      exact he (blk_ty k1 k2)
  have hB : B ≤ w.heap.size := Nat.le_trans hB0 h.bel.size
  refine ⟨h.bel.grown hg hB fun k hk => own_ge hrow hk, h.arcs.kept hg (far h.arcs (by decide)), fun s' => (h.tab s').kept hg (far (h.tab s') (by decide)), fun s' j hj => ?_, fun s1 j1 s2 j2 h1 h2 hne b hb => ?_, h.gtd, fun p hp => ?_, h.bty⟩
  · by_cases he : s' = s ∧ j = t
    · obtain ⟨rfl, rfl⟩ := he
      rw [up2_self, up2_self]
      have e1 : cellsI (ints (R s' j ++ [i])) = cellsI (ints (R s' j)) ++ [.int .i64 (i : Int)] := by simp [cellsI, ints]
      rw [e1, List.length_append]
      exact ho
    · rw [up2_ne _ _ _ _ he, up2_ne _ _ _ _ he]
      refine (h.row s' j hj).kept hg ?_
      cases hv : (V s' j).ownBlock with
      | none => exact .inl rfl
      | some b => exact .inr fun hc => h.dis s' j s t hj ht (fun h => he ⟨congrArg Prod.fst h, congrArg Prod.snd h⟩) b hv hc.symm
  · by_cases e1 : s1 = s ∧ j1 = t
    · obtain ⟨rfl, rfl⟩ := e1
      rw [up2_self] at hb
      rw [up2_ne _ _ _ _ (fun hc => hne (by rw [hc.1, hc.2]))]
      rcases hv with hv | hv
      · exact h.dis s1 j1 s2 j2 h1 h2 hne b (hv ▸ hb)
      · intro hc
        have h3 := (h.row s2 j2 h2).lt b hc
        rw [hv] at hb
        injection hb with hb
        omega
    · rw [up2_ne _ _ _ _ e1] at hb
      by_cases e2 : s2 = s ∧ j2 = t
      · obtain ⟨rfl, rfl⟩ := e2
        rw [up2_self]
        rcases hv with hv | hv
        · rw [hv]; exact h.dis s1 j1 s2 j2 h1 h2 hne b hb
        · intro hc
          have h3 := (h.row s1 j1 h1).lt b hb
          rw [hv] at hc
          injection hc with hc
          omega
      · rw [up2_ne _ _ _ _ e2]; exact h.dis s1 j1 s2 j2 h1 h2 hne b hb
  · refine (h.bys p hp).grown hg fun hc => ?_
    obtain ⟨c2, k2⟩ := own_block hrow hc.symm
    exact (h.bty p hp).1 (blk_ty (h.bys p hp) k2)
theorem row_set {n t : Nat} (f : Nat → Value) (v : Value) : ((List.range n).map f).set t v = (List.range n).map fun j => if j = t then v else f j := by
  apply List.ext_getElem
  · simp
  · intro j h1 h2
    simp only [List.getElem_set, List.getElem_map, List.getElem_range]
    by_cases h : t = j
    · subst h; simp
    · rw [if_neg h, if_neg (fun hc => h hc.symm)]
/-- a place of a table has been set -/
theorem Wv.store {w0 w : World} {B : Nat} {gt : Bool → Nat} {n : Nat} {va : Value} {ars : List ArcV} {bs : List (Nat × TypeId × Array Value)} {T V : Bool → Nat → Value} {R : Bool → Nat → List Nat}
    (h : Wv w0 w B gt n va ars bs T V R) (s : Bool) (t : Nat) (v' : Value) : Wv w0 (w.setCell ⟨gt s, t, none⟩ v') B gt n va ars bs (up2 T s t v') V R := by
  have htab := h.tab s
  obtain ⟨c1, k1⟩ := own_block htab rfl
  have hg1 := htab.lt (gt s) rfl
  refine ⟨h.bel.setCell hg1.1 _, own_set h.arcs k1 (by decide) _ _, fun s' => ?_, fun s' j hj => own_set (h.row s' j hj) k1 (by decide) _ _, h.dis, h.gtd, fun p hp => (h.bys p hp).far (fun hc => ?_) _, h.bty⟩
  · by_cases he : s' = s
    · subst he
      have h2 := htab.stored t v'
      rw [row_set _ _] at h2
      have e2 : (fun j => if j = t then v' else T s' j) = up2 T s' t v' s' := by funext j; simp [up2]
      rw [e2] at h2
      exact h2.1
    · have e2 : up2 T s t v' s' = T s' := by funext j; exact up2_ne _ _ _ _ (fun hc => he hc.1)
      rw [e2]
      refine (h.tab s').kept (htab.stored t v').2 (.inr fun hc => ?_)
      simp only [Value.ownBlock] at hc
      injection hc with hc
      have := h.gtd
      cases s <;> cases s' <;> simp_all
  · have hb := h.bys p hp
    rw [hc] at hb
    exact (h.bty p hp).2 (blk_ty hb k1)
/-- one block more that stays -/
theorem Wv.by_ {w0 w : World} {B : Nat} {gt : Bool → Nat} {n : Nat} {va : Value} {ars : List ArcV} {bs bs' : List (Nat × TypeId × Array Value)} {T V : Bool → Nat → Value} {R : Bool → Nat → List Nat}
    (h : Wv w0 w B gt n va ars bs T V R) (h1 : ∀ p ∈ bs', Blk w p.1 p.2.1 p.2.2) (h2 : ∀ p ∈ bs', p.2.1 ≠ 3 ∧ p.2.1 ≠ 26) : Wv w0 w B gt n va ars bs' T V R :=
  ⟨h.bel, h.arcs, h.tab, h.row, h.dis, h.gtd, h1, h2⟩
theorem own_apart {w w' : World} {B : Nat} {e : TypeId} {size n b : Nat} {v : Value} {xs : List Value} {t : TypeId} {cs : Array Value} (h : w.ownsRow B e size v n xs) (hk : Blk w b t cs) (ho : Only (fun k => k = b) w w') (he : e ≠ t) : w'.ownsRow B e size v n xs := by
  refine own_only h ho fun b' hb hc => ?_
  obtain ⟨c1, k1⟩ := own_block h hb
  subst hc
  exact he (blk_ty k1 hk)
/-- a block of another kind has changed -/
theorem Wv.only {w0 w w' : World} {B b : Nat} {gt : Bool → Nat} {n : Nat} {va : Value} {ars : List ArcV} {bs : List (Nat × TypeId × Array Value)} {T V : Bool → Nat → Value} {R : Bool → Nat → List Nat} {t : TypeId} {cs : Array Value}
    (h : Wv w0 w B gt n va ars bs T V R) (hk : Blk w b t cs) (hb : B ≤ b) (ho : Only (fun k => k = b) w w') (h1 : 3 ≠ t) (h2 : 26 ≠ t) (h3 : 49 ≠ t) : Wv w0 w' B gt n va ars [] T V R := by
  have hlt := hk.lt
  exact ⟨⟨ho.os.trans h.bel.os, ho.tape.trans h.bel.tape, ho.output.trans h.bel.output, Nat.le_trans h.bel.size ho.size, fun k hk => (ho.block k (by omega) (by omega)).trans (h.bel.block k hk)⟩,
    own_apart h.arcs hk ho h3, fun s => own_apart (h.tab s) hk ho h2, fun s j hj => own_apart (h.row s j hj) hk ho h1, h.dis, h.gtd, (by intros; contradiction), (by intros; contradiction)⟩
theorem Wv.cons {w0 w : World} {B : Nat} {gt : Bool → Nat} {n : Nat} {va : Value} {ars : List ArcV} {bs : List (Nat × TypeId × Array Value)} {T V : Bool → Nat → Value} {R : Bool → Nat → List Nat}
    (h : Wv w0 w B gt n va ars bs T V R) {g : Nat} {t : TypeId} {cs : Array Value} (hk : Blk w g t cs) (h1 : t ≠ 3) (h2 : t ≠ 26) : Wv w0 w B gt n va ars ((g, t, cs) :: bs) T V R := by
  refine h.by_ (fun p hp => ?_) (fun p hp => ?_)
  · rcases List.mem_cons.1 hp with rfl | hp
    · exact hk
    · exact h.bys p hp
  · rcases List.mem_cons.1 hp with rfl | hp
    · exact ⟨h1, h2⟩
    · exact h.bty p hp
theorem Wv.tail {w0 w : World} {B : Nat} {gt : Bool → Nat} {n : Nat} {va : Value} {ars : List ArcV} {b : Nat × TypeId × Array Value} {bs : List (Nat × TypeId × Array Value)} {T V : Bool → Nat → Value} {R : Bool → Nat → List Nat}
    (h : Wv w0 w B gt n va ars (b :: bs) T V R) : Wv w0 w B gt n va ars bs T V R :=
  h.by_ (fun p hp => h.bys p (List.mem_cons_of_mem _ hp)) (fun p hp => h.bty p (List.mem_cons_of_mem _ hp))
end Go.Proofs.YtdogddngiolpoaaDoor
